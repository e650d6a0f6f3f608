/-.-/
import Derived.Test.YtcnjjchlebmfiaaGreatDoorP07
import Derived.Test.YtcnjjchlebmfiaaGreatDoorP08
import Derived.RangeFuncCalls
import Derived.RangeFuncBox
import Derived.Lib.ConvBytes
set_option linter.all false
set_option maxRecDepth 100000
set_option maxHeartbeats 16000000
namespace Go.Proofs.YtcnjjchlebmfiaaGreatDoor
section
open Go.Proofs.Tryz Go.RowKit Go.Shelf
attribute [local go_sem] Oper.semAt_some
def yA(s:ByteArray):List Int:=s.data.toList.map λc=>(c.toNat:Int)
theorem dB(s:ByteArray):(yA s).length=s.size:=by simp[yA]
theorem Ci(s:ByteArray):∀x∈yA s,0≤x∧x≤255:=by
 intro x hx;obtain⟨c,_,rfl⟩:=List.mem_map.1 hx;have:=c.toNat_lt;omega
def SS(n₀:Nat)(w:World)(p:Option Addr)(ss:List ByteArray):Prop:=
 0<ss.length→∃b o,p=some ⟨b,o,none⟩∧b<n₀∧∀j,(h:j<ss.length)→w.cell? ⟨b,o+j,none⟩=some (.string ss[j])
theorem SS.below{n₀:Nat}{w w':World}{p:Option Addr}{ss:List ByteArray}(h:SS n₀ w p ss)(hb:Below n₀ w w'):SS n₀ w' p ss:=λh0=>by
 obtain⟨b,o,h1,h2,h3⟩:=h h0;exact⟨b,o,h1,h2,λj hj=>(hb.cell (p:=⟨b,o+j,none⟩) h2).trans (h3 j hj)⟩
def NW(g B:Nat)(W W':World):Prop:=∀b,b<g∨b=B→W'.heap[b]?=W.heap[b]?
theorem NW.refl(g B:Nat)(W:World):NW g B W W:=λ_ _=>rfl
theorem NW.trans{g B:Nat}{X Y Z:World}(h:NW g B X Y)(k:NW g B Y Z):NW g B X Z:=λb hb=>(k b hb).trans (h b hb)
theorem NW.putObj{g B:Nat}{w:World}(hg:g≤w.heap.size)(hB:B<w.heap.size)(W:World)(l:Nat)(o o':Obj)(hl:w.heap.size≤l)(_:W.heap[l]?=some o)(_:o.isCells=false)(_:o.isWalk=false):NW g B W (W.putObj l o'):=
 λb hb=>World.putObj_heap_other (λe=>by omega)
def eG(n k:Nat):List Nat:=((List.range n).drop k).reverse
theorem nS(n:Nat):eG n n=[]:=by simp[eG]
theorem vG(n k:Nat)(h:k<n):eG n k=eG n (k+1)++[k]:=by
 unfold eG;rw[List.drop_eq_getElem_cons (by simpa using h)];simp
theorem kJ(n k:Nat):(eG n k).length=n-k:=by simp[eG]
abbrev Ix(n:Nat):={i:Nat // i<n}
def oK(n:Nat):Nat→List (Ix n)
 | 0=>[]
 | k+1=>oK n k++(if h:n-1-k<n then[⟨n-1-k,h⟩]else[])
theorem xg(n:Nat):∀k,k≤n→(oK n k).length=k
 | 0,_=>rfl
 | k+1,h=>by
   unfold oK;rw[dif_pos (by omega),List.length_append,xg n k (by omega)];rfl
theorem yB(n:Nat):∀k,k≤n→(oK n k).map (λi:Ix n=>i.1)=eG n (n-k)
 | 0,_=>by simp[oK,nS]
 | k+1,h=>by
   unfold oK;rw[dif_pos (by omega),List.map_append,yB n k (by omega),vG n (n-(k+1)) (by omega),show n-(k+1)+1=n-k from by omega];simp
   omega
abbrev encS(ss:List ByteArray)(i:Ix ss.length):Array Value:= #[.int .i64 (i.1:Nat),.string (ss[i.1]'i.2)]
theorem X3(F:Fence)(n:Nat)(hF:F.fn 256)(hro:F.round=none)(hn:1≤n)(l Bs n₀:Nat)(p:Option Addr)(cap:Nat)(ss:List ByteArray)(hreach:ss.length≤1000000)(J Jx:List (Ix ss.length)→World→Prop)
 (hY:∀pre x W,J pre W→pre.length<ss.length→YieldAt F (n-1) prog l (encS ss x) W λe W'=>
   (e=.returned (.bool true)∧J (pre++[x]) W'∧NW n₀ Bs W W')∨(e=.returned (.bool false)∧Jx (pre++[x]) W'))
 (W:World)(hBs:W.cell? (Bs,0)=some (.slice p ss.length cap))(hS:SS n₀ W p ss)(h0:J [] W) :
 CallsIn F n prog 256 #[.func (.yield l) #[] #[],Bs] W λe W'=>(∃v,e=.returned v)∧
  ((∃ys,ys=oK ss.length ss.length∧J ys W')∨(∃pre,True∧Jx pre W')):=by
 refine callsIn_of_wp func256 rfl hF ?_ hro;simp only[ntmps256,List.size_toArray,List.length_cons,List.length_nil,Nat.reduceAdd,Nat.reduceSub,Array.replicate_succ,Array.replicate_zero,List.push_toArray,List.append_toArray,List.nil_append,List.cons_append]
 have HS:=xh hS;clear hS
 gi_wp2
 gi_loopw [3] (λi wr=>∃k:Nat,k≤ss.length∧i=.int .i64 ((ss.length:Int)-1-k)∧J (oK ss.length k) wr∧NW n₀ Bs W wr)
  (λi _=>(intOf i+1).toNat)
 case atStart=>exact⟨0,Nat.zero_le _,by simp,h0,NW.refl _ _ _⟩
 case round=>
  obtain⟨k,hk,rfl,hJs,hnx⟩:=hrel;by_cases hlt:k<ss.length
  ·obtain⟨b,o,rfl,hb,hc⟩:=HS.o (by omega)
   have ajJ:=(World.cell?_of_block (a:=⟨Bs,0,none⟩) (hnx Bs (.inr rfl))).trans hBs;obtain⟨i,hi⟩:∃i:Nat,i=ss.length-1-k:=⟨_,rfl⟩;have hil:i<ss.length:=by omega
   have hcx:=(World.cell?_of_block (a:=⟨b,o+i,none⟩) (hnx b (.inl hb))).trans (hc i hil);obtain⟨fn,tmps,assign,body,hy,hR⟩:=hY _ ⟨i,hil⟩ wr hJs (by rw[xg _ _ hk];exact hlt);rw[show(ss.length:Int)-1-k=(i:Int)from by omega];have HI:=xh hi;have HRV:Hid (oK ss.length (k+1)=oK ss.length k++[⟨i,hil⟩]):=xh (by
    rw[oK,dif_pos (by omega)];congr 3
    omega)
   clear hi hc
   gi_wp2
   refine hR.mono ?_;rintro e W3 (⟨rfl,hJ3,hk3⟩|⟨rfl,hJx3⟩)
   ·gi_wp2
    go_roundw
    case rel=>exact⟨k+1,by omega,by have:=HI.o;congr 1;omega,by rw[HRV.o];exact hJ3,hnx.trans hk3⟩
    case measure=>simp[intOf]<;>omega
   ·gi_wp2
    refine bodyPost_ret (results_none rfl _ _ _) rfl ?_;exact⟨⟨_,rfl⟩,.inr ⟨_,trivial,hJx3⟩⟩
  ·obtain rfl:k=ss.length:=by omega
   rw[show(ss.length:Int)-1-ss.length = -1 from by omega]
   gi_wp2
   go_end0
   exact⟨⟨_,rfl⟩,.inl ⟨_,rfl,hJs⟩⟩
theorem NY(F:Fence)(n:Nat)(hF:F.fn 256)(hro:F.round=none)(hn:1≤n)(Bs n₀:Nat)(p:Option Addr)(cap:Nat)(ss:List ByteArray)(hreach:ss.length≤1000000)(w:World)(hBs:Bs<w.heap.size)(hn₀:n₀≤w.heap.size)
 (hc:w.cell? (Bs,0)=some (.slice p ss.length cap))(hS:SS n₀ w p ss) :
 SeqStopsK F n prog 256 #[Bs] (encS ss) (NW n₀ Bs) (λys=>ys=oK ss.length ss.length) (λ_=>True) ss.length w:=λl J Jx W hW _ _ hY h0=>
 X3 F n hF hro hn l Bs n₀ p cap ss hreach J Jx hY W ((hW.cell (p:=⟨Bs,0,none⟩) hBs).trans hc) (hS.below (hW.mono hn₀)) h0
theorem X5(p:Option Addr)(len cap:Nat)(w:World) :
 Calls prog 180 #[(p,len,cap)] w λe w'=>e=.returned (.func (.func 256) #[] #[w.heap.size])∧w'=w.alloc (.cells #[(p,len,cap)] 66):=by
 go_enter func180,ntmps180;go_wp2
 go_ret
 exact⟨rfl,rfl⟩
theorem Ua(p:Option Addr)(cap:Nat)(l:List Int)(w:World)(hl:l.length≤1000000)(hr:BS w p l) :
 Calls prog 257 #[(p,l.length,cap),.int .u8 0] w λe w'=>(∃r:Int,e=.returned (.int .i64 r)∧ -1≤r∧r≤1000000∧(0≤r↔(0:Int)∈l))∧w=w':=by
 have HR:=xh hr;clear hr;go_enter func257,ntmps257;go_wp2
 go_loop [8] (λi=>∃k:Nat,k≤l.length∧i=.int .i64 k∧∀j,j<k→l.getD j 0≠0) (λi=>l.length-(intOf i).toNat)
 case atStart=>exact⟨0,Nat.zero_le _,rfl,λj hj=>by omega⟩
 case round=>
  obtain⟨k,hk,rfl,hno⟩:=hrel;have HN:=xh hno;clear hno;by_cases hlt:k<l.length
  ·obtain⟨b,o,rfl,_,h1⟩:=HR.o.2 (by omega)
   have a1:=h1.at_ k hlt;have HM:Hid (l.getD k 0∈l):=xh (by rw[List.getD_eq_getElem?_getD,bT hlt];exact List.getElem_mem hlt);clear h1;by_cases hz:l.getD k 0=0
   ·rw[hz]at HM a1
    clear hz;go_wp2
    go_ret
    exact⟨⟨k,rfl,by omega,by omega,⟨λ_=>HM.o,λ_=>by omega⟩⟩,rfl⟩
   ·have HZ:=xh hz
    have hz2:((0:Int)==l.getD k 0)=false:=by simp;exact λh=>hz h.symm
    clear hz;generalize hx:l.getD k 0=x at *
    have HX:=xh hx;clear hx;go_wp2
    go_round
    case rel=>exact⟨k+1,by omega,by go_num,λj hj=>by
     by_cases e:j=k
     ·subst e;rw[HX.o];exact HZ.o
     ·exact HN.o j (by omega)⟩
    case measure=>simp[intOf]<;>omega
  ·obtain rfl:k=l.length:=by omega
   go_wp2
   go_ret
   exact⟨⟨-1,rfl,by omega,by omega,⟨λh=>by omega,λh=>by
    obtain⟨j,hj,he⟩:=List.getElem_of_mem h;have:=HN.o j hj;rw[List.getD_eq_getElem?_getD,bT hj]at this;exact absurd he this⟩⟩,rfl⟩
theorem Hw(p:Option Addr)(cap:Nat)(l:List Int)(w:World)(hl:l.length≤1000000)(hr:BS w p l) :
 Calls prog 181 #[(p,l.length,cap),.int .u8 0] w (Z.e (.bool (decide ((0:Int)∈l))) w):=by
 have HI:=xh (Ua p cap l w hl hr);clear hr;go_enter func181,ntmps181;go_wp2_with (go_at_call 257;with_reducible refine aH HI.o ?_;rintro e w1 ⟨⟨r,rfl,h1,h2,h3⟩,rfl⟩;have H3:=xh h3;clear h3)
 all_goals
  go_ret
  exact⟨by rw[show decide ((0:Int)∈l)=decide (0≤r)from by rw[decide_eq_decide];exact H3.o.symm];try rfl,rfl⟩
end
section
open Go.RowKit
structure Ql where
 e:Int
 M:Nat→Int
 A:Nat→Int
def arg(ss:List ByteArray)(i:Nat):List Int:=yA (ss.getD i ⟨#[]⟩)
def oQ(ss:List ByteArray)(st:Ql)(i:Nat):Ql:=
 ⟨st.e-((arg ss i).length+1),aW st.M (st.e-((arg ss i).length+1)).toNat (arg ss i),jk st.A i (st.e-((arg ss i).length+1))⟩
def nT(ss:List ByteArray)(is:List Nat):Ql:=is.foldl (oQ ss) ⟨65536,λ_=>0,λ_=>0⟩
theorem nD(ss:List ByteArray)(is:List Nat)(i:Nat):nT ss (is++[i])=oQ ss (nT ss is) i:=by simp[nT]
def Dj(l:List Int):Bool:=decide (l.length≤30)&&!decide ((0:Int)∈l)
theorem fC{l:List Int}:Dj l=true↔l.length≤30∧(0:Int)∉l:=by simp[Dj]
def Good(ss:List ByteArray):Prop:=∀i,i<ss.length→Dj (arg ss i)=true
theorem Yp(ss:List ByteArray)(i:Nat):∀x∈arg ss i,0≤x∧x≤255:=Ci _
theorem C9{α:Type}{p:List α→Prop}(h0:p [])(h1:∀l a,p l→p (l++[a]))(l:List α):p l:=by
 have:∀l:List α,p l.reverse:=by
  intro l
  induction l with
  | nil=>exact h0
  | cons a l ih=>rw[List.reverse_cons];exact h1 _ _ ih
 have h:=this l.reverse
 rwa [List.reverse_reverse]at h
theorem sF(ss:List ByteArray):∀is:List Nat,(∀i∈is,(arg ss i).length≤30)→65536-31*is.length≤(nT ss is).e∧(nT ss is).e≤65536:=by
 refine C9 ?_ ?_
 ·intro _;simp[nT]
 ·intro is i ih h
  have ih:=ih λj hj=>h j (by simp[hj]);have hi:=h i (by simp);rw[nD];simp only[oQ,List.length_append,List.length_singleton]
  omega
theorem aaT(ss:List ByteArray):∀is:List Nat,(∀i∈is,(arg ss i).length≤30)→is.length≤8→∀j,(nT ss is).A j=0∨(65288≤(nT ss is).A j∧(nT ss is).A j≤65535):=by
 refine C9 ?_ ?_
 ·intro _ _ j;left;rfl
 ·intro is i ih h hl j
  simp only[List.length_append,List.length_singleton]at hl
  have ih:=ih (λj hj=>h j (by simp[hj])) (by omega) j;have hi:=h i (by simp);have hb:=sF ss is λj hj=>h j (by simp[hj]);rw[nD];simp only[oQ,jk]
  split
  ·right;omega
  ·exact ih
def wordAt(st:Ql)(n k:Nat):Int:=if k=0 then n else if k≤n then st.A (k-1)else 0
def iq(st:Ql)(n:Nat):Int:=(st.e-8*(n+2))/16*16
def ja(st:Ql)(n:Nat):Nat→(Nat→Int)
 | 0=>st.M
 | k+1=>aW (ja st n k) ((iq st n).toNat+8*k) (gu (wordAt st n k))
theorem ig(n:Int):(gu n).length=8:=rfl
theorem KH:gu 0=List.replicate 8 0:=by decide
theorem zx(n:Int)(h0:0≤n)(h1:n<18446744073709551616):∀x∈gu n,0≤x∧x≤255:=by
 intro x hx;simp only[gu,List.mem_cons,List.not_mem_nil,or_false]at hx
 omega
theorem lI(M:Nat→Int)(A:Nat)(l:List Int)(a:Nat)(h:a<A∨A+l.length≤a):aW M A l a=M a:=by
 unfold aW;rw[if_neg (by omega)]
theorem KI(M:Nat→Int)(A:Nat)(l:List Int)(j:Nat)(h:j<l.length):aW M A l (A+j)=l.getD j 0:=by
 unfold aW;rw[if_pos ⟨by omega,by omega⟩,Nat.add_sub_cancel_left]
theorem Qm(st:Ql)(n:Nat)(a:Nat):∀k,(a<(iq st n).toNat∨(iq st n).toNat+8*k≤a)→ja st n k a=st.M a
 | 0,_=>rfl
 | k+1,h=>by
   rw[ja,lI _ _ _ _ (by rw[ig];omega)];exact Qm st n a k (by omega)
structure Laid(ss:List ByteArray)(st:Ql)(k:Nat):Prop where
 low:∀a:Nat,(a:Int)<st.e→st.M a=0
 at_:∀i,k≤i→i<ss.length→st.e≤st.A i∧st.A i+(arg ss i).length+1≤65536∧(∀j,j<(arg ss i).length→st.M ((st.A i).toNat+j)=(arg ss i).getD j 0)∧st.M ((st.A i).toNat+(arg ss i).length)=0
theorem UJ(ss:List ByteArray)(st:Ql)(k:Nat)(hk:k<ss.length)(h:Laid ss st (k+1))(h0:(arg ss k).length+1≤st.e)(h1:st.e≤65536):Laid ss (oQ ss st k) k:=by
 obtain⟨hlow,hat⟩:=h;refine⟨λa ha=>?_,λi hi hin=>?_⟩
 ·simp only[oQ]at ha⊢
  rw[lI _ _ _ _ (by omega)];exact hlow a (by omega)
 ·simp only[oQ,jk]
  by_cases e:i=k
  ·subst e
   rw[if_pos rfl];refine⟨Int.le_refl _,by omega,λj hj=>KI _ _ _ _ hj,?_⟩;rw[lI _ _ _ _ (by omega)];exact hlow _ (by omega)
  ·obtain⟨g1,g2,g3,g4⟩:=hat i (by omega) hin
   rw[if_neg e];refine⟨by omega,g2,λj hj=>?_,?_⟩
   ·rw[lI _ _ _ _ (by omega)];exact g3 j hj
   ·rw[lI _ _ _ _ (by omega)];exact g4
theorem KJ(ss:List ByteArray)(hg:Good ss)(hn:ss.length≤8):∀m,m≤ss.length→Laid ss (nT ss (eG ss.length (ss.length-m))) (ss.length-m)
 | 0,_=>⟨λa _=>by rw[Nat.sub_zero,nS];rfl,λi h1 h2=>by omega⟩
 | m+1,h=>by
   have ih:=KJ ss hg hn m (by omega);rw[vG _ (ss.length-(m+1)) (by omega),show ss.length-(m+1)+1=ss.length-m from by omega,nD];have hlen:∀i∈eG ss.length (ss.length-m),(arg ss i).length≤30:=λi hi=>by
    have:i<ss.length:=by
     unfold eG at hi;exact List.mem_range.1 (List.mem_of_mem_drop (List.mem_reverse.1 hi))
    exact(fC.1 (hg i this)).1
   have hb:=sF ss _ hlen;rw[kJ]at hb;have hk:=(fC.1 (hg (ss.length-(m+1)) (by omega))).1;exact UJ ss _ (ss.length-(m+1)) (by omega) (by rw[show ss.length-(m+1)+1=ss.length-m from by omega];exact ih) (by omega) hb.2
def aK(ss:List ByteArray):Ql:=nT ss (eG ss.length 0)
theorem OT(ss:List ByteArray)(hg:Good ss)(hn:ss.length≤8):Laid ss (aK ss) 0:=by
 have:=KJ ss hg hn ss.length (bM _)
 rwa [Nat.sub_self]at this
theorem Af{n k i:Nat}(h:i∈eG n k):i<n:=by
 unfold eG at h;exact List.mem_range.1 (List.mem_of_mem_drop (List.mem_reverse.1 h))
theorem l9(ss:List ByteArray)(hg:Good ss)(hn:ss.length≤8):65288≤(aK ss).e∧(aK ss).e≤65536:=by
 have:=sF ss (eG ss.length 0) λi hi=>(fC.1 (hg i (Af hi))).1;rw[kJ]at this;unfold aK;omega
theorem rJ(ss:List ByteArray)(hg:Good ss)(hn:ss.length≤8):65024≤iq (aK ss) ss.length∧iq (aK ss) ss.length+8*(ss.length+2)≤(aK ss).e∧iq (aK ss) ss.length%16=0:=by
 have:=l9 ss hg hn;unfold iq;omega
theorem vH(ss:List ByteArray)(hg:Good ss)(hn:ss.length≤8)(k:Nat):0≤wordAt (aK ss) ss.length k∧wordAt (aK ss) ss.length k<65536:=by
 unfold wordAt;have:=aaT ss (eG ss.length 0) (λi hi=>(fC.1 (hg i (Af hi))).1) (by rw[kJ];omega) (k-1);have e:(nT ss (eG ss.length 0))=aK ss:=rfl;rw[e]at this;split
 ·omega
 ·split<;>omega
def nO(ss:List ByteArray):Nat→Int:=ja (aK ss) ss.length (ss.length+2)
theorem YL(ss:List ByteArray)(hg:Good ss)(hn:ss.length≤8):ja (aK ss) ss.length (ss.length+1)=nO ss:=by
 funext a
 have e:nO ss=aW (ja (aK ss) ss.length (ss.length+1)) ((iq (aK ss) ss.length).toNat+8*(ss.length+1)) (gu (wordAt (aK ss) ss.length (ss.length+1))):=rfl;rw[e];unfold aW;split
 ·rename_i h
  rw[ig]at h;have hl:=OT ss hg hn;have hs:=rJ ss hg hn;rw[Qm _ _ _ _ (by omega),hl.low a (by omega)];have:wordAt (aK ss) ss.length (ss.length+1)=0:=by unfold wordAt;rw[if_neg (by omega),if_neg (by omega)]
  rw[this,KH,List.getD_eq_getElem?_getD,List.getElem?_replicate];split<;>rfl
 ·rfl
theorem aaU(f:Nat→Int)(i:Nat)(x:Int)(j:Nat):jk f i x j=if j=i then x else f j:=rfl
theorem FI(M:Nat→Int)(B o:Nat)(n:Int):UF (λj=>M (B+j)) o n=λj=>aW M (B+o) (gu n) (B+j):=by
 funext j
 unfold UF;simp only[aaU]
 unfold aW;rw[ig];by_cases h:B+o≤B+j∧B+j<B+o+8
 ·rw[if_pos h]
  have:j=o∨j=o+1∨j=o+2∨j=o+3∨j=o+4∨j=o+5∨j=o+6∨j=o+7:=by omega
  rcases this with rfl|rfl|rfl|rfl|rfl|rfl|rfl|rfl
  ·simp[gu]
  ·rw[show B+(o+1)-(B+o)=1 from by omega];simp[gu]
  ·rw[show B+(o+2)-(B+o)=2 from by omega];simp[gu]
  ·rw[show B+(o+3)-(B+o)=3 from by omega];simp[gu]
  ·rw[show B+(o+4)-(B+o)=4 from by omega];simp[gu]
  ·rw[show B+(o+5)-(B+o)=5 from by omega];simp[gu]
  ·rw[show B+(o+6)-(B+o)=6 from by omega];simp[gu]
  ·rw[show B+(o+7)-(B+o)=7 from by omega];simp[gu]
 ·rw[if_neg h,if_neg (by omega),if_neg (by omega),if_neg (by omega),if_neg (by omega),if_neg (by omega),if_neg (by omega),if_neg (by omega),if_neg (by omega)]
theorem KG(M:Nat→Int)(B o N:Nat)(l:List Int)(h:o+l.length≤N):splice (rowOf (λj=>M (B+j)) N) o (l.map (Value.int .u8))=rowOf (λj=>aW M (B+o) l (B+j)) N:=by
 apply List.ext_getElem?
 intro i;unfold splice rowOf;by_cases hi:i<N
 ·rw[List.getElem?_append]
  simp only[List.length_take,jE,List.length_range]
  rw[Nat.min_eq_left (by omega)];by_cases h1:i<o
  ·rw[if_pos h1,List.getElem?_take,if_pos h1]
   simp only[fA,List.getElem?_range hi,Option.map_some]
   rw[lI _ _ _ _ (by omega)]
  ·rw[if_neg h1,List.getElem?_append]
   simp only[jE]
   by_cases h2:i-o<l.length
   ·rw[if_pos h2]
    simp only[fA,List.getElem?_range hi,Option.map_some]
    rw[bT h2,show B+i=(B+o)+(i-o)from by omega,KI _ _ _ _ h2,List.getD_eq_getElem?_getD,bT h2];rfl
   ·rw[if_neg h2,List.getElem?_drop,show o+l.length+(i-o-l.length)=i from by omega]
    simp only[fA,List.getElem?_range hi,Option.map_some]
    rw[lI _ _ _ _ (by omega)]
 ·rw[List.getElem?_eq_none (by simp;omega),List.getElem?_eq_none (by simp;omega)]
end
section
open Go.Proofs.Tryz Go.RowKit Go.Maps Go.Shelf
attribute [local go_sem] Oper.semAt_some
theorem xx{P:Program}(n:Nat){f:FuncId}{fn:Func}{c:Code}{args:Array Value}{w:World}{R:Ending→World→Prop}(hf:P.funcs[f]?=some fn)(hb:fn.body=some c)
 (h:c.wp P (bodyPostM Fence.wide n P fn R) {tmps:=args++Array.replicate (fn.ntmps-args.size) undef,defers:=[]} w):Calls P f args w R:=
 (callsIn_wide (n:=n)).1 (callsIn_of_wp_marks hf hb trivial (wpIn_wide.2 h) rfl)
def dR(n:Nat):Option Int:=if n=254∨n=255 then some 6 else none
theorem YD:(prog.info? 37).map (λi=>(i.zero,i.size,i.bytes))=some (some (.int .u64 0),1,8):=by kernel_rfl
theorem OJ(n:Nat)(hn:n≤1000):∃zs:List Value,zs.length=n∧(∀v∈zs,v=.int .u64 0)∧∀(w:World),(Instr.makeSlice 323 (.int .i64 (n:Int)) (.int .i64 (n:Int))).run prog w=.ok (.slice (some ⟨w.heap.size,0,none⟩) n n) (w.alloc (.cells zs.toArray 37)):=by
 obtain⟨i,hi,h1,h2,h3⟩:=info_parts YD;refine⟨(madeCells (Value.int .u64 0).cells (n*i.size)).toList,by rw[h2];simp[size_madeCells],?_,λw=>?_⟩
 ·intro v hv
  simp[madeCells,Value.cells]at hv
  obtain⟨a,_,h⟩:=hv;rw[Nat.mod_one]at h;exact h.symm
 ·have:=run_makeSlice (P:=prog) (w:=w) 323 37 i (.int .u64 0) underlying323 hi h1 .i64 .i64 n n (by omega) (by omega) (by rw[h2];omega) (by rw[h3];omega) (by omega)
  simpa using this
theorem OL(s:ByteArray):∃(cf:World→Nat) (wf:World→World),(∀W,(convert 9 59 (.string s)).run prog W=.ok (.slice (some ⟨W.heap.size,0,none⟩) s.size (cf W)) (wf W))∧
 ∀W,Bel W (wf W)∧(wf W).heap.size=W.heap.size+1∧s.size≤cf W∧jF (wf W) W.heap.size 0 (yA s):=by
 refine⟨λW=>grownCap W s.size 0 5,λW=>Lib.bytesWorld W 5 s,λW=>Lib.run_convert_string_bytes W 9 59 5 s underlying9 underlying59 underlying5,λW=>⟨⟨?_,?_,?_,?_,λk hk=>Lib.bytesWorld_at_old W _ s k hk⟩,Lib.bytesWorld_size W _ s,?_,⟨λi hi=>?_,Ci s⟩⟩⟩
 ·simp[Lib.bytesWorld,World.freeze,World.alloc,World.drew,-World.alloc_eq,-World.drew_eq]
 ·simp[Lib.bytesWorld,World.freeze,World.alloc,World.drew,-World.alloc_eq,-World.drew_eq]
 ·simp[Lib.bytesWorld,World.freeze,World.alloc,World.drew,-World.alloc_eq,-World.drew_eq]
 ·rw[Lib.bytesWorld_size];omega
 ·exact grownCap_ge W s.size 0 5
 ·rw[Nat.zero_add,Lib.bytesWorld_cell W _ s i (by rw[←dB];exact hi)]
  unfold yA;rw[fA,List.getD_eq_getElem?_getD,bT (by simpa [yA]using hi)];rfl
structure Ae where
 g2:Nat
 gm:Nat
 mb:Nat
 gB:Nat
def rowA(st:Ql)(n:Nat):List Value:=(List.range n).map λi=>Value.int .u64 (st.A i)
theorem YE(st:Ql)(n i:Nat)(x:Int)(M:Nat→Int)(e:Int):(rowA st n).set i (.int .u64 x)=rowA ⟨e,M,jk st.A i x⟩ n:=by
 apply List.ext_getElem?
 intro k;simp only[rowA,List.getElem?_set,fA,jE,List.length_range,jk]
 by_cases hk:k<n
 ·rw[List.getElem?_range hk]
  by_cases hi:i=k
  ·subst hi;simp[hk]
  ·simp[hi,Ne.symm hi]
 ·rw[List.getElem?_eq_none (by simp;omega)]
  by_cases hi:i=k
  ·subst hi;simp[hk]
  ·simp[hi]
def D9(ss:List ByteArray)(pre:List (Ix ss.length)):Ql:=nT ss (pre.map λi:Ix ss.length=>i.1)
theorem YF(ss:List ByteArray)(pre:List (Ix ss.length))(x:Ix ss.length):D9 ss (pre++[x])=oQ ss (D9 ss pre) x.1:=by simp[D9,nD]
structure SI(q:Ae)(ss:List ByteArray)(w:World)(pre:List (Ix ss.length))(W:World):Prop where
 r2:Blk W q.g2 [.map none] 113
 r3:Blk W (q.g2+1) [.int .u64 0] 37
 r4:Blk W (q.g2+1+1) [.nilIface] 46
 r5:Blk W (q.g2+1+1+1) [.int .u64 (D9 ss pre).e] 37
 r6:Blk W q.gm [.map (some q.mb)] 113
 ra:Blk W (q.gm+1) (rowA (D9 ss pre) ss.length) 37
 r7:Blk W (q.gm+1+1) [.slice (some ⟨q.gm+1,0,none⟩) ss.length ss.length] 323
 sp:Sp W q.mb (ah dR (D9 ss pre).M)
 good:∀i∈pre,Dj (arg ss i.1)=true
 bel:Below q.g2 w W
 sz:q.gB<W.heap.size
structure SX(q:Ae)(ss:List ByteArray)(w:World)(c:Code)(W:World):Prop where
 c:c=.ret
 r2:Blk W q.g2 [.map none] 113
 r3:Blk W (q.g2+1) [.int .u64 0] 37
 r4:Blk W (q.g2+1+1) [fH 6] 46
 bad:¬Good ss
 bel:Below q.g2 w W
theorem iF{B:Nat}{W W':World}{row:Option Nat}{b:Nat}{c:List Value}{t:TypeId}(h:Blk W b c t)(hg:W.grownBy W' row)(hr:∀r,row=some r→B≤r∧∃o:Obj,W.heap[r]?=some o∧o.isCells=false):Blk W' b c t:=
 (hg.block b h.lt λe=>by
   obtain⟨_,o,h1,h2⟩:=hr b e.symm;unfold Blk at h;rw[h]at h1;cases h1
   cases h2).trans h
theorem YG{B:Nat}{W W':World}{row:Option Nat}{b:Nat}{m:ax}(h:Sp W b m)(hb:b<B)(hg:W.grownBy W' row)(hr:∀r,row=some r→B≤r∧∃o:Obj,W.heap[r]?=some o∧o.isCells=false):Sp W' b m:=
 h.of_block (hg.block b h.lt λe=>by have:=(hr b e.symm).1;omega)
theorem own_below{B g:Nat}{w W W':World}{row:Option Nat}(h:Below g w W)(hb:g≤B)(hgs:g≤W.heap.size)(hg:W.grownBy W' row)(hr:∀r,row=some r→B≤r∧∃o:Obj,W.heap[r]?=some o∧o.isCells=false):Below g w W':=
 h.trans ⟨hg.os,hg.tape,hg.output,hg.size,λk hk=>hg.block k (by omega) λe=>by have:=(hr k e.symm).1;omega⟩
theorem SI.own{q:Ae}{ss:List ByteArray}{w:World}{B:Nat}(h1:q.mb<B)(h2:q.g2≤B):OwnFrom B (SI q ss w):=λs W W' row hs hg hr=>
 ⟨iF hs.r2 hg hr,iF hs.r3 hg hr,iF hs.r4 hg hr,iF hs.r5 hg hr,iF hs.r6 hg hr,iF hs.ra hg hr,iF hs.r7 hg hr,YG hs.sp h1 hg hr,hs.good,own_below hs.bel h2 (Nat.le_of_lt hs.r2.lt) hg hr,Nat.lt_of_lt_of_le hs.sz hg.size⟩
theorem SX.own{q:Ae}{ss:List ByteArray}{w:World}{B:Nat}{c:Code}(h2:q.g2≤B):OwnFrom B (λ(_:List (Ix ss.length)) W=>SX q ss w c W):=λs W W' row hs hg hr=>
 ⟨hs.c,iF hs.r2 hg hr,iF hs.r3 hg hr,iF hs.r4 hg hr,hs.bad,own_below hs.bel h2 (Nat.le_of_lt hs.r2.lt) hg hr⟩
theorem tZ:(prog.info? 37).map (λi=>(i.size,i.bytes,(i.zero.map (·.cells.size))))=some (1,8,some 1):=by kernel_rfl
theorem xy{P:Program}{w:World}{base:Nat}{e:TypeId}{size:Nat}{v:Value}{n:Nat}{xs:List Value}{ops:Array Oper}{rest:List Oper}{o:Oper}{a:Act}{Q:Exit→Act→World→Prop}(hgd:o.guard=none)(s x:Operand)(t:TypeId)
 (ho:o.op=.call {callee:=.builtin .append,args:= #[s,x],argTypes:= #[t,t]}){bytes:Nat}(ht:P.underlying t=some (.slice e))
 (hi:(P.info? e).map (λi=>(i.size,i.bytes,(i.zero.map (·.cells.size))))=some (size,bytes,some size))(hsz:0<size)
 (hs:a.eval s=v)(hown:w.ownsRow base e size v n xs)(g m c:Nat)(cs:List Value)(t':TypeId)(hx:a.eval x=.slice (some ⟨g,0,none⟩) m c)(hB:Blk w g cs t')(hl:cs.length=m*size)(h1:∀u∈cs,u.oneCell'=true)
 (h63:n+m≤maxLen)(hbytes:(n+m)*bytes≤140737488355328)(hbase:base≤w.heap.size)
 (h:∀v' w',w'.ownsRow base e size v' (n+m) (xs++cs)→Keep (λi=>base≤i) w w'→wpList P ops Q rest (a.put o.dst v') w'):wpList P ops Q (o::rest) a w:=by
 obtain⟨i,z,hi,hz,e1,e2,e3⟩:=info_of hi;refine wpList_append_own w hgd s x t ho base e i z size bytes ht hi hz e1 e2 e3 hsz v n xs hs hown ⟨g,0,none⟩ m c cs hx hl (λj u hj=>?_) h1 h63 hbytes hbase λv' w' k1 k2 _=>h v' w' k1 (grown_keep k2 hown);rw[show(⟨g,0,none⟩:Addr).add j=⟨g,j,none⟩from by unfold Addr.add;split<;>simp_all];rw[hB.cell];exact hj
theorem OM{w:World}{g base:Nat}{e t:TypeId}{c:Value}(h:w.heap[g]?=some (.cells [c].toArray t (0,0)))(ht:t=e)(hb:base≤g):w.ownsRow base e 1 (.slice (some ⟨g,0,none⟩) 1 1) 1 [c]:=by
 subst ht;exact⟨rfl,.inr ⟨g,1,[c].toArray,rfl,hb,h,bM _,by unfold maxLen;omega,rfl,rfl⟩⟩
theorem YH(st:Ql)(n:Nat):[Value.int .u64 n]++rowA st n++[Value.int .u64 0]=(List.range (n+2)).map λk=>Value.int .u64 (wordAt st n k):=by
 apply List.ext_getElem?
 intro i;unfold rowA;by_cases hi:i<n+2
 ·rw[fA,List.getElem?_range hi,Option.map_some]
  cases i with
  | zero=>simp[wordAt]
  | succ i=>
    rw[List.append_assoc,List.cons_append,List.nil_append,List.getElem?_cons_succ];by_cases h:i<n
    ·rw[List.getElem?_append_left (by simpa using h),fA,List.getElem?_range h,Option.map_some]
     unfold wordAt;rw[if_neg (by omega),if_pos (by omega),Nat.add_sub_cancel]
    ·obtain rfl:i=n:=by omega
     rw[List.getElem?_append_right (by simp)];unfold wordAt;rw[if_neg (by omega),if_neg (by omega)];simp
 ·rw[List.getElem?_eq_none (by simp;omega),List.getElem?_eq_none (by simp;omega)]
theorem air(x:Int):rowOf (UF (λ_=>0) 0 x) 8=(gu x).map (Value.int .u8):=by
 simp[rowOf,UF,jk,gu,List.range_succ]
theorem UH(a:Int)(h0:0≤a)(h1:a<18446744073709551616):bits .andNot .u64 a 15=a/16*16:=by
 rw[u64_andNot a 15 h0 h1 (by omega) (by omega)];obtain⟨n,rfl⟩:=Int.eq_ofNat_of_zero_le h0;have hn:n<2^64:=by omega
 have:n &&& (18446744073709551615-15)=n/16*16:=by
  apply Nat.eq_of_testBit_eq
  intro i;rw[show(18446744073709551615-15:Nat)=(2^60-1)*2^4 from by decide,show n/16*16=n/2^4*2^4 from rfl,Nat.testBit_and,Nat.testBit_mul_two_pow,Nat.testBit_mul_two_pow,Nat.testBit_two_pow_sub_one,Nat.testBit_div_two_pow];by_cases h4:4≤i
  ·by_cases h64:i<64
   ·simp[h4,show i-4<60 from by omega,Nat.sub_add_cancel h4]
   ·have:n.testBit i=false:=Nat.testBit_lt_two_pow (Nat.lt_of_lt_of_le hn (Nat.pow_le_pow_right (by omega) (by omega)))
    simp[this,Nat.sub_add_cancel h4]
  ·simp[h4]
 rw[Int.toNat_natCast,show(Int.toNat 15)=15 from rfl,this];omega
theorem vJ{W W':World}(h:Bel W W'):KeepsOthers W W':=⟨h.size,λk o hk _=>(h.block k (Array.getElem?_eq_some_iff.1 hk).1).trans hk⟩
theorem UI{S:Nat→Prop}{B:Nat}{W W':World}(h:Keep S W W')(hS:∀k,S k→k<B):KeepsFrom B W W':=
 ⟨h.size,λk o hB hk _=>(h.block k (Array.getElem?_eq_some_iff.1 hk).1 λhs=>by have:=hS k hs;omega).trans hk⟩
theorem xA{S:Nat→Prop}{g B:Nat}{W W':World}(h:Keep S W W')(h1:∀k,S k→g≤k∧k≠B)(h2:g≤W.heap.size)(h3:B<W.heap.size):NW g B W W':=λb hb=>
 h.block b (by omega) λhs=>by have:=h1 b hs;omega
theorem OO(ss:List ByteArray)(i:Nat)(h:i<ss.length):arg ss i=yA ss[i]:=by
 unfold arg;rw[List.getD_eq_getElem?_getD,bT h];rfl
theorem Ar(p:Option Addr)(cap:Nat)(ss:List ByteArray)(w:World)(hS:SS w.heap.size w p ss)(hn:ss.length≤8) :
 Calls prog 100 #[.slice p ss.length cap] w λe w'=>Bel w w'∧
  (Good ss→∃mb,e=.returned (.tuple #[.map (some mb),.int .u64 (iq (aK ss) ss.length),.nilIface])∧Sp w' mb (ah dR (nO ss)))∧
  (¬Good ss→e=.returned (.tuple #[.map none,.int .u64 0,fH 6])):=by
 obtain⟨zs,hzl,hzv,hmk⟩:=OJ ss.length (by omega);obtain⟨ps,hps⟩:∃ps:List Value,ps=Pg.cells ⟨6,List.replicate 256 0⟩:=⟨_,rfl⟩;have Dl:Hid (prog.built 187 [(0,.int .u8 6)]=some ps.toArray):=xh (by rw[hps];exact CE 6);have hmm:∀w,(Instr.makeMap 113 none).run prog w=.ok (.map (some w.heap.size)) (w.alloc (.map #[] 0)):=λw=>by kernel_rfl
 have vO:=xh hps;have oh:=xh hzl;have HZV:=xh hzv;have HS:=xh hS;clear hps hzl hzv hS;refine xx 5 func100 rfl ?_;simp only[ntmps100,List.size_toArray,List.length_cons,List.length_nil,Nat.reduceAdd,Nat.reduceSub,Array.replicate_succ,Array.replicate_zero,List.push_toArray,List.append_toArray,List.nil_append,List.cons_append]
 go_upto_region 4 with fail
 obtain⟨w1,hw1⟩:∃w1,w1=(((w.alloc (.cells #[.map none] 113)).alloc (.cells #[.int .u64 0] 37)).alloc (.cells #[.nilIface] 46)).alloc (.cells #[.int .u64 65536] 37):=⟨_,rfl⟩;have k1:Bel w w1:=by rw[hw1];exact(((Bel.start w _).ac _).ac _).ac _
 have b2:Blk w1 w.heap.size [.map none] 113:=by rw[hw1];exact(((Blk.new w [_] _).alloc _).alloc _).alloc _
 have b3:Blk w1 (w.heap.size+1) [.int .u64 0] 37:=by rw[hw1];exact((Blk.dF _ [_] _ (by simp)).alloc _).alloc _
 have b4:Blk w1 (w.heap.size+1+1) [.nilIface] 46:=by rw[hw1];exact(Blk.dF _ [_] _ (by simp)).alloc _
 have b5:Blk w1 (w.heap.size+1+1+1) [.int .u64 65536] 37:=by rw[hw1];exact Blk.dF _ [_] _ (by simp)
 have hsz:w1.heap.size=w.heap.size+1+1+1+1:=by rw[hw1];simp
 rw[←hw1];clear hw1;have bP:=xh k1;have HB2:=xh b2;have HB3:=xh b3;have HB4:=xh b4;have zU:=xh b5;have QA:=xh hsz;have hg:w.heap.size+4≤w1.heap.size:=by omega
 clear k1 b2 b3 b4 b5 hsz;have hs0:Sp (w1.alloc (.map #[] 0)) w1.heap.size (λ_=>none):=⟨[],Mp.new iK w1,λn=>rfl,λp hp=>by cases hp⟩;obtain⟨es1,cl1,aaP,hs1,hk1⟩:=hs0.update 254 (by omega) ⟨6,List.replicate 256 0⟩;obtain⟨wA,hwA⟩:∃wA,wA=Go.ChangeMaps.setBlock (w1.alloc (.map #[] 0)) w1.heap.size (.map es1 cl1):=⟨_,rfl⟩;rw[←hwA]at aaP hs1 hk1;obtain⟨es2,cl2,aaQ,hs2,hk2⟩:=hs1.update 255 (by omega) ⟨6,List.replicate 256 0⟩;obtain⟨wB,hwB⟩:∃wB,wB=Go.ChangeMaps.setBlock wA w1.heap.size (.map es2 cl2):=⟨_,rfl⟩;rw[←hwB]at aaQ hs2 hk2;rw[show Pg.v ⟨6,List.replicate 256 0⟩=.agg ps.toArray from by rw[vO.o];rfl]at aaP aaQ;rw[show((254:Nat):Int)=(254:Int)from rfl]at aaP;rw[show((255:Nat):Int)=(255:Int)from rfl]at aaQ;have KB:Hid (Keep (λk=>k=w1.heap.size) (w1.alloc (.map #[] 0)) wB):=xh (hk1.tr hk2);have Dt:Hid (Sp wB w1.heap.size (ah dR λ_=>0)):=xh (by
  have e:(λi=>if i=255 then some (⟨6,List.replicate 256 0⟩:Pg)else(λi=>if i=254 then some ⟨6,List.replicate 256 0⟩else none) i)=ah dR λ_=>0:=by
   funext i
   have hr:(List.range 256).map (λ_=>(0:Int))=List.replicate 256 0:=by rw[List.map_const'];simp
   unfold ah dR;by_cases e1:i=255
   ·rw[if_pos e1,if_pos (.inr e1),Option.map_some,hr]
   ·rw[if_neg e1]
    by_cases e2:i=254
    ·simp only[e2,if_true,true_or,Option.map_some,hr]
    ·simp only[e2,if_false,e1,or_self,Option.map_none]
  rw[←e];exact hs2)
 clear hs0 hs1 hk1 hwA hs2 hk2 hwB
 go_upto_region 5 with(first
  | (refine wpList_buildTo rfl 187 _ rfl (some 20) rfl ps.toArray (by simp only[List.map_toArray,List.map_cons,List.map_nil];exact Dl.o) ?_)
  | (refine wpList_buildTo rfl 187 _ rfl (some 21) rfl ps.toArray (by simp only[List.map_toArray,List.map_cons,List.map_nil];exact Dl.o) ?_))
 clear aaP aaQ;have ais:w1.heap.size+1≤wB.heap.size:=by have:=KB.o.size;simpa using this
 have KB1:Hid (Bel w wB):=xh (Below.trans bP.o ((Below.heap_alloc' w1 _).mono bP.o.size |>.trans (KB.o.below _ (by simp;exact bU bP.o.size (Nat.le_succ _)) (λk hk=>by rw[hk];exact bP.o.size))));have hkB:∀{b:Nat} {c:List Value} {t:TypeId},b<w1.heap.size→Blk w1 b c t→Blk wB b c t:=λhb h=>(h.alloc _).keep KB.o (λe=>by omega);have c2:=xh (hkB (by omega) HB2.o);have c3:=xh (hkB (by omega) HB3.o);have c4:=xh (hkB (by omega) HB4.o);have c5:=xh (hkB (by omega) zU.o);clear HB2 HB3 HB4 zU hkB KB QA;generalize w1.heap.size=mb at *
 go_upto_region 6 with fail
 obtain⟨W0,hW0⟩:∃W0,W0=((wB.alloc (.cells #[.map (some mb)] 113)).alloc (.cells zs.toArray 37)).alloc (.cells #[.slice (some ⟨wB.heap.size+1,0,none⟩) ss.length ss.length] 323):=⟨_,rfl⟩;have kb:Bel wB W0:=by rw[hW0];exact((Bel.start wB _).ac _).ac _
 have d6:Blk W0 wB.heap.size [.map (some mb)] 113:=by rw[hW0];exact((Blk.new wB [_] _).alloc _).alloc _
 have da:Blk W0 (wB.heap.size+1) zs 37:=by rw[hW0];exact(Blk.dF _ _ _ (by simp)).alloc _
 have d7:Blk W0 (wB.heap.size+1+1) [.slice (some ⟨wB.heap.size+1,0,none⟩) ss.length ss.length] 323:=by rw[hW0];exact Blk.dF _ [_] _ (by simp)
 have d2:=c2.out.bel kb;have d3:=c3.out.bel kb;have d4:=c4.out.bel kb;have d5:=c5.out.bel kb;have ds:Sp W0 mb (ah dR λ_=>0):=Dt.o.bel kb;have K0:Hid (Bel w W0):=xh (KB1.o.tr kb);have hsz0:W0.heap.size=wB.heap.size+1+1+1:=by rw[hW0];simp
 rw[←hW0];clear hW0 kb c2 c3 c4 c5 Dt KB1;have D:=xh (And.intro d2 (And.intro d3 (And.intro d4 (And.intro d5 (And.intro d6 (And.intro da (And.intro d7 ds)))))));clear d2 d3 d4 d5 d6 da d7 ds;have hgs:w.heap.size+1+1+1+1≤mb∧mb+1≤wB.heap.size:=⟨by omega,ais⟩;generalize wB.heap.size=gm at *
 generalize hg2:w.heap.size=g2 at *
 have HG2:=xh hg2;have aka:=xh hsz0;clear hg2 hsz0;go_wp2_with (go_at_call 180;refine aH (X5 p ss.length cap _) ?_;rintro e w' ⟨rfl,rfl⟩)
 have hcell:(W0.alloc (.cells #[.slice p ss.length cap] 66)).cell? ⟨W0.heap.size,0,none⟩=some (.slice p ss.length cap):=(Blk.new W0 [_] _).cell 0;have KW1:Bel w (W0.alloc (.cells #[.slice p ss.length cap] 66)):=K0.o.ac _;obtain⟨d2,d3,d4,d5,d6,da,d7,dsp⟩:=D.o;have hz:zs=rowA (D9 ss []) ss.length:=by
  apply List.ext_getElem?
  intro k;unfold rowA;by_cases hk:k<ss.length
  ·rw[bT (by rw[oh.o];exact hk),HZV.o _ (List.getElem_mem _),fA,List.getElem?_range hk]
   rfl
  ·rw[List.getElem?_eq_none (by rw[oh.o];omega),List.getElem?_eq_none (by simp;omega)]
 rw[hz]at da;have h0:SI ⟨g2,gm,mb,W0.heap.size⟩ ss w [] (W0.alloc (.cells #[.slice p ss.length cap] 66)):=
  ⟨d2.alloc _,d3.alloc _,d4.alloc _,d5.alloc _,d6.alloc _,da.alloc _,d7.alloc _,dsp.alloc _,λi hi=>(by cases hi),Below.mono KW1 (by rw[HG2.o];exact bM _),by simp⟩
 have hl7:=d7.lt;have KWg:Below g2 w (W0.alloc (.cells #[.slice p ss.length cap] 66)):=by have:=KW1;unfold Bel at this;rw[HG2.o]at this;exact this
 have hlen:ss.length≤1000000:=by omega
 refine(wpIn_wide (n:=5)).1 ?_
 refine wpIn_rangeFunc_ownG (F:=Fence.wide) (n:=5) rfl (by omega) (gf:=256) (lb:= #[.pointer (some ⟨W0.heap.size,0,none⟩)]) rfl trivial (enters_of func256 (by kernel_rfl) rfl)
  (NY Fence.wide (5-1) trivial rfl (by omega) W0.heap.size g2 p cap ss hlen (W0.alloc (.cells #[.slice p ss.length cap] 66)) (by simp) (by simp;omega) hcell (HS.o.below KWg))
  (λh k=>h.trans k) (NW.putObj (by simp;omega) (by simp)) (Below.refl _ _) (λ_=>rfl)
  (SI ⟨g2,gm,mb,W0.heap.size⟩ ss w) (λc _ W=>SX ⟨g2,gm,mb,W0.heap.size⟩ ss w c W) (SI.own (by simp;omega) (by simp;omega)) (λc=>SX.own (by simp;omega)) h0
  (λx=>{tmps:= #[.slice p ss.length cap,undef,.pointer (some ⟨g2,0,none⟩),.pointer (some ⟨g2+1,0,none⟩),.pointer (some ⟨g2+1+1,0,none⟩),.pointer (some ⟨g2+1+1+1,0,none⟩),.pointer (some ⟨gm,0,none⟩),.pointer (some ⟨gm+1+1,0,none⟩),.int .i64 (x.1:Nat),.string (ss[x.1]'x.2),undef,undef,undef,undef,undef,.slice p ss.length cap,.int .i64 (ss.length:Nat),.bool (decide (8<(ss.length:Int))),undef,.map (some mb),.agg ps.toArray,.agg ps.toArray,.map (some mb),.slice p ss.length cap,.int .i64 (ss.length:Nat),.slice (some ⟨gm+1,0,none⟩) ss.length ss.length,.slice p ss.length cap,.func (.func 256) #[] #[.pointer (some ⟨W0.heap.size,0,none⟩)],.int .i64 (x.1:Nat),.string (ss[x.1]'x.2),undef,undef,undef,undef,undef,undef,undef,undef,undef,undef,undef,undef,undef,undef,undef,undef,undef,undef,undef,undef,undef,undef,undef,undef,undef,undef,undef,undef,undef,undef,undef,undef,undef,undef,undef,undef,undef,undef,undef,undef,undef,undef,undef,undef,undef,undef,undef,undef,undef,undef,undef,undef,undef,undef,undef,undef,undef,undef,undef,undef,undef],defers:=[]}) ?assign ?body ?done ?stop
 case assign=>
  intro l x W K hK
  gi_wp2
  exact hK
 case body=>
  rintro l pre x W hI hlt;have hx:=x.2;have hax:=OO ss x.1 hx;obtain⟨s,hs⟩:=e_x (ss[x.1]'x.2);rw[hs]at hax⊢;obtain⟨cf,wf,hconv,hwf⟩:=OL s;have HWF:=xh hwf;have HI:=xh hI;have HAX:=xh hax;have hb:=sF ss (pre.map λi:Ix ss.length=>i.1) (λi hi=>by
   obtain⟨j,hj,rfl⟩:=List.mem_map.1 hi;exact(fC.1 (hI.good j hj)).1)
  rw[jE]at hb;have he0:65288≤(D9 ss pre).e-31:=by unfold D9;omega
  have he1:(D9 ss pre).e≤65536:=hb.2;have h2:=hI.r2;have h3:=hI.r3;have h4:=hI.r4;have hl2:=h2.lt;have hl3:=h3.lt;have hl4:=h4.lt;have HS2:=xh hs;clear hwf hI hax hb hs;have hbl:s.size=(yA s).length:=(dB s).symm;by_cases hlen:30<s.size
  ·have HBAD:=xh (show ¬Good ss from λh=>by
    have:=(fC.1 (h x.1 hx)).1;rw[HAX.o]at this;omega)
   have hlen':(30:Int)<(s.size:Int):=by omega
   have c2:=h2.cell 0;have c3:=h3.cell 0;have c4:=h4.cell 0;simp only[List.getElem?_cons_zero]at c2 c3 c4
   have f2:=h2.frozen 0;have f3:=h3.frozen 0;have f4:=h4.frozen 0;have H2:=xh h2;have H3:=xh h3;have H4:=xh h4;clear h2 h3 h4 hbl
   gi_wp2
   refine⟨trivial,?_⟩
   gi_wp2
   refine⟨(((KeepsOthers.setCell _ _ _).trans (KeepsOthers.setCell _ _ _)).trans (KeepsOthers.setCell _ _ _)).from _,⟨rfl,?_,?_,?_,HBAD.o,?_⟩⟩
   ·exact((H2.o.setCell (o:=0) (.map none)).aB (a:=⟨g2+1,0,none⟩) (by simp) _).aB (a:=⟨g2+1+1,0,none⟩) (by simp;omega) _
   ·exact((H3.o.aB (a:=⟨g2,0,none⟩) (by simp) _).setCell (o:=0) (.int .u64 0)).aB (a:=⟨g2+1+1,0,none⟩) (by simp) _
   ·exact((H4.o.aB (a:=⟨g2,0,none⟩) (by simp;omega) _).aB (a:=⟨g2+1,0,none⟩) (by simp) _).setCell (o:=0) (fH 6)
   ·exact((HI.o.bel.setCell (p:=⟨g2,0,none⟩) (bM _) _).setCell (p:=⟨g2+1,0,none⟩) (by simp) _).setCell (p:=⟨g2+1+1,0,none⟩) (by simp;omega) _
  ·have hlen':¬(30:Int)<(s.size:Int):=by omega
   have HW0:=HWF.o W;have hbs:BS (wf W) (some ⟨W.heap.size,0,none⟩) (yA s):=⟨Ci s,λ_=>⟨_,_,rfl,by rw[HW0.2.1];omega,HW0.2.2.2⟩⟩;have hcon:=Hw (some ⟨W.heap.size,0,none⟩) (cf W) (yA s) (wf W) (by omega) hbs;rw[dB]at hcon;have kw:=HW0.1;by_cases hz:(0:Int)∈yA s
   ·have HBAD:=xh (show ¬Good ss from λh=>by
     have:=(fC.1 (h x.1 hx)).2;rw[HAX.o]at this;exact this hz)
    rw[show decide ((0:Int)∈yA s)=true from decide_eq_true hz]at hcon;have adf:=xh hcon;have H2:=xh (h2.bel kw);have H3:=xh (h3.bel kw);have H4:=xh (h4.bel kw);have TF:=xh (HI.o.bel.trans (Below.mono kw (Nat.le_of_lt hl2)));have HKO:=xh (vJ kw);have c2:=H2.o.cell 0;have c3:=H3.o.cell 0;have c4:=H4.o.cell 0;simp only[List.getElem?_cons_zero]at c2 c3 c4
    have f2:=H2.o.frozen 0;have f3:=H3.o.frozen 0;have f4:=H4.o.frozen 0;have l2:=H2.o.lt;have l3:=H3.o.lt;have l4:=H4.o.lt;clear h2 h3 h4 hbl hcon HW0 hbs kw hz
    gi_wp2_with (refine⟨trivial,?_⟩;gi_at_call 181;refine(CallsIn.inRound l (callsIn_wide.2 adf.o)).mono ?_;rintro e w1 ⟨rfl,rfl⟩)
    refine⟨(((HKO.o.trans (KeepsOthers.setCell _ _ _)).trans (KeepsOthers.setCell _ _ _)).trans (KeepsOthers.setCell _ _ _)).from _,⟨rfl,?_,?_,?_,HBAD.o,?_⟩⟩
    ·exact((H2.o.setCell (o:=0) (.map none)).aB (a:=⟨g2+1,0,none⟩) (by simp) _).aB (a:=⟨g2+1+1,0,none⟩) (by simp;omega) _
    ·exact((H3.o.aB (a:=⟨g2,0,none⟩) (by simp) _).setCell (o:=0) (.int .u64 0)).aB (a:=⟨g2+1+1,0,none⟩) (by simp) _
    ·exact((H4.o.aB (a:=⟨g2,0,none⟩) (by simp;omega) _).aB (a:=⟨g2+1,0,none⟩) (by simp) _).setCell (o:=0) (fH 6)
    ·exact((TF.o.setCell (p:=⟨g2,0,none⟩) (bM _) _).setCell (p:=⟨g2+1,0,none⟩) (by simp) _).setCell (p:=⟨g2+1+1,0,none⟩) (by simp;omega) _
   ·rw[show decide ((0:Int)∈yA s)=false from decide_eq_false hz]at hcon
    have adf:=xh hcon;have nU:Hid (Dj (arg ss x.1)=true):=xh (fC.2 (by rw[HAX.o];exact⟨by omega,hz⟩));have HI2:Hid (SI ⟨g2,gm,mb,W0.heap.size⟩ ss w pre (wf W)):=xh ⟨HI.o.r2.bel kw,HI.o.r3.bel kw,HI.o.r4.bel kw,HI.o.r5.bel kw,HI.o.r6.bel kw,HI.o.ra.bel kw,HI.o.r7.bel kw,HI.o.sp.bel kw,HI.o.good,HI.o.bel.trans (Below.mono kw (Nat.le_of_lt hl2)),Nat.lt_of_lt_of_le HI.o.sz kw.size⟩;have HKO:=xh (vJ kw);have HKP:Hid (NW g2 W0.heap.size W (wf W)):=xh (λb hb=>kw.block b (by
     have:=HI.o.sz;simp only at this
     omega))
    clear h2 h3 h4 hl2 hl3 hl4 hbl hcon HW0 hbs kw hz HI
    gi_upto_region 11 with(refine⟨trivial,?_⟩;gi_at_call 181;refine(CallsIn.inRound l (callsIn_wide.2 adf.o)).mono ?_;rintro e w1 ⟨rfl,rfl⟩)
    generalize wf W=V1 at *
    have J:Hid (Blk V1 g2 [.map none] 113∧Blk V1 (g2+1) [.int .u64 0] 37∧Blk V1 (g2+1+1) [.nilIface] 46∧Blk V1 gm [.map (some mb)] 113∧Blk V1 (gm+1) (rowA (D9 ss pre) ss.length) 37∧
     Blk V1 (gm+1+1) [.slice (some ⟨gm+1,0,none⟩) ss.length ss.length] 323∧Sp V1 mb (ah dR (D9 ss pre).M)∧Below g2 w V1):=xh ⟨HI2.o.r2,HI2.o.r3,HI2.o.r4,HI2.o.r6,HI2.o.ra,HI2.o.r7,HI2.o.sp,HI2.o.bel⟩
    have jsz:W0.heap.size<V1.heap.size:=HI2.o.sz;have afO:=xh HI2.o.good;have j5:Blk V1 (g2+1+1+1) [.int .u64 (D9 ss pre).e] 37:=HI2.o.r5;clear HI2;obtain⟨e0,he⟩:=e_x ((D9 ss pre).e);rw[he]at he0 he1 j5;have HJ5:=xh j5;have c5:V1.cell? ⟨g2+1+1+1,0,none⟩=some (.int .u64 e0):=j5.cell 0;have f5:=j5.frozen 0;have l5:=j5.lt;clear j5;have HE:=xh he;obtain⟨A,hA⟩:∃A:Nat,e0-((s.size:Int)+1)=A:=⟨(e0-((s.size:Int)+1)).toNat,by omega⟩;have hA1:65288≤A:=by omega
    have hA2:A+s.size+1≤65536:=by omega
    clear he
    gi_upto_region 12 with fail
    have HS5:=xh (HJ5.o.setCell (o:=0) (.int .u64 A));have iC:Hid (Keep (λk=>k=g2+1+1+1) V1 (V1.setCell ⟨g2+1+1+1,0,none⟩ (.int .u64 A))):=xh (Keep.setCell _ _ _ _);have Gq:=xh (HKO.o.trans (KeepsOthers.setCell V1 ⟨g2+1+1+1,0,none⟩ (.int .u64 A)));generalize V1.setCell ⟨g2+1+1+1,0,none⟩ (.int .u64 A)=V2 at *
    have ha:=J.o.2.2.2.2.1.keep iC.o (by omega);have h7:=J.o.2.2.2.2.2.1.keep iC.o (by omega);have c7:V2.cell? ⟨gm+1+1,0,none⟩=some (.slice (some ⟨gm+1,0,none⟩) ss.length ss.length):=h7.cell 0;have c5':V2.cell? ⟨g2+1+1+1,0,none⟩=some (.int .u64 A):=HS5.o.cell 0;have ca:∃v,V2.cell? ⟨gm+1,x.1,none⟩=some v:=by
     rw[ha.cell];exact⟨_,bT (by simp only[rowA,jE,List.length_range];exact hx)⟩
    obtain⟨va,ca⟩:=ca;have fa:=ha.frozen x.1;have la:=ha.lt;have hxi:((x.1:Nat):Int)<(ss.length:Int):=by omega
    have HA2:=xh ha;clear c5 f5 l5 ha h7
    gi_upto_region 13 with fail
    have HSA:=xh (HA2.o.setCell (o:=x.1) (.int .u64 A));have jP:Hid (Keep (λk=>k=gm+1) V2 (V2.setCell ⟨gm+1,x.1,none⟩ (.int .u64 A))):=xh (Keep.setCell _ _ _ _);have xK:=xh (Gq.o.trans (KeepsOthers.setCell V2 ⟨gm+1,x.1,none⟩ (.int .u64 A)));generalize V2.setCell ⟨gm+1,x.1,none⟩ (.int .u64 A)=V3 at *
    have h6:=(J.o.2.2.2.1.keep iC.o (by omega)).keep jP.o (by omega);have c6:V3.cell? ⟨gm,0,none⟩=some (.map (some mb)):=h6.cell 0;have c5:V3.cell? ⟨g2+1+1+1,0,none⟩=some (.int .u64 A):=(HS5.o.keep jP.o (by omega)).cell 0;have hw3:=HWF.o V3;have afP:=(((J.o.2.2.2.2.2.2.1.keep iC.o (by omega)).keep jP.o (by omega))).bel hw3.1;have hpk:=Bz mb dR (D9 ss pre).M A (yA s) (some ⟨V3.heap.size,0,none⟩) V3.heap.size 0 (cf V3) (wf V3) afP (by rw[dB];omega) (λ_=>rfl) hw3.2.2.2 (by rw[dB];exact hw3.2.2.1) (λa h1 h2=>by
     rw[dB]at h2;unfold dR;rw[if_pos (by omega)];rfl)
    rw[dB]at hpk;have Eg:=xh hpk;have HW3:=xh hw3.1;clear h6 hw3 afP hpk ca fa la c7 c5'
    gi_wp2_with (refine⟨trivial,?_⟩;gi_at_call 84;refine(CallsIn.inRound l (callsIn_wide.2 Eg.o)).mono ?_;rintro e V4 ⟨rfl,xN,hk4⟩)
    have HST:D9 ss (pre++[x])=⟨A,aW (D9 ss pre).M A (yA s),jk (D9 ss pre).A x.1 A⟩:=by
     rw[YF];unfold oQ;rw[HAX.o,dB,HE.o,hA,Int.toNat_natCast]
    have z2:=iC.o.size;have z3:=jP.o.size;have z4:=HW3.o.size;have kpB:∀{b:Nat} {c:List Value} {t:TypeId},Blk V1 b c t→b≠g2+1+1+1→b≠gm+1→b≠mb→Blk V4 b c t:=λh h1 h2 h3=>(((h.keep iC.o h1).keep jP.o h2).bel HW3.o).keep hk4 h3;have kq:Keep (λk=>g2≤k) V1 V4:=((((iC.o.mono (λk hk=>by omega)).tr (jP.o.mono (λk hk=>by omega))).tr (Keep.of_bel _ HW3.o)).tr (hk4.mono (λk hk=>by omega)));refine⟨((xK.o.trans (vJ HW3.o)).from _).trans (UI hk4 (λk hk=>by simp;omega)),?_,⟨?_,?_,?_,?_,?_,?_,?_,?_,?_,?_,?_⟩⟩
    ·exact((HKP.o.trans (xA iC.o (λk hk=>by omega) (by omega) jsz)).trans (xA jP.o (λk hk=>by omega) (by omega) (by omega))).trans ((xA (Keep.of_bel (λ_=>False) HW3.o) (λk hk=>hk.elim) (by omega) (by omega)).trans (xA hk4 (λk hk=>by omega) (by omega) (by omega)))
    ·have:=kpB J.o.1 (by omega) (by omega) (by omega)
     exact this
    ·have:=kpB J.o.2.1 (by omega) (by omega) (by omega)
     exact this
    ·have:=kpB J.o.2.2.1 (by omega) (by omega) (by omega)
     exact this
    ·rw[HST];exact((HS5.o.keep jP.o (by omega)).bel HW3.o).keep hk4 (by show ¬g2+1+1+1=mb;omega)
    ·have:=kpB J.o.2.2.2.1 (by omega) (by omega) (by omega)
     exact this
    ·have:=(HSA.o.bel HW3.o).keep hk4 (by show ¬gm+1=mb;omega)
     rw[YE _ _ _ _ (aW (D9 ss pre).M A (yA s)) A]at this;rw[HST];exact this
    ·have:=kpB J.o.2.2.2.2.2.1 (by omega) (by omega) (by omega)
     exact this
    ·rw[HST];exact xN
    ·intro i hi
     rcases List.mem_append.1 hi with hi|hi
     ·exact afO.out i hi
     ·obtain rfl:=List.mem_singleton.1 hi
      exact nU.o
    ·exact J.o.2.2.2.2.2.2.2.trans (kq.below g2 (by omega) (λk hk=>hk))
    ·have:=hk4.size
     show W0.heap.size<V4.heap.size
     omega
 case done=>
  rintro D ys W hD rfl hI hK;have hst:D9 ss (oK ss.length ss.length)=aK ss:=by unfold D9 aK;rw[yB _ _ (bM _),Nat.sub_self]
  have hgood:Good ss:=λi hi=>by
   have hm:i∈(oK ss.length ss.length).map (λi:Ix ss.length=>i.1):=by
    rw[yB _ _ (bM _),Nat.sub_self];unfold eG
    simpa using hi
   obtain⟨j,hj,rfl⟩:=List.mem_map.1 hm;exact hI.good j hj
  have J:Hid (Blk W g2 [.map none] 113∧Blk W (g2+1) [.int .u64 0] 37∧Blk W (g2+1+1) [.nilIface] 46∧Blk W gm [.map (some mb)] 113∧Blk W (gm+1) (rowA (aK ss) ss.length) 37∧
   Blk W (gm+1+1) [.slice (some ⟨gm+1,0,none⟩) ss.length ss.length] 323∧Sp W mb (ah dR (aK ss).M)∧Below g2 w W):=xh (by rw[←hst];exact⟨hI.r2,hI.r3,hI.r4,hI.r6,hI.ra,hI.r7,hI.sp,hI.bel⟩)
  have j5:Blk W (g2+1+1+1) [.int .u64 (aK ss).e] 37:=by rw[←hst];exact hI.r5
  have hbd:=l9 ss hgood hn;have hsb:=rJ ss hgood hn;have nU:=xh hgood;have HDK:=xh hK;have hDl:D<W.heap.size:=(Array.getElem?_eq_some_iff.1 hK).1;have hD2:gm+1+1<D:=by simp at hD;omega
  obtain⟨e0,he⟩:=e_x ((aK ss).e);obtain⟨xB,zM⟩:∃xB:Nat,iq (aK ss) ss.length=xB:=⟨(iq (aK ss) ss.length).toNat,by omega⟩;have hand:bits .andNot .u64 (e0-8*((ss.length:Int)+2)) 15=(xB:Int):=by
   rw[UH _ (by omega) (by omega),←zM,←he];rfl
  rw[he]at hbd hsb j5;rw[zM]at hsb;obtain⟨hb0,hb1⟩:=hbd;obtain⟨hs0,hs1,hs2⟩:=hsb;have HE:=xh he;have aaR:=xh zM;have c5:W.cell? ⟨g2+1+1+1,0,none⟩=some (.int .u64 e0):=j5.cell 0;have c7:W.cell? ⟨gm+1+1,0,none⟩=some (.slice (some ⟨gm+1,0,none⟩) ss.length ss.length):=J.o.2.2.2.2.2.1.cell 0;clear hst hgood he zM hI j5 hK;go_upto_region 15 with fail
  have HLR:Hid ((rowA (aK ss) ss.length).length=ss.length*1):=xh (by simp[rowA]);have HOR:Hid (∀v∈rowA (aK ss) ss.length,v.oneCell'=true):=xh (λv hv=>by obtain⟨i,_,rfl⟩:=List.mem_map.1 hv;rfl);have HWE:=xh (YH (aK ss) ss.length);generalize rowA (aK ss) ss.length=ra at *
  go_upto_region 16 with(first
   | (refine au rfl 323 37 (.tmp 64) rfl [.int .u64 (ss.length:Nat)] rfl underlying323 tZ (by show 0<1;omega) (by show 1≤2^24;omega) ?_;intro V1 B1 K1
      have J1:=xh (J.o.2.2.2.2.1.bel K1);have c7':V1.cell? ⟨gm+1+1,0,none⟩=some (.slice (some ⟨gm+1,0,none⟩) ss.length ss.length):=(J.o.2.2.2.2.2.1.bel K1).cell 0)
   | (refine xy rfl (.tmp 65) (.tmp 66) 323 rfl underlying323 tZ (by omega) rfl (OM B1.out rfl (bM W.heap.size)) (gm+1) ss.length ss.length ra 37 rfl J1.o HLR.o HOR.o (by unfold maxLen;omega) (by omega) K1.size ?_;intro v2 V2 R2 K2)
   | (refine au rfl 323 37 (.const (.int .u64 0)) rfl [.int .u64 0] rfl underlying323 tZ (by show 0<1;omega) (by show 1≤2^24;omega) ?_;intro V3 B3 K3)
   | (refine bu rfl (.tmp 67) (.tmp 68) 323 rfl underlying323 tZ (by omega) rfl (aO R2 K3) _ [.int .u64 0] 37 rfl B3.out rfl (by intro v hv;simp at hv;rcases hv with rfl;rfl) (by unfold maxLen;omega) (by omega) (bU K1.size (bU K2.size K3.size)) ?_;intro v4 V4 R4 K4))
  have hKW:Keep (λi=>W.heap.size≤i) W V4:=((((Keep.of_bel _ K1).tr (K2)).tr (Keep.of_bel _ K3)).tr K4);rw[HWE.o,show 1+ss.length+1=ss.length+2 from by omega]at R4;obtain⟨pw,cw,rfl,_,_,hpw⟩:=aG R4;obtain⟨gw,rfl,akb,hgw1,afQ,_⟩:=hpw.resolve_left (by omega);have ug:=xh hKW;have HCW:Hid (∀j,j<ss.length+2→V4.cell? ⟨gw,j,none⟩=some (.int .u64 (wordAt (aK ss) ss.length j))):=xh (λj hj=>by
   rw[afQ j (by simpa using hj),fA,List.getElem?_range hj];rfl)
  clear hKW R4 hpw afQ B1 B3 K1 K2 K3 K4 R2 J1 c7' HLR HOR HWE c5 c7;have akc:mb<W.heap.size:=J.o.2.2.2.2.2.2.1.lt;have akd:gm<W.heap.size:=J.o.2.2.2.1.lt;have ait:Hid (Sp V4 mb (ah dR (ja (aK ss) ss.length 0))):=xh (J.o.2.2.2.2.2.2.1.keep ug.o (by omega));have HM4:Hid (Blk V4 gm [.map (some mb)] 113):=xh (J.o.2.2.2.1.keep ug.o (by omega));have aiu:W.heap.size≤V4.heap.size:=ug.o.size;have aap:V4.heap.size≤V4.heap.size:=bM _;go_wp2
  go_loopw [72] (λi wr=>∃k:Nat,k≤ss.length+2∧i=.int .i64 k∧Sp wr mb (ah dR (ja (aK ss) ss.length k))∧Keep (λq=>q=mb) V4 wr) (λi _=>ss.length+2-(intOf i).toNat)
  case atStart=>exact⟨0,Nat.zero_le _,rfl,ait.o,Keep.refl _ _⟩
  case round=>
   obtain⟨k,hk,rfl,hsp,hkr⟩:=hrel;have Hg:=xh hsp;have uf:=xh hkr;have hzr:=hkr.size;clear hsp hkr;by_cases hlt:k<ss.length+2
   ·have hcw:wr.cell? ⟨gw,k,none⟩=some (.int .u64 (wordAt (aK ss) ss.length k)):=(uf.o.cell ⟨gw,k,none⟩ hgw1 (by show ¬gw=mb;omega)).trans (HCW.o k hlt)
    have hwb:=vH ss nU.o hn k;have zD:Hid (ja (aK ss) ss.length (k+1)=aW (ja (aK ss) ss.length k) (xB+8*k) (gu (wordAt (aK ss) ss.length k))):=xh (by rw[ja,aaR.o,Int.toNat_natCast]);obtain⟨hw0,hw1⟩:=hwb;generalize wordAt (aK ss) ss.length k=wk at *
    go_upto_region 20 with fail
    have kA:Bel wr (wr.alloc (.cells #[.int .u8 0,.int .u8 0,.int .u8 0,.int .u8 0,.int .u8 0,.int .u8 0,.int .u8 0,.int .u8 0] 291)):=Below.heap_alloc' wr _;have BA:Blk (wr.alloc (.cells #[.int .u8 0,.int .u8 0,.int .u8 0,.int .u8 0,.int .u8 0,.int .u8 0,.int .u8 0,.int .u8 0] 291)) wr.heap.size (rowOf (λ_=>0) 8) 291:=Blk.new wr [_,_,_,_,_,_,_,_] _;generalize wr.alloc (.cells #[.int .u8 0,.int .u8 0,.int .u8 0,.int .u8 0,.int .u8 0,.int .u8 0,.int .u8 0,.int .u8 0] 291)=VA at *
    have aaS:=xh (put_any wr.heap.size 0 8 (λ_=>0) 291 8 wk VA BA (by omega) (by omega) (by omega) hw0 (by omega));have KA:=xh kA;have hgA:wr.heap.size<VA.heap.size:=BA.lt;clear kA BA;go_upto_region 21 with(go_at_call 146;with_reducible refine aH aaS.o ?_;rintro e VB ⟨rfl,BB,KB⟩)
    rw[air]at BB;have hcm:VB.cell? ⟨gm,0,none⟩=some (.map (some mb)):=(((HM4.o.keep uf.o (by show ¬gm=mb;omega)).bel KA.o).keep KB (by show ¬gm=wr.heap.size;omega)).cell 0;have afR:Sp VB mb (ah dR (ja (aK ss) ss.length k)):=((Hg.o.bel KA.o).keep KB (by have:=Hg.o.lt;show ¬mb=wr.heap.size;omega));have HBT:Hid (jF VB wr.heap.size 0 (gu wk)):=xh ⟨λi hi=>by rw[Nat.zero_add,BB.cell,fA],zx wk hw0 (by omega)⟩;have Eg:Hid (∀V,Bel VB V→Calls prog 84 #[.map (some mb),.int .u64 ((xB:Int)+8*k),.slice (some ⟨wr.heap.size,0,none⟩) 8 8] V λe w'=>e=.returned (.tuple #[])∧Sp w' mb (ah dR (ja (aK ss) ss.length (k+1)))∧Keep (λk=>k=mb) V w'):=xh (λV hV=>by
     have:=Bz mb dR (ja (aK ss) ss.length k) (xB+8*k) (gu wk) (some ⟨wr.heap.size,0,none⟩) wr.heap.size 0 8 V (afR.bel hV) (by rw[ig];omega) (λ_=>rfl) (HBT.o.keep (Keep.of_bel (λ_=>False) hV) (λ_ h=>h)) (by rw[ig];omega) (λa h1 h2=>by
      rw[ig]at h2;unfold dR;rw[if_pos (by omega)];rfl)
     rw[ig,←zD.o,show((xB+8*k:Nat):Int)=(xB:Int)+8*k from by omega]at this;exact this)
    have HKB:Hid (Keep (λq=>q=mb) V4 VB):=xh ((uf.o.tr (Keep.of_bel _ KA.o)).dY KB (λi hi=>.inr (by omega)));have hk8:IntKind.u64.wrap ((xB:Int)+8*k)=(xB:Int)+8*k:=by rw[IntKind.wrap_u64];omega
    have hk9:IntKind.u64.wrap (8*(k:Int))=8*k:=by rw[IntKind.wrap_u64];omega
    clear afR BB KB;go_still_tail 7,(by kernel_rfl)
    change wpList _ _ _ _ _ VB.drew
    have kd:Bel VB VB.drew:=Below.drew (Below.refl _ _);generalize VB.drew=VC at *
    have jY:=xh kd;clear kd;go_wp2_with (go_at_call 84;with_reducible refine aH (Eg.o VC jY.o) ?_;rintro e VD ⟨rfl,afS,hkD⟩)
    have HSD:=xh afS;have aiv:=xh hkD;clear afS hkD
    go_roundw
    case rel=>exact⟨k+1,by omega,by go_num,HSD.o,(HKB.o.tr (Keep.of_bel _ jY.o)).tr aiv.o⟩
    case measure=>simp[intOf]<;>omega
   ·obtain rfl:k=ss.length+2:=by omega
    have hkk:Keep (λq=>W.heap.size≤q∨q=mb) W wr:=(ug.o.mono (λ_ h=>.inl h)).tr (uf.o.mono (λ_ h=>.inr h));have HKK:=xh hkk;have e2:=J.o.1.keep hkk (by have:=J.o.1.lt;omega);have e3:=J.o.2.1.keep hkk (by have:=J.o.2.1.lt;omega);have e4:=J.o.2.2.1.keep hkk (by have:=J.o.2.2.1.lt;omega);have e6:=J.o.2.2.2.1.keep hkk (by omega);have HD2:Hid (wr.heap[D]?=some (.deferred (some []))):=xh ((hkk.block D hDl (by omega)).trans HDK.o);have x2:=e2.cell 0;have x3:=e3.cell 0;have x4:=e4.cell 0;have x6:=e6.cell 0;simp only[List.getElem?_cons_zero]at x2 x3 x4 x6
    have f2:=e2.frozen 0;have f3:=e3.frozen 0;have f4:=e4.frozen 0;have l2:=e2.lt;have l3:=e3.lt;have l4:=e4.lt;have E2:=xh e2;have E3:=xh e3;have E4:=xh e4;clear e2 e3 e4 e6 hkk aiu aap;go_wp2
    have HD3:(((wr.setCell ⟨g2,0,none⟩ (.map (some mb))).setCell ⟨g2+1,0,none⟩ (.int .u64 xB)).setCell ⟨g2+1+1,0,none⟩ .nilIface).heap[D]?=some (.deferred (some [])):=
     (((KeepsOthers.setCell _ _ _).trans (KeepsOthers.setCell _ _ _)).trans (KeepsOthers.setCell _ _ _)).same D _ HD2.o rfl
    have E2':=(((E2.o.setCell (o:=0) (.map (some mb))).aB (a:=⟨g2+1,0,none⟩) (by simp) (.int .u64 xB)).aB (a:=⟨g2+1+1,0,none⟩) (by simp;omega) .nilIface);have E3':=(((E3.o.aB (a:=⟨g2,0,none⟩) (by simp) (.map (some mb))).setCell (o:=0) (.int .u64 xB)).aB (a:=⟨g2+1+1,0,none⟩) (by simp) .nilIface);have E4':=(((E4.o.aB (a:=⟨g2,0,none⟩) (by simp;omega) (.map (some mb))).aB (a:=⟨g2+1,0,none⟩) (by simp) (.int .u64 xB)).setCell (o:=0) .nilIface);have aiw:=((Hg.o.setCell (a:=⟨g2,0,none⟩) (.map (some mb))).setCell (a:=⟨g2+1,0,none⟩) (.int .u64 xB)).setCell (a:=⟨g2+1+1,0,none⟩) .nilIface;have hB0:Below g2 w wr:=J.o.2.2.2.2.2.2.2.trans (HKK.o.below g2 (by omega) (λq hq=>by omega));have HBF:=((hB0.setCell (p:=⟨g2,0,none⟩) (bM _) (.map (some mb))).setCell (p:=⟨g2+1,0,none⟩) (by simp) (.int .u64 xB)).setCell (p:=⟨g2+1+1,0,none⟩) (by simp;omega) .nilIface;generalize (((wr.setCell ⟨g2,0,none⟩ (.map (some mb))).setCell ⟨g2+1,0,none⟩ (.int .u64 xB)).setCell ⟨g2+1+1,0,none⟩ .nilIface)=WF at *
    have hg:=grownBy_putObj' WF D (.deferred none);have hr:∀r,some D=some r→D≤r∧∃o:Obj,WF.heap[r]?=some o∧o.isCells=false:=λr e=>by cases e;exact⟨bM _,_,HD3,rfl⟩
    have y2:=(iF E2' hg hr).cell 0;have y3:=(iF E3' hg hr).cell 0;have y4:=(iF E4' hg hr).cell 0;simp only[List.set_cons_zero,List.getElem?_cons_zero]at y2 y3 y4
    have HB:=xh (own_below HBF (by omega) (Nat.le_of_lt E2'.lt) hg hr);have aix:=xh (YG aiw (by omega) hg hr);rw[←HG2.o]at HB;refine⟨by simp,.inl ⟨_,_,rfl,run_takeDeferred HD3,?_⟩⟩;refine⟨.tuple #[.map (some mb),.int .u64 xB,.nilIface],by simp[results,results100,go_sem,y2,y3,y4],HB.o,λ_=>⟨mb,by rw[aaR.o],aix.o⟩,λh=>absurd nU.o h⟩
 case stop=>
  rintro D c pre W hD _ hX hK;obtain⟨rfl,h2,h3,h4,hbad,hbel⟩:=hX;have hg:=grownBy_putObj' W D (.deferred none);have hr:∀r,some D=some r→D≤r∧∃o:Obj,W.heap[r]?=some o∧o.isCells=false:=λr e=>by cases e;exact⟨bM _,_,hK,rfl⟩
  have c2:=(iF h2 hg hr).cell 0;have c3:=(iF h3 hg hr).cell 0;have c4:=(iF h4 hg hr).cell 0;simp only[List.getElem?_cons_zero]at c2 c3 c4
  have HB:=xh (own_below hbel (by simp only;simp at hD;omega) (Nat.le_of_lt h2.lt) hg hr);simp only at HB
  rw[←HG2.o]at HB;clear h2 h3 h4 hbel
  gi_wp2
  refine⟨by simp,.inl ⟨_,_,rfl,run_takeDeferred hK,?_⟩⟩;refine⟨.tuple #[.map none,.int .u64 0,fH 6],by simp[results,results100,go_sem,c2,c3,c4],HB.o,λh=>absurd h hbad,λ_=>rfl⟩
end
end Go.Proofs.YtcnjjchlebmfiaaGreatDoor
