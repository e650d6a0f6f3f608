/- Struct and slice literals, fields: what 'fill' yields where the parts lie side by side. No program. -/
import Derived.Laws.Tables
import Derived.Great.BuildSlice
import Derived.Laws.OwnMore
import Derived.Below
import Derived.Lib.Hide
import Derived.Test.YtjdaddmjpicflaaGreatDoorP00
import Derived.Laws.MakeOwn
import Derived.Deep.DeepCutAuto
import Derived.Test.YtjdaddmjpicflaaGreatDoorP02
import Derived.Test.YtjdaddmjpicflaaGreatDoorP03
import Derived.RangeFuncWrites
import Derived.RangeFuncLeaves
import Derived.RangeFuncCalls
import Derived.RangeFuncBox
import Derived.Shelf.Abstract
import Derived.WalkKit
import Derived.OwnWalkIn
import Derived.TacticsInMore
import Derived.LoopNIn
import Derived.LoopIn
set_option linter.unusedVariables false
set_option linter.unusedSimpArgs false
set_option maxRecDepth 100000
set_option maxHeartbeats 16000000
namespace Go.Proofs.YtjdaddmjpicflaaGreatDoor
theorem fill_next (place:Nat→Option (Nat×Nat)) (pre mid post:List Value) (i:Nat) (v:Value) (rest:List (Nat×Value)) (hp:place i=some (pre.length,v.cells.size)) (hm:mid.length=v.cells.size) :
 Instr.fill place (pre++(mid++post)).toArray ((i,v)::rest)=Instr.fill place (pre++(v.cells.toList++post)).toArray rest:=by
 rw[Instr.fill,hp]
 simp only
 rw[if_neg (by simp;omega)]
 congr 1
 rw[←Array.foldl_toList,Array.toList_zipIdx]
 obtain⟨h1,h2⟩:=Great.foldl_set pre.length v.cells.toList 0 (pre++(mid++post)).toArray
 apply Array.ext_getElem?
 intro k
 have:=h2 k
 rw[this]
 simp only[Nat.add_zero,Array.length_toList,List.size_toArray,List.length_append,List.getElem?_toArray]
 by_cases hk:pre.length≤k
 ·rw[List.getElem?_append_right hk,List.getElem?_append_right hk]
  by_cases hk2:k-pre.length<v.cells.size
  ·rw[if_pos (by omega),List.getElem?_append_left (by simpa using hk2)]
  ·rw[if_neg (by omega),List.getElem?_append_right (by omega),List.getElem?_append_right (by simp;omega)]
   simp[hm]
 ·rw[if_neg (by omega),List.getElem?_append_left (by omega),List.getElem?_append_left (by omega)]
theorem info_of {P:Program} {t:TypeId} {n b:Nat} (h:(P.info? t).map (λi=>(i.size,i.bytes,(i.zero.map (·.cells.size))))=some (n,b,some n)) :
 ∃i z,P.info? t=some i∧i.zero=some z∧i.size=n∧i.bytes=b∧z.cells.size=n:=by
 cases hi:P.info? t with
 | none=>rw[hi]at h;cases h
 | some i=>
   rw[hi]at h
   simp only[Option.map_some,Option.some.injEq,Prod.mk.injEq]at h
   cases hz:i.zero with
   | none=>rw[hz]at h;simp at h
   | some z=>
     rw[hz]at h
     simp only[Option.map_some,Option.some.injEq]at h
     exact⟨i,z,rfl,hz,h.1,h.2.1,h.2.2⟩
theorem built_struct {P:Program} {t:TypeId} {n b:Nat} (h:(P.info? t).map (λi=>(i.size,i.bytes,(i.zero.map (·.cells.size))))=some (n,b,some n)) {fs:List Field} (hu:P.underlying t=some (.struct fs.toArray)) {places:List (Nat×Nat)}
 (hp:fs.mapM (λf=>(P.info? f.type).map λi=>(f.offset,i.size))=some places) (parts:List (Nat×Value)) (r:Array Value) (hr:∀z:List Value,z.length=n→Instr.fill (places.toArray[·]?) z.toArray parts=some r):P.built t parts=some r:=by
 obtain⟨i,z,hi,hz,h1,h2,h3⟩:=info_of h
 unfold Program.built
 rw[hi,hu]
 simp only[hz,hp]
 have:=hr z.cells.toList (by simpa using h3)
 simpa using this
theorem split_at {α:Type} (z:List α) (n m:Nat) (h:z.length=n+m):∃a b,z=a++b∧a.length=n∧b.length=m:=
 ⟨z.take n,z.drop n,(List.take_append_drop n z).symm,by simp;omega,by simp;omega⟩
theorem wpList_buildSlice_one {P:Program} {w:World} {ops:Array Oper} {rest:List Oper} {o:Oper} {a:Act} {Q:Exit→Act→World→Prop} (hg:o.guard=none) (t e:TypeId) (x:Operand) (ho:o.op=.buildSlice t 1 #[(0,x)])
 (cs:List Value) {b:Nat} (hx:(a.eval x).cells=cs.toArray) (hu:P.underlying t=some (.slice e)) (h:(P.info? e).map (λi=>(i.size,i.bytes,(i.zero.map (·.cells.size))))=some (cs.length,b,some cs.length)) (hs:0<cs.length) (hb:cs.length≤2^24)
 (hk:∀w',Go.RowKit.Hid (w'.heap[w.heap.size]?=some (.cells cs.toArray e (0,0)))→Go.RowKit.Below w.heap.size w w'→wpList P ops Q rest (a.put o.dst (.slice (some ⟨w.heap.size,0,none⟩) 1 1)) w'):wpList P ops Q (o::rest) a w:=by
 obtain⟨i,z,hi,hz,h1,h2,h3⟩:=info_of h
 refine wpList_buildSlice hg t e 1 #[(0,x)] ho cs.toArray i z hu hi hz (by rw[h1];omega) (by rw[h1];omega) ?_ ?_
 ·simp only[Nat.one_mul,List.map_toArray,List.map_cons,List.map_nil]
  obtain⟨zs,hzs⟩:∃zs:List Value,(Array.range i.size).map (z.cells[·% z.cells.size]!)=zs.toArray:=⟨_,(Array.toArray_toList).symm⟩
  have hl:zs.length=cs.length:=by have:=congrArg Array.size hzs;simpa [h1]using this.symm
  rw[hzs]
  have:=fill_next (λk=>some (k*i.size,i.size)) [] zs [] 0 (a.eval x) [] (by simp[hx,h1]) (by rw[hl,hx];simp)
  simpa [hx,Instr.fill]using this
 ·exact hk _ (xh (heap_alloc_new w _)) ((Go.RowKit.Below.refl _ w).alloc (Nat.le_refl _) _)
end Go.Proofs.YtjdaddmjpicflaaGreatDoor
namespace Go.Proofs.YtjdaddmjpicflaaGreatDoor
open Go.RowKit
def BS (w:World) (p:Option Addr) (L:List Int):Prop:=(∀x∈L,0≤x∧x≤255)∧(0<L.length→∃b o,p=some ⟨b,o,none⟩∧b<w.heap.size∧Bts w b o L)
theorem BS.keep {w w':World} {S:Nat→Prop} {p:Option Addr} {L:List Int} (h:BS w p L) (k:Keep S w w') (hs:∀b,b<w.heap.size→¬S b):BS w' p L:=
 ⟨h.1,λh0=>by
   obtain⟨b,o,h1,h2,h3⟩:=h.2 h0
   exact⟨b,o,h1,Nat.lt_of_lt_of_le h2 k.size,h3.keep k (λ_=>hs b h2)⟩⟩
theorem BS.bel {w w':World} {p:Option Addr} {L:List Int} (h:BS w p L) (k:Bel w w'):BS w' p L:=h.keep (Keep.of_bel (λ_=>False) k) (λ_ _ h=>h)
theorem byteInfo:(Tryz.prog.info? 5).map (λi=>(i.zero,i.size,i.bytes))=some (some (.int .u8 0),1,1):=by kernel_rfl
theorem make_bytes (n:Nat) (hn:n≤1000000):∃zs:List Value,zs.length=n∧∀(x:Int) (w:World),x=n→(Instr.makeSlice 32 (.int .i64 x) (.int .i64 x)).run Tryz.prog w=.ok (.slice (some ⟨w.heap.size,0,none⟩) n n) (w.alloc (.cells zs.toArray 5)):=by
 obtain⟨i,hi,h1,h2,h3⟩:=info_parts byteInfo
 refine⟨(madeCells (Value.int .u8 0).cells (n*i.size)).toList,by rw[h2];simp[size_madeCells],λx w hx=>?_⟩
 subst hx
 have:=run_makeSlice (P:=Tryz.prog) (w:=w) 32 5 i (.int .u8 0) Tryz.underlying32 hi h1 .i64 .i64 n n (by omega) (by omega) (by rw[h2];omega) (by rw[h3];omega) (by omega)
 simpa using this
theorem roomy_any (p:Option Addr) (cap:Nat) (L:List Int) (w:World) (hr:BS w p L) (hlen:L.length≤200000) :
 Calls Tryz.prog 16 #[.slice p L.length cap] w λe w'=>∃g,e=.returned (.slice (some ⟨g,0,none⟩) L.length (L.length+2))∧w.heap.size≤g∧Blk w' g ((L++[71,72]).map (Value.int .u8)) 5∧Bel w w':=by
 obtain⟨zs,hzl,hmk⟩:=make_bytes (L.length+2) (by omega)
 have hmk2:=λW=>hmk ((L.length:Int)+2) W (by omega)
 obtain⟨news,hnews⟩:∃news:List Value,news=L.map (Value.int .u8):=⟨_,rfl⟩
 have hnl:news.length=L.length:=by rw[hnews];simp
 have HZL:=xh hzl
 have HNL:=xh hnl
 have HNO:Hid (∀v∈news,v.oneCell'=true):=xh (by rw[hnews];intro v hv;obtain⟨x,_,rfl⟩:=List.mem_map.1 hv;rfl)
 have HSRC:Hid (∀W,Bel w W→0<news.length→∃ad,p=some ad∧∀j v,news[j]?=some v→W.cell? (ad.add j)=some v):=xh λW hW h0=>by
  obtain⟨b,o,h1,h2,h3⟩:=(hr.bel hW).2 (by omega)
  refine⟨_,h1,λj v hj=>?_⟩
  have hjl:=(List.getElem?_eq_some_iff.1 hj).1
  rw[Addr.add_mid,h3.cell j (by omega),←hj,hnews,List.getElem?_map]
 have HNW:=xh hnews
 clear hmk hzl hnl hnews
 go_enter Tryz.func16,Tryz.ntmps16
 go_upto_region 3 with fail
 have k1:Bel w (w.alloc (.cells zs.toArray 5)):=Below.heap_alloc' w _
 have B1:=Blk.new w zs 5
 generalize w.alloc (.cells zs.toArray 5)=w1 at *
 have K1:=xh k1
 have HB1:=xh B1
 have hg:=k1.size
 obtain⟨g,hge⟩:∃g,g=w.heap.size:=⟨_,rfl⟩
 rw[←hge]at HB1
 have HGE:=xh hge
 rw[←hge]
 clear k1 B1 hge hmk2
 go_upto_region 4 with(refine wpList_copy_splice rfl (.tmp 10) (.tmp 11) 32 32 rfl 5 Tryz.underlying32 (by kernel_rfl) _ _ _ _ _ _ rfl rfl g 0 zs 5 HB1.out news (by rw[HNL.out];exact(Nat.min_eq_left (by omega)).symm) (λh0=>⟨rfl,HSRC.out _ K1.out h0⟩) (by rw[HNL.out,HZL.out];omega) HNO.out g w1 (Below.refl _ _) (Nat.le_refl _) ?_;intro w2 B2 K2)
 obtain⟨a,b,c,hz1,hz2⟩:∃a b c,zs=a++[b,c]∧a.length=L.length:=by
  obtain⟨a,z,h1,h2,h3⟩:=split_at zs L.length 2 HZL.out
  match z,h3 with
  | [b,c],_=>exact⟨a,b,c,h1,h2⟩
 have hsp:splice zs 0 news=news++[b,c]:=by
  unfold splice
  rw[hz1,Nat.zero_add,HNL.out,←hz2,List.drop_left]
  simp
 have B3:Blk w2 g (news++[b,c]) 5:=by have:=B2.out;rw[hsp]at this;exact this
 have c0:=B3.cell L.length
 have c1:=B3.cell (L.length+1)
 rw[List.getElem?_append_right (by rw[HNL.out];omega),HNL.out]at c0 c1
 simp only[Nat.sub_self,List.getElem?_cons_zero,Nat.add_sub_cancel_left,List.getElem?_cons_succ]at c0 c1
 have f0:=B3.frozen
 have hl2:=B3.lt
 have HB3:=xh B3
 have HK2:Hid (Bel w w2):=xh (by have:=K2;rw[HGE.out]at this;exact Below.trans K1.out this)
 have hgw:w.heap.size≤g:=by rw[HGE.out];exact Nat.le_refl _
 clear B2 K2 hz1 hz2 hsp B3 HB1
 go_wp2
 go_ret
 refine⟨g,rfl,hgw,?_,(HK2.out.store (p:=⟨g,L.length,none⟩) hgw _).store (p:=⟨g,L.length+1,none⟩) hgw _⟩
 have:=(HB3.out.setCell (o:=L.length) (.int .u8 71)).setCell (o:=L.length+1) (.int .u8 72)
 have e:((news++[b,c]).set L.length (.int .u8 71)).set (L.length+1) (.int .u8 72)=(L++[71,72]).map (Value.int .u8):=by
  rw[←HNL.out,List.set_append_right _ _ (Nat.le_refl _),List.set_append_right _ _ (by omega),HNW.out]
  simp
 rw[e]at this
 exact this
theorem same_bytes (p q:Option Addr) (c d:Nat) (L:List Int) (w:World) (hp:BS w p L) (hq:BS w q L) (hlen:L.length≤1000000) :
 Calls Tryz.prog 28 #[.slice p L.length c,.slice q L.length d] w λe w'=>e=.returned (.bool true)∧∃n,w'=w.drewN n:=by
 have HP:=xh hp
 have HQ:=xh hq
 clear hp hq
 go_enter Tryz.func28,Tryz.ntmps28
 go_wp2
 go_loopw [5] (λi wr=>∃k nn:Nat,k≤L.length∧i=.int .i64 k∧wr=w.drewN nn) (λi _=>L.length-(intOf i).toNat)
 case atStart=>exact⟨0,0,Nat.zero_le _,rfl,rfl⟩
 case round=>
  obtain⟨k,nn,hk,rfl,rfl⟩:=hrel
  by_cases hlt:k<L.length
  ·obtain⟨b1,o1,rfl,_,h1⟩:=HP.out.2 (by omega)
   obtain⟨b2,o2,rfl,_,h2⟩:=HQ.out.2 (by omega)
   have a1:w.cell? ⟨b1,o1+k,none⟩=some (.int .u8 (L.getD k 0)):=h1.at_ k hlt
   have a2:w.cell? ⟨b2,o2+k,none⟩=some (.int .u8 (L.getD k 0)):=h2.at_ k hlt
   clear h1 h2
   generalize L.getD k 0=x at *
   have hlt1:(k:Int)<(L.length:Int):=by omega
   have hk0:(0:Int)≤(k:Int):=by omega
   go_wp2
   go_quiet (fail)
   go_wp2
   go_roundw
   case rel=>exact⟨k+1,nn+nq,by omega,by go_num,by simp[World.drewN_drewN]⟩
   case measure=>simp[intOf]<;>omega
  ·obtain rfl:k=L.length:=by omega
   go_wp2
   go_ret
   exact⟨rfl,nn,rfl⟩
theorem still_any (g:Nat) (p:Option Addr) (cap:Nat) (L:List Int) (w:World) (hB:Blk w g ((L++[71,72]).map (Value.int .u8)) 5) (hr:BS w p L) (hlen:L.length≤200000) :
 Calls Tryz.prog 17 #[.slice (some ⟨g,0,none⟩) L.length (L.length+2),.slice p L.length cap] w λe w'=>e=.returned (.bool true)∧Keep (λk=>k=g) w w':=by
 have hg:=hB.lt
 have hbs:BS w (some ⟨g,0,none⟩) L:=⟨hr.1,λh0=>⟨g,0,rfl,hg,⟨λi hi=>by
  rw[Nat.zero_add,hB.cell,List.getElem?_map,List.getElem?_append_left hi],hr.1⟩⟩⟩
 have hsm:=same_bytes (some ⟨g,0,none⟩) p (L.length+2) cap L w hbs hr (by omega)
 have HSM:=xh hsm
 have c0:w.cell? ⟨g,L.length,none⟩=some (.int .u8 71):=by rw[hB.cell];simp
 have c1:w.cell? ⟨g,L.length+1,none⟩=some (.int .u8 72):=by rw[hB.cell];simp
 have HB:=xh hB
 clear hbs hsm hB hr
 go_enter Tryz.func17,Tryz.ntmps17
 go_wp2_with (go_at_call 28;refine Calls.mono HSM.out ?_;rintro e w1 ⟨rfl,n,rfl⟩)
 go_loopw [8] (λi wr=>∃(k:Nat) (l:List Int),k≤L.length+2∧i=.int .i64 k∧l.length=L.length+2∧Blk wr g (l.map (Value.int .u8)) 5∧Keep (λk=>k=g) w wr) (λi _=>L.length+2-(intOf i).toNat)
 case atStart=>exact⟨0,L++[71,72],Nat.zero_le _,rfl,by simp,HB.out,⟨rfl,rfl,rfl,Nat.le_refl _,λ_ _ _=>rfl⟩⟩
 case round=>
  obtain⟨k,l,hk,rfl,hl,hb,hkr⟩:=hrel
  by_cases hlt:k<L.length+2
  ·have cc:wr.cell? ⟨g,k,none⟩=some (.int .u8 (l.getD k 0)):=by
    rw[hb.cell,List.getElem?_map,List.getD_eq_getElem?_getD,List.getElem?_eq_getElem (by omega)];rfl
   have cf:=hb.frozen k
   have hgl:=hb.lt
   have HL:=xh hl
   have HBB:=xh hb
   have HKR:=xh hkr
   clear hl hb hkr
   generalize l.getD k 0=x at *
   go_wp2
   go_roundw
   case rel=>exact⟨k+1,l.set k (bits .xor .u8 x 85),by omega,by go_num,by rw[List.length_set];exact HL.out,by have:=HBB.out.setCell (o:=k) (.int .u8 (bits .xor .u8 x 85));rw[List.map_set];exact this,HKR.out.tr (Keep.setCell _ _ _ _)⟩
   case measure=>simp[intOf]<;>omega
  ·obtain rfl:k=L.length+2:=by omega
   have HKR:=xh hkr
   clear hkr hb hl
   go_wp2
   go_ret
   exact⟨rfl,HKR.out⟩
end Go.Proofs.YtjdaddmjpicflaaGreatDoor
namespace Go.Proofs.YtjdaddmjpicflaaGreatDoor
open Go.RowKit Go.Shelf
attribute [local go_sem] Oper.semAt_some
def bts (s:ByteArray):List Int:=s.data.toList.map λc=>(c.toNat:Int)
theorem bts_length (s:ByteArray):(bts s).length=s.size:=by simp[bts]
theorem bts_byte (s:ByteArray):∀x∈bts s,0≤x∧x≤255:=by
 intro x hx
 obtain⟨c,_,rfl⟩:=List.mem_map.1 hx
 have:=c.toNat_lt
 omega
def SS (n₀:Nat) (w:World) (p:Option Addr) (ss:List ByteArray):Prop:=
 0<ss.length→∃b o,p=some ⟨b,o,none⟩∧b<n₀∧∀j,(h:j<ss.length)→w.cell? ⟨b,o+j,none⟩=some (.string ss[j])
theorem SS.below {n₀:Nat} {w w':World} {p:Option Addr} {ss:List ByteArray} (h:SS n₀ w p ss) (hb:Below n₀ w w'):SS n₀ w' p ss:=λh0=>by
 obtain⟨b,o,h1,h2,h3⟩:=h h0
 exact⟨b,o,h1,h2,λj hj=>(hb.cell (p:=⟨b,o+j,none⟩) h2).trans (h3 j hj)⟩
def KpS (g B:Nat) (W W':World):Prop:=∀b,b<g∨b=B→W'.heap[b]?=W.heap[b]?
theorem KpS.refl (g B:Nat) (W:World):KpS g B W W:=λ_ _=>rfl
theorem KpS.trans {g B:Nat} {X Y Z:World} (h:KpS g B X Y) (k:KpS g B Y Z):KpS g B X Z:=λb hb=>(k b hb).trans (h b hb)
theorem KpS.putObj {g B:Nat} {w:World} (hg:g≤w.heap.size) (hB:B<w.heap.size) (W:World) (l:Nat) (o o':Obj) (hl:w.heap.size≤l) (_:W.heap[l]?=some o) (_:o.isCells=false) (_:o.isWalk=false):KpS g B W (W.putObj l o'):=
 λb hb=>World.putObj_heap_other (λe=>by omega)
theorem SS.kept {g B:Nat} {w w':World} {p:Option Addr} {ss:List ByteArray} (h:SS g w p ss) (hb:KpS g B w w'):SS g w' p ss:=λh0=>by
 obtain⟨b,o,h1,h2,h3⟩:=h h0
 exact⟨b,o,h1,h2,λj hj=>(World.cell?_of_block (a:=⟨b,o+j,none⟩) (hb b (.inl h2))).trans (h3 j hj)⟩
def revTo (n k:Nat):List Nat:=((List.range n).drop k).reverse
theorem revTo_self (n:Nat):revTo n n=[]:=by simp[revTo]
theorem revTo_step (n k:Nat) (h:k<n):revTo n k=revTo n (k+1)++[k]:=by
 unfold revTo
 rw[List.drop_eq_getElem_cons (by simpa using h)]
 simp
theorem revTo_length (n k:Nat):(revTo n k).length=n-k:=by simp[revTo]
abbrev Ix (n:Nat):={i:Nat // i<n}
def revIx (n:Nat):Nat→List (Ix n)
 | 0=>[]
 | k+1=>revIx n k++(if h:n-1-k<n then[⟨n-1-k,h⟩]else[])
theorem revIx_length (n:Nat):∀k,k≤n→(revIx n k).length=k
 | 0,_=>rfl
 | k+1,h=>by
   unfold revIx
   rw[dif_pos (by omega),List.length_append,revIx_length n k (by omega)]
   rfl
theorem revIx_val (n:Nat):∀k,k≤n→(revIx n k).map (λi:Ix n=>i.1)=revTo n (n-k)
 | 0,_=>by simp[revIx,revTo_self]
 | k+1,h=>by
   unfold revIx
   rw[dif_pos (by omega),List.map_append,revIx_val n k (by omega),revTo_step n (n-(k+1)) (by omega),show n-(k+1)+1=n-k from by omega]
   simp
   omega
abbrev encS (ss:List ByteArray) (i:Ix ss.length):Array Value:= #[.int .i64 (i.1:Nat),.string (ss[i.1]'i.2)]
theorem back1_in (F:Fence) (n:Nat) (hF:F.fn 153) (hro:F.round=none) (hn:1≤n) (l Bs n₀:Nat) (p:Option Addr) (cap:Nat) (ss:List ByteArray) (hreach:ss.length≤1000000) (J Jx:List (Ix ss.length)→World→Prop)
 (hY:∀pre x W,J pre W→pre.length<ss.length→YieldAt F (n-1) Tryz.prog l (encS ss x) W λe W'=>
   (e=.returned (.bool true)∧J (pre++[x]) W'∧KpS n₀ Bs W W')∨(e=.returned (.bool false)∧Jx (pre++[x]) W'))
 (W:World) (hBs:W.cell? ⟨Bs,0,none⟩=some (.slice p ss.length cap)) (hS:SS n₀ W p ss) (h0:J [] W) :
 CallsIn F n Tryz.prog 153 #[.func (.yield l) #[] #[],.pointer (some ⟨Bs,0,none⟩)] W λe W'=>(∃v,e=.returned v)∧
  ((∃ys,ys=revIx ss.length ss.length∧J ys W')∨(∃pre,True∧Jx pre W')):=by
 refine callsIn_of_wp Tryz.func153 rfl hF ?_ hro
 simp only[Tryz.ntmps153,List.size_toArray,List.length_cons,List.length_nil,Nat.reduceAdd,Nat.reduceSub,Array.replicate_succ,Array.replicate_zero,List.push_toArray,List.append_toArray,List.nil_append,List.cons_append]
 have HS:=xh hS
 clear hS
 gi_wp2
 gi_loopw [3] (λi wr=>∃k:Nat,k≤ss.length∧i=.int .i64 ((ss.length:Int)-1-k)∧J (revIx ss.length k) wr∧KpS n₀ Bs W wr)
  (λi _=>(intOf i+1).toNat)
 case atStart=>exact⟨0,Nat.zero_le _,by simp,h0,KpS.refl _ _ _⟩
 case round=>
  obtain⟨k,hk,rfl,hJs,hnx⟩:=hrel
  by_cases hlt:k<ss.length
  ·obtain⟨b,o,rfl,hb,hc⟩:=HS.out (by omega)
   have hBs':=(World.cell?_of_block (a:=⟨Bs,0,none⟩) (hnx Bs (.inr rfl))).trans hBs
   obtain⟨i,hi⟩:∃i:Nat,i=ss.length-1-k:=⟨_,rfl⟩
   have hil:i<ss.length:=by omega
   have hcx:=(World.cell?_of_block (a:=⟨b,o+i,none⟩) (hnx b (.inl hb))).trans (hc i hil)
   obtain⟨fn,tmps,assign,body,hy,hR⟩:=hY _ ⟨i,hil⟩ wr hJs (by rw[revIx_length _ _ hk];exact hlt)
   rw[show(ss.length:Int)-1-k=(i:Int)from by omega]
   have HI:=xh hi
   have HRV:Hid (revIx ss.length (k+1)=revIx ss.length k++[⟨i,hil⟩]):=xh (by
    rw[revIx,dif_pos (by omega)]
    congr 3
    omega)
   clear hi hc
   gi_wp2
   refine hR.mono ?_
   rintro e W3 (⟨rfl,hJ3,hk3⟩|⟨rfl,hJx3⟩)
   ·gi_wp2
    go_roundw
    case rel=>exact⟨k+1,by omega,by have:=HI.out;congr 1;omega,by rw[HRV.out];exact hJ3,hnx.trans hk3⟩
    case measure=>simp[intOf]<;>omega
   ·gi_wp2
    refine bodyPost_ret (results_none rfl _ _ _) rfl ?_
    exact⟨⟨_,rfl⟩,.inr ⟨_,trivial,hJx3⟩⟩
  ·obtain rfl:k=ss.length:=by omega
   rw[show(ss.length:Int)-1-ss.length = -1 from by omega]
   gi_wp2
   go_end0
   exact⟨⟨_,rfl⟩,.inl ⟨_,rfl,hJs⟩⟩
theorem back_stops (F:Fence) (n:Nat) (hF:F.fn 153) (hro:F.round=none) (hn:1≤n) (Bs n₀:Nat) (p:Option Addr) (cap:Nat) (ss:List ByteArray) (hreach:ss.length≤1000000) (w:World) (hBs:Bs<w.heap.size) (hn₀:n₀≤w.heap.size)
 (hc:w.cell? ⟨Bs,0,none⟩=some (.slice p ss.length cap)) (hS:SS n₀ w p ss) :
 SeqStopsK F n Tryz.prog 153 #[.pointer (some ⟨Bs,0,none⟩)] (encS ss) (KpS n₀ Bs) (λys=>ys=revIx ss.length ss.length) (λ_=>True) ss.length w:=λl J Jx W hW _ _ hY h0=>
 back1_in F n hF hro hn l Bs n₀ p cap ss hreach J Jx hY W ((hW.cell (p:=⟨Bs,0,none⟩) hBs).trans hc) (hS.below (hW.mono hn₀)) h0
theorem back_any (p:Option Addr) (len cap:Nat) (w:World) :
 Calls Tryz.prog 115 #[.slice p len cap] w λe w'=>e=.returned (.func (.func 153) #[] #[.pointer (some ⟨w.heap.size,0,none⟩)])∧w'=w.alloc (.cells #[.slice p len cap] 31):=by
 go_enter Tryz.func115,Tryz.ntmps115
 go_wp2
 go_ret
 exact⟨rfl,rfl⟩
theorem index_any (p:Option Addr) (cap:Nat) (l:List Int) (w:World) (hl:l.length≤1000000) (hr:BS w p l) :
 Calls Tryz.prog 154 #[.slice p l.length cap,.int .u8 0] w λe w'=>(∃r:Int,e=.returned (.int .i64 r)∧ -1≤r∧r≤1000000∧(0≤r↔(0:Int)∈l))∧w=w':=by
 have HR:=xh hr
 clear hr
 go_enter Tryz.func154,Tryz.ntmps154
 go_wp2
 go_loop [8] (λi=>∃k:Nat,k≤l.length∧i=.int .i64 k∧∀j,j<k→l.getD j 0≠0) (λi=>l.length-(intOf i).toNat)
 case atStart=>exact⟨0,Nat.zero_le _,rfl,λj hj=>by omega⟩
 case round=>
  obtain⟨k,hk,rfl,hno⟩:=hrel
  have HN:=xh hno
  clear hno
  by_cases hlt:k<l.length
  ·obtain⟨b,o,rfl,_,h1⟩:=HR.out.2 (by omega)
   have a1:=h1.at_ k hlt
   have HM:Hid (l.getD k 0∈l):=xh (by rw[List.getD_eq_getElem?_getD,List.getElem?_eq_getElem hlt];exact List.getElem_mem hlt)
   clear h1
   by_cases hz:l.getD k 0=0
   ·rw[hz]at HM a1
    clear hz
    go_wp2
    go_ret
    exact⟨⟨k,rfl,by omega,by omega,⟨λ_=>HM.out,λ_=>by omega⟩⟩,rfl⟩
   ·have HZ:=xh hz
    have hz2:((0:Int)==l.getD k 0)=false:=by simp;exact λh=>hz h.symm
    clear hz
    generalize hx:l.getD k 0=x at *
    have HX:=xh hx
    clear hx
    go_wp2
    go_round
    case rel=>exact⟨k+1,by omega,by go_num,λj hj=>by
     by_cases e:j=k
     ·subst e;rw[HX.out];exact HZ.out
     ·exact HN.out j (by omega)⟩
    case measure=>simp[intOf]<;>omega
  ·obtain rfl:k=l.length:=by omega
   go_wp2
   go_ret
   exact⟨⟨-1,rfl,by omega,by omega,⟨λh=>by omega,λh=>by
    obtain⟨j,hj,he⟩:=List.getElem_of_mem h
    have:=HN.out j hj
    rw[List.getD_eq_getElem?_getD,List.getElem?_eq_getElem hj]at this
    exact absurd he this⟩⟩,rfl⟩
theorem contains_any (p:Option Addr) (cap:Nat) (l:List Int) (w:World) (hl:l.length≤1000000) (hr:BS w p l) :
 Calls Tryz.prog 116 #[.slice p l.length cap,.int .u8 0] w λe w'=>e=.returned (.bool (decide ((0:Int)∈l)))∧w=w':=by
 have HI:=xh (index_any p cap l w hl hr)
 clear hr
 go_enter Tryz.func116,Tryz.ntmps116
 go_wp2_with (go_at_call 154;with_reducible refine Calls.mono HI.out ?_;rintro e w1 ⟨⟨r,rfl,h1,h2,h3⟩,rfl⟩;have H3:=xh h3;clear h3)
 all_goals
  go_ret
  exact⟨by rw[show decide ((0:Int)∈l)=decide (0≤r)from by rw[decide_eq_decide];exact H3.out.symm];try rfl,rfl⟩
end Go.Proofs.YtjdaddmjpicflaaGreatDoor
namespace Go.Proofs.YtjdaddmjpicflaaGreatDoor
open Go.RowKit
structure StS where
 e:Int
 M:Nat→Int
 A:Nat→Int
def arg (ss:List ByteArray) (i:Nat):List Int:=bts (ss.getD i ⟨#[]⟩)
def stStep (ss:List ByteArray) (st:StS) (i:Nat):StS:=
 ⟨st.e-((arg ss i).length+1),pokeM st.M (st.e-((arg ss i).length+1)).toNat (arg ss i),setF st.A i (st.e-((arg ss i).length+1))⟩
def stOf (ss:List ByteArray) (is:List Nat):StS:=is.foldl (stStep ss) ⟨65536,λ_=>0,λ_=>0⟩
theorem stOf_snoc (ss:List ByteArray) (is:List Nat) (i:Nat):stOf ss (is++[i])=stStep ss (stOf ss is) i:=by simp[stOf]
def goodA (l:List Int):Bool:=decide (l.length≤30)&&!decide ((0:Int)∈l)
theorem goodA_iff {l:List Int}:goodA l=true↔l.length≤30∧(0:Int)∉l:=by simp[goodA]
def Good (ss:List ByteArray):Prop:=∀i,i<ss.length→goodA (arg ss i)=true
theorem arg_byte (ss:List ByteArray) (i:Nat):∀x∈arg ss i,0≤x∧x≤255:=bts_byte _
theorem snoc_ind {α:Type} {p:List α→Prop} (h0:p []) (h1:∀l a,p l→p (l++[a])) (l:List α):p l:=by
 have:∀l:List α,p l.reverse:=by
  intro l
  induction l with
  | nil=>exact h0
  | cons a l ih=>rw[List.reverse_cons];exact h1 _ _ ih
 have h:=this l.reverse
 rwa [List.reverse_reverse]at h
theorem st_bound (ss:List ByteArray):∀is:List Nat,(∀i∈is,(arg ss i).length≤30)→65536-31*is.length≤(stOf ss is).e∧(stOf ss is).e≤65536:=by
 refine snoc_ind ?_ ?_
 ·intro _;simp[stOf]
 ·intro is i ih h
  have ih:=ih λj hj=>h j (by simp[hj])
  have hi:=h i (by simp)
  rw[stOf_snoc]
  simp only[stStep,List.length_append,List.length_singleton]
  omega
theorem st_addr (ss:List ByteArray):∀is:List Nat,(∀i∈is,(arg ss i).length≤30)→is.length≤8→∀j,(stOf ss is).A j=0∨(65288≤(stOf ss is).A j∧(stOf ss is).A j≤65535):=by
 refine snoc_ind ?_ ?_
 ·intro _ _ j;left;rfl
 ·intro is i ih h hl j
  simp only[List.length_append,List.length_singleton]at hl
  have ih:=ih (λj hj=>h j (by simp[hj])) (by omega) j
  have hi:=h i (by simp)
  have hb:=st_bound ss is λj hj=>h j (by simp[hj])
  rw[stOf_snoc]
  simp only[stStep,setF]
  split
  ·right;omega
  ·exact ih
def wordAt (st:StS) (n k:Nat):Int:=if k=0 then n else if k≤n then st.A (k-1)else 0
def spOf (st:StS) (n:Nat):Int:=(st.e-8*(n+2))/16*16
def finTo (st:StS) (n:Nat):Nat→(Nat→Int)
 | 0=>st.M
 | k+1=>pokeM (finTo st n k) ((spOf st n).toNat+8*k) (bytes8 (wordAt st n k))
theorem bytes8_length (n:Int):(bytes8 n).length=8:=rfl
theorem bytes8_zero:bytes8 0=List.replicate 8 0:=by decide
theorem bytes8_byte (n:Int) (h0:0≤n) (h1:n<18446744073709551616):∀x∈bytes8 n,0≤x∧x≤255:=by
 intro x hx
 simp only[bytes8,List.mem_cons,List.not_mem_nil,or_false]at hx
 omega
theorem pokeM_out (M:Nat→Int) (A:Nat) (l:List Int) (a:Nat) (h:a<A∨A+l.length≤a):pokeM M A l a=M a:=by
 unfold pokeM;rw[if_neg (by omega)]
theorem pokeM_in (M:Nat→Int) (A:Nat) (l:List Int) (j:Nat) (h:j<l.length):pokeM M A l (A+j)=l.getD j 0:=by
 unfold pokeM;rw[if_pos ⟨by omega,by omega⟩,Nat.add_sub_cancel_left]
theorem fin_out (st:StS) (n:Nat) (a:Nat):∀k,(a<(spOf st n).toNat∨(spOf st n).toNat+8*k≤a)→finTo st n k a=st.M a
 | 0,_=>rfl
 | k+1,h=>by
   rw[finTo,pokeM_out _ _ _ _ (by rw[bytes8_length];omega)]
   exact fin_out st n a k (by omega)
structure Laid (ss:List ByteArray) (st:StS) (k:Nat):Prop where
 low:∀a:Nat,(a:Int)<st.e→st.M a=0
 at_:∀i,k≤i→i<ss.length→st.e≤st.A i∧st.A i+(arg ss i).length+1≤65536∧(∀j,j<(arg ss i).length→st.M ((st.A i).toNat+j)=(arg ss i).getD j 0)∧st.M ((st.A i).toNat+(arg ss i).length)=0
theorem laid_step (ss:List ByteArray) (st:StS) (k:Nat) (hk:k<ss.length) (h:Laid ss st (k+1)) (h0:(arg ss k).length+1≤st.e) (h1:st.e≤65536):Laid ss (stStep ss st k) k:=by
 obtain⟨hlow,hat⟩:=h
 refine⟨λa ha=>?_,λi hi hin=>?_⟩
 ·simp only[stStep]at ha⊢
  rw[pokeM_out _ _ _ _ (by omega)]
  exact hlow a (by omega)
 ·simp only[stStep,setF]
  by_cases e:i=k
  ·subst e
   rw[if_pos rfl]
   refine⟨Int.le_refl _,by omega,λj hj=>pokeM_in _ _ _ _ hj,?_⟩
   rw[pokeM_out _ _ _ _ (by omega)]
   exact hlow _ (by omega)
  ·obtain⟨g1,g2,g3,g4⟩:=hat i (by omega) hin
   rw[if_neg e]
   refine⟨by omega,g2,λj hj=>?_,?_⟩
   ·rw[pokeM_out _ _ _ _ (by omega)];exact g3 j hj
   ·rw[pokeM_out _ _ _ _ (by omega)];exact g4
theorem laid_all (ss:List ByteArray) (hg:Good ss) (hn:ss.length≤8):∀m,m≤ss.length→Laid ss (stOf ss (revTo ss.length (ss.length-m))) (ss.length-m)
 | 0,_=>⟨λa _=>by rw[Nat.sub_zero,revTo_self];rfl,λi h1 h2=>by omega⟩
 | m+1,h=>by
   have ih:=laid_all ss hg hn m (by omega)
   rw[revTo_step _ (ss.length-(m+1)) (by omega),show ss.length-(m+1)+1=ss.length-m from by omega,stOf_snoc]
   have hlen:∀i∈revTo ss.length (ss.length-m),(arg ss i).length≤30:=λi hi=>by
    have:i<ss.length:=by
     unfold revTo at hi
     exact List.mem_range.1 (List.mem_of_mem_drop (List.mem_reverse.1 hi))
    exact(goodA_iff.1 (hg i this)).1
   have hb:=st_bound ss _ hlen
   rw[revTo_length]at hb
   have hk:=(goodA_iff.1 (hg (ss.length-(m+1)) (by omega))).1
   exact laid_step ss _ (ss.length-(m+1)) (by omega) (by rw[show ss.length-(m+1)+1=ss.length-m from by omega];exact ih) (by omega) hb.2
def stAll (ss:List ByteArray):StS:=stOf ss (revTo ss.length 0)
theorem stAll_laid (ss:List ByteArray) (hg:Good ss) (hn:ss.length≤8):Laid ss (stAll ss) 0:=by
 have:=laid_all ss hg hn ss.length (Nat.le_refl _)
 rwa [Nat.sub_self]at this
theorem rev_mem {n k i:Nat} (h:i∈revTo n k):i<n:=by
 unfold revTo at h
 exact List.mem_range.1 (List.mem_of_mem_drop (List.mem_reverse.1 h))
theorem stAll_bound (ss:List ByteArray) (hg:Good ss) (hn:ss.length≤8):65288≤(stAll ss).e∧(stAll ss).e≤65536:=by
 have:=st_bound ss (revTo ss.length 0) λi hi=>(goodA_iff.1 (hg i (rev_mem hi))).1
 rw[revTo_length]at this
 unfold stAll
 omega
theorem sp_bound (ss:List ByteArray) (hg:Good ss) (hn:ss.length≤8):65024≤spOf (stAll ss) ss.length∧spOf (stAll ss) ss.length+8*(ss.length+2)≤(stAll ss).e∧spOf (stAll ss) ss.length%16=0:=by
 have:=stAll_bound ss hg hn
 unfold spOf
 omega
theorem word_bound (ss:List ByteArray) (hg:Good ss) (hn:ss.length≤8) (k:Nat):0≤wordAt (stAll ss) ss.length k∧wordAt (stAll ss) ss.length k<65536:=by
 unfold wordAt
 have:=st_addr ss (revTo ss.length 0) (λi hi=>(goodA_iff.1 (hg i (rev_mem hi))).1) (by rw[revTo_length];omega) (k-1)
 have e:(stOf ss (revTo ss.length 0))=stAll ss:=rfl
 rw[e]at this
 split
 ·omega
 ·split<;>omega
def memOf (ss:List ByteArray):Nat→Int:=finTo (stAll ss) ss.length (ss.length+2)
theorem mem_last (ss:List ByteArray) (hg:Good ss) (hn:ss.length≤8):finTo (stAll ss) ss.length (ss.length+1)=memOf ss:=by
 funext a
 have e:memOf ss=pokeM (finTo (stAll ss) ss.length (ss.length+1)) ((spOf (stAll ss) ss.length).toNat+8*(ss.length+1)) (bytes8 (wordAt (stAll ss) ss.length (ss.length+1))):=rfl
 rw[e]
 unfold pokeM
 split
 ·rename_i h
  rw[bytes8_length]at h
  have hl:=stAll_laid ss hg hn
  have hs:=sp_bound ss hg hn
  rw[fin_out _ _ _ _ (by omega),hl.low a (by omega)]
  have:wordAt (stAll ss) ss.length (ss.length+1)=0:=by unfold wordAt;rw[if_neg (by omega),if_neg (by omega)]
  rw[this,bytes8_zero,List.getD_eq_getElem?_getD,List.getElem?_replicate]
  split<;>rfl
 ·rfl
theorem setF_at (f:Nat→Int) (i:Nat) (x:Int) (j:Nat):setF f i x j=if j=i then x else f j:=rfl
theorem putF_poke (M:Nat→Int) (B o:Nat) (n:Int):putF (λj=>M (B+j)) o n=λj=>pokeM M (B+o) (bytes8 n) (B+j):=by
 funext j
 unfold putF
 simp only[setF_at]
 unfold pokeM
 rw[bytes8_length]
 by_cases h:B+o≤B+j∧B+j<B+o+8
 ·rw[if_pos h]
  have:j=o∨j=o+1∨j=o+2∨j=o+3∨j=o+4∨j=o+5∨j=o+6∨j=o+7:=by omega
  rcases this with rfl|rfl|rfl|rfl|rfl|rfl|rfl|rfl
  ·simp[bytes8]
  ·rw[show B+(o+1)-(B+o)=1 from by omega];simp[bytes8]
  ·rw[show B+(o+2)-(B+o)=2 from by omega];simp[bytes8]
  ·rw[show B+(o+3)-(B+o)=3 from by omega];simp[bytes8]
  ·rw[show B+(o+4)-(B+o)=4 from by omega];simp[bytes8]
  ·rw[show B+(o+5)-(B+o)=5 from by omega];simp[bytes8]
  ·rw[show B+(o+6)-(B+o)=6 from by omega];simp[bytes8]
  ·rw[show B+(o+7)-(B+o)=7 from by omega];simp[bytes8]
 ·rw[if_neg h,if_neg (by omega),if_neg (by omega),if_neg (by omega),if_neg (by omega),if_neg (by omega),if_neg (by omega),if_neg (by omega),if_neg (by omega)]
theorem splice_poke (M:Nat→Int) (B o N:Nat) (l:List Int) (h:o+l.length≤N):splice (rowOf (λj=>M (B+j)) N) o (l.map (Value.int .u8))=rowOf (λj=>pokeM M (B+o) l (B+j)) N:=by
 apply List.ext_getElem?
 intro i
 unfold splice rowOf
 by_cases hi:i<N
 ·rw[List.getElem?_append]
  simp only[List.length_take,List.length_map,List.length_range]
  rw[Nat.min_eq_left (by omega)]
  by_cases h1:i<o
  ·rw[if_pos h1,List.getElem?_take,if_pos h1]
   simp only[List.getElem?_map,List.getElem?_range hi,Option.map_some]
   rw[pokeM_out _ _ _ _ (by omega)]
  ·rw[if_neg h1,List.getElem?_append]
   simp only[List.length_map]
   by_cases h2:i-o<l.length
   ·rw[if_pos h2]
    simp only[List.getElem?_map,List.getElem?_range hi,Option.map_some]
    rw[List.getElem?_eq_getElem h2,show B+i=(B+o)+(i-o)from by omega,pokeM_in _ _ _ _ h2,List.getD_eq_getElem?_getD,List.getElem?_eq_getElem h2]
    rfl
   ·rw[if_neg h2,List.getElem?_drop,show o+l.length+(i-o-l.length)=i from by omega]
    simp only[List.getElem?_map,List.getElem?_range hi,Option.map_some]
    rw[pokeM_out _ _ _ _ (by omega)]
 ·rw[List.getElem?_eq_none (by simp;omega),List.getElem?_eq_none (by simp;omega)]
end Go.Proofs.YtjdaddmjpicflaaGreatDoor
