/-.-/
import Derived.Test.YtcnjjchlebmfiaaGreatDoorP06
set_option linter.all false
set_option maxRecDepth 100000
set_option maxHeartbeats 16000000
namespace Go.Proofs.YtcnjjchlebmfiaaGreatDoor
section
open Go.Proofs.Tryz Go.RowKit Go.MapKept Go.Maps
def P6(w:World)(tb:Nat)(A:bJ)(T:List Pn)(mi mb:Nat)(r:Nat×List Nd)(e:Ending)(w':World):Prop:=
 (r.1≠0→e=.returned (fH r.1)∧Keep (lg tb A T) w w')∧(r.1=0→e=.returned .nilIface∧∃A' T',kU w tb A T mi mb r.2 A' T' w')
theorem Us(tb:Nat)(s:ByteArray)(c:Int)(w:World)
 (hf:∀W,Bel w W→Calls prog 95 #[tb,s] W (Z.b (.tuple #[.agg #[.pointer none,.string ⟨#[]⟩,.pointer none],fH c]) W)) :
 Calls prog 94 #[tb,s] w (Z.b (fH c) w):=by
 have HF:=xh hf;clear hf;go_enter func94,ntmps94;go_wp2_with (go_at_call 95;((with_reducible refine aH (HF.o w (Bel.refl w)) ?_);rintro e w1 ⟨rfl,k1⟩))
 go_ret
 exact⟨rfl,k1.ac _⟩
theorem Ut(tb:Nat)(s:ByteArray)(p:Value)(nm:ByteArray)(a:Nat)(w:World)(hp:p.oneCell'=true)
 (hf:∀W,Bel w W→Calls prog 95 #[tb,s] W (Z.b (.tuple #[.agg #[p,nm,a],.nilIface]) W)) :
 Calls prog 94 #[tb,s] w (Z.b (fH 10) w):=by
 have HF:=xh hf;have HP:=xh hp;clear hf hp;go_enter func94,ntmps94
 go_upto_region 2 with(first
  | (go_at_call 95;((with_reducible refine aH (HF.o w (Bel.refl w)) ?_);rintro e w1 ⟨rfl,k1⟩))
  | (refine aA rfl 240 (.tmp 5) (.tmp 11) rfl rfl w1.heap.size [p,nm,a] [.pointer none,.string ⟨#[]⟩,.pointer none] 240 (Blk.new w1 _ _) rfl rfl (by kernel_rfl) rfl (by intro v hv;simp at hv;rcases hv with rfl|rfl|rfl;exact HP.o;all_goals rfl) ?_;intro w3 B3 K3))
 have kc:Bel w w3:=k1.tr ((Below.heap_alloc' w1 _).trans (K3.below _ (by simp) (λk hk=>by omega)));have c2:=B3.out.c 2 rfl;have Ir:=xh kc;generalize w1.heap.size=g at *
 clear kc K3 k1 B3;go_wp2
 go_ret
 exact⟨rfl,Ir.o⟩
theorem CP(tb:Nat)(s:ByteArray)(p:Value)(nm:ByteArray)(q v:Value)(w:World)(Post:World→World→Prop)
 (hf:∀W,Bel w W→Calls prog 95 #[tb,s] W (Z.b (.tuple #[.agg #[p,nm,.pointer none],.nilIface]) W))
 (hp:p.oneCell'=true)
 (hm:∀W,Bel w W→Calls prog 96 #[tb,.agg #[p,nm,.pointer none],true] W λe w'=>(∃q,e=.returned (.tuple #[q,v]))∧Post W w') :
 Calls prog 94 #[tb,s] w λe w'=>e=.returned v∧∃W,Bel w W∧Post W w':=by
 have HF:=xh hf;have HM:=xh hm;have HP:=xh hp;clear hf hm hp;go_enter func94,ntmps94
 go_upto_region 2 with(first
  | (go_at_call 95;((with_reducible refine aH (HF.o w (Bel.refl w)) ?_);rintro e w1 ⟨rfl,k1⟩))
  | (refine aA rfl 240 (.tmp 5) (.tmp 11) rfl rfl w1.heap.size [p,nm,.pointer none] [.pointer none,.string ⟨#[]⟩,.pointer none] 240 (Blk.new w1 _ _) rfl rfl (by kernel_rfl) rfl (by intro v hv;simp at hv;rcases hv with rfl|rfl|rfl;exact HP.o;all_goals rfl) ?_;intro w3 B3 K3))
 have kc:Bel w w3:=k1.tr ((Below.heap_alloc' w1 _).trans (K3.below _ (by simp) (λk hk=>by omega)));have c2:=B3.out.c 2 rfl;have HB3:=xh B3.out;have Ir:=xh kc;generalize w1.heap.size=g at *
 clear kc K3 k1 B3
 go_wp2_with (first
  | (refine wpList_load_mid rfl 240 (.tmp 5) rfl g 0 rfl [p,nm,.pointer none] _ (by have:=HB3.o.range 0;simpa using this) underlying240 rfl (by kernel_rfl) ?_)
  | (go_at_call 96;((with_reducible refine aH (HM.o w3 Ir.o) ?_);rintro e w4 ⟨⟨q,rfl⟩,hpost⟩)))
 go_ret
 exact⟨rfl,w3,Ir.o,hpost⟩
theorem aaG(A:bJ){n:Nat}(h:n≠0):A.ptr n=.pointer (A.nb n,0):=by simp[bJ.ptr,bJ.at_,h]
theorem Made.of_bel{w W w':World}{A:bJ}{T:List Pn}{t:TN}{tb d nb mb:Nat}{nm:ByteArray}{is:Bool}(hb:Bel w W)(k:Made A T t tb d nm is W nb mb w'):Made A T t tb d nm is w nb mb w':=
 ⟨k.tree,k.block,(Keep.of_bel _ hb).tr k.keep,bU hb.size k.aeY,bU hb.size k.aeZ⟩
theorem TR(tb:Nat)(A:bJ)(T:List Pn)(mi mb:Nat)(s:ByteArray)(w:World)(h:PT w tb A T mi mb)(hs:s.size≤1000000)(hmx:eX w) :
 Calls prog 94 #[tb,s] w λe w'=>P6 w tb A T mi mb (Vg mi (aJ T) s.data.toList) e w':=by
 have hf:=λW (hW:Bel w W)=>BV tb A T _ s W (h.bel hW).block (h.bel hW).tree hs (hmx.bel hW);have hroot:=h.tree.isRoot;unfold Vg;obtain⟨d,nm,n,c,hr⟩:∃d nm n c,az (aJ T) s.data.toList=(d,nm,n,c):=⟨_,_,_,_,rfl⟩;have hnew:=oH (L:=aJ T) (s:=s.data.toList) hroot;have hold:=mD (L:=aJ T) (s:=s.data.toList) hroot;rw[hr]at hnew hold;simp only[hr]at hf hnew hold⊢
 by_cases hc:c=0
 ·subst hc
  by_cases hn:n=0
  ·subst hn
   obtain⟨h1,h2,h3,h4⟩:=hnew rfl rfl;obtain⟨d,rfl⟩:∃d',d=d'+1:=⟨d-1,by omega⟩;obtain⟨x,hx,hxd⟩:=qV h2;rw[Nat.add_sub_cancel,aJ,fA,Option.map_eq_some_iff]at hx;obtain⟨D,hD,rfl⟩:=hx;have hfp:∀W,Bel w W→Calls prog 95 #[tb,s] W (Z.b (.tuple #[.agg #[A.ptr (d+1),.string nm,.pointer none],.nilIface]) W):=λW hW=>(hf W hW).mono λe w' k=>⟨k.1.trans (by simp[zg,bJ.ptr,bJ.at_]),k.2⟩;rw[if_neg (by simp),if_neg (by simp)];by_cases hm:mi≤T.length
   ·rw[if_pos (by rw[lJ];exact hm)]
    refine(CP tb s (A.ptr (d+1)) nm (.pointer none) (fH 12) w (λW w'=>Bel W w') hfp rfl λW hW=>(EY tb A _ (d+1) nm true W (h.bel hW).block (h.bel hW).ok ?_).mono ?_).mono ?_
    ·unfold kV
     simp only[Bool.and_eq_false_iff,decide_eq_false_iff_not]
     left;omega
    ·rintro e w' ⟨rfl,k⟩;exact⟨⟨_,rfl⟩,k⟩
    ·rintro e w' ⟨rfl,W,k1,k2⟩
     exact⟨λ_=>⟨rfl,Keep.of_bel _ (k1.tr k2)⟩,λh=>by cases h⟩
   ·rw[if_neg (by rw[lJ];exact hm)]
    have hsm:=h.small;have OY:=h.mi;refine(CP tb s (A.ptr (d+1)) nm (.pointer none) .nilIface w (λW w'=>∃nb mx,Made A T ⟨T.length,cZ (aJ T),mi,mb⟩ tb (d+1) nm true W nb mx w') hfp rfl λW hW=>(P9 tb A T _ d D nm true W (h.bel hW).block (h.bel hW).tree (h.bel hW).ok ?_ hD hxd h3 h4 (by omega)).mono ?_).mono ?_
    ·unfold kV
     simp only[Bool.and_eq_true,decide_eq_true_eq]
     omega
    ·rintro e w' ⟨nb,mx,rfl,k⟩;exact⟨⟨_,rfl⟩,nb,mx,k⟩
    ·rintro e w' ⟨rfl,W,k1,nb,mx,k2⟩
     exact⟨λh=>absurd rfl h,λ_=>⟨rfl,_,_,Made.step h D hD hxd (by omega) (k2.of_bel k1)⟩⟩
  ·rw[if_neg (by simp),if_pos hn]
   refine(Ut tb s (A.ptr d) nm (A.nb n) w rfl λW hW=>(hf W hW).mono λe w' k=>⟨k.1.trans (by rw[zg,if_pos rfl,aaG A hn]),k.2⟩).mono ?_;rintro e w' ⟨rfl,k⟩;exact⟨λ_=>⟨rfl,Keep.of_bel _ k⟩,λh=>by cases h⟩
 ·rw[if_pos hc]
  refine(Us tb s c w λW hW=>(hf W hW).mono λe w' k=>⟨k.1.trans (by rw[zg,if_neg hc]),k.2⟩).mono ?_;rintro e w' ⟨rfl,k⟩;exact⟨λ_=>⟨rfl,Keep.of_bel _ k⟩,λh=>absurd h hc⟩
end
section
open Go.Proofs.Tryz Go.RowKit
def BS(w:World)(p:Option Addr)(L:List Int):Prop:=(∀x∈L,0≤x∧x≤255)∧(0<L.length→∃b o,p=some ⟨b,o,none⟩∧b<w.heap.size∧jF w b o L)
theorem BS.keep{w w':World}{S:Nat→Prop}{p:Option Addr}{L:List Int}(h:BS w p L)(k:Keep S w w')(hs:∀b,b<w.heap.size→¬S b):BS w' p L:=
 ⟨h.1,λh0=>by
   obtain⟨b,o,h1,h2,h3⟩:=h.2 h0;exact⟨b,o,h1,Nat.lt_of_lt_of_le h2 k.size,h3.keep k (λ_=>hs b h2)⟩⟩
theorem BS.bel{w w':World}{p:Option Addr}{L:List Int}(h:BS w p L)(k:Bel w w'):BS w' p L:=h.keep (Keep.of_bel (λ_=>False) k) (λ_ _ h=>h)
theorem CY:(prog.info? 5).map (λi=>(i.zero,i.size,i.bytes))=some (some (.int .u8 0),1,1):=by kernel_rfl
theorem vC(n:Nat)(hn:n≤1000000):∃zs:List Value,zs.length=n∧∀(x:Int) (w:World),x=n→(Instr.makeSlice 59 (.int .i64 x) (.int .i64 x)).run prog w=.ok (.slice (w.heap.size,0) n n) (w.alloc (.cells zs.toArray 5)):=by
 obtain⟨i,hi,h1,h2,h3⟩:=info_parts CY;refine⟨(madeCells (Value.int .u8 0).cells (n*i.size)).toList,by rw[h2];simp[size_madeCells],λx w hx=>?_⟩;subst hx;have:=run_makeSlice (P:=prog) (w:=w) 59 5 i (.int .u8 0) underlying59 hi h1 .i64 .i64 n n (by omega) (by omega) (by rw[h2];omega) (by rw[h3];omega) (by omega)
 simpa using this
theorem xO(p:Option Addr)(cap:Nat)(L:List Int)(w:World)(hr:BS w p L)(hlen:L.length≤200000) :
 Calls prog 58 #[(p,L.length,cap)] w λe w'=>∃g,e=.returned (.slice (g,0) L.length (L.length+2))∧w.heap.size≤g∧Blk w' g ((L++[71,72]).map (Value.int .u8)) 5∧Bel w w':=by
 obtain⟨zs,hzl,hmk⟩:=vC (L.length+2) (by omega);have aav:=λW=>hmk ((L.length:Int)+2) W (by omega);obtain⟨news,hnews⟩:∃news:List Value,news=L.map (Value.int .u8):=⟨_,rfl⟩;have hnl:news.length=L.length:=by rw[hnews];simp
 have oh:=xh hzl;have UA:=xh hnl;have DT:Hid (∀v∈news,v.oneCell'=true):=xh (by rw[hnews];intro v hv;obtain⟨x,_,rfl⟩:=List.mem_map.1 hv;rfl);have um:Hid (∀W,Bel w W→0<news.length→∃ad,p=some ad∧∀j v,news[j]?=some v→W.cell? (ad.add j)=some v):=xh λW hW h0=>by
  obtain⟨b,o,h1,h2,h3⟩:=(hr.bel hW).2 (by omega);refine⟨_,h1,λj v hj=>?_⟩;have hjl:=(bV hj).1;rw[Addr.add_mid,h3.cell j (by omega),←hj,hnews,fA]
 have HNW:=xh hnews;clear hmk hzl hnl hnews;go_enter func58,ntmps58;go_upto_region 3 with fail
 have k1:Bel w (w.alloc (.cells zs.toArray 5)):=Below.heap_alloc' w _;have B1:=Blk.new w zs 5;generalize w.alloc (.cells zs.toArray 5)=w1 at *
 have K1:=xh k1;have HB1:=xh B1;have hg:=k1.size;obtain⟨g,hge⟩:∃g,g=w.heap.size:=⟨_,rfl⟩;rw[←hge]at HB1;have HGE:=xh hge;rw[←hge];clear k1 B1 hge aav;go_upto_region 4 with(refine wpList_copy_splice rfl (.tmp 10) (.tmp 11) 59 59 rfl 5 underlying59 (by kernel_rfl) _ _ _ _ _ _ rfl rfl g 0 zs 5 HB1.o news (by rw[UA.o];exact(Nat.min_eq_left (by omega)).symm) (λh0=>⟨rfl,um.o _ K1.o h0⟩) (by rw[UA.o,oh.o];omega) DT.o g w1 (Below.refl _ _) (bM _) ?_;intro w2 B2 K2)
 obtain⟨a,b,c,hz1,hz2⟩:∃a b c,zs=a++[b,c]∧a.length=L.length:=by
  obtain⟨a,z,h1,h2,h3⟩:=Cc zs L.length 2 oh.o
  match z,h3 with
  | [b,c],_=>exact⟨a,b,c,h1,h2⟩
 have hsp:splice zs 0 news=news++[b,c]:=by
  unfold splice;rw[hz1,Nat.zero_add,UA.o,←hz2,List.drop_left];simp
 have B3:Blk w2 g (news++[b,c]) 5:=by have:=B2.out;rw[hsp]at this;exact this
 have c0:=B3.cell L.length;have c1:=B3.cell (L.length+1);rw[List.getElem?_append_right (by rw[UA.o];omega),UA.o]at c0 c1;simp only[Nat.sub_self,List.getElem?_cons_zero,Nat.add_sub_cancel_left,List.getElem?_cons_succ]at c0 c1
 have f0:=B3.frozen;have hl2:=B3.lt;have HB3:=xh B3;have iC:Hid (Bel w w2):=xh (by have:=K2;rw[HGE.o]at this;exact Below.trans K1.o this);have hgw:w.heap.size≤g:=by rw[HGE.o];exact bM _
 clear B2 K2 hz1 hz2 hsp B3 HB1;go_wp2
 go_ret
 refine⟨g,rfl,hgw,?_,(iC.o.store (p:=⟨g,L.length,none⟩) hgw _).store (p:=⟨g,L.length+1,none⟩) hgw _⟩;have:=(HB3.o.setCell (o:=L.length) (.int .u8 71)).setCell (o:=L.length+1) (.int .u8 72);have e:((news++[b,c]).set L.length (.int .u8 71)).set (L.length+1) (.int .u8 72)=(L++[71,72]).map (Value.int .u8):=by
  rw[←UA.o,List.set_append_right _ _ (bM _),List.set_append_right _ _ (by omega),HNW.o];simp
 rw[e]at this;exact this
theorem nM(p q:Option Addr)(c d:Nat)(L:List Int)(w:World)(hp:BS w p L)(hq:BS w q L)(hlen:L.length≤1000000) :
 Calls prog 68 #[(p,L.length,c),(q,L.length,d)] w λe w'=>e=.returned (.bool true)∧∃n,w'=w.drewN n:=by
 have HP:=xh hp;have HQ:=xh hq;clear hp hq;go_enter func68,ntmps68;go_wp2
 go_loopw [5] (λi wr=>∃k nn:Nat,k≤L.length∧i=.int .i64 k∧wr=w.drewN nn) (λi _=>L.length-(intOf i).toNat)
 case atStart=>exact⟨0,0,Nat.zero_le _,rfl,rfl⟩
 case round=>
  obtain⟨k,nn,hk,rfl,rfl⟩:=hrel;by_cases hlt:k<L.length
  ·obtain⟨b1,o1,rfl,_,h1⟩:=HP.o.2 (by omega)
   obtain⟨b2,o2,rfl,_,h2⟩:=HQ.o.2 (by omega);have a1:w.cell? ⟨b1,o1+k,none⟩=some (.int .u8 (L.getD k 0)):=h1.at_ k hlt;have a2:w.cell? ⟨b2,o2+k,none⟩=some (.int .u8 (L.getD k 0)):=h2.at_ k hlt;clear h1 h2;generalize L.getD k 0=x at *
   have hlt1:(k:Int)<(L.length:Int):=by omega
   have hk0:(0:Int)≤(k:Int):=by omega
   go_wp2
   go_quiet (fail)
   go_wp2
   go_roundw
   case rel=>exact⟨k+1,nn+nq,by omega,by go_num,by simp[World.drewN_drewN]⟩
   case measure=>simp[intOf]<;>omega
  ·obtain rfl:k=L.length:=by omega
   go_wp2
   go_ret
   exact⟨rfl,nn,rfl⟩
theorem xQ(g:Nat)(p:Option Addr)(cap:Nat)(L:List Int)(w:World)(hB:Blk w g ((L++[71,72]).map (Value.int .u8)) 5)(hr:BS w p L)(hlen:L.length≤200000) :
 Calls prog 59 #[.slice (g,0) L.length (L.length+2),(p,L.length,cap)] w λe w'=>e=.returned (.bool true)∧Keep (λk=>k=g) w w':=by
 have hg:=hB.lt;have hbs:BS w (some ⟨g,0,none⟩) L:=⟨hr.1,λh0=>⟨g,0,rfl,hg,⟨λi hi=>by
  rw[Nat.zero_add,hB.cell,fA,List.getElem?_append_left hi],hr.1⟩⟩⟩
 have hsm:=nM (some ⟨g,0,none⟩) p (L.length+2) cap L w hbs hr (by omega);have uB:=xh hsm;have c0:w.cell? ⟨g,L.length,none⟩=some (.int .u8 71):=by rw[hB.cell];simp
 have c1:w.cell? (g,L.length+1)=some (.int .u8 72):=by rw[hB.cell];simp
 have HB:=xh hB;clear hbs hsm hB hr;go_enter func59,ntmps59;go_wp2_with (go_at_call 68;refine aH uB.o ?_;rintro e w1 ⟨rfl,n,rfl⟩)
 go_loopw [8] (λi wr=>∃(k:Nat) (l:List Int),k≤L.length+2∧i=.int .i64 k∧l.length=L.length+2∧Blk wr g (l.map (Value.int .u8)) 5∧Keep (λk=>k=g) w wr) (λi _=>L.length+2-(intOf i).toNat)
 case atStart=>exact⟨0,L++[71,72],Nat.zero_le _,rfl,by simp,HB.o,⟨rfl,rfl,rfl,bM _,λ_ _ _=>rfl⟩⟩
 case round=>
  obtain⟨k,l,hk,rfl,hl,hb,hkr⟩:=hrel;by_cases hlt:k<L.length+2
  ·have cc:wr.cell? ⟨g,k,none⟩=some (.int .u8 (l.getD k 0)):=by
    rw[hb.cell,fA,List.getD_eq_getElem?_getD,bT (by omega)];rfl
   have cf:=hb.frozen k;have hgl:=hb.lt;have HL:=xh hl;have HBB:=xh hb;have uf:=xh hkr;clear hl hb hkr;generalize l.getD k 0=x at *
   go_wp2
   go_roundw
   case rel=>exact⟨k+1,l.set k (bits .xor .u8 x 85),by omega,by go_num,by rw[List.length_set];exact HL.o,by have:=HBB.o.setCell (o:=k) (.int .u8 (bits .xor .u8 x 85));rw[List.map_set];exact this,uf.o.tr (Keep.setCell _ _ _ _)⟩
   case measure=>simp[intOf]<;>omega
  ·obtain rfl:k=L.length+2:=by omega
   have uf:=xh hkr;clear hkr hb hl;go_wp2
   go_ret
   exact⟨rfl,uf.o⟩
end
section
open Go.Proofs.Tryz Go.RowKit Go.MapKept Go.Maps
def Pn.setB(x:Pn)(bv:Value)(L:List Int):Pn:={x with bv:=bv,byt:=L}
theorem Fa(A:bJ)(d:Nat):∀(i k:Nat) (T:List Pn) (x:Pn) (bv:Value) (L:List Int),T[k]?=some x→gQ A d i (T.set k (x.setB bv L))=gQ A d i T
 | _,_,[],_,_,_,h=>by simp at h
 | i,0,n::T,x,bv,L,h=>by
   simp at h
   subst h;rfl
 | i,k+1,n::T,x,bv,L,h=>by
   have ih:=Fa A d (i+1) k T x bv L (by simpa using h);simp only[List.set_cons_succ,gQ,ih]
theorem dV.setB{w w':World}{A:bJ}{T:List Pn}{S:Nat→Prop}(h:dV w A T)(i:Nat)(x:Pn)(hx:T[i]?=some x)(bv:Value)(L:List Int)
 (jO:Blk w' (A.nb (i+1)) ((x.setB bv L).cells A (i+1)) 234)(hrw:Rw w' bv L)(hnew:∀g,bv.ownBlock=some g→w.heap.size≤g∨x.bv.ownBlock=some g)
 (hk:Keep S w w')(hS:∀q,uu A T q→S q→q=A.nb (i+1)∨x.bv.ownBlock=some q):dV w' A (T.set i (x.setB bv L)):=by
 have hil:i<T.length:=(bV hx).1;have hlt:∀(j:Nat) (m:Pn),(T.set i (x.setB bv L))[j]?=some m→j=i∧m=x.setB bv L∨j≠i∧T[j]?=some m:=by
  intro j m hj;by_cases e:j=i
  ·subst e
   rw[List.getElem?_set_self hil]at hj;exact .inl ⟨rfl,(Option.some.inj hj).symm⟩
  ·rw[List.getElem?_set_ne (λh=>e h.symm)]at hj
   exact .inr ⟨e,hj⟩
 have hmap:∀(j:Nat) (m:Pn),(T.set i (x.setB bv L))[j]?=some m→∃m0,T[j]?=some m0∧m.par=m0.par∧m.dir=m0.dir∧m.gone=m0.gone∧m.name=m0.name:=by
  intro j m hj;rcases hlt j m hj with⟨rfl,rfl⟩|⟨_,h2⟩
  ·exact⟨x,hx,rfl,rfl,rfl,rfl⟩
  ·exact⟨m,h2,rfl,rfl,rfl,rfl⟩
 have hback:∀(j:Nat) (m:Pn),T[j]?=some m→∃m1,(T.set i (x.setB bv L))[j]?=some m1∧m1.dir=m.dir∧m1.par=m.par∧m1.gone=m.gone:=by
  intro j m hj;by_cases e:j=i
  ·subst e
   rw[hx]at hj;cases hj
   exact⟨x.setB bv L,List.getElem?_set_self hil,rfl,rfl,rfl⟩
  ·exact⟨m,by rw[List.getElem?_set_ne (λh=>e h.symm)];exact hj,rfl,rfl,rfl⟩
 have hfl:∀q,uu A T q→q<w.heap.size:=λq hq=>h.iy hq;have hbn:∀(j:Nat) (m:Pn),T[j]?=some m→∀g,m.bv.ownBlock=some g→g≠A.nb (i+1):=λj m hj g hg=>by
  obtain⟨_,cur,hb⟩:=(h.aS j m hj).lt hg;exact hb.ne (h.node i x hx) (by decide)
 have hmn:∀(j:Nat) (m:Pn),T[j]?=some m→m.dir=true→A.mb (j+1)≠A.nb (i+1)∧∀g,x.bv.ownBlock=some g→A.mb (j+1)≠g:=λj m hj hd=>
  ⟨λe=>(h.node i x hx).aP (h.kids j m hj hd) e.symm,λg hg e=>by
    obtain⟨_,cur,hb⟩:=(h.aS i x hx).lt hg;exact hb.aP (h.kids j m hj hd) e.symm⟩
 refine⟨?_,?_,?_,?_,?_,?_,?_,?_,?_,?_,?_,by simpa using h.few⟩
 ·intro j m hj
  rcases hlt j m hj with⟨rfl,rfl⟩|⟨hne,h2⟩
  ·exact jO
  ·refine(h.node j m h2).keep hk λhs=>?_
   rcases hS _ ⟨j,m,h2,.inl rfl⟩ hs with e|e
   ·exact hne (h.inj j i (bV h2).1 hil e)
   ·obtain⟨_,cur,hb⟩:=(h.aS i x hx).lt e
    exact hb.ne (h.node j m h2) (by decide) rfl
 ·intro j m hj hd
  obtain⟨m0,h1,_,h2,_⟩:=hmap j m hj;have hd0:m0.dir=true:=by rw[←h2];exact hd
  show Mp keyS w' _ (gQ A (j+1) 0 _)
  rw[Fa A (j+1) 0 i T x bv L hx];refine(h.kids j m0 h1 hd0).of_block (hk.block _ (h.kids j m0 h1 hd0).lt λhs=>?_);rcases hS _ ⟨j,m0,h1,.inr (.inl ⟨hd0,rfl⟩)⟩ hs with e|e
  ·exact(hmn j m0 h1 hd0).1 e
  ·exact(hmn j m0 h1 hd0).2 _ e rfl
 ·intro j m hj
  rcases hlt j m hj with⟨rfl,rfl⟩|⟨hne,h2⟩
  ·exact hrw
  ·refine(h.aS j m h2).keep hk λg hg hs=>?_
   rcases hS _ ⟨j,m,h2,.inr (.inr hg)⟩ hs with e|e
   ·exact hbn j m h2 g hg e
   ·exact hne (h.sep j i m x g h2 hx hg e)
 ·intro a b ha hb
  simp at ha hb
  exact h.inj a b ha hb
 ·intro a b m n ha hb hda hdb he
  obtain⟨m0,h1,_,h2,_⟩:=hmap a m ha;obtain⟨n0,h3,_,h4,_⟩:=hmap b n hb;exact h.U2 a b m0 n0 h1 h3 (h2▸hda) (h4▸hdb) he
 ·intro a b m n g ha hb hm hn
  rcases hlt a m ha with⟨rfl,rfl⟩|⟨hne,h2⟩<;>rcases hlt b n hb with⟨rfl,rfl⟩|⟨hne',h2'⟩
  ·rfl
  ·rcases hnew g hm with h5|h5
   ·have:=((h.aS b n h2').lt hn).1
    omega
   ·exact h.sep a b x n g hx h2' h5 hn
  ·rcases hnew g hn with h5|h5
   ·have:=((h.aS a m h2).lt hm).1
    omega
   ·exact h.sep a b m x g h2 hx hm h5
  ·exact h.sep a b m n g h2 h2' hm hn
 ·intro a m ha
  obtain⟨m0,h1,h2,_⟩:=hmap a m ha;rw[h2];exact h.par a m0 h1
 ·intro a m ha h0
  obtain⟨m0,h1,h2,_⟩:=hmap a m ha;rw[h2]at h0⊢;obtain⟨p,hp1,hp2⟩:=h.KW a m0 h1 h0;obtain⟨p1,hp3,hp4,_⟩:=hback _ p hp1;exact⟨p1,hp3,hp4▸hp2⟩
 ·obtain⟨r,h1,h2,h3,h4⟩:=h.root
  obtain⟨r1,h5,h6,h7,h8⟩:=hback 0 r h1;exact⟨r1,h5,h7▸h2,h6▸h3,h8▸h4⟩
 ·intro a m ha h0 h1
  obtain⟨m0,h2,h3,_,h5,_⟩:=hmap a m ha;rw[h5];exact h.top a m0 h2 (h3▸h0) h1
 ·intro a m ha h0 h1
  obtain⟨m0,h2,_,_,h5,h6⟩:=hmap a m ha;rw[h6];exact h.name a m0 h2 (h5▸h0) h1
theorem Hq(T:List Pn)(i:Nat)(x:Pn)(bv:Value)(L:List Int):aJ (T.set i (x.setB bv L))=(aJ T).set i {x.nd with byt:=L}:=by
 unfold aJ;rw[List.map_set];rfl
theorem nI(N:List Nd)(i:Nat)(x y:Nd)(hx:N[i]?=some x):cZ (N.set i y)+x.byt.length=cZ N+y.byt.length:=by
 unfold cZ
 induction N generalizing i with
 | nil=>simp at hx
 | cons n N ih=>
   cases i with
   | zero=>simp at hx;subst hx;simp;omega
   | succ i=>simp at hx ih⊢;have:=ih i hx;omega
theorem acM:(prog.info? 5).map (λi=>(i.zero,i.size,i.bytes))=some (some (.int .u8 0),1,1):=by kernel_rfl
def Qa(w:World)(tb:Nat)(A:bJ)(T:List Pn)(mi mb i:Nat)(x:Pn)(L:List Int)(w':World):Prop:=∃bv,kU w tb A T mi mb ((aJ T).set i {x.nd with byt:=L}) A (T.set i (x.setB bv L)) w'
theorem JL{tb:Nat}{A:bJ}{T:List Pn}{i:Nat}{x:Pn}{bv:Value}{L:List Int}(hx:T[i]?=some x){B:Nat}(hnew:∀g,bv.ownBlock=some g→B≤g∨x.bv.ownBlock=some g):∀q,lg tb A (T.set i (x.setB bv L)) q→lg tb A T q∨B≤q:=by
 have hil:i<T.length:=(bV hx).1;rintro q (rfl|⟨j,m,hj,hq⟩)
 ·exact .inl (.inl rfl)
 ·by_cases e:j=i
  ·subst e
   rw[List.getElem?_set_self hil]at hj;cases hj
   rcases hq with h1|⟨h1,h2⟩|h1
   ·exact .inl (.inr ⟨j,x,hx,.inl h1⟩)
   ·exact .inl (.inr ⟨j,x,hx,.inr (.inl ⟨h1,h2⟩)⟩)
   ·rcases hnew q h1 with h2|h2
    ·exact .inr h2
    ·exact .inl (.inr ⟨j,x,hx,.inr (.inr h2)⟩)
  ·rw[List.getElem?_set_ne (λh=>e h.symm)]at hj
   exact .inl (.inr ⟨j,m,hj,hq⟩)
theorem TZ{w w1 w2:World}{tb:Nat}{A:bJ}{T:List Pn}{mi mb i:Nat}{x:Pn}{more g cp k:Nat}(h:PT w tb A T mi mb)(hx:T[i]?=some x)(hm:cZ (aJ T)+more≤mb)
 (hT1:Blk w1 tb ((TN.cells A ⟨T.length,cZ (aJ T),mi,mb⟩).set 2 (.int .i64 ((cZ (aJ T):Nat)+(more:Int)))) 220)(k1:Keep (λq=>q=tb) w w1)(hg:w1.heap.size=g)(k2:Bel w1 w2)
 (B2:Blk w2 g (x.byt.map (Value.int .u8)++List.replicate (more+k) (.int .u8 0)) 5)(h0:0<more)(hcp2:cp≤maxLen)(hcp:cp=x.byt.length+more+k) :
 Qa w tb A T mi mb i x (x.byt++List.replicate more 0) (w2.setCell (A.nb (i+1),3) (.slice (g,0) (x.byt.length+more) cp)):=by
 have hgw:w.heap.size≤g:=by rw[←hg];exact k1.size
 have jO:=h.tree.node i x hx;have hne:A.nb (i+1)≠tb:=jO.ne h.block (by decide);have acI:=(jO.keep k1 hne).bel k2;have Ef:∀q,uu A T q→q≠tb:=λq hq e=>by
  subst e;obtain⟨j,m,hj,h1|⟨hd,h1⟩|h1⟩:=hq
  ·exact(h.block.ne (h.tree.node j m hj) (by decide)) h1
  ·exact(h.block.aP (h.tree.kids j m hj hd)) h1
  ·obtain⟨_,cur,hb⟩:=(h.tree.aS j m hj).lt h1
   exact(h.block.ne hb (by decide)) rfl
 have hK:Keep (λq=>q=tb∨q=A.nb (i+1)) w (w2.setCell (A.nb (i+1),3) (.slice (g,0) (x.byt.length+more) cp)):=
  ((k1.mono λ_ h=>.inl h).tr (Keep.of_bel _ k2)).tr ((Keep.setCell w2 (A.nb (i+1)) 3 _).mono λ_ h=>.inr h)
 have XT:=Hq T i x (.slice (g,0) (x.byt.length+more) cp) (x.byt++List.replicate more 0);have U1:(aJ T)[i]?=some x.nd:=by unfold aJ;rw[fA,hx];rfl
 have hsum:cZ (aJ (T.set i (x.setB (.slice (g,0) (x.byt.length+more) cp) (x.byt++List.replicate more 0))))=cZ (aJ T)+more:=by
  rw[XT];have:=nI (aJ T) i x.nd {x.nd with byt:=x.byt++List.replicate more 0} U1;simp[Pn.nd]at this⊢
  omega
 have hgn:g≠A.nb (i+1):=λe=>by have:=jO.lt;omega
 have hrw:Rw (w2.setCell (A.nb (i+1),3) (.slice (g,0) (x.byt.length+more) cp)) (.slice (g,0) (x.byt.length+more) cp) (x.byt++List.replicate more 0):=by
  refine⟨λy hy=>?_,.inr ⟨g,cp,_,by simp,B2.aB (a:=⟨A.nb (i+1),3,none⟩) hgn _,by simp;omega,by simp;omega,hcp2,?_⟩⟩
  ·rcases List.mem_append.1 hy with hy|hy
   ·exact(h.tree.aS i x hx).1 y hy
   ·have:=List.eq_of_mem_replicate hy;omega
  ·rw[List.length_append,List.length_replicate,List.map_append,List.map_replicate,List.take_append,List.take_of_length_le (by simp),List.take_replicate]
   simp
 refine⟨_,⟨h.tree.setB i x hx _ _ ?_ hrw ?_ hK ?_,?_,by simpa using h.few,by rw[hsum];exact hm,h.mi,h.mb⟩,XT,hK.mono ?_,JL hx ?_⟩
 ·exact acI.setCell (o:=3) _
 ·intro g' hg';cases hg';exact .inl hgw
 ·rintro q hq (rfl|rfl)
  ·exact absurd rfl (Ef _ hq)
  ·exact .inl rfl
 ·rw[hsum]
  have:=(hT1.bel k2).aB (a:=⟨A.nb (i+1),3,none⟩) (λe=>hne e.symm) (.slice (g,0) (x.byt.length+more) cp);rw[List.length_set];exact this
 ·rintro q (rfl|rfl)
  ·exact .inl rfl
  ·exact .inr ⟨i,x,hx,.inl rfl⟩
 ·intro g' hg';cases hg';exact .inl hgw
theorem XU(tb:Nat)(A:bJ)(T:List Pn)(mi mb:Nat)(i:Nat)(x:Pn)(more:Nat)(w:World)(h:PT w tb A T mi mb)(hx:T[i]?=some x)(h0:0<more)(hm:cZ (aJ T)+more≤mb) :
 Calls prog 98 #[tb,.pointer (A.nb (i+1),0),.int .i64 more] w λe w'=>e=.returned (.tuple #[])∧Qa w tb A T mi mb i x (x.byt++List.replicate more 0) w':=by
 have hb:=h.mb;have hsm:=h.small;have c2:=h.block.c 2 rfl;have f2:=h.block.frozen;have hlt:=h.block.lt;have jO:=h.tree.node i x hx;have acN:=h.tree.aS i x hx;obtain⟨p,cap,hbv,hlc,hcm,hpn⟩:=acN.slice;have c3:w.cell? (A.nb (i+1),3)=some (.slice p x.byt.length cap):=by rw[←hbv];exact jO.cell 3
 have f3:=jO.frozen;have hnl:=jO.lt;have hne:A.nb (i+1)≠tb:=jO.ne h.block (by decide);have hls:x.byt.length≤cZ (aJ T):=by
  have:=nI (aJ T) i x.nd {x.nd with byt:=[]} (by unfold aJ;rw[fA,hx];rfl);simp[Pn.nd]at this
  omega
 have oU:=xh h;have HX:=xh hx;have HND:=xh jO;have HBT:=xh acN;have NJ:=xh hbv;have XF:=xh hpn;have nZ:=xh hne;have HH:=xh hm;generalize htot:cZ (aJ T)=total at *
 have XQ:=xh htot;clear htot;generalize U8:A.nb (i+1)=nb at *
 have KU:=xh U8;clear h hx jO acN hbv hpn U8;go_enter func98,ntmps98;go_upto_region 1 with fail
 have BT:=oU.o.block.setCell (o:=2) (.int .i64 ((total:Int)+(more:Int)));have k1:Keep (λq=>q=tb) w (w.setCell (tb,2) (.int .i64 ((total:Int)+(more:Int)))):=Keep.setCell w tb 2 _;generalize w.setCell (tb,2) (.int .i64 ((total:Int)+(more:Int)))=w1 at *
 have X0:=xh (HND.o.keep k1 nZ.o);have ahM:Hid (Rw w1 x.bv x.byt):=xh (HBT.o.keep k1 λg hg e=>by
  obtain⟨_,cur,hb⟩:=HBT.o.lt hg;exact hb.ne oU.o.block (by decide) e)
 have ahN:=xh BT;have bP:=xh k1;have c3:w1.cell? (nb,3)=some (.slice p x.byt.length cap):=by rw[←NJ.o];exact X0.o.cell 3
 have f3:∀o,w1.frozen? ⟨nb,o,none⟩=false:=X0.o.frozen;have hnl:nb<w1.heap.size:=X0.o.lt;clear BT k1 f2 c2;obtain⟨inf,hi1,hi2,hi3,hi4⟩:=info_parts acM;have HI1:=xh hi1;have HI2:=xh hi2;have HI3:=xh hi3;have HI4:=xh hi4;clear hi1 hi2 hi3 hi4;have HB1:Hid (∀b,p=some b→∀j v,(x.byt.map (Value.int .u8))[j]?=some v→w1.cell? (b.add j)=some v):=xh (λb hb j v hj=>by
  obtain⟨g,rfl,hg⟩:=ahM.o.cells (by rw[NJ.o,hb]);rw[show(⟨g,0,none⟩:Addr).add j=⟨g,j,none⟩from by unfold Addr.add;split<;>simp_all];exact hg j v hj)
 have HPZ:Hid (p=none→x.byt.length=0):=xh λe=>by simp[(XF.o e).1]
 have HML:Hid ((x.byt.map (Value.int .u8)).length=x.byt.length):=xh (by simp)
 go_region_law (refine xe rfl (.tmp 29) (.tmp 30) 59 3 5 rfl inf (.int .u8 0) underlying59 underlying3 HI1.o HI2.o rfl HI3.o HI4.o p x.byt.length x.byt.length (x.byt.map (Value.int .u8)) rfl HPZ.o HML.o HB1.o more rfl h0 (by omega) (by omega) ?_;intro w2 cp k B2 K2 hcp1 hcp2 afa;have c3:w2.cell? (nb,3)=some (.slice p x.byt.length cap):=af K2 c3;have f3:∀o,w2.frozen? ⟨nb,o,none⟩=false:=λo=>(X0.o.bel ((Bel.drew (Bel.refl w1)).tr K2)).frozen o;have ahO:nb<w2.heap.size:=(X0.o.bel ((Bel.drew (Bel.refl w1)).tr K2)).lt;have HB2:=xh B2.out;have iC:Hid (Bel w1 w2):=xh ((Bel.drew (Bel.refl w1)).tr K2);have HCP:=xh afa;clear B2 K2 afa)
 all_goals go_wp2
 all_goals go_end0
 all_goals (refine⟨rfl,?_⟩;rw[←KU.o];refine TZ (w1:=w1) oU.o HX.o (by rw[XQ.o];exact HH.o) ?_ bP.o rfl iC.o HB2.o h0 hcp2 HCP.o;rw[XQ.o];exact ahN.o)
theorem jw{P:Program}{w:World}{ops:Array Oper}{rest:List Oper}{o:Oper}{a:Act}{Q:Exit→Act→World→Prop}(hgd:o.guard=none)(d s:Operand)(dT sT:TypeId)
 (ho:o.op=.call {callee:=.builtin .copy,args:= #[d,s],argTypes:= #[dT,sT]})(elem:TypeId)(hu:P.underlying dT=some (.slice elem))(hsz:(P.info? elem).map (·.size)=some 1)
 (g:Nat)(sp:Option Addr)(dLen dCap sLen sCap:Nat)(hd:a.eval d=.slice (g,0) dLen dCap)(hs:a.eval s=.slice sp sLen sCap)
 (cur:List Value)(t:TypeId)(hg:Blk w g cur t)(cs:List Value)(hn:cs.length=Nat.min sLen dLen)
 (hpos:0<cs.length→∃ad,sp=some ad∧∀j v,cs[j]?=some v→w.cell? (ad.add j)=some v)
 (hfit:cs.length≤cur.length)(h1:∀v∈cs,v.oneCell'=true)
 (h:∀w',Hid (Blk w' g (cs++cur.drop cs.length) t)→Keep (λq=>q=g) w w'→wpList P ops Q rest (a.put o.dst (goInt cs.length)) w') :
 wpList P ops Q (o::rest) a w:=by
 have hsp:∀cs:List Value,splice cur 0 cs=cs++cur.drop cs.length:=λcs=>by simp[splice]
 by_cases h0:cs.length=0
 ·obtain rfl:cs=[]:=List.eq_nil_of_length_eq_zero h0
  refine wpList_copy_nothing hgd d s dT sT ho elem hu hsz (some ⟨g,0,none⟩) sp dLen dCap sLen sCap hd hs (by simpa using hn.symm) ?_;exact h w (xh (by simpa using hg)) (Keep.refl _ w)
 ·obtain⟨ad,rfl,hsrc⟩:=hpos (by omega)
  refine wpList_copy_own hgd d s dT sT ho elem hu hsz g 0 dLen dCap ad sLen sCap hd hs cur.toArray t hg cs hn hsrc (by simpa using hfit) h1 ?_;refine h _ (xh ?_) (Keep.setRow w g _);rw[←hsp];show _=_
  simpa [splice]using setRow_heap w g _ _ t _ hg
theorem PT.put{w w':World}{tb:Nat}{A:bJ}{T:List Pn}{mi mb i g:Nat}{x:Pn}{L:List Int}(h:PT w tb A T mi mb)(hx:T[i]?=some x)(hg:x.bv.ownBlock=some g)(k:Keep (λq=>q=g) w w')(hr:Rw w' x.bv L)(hl:L.length=x.byt.length) :
 kU w tb A T mi mb ((aJ T).set i {x.nd with byt:=L}) A (T.set i (x.setB x.bv L)) w':=by
 obtain⟨_,cur,hb⟩:=(h.tree.aS i x hx).lt hg;have hnd:=(h.tree.node i x hx).keep k (λe=>hb.ne (h.tree.node i x hx) (by decide) e.symm);have XT:=Hq T i x x.bv L;have U1:(aJ T)[i]?=some x.nd:=by unfold aJ;rw[fA,hx];rfl
 have hsum:cZ (aJ (T.set i (x.setB x.bv L)))=cZ (aJ T):=by
  rw[XT];have:=nI (aJ T) i x.nd {x.nd with byt:=L} U1;simp[Pn.nd]at this⊢
  omega
 refine⟨⟨h.tree.setB i x hx x.bv L hnd hr (λg' hg'=>.inr hg') k ?_,?_,by simpa using h.few,by rw[hsum];exact h.small,h.mi,h.mb⟩,XT,k.mono ?_,JL hx λg' hg'=>.inr hg'⟩
 ·rintro q hq rfl;exact .inr hg
 ·rw[hsum,List.length_set]
  exact h.block.keep k (λe=>hb.ne h.block (by decide) e.symm)
 ·rintro q rfl;exact .inr ⟨i,x,hx,.inr (.inr hg)⟩
theorem PT.aax{w w':World}{tb:Nat}{A:bJ}{T:List Pn}{mi mb i:Nat}{x:Pn}(h:PT w tb A T mi mb)(hx:T[i]?=some x)(k:Bel w w'):kU w tb A T mi mb ((aJ T).set i {x.nd with byt:=x.byt}) A T w':=by
 have:(aJ T).set i {x.nd with byt:=x.byt}=aJ T:=by
  have U1:(aJ T)[i]?=some x.nd:=by unfold aJ;rw[fA,hx];rfl
  obtain⟨hi,he⟩:=bV U1;rw[show({x.nd with byt:=x.byt}:Nd)=x.nd from rfl,←he];exact List.set_getElem_self hi
 rw[this];exact kU.refl h k
theorem PT.copied{w w':World}{tb:Nat}{A:bJ}{T:List Pn}{mi mb i g bc:Nat}{x:Pn}{L:List Int}{cur:List Value}(h:PT w tb A T mi mb)(hx:T[i]?=some x)(hl:L.length≤x.byt.length)(hL:∀y∈L,0≤y∧y≤255)
 (hbv:x.bv=.slice (g,0) x.byt.length bc)(hB:Blk w g cur 5)(B':Blk w' g (L.map (Value.int .u8)++cur.drop L.length) 5)(k:Keep (λq=>q=g) w w') :
 kU w tb A T mi mb ((aJ T).set i {x.nd with byt:=L++x.byt.drop L.length}) A (T.set i (x.setB x.bv (L++x.byt.drop L.length))) w':=by
 have hlen:(L++x.byt.drop L.length).length=x.byt.length:=by simp;omega
 refine h.put hx (by rw[hbv];rfl) k ⟨λy hy=>?_,.inr ?_⟩ hlen
 ·rcases List.mem_append.1 hy with hy|hy
  ·exact hL y hy
  ·exact(h.tree.aS i x hx).1 y (List.mem_of_mem_drop hy)
 ·have hr:=(h.tree.aS i x hx).2
  rw[hbv]at hr;rcases hr with⟨hr,_⟩|⟨g',cap',cur',hr,hb,h1,h2,h3,h4⟩
  ·cases hr
  ·cases hr
   have hcc:cur'=cur:=by
    unfold Blk at hb hB;rw[hb]at hB
    injection hB with hB
    injection hB with hB
    simpa using hB
   subst hcc;refine⟨g,bc,_,by rw[hbv,hlen],B',by rw[hlen];exact h1,by simp;omega,h3,?_⟩;rw[hlen,List.map_append,List.take_append,List.take_of_length_le (by simp;omega),List.map_drop,←h4,jE,List.drop_take]
theorem PT.qX{w:World}{tb:Nat}{A:bJ}{T:List Pn}{mi mb:Nat}(h:PT w tb A T mi mb){q:Nat}{c:List Value}{t:TypeId}(hb:Blk w q c t)(h1:t≠220)(h2:t≠234)(h3:t≠5):¬lg tb A T q:=by
 rintro(e|⟨i,m,hi,e|⟨hd,e⟩|e⟩)
 ·exact hb.ne h.block h1 e
 ·exact hb.ne (h.tree.node i m hi) h2 e
 ·exact hb.aP (h.tree.kids i m hi hd) e
 ·obtain⟨_,cur,hc⟩:=(h.tree.aS i m hi).lt e
  exact hb.ne hc h3 rfl
theorem BS.sK{w w':World}{S:Nat→Prop}{p:Option Addr}{L:List Int}(h:BS w p L)(k:Keep S w w')(hs:∀b o,p=some ⟨b,o,none⟩→¬S b):BS w' p L:=
 ⟨h.1,λh0=>by
   obtain⟨b,o,h1,h2,h3⟩:=h.2 h0;exact⟨b,o,h1,Nat.lt_of_lt_of_le h2 k.size,h3.keep k (λ_=>hs b o h1)⟩⟩
theorem BS.cells_at{w:World}{p:Option Addr}{L:List Int}(h:BS w p L)(h0:0<(L.map (Value.int .u8)).length):∃ad,p=some ad∧∀j v,(L.map (Value.int .u8))[j]?=some v→w.cell? (ad.add j)=some v:=by
 obtain⟨b,o,h1,_,h3⟩:=h.2 (by simpa using h0);refine⟨_,h1,λj v hj=>?_⟩;have hjl:=(bV hj).1;rw[Addr.add_mid,h3.cell j (by simpa using hjl),←hj,fA]
theorem JM(kb tb:Nat)(s:ByteArray)(bv:Value)(v:Value)(w:World)(Post:World→World→Prop)(hbv:bv.oneCell'=true)
 (hc:w.cell? (kb,6)=some (.pointer (tb,0)))
 (hm:∀W,Bel w W→Calls prog 94 #[.pointer (tb,0),.string s] W λe w'=>e=.returned v∧Post W w') :
 Calls prog 55 #[.pointer (kb,0),.agg #[.string s,.bool true,bv]] w λe w'=>e=.returned v∧∃W,Bel w W∧Post W w':=by
 have HM:=xh hm;have HC:=xh hc;clear hm hc;go_enter func55,ntmps55;go_upto_region 1 with fail
 have k1:Bel w (w.alloc (.cells #[.string s,.bool true,bv] 71)):=Bel.start w _;have B1:=Blk.new w [.string s,.bool true,bv] 71;generalize w.alloc (.cells #[.string s,.bool true,bv] 71)=w1 at *
 have bP:=xh k1;have c0:=B1.c 0 rfl;have c1:=B1.c 1 rfl;have c6:w1.cell? (kb,6)=some (.pointer (tb,0)):=af k1 HC.o;generalize w.heap.size=g at *
 clear k1 B1;go_upto_region 2 with fail
 go_still_tail 6,(by kernel_rfl)
 change wpList _ _ _ _ _ w1.drew
 have kd:Bel w1 w1.drew:=Bel.drew (Bel.refl _);generalize w1.drew=wd at *
 have jY:=xh (bP.o.tr kd);clear kd c0 c1 c6;go_wp2_with (go_at_call 94;((with_reducible refine aH (HM.o wd jY.o) ?_);rintro e w2 ⟨rfl,hp⟩))
 go_ret
 exact⟨rfl,wd,jY.o,hp⟩
structure Hr(w:World)(tb:Nat)(A:bJ)(T:List Pn)(mi mb:Nat)(r:Nat×List Nd)(L:List Int)(w1:World)(A1:bJ)(T1:List Pn)(i:Nat)(x:Pn):Prop where
 step:kU w tb A T mi mb (aJ T1) A1 T1 w1
 node:T1[i]?=some x
 res:r=qL mb (aJ T1) (i+1) L
def Ht(w:World)(tb:Nat)(A:bJ)(T:List Pn)(mi mb:Nat)(r:Nat×List Nd)(e:Ending)(w':World):Prop:=P6 w tb A T mi mb r e w'
theorem TP(kb tb:Nat)(A:bJ)(T:List Pn)(mi mb:Nat)(s nm:ByteArray)(p:Option Addr)(cap:Nat)(L:List Int)(d n:Nat)(w:World)(h:PT w tb A T mi mb)(hc:w.cell? (kb,6)=some (.pointer (tb,0)))(hkb:¬lg tb A T kb)
 (hbs:BS w p L)(hlen:L.length≤200000)(aay:∀b o,p=some ⟨b,o,none⟩→¬lg tb A T b)
 (hf:∀W,Bel w W→Calls prog 95 #[.pointer (tb,0),.string s] W (Z.b (.tuple #[.agg #[A.ptr d,.string nm,A.ptr n],.nilIface]) W))
 (r:Nat×List Nd)(hr:if n=0 then d≠0∧isDir (aJ T) d=true∧child (aJ T) d nm=0∧bC nm.data.toList=true∧(47:UInt8)∉nm.data.toList∧r=(if mi≤T.length then(12,aJ T)else qL mb (aJ T++[⟨d,nm,false,[],eU⟩]) (T.length+1) L)else n≤T.length∧r=qL mb (aJ T) n L) :
 Calls prog 55 #[.pointer (kb,0),.agg #[.string s,.bool false,.slice p L.length cap]] w λe w'=>Ht w tb A T mi mb r e w':=by
 have HF:=xh hf;have HC:=xh hc;have oU:=xh h;have HBS:=xh hbs;have HBF:=xh aay;have HKB:=xh hkb;have HR:=xh hr;obtain⟨pd,hpd⟩:=e_x (A.at_ d);obtain⟨pn,hpn⟩:=e_x (A.at_ n);rw[show A.ptr d=.pointer pd from by rw[←hpd];rfl,show A.ptr n=.pointer pn from by rw[←hpn];rfl]at HF;have HPD:=xh hpd;have XF:=xh hpn;clear hf hc h hbs aay hkb hr hpd hpn;go_enter func55,ntmps55;go_upto_region 1 with fail
 have k1:Bel w (w.alloc (.cells #[.string s,.bool false,.slice p L.length cap] 71)):=Bel.start w _;have B1:=Blk.new w [.string s,.bool false,.slice p L.length cap] 71;generalize w.alloc (.cells #[.string s,.bool false,.slice p L.length cap] 71)=w1 at *
 obtain⟨g3,hg3⟩:=e_x w.heap.size;rw[hg3]at B1⊢;have HG3:=xh hg3;have HB1:=xh B1;have bP:=xh k1;have c0:=B1.c 0 rfl;have c1:=B1.c 1 rfl;have c6:w1.cell? (kb,6)=some (.pointer (tb,0)):=af k1 HC.o;clear k1 B1 hg3;go_upto_region 3 with fail
 have ae0:g3<w1.heap.size:=HB1.o.lt;have hkl:kb<w1.heap.size:=World.block_lt_of_cell? _ _ c6
 go_cut [5,6] (λs5 s6 wx=>s6=.nilIface∧∃g5,s5=.pointer (g5,0)∧Hid (Blk wx g5 [.pointer pd,.string nm,.pointer pn] 240)∧Hid (Bel w1 wx))
 case first=>
  go_region_with (first
   | (go_at_call 95;((with_reducible refine aH (HF.o _ (bP.o.drew)) ?_);rintro e w2 ⟨rfl,k2⟩;have iC:Hid (Bel w1 w2):=xh ((Bel.drew (Bel.refl w1)).tr k2);have hu:w1.heap.size≤w2.heap.size:=iC.o.size;clear k2))
   | (go_at_call 95;((with_reducible refine aH (HF.o _ ((bP.o.ac _).drew)) ?_);rintro e w2 ⟨rfl,k2⟩;have B5:=(Blk.new w1 [.pointer none,.string ⟨#[]⟩,.pointer none] 240).bel ((Bel.drew (Bel.refl _)).tr k2);have iC:Hid (Bel w1 w2):=xh (((Bel.start w1 _).tr (Bel.drew (Bel.refl _))).tr k2);have zU:=xh B5;have c50:=B5.c 0 rfl;have c51:=B5.c 1 rfl;have c52:=B5.c 2 rfl;have f5:=B5.frozen;clear k2 B5)))
  all_goals (go_wp2_with fail;go_meet;first
   | exact⟨rfl,_,rfl,xh (Blk.new w2 _ _),xh (iC.o.ac _)⟩
   | exact⟨rfl,_,rfl,xh (((zU.o.setCell (o:=0) _).setCell (o:=1) _).setCell (o:=2) _),xh (((iC.o.store (p:=⟨w1.heap.size,0,none⟩) (bM _) _).store (p:=⟨w1.heap.size,1,none⟩) (bM _) _).store (p:=⟨w1.heap.size,2,none⟩) (bM _) _)⟩)
 case rest=>
  obtain⟨rfl,g5,rfl,B5,k5⟩:=hcut;have pX:=xh (bP.o.tr k5.out);have zU:=xh B5.out;have HB3:=xh (HB1.o.bel k5.out);have ae1:=xh (oU.o.bel pX.o);have c52:=B5.out.c 2 rfl;have ajF:g5<wc.heap.size:=B5.out.lt;clear c0 c1 c6 ae0 hkl B5 k5
  go_upto_if 34 with fail
  go_cut [6,7] (λs6 s7 wx=>∃nb,s7=.pointer (nb,0)∧Hid (∃(A1:bJ) (T1:List Pn) (i:Nat) (x1:Pn),Hr w tb A T mi mb r L wx A1 T1 i x1∧A1.nb (i+1)=nb)∧Hid (Blk wx g3 [.string s,.bool false,.slice p L.length cap] 71))
  case first=>
   by_cases hn:n=0
   ·have hr:=HR.o
    rw[if_pos hn]at hr;obtain⟨r1,r2,r3,r4,r5,r6⟩:=hr;have hpn:pn=none:=by rw[←XF.o];simp[bJ.at_,hn]
    subst hpn;obtain⟨d,rfl⟩:∃d',d=d'+1:=⟨d-1,by omega⟩;obtain⟨y,hy,Ej⟩:=qV r2;rw[Nat.add_sub_cancel,aJ,fA,Option.map_eq_some_iff]at hy;obtain⟨D,hD,rfl⟩:=hy;have hpd:A.ptr (d+1)=.pointer pd:=by rw[←HPD.o];rfl
    have c6:wc.cell? (kb,6)=some (.pointer (tb,0)):=af pX.o HC.o;have c50:=zU.o.c 0 rfl;have c51:=zU.o.c 1 rfl;by_cases hm:mi≤T.length
    ·have DL:Hid (∀W,Bel w W→Calls prog 96 #[.pointer (tb,0),.agg #[.pointer pd,.string nm,.pointer none],.bool false] W (Z.b (.tuple #[.pointer none,fH 12]) W)):=xh λW hW=>by
      rw[←hpd];refine EY tb A _ (d+1) nm false W (oU.o.bel hW).block (oU.o.bel hW).ok ?_;unfold kV;simp only[Bool.and_eq_false_iff,decide_eq_false_iff_not]
      left;omega
     rw[if_pos hm]at r6;have O1:=xh r6;clear r1 r2 r3 r4 r5 r6 hD Ej hpd hm hn;go_upto_region 8 with fail
     go_region_with (go_at_call 96;((with_reducible refine aH (DL.o _ (pX.o.drew)) ?_);rintro e w6 ⟨rfl,k6⟩;have mG:=xh ((pX.o.drew).tr k6);clear k6))
     all_goals go_wp2
     all_goals go_ret
     all_goals exact⟨λ_=>⟨by rw[O1.o];rfl,Keep.of_bel _ mG.o⟩,λh=>by rw[O1.o]at h;cases h⟩
    ·have DL:Hid (∀W,Bel w W→Calls prog 96 #[.pointer (tb,0),.agg #[.pointer pd,.string nm,.pointer none],.bool false] W λe w'=>∃nb mx:Nat,e=.returned (.tuple #[.pointer (nb,0),.nilIface])∧Made A T ⟨T.length,cZ (aJ T),mi,mb⟩ tb (d+1) nm false W nb mx w'):=xh λW hW=>by
      rw[←hpd];have hsm:=oU.o.small;have OY:=oU.o.mi;refine P9 tb A T _ d D nm false W (oU.o.bel hW).block (oU.o.bel hW).tree (oU.o.bel hW).ok ?_ hD Ej r3 ⟨r4,r5⟩ (by omega);unfold kV;simp only[Bool.and_eq_true,decide_eq_true_eq]
      omega
     rw[if_neg hm]at r6;have H3N:Hid (g3=tb∨g3=A.mb (d+1)→False):=xh (by
      rintro(e|e)
      ·exact HB3.o.ne ae1.o.block (by decide) e
      ·exact HB3.o.aP (ae1.o.tree.kids d D hD Ej) e)
     have HMS:Hid (∀W nb mx w',Bel w W→Made A T ⟨T.length,cZ (aJ T),mi,mb⟩ tb (d+1) nm false W nb mx w'→∃(A1:bJ) (T1:List Pn) (i:Nat) (x1:Pn),Hr w tb A T mi mb r L w' A1 T1 i x1∧A1.nb (i+1)=nb):=xh λW nb mx w' hW hM=>by
      have hst:=Made.step oU.o D hD Ej (by omega) (hM.of_bel hW);refine⟨_,_,T.length,qF (d+1) nm false,⟨by rw[hst.aJ];exact hst,by simp,?_⟩,by simp[bJ.add]⟩;rw[hst.aJ];exact r6
     clear r1 r2 r3 r4 r5 r6 hD Ej hpd hm hn;go_upto_region 8 with fail
     go_cut [6,7] (λs6 s7 wx=>s6=.nilIface∧∃nb,s7=.pointer (nb,0)∧Hid (∃(A1:bJ) (T1:List Pn) (i:Nat) (x1:Pn),Hr w tb A T mi mb r L wx A1 T1 i x1∧A1.nb (i+1)=nb)∧Hid (Blk wx g3 [.string s,.bool false,.slice p L.length cap] 71))
     case first=>
      go_region_with (go_at_call 96;((with_reducible refine aH (DL.o _ (pX.o.drew)) ?_);rintro e w6 ⟨nb,mx,rfl,hM⟩;have HAT:=xh (HMS.o _ _ _ _ (pX.o.drew) hM);have TQ:=xh ((HB3.o.bel (Bel.drew (Bel.refl _))).keep hM.keep (λe=>H3N.o e));clear hM))
      all_goals (go_wp2_with fail;go_meet;exact⟨rfl,_,rfl,HAT,TQ⟩)
     case rest=>
     obtain⟨rfl,nb,rfl,HAT,TQ⟩:=hcut;clear c50 c51 c52 c6;go_wp2_with fail
     go_meet
     exact⟨nb,rfl,HAT,TQ⟩
   ·have hr:=HR.o
    rw[if_neg hn]at hr;obtain⟨r1,r2⟩:=hr;have hpn:pn=some ⟨A.nb n,0,none⟩:=by rw[←XF.o];simp[bJ.at_,hn]
    obtain⟨nb,hnb⟩:=e_x (A.nb n);rw[hnb]at hpn;subst hpn;obtain⟨x,hx⟩:∃x,T[n-1]?=some x:=⟨T[n-1]'(by omega),bT (by omega)⟩;have hat:∃(A1:bJ) (T1:List Pn) (i:Nat) (x1:Pn),Hr w tb A T mi mb r L wc A1 T1 i x1∧A1.nb (i+1)=nb:=⟨A,T,n-1,x,⟨kU.refl oU.o pX.o,hx,by rw[r2,show n-1+1=n from by omega]⟩,by rw[show n-1+1=n from by omega];exact hnb⟩;have HAT:=xh hat;clear hat hx hnb r1 r2 hn;go_wp2_with fail
    go_meet
    exact⟨nb,rfl,HAT,HB3⟩
  case rest=>
   obtain⟨nb,rfl,HAT,TQ⟩:=hcut;go_upto_region 11 with fail
   obtain⟨A1,T1,i,x,hat,hnb⟩:=HAT.o;have hpt:=hat.step.pt;have hx:=hat.node;have hres:=hat.res;have hks:=hat.step.keep;have hkl:kb<w.heap.size:=World.block_lt_of_cell? _ _ HC.o;have c6:wc.cell? (kb,6)=some (.pointer (tb,0)):=(hks.cell ⟨kb,6,none⟩ hkl HKB.o).trans HC.o;have hbs:=HBS.o.sK hks HBF.o;have jO:=hpt.tree.node i x hx;rw[hnb]at jO;have cM:=jO.c 2 rfl;have cB:wc.cell? (nb,3)=some x.bv:=jO.cell 3;have c32:=TQ.o.c 2 rfl;have U1:(aJ T1)[i]?=some x.nd:=by unfold aJ;rw[fA,hx];rfl
   have HST:=xh hat.step;have NT:=xh hpt;have HX:=xh hx;have KU:=xh hnb;have ae2:=xh hbs;have hlx:x.byt.length≤cZ (aJ T1):=by
    have:=nI (aJ T1) i x.nd {x.nd with byt:=[]} U1;simp[Pn.nd]at this
    omega
   have hsm:=hpt.small;have hmb:=hpt.mb;have hfew:=hpt.few;unfold qL at hres;rw[Nat.add_sub_cancel,U1]at hres;simp only at hres
   cases hxd:x.dir with
   | true=>
     have HE:Hid (r.1=11):=xh (by rw[hres,show x.nd.dir=true from hxd];rfl);have hm:x.map A1 (i+1)=some (A1.mb (i+1)):=by unfold Pn.map;rw[hxd];rfl
     rw[hm]at cM;have HD:=xh (sJ nb (some (A1.mb (i+1))) wc cM);clear hat hpt hx hres hks hkl c6 hbs jO cM cB c32 U1 hm hxd hnb;go_wp2_with (go_at_call 92;((with_reducible refine aH HD.o ?_);rintro e wx ⟨rfl,h⟩;subst h))
     go_ret
     exact⟨λ_=>⟨by rw[HE.o];rfl,HST.o.keep⟩,λh=>by rw[HE.o]at h;cases h⟩
   | false=>
     rw[if_neg (by rw[show x.nd.dir=false from hxd];simp)]at hres;have hm:x.map A1 (i+1)=none:=by unfold Pn.map;rw[hxd];rfl
     rw[hm]at cM;have HD:=xh (sJ nb none wc cM);obtain⟨bp,bc,hbv,hb1,hb2,hb3⟩:=(hpt.tree.aS i x hx).slice;rw[hbv]at cB;have NJ:=xh hbv;have HBN:=xh hb3;have NQ:=xh hres;have hw:IntKind.i64.wrap ((L.length:Int)-(x.byt.length:Int))=(L.length:Int)-(x.byt.length:Int):=by rw[IntKind.wrap_i64];omega
     clear hat hpt hx hres hks hkl hbs jO cM U1 hm hxd hnb hbv hb3;go_upto_region 13 with(go_at_call 92;((with_reducible refine aH HD.o ?_);rintro e wx ⟨rfl,h⟩;subst h))
     go_quiet (fail)
     have kd:Bel wc (wc.drewN nq):=aj (Bel.refl _) nq;generalize wc.drewN nq=wd at *
     have jY:=xh kd;have c6d:wd.cell? (kb,6)=some (.pointer (tb,0)):=af kd c6;have cBd:wd.cell? (nb,3)=some (.slice bp x.byt.length bc):=af kd cB;have ae3:wd.cell? (g3,2)=some (.slice p L.length cap):=af kd c32;clear c6 cB c32 kd hw;by_cases hgt:x.byt.length<L.length
     ·have hgp:(0:Int)<(L.length:Int)-(x.byt.length:Int):=by omega
      have hmo:(L.length:Int)-(x.byt.length:Int)=((L.length-x.byt.length:Nat):Int):=by omega
      have wR:=xh λW hW=>BZ tb A1 _ 0 ((L.length:Int)-(x.byt.length:Int)) W (NT.o.bel hW).block NT.o.ok (by omega) (by omega);by_cases hroom:mb<cZ (aJ T1)+(L.length-x.byt.length)
      ·have HE:Hid (r.1=12):=xh (by rw[NQ.o,if_pos ⟨by omega,hroom⟩])
       have HRB:Hid (kV ⟨T1.length,cZ (aJ T1),mi,mb⟩ 0 ((L.length:Int)-(x.byt.length:Int))=false):=xh (by
        unfold kV;simp only[Bool.and_eq_false_iff,decide_eq_false_iff_not]
        right;omega)
       rw[HRB.o]at wR;clear hroom hmo;go_wp2_with (go_at_call 97;((with_reducible refine aH (wR.o wd jY.o) ?_);rintro e we ⟨rfl,k6⟩;have mG:=xh (jY.o.tr k6);clear k6))
       go_ret
       exact⟨λ_=>⟨by rw[HE.o];rfl,HST.o.keep.tr (Keep.of_bel _ mG.o)⟩,λh=>by rw[HE.o]at h;cases h⟩
      ·have HE:Hid (r=(0,(aJ T1).set i {x.nd with byt:=L++x.byt.drop L.length})):=xh (by
        rw[NQ.o,if_neg (by rintro⟨h1,h2⟩;exact hroom h2)];rfl)
       have HRB:Hid (kV ⟨T1.length,cZ (aJ T1),mi,mb⟩ 0 ((L.length:Int)-(x.byt.length:Int))=true):=xh (by
        unfold kV;simp only[Bool.and_eq_true,decide_eq_true_eq]
        constructor<;>omega)
       rw[HRB.o]at wR;have HGR:=xh λW hW=>(show Calls prog 98 #[.pointer (tb,0),.pointer (A1.nb (i+1),0),.int .i64 ((L.length:Int)-(x.byt.length:Int))] W _ from hmo▸XU tb A1 T1 mi mb i x (L.length-x.byt.length) W (NT.o.bel hW) HX.o (by omega) (by omega));rw[KU.o]at HGR;have nZ:Hid (0<L.length):=xh (by omega);have HLE:Hid (x.byt.length+(L.length-x.byt.length)=L.length):=xh (by omega);clear hroom hmo;go_upto_region 17 with(go_at_call 97;((with_reducible refine aH (wR.o wd jY.o) ?_);rintro e we ⟨rfl,k6⟩;have mG:=xh (jY.o.tr k6);have c6e:we.cell? (kb,6)=some (.pointer (tb,0)):=af k6 c6d;clear k6))
       go_upto_region 18 with(go_at_call 98;((with_reducible refine aH (HGR.o we mG.o) ?_);rintro e w7 ⟨rfl,hG⟩))
       obtain⟨bv,hst⟩:=hG;have acF:=TQ.o.bel mG.o;have ae4:=acF.keep hst.keep ((NT.o.bel mG.o).qX acF (by decide) (by decide) (by decide));have hx2:(T1.set i (x.setB bv (x.byt++List.replicate (L.length-x.byt.length) 0)))[i]?=some (x.setB bv (x.byt++List.replicate (L.length-x.byt.length) 0)):=List.getElem?_set_self (bV HX.o).1;have acG:=hst.pt.tree.node i _ hx2;have ae5:=hst.pt.tree.aS i _ hx2;have hl2:(x.setB bv (x.byt++List.replicate (L.length-x.byt.length) 0)).byt.length=L.length:=by simp[Pn.setB];exact HLE.o
       obtain⟨g,bc2,cur,hgv,hB,h1,h2,h3,h4⟩:=ae5.2.resolve_left (λh=>by have:=h.2;rw[this]at hl2;have:=nZ.o;simp at hl2;omega);rw[hl2]at hgv h1;have acH:bv=.slice (g,0) L.length bc2:=hgv;rw[KU.o]at acG;have c37:w7.cell? (nb,3)=some (.slice (g,0) L.length bc2):=by rw[←acH];exact acG.cell 3
       have ahG:=ae4.c 2 rfl;have hsw:BS w7 p L:=by
        refine(ae2.o.bel mG.o).sK hst.keep λb o hp hf=>?_;rcases HST.o.foot b hf with h|h
        ·exact HBF.o b o hp h
        ·obtain⟨b',o',h5,h6,_⟩:=HBS.o.2 nZ.o
         rw[hp]at h5;cases h5
         omega
       have HX2:=xh hx2;have HS2:Hid (kU w tb A T mi mb ((aJ T1).set i {x.nd with byt:=x.byt++List.replicate (L.length-x.byt.length) 0}) A1 (T1.set i (x.setB bv (x.byt++List.replicate (L.length-x.byt.length) 0))) w7):=xh (HST.o.tr ⟨hst.pt,hst.aJ,(Keep.of_bel _ mG.o).tr hst.keep,λq hq=>by
        rcases hst.foot q hq with h|h
        ·exact .inl h
        ·exact .inr (bU mG.o.size h)⟩)
       have HL2:=xh hl2;have HGV:=xh acH;have HP7:=xh hst.pt;have ahH:=xh hB;have ahI:=xh hsw;clear hst acF ae4 hx2 acG ae5 hl2 hgv acH hB hsw h4 c6e c6d cBd ae3;go_still_tail 6,(by kernel_rfl)
       change wpList _ _ _ _ _ w7.drew
       have QY:Bel w7 w7.drew:=Bel.drew (Bel.refl _);generalize w7.drew=w8 at *
       have Tn:=xh QY;have HP8:=xh (HP7.o.bel QY);have YV:=xh (ahH.o.bel QY);have XV:=xh (ahI.o.bel QY);clear QY c37 ahG;have um:=xh (λh0=>XV.o.cells_at h0);have zT:=xh XV.o.1
       (refine jw rfl (.tmp 79) (.tmp 81) 59 59 rfl 5 underlying59 (by kernel_rfl) g p L.length bc2 L.length cap rfl rfl cur 5 YV.o (L.map (Value.int .u8)) (by rw[jE];exact(Nat.min_self _).symm) um.o (by rw[jE];omega) (by intro v hv;obtain⟨y,_,rfl⟩:=List.mem_map.1 hv;rfl) ?_;intro wf BF KF)
       go_wp2
       go_ret
       refine⟨λh=>absurd (by rw[HE.o]) h,λ_=>⟨rfl,A1,(T1.set i (x.setB bv (x.byt++List.replicate (L.length-x.byt.length) 0))).set i ((x.setB bv (x.byt++List.replicate (L.length-x.byt.length) 0)).setB bv (L++(x.byt++List.replicate (L.length-x.byt.length) 0).drop L.length)),?_⟩⟩;have hcp:=HP8.o.copied HX2.o (by rw[HL2.o];exact bM _) zT.o (by rw[HL2.o];exact HGV.o) YV.o (by have:=BF.out;simpa using this) KF;have hfin:=HS2.o.tr (show kU w7 tb A1 _ mi mb _ A1 _ wf from⟨hcp.pt,hcp.aJ,(Keep.of_bel _ Tn.o).tr hcp.keep,λq hq=>by
        rcases hcp.foot q hq with h|h
        ·exact .inl h
        ·exact .inr (bU Tn.o.size h)⟩)
       rw[HE.o];have e1:(x.byt++List.replicate (L.length-x.byt.length) 0).drop L.length=[]:=List.drop_of_length_le (by simp;omega);have e2:x.byt.drop L.length=[]:=List.drop_of_length_le (by omega);have e3:(aJ (T1.set i (x.setB bv (x.byt++List.replicate (L.length-x.byt.length) 0)))).set i {(x.setB bv (x.byt++List.replicate (L.length-x.byt.length) 0)).nd with byt:=L++(x.setB bv (x.byt++List.replicate (L.length-x.byt.length) 0)).byt.drop L.length}=(aJ T1).set i {x.nd with byt:=L++x.byt.drop L.length}:=by
        rw[Hq,List.set_set,e2,show(x.setB bv (x.byt++List.replicate (L.length-x.byt.length) 0)).byt=x.byt++List.replicate (L.length-x.byt.length) 0 from rfl,e1];rfl
       rw[e3]at hfin;exact hfin
     ·have hng:¬((0:Int)<(L.length:Int)-(x.byt.length:Int)):=by omega
      have HE:Hid (r=(0,(aJ T1).set i {x.nd with byt:=L++x.byt.drop L.length})):=xh (by
       rw[NQ.o,if_neg (by rintro⟨h1,h2⟩;simp[Pn.nd]at h2;omega)];rfl)
      have hle:L.length≤x.byt.length:=by omega
      clear hgt;go_upto_region 18 with fail
      have hlp:L.length=0∨∃g,bp=some ⟨g,0,none⟩:=by
       by_cases h0:L.length=0
       ·exact .inl h0
       ·right
        rcases((NT.o.tree.aS i x HX.o)).2 with⟨h1,h2⟩|⟨g,c',cur,h1,_⟩
        ·exact absurd (by simpa [h2]using hle:L=[]) (λe=>h0 (by simp[e]))
        ·rw[NJ.o]at h1;cases h1;exact⟨g,rfl⟩
      have HLP:=xh hlp;clear hlp;go_still_tail 6,(by kernel_rfl)
      change wpList _ _ _ _ _ wd.drew
      have QY:Bel wd wd.drew:=Bel.drew (Bel.refl _);generalize wd.drew=we at *
      have Tn:=xh (jY.o.tr QY);have ae6:=xh (NT.o.bel (jY.o.tr QY));have XV:=xh (ae2.o.bel (jY.o.tr QY));clear QY c6d cBd ae3;rcases HLP.o with h0|⟨g,rfl⟩
      ·have HL0:Hid (L=[]):=xh (List.eq_nil_of_length_eq_zero h0)
       go_wp2_with (refine wpList_copy_nothing rfl (.tmp 79) (.tmp 81) 59 59 rfl 5 underlying59 (by kernel_rfl) bp p x.byt.length bc L.length cap rfl rfl (by rw[h0];simp) ?_)
       go_ret
       refine⟨λh=>absurd (by rw[HE.o]) h,λ_=>⟨rfl,A1,T1,?_⟩⟩;have:=HST.o.tr (NT.o.aax HX.o Tn.o);rw[HE.o,HL0.o]
       simpa using this
      ·obtain⟨g',cap',cur,hgv,hB,h1,h2,h3,h4⟩:=(ae6.o.tree.aS i x HX.o).2.resolve_left (λh=>by rw[NJ.o]at h;cases h.1)
       rw[NJ.o]at hgv;cases hgv
       have YV:=xh hB;have um:=xh (λh0=>XV.o.cells_at h0);have zT:=xh XV.o.1;clear hB h4
       (refine jw rfl (.tmp 79) (.tmp 81) 59 59 rfl 5 underlying59 (by kernel_rfl) g p x.byt.length bc L.length cap rfl rfl cur 5 YV.o (L.map (Value.int .u8)) (by rw[jE];exact(Nat.min_eq_left hle).symm) um.o (by rw[jE];omega) (by intro v hv;obtain⟨y,_,rfl⟩:=List.mem_map.1 hv;rfl) ?_;intro wf BF KF)
       go_wp2
       go_ret
       refine⟨λh=>absurd (by rw[HE.o]) h,λ_=>⟨rfl,A1,T1.set i (x.setB x.bv (L++x.byt.drop L.length)),?_⟩⟩;have hcp:=ae6.o.copied HX.o hle zT.o NJ.o YV.o (by have:=BF.out;simpa using this) KF;rw[HE.o];exact HST.o.tr ⟨hcp.pt,hcp.aJ,(Keep.of_bel _ Tn.o).tr hcp.keep,λq hq=>by
        rcases hcp.foot q hq with h|h
        ·exact .inl h
        ·exact .inr (bU Tn.o.size h)⟩
end
section
open Go.Proofs.Tryz Go.RowKit Go.Maps
theorem Yl(z:Value)(n:Nat):madeCells #[z] n=(List.replicate n z).toArray:=lK z n▸by simp[madeCells,Builtin.zeroCells]
theorem PU(n:Nat)(hn:n≤1000000)(x:Int)(w:World)(hx:x=n):(Instr.makeSlice 59 (.int .i64 x) (.int .i64 x)).run prog w=.ok (.slice (w.heap.size,0) n n) (w.alloc (.cells (List.replicate n (Value.int .u8 0)).toArray 5)):=by
 obtain⟨i,hi,h1,h2,h3⟩:=info_parts CY;subst hx;have:=run_makeSlice (P:=prog) (w:=w) 59 5 i (.int .u8 0) underlying59 hi h1 .i64 .i64 n n (by omega) (by omega) (by rw[h2];omega) (by rw[h3];omega) (by omega);rw[h2,Nat.mul_one,show(Value.int .u8 0).cells = #[Value.int .u8 0]from rfl,Yl]at this;exact this
theorem rX{f g:Nat→Int}{N:Nat}(h:∀i,i<N→f i=g i):rowOf f N=rowOf g N:=by
 unfold rowOf;exact List.map_congr_left λi hi=>by rw[h i (List.mem_range.1 hi)]
theorem Ox(N:Nat):rowOf (λ_=>0) N=List.replicate N (Value.int .u8 0):=by
 unfold rowOf;apply List.ext_getElem?
 intro i;by_cases h:i<N
 ·simp[h]
 ·simp[h]
theorem Xu(b:Nat)(perm:Nat→Option Int)(M:Nat→Int)(A n:Nat)(w:World)(hs:Sp w b (ah perm M))(hA:A+n≤65536)(hperm:∀a,A≤a→a<A+n→(perm (a/256)).isSome=true) :
 Calls prog 126 #[.map (some b),.int .u64 A,.int .i64 n] w λe w'=>∃g,e=.returned (.slice (g,0) n n)∧w.heap.size≤g∧Blk w' g (rowOf (λi=>M (A+i)) n) 5∧Bel w w':=by
 have HP:=xh hperm;clear hperm;obtain⟨zs0,ac5⟩:=e_x (List.replicate n (Value.int .u8 0));have hmk:=λW=>PU n (by omega) n W rfl;rw[ac5]at hmk;have HZ0:=xh ac5;clear ac5;go_enter func126,ntmps126;go_upto_region 2 with fail
 have k1:Bel w (w.alloc (.cells zs0.toArray 5)):=Bel.start w _;have B1:=Blk.new w zs0 5;generalize w.alloc (.cells zs0.toArray 5)=w1 at *
 obtain⟨g,hg⟩:=e_x w.heap.size;have hbg:b<g:=by rw[←hg];exact hs.lt
 have hs1:=hs.bel k1;rw[hg]at B1⊢;have HG:=xh hg;have HB1:=xh B1;have bP:=xh k1;have hgl:=B1.lt;clear hg B1 k1 hmk hs;go_upto_region 3 with fail
 go_loopw [15] (λi wr=>∃k:Nat,k≤n∧i=.int .i64 k∧Blk wr g (rowOf (λi=>if i<k then M (A+i)else 0) n) 5∧Keep (λq=>q=g) w1 wr) (λi _=>n-(intOf i).toNat)
 case atStart=>exact⟨0,Nat.zero_le _,rfl,by have:=HB1.o;rw[←HZ0.o,←Ox]at this;rw[rX (g:=λ_=>0) (λi _=>by simp)];exact this,Keep.refl _ _⟩
 case round=>
  obtain⟨k,hk,rfl,hB,hK⟩:=hrel;by_cases hlt:k<n
  ·have vN:Sp wr b (ah perm M):=hs1.keep hK (λe=>by have e:b=g:=e;omega)
   obtain⟨N,hN⟩:∃N:Nat,N=(A+k)/256:=⟨_,rfl⟩;obtain⟨r,hr⟩:∃r:Nat,r=(A+k)%256:=⟨_,rfl⟩;have hsum:A+k=256*N+r:=by omega
   have BL:r<256:=by omega
   have ai1:N<256:=by omega
   have hlk:=vN.lookup N (by omega);obtain⟨pm,hpm⟩:=Option.isSome_iff_exists.1 (HP.o (A+k) (by omega) (by omega));rw[←hN]at hpm;have uF:(ah perm M N).getD Pg.zero=⟨pm,(List.range 256).map λi=>M (256*N+i)⟩:=by simp[ah,hpm]
   rw[uF]at hlk;obtain⟨cs,hcs⟩:∃cs:List Value,cs=Pg.cells ⟨pm,(List.range 256).map λi=>M (256*N+i)⟩:=⟨_,rfl⟩;rw[show Pg.v ⟨pm,(List.range 256).map λi=>M (256*N+i)⟩=.agg cs.toArray from by rw[hcs];rfl]at hlk;have hcl:cs.length=257:=by rw[hcs];simp[Pg.cells]
   have hone:∀v∈cs,v.oneCell'=true:=by rw[hcs];exact Pg.cells_one _
   have hcr:cs[1+r]?=some (.int .u8 (M (A+k))):=by
    rw[hcs,hsum];simp[Pg.cells,Nat.add_comm 1 r,BL]
   have hz:∀w,(zeroValue 187).run prog w=.ok (.agg Pg.zero.cells.toArray) w:=pz;obtain⟨zs,hzs⟩:∃zs:List Value,zs=Pg.zero.cells:=⟨_,rfl⟩;have hzl:zs.length=257:=by rw[hzs];simp[Pg.cells,Pg.zero]
   rw[←hzs]at hz;have hdiv:((A:Int)+k)/256=(N:Int):=by omega
   have hmod:((A:Int)+k)%256=(r:Int):=by omega
   have hg8:g<wr.heap.size:=hB.lt;have hgf:=hB.frozen k;have jK:=xh hcl;have oh:=xh hzl;have HCR:=xh hcr;have qg:=xh hone;have HB:=xh hB;have HK:=xh hK;clear hN hr hsum hcs hcl hzl hpm hzs uF hone hcr hB hK;obtain⟨x,hx⟩:=e_x (M (A+k));rw[hx]at HCR;have HX:=xh hx;clear hx;go_upto_region 7 with(refine aA rfl 187 (.tmp 10) (.tmp 25) rfl rfl wr.heap.size cs zs 187 (Blk.new wr zs _) rfl rfl (by rw[jK.o];kernel_rfl) (oh.o.trans jK.o.symm) qg.o ?_;intro w2 B2 K2)
   have c7:w2.cell? (wr.heap.size,1+r)=some (.int .u8 x):=by
    rw[B2.out.cell];exact HCR.o
   have HB2:=xh ((HB.o.bel (Bel.start wr (.cells zs.toArray 187))).keep K2 (λe=>by have e:g=wr.heap.size:=e;omega));have K3:=xh ((Keep.of_bel (λq=>q=g) (Bel.start wr (.cells zs.toArray 187))).dY K2 (λi hi=>.inr (by have e:i=wr.heap.size:=hi;omega)));have f7:=HB2.o.frozen k;have l7:=HB2.o.lt;have c8:w2.cell? ⟨g,k,none⟩=some (.int .u8 0):=by
    rw[HB2.o.cell,tX _ _ _ hlt];simp
   clear B2 K2;go_wp2_with fail
   go_roundw
   case rel=>
    refine⟨k+1,by omega,by go_num,?_,(HK.o.tr K3.o).tr (Keep.setCell _ _ _ _)⟩;have h:=HB2.o.fV k x;rw[rX (g:=jk (λi=>if i<k then M (A+i)else 0) k x) (λi _=>?_)]
    ·exact h
    ·unfold jk
     by_cases e:i=k
     ·subst e
      rw[if_pos rfl,if_pos (by omega)];exact HX.o
     ·rw[if_neg e]
      show(if i<k+1 then M (A+i)else 0)=if i<k then M (A+i)else 0
      by_cases e2:i<k
      ·rw[if_pos e2,if_pos (by omega)]
      ·rw[if_neg e2,if_neg (by omega)]
   case measure=>simp[intOf]<;>omega
  ·obtain rfl:k=n:=by omega
   have HB:=xh hB;have HK:=xh hK;clear hB hK;go_wp2_with fail
   go_ret
   refine⟨g,rfl,by rw[HG.o];exact bM _,?_,Below.trans bP.o (HK.o.below _ bP.o.size (λq hq=>by have e:q=g:=hq;rw[HG.o];omega))⟩;have h:=HB.o;rw[rX (g:=λi=>M (A+i)) (λi hi=>if_pos hi)]at h;exact h
theorem Vt{P:Program}{w:World}{tx:TypeId}(hk:P.underlying tx=some (.slice 5)){p:Option Addr}{M:List Int}{cap:Nat}(h:BS w p M):Src P 1 tx (.slice p M.length cap) M.length (M.map (Value.int .u8)) w:=by
 by_cases h0:0<M.length
 ·obtain⟨g,o,rfl,_,hc⟩:=h.2 h0
  refine Src.ofSlice w hk ⟨g,o,none⟩ M.length cap _ (by simp) (λj u hj=>?_) λu hu=>?_
  ·rw[fA]at hj
   obtain⟨y,hy,rfl⟩:=Option.map_eq_some_iff.1 hj;have hlt:=(bV hy).1;rw[Addr.add_lit,hc.1 j hlt,hy];rfl
  ·obtain⟨y,_,rfl⟩:=List.mem_map.1 hu
   rfl
 ·have hM:M=[]:=List.eq_nil_of_length_eq_zero (by omega)
  subst hM;refine⟨.inl ⟨_,hk⟩,λ_=>rfl,?_,?_,by simp,λ_ h=>(by cases h)⟩
  ·cases p with
   | none=>exact run_firstCells_none (P:=P) w 1 0 0 cap
   | some a=>exact run_firstCells_some (P:=P) w 1 0 a 0 cap [] (by simp) λ_ _ h=>(by simp at h)
  ·cases p with
   | none=>exact run_firstCells_none (P:=P) w.drew 1 0 0 cap
   | some a=>exact run_firstCells_some (P:=P) w.drew 1 0 a 0 cap [] (by simp) λ_ _ h=>(by simp at h)
theorem Lp{w:World}{ops:Array Oper}{rest:List Oper}{o:Oper}{a:Act}{Q:Exit→Act→World→Prop}(hgd:o.guard=none)(s x:Operand)(ho:o.op=.call {callee:=.builtin .append,args:= #[s,x],argTypes:= #[59,59]})
 (v:Value)(p:Option Addr)(cap:Nat)(L M:List Int)(hsv:a.eval s=v)(hxv:a.eval x=.slice p M.length cap)(hv:Buf w v L)(hx:BS w p M)(hlen:L.length+M.length≤100000000)
 (h:∀v' w',Buf w' v' (L++M)→qf w w' v (endOf v)→(∀g,aU v'=some g→aU v=some g∨w.heap.size≤g)→(∀p,v=.slice p L.length L.length→Bel w w')→wpList prog ops Q rest (a.put o.dst v') w'):wpList prog ops Q (o::rest) a w:=by
 obtain⟨i,hi,h1,h2,h3⟩:=FX;exact vZ hgd s x _ _ ho i _ underlying59 hi h3 h1 h2 rfl v _ L M hsv hxv hv hx.1 (Vt underlying59 hx) hlen h
theorem FY{w:World}{ops:Array Oper}{o:Oper}{a:Act}{K:Act→World→Prop}{Q:Exit→Act→World→Prop}{E:Prop}(hgd:o.guard=none)(s x:Operand)(ho:o.op=.call {callee:=.builtin .append,args:= #[s,x],argTypes:= #[59,59]})
 (v:Value)(p:Option Addr)(cap:Nat)(L M:List Int)(hsv:a.eval s=v)(hxv:a.eval x=.slice p M.length cap)(hv:Buf w v L)(hx:BS w p M)(hlen:L.length+M.length≤100000000)
 (h:∀v' w',Buf w' v' (L++M)→qf w w' v (endOf v)→(∀g,aU v'=some g→aU v=some g∨w.heap.size≤g)→(∀p,v=.slice p L.length L.length→Bel w w')→K (a.put o.dst v') w'):if Region.wanted o (yielded ops a.tmps)=true then Oper.wp prog o a w K Q else E:=by
 obtain⟨i,hi,h1,h2,h3⟩:=FX;exact zF hgd s x _ _ ho i _ underlying59 hi h3 h1 h2 rfl v _ L M hsv hxv hv hx.1 (Vt underlying59 hx) hlen h
end
end Go.Proofs.YtcnjjchlebmfiaaGreatDoor
