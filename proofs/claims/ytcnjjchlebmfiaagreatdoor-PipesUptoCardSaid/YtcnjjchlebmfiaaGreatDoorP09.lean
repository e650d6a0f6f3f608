/-.-/
import Derived.Test.YtcnjjchlebmfiaaGreatDoorP07
import Derived.RangeFuncCalls
import Derived.RangeFuncBox
set_option linter.unusedVariables false
set_option linter.unusedSimpArgs false
set_option maxRecDepth 100000
set_option maxHeartbeats 16000000
namespace Go.Proofs.YtcnjjchlebmfiaaGreatDoor
section
open Go.Proofs.Tryz Go.RowKit
def BS(w:World)(p:Option Addr)(L:List Int):Prop:=(∀x∈L,0≤x∧x≤255)∧(0<L.length→∃b o,p=some ⟨b,o,none⟩∧b<w.heap.size∧iL w b o L)
theorem BS.keep{w w':World}{S:Nat→Prop}{p:Option Addr}{L:List Int}(h:BS w p L)(k:Keep S w w')(hs:∀b,b<w.heap.size→¬S b):BS w' p L:=
 ⟨h.1,λh0=>by
   obtain⟨b,o,h1,h2,h3⟩:=h.2 h0;exact⟨b,o,h1,Nat.lt_of_lt_of_le h2 k.size,h3.keep k (λ_=>hs b h2)⟩⟩
theorem BS.bel{w w':World}{p:Option Addr}{L:List Int}(h:BS w p L)(k:Bel w w'):BS w' p L:=h.keep (Keep.of_bel (λ_=>False) k) (λ_ _ h=>h)
theorem Gt:(prog.info? 5).map (λi=>(i.zero,i.size,i.bytes))=some (some (.int .u8 0),1,1):=by kernel_rfl
theorem lF(n:Nat)(hn:n≤1000000):∃zs:List Value,zs.length=n∧∀(x:Int) (w:World),x=n→(Instr.makeSlice 59 (.int .i64 x) (.int .i64 x)).run prog w=.ok (.slice (w.heap.size,0) n n) (w.alloc (.cells zs.toArray 5)):=by
 obtain⟨i,hi,h1,h2,h3⟩:=info_parts Gt;refine⟨(madeCells (Value.int .u8 0).cells (n*i.size)).toList,by rw[h2];simp[size_madeCells],λx w hx=>?_⟩;subst hx;have:=run_makeSlice (P:=prog) (w:=w) 59 5 i (.int .u8 0) underlying59 hi h1 .i64 .i64 n n (by omega) (by omega) (by rw[h2];omega) (by rw[h3];omega) (by omega)
 simpa using this
theorem uV(p:Option Addr)(cap:Nat)(L:List Int)(w:World)(hr:BS w p L)(hlen:L.length≤200000) :
 Calls prog 58 #[(p,L.length,cap)] w λe w'=>∃g,e=.returned (.slice (g,0) L.length (L.length+2))∧w.heap.size≤g∧Blk w' g ((L++[71,72]).map (Value.int .u8)) 5∧Bel w w':=by
 obtain⟨zs,hzl,hmk⟩:=lF (L.length+2) (by omega);have CO:=λW=>hmk ((L.length:Int)+2) W (by omega);obtain⟨news,hnews⟩:∃news:List Value,news=L.map (Value.int .u8):=⟨_,rfl⟩;have hnl:news.length=L.length:=by rw[hnews];simp
 have oH:=xh hzl;have Oc:=xh hnl;have GM:Hid (∀v∈news,v.oneCell'=true):=xh (by rw[hnews];intro v hv;obtain⟨x,_,rfl⟩:=List.mem_map.1 hv;rfl);have yR:Hid (∀W,Bel w W→0<news.length→∃ad,p=some ad∧∀j v,news[j]?=some v→W.cell? (ad.add j)=some v):=xh λW hW h0=>by
  obtain⟨b,o,h1,h2,h3⟩:=(hr.bel hW).2 (by omega);refine⟨_,h1,λj v hj=>?_⟩;have hjl:=(bZ hj).1;rw[Addr.add_mid,h3.cell j (by omega),←hj,hnews,dA]
 have Wx:=xh hnews;clear hmk hzl hnl hnews;go_enter func58,ntmps58;go_upto_region 3 with fail
 have k1:Bel w (w.alloc (.cells zs.toArray 5)):=Below.aF w _;have B1:=Blk.new w zs 5;generalize w.alloc (.cells zs.toArray 5)=w1 at *
 have K1:=xh k1;have HB1:=xh B1;have hg:=k1.size;obtain⟨g,hge⟩:∃g,g=w.heap.size:=⟨_,rfl⟩;rw[←hge]at HB1;have HGE:=xh hge;rw[←hge];clear k1 B1 hge CO;go_upto_region 4 with(refine wpList_copy_splice rfl (.tmp 10) (.tmp 11) 59 59 rfl 5 underlying59 (by kernel_rfl) _ _ _ _ _ _ rfl rfl g 0 zs 5 HB1.o news (by rw[Oc.o];exact(Nat.min_eq_left (by omega)).symm) (λh0=>⟨rfl,yR.o _ K1.o h0⟩) (by rw[Oc.o,oH.o];omega) GM.o g w1 (Below.refl _ _) (bH _) ?_;intro w2 B2 K2)
 obtain⟨a,b,c,hz1,hz2⟩:∃a b c,zs=a++[b,c]∧a.length=L.length:=by
  obtain⟨a,z,h1,h2,h3⟩:=yT zs L.length 2 oH.o
  match z,h3 with
  | [b,c],_=>exact⟨a,b,c,h1,h2⟩
 have hsp:splice zs 0 news=news++[b,c]:=by
  unfold splice;rw[hz1,Nat.zero_add,Oc.o,←hz2,List.drop_left];simp
 have B3:Blk w2 g (news++[b,c]) 5:=by have:=B2.out;rw[hsp]at this;exact this
 have c0:=B3.cell L.length;have c1:=B3.cell (L.length+1);rw[List.getElem?_append_right (by rw[Oc.o];omega),Oc.o]at c0 c1;simp only[Nat.sub_self,List.getElem?_cons_zero,Nat.add_sub_cancel_left,List.getElem?_cons_succ]at c0 c1
 have f0:=B3.frozen;have hl2:=B3.lt;have HB3:=xh B3;have gq:Hid (Bel w w2):=xh (by have:=K2;rw[HGE.o]at this;exact Below.trans K1.o this);have hgw:w.heap.size≤g:=by rw[HGE.o];exact bH _
 clear B2 K2 hz1 hz2 hsp B3 HB1;go_wp2
 go_ret
 refine⟨g,rfl,hgw,?_,(gq.o.store (p:=⟨g,L.length,none⟩) hgw _).store (p:=⟨g,L.length+1,none⟩) hgw _⟩;have:=(HB3.o.setCell (o:=L.length) (.int .u8 71)).setCell (o:=L.length+1) (.int .u8 72);have e:((news++[b,c]).set L.length (.int .u8 71)).set (L.length+1) (.int .u8 72)=(L++[71,72]).map (Value.int .u8):=by
  rw[←Oc.o,List.set_append_right _ _ (bH _),List.set_append_right _ _ (by omega),Wx.o];simp
 rw[e]at this;exact this
theorem fB(p q:Option Addr)(c d:Nat)(L:List Int)(w:World)(hp:BS w p L)(hq:BS w q L)(hlen:L.length≤1000000) :
 Calls prog 68 #[(p,L.length,c),(q,L.length,d)] w λe w'=>e=.returned (.bool true)∧∃n,w'=w.drewN n:=by
 have HP:=xh hp;have HQ:=xh hq;clear hp hq;go_enter func68,ntmps68;go_wp2
 go_loopw [5] (λi wr=>∃k nn:Nat,k≤L.length∧i=.int .i64 k∧wr=w.drewN nn) (λi _=>L.length-(intOf i).toNat)
 case atStart=>exact⟨0,0,Nat.zero_le _,rfl,rfl⟩
 case round=>
  obtain⟨k,nn,hk,rfl,rfl⟩:=hrel;by_cases hlt:k<L.length
  ·obtain⟨b1,o1,rfl,_,h1⟩:=HP.o.2 (by omega)
   obtain⟨b2,o2,rfl,_,h2⟩:=HQ.o.2 (by omega);have a1:w.cell? ⟨b1,o1+k,none⟩=some (.int .u8 (L.getD k 0)):=h1.at_ k hlt;have a2:w.cell? ⟨b2,o2+k,none⟩=some (.int .u8 (L.getD k 0)):=h2.at_ k hlt;clear h1 h2;generalize L.getD k 0=x at *
   have hlt1:(k:Int)<(L.length:Int):=by omega
   have hk0:(0:Int)≤(k:Int):=by omega
   go_wp2
   go_quiet (fail)
   go_wp2
   go_roundw
   case rel=>exact⟨k+1,nn+nq,by omega,by go_num,by simp[World.drewN_drewN]⟩
   case measure=>simp[intOf]<;>omega
  ·obtain rfl:k=L.length:=by omega
   go_wp2
   go_ret
   exact⟨rfl,nn,rfl⟩
theorem qB(g:Nat)(p:Option Addr)(cap:Nat)(L:List Int)(w:World)(hB:Blk w g ((L++[71,72]).map (Value.int .u8)) 5)(hr:BS w p L)(hlen:L.length≤200000) :
 Calls prog 59 #[.slice (g,0) L.length (L.length+2),(p,L.length,cap)] w λe w'=>e=.returned (.bool true)∧Keep (λk=>k=g) w w':=by
 have hg:=hB.lt;have hbs:BS w (some ⟨g,0,none⟩) L:=⟨hr.1,λh0=>⟨g,0,rfl,hg,⟨λi hi=>by
  rw[Nat.zero_add,hB.cell,dA,List.getElem?_append_left hi],hr.1⟩⟩⟩
 have hsm:=fB (some ⟨g,0,none⟩) p (L.length+2) cap L w hbs hr (by omega);have qV:=xh hsm;have c0:w.cell? ⟨g,L.length,none⟩=some (.int .u8 71):=by rw[hB.cell];simp
 have c1:w.cell? (g,L.length+1)=some (.int .u8 72):=by rw[hB.cell];simp
 have HB:=xh hB;clear hbs hsm hB hr;go_enter func59,ntmps59;go_wp2_with (go_at_call 68;refine au qV.o ?_;rintro e w1 ⟨rfl,n,rfl⟩)
 go_loopw [8] (λi wr=>∃(k:Nat) (l:List Int),k≤L.length+2∧i=.int .i64 k∧l.length=L.length+2∧Blk wr g (l.map (Value.int .u8)) 5∧Keep (λk=>k=g) w wr) (λi _=>L.length+2-(intOf i).toNat)
 case atStart=>exact⟨0,L++[71,72],Nat.zero_le _,rfl,by simp,HB.o,⟨rfl,rfl,rfl,bH _,λ_ _ _=>rfl⟩⟩
 case round=>
  obtain⟨k,l,hk,rfl,hl,hb,hkr⟩:=hrel;by_cases hlt:k<L.length+2
  ·have cc:wr.cell? ⟨g,k,none⟩=some (.int .u8 (l.getD k 0)):=by
    rw[hb.cell,dA,List.getD_eq_getElem?_getD,bP (by omega)];rfl
   have cf:=hb.frozen k;have hgl:=hb.lt;have HL:=xh hl;have HBB:=xh hb;have qU:=xh hkr;clear hl hb hkr;generalize l.getD k 0=x at *
   go_wp2
   go_roundw
   case rel=>exact⟨k+1,l.set k (bits .xor .u8 x 85),by omega,by go_num,by rw[List.length_set];exact HL.o,by have:=HBB.o.setCell (o:=k) (.int .u8 (bits .xor .u8 x 85));rw[List.map_set];exact this,qU.o.tr (Keep.setCell _ _ _ _)⟩
   case measure=>simp[intOf]<;>omega
  ·obtain rfl:k=L.length+2:=by omega
   have qU:=xh hkr;clear hkr hb hl;go_wp2
   go_ret
   exact⟨rfl,qU.o⟩
end
section
open Go.Proofs.Tryz Go.RowKit Go.MapKept Go.Maps
def Pn.iq(x:Pn)(bv:Value)(L:List Int):Pn:={x with bv:=bv,byt:=L}
theorem Bc(A:bB)(d:Nat):∀(i k:Nat) (T:List Pn) (x:Pn) (bv:Value) (L:List Int),T[k]?=some x→eY A d i (T.set k (x.iq bv L))=eY A d i T
 | _,_,[],_,_,_,h=>by simp at h
 | i,0,n::T,x,bv,L,h=>by
   simp at h
   subst h;rfl
 | i,k+1,n::T,x,bv,L,h=>by
   have ih:=Bc A d (i+1) k T x bv L (by simpa using h);simp only[List.set_cons_succ,eY,ih]
theorem bT.iq{w w':World}{A:bB}{T:List Pn}{S:Nat→Prop}(h:bT w A T)(i:Nat)(x:Pn)(hx:T[i]?=some x)(bv:Value)(L:List Int)
 (iR:Blk w' (A.nb (i+1)) ((x.iq bv L).cells A (i+1)) 234)(hrw:Rw w' bv L)(hnew:∀g,bv.ownBlock=some g→w.heap.size≤g∨x.bv.ownBlock=some g)
 (hk:Keep S w w')(hS:∀q,qY A T q→S q→q=A.nb (i+1)∨x.bv.ownBlock=some q):bT w' A (T.set i (x.iq bv L)):=by
 have hil:i<T.length:=(bZ hx).1;have hlt:∀(j:Nat) (m:Pn),(T.set i (x.iq bv L))[j]?=some m→j=i∧m=x.iq bv L∨j≠i∧T[j]?=some m:=by
  intro j m hj;by_cases e:j=i
  ·subst e
   rw[List.getElem?_set_self hil]at hj;exact .inl ⟨rfl,(Option.some.inj hj).symm⟩
  ·rw[List.getElem?_set_ne (λh=>e h.symm)]at hj
   exact .inr ⟨e,hj⟩
 have hmap:∀(j:Nat) (m:Pn),(T.set i (x.iq bv L))[j]?=some m→∃m0,T[j]?=some m0∧m.par=m0.par∧m.dir=m0.dir∧m.gone=m0.gone∧m.name=m0.name:=by
  intro j m hj;rcases hlt j m hj with⟨rfl,rfl⟩|⟨_,h2⟩
  ·exact⟨x,hx,rfl,rfl,rfl,rfl⟩
  ·exact⟨m,h2,rfl,rfl,rfl,rfl⟩
 have hback:∀(j:Nat) (m:Pn),T[j]?=some m→∃m1,(T.set i (x.iq bv L))[j]?=some m1∧m1.dir=m.dir∧m1.par=m.par∧m1.gone=m.gone:=by
  intro j m hj;by_cases e:j=i
  ·subst e
   rw[hx]at hj;cases hj
   exact⟨x.iq bv L,List.getElem?_set_self hil,rfl,rfl,rfl⟩
  ·exact⟨m,by rw[List.getElem?_set_ne (λh=>e h.symm)];exact hj,rfl,rfl,rfl⟩
 have hfl:∀q,qY A T q→q<w.heap.size:=λq hq=>h.fE hq;have hbn:∀(j:Nat) (m:Pn),T[j]?=some m→∀g,m.bv.ownBlock=some g→g≠A.nb (i+1):=λj m hj g hg=>by
  obtain⟨_,cur,hb⟩:=(h.aN j m hj).lt hg;exact hb.ne (h.node i x hx) (by decide)
 have hmn:∀(j:Nat) (m:Pn),T[j]?=some m→m.dir=true→A.mb (j+1)≠A.nb (i+1)∧∀g,x.bv.ownBlock=some g→A.mb (j+1)≠g:=λj m hj hd=>
  ⟨λe=>(h.node i x hx).dJ (h.kids j m hj hd) e.symm,λg hg e=>by
    obtain⟨_,cur,hb⟩:=(h.aN i x hx).lt hg;exact hb.dJ (h.kids j m hj hd) e.symm⟩
 refine⟨?_,?_,?_,?_,?_,?_,?_,?_,?_,?_,?_,by simpa using h.few⟩
 ·intro j m hj
  rcases hlt j m hj with⟨rfl,rfl⟩|⟨hne,h2⟩
  ·exact iR
  ·refine(h.node j m h2).keep hk λhs=>?_
   rcases hS _ ⟨j,m,h2,.inl rfl⟩ hs with e|e
   ·exact hne (h.inj j i (bZ h2).1 hil e)
   ·obtain⟨_,cur,hb⟩:=(h.aN i x hx).lt e
    exact hb.ne (h.node j m h2) (by decide) rfl
 ·intro j m hj hd
  obtain⟨m0,h1,_,h2,_⟩:=hmap j m hj;have hd0:m0.dir=true:=by rw[←h2];exact hd
  show Mp uM w' _ (eY A (j+1) 0 _)
  rw[Bc A (j+1) 0 i T x bv L hx];refine(h.kids j m0 h1 hd0).of_block (hk.block _ (h.kids j m0 h1 hd0).lt λhs=>?_);rcases hS _ ⟨j,m0,h1,.inr (.inl ⟨hd0,rfl⟩)⟩ hs with e|e
  ·exact(hmn j m0 h1 hd0).1 e
  ·exact(hmn j m0 h1 hd0).2 _ e rfl
 ·intro j m hj
  rcases hlt j m hj with⟨rfl,rfl⟩|⟨hne,h2⟩
  ·exact hrw
  ·refine(h.aN j m h2).keep hk λg hg hs=>?_
   rcases hS _ ⟨j,m,h2,.inr (.inr hg)⟩ hs with e|e
   ·exact hbn j m h2 g hg e
   ·exact hne (h.sep j i m x g h2 hx hg e)
 ·intro a b ha hb
  simp at ha hb
  exact h.inj a b ha hb
 ·intro a b m n ha hb hda hdb he
  obtain⟨m0,h1,_,h2,_⟩:=hmap a m ha;obtain⟨n0,h3,_,h4,_⟩:=hmap b n hb;exact h.O0 a b m0 n0 h1 h3 (h2▸hda) (h4▸hdb) he
 ·intro a b m n g ha hb hm hn
  rcases hlt a m ha with⟨rfl,rfl⟩|⟨hne,h2⟩<;>rcases hlt b n hb with⟨rfl,rfl⟩|⟨hne',h2'⟩
  ·rfl
  ·rcases hnew g hm with h5|h5
   ·have:=((h.aN b n h2').lt hn).1
    omega
   ·exact h.sep a b x n g hx h2' h5 hn
  ·rcases hnew g hn with h5|h5
   ·have:=((h.aN a m h2).lt hm).1
    omega
   ·exact h.sep a b m x g h2 hx hm h5
  ·exact h.sep a b m n g h2 h2' hm hn
 ·intro a m ha
  obtain⟨m0,h1,h2,_⟩:=hmap a m ha;rw[h2];exact h.par a m0 h1
 ·intro a m ha h0
  obtain⟨m0,h1,h2,_⟩:=hmap a m ha;rw[h2]at h0⊢;obtain⟨p,hp1,hp2⟩:=h.GQ a m0 h1 h0;obtain⟨p1,hp3,hp4,_⟩:=hback _ p hp1;exact⟨p1,hp3,hp4▸hp2⟩
 ·obtain⟨r,h1,h2,h3,h4⟩:=h.root
  obtain⟨r1,h5,h6,h7,h8⟩:=hback 0 r h1;exact⟨r1,h5,h7▸h2,h6▸h3,h8▸h4⟩
 ·intro a m ha h0 h1
  obtain⟨m0,h2,h3,_,h5,_⟩:=hmap a m ha;rw[h5];exact h.top a m0 h2 (h3▸h0) h1
 ·intro a m ha h0 h1
  obtain⟨m0,h2,_,_,h5,h6⟩:=hmap a m ha;rw[h6];exact h.name a m0 h2 (h5▸h0) h1
theorem CP(T:List Pn)(i:Nat)(x:Pn)(bv:Value)(L:List Int):aH (T.set i (x.iq bv L))=(aH T).set i {x.nd with byt:=L}:=by
 unfold aH;rw[List.map_set];rfl
theorem kX(N:List Nd)(i:Nat)(x y:Nd)(hx:N[i]?=some x):bN (N.set i y)+x.byt.length=bN N+y.byt.length:=by
 unfold bN
 induction N generalizing i with
 | nil=>simp at hx
 | cons n N ih=>
   cases i with
   | zero=>simp at hx;subst hx;simp;omega
   | succ i=>simp at hx ih⊢;have:=ih i hx;omega
theorem XW:(prog.info? 5).map (λi=>(i.zero,i.size,i.bytes))=some (some (.int .u8 0),1,1):=by kernel_rfl
def KU(w:World)(tb:Nat)(A:bB)(T:List Pn)(mi mb i:Nat)(x:Pn)(L:List Int)(w':World):Prop:=∃bv,jr w tb A T mi mb ((aH T).set i {x.nd with byt:=L}) A (T.set i (x.iq bv L)) w'
theorem EZ{tb:Nat}{A:bB}{T:List Pn}{i:Nat}{x:Pn}{bv:Value}{L:List Int}(hx:T[i]?=some x){B:Nat}(hnew:∀g,bv.ownBlock=some g→B≤g∨x.bv.ownBlock=some g):∀q,jC tb A (T.set i (x.iq bv L)) q→jC tb A T q∨B≤q:=by
 have hil:i<T.length:=(bZ hx).1;rintro q (rfl|⟨j,m,hj,hq⟩)
 ·exact .inl (.inl rfl)
 ·by_cases e:j=i
  ·subst e
   rw[List.getElem?_set_self hil]at hj;cases hj
   rcases hq with h1|⟨h1,h2⟩|h1
   ·exact .inl (.inr ⟨j,x,hx,.inl h1⟩)
   ·exact .inl (.inr ⟨j,x,hx,.inr (.inl ⟨h1,h2⟩)⟩)
   ·rcases hnew q h1 with h2|h2
    ·exact .inr h2
    ·exact .inl (.inr ⟨j,x,hx,.inr (.inr h2)⟩)
  ·rw[List.getElem?_set_ne (λh=>e h.symm)]at hj
   exact .inl (.inr ⟨j,m,hj,hq⟩)
theorem Ny{w w1 w2:World}{tb:Nat}{A:bB}{T:List Pn}{mi mb i:Nat}{x:Pn}{more g cp k:Nat}(h:PT w tb A T mi mb)(hx:T[i]?=some x)(hm:bN (aH T)+more≤mb)
 (hT1:Blk w1 tb ((TN.cells A ⟨T.length,bN (aH T),mi,mb⟩).set 2 (.int .i64 ((bN (aH T):Nat)+(more:Int)))) 220)(k1:Keep (λq=>q=tb) w w1)(hg:w1.heap.size=g)(k2:Bel w1 w2)
 (B2:Blk w2 g (x.byt.map (Value.int .u8)++List.replicate (more+k) (.int .u8 0)) 5)(h0:0<more)(hcp2:cp≤maxLen)(hcp:cp=x.byt.length+more+k) :
 KU w tb A T mi mb i x (x.byt++List.replicate more 0) (w2.setCell (A.nb (i+1),3) (.slice (g,0) (x.byt.length+more) cp)):=by
 have hgw:w.heap.size≤g:=by rw[←hg];exact k1.size
 have iR:=h.tree.node i x hx;have hne:A.nb (i+1)≠tb:=iR.ne h.block (by decide);have XO:=(iR.keep k1 hne).bel k2;have iD:∀q,qY A T q→q≠tb:=λq hq e=>by
  subst e;obtain⟨j,m,hj,h1|⟨hd,h1⟩|h1⟩:=hq
  ·exact(h.block.ne (h.tree.node j m hj) (by decide)) h1
  ·exact(h.block.dJ (h.tree.kids j m hj hd)) h1
  ·obtain⟨_,cur,hb⟩:=(h.tree.aN j m hj).lt h1
   exact(h.block.ne hb (by decide)) rfl
 have hK:Keep (λq=>q=tb∨q=A.nb (i+1)) w (w2.setCell (A.nb (i+1),3) (.slice (g,0) (x.byt.length+more) cp)):=
  ((k1.mono λ_ h=>.inl h).tr (Keep.of_bel _ k2)).tr ((Keep.setCell w2 (A.nb (i+1)) 3 _).mono λ_ h=>.inr h)
 have QK:=CP T i x (.slice (g,0) (x.byt.length+more) cp) (x.byt++List.replicate more 0);have OW:(aH T)[i]?=some x.nd:=by unfold aH;rw[dA,hx];rfl
 have hsum:bN (aH (T.set i (x.iq (.slice (g,0) (x.byt.length+more) cp) (x.byt++List.replicate more 0))))=bN (aH T)+more:=by
  rw[QK];have:=kX (aH T) i x.nd {x.nd with byt:=x.byt++List.replicate more 0} OW;simp[Pn.nd]at this⊢
  omega
 have hgn:g≠A.nb (i+1):=λe=>by have:=iR.lt;omega
 have hrw:Rw (w2.setCell (A.nb (i+1),3) (.slice (g,0) (x.byt.length+more) cp)) (.slice (g,0) (x.byt.length+more) cp) (x.byt++List.replicate more 0):=by
  refine⟨λy hy=>?_,.inr ⟨g,cp,_,by simp,B2.aA (a:=⟨A.nb (i+1),3,none⟩) hgn _,by simp;omega,by simp;omega,hcp2,?_⟩⟩
  ·rcases List.mem_append.1 hy with hy|hy
   ·exact(h.tree.aN i x hx).1 y hy
   ·have:=List.eq_of_mem_replicate hy;omega
  ·rw[List.length_append,List.length_replicate,List.map_append,List.map_replicate,List.take_append,List.take_of_length_le (by simp),List.take_replicate]
   simp
 refine⟨_,⟨h.tree.iq i x hx _ _ ?_ hrw ?_ hK ?_,?_,by simpa using h.few,by rw[hsum];exact hm,h.mi,h.mb⟩,QK,hK.mono ?_,EZ hx ?_⟩
 ·exact XO.setCell (o:=3) _
 ·intro g' hg';cases hg';exact .inl hgw
 ·rintro q hq (rfl|rfl)
  ·exact absurd rfl (iD _ hq)
  ·exact .inl rfl
 ·rw[hsum]
  have:=(hT1.bel k2).aA (a:=⟨A.nb (i+1),3,none⟩) (λe=>hne e.symm) (.slice (g,0) (x.byt.length+more) cp);rw[List.length_set];exact this
 ·rintro q (rfl|rfl)
  ·exact .inl rfl
  ·exact .inr ⟨i,x,hx,.inl rfl⟩
 ·intro g' hg';cases hg';exact .inl hgw
theorem QL(tb:Nat)(A:bB)(T:List Pn)(mi mb:Nat)(i:Nat)(x:Pn)(more:Nat)(w:World)(h:PT w tb A T mi mb)(hx:T[i]?=some x)(h0:0<more)(hm:bN (aH T)+more≤mb) :
 Calls prog 98 #[tb,.pointer (A.nb (i+1),0),.int .i64 more] w λe w'=>e=.returned (.tuple #[])∧KU w tb A T mi mb i x (x.byt++List.replicate more 0) w':=by
 have hb:=h.mb;have hsm:=h.small;have c2:=h.block.c 2 rfl;have f2:=h.block.frozen;have hlt:=h.block.lt;have iR:=h.tree.node i x hx;have XX:=h.tree.aN i x hx;obtain⟨p,cap,hbv,hlc,hcm,hpn⟩:=XX.slice;have c3:w.cell? (A.nb (i+1),3)=some (.slice p x.byt.length cap):=by rw[←hbv];exact iR.cell 3
 have f3:=iR.frozen;have hnl:=iR.lt;have hne:A.nb (i+1)≠tb:=iR.ne h.block (by decide);have hls:x.byt.length≤bN (aH T):=by
  have:=kX (aH T) i x.nd {x.nd with byt:=[]} (by unfold aH;rw[dA,hx];rfl);simp[Pn.nd]at this
  omega
 have mY:=xh h;have HX:=xh hx;have HND:=xh iR;have ML:=xh XX;have jE:=xh hbv;have Wp:=xh hpn;have jD:=xh hne;have HH:=xh hm;generalize htot:bN (aH T)=total at *
 have Nk:=xh htot;clear htot;generalize O5:A.nb (i+1)=nb at *
 have Ti:=xh O5;clear h hx iR XX hbv hpn O5;go_enter func98,ntmps98;go_upto_region 1 with fail
 have BT:=mY.o.block.setCell (o:=2) (.int .i64 ((total:Int)+(more:Int)));have k1:Keep (λq=>q=tb) w (w.setCell (tb,2) (.int .i64 ((total:Int)+(more:Int)))):=Keep.setCell w tb 2 _;generalize w.setCell (tb,2) (.int .i64 ((total:Int)+(more:Int)))=w1 at *
 have QU:=xh (HND.o.keep k1 jD.o);have acT:Hid (Rw w1 x.bv x.byt):=xh (ML.o.keep k1 λg hg e=>by
  obtain⟨_,cur,hb⟩:=ML.o.lt hg;exact hb.ne mY.o.block (by decide) e)
 have acU:=xh BT;have bG:=xh k1;have c3:w1.cell? (nb,3)=some (.slice p x.byt.length cap):=by rw[←jE.o];exact QU.o.cell 3
 have f3:∀o,w1.frozen? ⟨nb,o,none⟩=false:=QU.o.frozen;have hnl:nb<w1.heap.size:=QU.o.lt;clear BT k1 f2 c2;obtain⟨inf,hi1,hi2,hi3,hi4⟩:=info_parts XW;have HI1:=xh hi1;have HI2:=xh hi2;have HI3:=xh hi3;have HI4:=xh hi4;clear hi1 hi2 hi3 hi4;have HB1:Hid (∀b,p=some b→∀j v,(x.byt.map (Value.int .u8))[j]?=some v→w1.cell? (b.add j)=some v):=xh (λb hb j v hj=>by
  obtain⟨g,rfl,hg⟩:=acT.o.cells (by rw[jE.o,hb]);rw[show(⟨g,0,none⟩:Addr).add j=⟨g,j,none⟩from by unfold Addr.add;split<;>simp_all];exact hg j v hj)
 have HPZ:Hid (p=none→x.byt.length=0):=xh λe=>by simp[(Wp.o e).1]
 have MC:Hid ((x.byt.map (Value.int .u8)).length=x.byt.length):=xh (by simp)
 go_region_law (refine uh rfl (.tmp 29) (.tmp 30) 59 3 5 rfl inf (.int .u8 0) underlying59 underlying3 HI1.o HI2.o rfl HI3.o HI4.o p x.byt.length x.byt.length (x.byt.map (Value.int .u8)) rfl HPZ.o MC.o HB1.o more rfl h0 (by omega) (by omega) ?_;intro w2 cp k B2 K2 hcp1 hcp2 aaX;have c3:w2.cell? (nb,3)=some (.slice p x.byt.length cap):=aa K2 c3;have f3:∀o,w2.frozen? ⟨nb,o,none⟩=false:=λo=>(QU.o.bel ((Bel.drew (Bel.refl w1)).tr K2)).frozen o;have acV:nb<w2.heap.size:=(QU.o.bel ((Bel.drew (Bel.refl w1)).tr K2)).lt;have HB2:=xh B2.out;have gq:Hid (Bel w1 w2):=xh ((Bel.drew (Bel.refl w1)).tr K2);have Xc:=xh aaX;clear B2 K2 aaX)
 all_goals go_wp2
 all_goals go_end0
 all_goals (refine⟨rfl,?_⟩;rw[←Ti.o];refine Ny (w1:=w1) mY.o HX.o (by rw[Nk.o];exact HH.o) ?_ bG.o rfl gq.o HB2.o h0 hcp2 Xc.o;rw[Nk.o];exact acU.o)
end
section
open Go.Proofs.Tryz Go.RowKit Go.Shelf
attribute [local go_sem] Oper.semAt_some
def vw(s:ByteArray):List Int:=s.data.toList.map λc=>(c.toNat:Int)
theorem bR(s:ByteArray):(vw s).length=s.size:=by simp[vw]
theorem yX(s:ByteArray):∀x∈vw s,0≤x∧x≤255:=by
 intro x hx;obtain⟨c,_,rfl⟩:=List.mem_map.1 hx;have:=c.toNat_lt;omega
def SS(n₀:Nat)(w:World)(p:Option Addr)(ss:List ByteArray):Prop:=
 0<ss.length→∃b o,p=some ⟨b,o,none⟩∧b<n₀∧∀j,(h:j<ss.length)→w.cell? ⟨b,o+j,none⟩=some (.string ss[j])
theorem SS.below{n₀:Nat}{w w':World}{p:Option Addr}{ss:List ByteArray}(h:SS n₀ w p ss)(hb:Below n₀ w w'):SS n₀ w' p ss:=λh0=>by
 obtain⟨b,o,h1,h2,h3⟩:=h h0;exact⟨b,o,h1,h2,λj hj=>(hb.cell (p:=⟨b,o+j,none⟩) h2).trans (h3 j hj)⟩
def GL(g B:Nat)(W W':World):Prop:=∀b,b<g∨b=B→W'.heap[b]?=W.heap[b]?
theorem GL.refl(g B:Nat)(W:World):GL g B W W:=λ_ _=>rfl
theorem GL.trans{g B:Nat}{X Y Z:World}(h:GL g B X Y)(k:GL g B Y Z):GL g B X Z:=λb hb=>(k b hb).trans (h b hb)
theorem GL.putObj{g B:Nat}{w:World}(hg:g≤w.heap.size)(hB:B<w.heap.size)(W:World)(l:Nat)(o o':Obj)(hl:w.heap.size≤l)(_:W.heap[l]?=some o)(_:o.isCells=false)(_:o.isWalk=false):GL g B W (W.putObj l o'):=
 λb hb=>World.putObj_heap_other (λe=>by omega)
theorem SS.kept{g B:Nat}{w w':World}{p:Option Addr}{ss:List ByteArray}(h:SS g w p ss)(hb:GL g B w w'):SS g w' p ss:=λh0=>by
 obtain⟨b,o,h1,h2,h3⟩:=h h0;exact⟨b,o,h1,h2,λj hj=>(World.cell?_of_block (a:=⟨b,o+j,none⟩) (hb b (.inl h2))).trans (h3 j hj)⟩
def dG(n k:Nat):List Nat:=((List.range n).drop k).reverse
theorem lH(n:Nat):dG n n=[]:=by simp[dG]
theorem rU(n k:Nat)(h:k<n):dG n k=dG n (k+1)++[k]:=by
 unfold dG;rw[List.drop_eq_getElem_cons (by simpa using h)];simp
theorem jd(n k:Nat):(dG n k).length=n-k:=by simp[dG]
abbrev Ix(n:Nat):={i:Nat // i<n}
def mD(n:Nat):Nat→List (Ix n)
 | 0=>[]
 | k+1=>mD n k++(if h:n-1-k<n then[⟨n-1-k,h⟩]else[])
theorem uj(n:Nat):∀k,k≤n→(mD n k).length=k
 | 0,_=>rfl
 | k+1,h=>by
   unfold mD;rw[dif_pos (by omega),List.length_append,uj n k (by omega)];rfl
theorem vB(n:Nat):∀k,k≤n→(mD n k).map (λi:Ix n=>i.1)=dG n (n-k)
 | 0,_=>by simp[mD,lH]
 | k+1,h=>by
   unfold mD;rw[dif_pos (by omega),List.map_append,vB n k (by omega),rU n (n-(k+1)) (by omega),show n-(k+1)+1=n-k from by omega];simp
   omega
abbrev encS(ss:List ByteArray)(i:Ix ss.length):Array Value:= #[.int .i64 (i.1:Nat),.string (ss[i.1]'i.2)]
theorem QV(F:Fence)(n:Nat)(hF:F.fn 256)(hro:F.round=none)(hn:1≤n)(l Bs n₀:Nat)(p:Option Addr)(cap:Nat)(ss:List ByteArray)(GR:ss.length≤1000000)(J Jx:List (Ix ss.length)→World→Prop)
 (hY:∀pre x W,J pre W→pre.length<ss.length→YieldAt F (n-1) prog l (encS ss x) W λe W'=>
   (e=.returned (.bool true)∧J (pre++[x]) W'∧GL n₀ Bs W W')∨(e=.returned (.bool false)∧Jx (pre++[x]) W'))
 (W:World)(hBs:W.cell? (Bs,0)=some (.slice p ss.length cap))(hS:SS n₀ W p ss)(h0:J [] W) :
 CallsIn F n prog 256 #[.func (.yield l) #[] #[],Bs] W λe W'=>(∃v,e=.returned v)∧
  ((∃ys,ys=mD ss.length ss.length∧J ys W')∨(∃pre,True∧Jx pre W')):=by
 refine callsIn_of_wp func256 rfl hF ?_ hro;simp only[ntmps256,List.size_toArray,List.length_cons,List.length_nil,Nat.reduceAdd,Nat.reduceSub,Array.replicate_succ,Array.replicate_zero,List.push_toArray,List.append_toArray,List.nil_append,List.cons_append]
 have HS:=xh hS;clear hS
 gi_wp2
 gi_loopw [3] (λi wr=>∃k:Nat,k≤ss.length∧i=.int .i64 ((ss.length:Int)-1-k)∧J (mD ss.length k) wr∧GL n₀ Bs W wr)
  (λi _=>(intOf i+1).toNat)
 case atStart=>exact⟨0,Nat.zero_le _,by simp,h0,GL.refl _ _ _⟩
 case round=>
  obtain⟨k,hk,rfl,hJs,hnx⟩:=hrel;by_cases hlt:k<ss.length
  ·obtain⟨b,o,rfl,hb,hc⟩:=HS.o (by omega)
   have ae0:=(World.cell?_of_block (a:=⟨Bs,0,none⟩) (hnx Bs (.inr rfl))).trans hBs;obtain⟨i,hi⟩:∃i:Nat,i=ss.length-1-k:=⟨_,rfl⟩;have hil:i<ss.length:=by omega
   have hcx:=(World.cell?_of_block (a:=⟨b,o+i,none⟩) (hnx b (.inl hb))).trans (hc i hil);obtain⟨fn,tmps,assign,body,hy,hR⟩:=hY _ ⟨i,hil⟩ wr hJs (by rw[uj _ _ hk];exact hlt);rw[show(ss.length:Int)-1-k=(i:Int)from by omega];have HI:=xh hi;have HRV:Hid (mD ss.length (k+1)=mD ss.length k++[⟨i,hil⟩]):=xh (by
    rw[mD,dif_pos (by omega)];congr 3
    omega)
   clear hi hc
   gi_wp2
   refine hR.mono ?_;rintro e W3 (⟨rfl,hJ3,hk3⟩|⟨rfl,hJx3⟩)
   ·gi_wp2
    go_roundw
    case rel=>exact⟨k+1,by omega,by have:=HI.o;congr 1;omega,by rw[HRV.o];exact hJ3,hnx.trans hk3⟩
    case measure=>simp[intOf]<;>omega
   ·gi_wp2
    refine bodyPost_ret (results_none rfl _ _ _) rfl ?_;exact⟨⟨_,rfl⟩,.inr ⟨_,trivial,hJx3⟩⟩
  ·obtain rfl:k=ss.length:=by omega
   rw[show(ss.length:Int)-1-ss.length = -1 from by omega]
   gi_wp2
   go_end0
   exact⟨⟨_,rfl⟩,.inl ⟨_,rfl,hJs⟩⟩
theorem I6(F:Fence)(n:Nat)(hF:F.fn 256)(hro:F.round=none)(hn:1≤n)(Bs n₀:Nat)(p:Option Addr)(cap:Nat)(ss:List ByteArray)(GR:ss.length≤1000000)(w:World)(hBs:Bs<w.heap.size)(hn₀:n₀≤w.heap.size)
 (hc:w.cell? (Bs,0)=some (.slice p ss.length cap))(hS:SS n₀ w p ss) :
 SeqStopsK F n prog 256 #[Bs] (encS ss) (GL n₀ Bs) (λys=>ys=mD ss.length ss.length) (λ_=>True) ss.length w:=λl J Jx W hW _ _ hY h0=>
 QV F n hF hro hn l Bs n₀ p cap ss GR J Jx hY W ((hW.cell (p:=⟨Bs,0,none⟩) hBs).trans hc) (hS.below (hW.mono hn₀)) h0
theorem QW(p:Option Addr)(len cap:Nat)(w:World) :
 Calls prog 180 #[(p,len,cap)] w λe w'=>e=.returned (.func (.func 256) #[] #[w.heap.size])∧w'=w.alloc (.cells #[(p,len,cap)] 66):=by
 go_enter func180,ntmps180;go_wp2
 go_ret
 exact⟨rfl,rfl⟩
theorem Nz(p:Option Addr)(cap:Nat)(l:List Int)(w:World)(hl:l.length≤1000000)(hr:BS w p l) :
 Calls prog 257 #[(p,l.length,cap),.int .u8 0] w λe w'=>(∃r:Int,e=.returned (.int .i64 r)∧ -1≤r∧r≤1000000∧(0≤r↔(0:Int)∈l))∧w=w':=by
 have HR:=xh hr;clear hr;go_enter func257,ntmps257;go_wp2
 go_loop [8] (λi=>∃k:Nat,k≤l.length∧i=.int .i64 k∧∀j,j<k→l.getD j 0≠0) (λi=>l.length-(intOf i).toNat)
 case atStart=>exact⟨0,Nat.zero_le _,rfl,λj hj=>by omega⟩
 case round=>
  obtain⟨k,hk,rfl,hno⟩:=hrel;have HN:=xh hno;clear hno;by_cases hlt:k<l.length
  ·obtain⟨b,o,rfl,_,h1⟩:=HR.o.2 (by omega)
   have a1:=h1.at_ k hlt;have HM:Hid (l.getD k 0∈l):=xh (by rw[List.getD_eq_getElem?_getD,bP hlt];exact List.getElem_mem hlt);clear h1;by_cases hz:l.getD k 0=0
   ·rw[hz]at HM a1
    clear hz;go_wp2
    go_ret
    exact⟨⟨k,rfl,by omega,by omega,⟨λ_=>HM.o,λ_=>by omega⟩⟩,rfl⟩
   ·have HZ:=xh hz
    have hz2:((0:Int)==l.getD k 0)=false:=by simp;exact λh=>hz h.symm
    clear hz;generalize hx:l.getD k 0=x at *
    have HX:=xh hx;clear hx;go_wp2
    go_round
    case rel=>exact⟨k+1,by omega,by go_num,λj hj=>by
     by_cases e:j=k
     ·subst e;rw[HX.o];exact HZ.o
     ·exact HN.o j (by omega)⟩
    case measure=>simp[intOf]<;>omega
  ·obtain rfl:k=l.length:=by omega
   go_wp2
   go_ret
   exact⟨⟨-1,rfl,by omega,by omega,⟨λh=>by omega,λh=>by
    obtain⟨j,hj,he⟩:=List.getElem_of_mem h;have:=HN.o j hj;rw[List.getD_eq_getElem?_getD,bP hj]at this;exact absurd he this⟩⟩,rfl⟩
theorem CU(p:Option Addr)(cap:Nat)(l:List Int)(w:World)(hl:l.length≤1000000)(hr:BS w p l) :
 Calls prog 181 #[(p,l.length,cap),.int .u8 0] w (Z.e (.bool (decide ((0:Int)∈l))) w):=by
 have HI:=xh (Nz p cap l w hl hr);clear hr;go_enter func181,ntmps181;go_wp2_with (go_at_call 257;with_reducible refine au HI.o ?_;rintro e w1 ⟨⟨r,rfl,h1,h2,h3⟩,rfl⟩;have H3:=xh h3;clear h3)
 all_goals
  go_ret
  exact⟨by rw[show decide ((0:Int)∈l)=decide (0≤r)from by rw[decide_eq_decide];exact H3.o.symm];try rfl,rfl⟩
end
section
open Go.RowKit
structure LG where
 e:Int
 M:Nat→Int
 A:Nat→Int
def arg(ss:List ByteArray)(i:Nat):List Int:=vw (ss.getD i ⟨#[]⟩)
def mX(ss:List ByteArray)(st:LG)(i:Nat):LG:=
 ⟨st.e-((arg ss i).length+1),bO st.M (st.e-((arg ss i).length+1)).toNat (arg ss i),lK st.A i (st.e-((arg ss i).length+1))⟩
def lI(ss:List ByteArray)(is:List Nat):LG:=is.foldl (mX ss) ⟨65536,λ_=>0,λ_=>0⟩
theorem kQ(ss:List ByteArray)(is:List Nat)(i:Nat):lI ss (is++[i])=mX ss (lI ss is) i:=by simp[lI]
def zM(l:List Int):Bool:=decide (l.length≤30)&&!decide ((0:Int)∈l)
theorem dQ{l:List Int}:zM l=true↔l.length≤30∧(0:Int)∉l:=by simp[zM]
def Good(ss:List ByteArray):Prop:=∀i,i<ss.length→zM (arg ss i)=true
theorem Rp(ss:List ByteArray)(i:Nat):∀x∈arg ss i,0≤x∧x≤255:=yX _
theorem zu{α:Type}{p:List α→Prop}(h0:p [])(h1:∀l a,p l→p (l++[a]))(l:List α):p l:=by
 have:∀l:List α,p l.reverse:=by
  intro l
  induction l with
  | nil=>exact h0
  | cons a l ih=>rw[List.reverse_cons];exact h1 _ _ ih
 have h:=this l.reverse
 rwa [List.reverse_reverse]at h
theorem qj(ss:List ByteArray):∀is:List Nat,(∀i∈is,(arg ss i).length≤30)→65536-31*is.length≤(lI ss is).e∧(lI ss is).e≤65536:=by
 refine zu ?_ ?_
 ·intro _;simp[lI]
 ·intro is i ih h
  have ih:=ih λj hj=>h j (by simp[hj]);have hi:=h i (by simp);rw[kQ];simp only[mX,List.length_append,List.length_singleton]
  omega
theorem Vy(ss:List ByteArray):∀is:List Nat,(∀i∈is,(arg ss i).length≤30)→is.length≤8→∀j,(lI ss is).A j=0∨(65288≤(lI ss is).A j∧(lI ss is).A j≤65535):=by
 refine zu ?_ ?_
 ·intro _ _ j;left;rfl
 ·intro is i ih h hl j
  simp only[List.length_append,List.length_singleton]at hl
  have ih:=ih (λj hj=>h j (by simp[hj])) (by omega) j;have hi:=h i (by simp);have hb:=qj ss is λj hj=>h j (by simp[hj]);rw[kQ];simp only[mX,lK]
  split
  ·right;omega
  ·exact ih
def gI(st:LG)(n k:Nat):Int:=if k=0 then n else if k≤n then st.A (k-1)else 0
def jX(st:LG)(n:Nat):Int:=(st.e-8*(n+2))/16*16
def gM(st:LG)(n:Nat):Nat→(Nat→Int)
 | 0=>st.M
 | k+1=>bO (gM st n k) ((jX st n).toNat+8*k) (eu (gI st n k))
theorem fD(n:Int):(eu n).length=8:=rfl
theorem Gu:eu 0=List.replicate 8 0:=by decide
theorem wT(n:Int)(h0:0≤n)(h1:n<18446744073709551616):∀x∈eu n,0≤x∧x≤255:=by
 intro x hx;simp only[eu,List.mem_cons,List.not_mem_nil,or_false]at hx
 omega
theorem jL(M:Nat→Int)(A:Nat)(l:List Int)(a:Nat)(h:a<A∨A+l.length≤a):bO M A l a=M a:=by
 unfold bO;rw[if_neg (by omega)]
theorem Gv(M:Nat→Int)(A:Nat)(l:List Int)(j:Nat)(h:j<l.length):bO M A l (A+j)=l.getD j 0:=by
 unfold bO;rw[if_pos ⟨by omega,by omega⟩,Nat.add_sub_cancel_left]
theorem LH(st:LG)(n:Nat)(a:Nat):∀k,(a<(jX st n).toNat∨(jX st n).toNat+8*k≤a)→gM st n k a=st.M a
 | 0,_=>rfl
 | k+1,h=>by
   rw[gM,jL _ _ _ _ (by rw[fD];omega)];exact LH st n a k (by omega)
structure Laid(ss:List ByteArray)(st:LG)(k:Nat):Prop where
 low:∀a:Nat,(a:Int)<st.e→st.M a=0
 at_:∀i,k≤i→i<ss.length→st.e≤st.A i∧st.A i+(arg ss i).length+1≤65536∧(∀j,j<(arg ss i).length→st.M ((st.A i).toNat+j)=(arg ss i).getD j 0)∧st.M ((st.A i).toNat+(arg ss i).length)=0
theorem OH(ss:List ByteArray)(st:LG)(k:Nat)(hk:k<ss.length)(h:Laid ss st (k+1))(h0:(arg ss k).length+1≤st.e)(h1:st.e≤65536):Laid ss (mX ss st k) k:=by
 obtain⟨hlow,hat⟩:=h;refine⟨λa ha=>?_,λi hi hin=>?_⟩
 ·simp only[mX]at ha⊢
  rw[jL _ _ _ _ (by omega)];exact hlow a (by omega)
 ·simp only[mX,lK]
  by_cases e:i=k
  ·subst e
   rw[if_pos rfl];refine⟨Int.le_refl _,by omega,λj hj=>Gv _ _ _ _ hj,?_⟩;rw[jL _ _ _ _ (by omega)];exact hlow _ (by omega)
  ·obtain⟨g1,g2,g3,g4⟩:=hat i (by omega) hin
   rw[if_neg e];refine⟨by omega,g2,λj hj=>?_,?_⟩
   ·rw[jL _ _ _ _ (by omega)];exact g3 j hj
   ·rw[jL _ _ _ _ (by omega)];exact g4
theorem Gw(ss:List ByteArray)(hg:Good ss)(hn:ss.length≤8):∀m,m≤ss.length→Laid ss (lI ss (dG ss.length (ss.length-m))) (ss.length-m)
 | 0,_=>⟨λa _=>by rw[Nat.sub_zero,lH];rfl,λi h1 h2=>by omega⟩
 | m+1,h=>by
   have ih:=Gw ss hg hn m (by omega);rw[rU _ (ss.length-(m+1)) (by omega),show ss.length-(m+1)+1=ss.length-m from by omega,kQ];have hlen:∀i∈dG ss.length (ss.length-m),(arg ss i).length≤30:=λi hi=>by
    have:i<ss.length:=by
     unfold dG at hi;exact List.mem_range.1 (List.mem_of_mem_drop (List.mem_reverse.1 hi))
    exact(dQ.1 (hg i this)).1
   have hb:=qj ss _ hlen;rw[jd]at hb;have hk:=(dQ.1 (hg (ss.length-(m+1)) (by omega))).1;exact OH ss _ (ss.length-(m+1)) (by omega) (by rw[show ss.length-(m+1)+1=ss.length-m from by omega];exact ih) (by omega) hb.2
def aJ(ss:List ByteArray):LG:=lI ss (dG ss.length 0)
theorem J9(ss:List ByteArray)(hg:Good ss)(hn:ss.length≤8):Laid ss (aJ ss) 0:=by
 have:=Gw ss hg hn ss.length (bH _)
 rwa [Nat.sub_self]at this
theorem xX{n k i:Nat}(h:i∈dG n k):i<n:=by
 unfold dG at h;exact List.mem_range.1 (List.mem_of_mem_drop (List.mem_reverse.1 h))
theorem ql(ss:List ByteArray)(hg:Good ss)(hn:ss.length≤8):65288≤(aJ ss).e∧(aJ ss).e≤65536:=by
 have:=qj ss (dG ss.length 0) λi hi=>(dQ.1 (hg i (xX hi))).1;rw[jd]at this;unfold aJ;omega
theorem zN(ss:List ByteArray)(hg:Good ss)(hn:ss.length≤8):65024≤jX (aJ ss) ss.length∧jX (aJ ss) ss.length+8*(ss.length+2)≤(aJ ss).e∧jX (aJ ss) ss.length%16=0:=by
 have:=ql ss hg hn;unfold jX;omega
theorem rV(ss:List ByteArray)(hg:Good ss)(hn:ss.length≤8)(k:Nat):0≤gI (aJ ss) ss.length k∧gI (aJ ss) ss.length k<65536:=by
 unfold gI;have:=Vy ss (dG ss.length 0) (λi hi=>(dQ.1 (hg i (xX hi))).1) (by rw[jd];omega) (k-1);have e:(lI ss (dG ss.length 0))=aJ ss:=rfl;rw[e]at this;split
 ·omega
 ·split<;>omega
def l7(ss:List ByteArray):Nat→Int:=gM (aJ ss) ss.length (ss.length+2)
theorem SC(ss:List ByteArray)(hg:Good ss)(hn:ss.length≤8):gM (aJ ss) ss.length (ss.length+1)=l7 ss:=by
 funext a
 have e:l7 ss=bO (gM (aJ ss) ss.length (ss.length+1)) ((jX (aJ ss) ss.length).toNat+8*(ss.length+1)) (eu (gI (aJ ss) ss.length (ss.length+1))):=rfl;rw[e];unfold bO;split
 ·rename_i h
  rw[fD]at h;have hl:=J9 ss hg hn;have hs:=zN ss hg hn;rw[LH _ _ _ _ (by omega),hl.low a (by omega)];have:gI (aJ ss) ss.length (ss.length+1)=0:=by unfold gI;rw[if_neg (by omega),if_neg (by omega)]
  rw[this,Gu,List.getD_eq_getElem?_getD,List.getElem?_replicate];split<;>rfl
 ·rfl
theorem Vz(f:Nat→Int)(i:Nat)(x:Int)(j:Nat):lK f i x j=if j=i then x else f j:=rfl
theorem BI(M:Nat→Int)(B o:Nat)(n:Int):OC (λj=>M (B+j)) o n=λj=>bO M (B+o) (eu n) (B+j):=by
 funext j
 unfold OC;simp only[Vz]
 unfold bO;rw[fD];by_cases h:B+o≤B+j∧B+j<B+o+8
 ·rw[if_pos h]
  have:j=o∨j=o+1∨j=o+2∨j=o+3∨j=o+4∨j=o+5∨j=o+6∨j=o+7:=by omega
  rcases this with rfl|rfl|rfl|rfl|rfl|rfl|rfl|rfl
  ·simp[eu]
  ·rw[show B+(o+1)-(B+o)=1 from by omega];simp[eu]
  ·rw[show B+(o+2)-(B+o)=2 from by omega];simp[eu]
  ·rw[show B+(o+3)-(B+o)=3 from by omega];simp[eu]
  ·rw[show B+(o+4)-(B+o)=4 from by omega];simp[eu]
  ·rw[show B+(o+5)-(B+o)=5 from by omega];simp[eu]
  ·rw[show B+(o+6)-(B+o)=6 from by omega];simp[eu]
  ·rw[show B+(o+7)-(B+o)=7 from by omega];simp[eu]
 ·rw[if_neg h,if_neg (by omega),if_neg (by omega),if_neg (by omega),if_neg (by omega),if_neg (by omega),if_neg (by omega),if_neg (by omega),if_neg (by omega)]
theorem Gq(M:Nat→Int)(B o N:Nat)(l:List Int)(h:o+l.length≤N):splice (rowOf (λj=>M (B+j)) N) o (l.map (Value.int .u8))=rowOf (λj=>bO M (B+o) l (B+j)) N:=by
 apply List.ext_getElem?
 intro i;unfold splice rowOf;by_cases hi:i<N
 ·rw[List.getElem?_append]
  simp only[List.length_take,fJ,List.length_range]
  rw[Nat.min_eq_left (by omega)];by_cases h1:i<o
  ·rw[if_pos h1,List.getElem?_take,if_pos h1]
   simp only[dA,List.getElem?_range hi,Option.map_some]
   rw[jL _ _ _ _ (by omega)]
  ·rw[if_neg h1,List.getElem?_append]
   simp only[fJ]
   by_cases h2:i-o<l.length
   ·rw[if_pos h2]
    simp only[dA,List.getElem?_range hi,Option.map_some]
    rw[bP h2,show B+i=(B+o)+(i-o)from by omega,Gv _ _ _ _ h2,List.getD_eq_getElem?_getD,bP h2];rfl
   ·rw[if_neg h2,List.getElem?_drop,show o+l.length+(i-o-l.length)=i from by omega]
    simp only[dA,List.getElem?_range hi,Option.map_some]
    rw[jL _ _ _ _ (by omega)]
 ·rw[List.getElem?_eq_none (by simp;omega),List.getElem?_eq_none (by simp;omega)]
end
section
open Go.Proofs.Tryz Go.RowKit Go.Maps
theorem Pz{P:Program}{w:World}{tx:TypeId}(hk:P.underlying tx=some (.slice 5)){p:Option Addr}{M:List Int}{cap:Nat}(h:BS w p M):Src P 1 tx (.slice p M.length cap) M.length (M.map (Value.int .u8)) w:=by
 by_cases h0:0<M.length
 ·obtain⟨g,o,rfl,_,hc⟩:=h.2 h0
  refine Src.ofSlice w hk ⟨g,o,none⟩ M.length cap _ (by simp) (λj u hj=>?_) λu hu=>?_
  ·rw[dA]at hj
   obtain⟨y,hy,rfl⟩:=Option.map_eq_some_iff.1 hj;have hlt:=(bZ hy).1;rw[Addr.add_lit,hc.1 j hlt,hy];rfl
  ·obtain⟨y,_,rfl⟩:=List.mem_map.1 hu
   rfl
 ·have hM:M=[]:=List.eq_nil_of_length_eq_zero (by omega)
  subst hM;refine⟨.inl ⟨_,hk⟩,λ_=>rfl,?_,?_,by simp,λ_ h=>(by cases h)⟩
  ·cases p with
   | none=>exact run_firstCells_none (P:=P) w 1 0 0 cap
   | some a=>exact run_firstCells_some (P:=P) w 1 0 a 0 cap [] (by simp) λ_ _ h=>(by simp at h)
  ·cases p with
   | none=>exact run_firstCells_none (P:=P) w.drew 1 0 0 cap
   | some a=>exact run_firstCells_some (P:=P) w.drew 1 0 a 0 cap [] (by simp) λ_ _ h=>(by simp at h)
theorem Hr{w:World}{ops:Array Oper}{rest:List Oper}{o:Oper}{a:Act}{Q:Exit→Act→World→Prop}(hgd:o.guard=none)(s x:Operand)(ho:o.op=.call {callee:=.builtin .append,args:= #[s,x],argTypes:= #[59,59]})
 (v:Value)(p:Option Addr)(cap:Nat)(L M:List Int)(hsv:a.eval s=v)(hxv:a.eval x=.slice p M.length cap)(hv:Buf w v L)(hx:BS w p M)(hlen:L.length+M.length≤100000000)
 (h:∀v' w',Buf w' v' (L++M)→jl w w' v (dV v)→(∀g,ag v'=some g→ag v=some g∨w.heap.size≤g)→(∀p,v=.slice p L.length L.length→Bel w w')→wpList prog ops Q rest (a.put o.dst v') w'):wpList prog ops Q (o::rest) a w:=by
 obtain⟨i,hi,h1,h2,h3⟩:=sV;exact lV hgd s x _ _ ho i _ underlying59 hi h3 h1 h2 rfl v _ L M hsv hxv hv hx.1 (Pz underlying59 hx) hlen h
theorem Cf{w:World}{ops:Array Oper}{o:Oper}{a:Act}{K:Act→World→Prop}{Q:Exit→Act→World→Prop}{E:Prop}(hgd:o.guard=none)(s x:Operand)(ho:o.op=.call {callee:=.builtin .append,args:= #[s,x],argTypes:= #[59,59]})
 (v:Value)(p:Option Addr)(cap:Nat)(L M:List Int)(hsv:a.eval s=v)(hxv:a.eval x=.slice p M.length cap)(hv:Buf w v L)(hx:BS w p M)(hlen:L.length+M.length≤100000000)
 (h:∀v' w',Buf w' v' (L++M)→jl w w' v (dV v)→(∀g,ag v'=some g→ag v=some g∨w.heap.size≤g)→(∀p,v=.slice p L.length L.length→Bel w w')→K (a.put o.dst v') w'):if Region.wanted o (yielded ops a.tmps)=true then Oper.wp prog o a w K Q else E:=by
 obtain⟨i,hi,h1,h2,h3⟩:=sV;exact oC hgd s x _ _ ho i _ underlying59 hi h3 h1 h2 rfl v _ L M hsv hxv hv hx.1 (Pz underlying59 hx) hlen h
end
end Go.Proofs.YtcnjjchlebmfiaaGreatDoor
