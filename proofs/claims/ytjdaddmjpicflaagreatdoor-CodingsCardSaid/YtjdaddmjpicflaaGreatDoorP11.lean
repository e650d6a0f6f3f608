/- The program's Mkdir. -/
import Derived.Test.YtjdaddmjpicflaaGreatDoorP09
import Derived.Deep.RegionWith
import Derived.Deep.RegionLaw
import Derived.Test.YtjdaddmjpicflaaGreatDoorP05
import Derived.Test.YtjdaddmjpicflaaGreatDoorP04
import Derived.Laws.CopyOwn
import Derived.Deep.RegionHeld3
import Derived.Deep.DeepCutAuto
import Derived.StillTailTactics
set_option linter.unusedVariables false
set_option linter.unusedSimpArgs false
set_option maxRecDepth 100000
set_option maxHeartbeats 16000000
namespace Go.Proofs.YtjdaddmjpicflaaGreatDoor
open Go.RowKit Go.MapKept Go.Maps
def StepRes (w:World) (tb:Nat) (A:Adr) (T:List Pn) (mi mb:Nat) (r:Nat×List Nd) (e:Ending) (w':World):Prop:=
 (r.1≠0→e=.returned (errN r.1)∧Keep (Foot tb A T) w w')∧(r.1=0→e=.returned .nilIface∧∃A' T',PStep w tb A T mi mb r.2 A' T' w')
theorem mkdir_err (tb:Nat) (s:ByteArray) (c:Int) (w:World)
 (hf:∀W,Bel w W→Calls Tryz.prog 64 #[.pointer (some ⟨tb,0,none⟩),.string s] W λe w'=>e=.returned (.tuple #[.agg #[.pointer none,.string ⟨#[]⟩,.pointer none],errN c])∧Bel W w') :
 Calls Tryz.prog 63 #[.pointer (some ⟨tb,0,none⟩),.string s] w λe w'=>e=.returned (errN c)∧Bel w w':=by
 have HF:=xh hf
 clear hf
 go_enter Tryz.func63,Tryz.ntmps63
 go_wp2_with (go_at_call 64;((with_reducible refine Calls.mono (HF.out w (Bel.refl w)) ?_);rintro e w1 ⟨rfl,k1⟩))
 go_ret
 exact⟨rfl,k1.ac _⟩
theorem mkdir_old (tb:Nat) (s:ByteArray) (p:Value) (nm:ByteArray) (a:Nat) (w:World) (hp:p.oneCell'=true)
 (hf:∀W,Bel w W→Calls Tryz.prog 64 #[.pointer (some ⟨tb,0,none⟩),.string s] W λe w'=>e=.returned (.tuple #[.agg #[p,.string nm,.pointer (some ⟨a,0,none⟩)],.nilIface])∧Bel W w') :
 Calls Tryz.prog 63 #[.pointer (some ⟨tb,0,none⟩),.string s] w λe w'=>e=.returned (errN 10)∧Bel w w':=by
 have HF:=xh hf
 have HP:=xh hp
 clear hf hp
 go_enter Tryz.func63,Tryz.ntmps63
 go_upto_region 2 with(first
  | (go_at_call 64;((with_reducible refine Calls.mono (HF.out w (Bel.refl w)) ?_);rintro e w1 ⟨rfl,k1⟩))
  | (refine wpList_store_blk rfl 190 (.tmp 5) (.tmp 11) rfl rfl w1.heap.size [p,.string nm,.pointer (some ⟨a,0,none⟩)] [.pointer none,.string ⟨#[]⟩,.pointer none] 190 (Blk.new w1 _ _) rfl rfl (by kernel_rfl) rfl (by intro v hv;simp at hv;rcases hv with rfl|rfl|rfl;exact HP.out;all_goals rfl) ?_;intro w3 B3 K3))
 have kc:Bel w w3:=k1.tr ((Below.heap_alloc' w1 _).trans (K3.below _ (by simp) (λk hk=>by omega)))
 have c2:w3.cell? ⟨w1.heap.size,2,none⟩=some (.pointer (some ⟨a,0,none⟩)):=B3.out.cell 2
 have HKC:=xh kc
 generalize w1.heap.size=g at *
 clear kc K3 k1 B3
 go_wp2
 go_ret
 exact⟨rfl,HKC.out⟩
theorem mkdir_make (tb:Nat) (s:ByteArray) (p:Value) (nm:ByteArray) (q v:Value) (w:World) (Post:World→World→Prop)
 (hf:∀W,Bel w W→Calls Tryz.prog 64 #[.pointer (some ⟨tb,0,none⟩),.string s] W λe w'=>e=.returned (.tuple #[.agg #[p,.string nm,.pointer none],.nilIface])∧Bel W w')
 (hp:p.oneCell'=true)
 (hm:∀W,Bel w W→Calls Tryz.prog 65 #[.pointer (some ⟨tb,0,none⟩),.agg #[p,.string nm,.pointer none],.bool true] W λe w'=>(∃q,e=.returned (.tuple #[q,v]))∧Post W w') :
 Calls Tryz.prog 63 #[.pointer (some ⟨tb,0,none⟩),.string s] w λe w'=>e=.returned v∧∃W,Bel w W∧Post W w':=by
 have HF:=xh hf
 have HM:=xh hm
 have HP:=xh hp
 clear hf hm hp
 go_enter Tryz.func63,Tryz.ntmps63
 go_upto_region 2 with(first
  | (go_at_call 64;((with_reducible refine Calls.mono (HF.out w (Bel.refl w)) ?_);rintro e w1 ⟨rfl,k1⟩))
  | (refine wpList_store_blk rfl 190 (.tmp 5) (.tmp 11) rfl rfl w1.heap.size [p,.string nm,.pointer none] [.pointer none,.string ⟨#[]⟩,.pointer none] 190 (Blk.new w1 _ _) rfl rfl (by kernel_rfl) rfl (by intro v hv;simp at hv;rcases hv with rfl|rfl|rfl;exact HP.out;all_goals rfl) ?_;intro w3 B3 K3))
 have kc:Bel w w3:=k1.tr ((Below.heap_alloc' w1 _).trans (K3.below _ (by simp) (λk hk=>by omega)))
 have c2:w3.cell? ⟨w1.heap.size,2,none⟩=some (.pointer none):=B3.out.cell 2
 have HB3:=xh B3.out
 have HKC:=xh kc
 generalize w1.heap.size=g at *
 clear kc K3 k1 B3
 go_wp2_with (first
  | (refine wpList_load_mid rfl 190 (.tmp 5) rfl g 0 rfl [p,.string nm,.pointer none] _ (by have:=HB3.out.range 0;simpa using this) Tryz.underlying190 rfl (by kernel_rfl) ?_)
  | (go_at_call 65;((with_reducible refine Calls.mono (HM.out w3 HKC.out) ?_);rintro e w4 ⟨⟨q,rfl⟩,hpost⟩)))
 go_ret
 exact⟨rfl,w3,HKC.out,hpost⟩
theorem ptr_pos (A:Adr) {n:Nat} (h:n≠0):A.ptr n=.pointer (some ⟨A.nb n,0,none⟩):=by simp[Adr.ptr,Adr.at_,h]
theorem Made.of_bel {w W w':World} {A:Adr} {T:List Pn} {t:TN} {tb d nb mb:Nat} {nm:ByteArray} {is:Bool} (hb:Bel w W) (k:Made A T t tb d nm is W nb mb w'):Made A T t tb d nm is w nb mb w':=
 ⟨k.tree,k.block,(Keep.of_bel _ hb).tr k.keep,Nat.le_trans hb.size k.nbge,Nat.le_trans hb.size k.mbge⟩
theorem mkdir_any (tb:Nat) (A:Adr) (T:List Pn) (mi mb:Nat) (s:ByteArray) (w:World) (h:PT w tb A T mi mb) (hs:s.size≤1000000) (hmx:MaxVar w) :
 Calls Tryz.prog 63 #[.pointer (some ⟨tb,0,none⟩),.string s] w λe w'=>StepRes w tb A T mi mb (mkF mi (nds T) s.data.toList) e w':=by
 have hf:=λW (hW:Bel w W)=>find_any tb A T _ s W (h.bel hW).block (h.bel hW).tree hs (hmx.bel hW)
 have hroot:=h.tree.isRoot
 unfold mkF
 obtain⟨d,nm,n,c,hr⟩:∃d nm n c,docWalk (nds T) s.data.toList=(d,nm,n,c):=⟨_,_,_,_,rfl⟩
 have hnew:=docWalk_new (L:=nds T) (s:=s.data.toList) hroot
 have hold:=docWalk_old (L:=nds T) (s:=s.data.toList) hroot
 rw[hr]at hnew hold
 simp only[hr]at hf hnew hold⊢
 by_cases hc:c=0
 ·subst hc
  by_cases hn:n=0
  ·subst hn
   obtain⟨h1,h2,h3,h4⟩:=hnew rfl rfl
   obtain⟨d,rfl⟩:∃d',d=d'+1:=⟨d-1,by omega⟩
   obtain⟨x,hx,hxd⟩:=isDir_lt h2
   rw[Nat.add_sub_cancel,nds,List.getElem?_map,Option.map_eq_some_iff]at hx
   obtain⟨D,hD,rfl⟩:=hx
   have hfp:∀W,Bel w W→Calls Tryz.prog 64 #[.pointer (some ⟨tb,0,none⟩),.string s] W λe w'=>e=.returned (.tuple #[.agg #[A.ptr (d+1),.string nm,.pointer none],.nilIface])∧Bel W w':=λW hW=>(hf W hW).mono λe w' k=>⟨k.1.trans (by simp[spotV,Adr.ptr,Adr.at_]),k.2⟩
   rw[if_neg (by simp),if_neg (by simp)]
   by_cases hm:mi≤T.length
   ·rw[if_pos (by rw[nds_len];exact hm)]
    refine(mkdir_make tb s (A.ptr (d+1)) nm (.pointer none) (errN 12) w (λW w'=>Bel W w') hfp rfl λW hW=>(make_full tb A _ (d+1) nm true W (h.bel hW).block (h.bel hW).ok ?_).mono ?_).mono ?_
    ·unfold roomB
     simp only[Bool.and_eq_false_iff,decide_eq_false_iff_not]
     left;omega
    ·rintro e w' ⟨rfl,k⟩;exact⟨⟨_,rfl⟩,k⟩
    ·rintro e w' ⟨rfl,W,k1,k2⟩
     exact⟨λ_=>⟨rfl,Keep.of_bel _ (k1.tr k2)⟩,λh=>by cases h⟩
   ·rw[if_neg (by rw[nds_len];exact hm)]
    have hsm:=h.small
    have hmi:=h.mi
    refine(mkdir_make tb s (A.ptr (d+1)) nm (.pointer none) .nilIface w (λW w'=>∃nb mx,Made A T ⟨T.length,sumB (nds T),mi,mb⟩ tb (d+1) nm true W nb mx w') hfp rfl λW hW=>(make_ok tb A T _ d D nm true W (h.bel hW).block (h.bel hW).tree (h.bel hW).ok ?_ hD hxd h3 h4 (by omega)).mono ?_).mono ?_
    ·unfold roomB
     simp only[Bool.and_eq_true,decide_eq_true_eq]
     omega
    ·rintro e w' ⟨nb,mx,rfl,k⟩;exact⟨⟨_,rfl⟩,nb,mx,k⟩
    ·rintro e w' ⟨rfl,W,k1,nb,mx,k2⟩
     exact⟨λh=>absurd rfl h,λ_=>⟨rfl,_,_,Made.step h D hD hxd (by omega) (k2.of_bel k1)⟩⟩
  ·rw[if_neg (by simp),if_pos hn]
   refine(mkdir_old tb s (A.ptr d) nm (A.nb n) w rfl λW hW=>(hf W hW).mono λe w' k=>⟨k.1.trans (by rw[spotV,if_pos rfl,ptr_pos A hn]),k.2⟩).mono ?_
   rintro e w' ⟨rfl,k⟩
   exact⟨λ_=>⟨rfl,Keep.of_bel _ k⟩,λh=>by cases h⟩
 ·rw[if_pos hc]
  refine(mkdir_err tb s c w λW hW=>(hf W hW).mono λe w' k=>⟨k.1.trans (by rw[spotV,if_neg hc]),k.2⟩).mono ?_
  rintro e w' ⟨rfl,k⟩
  exact⟨λ_=>⟨rfl,Keep.of_bel _ k⟩,λh=>absurd h hc⟩
def Pn.setB (x:Pn) (bv:Value) (L:List Int):Pn:={x with bv:=bv,byt:=L}
theorem kidsF_set (A:Adr) (d:Nat):∀(i k:Nat) (T:List Pn) (x:Pn) (bv:Value) (L:List Int),T[k]?=some x→kidsF A d i (T.set k (x.setB bv L))=kidsF A d i T
 | _,_,[],_,_,_,h=>by simp at h
 | i,0,n::T,x,bv,L,h=>by
   simp at h
   subst h
   rfl
 | i,k+1,n::T,x,bv,L,h=>by
   have ih:=kidsF_set A d (i+1) k T x bv L (by simpa using h)
   simp only[List.set_cons_succ,kidsF,ih]
theorem PTree.setB {w w':World} {A:Adr} {T:List Pn} {S:Nat→Prop} (h:PTree w A T) (i:Nat) (x:Pn) (hx:T[i]?=some x) (bv:Value) (L:List Int)
 (hnode:Blk w' (A.nb (i+1)) ((x.setB bv L).cells A (i+1)) 183) (hrw:Rw w' bv L) (hnew:∀g,bv.ownBlock=some g→w.heap.size≤g∨x.bv.ownBlock=some g)
 (hk:Keep S w w') (hS:∀q,TFoot A T q→S q→q=A.nb (i+1)∨x.bv.ownBlock=some q):PTree w' A (T.set i (x.setB bv L)):=by
 have hil:i<T.length:=(List.getElem?_eq_some_iff.1 hx).1
 have hlt:∀(j:Nat) (m:Pn),(T.set i (x.setB bv L))[j]?=some m→j=i∧m=x.setB bv L∨j≠i∧T[j]?=some m:=by
  intro j m hj
  by_cases e:j=i
  ·subst e
   rw[List.getElem?_set_self hil]at hj
   exact .inl ⟨rfl,(Option.some.inj hj).symm⟩
  ·rw[List.getElem?_set_ne (λh=>e h.symm)]at hj
   exact .inr ⟨e,hj⟩
 have hmap:∀(j:Nat) (m:Pn),(T.set i (x.setB bv L))[j]?=some m→∃m0,T[j]?=some m0∧m.par=m0.par∧m.dir=m0.dir∧m.gone=m0.gone∧m.name=m0.name:=by
  intro j m hj
  rcases hlt j m hj with⟨rfl,rfl⟩|⟨_,h2⟩
  ·exact⟨x,hx,rfl,rfl,rfl,rfl⟩
  ·exact⟨m,h2,rfl,rfl,rfl,rfl⟩
 have hback:∀(j:Nat) (m:Pn),T[j]?=some m→∃m1,(T.set i (x.setB bv L))[j]?=some m1∧m1.dir=m.dir∧m1.par=m.par∧m1.gone=m.gone:=by
  intro j m hj
  by_cases e:j=i
  ·subst e
   rw[hx]at hj
   cases hj
   exact⟨x.setB bv L,List.getElem?_set_self hil,rfl,rfl,rfl⟩
  ·exact⟨m,by rw[List.getElem?_set_ne (λh=>e h.symm)];exact hj,rfl,rfl,rfl⟩
 have hfl:∀q,TFoot A T q→q<w.heap.size:=λq hq=>h.foot_lt hq
 have hbn:∀(j:Nat) (m:Pn),T[j]?=some m→∀g,m.bv.ownBlock=some g→g≠A.nb (i+1):=λj m hj g hg=>by
  obtain⟨_,cur,hb⟩:=(h.byts j m hj).lt hg
  exact hb.ne (h.node i x hx) (by decide)
 have hmn:∀(j:Nat) (m:Pn),T[j]?=some m→m.dir=true→A.mb (j+1)≠A.nb (i+1)∧∀g,x.bv.ownBlock=some g→A.mb (j+1)≠g:=λj m hj hd=>
  ⟨λe=>(h.node i x hx).ne_map (h.kids j m hj hd) e.symm,λg hg e=>by
    obtain⟨_,cur,hb⟩:=(h.byts i x hx).lt hg
    exact hb.ne_map (h.kids j m hj hd) e.symm⟩
 refine⟨?_,?_,?_,?_,?_,?_,?_,?_,?_,?_,?_,by simpa using h.few⟩
 ·intro j m hj
  rcases hlt j m hj with⟨rfl,rfl⟩|⟨hne,h2⟩
  ·exact hnode
  ·refine(h.node j m h2).keep hk λhs=>?_
   rcases hS _ ⟨j,m,h2,.inl rfl⟩ hs with e|e
   ·exact hne (h.inj j i (List.getElem?_eq_some_iff.1 h2).1 hil e)
   ·obtain⟨_,cur,hb⟩:=(h.byts i x hx).lt e
    exact hb.ne (h.node j m h2) (by decide) rfl
 ·intro j m hj hd
  obtain⟨m0,h1,_,h2,_⟩:=hmap j m hj
  have hd0:m0.dir=true:=by rw[←h2];exact hd
  show Mp keyS w' _ (kidsF A (j+1) 0 _)
  rw[kidsF_set A (j+1) 0 i T x bv L hx]
  refine(h.kids j m0 h1 hd0).of_block (hk.block _ (h.kids j m0 h1 hd0).lt λhs=>?_)
  rcases hS _ ⟨j,m0,h1,.inr (.inl ⟨hd0,rfl⟩)⟩ hs with e|e
  ·exact(hmn j m0 h1 hd0).1 e
  ·exact(hmn j m0 h1 hd0).2 _ e rfl
 ·intro j m hj
  rcases hlt j m hj with⟨rfl,rfl⟩|⟨hne,h2⟩
  ·exact hrw
  ·refine(h.byts j m h2).keep hk λg hg hs=>?_
   rcases hS _ ⟨j,m,h2,.inr (.inr hg)⟩ hs with e|e
   ·exact hbn j m h2 g hg e
   ·exact hne (h.sep j i m x g h2 hx hg e)
 ·intro a b ha hb
  simp at ha hb
  exact h.inj a b ha hb
 ·intro a b m n ha hb hda hdb he
  obtain⟨m0,h1,_,h2,_⟩:=hmap a m ha
  obtain⟨n0,h3,_,h4,_⟩:=hmap b n hb
  exact h.minj a b m0 n0 h1 h3 (h2▸hda) (h4▸hdb) he
 ·intro a b m n g ha hb hm hn
  rcases hlt a m ha with⟨rfl,rfl⟩|⟨hne,h2⟩<;>rcases hlt b n hb with⟨rfl,rfl⟩|⟨hne',h2'⟩
  ·rfl
  ·rcases hnew g hm with h5|h5
   ·have:=((h.byts b n h2').lt hn).1
    omega
   ·exact h.sep a b x n g hx h2' h5 hn
  ·rcases hnew g hn with h5|h5
   ·have:=((h.byts a m h2).lt hm).1
    omega
   ·exact h.sep a b m x g h2 hx hm h5
  ·exact h.sep a b m n g h2 h2' hm hn
 ·intro a m ha
  obtain⟨m0,h1,h2,_⟩:=hmap a m ha
  rw[h2];exact h.par a m0 h1
 ·intro a m ha h0
  obtain⟨m0,h1,h2,_⟩:=hmap a m ha
  rw[h2]at h0⊢
  obtain⟨p,hp1,hp2⟩:=h.pdir a m0 h1 h0
  obtain⟨p1,hp3,hp4,_⟩:=hback _ p hp1
  exact⟨p1,hp3,hp4▸hp2⟩
 ·obtain⟨r,h1,h2,h3,h4⟩:=h.root
  obtain⟨r1,h5,h6,h7,h8⟩:=hback 0 r h1
  exact⟨r1,h5,h7▸h2,h6▸h3,h8▸h4⟩
 ·intro a m ha h0 h1
  obtain⟨m0,h2,h3,_,h5,_⟩:=hmap a m ha
  rw[h5];exact h.top a m0 h2 (h3▸h0) h1
 ·intro a m ha h0 h1
  obtain⟨m0,h2,_,_,h5,h6⟩:=hmap a m ha
  rw[h6];exact h.name a m0 h2 (h5▸h0) h1
theorem nds_set (T:List Pn) (i:Nat) (x:Pn) (bv:Value) (L:List Int):nds (T.set i (x.setB bv L))=(nds T).set i {x.nd with byt:=L}:=by
 unfold nds;rw[List.map_set];rfl
theorem sumB_set (N:List Nd) (i:Nat) (x y:Nd) (hx:N[i]?=some x):sumB (N.set i y)+x.byt.length=sumB N+y.byt.length:=by
 unfold sumB
 induction N generalizing i with
 | nil=>simp at hx
 | cons n N ih=>
   cases i with
   | zero=>simp at hx;subst hx;simp;omega
   | succ i=>simp at hx ih⊢;have:=ih i hx;omega
theorem u8Info:(Tryz.prog.info? 5).map (λi=>(i.zero,i.size,i.bytes))=some (some (.int .u8 0),1,1):=by kernel_rfl
def GrowRes (w:World) (tb:Nat) (A:Adr) (T:List Pn) (mi mb i:Nat) (x:Pn) (L:List Int) (w':World):Prop:=∃bv,PStep w tb A T mi mb ((nds T).set i {x.nd with byt:=L}) A (T.set i (x.setB bv L)) w'
theorem foot_set {tb:Nat} {A:Adr} {T:List Pn} {i:Nat} {x:Pn} {bv:Value} {L:List Int} (hx:T[i]?=some x) {B:Nat} (hnew:∀g,bv.ownBlock=some g→B≤g∨x.bv.ownBlock=some g):∀q,Foot tb A (T.set i (x.setB bv L)) q→Foot tb A T q∨B≤q:=by
 have hil:i<T.length:=(List.getElem?_eq_some_iff.1 hx).1
 rintro q (rfl|⟨j,m,hj,hq⟩)
 ·exact .inl (.inl rfl)
 ·by_cases e:j=i
  ·subst e
   rw[List.getElem?_set_self hil]at hj
   cases hj
   rcases hq with h1|⟨h1,h2⟩|h1
   ·exact .inl (.inr ⟨j,x,hx,.inl h1⟩)
   ·exact .inl (.inr ⟨j,x,hx,.inr (.inl ⟨h1,h2⟩)⟩)
   ·rcases hnew q h1 with h2|h2
    ·exact .inr h2
    ·exact .inl (.inr ⟨j,x,hx,.inr (.inr h2)⟩)
  ·rw[List.getElem?_set_ne (λh=>e h.symm)]at hj
   exact .inl (.inr ⟨j,m,hj,hq⟩)
theorem grow_done {w w1 w2:World} {tb:Nat} {A:Adr} {T:List Pn} {mi mb i:Nat} {x:Pn} {more g cp k:Nat} (h:PT w tb A T mi mb) (hx:T[i]?=some x) (hm:sumB (nds T)+more≤mb)
 (hT1:Blk w1 tb ((TN.cells A ⟨T.length,sumB (nds T),mi,mb⟩).set 2 (.int .i64 ((sumB (nds T):Nat)+(more:Int)))) 185) (k1:Keep (λq=>q=tb) w w1) (hg:w1.heap.size=g) (k2:Bel w1 w2)
 (B2:Blk w2 g (x.byt.map (Value.int .u8)++List.replicate (more+k) (.int .u8 0)) 5) (h0:0<more) (hcp2:cp≤maxLen) (hcp:cp=x.byt.length+more+k) :
 GrowRes w tb A T mi mb i x (x.byt++List.replicate more 0) (w2.setCell ⟨A.nb (i+1),3,none⟩ (.slice (some ⟨g,0,none⟩) (x.byt.length+more) cp)):=by
 have hgw:w.heap.size≤g:=by rw[←hg];exact k1.size
 have hnode:=h.tree.node i x hx
 have hne:A.nb (i+1)≠tb:=hnode.ne h.block (by decide)
 have hnd2:=(hnode.keep k1 hne).bel k2
 have hfoot:∀q,TFoot A T q→q≠tb:=λq hq e=>by
  subst e
  obtain⟨j,m,hj,h1|⟨hd,h1⟩|h1⟩:=hq
  ·exact(h.block.ne (h.tree.node j m hj) (by decide)) h1
  ·exact(h.block.ne_map (h.tree.kids j m hj hd)) h1
  ·obtain⟨_,cur,hb⟩:=(h.tree.byts j m hj).lt h1
   exact(h.block.ne hb (by decide)) rfl
 have hK:Keep (λq=>q=tb∨q=A.nb (i+1)) w (w2.setCell ⟨A.nb (i+1),3,none⟩ (.slice (some ⟨g,0,none⟩) (x.byt.length+more) cp)):=
  ((k1.mono λ_ h=>.inl h).tr (Keep.of_bel _ k2)).tr ((Keep.setCell w2 (A.nb (i+1)) 3 _).mono λ_ h=>.inr h)
 have hnds:=nds_set T i x (.slice (some ⟨g,0,none⟩) (x.byt.length+more) cp) (x.byt++List.replicate more 0)
 have hxn:(nds T)[i]?=some x.nd:=by unfold nds;rw[List.getElem?_map,hx];rfl
 have hsum:sumB (nds (T.set i (x.setB (.slice (some ⟨g,0,none⟩) (x.byt.length+more) cp) (x.byt++List.replicate more 0))))=sumB (nds T)+more:=by
  rw[hnds]
  have:=sumB_set (nds T) i x.nd {x.nd with byt:=x.byt++List.replicate more 0} hxn
  simp[Pn.nd]at this⊢
  omega
 have hgn:g≠A.nb (i+1):=λe=>by have:=hnode.lt;omega
 have hrw:Rw (w2.setCell ⟨A.nb (i+1),3,none⟩ (.slice (some ⟨g,0,none⟩) (x.byt.length+more) cp)) (.slice (some ⟨g,0,none⟩) (x.byt.length+more) cp) (x.byt++List.replicate more 0):=by
  refine⟨λy hy=>?_,.inr ⟨g,cp,_,by simp,B2.setCell_other (a:=⟨A.nb (i+1),3,none⟩) hgn _,by simp;omega,by simp;omega,hcp2,?_⟩⟩
  ·rcases List.mem_append.1 hy with hy|hy
   ·exact(h.tree.byts i x hx).1 y hy
   ·have:=List.eq_of_mem_replicate hy;omega
  ·rw[List.length_append,List.length_replicate,List.map_append,List.map_replicate,List.take_append,List.take_of_length_le (by simp),List.take_replicate]
   simp
 refine⟨_,⟨h.tree.setB i x hx _ _ ?_ hrw ?_ hK ?_,?_,by simpa using h.few,by rw[hsum];exact hm,h.mi,h.mb⟩,hnds,hK.mono ?_,foot_set hx ?_⟩
 ·exact hnd2.setCell (o:=3) _
 ·intro g' hg';cases hg';exact .inl hgw
 ·rintro q hq (rfl|rfl)
  ·exact absurd rfl (hfoot _ hq)
  ·exact .inl rfl
 ·rw[hsum]
  have:=(hT1.bel k2).setCell_other (a:=⟨A.nb (i+1),3,none⟩) (λe=>hne e.symm) (.slice (some ⟨g,0,none⟩) (x.byt.length+more) cp)
  rw[List.length_set]
  exact this
 ·rintro q (rfl|rfl)
  ·exact .inl rfl
  ·exact .inr ⟨i,x,hx,.inl rfl⟩
 ·intro g' hg';cases hg';exact .inl hgw
theorem grow_any (tb:Nat) (A:Adr) (T:List Pn) (mi mb:Nat) (i:Nat) (x:Pn) (more:Nat) (w:World) (h:PT w tb A T mi mb) (hx:T[i]?=some x) (h0:0<more) (hm:sumB (nds T)+more≤mb) :
 Calls Tryz.prog 68 #[.pointer (some ⟨tb,0,none⟩),.pointer (some ⟨A.nb (i+1),0,none⟩),.int .i64 more] w λe w'=>e=.returned (.tuple #[])∧GrowRes w tb A T mi mb i x (x.byt++List.replicate more 0) w':=by
 have hb:=h.mb
 have hsm:=h.small
 have c2:w.cell? ⟨tb,2,none⟩=some (.int .i64 ((sumB (nds T):Nat):Int)):=h.block.cell 2
 have f2:=h.block.frozen
 have hlt:=h.block.lt
 have hnode:=h.tree.node i x hx
 have hbyt:=h.tree.byts i x hx
 obtain⟨p,cap,hbv,hlc,hcm,hpn⟩:=hbyt.slice
 have c3:w.cell? ⟨A.nb (i+1),3,none⟩=some (.slice p x.byt.length cap):=by rw[←hbv];exact hnode.cell 3
 have f3:=hnode.frozen
 have hnl:=hnode.lt
 have hne:A.nb (i+1)≠tb:=hnode.ne h.block (by decide)
 have hls:x.byt.length≤sumB (nds T):=by
  have:=sumB_set (nds T) i x.nd {x.nd with byt:=[]} (by unfold nds;rw[List.getElem?_map,hx];rfl)
  simp[Pn.nd]at this
  omega
 have HPT:=xh h
 have HX:=xh hx
 have HND:=xh hnode
 have HBT:=xh hbyt
 have HBV:=xh hbv
 have HPN:=xh hpn
 have HNE:=xh hne
 have HH:=xh hm
 generalize htot:sumB (nds T)=total at *
 have HTOT:=xh htot
 clear htot
 generalize hnbe:A.nb (i+1)=nb at *
 have HNB:=xh hnbe
 clear h hx hnode hbyt hbv hpn hnbe
 go_enter Tryz.func68,Tryz.ntmps68
 go_upto_region 1 with fail
 have BT:=HPT.out.block.setCell (o:=2) (.int .i64 ((total:Int)+(more:Int)))
 have k1:Keep (λq=>q=tb) w (w.setCell ⟨tb,2,none⟩ (.int .i64 ((total:Int)+(more:Int)))):=Keep.setCell w tb 2 _
 generalize w.setCell ⟨tb,2,none⟩ (.int .i64 ((total:Int)+(more:Int)))=w1 at *
 have HND1:=xh (HND.out.keep k1 HNE.out)
 have HBT1:Hid (Rw w1 x.bv x.byt):=xh (HBT.out.keep k1 λg hg e=>by
  obtain⟨_,cur,hb⟩:=HBT.out.lt hg
  exact hb.ne HPT.out.block (by decide) e)
 have HTB1:=xh BT
 have HK1:=xh k1
 have c3:w1.cell? ⟨nb,3,none⟩=some (.slice p x.byt.length cap):=by rw[←HBV.out];exact HND1.out.cell 3
 have f3:∀o,w1.frozen? ⟨nb,o,none⟩=false:=HND1.out.frozen
 have hnl:nb<w1.heap.size:=HND1.out.lt
 clear BT k1 f2 c2
 obtain⟨inf,hi1,hi2,hi3,hi4⟩:=info_parts u8Info
 have HI1:=xh hi1
 have HI2:=xh hi2
 have HI3:=xh hi3
 have HI4:=xh hi4
 clear hi1 hi2 hi3 hi4
 have HB1:Hid (∀b,p=some b→∀j v,(x.byt.map (Value.int .u8))[j]?=some v→w1.cell? (b.add j)=some v):=xh (λb hb j v hj=>by
  obtain⟨g,rfl,hg⟩:=HBT1.out.cells (by rw[HBV.out,hb])
  rw[show(⟨g,0,none⟩:Addr).add j=⟨g,j,none⟩from by unfold Addr.add;split<;>simp_all]
  exact hg j v hj)
 have HPZ:Hid (p=none→x.byt.length=0):=xh λe=>by simp[(HPN.out e).1]
 have HML:Hid ((x.byt.map (Value.int .u8)).length=x.byt.length):=xh (by simp)
 go_region_law (refine step_append_zeros rfl (.tmp 29) (.tmp 30) 32 3 5 rfl inf (.int .u8 0) Tryz.underlying32 Tryz.underlying3 HI1.out HI2.out rfl HI3.out HI4.out p x.byt.length x.byt.length (x.byt.map (Value.int .u8)) rfl HPZ.out HML.out HB1.out more rfl h0 (by omega) (by omega) ?_;intro w2 cp k B2 K2 hcp1 hcp2 hcp3;have c3:w2.cell? ⟨nb,3,none⟩=some (.slice p x.byt.length cap):=cell_bel K2 c3;have f3:∀o,w2.frozen? ⟨nb,o,none⟩=false:=λo=>(HND1.out.bel ((Bel.drew (Bel.refl w1)).tr K2)).frozen o;have hnl2:nb<w2.heap.size:=(HND1.out.bel ((Bel.drew (Bel.refl w1)).tr K2)).lt;have HB2:=xh B2.out;have HK2:Hid (Bel w1 w2):=xh ((Bel.drew (Bel.refl w1)).tr K2);have HCP:=xh hcp3;clear B2 K2 hcp3)
 all_goals go_wp2
 all_goals go_end0
 all_goals (refine⟨rfl,?_⟩;rw[←HNB.out];refine grow_done (w1:=w1) HPT.out HX.out (by rw[HTOT.out];exact HH.out) ?_ HK1.out rfl HK2.out HB2.out h0 hcp2 HCP.out;rw[HTOT.out];exact HTB1.out)
theorem wpList_copy_keep {P:Program} {w:World} {ops:Array Oper} {rest:List Oper} {o:Oper} {a:Act} {Q:Exit→Act→World→Prop} (hgd:o.guard=none) (d s:Operand) (dT sT:TypeId)
 (ho:o.op=.call {callee:=.builtin .copy,args:= #[d,s],argTypes:= #[dT,sT]}) (elem:TypeId) (hu:P.underlying dT=some (.slice elem)) (hsz:(P.info? elem).map (·.size)=some 1)
 (g:Nat) (sp:Option Addr) (dLen dCap sLen sCap:Nat) (hd:a.eval d=.slice (some ⟨g,0,none⟩) dLen dCap) (hs:a.eval s=.slice sp sLen sCap)
 (cur:List Value) (t:TypeId) (hg:Blk w g cur t) (cs:List Value) (hn:cs.length=Nat.min sLen dLen)
 (hpos:0<cs.length→∃ad,sp=some ad∧∀j v,cs[j]?=some v→w.cell? (ad.add j)=some v)
 (hfit:cs.length≤cur.length) (h1:∀v∈cs,v.oneCell'=true)
 (h:∀w',Hid (Blk w' g (cs++cur.drop cs.length) t)→Keep (λq=>q=g) w w'→wpList P ops Q rest (a.put o.dst (goInt cs.length)) w') :
 wpList P ops Q (o::rest) a w:=by
 have hsp:∀cs:List Value,splice cur 0 cs=cs++cur.drop cs.length:=λcs=>by simp[splice]
 by_cases h0:cs.length=0
 ·obtain rfl:cs=[]:=List.eq_nil_of_length_eq_zero h0
  refine wpList_copy_nothing hgd d s dT sT ho elem hu hsz (some ⟨g,0,none⟩) sp dLen dCap sLen sCap hd hs (by simpa using hn.symm) ?_
  exact h w (xh (by simpa using hg)) (Keep.refl _ w)
 ·obtain⟨ad,rfl,hsrc⟩:=hpos (by omega)
  refine wpList_copy_own hgd d s dT sT ho elem hu hsz g 0 dLen dCap ad sLen sCap hd hs cur.toArray t hg cs hn hsrc (by simpa using hfit) h1 ?_
  refine h _ (xh ?_) (Keep.setRow w g _)
  rw[←hsp]
  show _=_
  simpa [splice]using setRow_heap w g _ _ t _ hg
theorem PT.put {w w':World} {tb:Nat} {A:Adr} {T:List Pn} {mi mb i g:Nat} {x:Pn} {L:List Int} (h:PT w tb A T mi mb) (hx:T[i]?=some x) (hg:x.bv.ownBlock=some g) (k:Keep (λq=>q=g) w w') (hr:Rw w' x.bv L) (hl:L.length=x.byt.length) :
 PStep w tb A T mi mb ((nds T).set i {x.nd with byt:=L}) A (T.set i (x.setB x.bv L)) w':=by
 obtain⟨_,cur,hb⟩:=(h.tree.byts i x hx).lt hg
 have hnd:=(h.tree.node i x hx).keep k (λe=>hb.ne (h.tree.node i x hx) (by decide) e.symm)
 have hnds:=nds_set T i x x.bv L
 have hxn:(nds T)[i]?=some x.nd:=by unfold nds;rw[List.getElem?_map,hx];rfl
 have hsum:sumB (nds (T.set i (x.setB x.bv L)))=sumB (nds T):=by
  rw[hnds]
  have:=sumB_set (nds T) i x.nd {x.nd with byt:=L} hxn
  simp[Pn.nd]at this⊢
  omega
 refine⟨⟨h.tree.setB i x hx x.bv L hnd hr (λg' hg'=>.inr hg') k ?_,?_,by simpa using h.few,by rw[hsum];exact h.small,h.mi,h.mb⟩,hnds,k.mono ?_,foot_set hx λg' hg'=>.inr hg'⟩
 ·rintro q hq rfl;exact .inr hg
 ·rw[hsum,List.length_set]
  exact h.block.keep k (λe=>hb.ne h.block (by decide) e.symm)
 ·rintro q rfl;exact .inr ⟨i,x,hx,.inr (.inr hg)⟩
theorem PT.put_nil {w w':World} {tb:Nat} {A:Adr} {T:List Pn} {mi mb i:Nat} {x:Pn} (h:PT w tb A T mi mb) (hx:T[i]?=some x) (k:Bel w w'):PStep w tb A T mi mb ((nds T).set i {x.nd with byt:=x.byt}) A T w':=by
 have:(nds T).set i {x.nd with byt:=x.byt}=nds T:=by
  have hxn:(nds T)[i]?=some x.nd:=by unfold nds;rw[List.getElem?_map,hx];rfl
  obtain⟨hi,he⟩:=List.getElem?_eq_some_iff.1 hxn
  rw[show({x.nd with byt:=x.byt}:Nd)=x.nd from rfl,←he]
  exact List.set_getElem_self hi
 rw[this]
 exact PStep.refl h k
theorem PT.copied {w w':World} {tb:Nat} {A:Adr} {T:List Pn} {mi mb i g bc:Nat} {x:Pn} {L:List Int} {cur:List Value} (h:PT w tb A T mi mb) (hx:T[i]?=some x) (hl:L.length≤x.byt.length) (hL:∀y∈L,0≤y∧y≤255)
 (hbv:x.bv=.slice (some ⟨g,0,none⟩) x.byt.length bc) (hB:Blk w g cur 5) (B':Blk w' g (L.map (Value.int .u8)++cur.drop L.length) 5) (k:Keep (λq=>q=g) w w') :
 PStep w tb A T mi mb ((nds T).set i {x.nd with byt:=L++x.byt.drop L.length}) A (T.set i (x.setB x.bv (L++x.byt.drop L.length))) w':=by
 have hlen:(L++x.byt.drop L.length).length=x.byt.length:=by simp;omega
 refine h.put hx (by rw[hbv];rfl) k ⟨λy hy=>?_,.inr ?_⟩ hlen
 ·rcases List.mem_append.1 hy with hy|hy
  ·exact hL y hy
  ·exact(h.tree.byts i x hx).1 y (List.mem_of_mem_drop hy)
 ·have hr:=(h.tree.byts i x hx).2
  rw[hbv]at hr
  rcases hr with⟨hr,_⟩|⟨g',cap',cur',hr,hb,h1,h2,h3,h4⟩
  ·cases hr
  ·cases hr
   have hcc:cur'=cur:=by
    unfold Blk at hb hB
    rw[hb]at hB
    injection hB with hB
    injection hB with hB
    simpa using hB
   subst hcc
   refine⟨g,bc,_,by rw[hbv,hlen],B',by rw[hlen];exact h1,by simp;omega,h3,?_⟩
   rw[hlen,List.map_append,List.take_append,List.take_of_length_le (by simp;omega),List.map_drop,←h4,List.length_map,List.drop_take]
theorem PT.not_foot {w:World} {tb:Nat} {A:Adr} {T:List Pn} {mi mb:Nat} (h:PT w tb A T mi mb) {q:Nat} {c:List Value} {t:TypeId} (hb:Blk w q c t) (h1:t≠185) (h2:t≠183) (h3:t≠5):¬Foot tb A T q:=by
 rintro(e|⟨i,m,hi,e|⟨hd,e⟩|e⟩)
 ·exact hb.ne h.block h1 e
 ·exact hb.ne (h.tree.node i m hi) h2 e
 ·exact hb.ne_map (h.tree.kids i m hi hd) e
 ·obtain⟨_,cur,hc⟩:=(h.tree.byts i m hi).lt e
  exact hb.ne hc h3 rfl
theorem BS.keep_at {w w':World} {S:Nat→Prop} {p:Option Addr} {L:List Int} (h:BS w p L) (k:Keep S w w') (hs:∀b o,p=some ⟨b,o,none⟩→¬S b):BS w' p L:=
 ⟨h.1,λh0=>by
   obtain⟨b,o,h1,h2,h3⟩:=h.2 h0
   exact⟨b,o,h1,Nat.lt_of_lt_of_le h2 k.size,h3.keep k (λ_=>hs b o h1)⟩⟩
theorem BS.cells_at {w:World} {p:Option Addr} {L:List Int} (h:BS w p L) (h0:0<(L.map (Value.int .u8)).length):∃ad,p=some ad∧∀j v,(L.map (Value.int .u8))[j]?=some v→w.cell? (ad.add j)=some v:=by
 obtain⟨b,o,h1,_,h3⟩:=h.2 (by simpa using h0)
 refine⟨_,h1,λj v hj=>?_⟩
 have hjl:=(List.getElem?_eq_some_iff.1 hj).1
 rw[Addr.add_mid,h3.cell j (by simpa using hjl),←hj,List.getElem?_map]
theorem file_dir (kb tb:Nat) (s:ByteArray) (bv:Value) (v:Value) (w:World) (Post:World→World→Prop) (hbv:bv.oneCell'=true)
 (hc:w.cell? ⟨kb,6,none⟩=some (.pointer (some ⟨tb,0,none⟩)))
 (hm:∀W,Bel w W→Calls Tryz.prog 63 #[.pointer (some ⟨tb,0,none⟩),.string s] W λe w'=>e=.returned v∧Post W w') :
 Calls Tryz.prog 33 #[.pointer (some ⟨kb,0,none⟩),.agg #[.string s,.bool true,bv]] w λe w'=>e=.returned v∧∃W,Bel w W∧Post W w':=by
 have HM:=xh hm
 have HC:=xh hc
 clear hm hc
 go_enter Tryz.func33,Tryz.ntmps33
 go_upto_region 1 with fail
 have k1:Bel w (w.alloc (.cells #[.string s,.bool true,bv] 46)):=Bel.start w _
 have B1:=Blk.new w [.string s,.bool true,bv] 46
 generalize w.alloc (.cells #[.string s,.bool true,bv] 46)=w1 at *
 have HK1:=xh k1
 have c0:w1.cell? ⟨w.heap.size,0,none⟩=some (.string s):=B1.cell 0
 have c1:w1.cell? ⟨w.heap.size,1,none⟩=some (.bool true):=B1.cell 1
 have c6:w1.cell? ⟨kb,6,none⟩=some (.pointer (some ⟨tb,0,none⟩)):=cell_bel k1 HC.out
 generalize w.heap.size=g at *
 clear k1 B1
 go_upto_region 2 with fail
 go_still_tail 6,(by kernel_rfl)
 change wpList _ _ _ _ _ w1.drew
 have kd:Bel w1 w1.drew:=Bel.drew (Bel.refl _)
 generalize w1.drew=wd at *
 have HKD:=xh (HK1.out.tr kd)
 clear kd c0 c1 c6
 go_wp2_with (go_at_call 63;((with_reducible refine Calls.mono (HM.out wd HKD.out) ?_);rintro e w2 ⟨rfl,hp⟩))
 go_ret
 exact⟨rfl,wd,HKD.out,hp⟩
structure AtNode (w:World) (tb:Nat) (A:Adr) (T:List Pn) (mi mb:Nat) (r:Nat×List Nd) (L:List Int) (w1:World) (A1:Adr) (T1:List Pn) (i:Nat) (x:Pn):Prop where
 step:PStep w tb A T mi mb (nds T1) A1 T1 w1
 node:T1[i]?=some x
 res:r=putB mb (nds T1) (i+1) L
def FileRes (w:World) (tb:Nat) (A:Adr) (T:List Pn) (mi mb:Nat) (r:Nat×List Nd) (e:Ending) (w':World):Prop:=StepRes w tb A T mi mb r e w'
theorem file_node (kb tb:Nat) (A:Adr) (T:List Pn) (mi mb:Nat) (s nm:ByteArray) (p:Option Addr) (cap:Nat) (L:List Int) (d n:Nat) (w:World) (h:PT w tb A T mi mb) (hc:w.cell? ⟨kb,6,none⟩=some (.pointer (some ⟨tb,0,none⟩))) (hkb:¬Foot tb A T kb)
 (hbs:BS w p L) (hlen:L.length≤200000) (hbsf:∀b o,p=some ⟨b,o,none⟩→¬Foot tb A T b)
 (hf:∀W,Bel w W→Calls Tryz.prog 64 #[.pointer (some ⟨tb,0,none⟩),.string s] W λe w'=>e=.returned (.tuple #[.agg #[A.ptr d,.string nm,A.ptr n],.nilIface])∧Bel W w')
 (r:Nat×List Nd) (hr:if n=0 then d≠0∧isDir (nds T) d=true∧child (nds T) d nm=0∧nameOk nm.data.toList=true∧(47:UInt8)∉nm.data.toList∧r=(if mi≤T.length then(12,nds T)else putB mb (nds T++[⟨d,nm,false,[],emptyB⟩]) (T.length+1) L)else n≤T.length∧r=putB mb (nds T) n L) :
 Calls Tryz.prog 33 #[.pointer (some ⟨kb,0,none⟩),.agg #[.string s,.bool false,.slice p L.length cap]] w λe w'=>FileRes w tb A T mi mb r e w':=by
 have HF:=xh hf
 have HC:=xh hc
 have HPT:=xh h
 have HBS:=xh hbs
 have HBF:=xh hbsf
 have HKB:=xh hkb
 have HR:=xh hr
 obtain⟨pd,hpd⟩:∃v,A.at_ d=v:=⟨_,rfl⟩
 obtain⟨pn,hpn⟩:∃v,A.at_ n=v:=⟨_,rfl⟩
 rw[show A.ptr d=.pointer pd from by rw[←hpd];rfl,show A.ptr n=.pointer pn from by rw[←hpn];rfl]at HF
 have HPD:=xh hpd
 have HPN:=xh hpn
 clear hf hc h hbs hbsf hkb hr hpd hpn
 go_enter Tryz.func33,Tryz.ntmps33
 go_upto_region 1 with fail
 have k1:Bel w (w.alloc (.cells #[.string s,.bool false,.slice p L.length cap] 46)):=Bel.start w _
 have B1:=Blk.new w [.string s,.bool false,.slice p L.length cap] 46
 generalize w.alloc (.cells #[.string s,.bool false,.slice p L.length cap] 46)=w1 at *
 obtain⟨g3,hg3⟩:∃g,w.heap.size=g:=⟨_,rfl⟩
 rw[hg3]at B1⊢
 have HG3:=xh hg3
 have HB1:=xh B1
 have HK1:=xh k1
 have c0:w1.cell? ⟨g3,0,none⟩=some (.string s):=B1.cell 0
 have c1:w1.cell? ⟨g3,1,none⟩=some (.bool false):=B1.cell 1
 have c6:w1.cell? ⟨kb,6,none⟩=some (.pointer (some ⟨tb,0,none⟩)):=cell_bel k1 HC.out
 clear k1 B1 hg3
 go_upto_region 3 with fail
 have hg3l:g3<w1.heap.size:=HB1.out.lt
 have hkl:kb<w1.heap.size:=World.block_lt_of_cell? _ _ c6
 go_cut [5,6] (λs5 s6 wx=>s6=.nilIface∧∃g5,s5=.pointer (some ⟨g5,0,none⟩)∧Hid (Blk wx g5 [.pointer pd,.string nm,.pointer pn] 190)∧Hid (Bel w1 wx))
 case first=>
  go_region_with (first
   | (go_at_call 64;((with_reducible refine Calls.mono (HF.out _ (HK1.out.drew)) ?_);rintro e w2 ⟨rfl,k2⟩;have HK2:Hid (Bel w1 w2):=xh ((Bel.drew (Bel.refl w1)).tr k2);have hu:w1.heap.size≤w2.heap.size:=HK2.out.size;clear k2))
   | (go_at_call 64;((with_reducible refine Calls.mono (HF.out _ ((HK1.out.ac _).drew)) ?_);rintro e w2 ⟨rfl,k2⟩;have B5:=(Blk.new w1 [.pointer none,.string ⟨#[]⟩,.pointer none] 190).bel ((Bel.drew (Bel.refl _)).tr k2);have HK2:Hid (Bel w1 w2):=xh (((Bel.start w1 _).tr (Bel.drew (Bel.refl _))).tr k2);have HB5:=xh B5;have c50:w2.cell? ⟨w1.heap.size,0,none⟩=some (.pointer none):=B5.cell 0;have c51:w2.cell? ⟨w1.heap.size,1,none⟩=some (.string ⟨#[]⟩):=B5.cell 1;have c52:w2.cell? ⟨w1.heap.size,2,none⟩=some (.pointer none):=B5.cell 2;have f5:=B5.frozen;clear k2 B5)))
  all_goals (go_wp2_with fail;go_meet;first
   | exact⟨rfl,_,rfl,xh (Blk.new w2 _ _),xh (HK2.out.ac _)⟩
   | exact⟨rfl,_,rfl,xh (((HB5.out.setCell (o:=0) _).setCell (o:=1) _).setCell (o:=2) _),xh (((HK2.out.store (p:=⟨w1.heap.size,0,none⟩) (Nat.le_refl _) _).store (p:=⟨w1.heap.size,1,none⟩) (Nat.le_refl _) _).store (p:=⟨w1.heap.size,2,none⟩) (Nat.le_refl _) _)⟩)
 case rest=>
  obtain⟨rfl,g5,rfl,B5,k5⟩:=hcut
  have HK5:=xh (HK1.out.tr k5.out)
  have HB5:=xh B5.out
  have HB3:=xh (HB1.out.bel k5.out)
  have HPT5:=xh (HPT.out.bel HK5.out)
  have c52:wc.cell? ⟨g5,2,none⟩=some (.pointer pn):=B5.out.cell 2
  have hg5l:g5<wc.heap.size:=B5.out.lt
  clear c0 c1 c6 hg3l hkl B5 k5
  go_upto_if 34 with fail
  go_cut [6,7] (λs6 s7 wx=>∃nb,s7=.pointer (some ⟨nb,0,none⟩)∧Hid (∃(A1:Adr) (T1:List Pn) (i:Nat) (x1:Pn),AtNode w tb A T mi mb r L wx A1 T1 i x1∧A1.nb (i+1)=nb)∧Hid (Blk wx g3 [.string s,.bool false,.slice p L.length cap] 46))
  case first=>
   by_cases hn:n=0
   ·have hr:=HR.out
    rw[if_pos hn]at hr
    obtain⟨r1,r2,r3,r4,r5,r6⟩:=hr
    have hpn:pn=none:=by rw[←HPN.out];simp[Adr.at_,hn]
    subst hpn
    obtain⟨d,rfl⟩:∃d',d=d'+1:=⟨d-1,by omega⟩
    obtain⟨y,hy,hyd⟩:=isDir_lt r2
    rw[Nat.add_sub_cancel,nds,List.getElem?_map,Option.map_eq_some_iff]at hy
    obtain⟨D,hD,rfl⟩:=hy
    have hpd:A.ptr (d+1)=.pointer pd:=by rw[←HPD.out];rfl
    have c6:wc.cell? ⟨kb,6,none⟩=some (.pointer (some ⟨tb,0,none⟩)):=cell_bel HK5.out HC.out
    have c50:wc.cell? ⟨g5,0,none⟩=some (.pointer pd):=HB5.out.cell 0
    have c51:wc.cell? ⟨g5,1,none⟩=some (.string nm):=HB5.out.cell 1
    by_cases hm:mi≤T.length
    ·have HMK:Hid (∀W,Bel w W→Calls Tryz.prog 65 #[.pointer (some ⟨tb,0,none⟩),.agg #[.pointer pd,.string nm,.pointer none],.bool false] W λe w'=>e=.returned (.tuple #[.pointer none,errN 12])∧Bel W w'):=xh λW hW=>by
      rw[←hpd]
      refine make_full tb A _ (d+1) nm false W (HPT.out.bel hW).block (HPT.out.bel hW).ok ?_
      unfold roomB
      simp only[Bool.and_eq_false_iff,decide_eq_false_iff_not]
      left;omega
     rw[if_pos hm]at r6
     have HR6:=xh r6
     clear r1 r2 r3 r4 r5 r6 hD hyd hpd hm hn
     go_upto_region 8 with fail
     go_region_with (go_at_call 65;((with_reducible refine Calls.mono (HMK.out _ (HK5.out.drew)) ?_);rintro e w6 ⟨rfl,k6⟩;have HK6:=xh ((HK5.out.drew).tr k6);clear k6))
     all_goals go_wp2
     all_goals go_ret
     all_goals exact⟨λ_=>⟨by rw[HR6.out];rfl,Keep.of_bel _ HK6.out⟩,λh=>by rw[HR6.out]at h;cases h⟩
    ·have HMK:Hid (∀W,Bel w W→Calls Tryz.prog 65 #[.pointer (some ⟨tb,0,none⟩),.agg #[.pointer pd,.string nm,.pointer none],.bool false] W λe w'=>∃nb mx,e=.returned (.tuple #[.pointer (some ⟨nb,0,none⟩),.nilIface])∧Made A T ⟨T.length,sumB (nds T),mi,mb⟩ tb (d+1) nm false W nb mx w'):=xh λW hW=>by
      rw[←hpd]
      have hsm:=HPT.out.small
      have hmi:=HPT.out.mi
      refine make_ok tb A T _ d D nm false W (HPT.out.bel hW).block (HPT.out.bel hW).tree (HPT.out.bel hW).ok ?_ hD hyd r3 ⟨r4,r5⟩ (by omega)
      unfold roomB
      simp only[Bool.and_eq_true,decide_eq_true_eq]
      omega
     rw[if_neg hm]at r6
     have H3N:Hid (g3=tb∨g3=A.mb (d+1)→False):=xh (by
      rintro(e|e)
      ·exact HB3.out.ne HPT5.out.block (by decide) e
      ·exact HB3.out.ne_map (HPT5.out.tree.kids d D hD hyd) e)
     have HMS:Hid (∀W nb mx w',Bel w W→Made A T ⟨T.length,sumB (nds T),mi,mb⟩ tb (d+1) nm false W nb mx w'→∃(A1:Adr) (T1:List Pn) (i:Nat) (x1:Pn),AtNode w tb A T mi mb r L w' A1 T1 i x1∧A1.nb (i+1)=nb):=xh λW nb mx w' hW hM=>by
      have hst:=Made.step HPT.out D hD hyd (by omega) (hM.of_bel hW)
      refine⟨_,_,T.length,newPn (d+1) nm false,⟨by rw[hst.nds];exact hst,by simp,?_⟩,by simp[Adr.add]⟩
      rw[hst.nds];exact r6
     clear r1 r2 r3 r4 r5 r6 hD hyd hpd hm hn
     go_upto_region 8 with fail
     go_cut [6,7] (λs6 s7 wx=>s6=.nilIface∧∃nb,s7=.pointer (some ⟨nb,0,none⟩)∧Hid (∃(A1:Adr) (T1:List Pn) (i:Nat) (x1:Pn),AtNode w tb A T mi mb r L wx A1 T1 i x1∧A1.nb (i+1)=nb)∧Hid (Blk wx g3 [.string s,.bool false,.slice p L.length cap] 46))
     case first=>
      go_region_with (go_at_call 65;((with_reducible refine Calls.mono (HMK.out _ (HK5.out.drew)) ?_);rintro e w6 ⟨nb,mx,rfl,hM⟩;have HAT:=xh (HMS.out _ _ _ _ (HK5.out.drew) hM);have HB36:=xh ((HB3.out.bel (Bel.drew (Bel.refl _))).keep hM.keep (λe=>H3N.out e));clear hM))
      all_goals (go_wp2_with fail;go_meet;exact⟨rfl,_,rfl,HAT,HB36⟩)
     case rest=>
     obtain⟨rfl,nb,rfl,HAT,HB36⟩:=hcut
     clear c50 c51 c52 c6
     go_wp2_with fail
     go_meet
     exact⟨nb,rfl,HAT,HB36⟩
   ·have hr:=HR.out
    rw[if_neg hn]at hr
    obtain⟨r1,r2⟩:=hr
    have hpn:pn=some ⟨A.nb n,0,none⟩:=by rw[←HPN.out];simp[Adr.at_,hn]
    obtain⟨nb,hnb⟩:∃b,A.nb n=b:=⟨_,rfl⟩
    rw[hnb]at hpn
    subst hpn
    obtain⟨x,hx⟩:∃x,T[n-1]?=some x:=⟨T[n-1]'(by omega),List.getElem?_eq_getElem (by omega)⟩
    have hat:∃(A1:Adr) (T1:List Pn) (i:Nat) (x1:Pn),AtNode w tb A T mi mb r L wc A1 T1 i x1∧A1.nb (i+1)=nb:=⟨A,T,n-1,x,⟨PStep.refl HPT.out HK5.out,hx,by rw[r2,show n-1+1=n from by omega]⟩,by rw[show n-1+1=n from by omega];exact hnb⟩
    have HAT:=xh hat
    clear hat hx hnb r1 r2 hn
    go_wp2_with fail
    go_meet
    exact⟨nb,rfl,HAT,HB3⟩
  case rest=>
   obtain⟨nb,rfl,HAT,HB36⟩:=hcut
   go_upto_region 11 with fail
   obtain⟨A1,T1,i,x,hat,hnb⟩:=HAT.out
   have hpt:=hat.step.pt
   have hx:=hat.node
   have hres:=hat.res
   have hks:=hat.step.keep
   have hkl:kb<w.heap.size:=World.block_lt_of_cell? _ _ HC.out
   have c6:wc.cell? ⟨kb,6,none⟩=some (.pointer (some ⟨tb,0,none⟩)):=(hks.cell ⟨kb,6,none⟩ hkl HKB.out).trans HC.out
   have hbs:=HBS.out.keep_at hks HBF.out
   have hnode:=hpt.tree.node i x hx
   rw[hnb]at hnode
   have cM:wc.cell? ⟨nb,2,none⟩=some (.map (x.map A1 (i+1))):=hnode.cell 2
   have cB:wc.cell? ⟨nb,3,none⟩=some x.bv:=hnode.cell 3
   have c32:wc.cell? ⟨g3,2,none⟩=some (.slice p L.length cap):=HB36.out.cell 2
   have hxn:(nds T1)[i]?=some x.nd:=by unfold nds;rw[List.getElem?_map,hx];rfl
   have HST:=xh hat.step
   have HPT1:=xh hpt
   have HX:=xh hx
   have HNB:=xh hnb
   have HBS1:=xh hbs
   have hlx:x.byt.length≤sumB (nds T1):=by
    have:=sumB_set (nds T1) i x.nd {x.nd with byt:=[]} hxn
    simp[Pn.nd]at this
    omega
   have hsm:=hpt.small
   have hmb:=hpt.mb
   have hfew:=hpt.few
   unfold putB at hres
   rw[Nat.add_sub_cancel,hxn]at hres
   simp only at hres
   cases hxd:x.dir with
   | true=>
     have HE:Hid (r.1=11):=xh (by rw[hres,show x.nd.dir=true from hxd];rfl)
     have hm:x.map A1 (i+1)=some (A1.mb (i+1)):=by unfold Pn.map;rw[hxd];rfl
     rw[hm]at cM
     have HD:=xh (dir_any nb (some (A1.mb (i+1))) wc cM)
     clear hat hpt hx hres hks hkl c6 hbs hnode cM cB c32 hxn hm hxd hnb
     go_wp2_with (go_at_call 66;((with_reducible refine Calls.mono HD.out ?_);rintro e wx ⟨rfl,h⟩;subst h))
     go_ret
     exact⟨λ_=>⟨by rw[HE.out];rfl,HST.out.keep⟩,λh=>by rw[HE.out]at h;cases h⟩
   | false=>
     rw[if_neg (by rw[show x.nd.dir=false from hxd];simp)]at hres
     have hm:x.map A1 (i+1)=none:=by unfold Pn.map;rw[hxd];rfl
     rw[hm]at cM
     have HD:=xh (dir_any nb none wc cM)
     obtain⟨bp,bc,hbv,hb1,hb2,hb3⟩:=(hpt.tree.byts i x hx).slice
     rw[hbv]at cB
     have HBV:=xh hbv
     have HBN:=xh hb3
     have HRES:=xh hres
     have hw:IntKind.i64.wrap ((L.length:Int)-(x.byt.length:Int))=(L.length:Int)-(x.byt.length:Int):=by rw[IntKind.wrap_i64];omega
     clear hat hpt hx hres hks hkl hbs hnode cM hxn hm hxd hnb hbv hb3
     go_upto_region 13 with(go_at_call 66;((with_reducible refine Calls.mono HD.out ?_);rintro e wx ⟨rfl,h⟩;subst h))
     go_quiet (fail)
     have kd:Bel wc (wc.drewN nq):=bel_drewN (Bel.refl _) nq
     generalize wc.drewN nq=wd at *
     have HKD:=xh kd
     have c6d:wd.cell? ⟨kb,6,none⟩=some (.pointer (some ⟨tb,0,none⟩)):=cell_bel kd c6
     have cBd:wd.cell? ⟨nb,3,none⟩=some (.slice bp x.byt.length bc):=cell_bel kd cB
     have c32d:wd.cell? ⟨g3,2,none⟩=some (.slice p L.length cap):=cell_bel kd c32
     clear c6 cB c32 kd hw
     by_cases hgt:x.byt.length<L.length
     ·have hgp:(0:Int)<(L.length:Int)-(x.byt.length:Int):=by omega
      have hmo:(L.length:Int)-(x.byt.length:Int)=((L.length-x.byt.length:Nat):Int):=by omega
      have HRM:=xh λW hW=>room_bel tb A1 _ 0 ((L.length:Int)-(x.byt.length:Int)) W (HPT1.out.bel hW).block HPT1.out.ok (by omega) (by omega)
      by_cases hroom:mb<sumB (nds T1)+(L.length-x.byt.length)
      ·have HE:Hid (r.1=12):=xh (by rw[HRES.out,if_pos ⟨by omega,hroom⟩])
       have HRB:Hid (roomB ⟨T1.length,sumB (nds T1),mi,mb⟩ 0 ((L.length:Int)-(x.byt.length:Int))=false):=xh (by
        unfold roomB
        simp only[Bool.and_eq_false_iff,decide_eq_false_iff_not]
        right;omega)
       rw[HRB.out]at HRM
       clear hroom hmo
       go_wp2_with (go_at_call 67;((with_reducible refine Calls.mono (HRM.out wd HKD.out) ?_);rintro e we ⟨rfl,k6⟩;have HK6:=xh (HKD.out.tr k6);clear k6))
       go_ret
       exact⟨λ_=>⟨by rw[HE.out];rfl,HST.out.keep.tr (Keep.of_bel _ HK6.out)⟩,λh=>by rw[HE.out]at h;cases h⟩
      ·have HE:Hid (r=(0,(nds T1).set i {x.nd with byt:=L++x.byt.drop L.length})):=xh (by
        rw[HRES.out,if_neg (by rintro⟨h1,h2⟩;exact hroom h2)]
        rfl)
       have HRB:Hid (roomB ⟨T1.length,sumB (nds T1),mi,mb⟩ 0 ((L.length:Int)-(x.byt.length:Int))=true):=xh (by
        unfold roomB
        simp only[Bool.and_eq_true,decide_eq_true_eq]
        constructor<;>omega)
       rw[HRB.out]at HRM
       have HGR:=xh λW hW=>(show Calls Tryz.prog 68 #[.pointer (some ⟨tb,0,none⟩),.pointer (some ⟨A1.nb (i+1),0,none⟩),.int .i64 ((L.length:Int)-(x.byt.length:Int))] W _ from hmo▸grow_any tb A1 T1 mi mb i x (L.length-x.byt.length) W (HPT1.out.bel hW) HX.out (by omega) (by omega))
       rw[HNB.out]at HGR
       have HNE:Hid (0<L.length):=xh (by omega)
       have HLE:Hid (x.byt.length+(L.length-x.byt.length)=L.length):=xh (by omega)
       clear hroom hmo
       go_upto_region 17 with(go_at_call 67;((with_reducible refine Calls.mono (HRM.out wd HKD.out) ?_);rintro e we ⟨rfl,k6⟩;have HK6:=xh (HKD.out.tr k6);have c6e:we.cell? ⟨kb,6,none⟩=some (.pointer (some ⟨tb,0,none⟩)):=cell_bel k6 c6d;clear k6))
       go_upto_region 18 with(go_at_call 68;((with_reducible refine Calls.mono (HGR.out we HK6.out) ?_);rintro e w7 ⟨rfl,hG⟩))
       obtain⟨bv,hst⟩:=hG
       have hB3e:=HB36.out.bel HK6.out
       have hB37:=hB3e.keep hst.keep ((HPT1.out.bel HK6.out).not_foot hB3e (by decide) (by decide) (by decide))
       have hx2:(T1.set i (x.setB bv (x.byt++List.replicate (L.length-x.byt.length) 0)))[i]?=some (x.setB bv (x.byt++List.replicate (L.length-x.byt.length) 0)):=List.getElem?_set_self (List.getElem?_eq_some_iff.1 HX.out).1
       have hnd7:=hst.pt.tree.node i _ hx2
       have hby7:=hst.pt.tree.byts i _ hx2
       have hl2:(x.setB bv (x.byt++List.replicate (L.length-x.byt.length) 0)).byt.length=L.length:=by simp[Pn.setB];exact HLE.out
       obtain⟨g,bc2,cur,hgv,hB,h1,h2,h3,h4⟩:=hby7.2.resolve_left (λh=>by have:=h.2;rw[this]at hl2;have:=HNE.out;simp at hl2;omega)
       rw[hl2]at hgv h1
       have hgv2:bv=.slice (some ⟨g,0,none⟩) L.length bc2:=hgv
       rw[HNB.out]at hnd7
       have c37:w7.cell? ⟨nb,3,none⟩=some (.slice (some ⟨g,0,none⟩) L.length bc2):=by rw[←hgv2];exact hnd7.cell 3
       have c327:w7.cell? ⟨g3,2,none⟩=some (.slice p L.length cap):=hB37.cell 2
       have hsw:BS w7 p L:=by
        refine(HBS1.out.bel HK6.out).keep_at hst.keep λb o hp hf=>?_
        rcases HST.out.foot b hf with h|h
        ·exact HBF.out b o hp h
        ·obtain⟨b',o',h5,h6,_⟩:=HBS.out.2 HNE.out
         rw[hp]at h5
         cases h5
         omega
       have HX2:=xh hx2
       have HS2:Hid (PStep w tb A T mi mb ((nds T1).set i {x.nd with byt:=x.byt++List.replicate (L.length-x.byt.length) 0}) A1 (T1.set i (x.setB bv (x.byt++List.replicate (L.length-x.byt.length) 0))) w7):=xh (HST.out.tr ⟨hst.pt,hst.nds,(Keep.of_bel _ HK6.out).tr hst.keep,λq hq=>by
        rcases hst.foot q hq with h|h
        ·exact .inl h
        ·exact .inr (Nat.le_trans HK6.out.size h)⟩)
       have HL2:=xh hl2
       have HGV:=xh hgv2
       have HP7:=xh hst.pt
       have HCB7:=xh hB
       have HSW7:=xh hsw
       clear hst hB3e hB37 hx2 hnd7 hby7 hl2 hgv hgv2 hB hsw h4 c6e c6d cBd c32d
       go_still_tail 6,(by kernel_rfl)
       change wpList _ _ _ _ _ w7.drew
       have kd2:Bel w7 w7.drew:=Bel.drew (Bel.refl _)
       generalize w7.drew=w8 at *
       have HKE:=xh kd2
       have HP8:=xh (HP7.out.bel kd2)
       have HCB:=xh (HCB7.out.bel kd2)
       have HBSE:=xh (HSW7.out.bel kd2)
       clear kd2 c37 c327
       have HSRC:=xh (λh0=>HBSE.out.cells_at h0)
       have HBY:=xh HBSE.out.1
       (refine wpList_copy_keep rfl (.tmp 79) (.tmp 81) 32 32 rfl 5 Tryz.underlying32 (by kernel_rfl) g p L.length bc2 L.length cap rfl rfl cur 5 HCB.out (L.map (Value.int .u8)) (by rw[List.length_map];exact(Nat.min_self _).symm) HSRC.out (by rw[List.length_map];omega) (by intro v hv;obtain⟨y,_,rfl⟩:=List.mem_map.1 hv;rfl) ?_;intro wf BF KF)
       go_wp2
       go_ret
       refine⟨λh=>absurd (by rw[HE.out]) h,λ_=>⟨rfl,A1,(T1.set i (x.setB bv (x.byt++List.replicate (L.length-x.byt.length) 0))).set i ((x.setB bv (x.byt++List.replicate (L.length-x.byt.length) 0)).setB bv (L++(x.byt++List.replicate (L.length-x.byt.length) 0).drop L.length)),?_⟩⟩
       have hcp:=HP8.out.copied HX2.out (by rw[HL2.out];exact Nat.le_refl _) HBY.out (by rw[HL2.out];exact HGV.out) HCB.out (by have:=BF.out;simpa using this) KF
       have hfin:=HS2.out.tr (show PStep w7 tb A1 _ mi mb _ A1 _ wf from⟨hcp.pt,hcp.nds,(Keep.of_bel _ HKE.out).tr hcp.keep,λq hq=>by
        rcases hcp.foot q hq with h|h
        ·exact .inl h
        ·exact .inr (Nat.le_trans HKE.out.size h)⟩)
       rw[HE.out]
       have e1:(x.byt++List.replicate (L.length-x.byt.length) 0).drop L.length=[]:=List.drop_of_length_le (by simp;omega)
       have e2:x.byt.drop L.length=[]:=List.drop_of_length_le (by omega)
       have e3:(nds (T1.set i (x.setB bv (x.byt++List.replicate (L.length-x.byt.length) 0)))).set i {(x.setB bv (x.byt++List.replicate (L.length-x.byt.length) 0)).nd with byt:=L++(x.setB bv (x.byt++List.replicate (L.length-x.byt.length) 0)).byt.drop L.length}=(nds T1).set i {x.nd with byt:=L++x.byt.drop L.length}:=by
        rw[nds_set,List.set_set,e2,show(x.setB bv (x.byt++List.replicate (L.length-x.byt.length) 0)).byt=x.byt++List.replicate (L.length-x.byt.length) 0 from rfl,e1]
        rfl
       rw[e3]at hfin
       exact hfin
     ·have hng:¬((0:Int)<(L.length:Int)-(x.byt.length:Int)):=by omega
      have HE:Hid (r=(0,(nds T1).set i {x.nd with byt:=L++x.byt.drop L.length})):=xh (by
       rw[HRES.out,if_neg (by rintro⟨h1,h2⟩;simp[Pn.nd]at h2;omega)]
       rfl)
      have hle:L.length≤x.byt.length:=by omega
      clear hgt
      go_upto_region 18 with fail
      have hlp:L.length=0∨∃g,bp=some ⟨g,0,none⟩:=by
       by_cases h0:L.length=0
       ·exact .inl h0
       ·right
        rcases((HPT1.out.tree.byts i x HX.out)).2 with⟨h1,h2⟩|⟨g,c',cur,h1,_⟩
        ·exact absurd (by simpa [h2]using hle:L=[]) (λe=>h0 (by simp[e]))
        ·rw[HBV.out]at h1;cases h1;exact⟨g,rfl⟩
      have HLP:=xh hlp
      clear hlp
      go_still_tail 6,(by kernel_rfl)
      change wpList _ _ _ _ _ wd.drew
      have kd2:Bel wd wd.drew:=Bel.drew (Bel.refl _)
      generalize wd.drew=we at *
      have HKE:=xh (HKD.out.tr kd2)
      have HPTE:=xh (HPT1.out.bel (HKD.out.tr kd2))
      have HBSE:=xh (HBS1.out.bel (HKD.out.tr kd2))
      clear kd2 c6d cBd c32d
      rcases HLP.out with h0|⟨g,rfl⟩
      ·have HL0:Hid (L=[]):=xh (List.eq_nil_of_length_eq_zero h0)
       go_wp2_with (refine wpList_copy_nothing rfl (.tmp 79) (.tmp 81) 32 32 rfl 5 Tryz.underlying32 (by kernel_rfl) bp p x.byt.length bc L.length cap rfl rfl (by rw[h0];simp) ?_)
       go_ret
       refine⟨λh=>absurd (by rw[HE.out]) h,λ_=>⟨rfl,A1,T1,?_⟩⟩
       have:=HST.out.tr (HPT1.out.put_nil HX.out HKE.out)
       rw[HE.out,HL0.out]
       simpa using this
      ·obtain⟨g',cap',cur,hgv,hB,h1,h2,h3,h4⟩:=(HPTE.out.tree.byts i x HX.out).2.resolve_left (λh=>by rw[HBV.out]at h;cases h.1)
       rw[HBV.out]at hgv
       cases hgv
       have HCB:=xh hB
       have HSRC:=xh (λh0=>HBSE.out.cells_at h0)
       have HBY:=xh HBSE.out.1
       clear hB h4
       (refine wpList_copy_keep rfl (.tmp 79) (.tmp 81) 32 32 rfl 5 Tryz.underlying32 (by kernel_rfl) g p x.byt.length bc L.length cap rfl rfl cur 5 HCB.out (L.map (Value.int .u8)) (by rw[List.length_map];exact(Nat.min_eq_left hle).symm) HSRC.out (by rw[List.length_map];omega) (by intro v hv;obtain⟨y,_,rfl⟩:=List.mem_map.1 hv;rfl) ?_;intro wf BF KF)
       go_wp2
       go_ret
       refine⟨λh=>absurd (by rw[HE.out]) h,λ_=>⟨rfl,A1,T1.set i (x.setB x.bv (L++x.byt.drop L.length)),?_⟩⟩
       have hcp:=HPTE.out.copied HX.out hle HBY.out HBV.out HCB.out (by have:=BF.out;simpa using this) KF
       rw[HE.out]
       exact HST.out.tr ⟨hcp.pt,hcp.nds,(Keep.of_bel _ HKE.out).tr hcp.keep,λq hq=>by
        rcases hcp.foot q hq with h|h
        ·exact .inl h
        ·exact .inr (Nat.le_trans HKE.out.size h)⟩
end Go.Proofs.YtjdaddmjpicflaaGreatDoor
