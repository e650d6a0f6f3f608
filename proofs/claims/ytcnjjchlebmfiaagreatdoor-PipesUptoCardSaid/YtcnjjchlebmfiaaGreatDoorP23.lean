/-.-/
import Derived.Test.YtcnjjchlebmfiaaGreatDoorP08
set_option linter.unusedVariables false
set_option linter.unusedSimpArgs false
set_option maxRecDepth 100000
set_option maxHeartbeats 16000000
namespace Go.Proofs.YtcnjjchlebmfiaaGreatDoor
section
open Go.RowKit Go.Maps
inductive Fd|no|jo|rd (i:Nat)|wr (i:Nat)
deriving DecidableEq
def Fd.id:Fd→Int | .no=>0 | .jo=> -1 | .rd i=>(i:Int)+1 | .wr i=>(i:Int)+2
structure dH where
 id:Nat
 byt:List Int
structure St where
 fds:List Fd
 pipes:List dH
 last:Nat
 typed:List Int
 out:List Int
def bW(fds:List Fd)(i:Nat):List Oj:=(if Fd.rd i∈fds then[⟨(i:Int)+1,2,i⟩]else[])++(if Fd.wr i∈fds then[⟨(i:Int)+2,3,i⟩]else[])
def aj(fds:List Fd)(ps:List dH):List Oj:=ps.flatMap λp=>bW fds p.id
structure St.Wf(s:St):Prop where
 fl:s.fds.length=8
 ids:s.pipes.Pairwise λp q=>p.id+3≤q.id
 FN:∀p∈s.pipes,1≤p.id∧p.id+2≤s.last
 use:∀p∈s.pipes,Fd.rd p.id∈s.fds∨Fd.wr p.id∈s.fds
 has:∀f∈s.fds,∀i,f=.rd i∨f=.wr i→∃p∈s.pipes,p.id=i
 b64:∀p∈s.pipes,p.byt.length≤64
theorem Br{fds:List Fd}{x:Int}:0<gT (fds.map Fd.id) x↔∃f∈fds,f.id=x:=by
 unfold gT;rw[List.length_pos_iff_exists_mem];simp only[List.mem_filter,List.mem_map,beq_iff_eq]
 constructor
 ·rintro⟨_,⟨f,hf,rfl⟩,h⟩
  exact⟨f,hf,h⟩
 ·rintro⟨f,hf,h⟩
  exact⟨_,⟨f,hf,rfl⟩,h⟩
theorem lJ{α:Type}{R:α→α→Prop}:∀{l:List α},l.Pairwise R→∀x∈l,∀y∈l,x=y∨R x y∨R y x
 | [],_,x,hx,_,_=>by cases hx
 | a::l,h,x,hx,y,hy=>by
   rw[List.pairwise_cons]at h;rcases List.mem_cons.1 hx with e|hx2
   ·subst e
    rcases List.mem_cons.1 hy with e|hy2
    ·exact .inl e.symm
    ·exact .inr (.inl (h.1 y hy2))
   ·rcases List.mem_cons.1 hy with e|hy2
    ·subst e
     exact .inr (.inr (h.1 x hx2))
    ·exact lJ h.2 x hx2 y hy2
theorem St.Wf.rd{s:St}(h:s.Wf){p:dH}(hp:p∈s.pipes){f:Fd}(hf:f∈s.fds):f.id=(p.id:Int)+1↔f=.rd p.id:=by
 constructor
 ·intro e
  cases f with
  | no=>simp[Fd.id]at e;omega
  | jo=>simp[Fd.id]at e;omega
  | rd j=>simp[Fd.id]at e;rw[show j=p.id from by omega]
  | wr j=>
    obtain⟨q,hq,hj⟩:=h.has _ hf j (.inr rfl);simp[Fd.id]at e
    rcases lJ h.ids p hp q hq with h1|h1|h1
    ·subst h1;omega
    ·omega
    ·omega
 ·rintro rfl
  rfl
theorem St.Wf.wr{s:St}(h:s.Wf){p:dH}(hp:p∈s.pipes){f:Fd}(hf:f∈s.fds):f.id=(p.id:Int)+2↔f=.wr p.id:=by
 constructor
 ·intro e
  cases f with
  | no=>simp[Fd.id]at e;omega
  | jo=>simp[Fd.id]at e;omega
  | wr j=>simp[Fd.id]at e;rw[show j=p.id from by omega]
  | rd j=>
    obtain⟨q,hq,hj⟩:=h.has _ hf j (.inl rfl);simp[Fd.id]at e
    rcases lJ h.ids p hp q hq with h1|h1|h1
    ·subst h1;omega
    ·omega
    ·omega
 ·rintro rfl
  rfl
def St.shut(s:St)(fds:List Fd):St:={s with fds:=fds,pipes:=s.pipes.filter λp=>decide (Fd.rd p.id∈fds∨Fd.wr p.id∈fds)}
theorem JB{s:St}(h:s.Wf){fds:List Fd}(hs:∀f∈fds,f=.no∨f∈s.fds){p:dH}(hp:p∈s.pipes):tH (fds.map Fd.id) (bW s.fds p.id)=(bW fds p.id):=by
 have hl:=h.FN p hp;have h1:(0<gT (fds.map Fd.id) ((p.id:Int)+1))↔Fd.rd p.id∈fds:=by
  rw[Br];constructor
  ·rintro⟨f,hf,he⟩
   rcases hs f hf with rfl|hf2
   ·simp[Fd.id]at he;omega
   ·rw[(h.rd hp hf2).1 he]at hf;exact hf
  ·exact λhf=>⟨_,hf,rfl⟩
 have h2:(0<gT (fds.map Fd.id) ((p.id:Int)+2))↔Fd.wr p.id∈fds:=by
  rw[Br];constructor
  ·rintro⟨f,hf,he⟩
   rcases hs f hf with rfl|hf2
   ·simp[Fd.id]at he;omega
   ·rw[(h.wr hp hf2).1 he]at hf;exact hf
  ·exact λhf=>⟨_,hf,rfl⟩
 have k1:Fd.rd p.id∈fds→Fd.rd p.id∈s.fds:=λhf=>(hs _ hf).resolve_left (by intro e;cases e);have k2:Fd.wr p.id∈fds→Fd.wr p.id∈s.fds:=λhf=>(hs _ hf).resolve_left (by intro e;cases e);unfold tH bW;rw[List.filter_append];congr 1
 ·by_cases c:Fd.rd p.id∈s.fds
  ·rw[if_pos c]
   by_cases d:Fd.rd p.id∈fds
   ·rw[if_pos d];simp[h1.2 d]
   ·rw[if_neg d];simp only[List.filter_cons,List.filter_nil];rw[if_neg (by simpa using λe=>d (h1.1 e))]
  ·rw[if_neg c,if_neg λd=>c (k1 d)];rfl
 ·by_cases c:Fd.wr p.id∈s.fds
  ·rw[if_pos c]
   by_cases d:Fd.wr p.id∈fds
   ·rw[if_pos d];simp[h2.2 d]
   ·rw[if_neg d];simp only[List.filter_cons,List.filter_nil];rw[if_neg (by simpa using λe=>d (h2.1 e))]
  ·rw[if_neg c,if_neg λd=>c (k2 d)];rfl
theorem zA{fds:List Fd}{i:Nat}(h:¬(Fd.rd i∈fds∨Fd.wr i∈fds)):bW fds i=[]:=by
 unfold bW;rw[if_neg λc=>h (.inl c),if_neg λc=>h (.inr c)];rfl
theorem JC{s:St}(h:s.Wf){fds:List Fd}(hs:∀f∈fds,f=.no∨f∈s.fds):tH (fds.map Fd.id) (aj s.fds s.pipes)=aj fds (s.shut fds).pipes:=by
 have key:∀l:List dH,(∀p∈l,p∈s.pipes)→tH (fds.map Fd.id) (aj s.fds l)=aj fds (l.filter λp=>decide (Fd.rd p.id∈fds∨Fd.wr p.id∈fds)):=by
  intro l
  induction l with
  | nil=>intro _;rfl
  | cons p l ih=>
    intro hl;have ih2:=ih λq hq=>hl q (List.mem_cons_of_mem _ hq);have e:=JB h hs (hl p List.mem_cons_self);unfold aj tH at *
    rw[List.flatMap_cons,List.filter_append,ih2,e,List.filter_cons];by_cases c:Fd.rd p.id∈fds∨Fd.wr p.id∈fds
    ·rw[if_pos (by simpa using c),List.flatMap_cons]
    ·rw[if_neg (by simpa using c),zA c,List.nil_append]
 exact key s.pipes λ_ h=>h
theorem Bt(of kind:Int)(l m:List Oj):aP of kind (l++m)=aP of kind l+aP of kind m:=by
 unfold aP;rw[List.filter_append,List.length_append]
theorem Oh(fds:List Fd)(i j:Nat):aP (i:Int) 2 (bW fds j)=(if j=i∧Fd.rd i∈fds then 1 else 0)∧aP (i:Int) 3 (bW fds j)=(if j=i∧Fd.wr i∈fds then 1 else 0):=by
 by_cases e:j=i
 ·subst e
  by_cases c:Fd.rd j∈fds<;>by_cases d:Fd.wr j∈fds<;>simp[bW,aP,c,d]
 ·have e2:((j:Int)==(i:Int))=false:=by simpa using λh:(j:Int)=i=>e (by omega)
  have hn:∀k:Int,aP (i:Int) k (bW fds j)=0:=λk=>by
   unfold aP;rw[List.length_eq_zero_iff,List.filter_eq_nil_iff];intro x hx;have hxo:x.of=j:=by
    simp only[bW,List.mem_append]at hx
    rcases hx with hx|hx
    ·split at hx
     ·simp at hx;subst hx;rfl
     ·cases hx
    ·split at hx
     ·simp at hx;subst hx;rfl
     ·cases hx
   rw[hxo,e2];simp
  rw[hn,hn,if_neg λh=>e h.1,if_neg λh=>e h.1];exact⟨rfl,rfl⟩
theorem rX(fds:List Fd)(i:Nat):∀(ps:List dH),ps.Pairwise (λp q=>p.id+3≤q.id)→aP (i:Int) 2 (aj fds ps)=(if (∃p∈ps,p.id=i)∧Fd.rd i∈fds then 1 else 0)∧aP (i:Int) 3 (aj fds ps)=(if (∃p∈ps,p.id=i)∧Fd.wr i∈fds then 1 else 0)
 | [],_=>by simp[aj,aP]
 | p::ps,h=>by
   rw[List.pairwise_cons]at h;obtain⟨i1,i2⟩:=rX fds i ps h.2;obtain⟨o1,o2⟩:=Oh fds i p.id;have e:aj fds (p::ps)=bW fds p.id++aj fds ps:=by unfold aj;rw[List.flatMap_cons]
   rw[e,Bt,Bt,i1,i2,o1,o2];by_cases c:p.id=i
   ·have hno:¬∃q∈ps,q.id=i:=λ⟨q,hq,hi⟩=>by have:=h.1 q hq;omega
    have hyes:∃q∈p::ps,q.id=i:=⟨p,List.mem_cons_self,c⟩;simp only[c,hno,hyes,true_and,false_and,if_false,Nat.add_zero,and_self]
   ·have hiff:(∃q∈p::ps,q.id=i)↔∃q∈ps,q.id=i:=by
     constructor
     ·rintro⟨q,hq,hi⟩
      rcases List.mem_cons.1 hq with rfl|hq
      ·exact absurd hi c
      ·exact⟨q,hq,hi⟩
     ·rintro⟨q,hq,hi⟩
      exact⟨q,List.mem_cons_of_mem _ hq,hi⟩
    simp only[c,false_and,if_false,Nat.zero_add,hiff,and_self]
def dR(bv:Nat→Value)(ps:List dH):List Pp:=ps.map λp=>⟨p.id,bv p.id,p.byt⟩
theorem Oi{s:St}(h:s.Wf){fds:List Fd}(bv:Nat→Value):Kz (aj fds (s.shut fds).pipes) (dR bv s.pipes)=dR bv (s.shut fds).pipes:=by
 have hp2:(s.shut fds).pipes.Pairwise λp q=>p.id+3≤q.id:=h.ids.sublist List.filter_sublist;have hd:∀p∈s.pipes,(decide (0<aP (p.id:Int) 2 (aj fds (s.shut fds).pipes)+aP (p.id:Int) 3 (aj fds (s.shut fds).pipes)))=decide (Fd.rd p.id∈fds∨Fd.wr p.id∈fds):=λp hp=>by
  obtain⟨e1,e2⟩:=rX fds p.id _ hp2;rw[e1,e2];apply decide_eq_decide.2
  constructor
  ·intro hpos
   by_cases c:Fd.rd p.id∈fds
   ·exact .inl c
   ·by_cases d:Fd.wr p.id∈fds
    ·exact .inr d
    ·rw[if_neg λx=>c x.2,if_neg λx=>d x.2]at hpos
     omega
  ·intro hc
   have hm:∃q∈(s.shut fds).pipes,q.id=p.id:=⟨p,List.mem_filter.2 ⟨hp,by simpa using hc⟩,rfl⟩;rcases hc with c|c
   ·rw[if_pos ⟨hm,c⟩];omega
   ·rw[if_pos (c:=_∧Fd.wr p.id∈fds) ⟨hm,c⟩];omega
 unfold Kz dR;rw[List.filter_map];congr 1
 show s.pipes.filter _=s.pipes.filter _
 apply List.filter_congr
 intro p hp;exact hd p hp
theorem St.Wf.shut{s:St}(h:s.Wf){fds:List Fd}(hl:fds.length=8)(hs:∀f∈fds,f=.no∨f∈s.fds):(s.shut fds).Wf where
 fl:=hl
 ids:=h.ids.sublist List.filter_sublist
 FN p hp:=h.FN p (List.mem_filter.1 hp).1
 use p hp:=of_decide_eq_true (List.mem_filter.1 hp).2
 has f hf i hi:=by
  have hf2:=(hs f hf).resolve_left (by rintro rfl;rcases hi with e|e<;>cases e);obtain⟨p,hp,he⟩:=h.has f hf2 i hi;refine⟨p,List.mem_filter.2 ⟨hp,?_⟩,he⟩;subst he;rcases hi with rfl|rfl
  ·exact decide_eq_true (Or.inl hf)
  ·exact decide_eq_true (Or.inr hf)
 b64 p hp:=h.b64 p (List.mem_filter.1 hp).1
def St.piped(s:St)(r m:Nat):St:={s with fds:=(s.fds.set r (.rd (s.last+1))).set m (.wr (s.last+1)),pipes:=s.pipes++[⟨s.last+1,[]⟩],last:=s.last+3}
theorem St.Wf.YC{s:St}(h:s.Wf):Fd.rd (s.last+1)∉s.fds∧Fd.wr (s.last+1)∉s.fds:=
 ⟨λhf=>by obtain⟨p,hp,e⟩:=h.has _ hf _ (.inl rfl);have:=h.FN p hp;omega,λhf=>by obtain⟨p,hp,e⟩:=h.has _ hf _ (.inr rfl);have:=h.FN p hp;omega⟩
theorem fC{l:List Fd}{r:Nat}{x y:Fd}(h:l[r]?=some .no)(hx:x≠ .no):x∈l.set r y↔x∈l∨x=y:=by
 have hlt:=(bZ h).1;constructor
 ·intro hm
  rcases List.mem_or_eq_of_mem_set hm with h1|h1
  ·exact .inl h1
  ·exact .inr h1
 ·rintro(hm|rfl)
  ·obtain⟨i,hi⟩:=List.mem_iff_getElem?.1 hm
   by_cases e:r=i
   ·subst e
    rw[h]at hi;exact absurd (Option.some.inj hi).symm hx
   ·exact List.mem_iff_getElem?.2 ⟨i,by rw[List.getElem?_set_ne e];exact hi⟩
  ·exact List.mem_iff_getElem?.2 ⟨r,by rw[List.getElem?_set_self hlt]⟩
theorem iQ{fds fds':List Fd}:∀(ps:List dH),(∀p∈ps,(Fd.rd p.id∈fds'↔Fd.rd p.id∈fds)∧(Fd.wr p.id∈fds'↔Fd.wr p.id∈fds))→aj fds' ps=aj fds ps
 | [],_=>rfl
 | p::ps,h=>by
   have ih:=iQ ps λq hq=>h q (List.mem_cons_of_mem _ hq);obtain⟨h1,h2⟩:=h p List.mem_cons_self;unfold aj at *
   rw[List.flatMap_cons,List.flatMap_cons,ih];congr 1
   unfold bW;simp only[h1,h2]
theorem zB{s:St}(h:s.Wf){r m:Nat}(hr:s.fds[r]?=some .no)(hm:s.fds[m]?=some .no)(hrm:r≠m):aj (s.piped r m).fds (s.piped r m).pipes=aj s.fds s.pipes++[⟨((s.last+2:Nat):Int),2,((s.last+1:Nat):Int)⟩,⟨((s.last+3:Nat):Int),3,((s.last+1:Nat):Int)⟩]:=by
 have hm2:(s.fds.set r (.rd (s.last+1)))[m]?=some .no:=by rw[List.getElem?_set_ne hrm];exact hm
 have key:∀x:Fd,x≠ .no→(x∈(s.piped r m).fds↔x∈s.fds∨x=.rd (s.last+1)∨x=.wr (s.last+1)):=λx hx=>by
  show x∈(s.fds.set r _).set m _↔_
  rw[fC hm2 hx,fC hr hx,or_assoc]
 have e:aj (s.piped r m).fds (s.piped r m).pipes=aj (s.piped r m).fds s.pipes++bW (s.piped r m).fds (s.last+1):=by
  show aj _ (s.pipes++[⟨s.last+1,[]⟩])=_
  unfold aj;rw[List.flatMap_append];simp
 rw[e];congr 1
 ·refine iQ _ λp hp=>?_
  have:=h.FN p hp;constructor
  ·rw[key _ (by intro e;cases e)]
   constructor
   ·rintro(h1|h1|h1)
    ·exact h1
    ·injection h1 with h1;omega
    ·cases h1
   ·exact .inl
  ·rw[key _ (by intro e;cases e)]
   constructor
   ·rintro(h1|h1|h1)
    ·exact h1
    ·cases h1
    ·injection h1 with h1;omega
   ·exact .inl
 ·unfold bW
  rw[if_pos ((key _ (by intro e;cases e)).2 (.inr (.inl rfl))),if_pos ((key _ (by intro e;cases e)).2 (.inr (.inr rfl)))];simp only[List.cons_append,List.nil_append]
  rfl
theorem St.Wf.piped{s:St}(h:s.Wf){r m:Nat}(hr:s.fds[r]?=some .no)(hm:s.fds[m]?=some .no)(hrm:r≠m):(s.piped r m).Wf:=by
 have hm2:(s.fds.set r (.rd (s.last+1)))[m]?=some .no:=by rw[List.getElem?_set_ne hrm];exact hm
 have key:∀x:Fd,x≠ .no→(x∈(s.piped r m).fds↔x∈s.fds∨x=.rd (s.last+1)∨x=.wr (s.last+1)):=λx hx=>by
  show x∈(s.fds.set r _).set m _↔_
  rw[fC hm2 hx,fC hr hx,or_assoc]
 have hp:(s.piped r m).pipes=s.pipes++[⟨s.last+1,[]⟩]:=rfl;refine⟨by show((s.fds.set r _).set m _).length=8;simp[h.fl],?_,λp bA=>?_,λp bA=>?_,λf hf i hi=>?_,λp bA=>?_⟩
 ·rw[hp,List.pairwise_append]
  refine⟨h.ids,List.pairwise_singleton _ _,λp bA q hq=>?_⟩;rw[List.mem_singleton.1 hq];have:=h.FN p bA;show p.id+3≤s.last+1
  omega
 ·rw[hp]at bA
  show 1≤p.id∧p.id+2≤s.last+3
  rcases List.mem_append.1 bA with h1|h1
  ·have:=h.FN p h1;omega
  ·rw[List.mem_singleton.1 h1];exact⟨by show 1≤s.last+1;omega,by show s.last+1+2≤s.last+3;omega⟩
 ·rw[hp]at bA
  rcases List.mem_append.1 bA with h1|h1
  ·exact(h.use p h1).imp (λh2=>(key _ (by intro e;cases e)).2 (.inl h2)) λh2=>(key _ (by intro e;cases e)).2 (.inl h2)
  ·rw[List.mem_singleton.1 h1]
   exact .inl ((key _ (by intro e;cases e)).2 (.inr (.inl rfl)))
 ·rw[hp]
  have hne:f≠ .no:=by rintro rfl;rcases hi with e|e<;>cases e
  rcases(key f hne).1 hf with h1|h1|h1
  ·obtain⟨p,bA,he⟩:=h.has f h1 i hi
   exact⟨p,List.mem_append_left _ bA,he⟩
  ·subst h1
   rcases hi with e|e
   ·injection e with e;exact⟨_,List.mem_append_right _ (List.mem_singleton.2 rfl),e⟩
   ·cases e
  ·subst h1
   rcases hi with e|e
   ·cases e
   ·injection e with e;exact⟨_,List.mem_append_right _ (List.mem_singleton.2 rfl),e⟩
 ·rw[hp]at bA
  rcases List.mem_append.1 bA with h1|h1
  ·exact h.b64 p h1
  ·rw[List.mem_singleton.1 h1];exact Nat.zero_le _
def ku(ps:List dH)(i:Nat)(b:List Int):List dH:=ps.map λp=>if p.id=i then⟨p.id,b⟩else p
def St.put(s:St)(i:Nat)(b:List Int):St:={s with pipes:=ku s.pipes i b}
theorem kV(i:Nat)(b:List Int)(p:dH):(if p.id=i then(⟨p.id,b⟩:dH)else p).id=p.id:=by split<;>rfl
theorem FO(fds:List Fd)(i:Nat)(b:List Int)(ps:List dH):aj fds (ku ps i b)=aj fds ps:=by
 unfold aj ku;rw[List.flatMap_map];congr 1
 funext p
 rw[kV]
theorem St.Wf.put{s:St}(h:s.Wf)(i:Nat){b:List Int}(hb:b.length≤64):(s.put i b).Wf:=by
 have hm:∀q∈(s.put i b).pipes,∃p∈s.pipes,q=(if p.id=i then⟨p.id,b⟩else p):=λq hq=>by
  obtain⟨p,hp,e⟩:=List.mem_map.1 hq;exact⟨p,hp,e.symm⟩
 refine⟨h.fl,?_,λq hq=>?_,λq hq=>?_,λf hf j hj=>?_,λq hq=>?_⟩
 ·show(ku s.pipes i b).Pairwise _
  unfold ku;rw[List.pairwise_map];exact h.ids.imp λ{p q} hpq=>by rw[kV,kV];exact hpq
 ·obtain⟨p,hp,rfl⟩:=hm q hq
  rw[kV];exact h.FN p hp
 ·obtain⟨p,hp,rfl⟩:=hm q hq
  rw[kV];exact h.use p hp
 ·obtain⟨p,hp,e⟩:=h.has f hf j hj
  exact⟨_,List.mem_map.2 ⟨p,hp,rfl⟩,by rw[kV];exact e⟩
 ·obtain⟨p,hp,rfl⟩:=hm q hq
  split
  ·exact hb
  ·exact h.b64 p hp
theorem St.Wf.dup{s:St}(h:s.Wf){r:Nat}{f:Fd}(hr:s.fds[r]?=some .no)(hf:f∈s.fds):({s with fds:=s.fds.set r f}:St).Wf:=by
 have key:∀x:Fd,x≠ .no→(x∈s.fds.set r f↔x∈s.fds):=λx hx=>by
  rw[fC hr hx];exact⟨λh=>h.elim id λe=>e▸hf,.inl⟩
 refine⟨by show(s.fds.set r f).length=8;simp[h.fl],h.ids,h.FN,λp hp=>(h.use p hp).imp (λh2=>(key _ (by intro e;cases e)).2 h2) λh2=>(key _ (by intro e;cases e)).2 h2,λx hx i hi=>?_,h.b64⟩;have hne:x≠ .no:=by rintro rfl;rcases hi with e|e<;>cases e
 exact h.has x ((key x hne).1 hx) i hi
theorem FP{s:St}{r:Nat}{f:Fd}(hr:s.fds[r]?=some .no)(hf:f∈s.fds):aj (s.fds.set r f) s.pipes=aj s.fds s.pipes:=by
 have key:∀x:Fd,x≠ .no→(x∈s.fds.set r f↔x∈s.fds):=λx hx=>by
  rw[fC hr hx];exact⟨λh=>h.elim id λe=>e▸hf,.inl⟩
 exact iQ _ λp _=>⟨key _ (by intro e;cases e),key _ (by intro e;cases e)⟩
def xH(fds:List Fd)(f r:Nat):Prop:=f≤r∧fds[r]?=some .no∧∀i,f≤i→i<r→fds[i]?≠some .no
def Ol(fds:List Fd)(f:Nat):Prop:=∀i,f≤i→fds[i]?≠some .no
theorem Df(fds:List Fd)(f:Nat):(∃r,xH fds f r)∨Ol fds f:=by
 by_cases h:∃r,f≤r∧fds[r]?=some .no
 ·obtain⟨r,hr⟩:=h
  have key:∀n r,r-f≤n→f≤r→fds[r]?=some .no→∃r,xH fds f r:=by
   intro n
   induction n with
   | zero=>
     intro r h1 h2 h3;exact⟨r,h2,h3,λi h4 h5=>by omega⟩
   | succ n ih=>
     intro r h1 h2 h3;by_cases h6:∃i,f≤i∧i<r∧fds[i]?=some .no
     ·obtain⟨i,h7,h8,h9⟩:=h6
      exact ih i (by omega) h7 h9
     ·exact⟨r,h2,h3,λi h4 h5 h10=>h6 ⟨i,h4,h5,h10⟩⟩
  exact .inl (key _ r (bH _) hr.1 hr.2)
 ·exact .inr λi h1 h2=>h ⟨i,h1,h2⟩
def Ls(fds:List Fd)(a:Int):Prop:=a<0∨8≤a∨∃n:Nat,a=n∧n<8∧fds[n]?=some .no
inductive vN (lim:Nat) (s:St):Int→Int→Int→List Int→Int→Int→Int→List Int→St→Prop
 | call (k a b:Int) (d:List Int):k<0∨62≤k→vN lim s k a b d 0 0 23 [] s
 | bad (k a b:Int) (d:List Int):(k=9∨k=10∨k=11∨k=13)→Ls s.fds a→vN lim s k a b d 0 0 13 [] s
 | close (n:Nat) (b:Int) (d:List Int) (f:Fd):s.fds[n]?=some f→f≠ .no→vN lim s 9 n b d 0 0 0 [] (s.shut (s.fds.set n .no))
 | rwr (n i:Nat) (b:Int) (d:List Int):s.fds[n]?=some (.wr i)→vN lim s 10 n b d 0 0 13 [] s
 | YF (n:Nat) (b:Int) (d:List Int) (f:Fd):s.fds[n]?=some f→f≠ .no→(∀i,f≠ .wr i)→b<0∨4096<b→vN lim s 10 n b d 0 0 6 [] s
 | RI (n:Nat) (b:Int) (d:List Int):s.fds[n]?=some .jo→0<b→b≤4096→s.typed=[]→vN lim s 10 n b d 0 0 16 [] s
 | U7 (n k m:Nat) (d:List Int):s.fds[n]?=some .jo→k≤4096→0<s.typed.length∨k=0→m=min k s.typed.length→vN lim s 10 n k d m 0 0 (s.typed.take m) {s with typed:=s.typed.drop m}
 | YG (n:Nat) (b:Int) (d:List Int) (p:dH):p∈s.pipes→s.fds[n]?=some (.rd p.id)→0<b→b≤4096→p.byt=[]→Fd.wr p.id∈s.fds→vN lim s 10 n b d 0 0 16 [] s
 | rrd (n k m:Nat) (d:List Int) (p:dH):p∈s.pipes→s.fds[n]?=some (.rd p.id)→k≤4096→0<p.byt.length∨Fd.wr p.id∉s.fds∨k=0→m=min k p.byt.length→vN lim s 10 n k d m 0 0 (p.byt.take m) (s.put p.id (p.byt.drop m))
 | wrd (n i:Nat) (b:Int) (d:List Int):s.fds[n]?=some (.rd i)→vN lim s 11 n b d 0 0 13 [] s
 | YH (n:Nat) (b:Int) (d:List Int) (f:Fd):s.fds[n]?=some f→f≠ .no→(∀i,f≠ .rd i)→4096<d.length→vN lim s 11 n b d 0 0 6 [] s
 | U8 (n:Nat) (b:Int) (d:List Int):s.fds[n]?=some .jo→d.length≤4096→vN lim s 11 n b d d.length 0 0 [] {s with out:=s.out++d}
 | RJ (n:Nat) (b:Int) (d:List Int) (p:dH):p∈s.pipes→s.fds[n]?=some (.wr p.id)→d.length≤4096→Fd.rd p.id∉s.fds→vN lim s 11 n b d 0 0 15 [] s
 | JE (n:Nat) (b:Int) (d:List Int) (p:dH):p∈s.pipes→s.fds[n]?=some (.wr p.id)→d.length≤4096→Fd.rd p.id∈s.fds→p.byt.length=64→0<d.length→vN lim s 11 n b d 0 0 16 [] s
 | wok (n m:Nat) (b:Int) (d:List Int) (p:dH):p∈s.pipes→s.fds[n]?=some (.wr p.id)→d.length≤4096→Fd.rd p.id∈s.fds→p.byt.length<64∨d.length=0→m=min (64-p.byt.length) d.length→vN lim s 11 n b d m 0 0 [] (s.put p.id (p.byt++d.take m))
 | RL (n:Nat) (b:Int) (d:List Int) (f:Fd):s.fds[n]?=some f→f≠ .no→Ol s.fds 0→vN lim s 13 n b d 0 0 14 [] s
 | dup (n r:Nat) (b:Int) (d:List Int) (f:Fd):s.fds[n]?=some f→f≠ .no→xH s.fds 0 r→vN lim s 13 n b d r 0 0 [] {s with fds:=s.fds.set r f}
 | pno (a b:Int) (d:List Int):Ol s.fds 0→vN lim s 14 a b d 0 0 14 [] s
 | YI (r:Nat) (a b:Int) (d:List Int):xH s.fds 0 r→Ol s.fds (r+1)→vN lim s 14 a b d 0 0 14 [] s
 | RN (r m:Nat) (a b:Int) (d:List Int):xH s.fds 0 r→xH s.fds (r+1) m→lim<(aj s.fds s.pipes).length+2→vN lim s 14 a b d 0 0 12 [] s
 | pipe (r m:Nat) (a b:Int) (d:List Int):xH s.fds 0 r→xH s.fds (r+1) m→(aj s.fds s.pipes).length+2≤lim→vN lim s 14 a b d r m 0 [] (s.piped r m)
theorem RO{s:St}(h:s.Wf)(a:Int):Ls s.fds a∨∃n:Nat,a=n∧∃f,s.fds[n]?=some f∧f≠ .no∧(f=.jo∨∃p∈s.pipes,f=.rd p.id∨f=.wr p.id):=by
 by_cases h0:a<0
 ·exact .inl (.inl h0)
 by_cases h8:8≤a
 ·exact .inl (.inr (.inl h8))
 obtain⟨n,rfl⟩:∃n:Nat,a=n:=⟨a.toNat,by omega⟩;have hn:n<s.fds.length:=by rw[h.fl];omega
 have hf:=bP hn;obtain⟨f,hfe⟩:=e_x (s.fds[n]);rw[hfe]at hf;have hm:f∈s.fds:=hfe▸List.getElem_mem hn;cases f with
 | no=>exact .inl (.inr (.inr ⟨n,rfl,by omega,hf⟩))
 | jo=>exact .inr ⟨n,rfl,_,hf,by simp,.inl rfl⟩
 | rd i=>
   obtain⟨p,hp,rfl⟩:=h.has _ hm i (.inl rfl);exact .inr ⟨n,rfl,_,hf,by simp,.inr ⟨p,hp,.inl rfl⟩⟩
 | wr i=>
   obtain⟨p,hp,rfl⟩:=h.has _ hm i (.inr rfl);exact .inr ⟨n,rfl,_,hf,by simp,.inr ⟨p,hp,.inr rfl⟩⟩
theorem Om(lim:Nat){s:St}(h:s.Wf)(k a b:Int)(d:List Int)(hk:k<0∨62≤k∨k=9∨k=10∨k=11∨k=13∨k=14):∃N M f L s',vN lim s k a b d N M f L s':=by
 by_cases hk0:k<0∨62≤k
 ·exact⟨_,_,_,_,_,.call k a b d hk0⟩
 by_cases adB:k=14
 ·subst adB
  rcases Df s.fds 0 with⟨r,hr⟩|hno
  ·rcases Df s.fds (r+1)with⟨m,hm⟩|hno
   ·by_cases hl:lim<(aj s.fds s.pipes).length+2
    ·exact⟨_,_,_,_,_,.RN r m a b d hr hm hl⟩
    ·exact⟨_,_,_,_,_,.pipe r m a b d hr hm (by omega)⟩
   ·exact⟨_,_,_,_,_,.YI r a b d hr hno⟩
  ·exact⟨_,_,_,_,_,.pno a b d hno⟩
 rcases RO h a with hb|⟨n,rfl,f,hf,hne,hc⟩
 ·exact⟨_,_,_,_,_,.bad k a b d (by omega) hb⟩
 by_cases hk9:k=9
 ·subst hk9
  exact⟨_,_,_,_,_,.close n b d f hf hne⟩
 by_cases adC:k=13
 ·subst adC
  rcases Df s.fds 0 with⟨r,hr⟩|hno
  ·exact⟨_,_,_,_,_,.dup n r b d f hf hne hr⟩
  ·exact⟨_,_,_,_,_,.RL n b d f hf hne hno⟩
 by_cases hk10:k=10
 ·subst hk10
  by_cases hw:∃i,f=.wr i
  ·obtain⟨i,rfl⟩:=hw
   exact⟨_,_,_,_,_,.rwr n i b d hf⟩
  have hw:∀i,f≠ .wr i:=λi e=>hw ⟨i,e⟩;by_cases hb:b<0∨4096<b
  ·exact⟨_,_,_,_,_,.YF n b d f hf hne hw hb⟩
  obtain⟨m,rfl⟩:∃m:Nat,b=m:=⟨b.toNat,by omega⟩;rcases hc with rfl|⟨p,hp,rfl|rfl⟩
  ·by_cases h0:0<s.typed.length∨m=0
   ·exact⟨_,_,_,_,_,.U7 n m _ d hf (by omega) h0 rfl⟩
   ·exact⟨_,_,_,_,_,.RI n m d hf (by omega) (by omega) (List.eq_nil_of_length_eq_zero (by omega))⟩
  ·by_cases h0:0<p.byt.length∨Fd.wr p.id∉s.fds∨m=0
   ·exact⟨_,_,_,_,_,.rrd n m _ d p hp hf (by omega) h0 rfl⟩
   ·simp only[not_or,Classical.not_not]at h0
    exact⟨_,_,_,_,_,.YG n m d p hp hf (by omega) (by omega) (List.eq_nil_of_length_eq_zero (by omega)) h0.2.1⟩
  ·exact absurd rfl (hw _)
 by_cases QC:k=11
 ·subst QC
  by_cases hw:∃i,f=.rd i
  ·obtain⟨i,rfl⟩:=hw
   exact⟨_,_,_,_,_,.wrd n i b d hf⟩
  have hw:∀i,f≠ .rd i:=λi e=>hw ⟨i,e⟩;by_cases hb:4096<d.length
  ·exact⟨_,_,_,_,_,.YH n b d f hf hne hw hb⟩
  rcases hc with rfl|⟨p,hp,rfl|rfl⟩
  ·exact⟨_,_,_,_,_,.U8 n b d hf (by omega)⟩
  ·exact absurd rfl (hw _)
  ·by_cases hr:Fd.rd p.id∈s.fds
   ·by_cases h0:p.byt.length<64∨d.length=0
    ·exact⟨_,_,_,_,_,.wok n _ b d p hp hf (by omega) hr h0 rfl⟩
    ·have:=h.b64 p hp
     exact⟨_,_,_,_,_,.JE n b d p hp hf (by omega) hr (by omega) (by omega)⟩
   ·exact⟨_,_,_,_,_,.RJ n b d p hp hf (by omega) hr⟩
 omega
theorem St.Wf.FR{s:St}(h:s.Wf)(t:List Int):({s with typed:=t}:St).Wf:=⟨h.fl,h.ids,h.FN,h.use,h.has,h.b64⟩
theorem St.Wf.RP{s:St}(h:s.Wf)(t:List Int):({s with out:=t}:St).Wf:=⟨h.fl,h.ids,h.FN,h.use,h.has,h.b64⟩
theorem vN.wf{lim:Nat}{s s':St}{k a b:Int}{d:List Int}{N M f:Int}{L:List Int}(o:vN lim s k a b d N M f L s')(h:s.Wf):s'.Wf∧s'.typed.length+s'.out.length≤s.typed.length+s.out.length+d.length∧s'.last≤s.last+3∧L.length≤4096∧f≠ -2∧(f≠0→L=[]):=by
 cases o with
 | close n b d f hf hne=>
   refine⟨h.shut (by simp[h.fl]) λx hx=>?_,by simp[St.shut],by simp[St.shut],by simp,by simp,λ_=>rfl⟩;rcases List.mem_or_eq_of_mem_set hx with h1|h1
   ·exact .inr h1
   ·exact .inl h1
 | U7 n k m d hf hk h0 hm=>exact⟨h.FR _,by simp;omega,by simp,by simp;omega,by simp,λh=>absurd rfl h⟩
 | rrd n k m d p hp hf hk h0 hm=>exact⟨h.put _ (by have:=h.b64 p hp;simp;omega),by simp[St.put],by simp[St.put],by simp;omega,by simp,λh=>absurd rfl h⟩
 | U8 n b d hf hd=>exact⟨h.RP _,by simp;omega,by simp,by simp,by simp,λ_=>rfl⟩
 | wok n m b d p hp hf hd hr h0 hm=>exact⟨h.put _ (by have:=h.b64 p hp;simp;omega),by simp[St.put],by simp[St.put],by simp,by simp,λ_=>rfl⟩
 | dup n r b d f hf hne hr=>exact⟨h.dup hr.2.1 (List.mem_of_getElem? hf),by simp,by simp,by simp,by simp,λ_=>rfl⟩
 | pipe r m a b d hr hm hl=>exact⟨h.piped hr.2.1 hm.2.1 (by have:=hm.1;omega),by simp[St.piped],by simp[St.piped],by simp,by simp,λ_=>rfl⟩
 | _=>exact⟨h,by omega,by omega,by simp,by simp,λ_=>rfl⟩
theorem je{s:St}(hwf:s.Wf):(aj s.fds s.pipes).length≤1000:=by
 have h1:∀(fds:List Fd) (ps:List dH),ps.Pairwise (λp q=>p.id+3≤q.id)→(aj fds ps).length≤fds.length:=by
  intro fds ps
  induction ps generalizing fds with
  | nil=>intro _;exact Nat.zero_le _
  | cons p ps ih=>
    intro h;rw[List.pairwise_cons]at h;have e1:aj fds (p::ps)=bW fds p.id++aj fds ps:=by unfold aj;rw[List.flatMap_cons]
    have e2:aj fds ps=aj ((fds.filter λf=>decide (f≠ .rd p.id)).filter λf=>decide (f≠ .wr p.id)) ps:=(iQ ps λq hq=>by
     have:=h.1 q hq;have n:q.id≠p.id:=by omega
     simp[n]).symm
    rw[e1,List.length_append,e2];have h2:=ih ((fds.filter λf=>decide (f≠ .rd p.id)).filter λf=>decide (f≠ .wr p.id)) h.2;have h3:(bW fds p.id).length+((fds.filter λf=>decide (f≠ .rd p.id)).filter λf=>decide (f≠ .wr p.id)).length≤fds.length:=by
     have c1:∀(l:List Fd) (x:Fd),(l.filter λf=>decide (f≠x)).length+l.count x=l.length:=λl x=>by
      induction l with
      | nil=>rfl
      | cons a l ihl=>
        rw[List.filter_cons,List.count_cons];by_cases e:a=x
        ·subst e;rw[if_neg (by simp),if_pos (by simp),List.length_cons];omega
        ·rw[if_pos (by simpa using e),if_neg (by simpa using e),List.length_cons,List.length_cons];omega
     have d1:=c1 fds (.rd p.id);have d2:=c1 (fds.filter λf=>decide (f≠ .rd p.id)) (.wr p.id);have d3:(fds.filter λf=>decide (f≠ .rd p.id)).count (.wr p.id)=fds.count (.wr p.id):=by rw[List.count_filter];simp
     have d4:(bW fds p.id).length≤fds.count (.rd p.id)+fds.count (.wr p.id):=by
      unfold bW;rw[List.length_append];have c2:∀x,x∈fds→0<fds.count x:=λx hx=>List.count_pos_iff.2 hx;by_cases h1:Fd.rd p.id∈fds<;>by_cases h2:Fd.wr p.id∈fds
      ·have:=c2 _ h1;have:=c2 _ h2;simp[h1,h2];omega
      ·have:=c2 _ h1;simp[h1,h2];omega
      ·have:=c2 _ h2;simp[h1,h2];omega
      ·simp[h1,h2]
     omega
    omega
 have:=h1 s.fds s.pipes hwf.ids;rw[hwf.fl]at this;omega
theorem qM{s:St}(hwf:s.Wf):s.pipes.length≤1000:=by
 have h1:s.pipes.length≤(aj s.fds s.pipes).length:=by
  have:∀ps:List dH,(∀p∈ps,Fd.rd p.id∈s.fds∨Fd.wr p.id∈s.fds)→ps.length≤(aj s.fds ps).length:=λps=>by
   induction ps with
   | nil=>intro _;exact Nat.zero_le _
   | cons p ps ih=>
     intro h;have h2:=ih λq hq=>h q (List.mem_cons_of_mem _ hq);have e1:aj s.fds (p::ps)=bW s.fds p.id++aj s.fds ps:=by unfold aj;rw[List.flatMap_cons]
     rw[e1,List.length_append];have h3:1≤(bW s.fds p.id).length:=by
      unfold bW;rw[List.length_append];rcases h p List.mem_cons_self with h4|h4
      ·rw[if_pos h4];simp
      ·rw[if_pos (c:=Fd.wr p.id∈s.fds) h4];simp
     simp
     omega
  exact this s.pipes hwf.use
 have:=je hwf;omega
end
end Go.Proofs.YtcnjjchlebmfiaaGreatDoor
