/-.-/
import Derived.Test.YtcnjjchlebmfiaaGreatDoorP25
set_option linter.all false
set_option maxRecDepth 100000
set_option maxHeartbeats 16000000
namespace Go.Proofs.YtcnjjchlebmfiaaGreatDoor
section
open Go.Proofs.Tryz Go.RowKit Go.MapKept Go.Maps
theorem Dl(fds:List Fd)(ps:List dH):(aj fds (ps.filter λp=>decide (Fd.rd p.id∈fds∨Fd.wr p.id∈fds)))=aj fds ps:=by
 induction ps with
 | nil=>rfl
 | cons p ps ih=>
   have e1:aj fds (p::ps)=bW fds p.id++aj fds ps:=by unfold aj;rw[List.flatMap_cons]
   rw[List.filter_cons,e1];by_cases c:Fd.rd p.id∈fds∨Fd.wr p.id∈fds
   ·rw[if_pos (by simpa using c)]
    have e2:∀l,aj fds (p::l)=bW fds p.id++aj fds l:=λl=>by unfold aj;rw[List.flatMap_cons]
    rw[e2,ih]
   ·rw[if_neg (by simpa using c),ih,zA c,List.nil_append]
theorem Bv{s:St}(h:s.Wf){fds:List Fd}{p:dH}(hp:p∈s.pipes){x:Fd}(hx:x=.rd p.id∨x=.wr p.id)(hin:x∈s.fds)(hno:x∉fds)(hoth:∀y,y≠ .no→y≠x→(y∈fds↔y∈s.fds)):(aj fds s.pipes).length+1=(aj s.fds s.pipes).length:=by
 obtain⟨l1,l2,e⟩:=List.append_of_mem hp;have Oo:=h.ids;rw[e,List.pairwise_append,List.pairwise_cons]at Oo;have hne1:∀q∈l1,q.id≠p.id:=λq hq=>by have:=Oo.2.2 q hq p List.mem_cons_self;omega
 have hne2:∀q∈l2,q.id≠p.id:=λq hq=>by have:=Oo.2.1.1 q hq;omega
 have key:∀q:dH,q.id≠p.id→(Fd.rd q.id∈fds↔Fd.rd q.id∈s.fds)∧(Fd.wr q.id∈fds↔Fd.wr q.id∈s.fds):=λq hq=>by
  constructor
  ·refine hoth _ (by simp) ?_
   rcases hx with rfl|rfl
   ·simpa using hq
   ·simp
  ·refine hoth _ (by simp) ?_
   rcases hx with rfl|rfl
   ·simp
   ·simpa using hq
 have a:∀(f:List Fd) (l m:List dH),aj f (l++p::m)=aj f l++(bW f p.id++aj f m):=λf l m=>by unfold aj;rw[List.flatMap_append,List.flatMap_cons]
 rw[e,a,a,iQ l1 λq hq=>key q (hne1 q hq),iQ l2 λq hq=>key q (hne2 q hq)];simp only[List.length_append]
 have:(bW fds p.id).length+1=(bW s.fds p.id).length:=by
  unfold bW;rcases hx with rfl|rfl
  ·have h2:=hoth (.wr p.id) (by simp) (by simp)
   simp only[hno,hin,h2,if_true,if_false,List.nil_append,List.length_append]
   simp
   omega
  ·have h2:=hoth (.rd p.id) (by simp) (by simp)
   simp only[hno,hin,h2,if_true,if_false,List.append_nil,List.length_append]
   simp
 omega
section
variable {E:PE} {s:St} {D:PD} {w:World} (hx:ek E) (hp:PP E w s D) (hwf:s.Wf)
include hx hp hwf
theorem Dm:(aj s.fds s.pipes).length≤1000:=je hwf
theorem si(n:Nat)(f:Fd)(hf:s.fds[n]?=some f)(hne:f≠ .no):∃t,∃a:Nat,(f.ob E.cb D.re D.we).v=.iface t (.pointer (a,0))∧
 Calls prog 81 #[E.kb,E.pb,.int .i64 n] w λe w'=>e=.returned (.tuple #[])∧∃D',zD E s D (s.shut (s.fds.set n .no)) w.heap.size w D' w':=by
 have V6:n<8:=by rw[←hwf.fl];exact(bZ hf).1
 have hfm:=List.mem_of_getElem? hf;have hat:=qf (E:=E) hx.rl D.re D.we (fds:=s.fds) (i:=n);rw[hf]at hat;have hsub:∀x∈s.fds.set n .no,x=.no∨x∈s.fds:=λx hxm=>(List.mem_or_eq_of_mem_set hxm).elim .inr .inl;have hps:∀p∈(s.shut (s.fds.set n .no)).pipes,p∈s.pipes:=λp bA=>(List.mem_filter.1 bA).1;have hset:=qL hx.rl D.re D.we s.fds n .no;have hcnt:∀x,x≠ .no→x≠f→(s.fds.set n .no).count x=s.fds.count x:=λx h1 h2=>by have:=wW hf h1;rw[if_neg λe=>h2 e.symm]at this;exact this
 have hcf:(s.fds.set n .no).count f+1=s.fds.count f:=by have:=wW hf hne;rw[if_pos rfl]at this;exact this
 have hmem:∀x,x≠ .no→x≠f→(x∈s.fds.set n .no↔x∈s.fds):=λx h1 h2=>by rw[←List.count_pos_iff,←List.count_pos_iff,hcnt x h1 h2]
 have h8:=λx=>Sa hx hp hwf x;have hbs:Blk (w.setCell (E.pb,23+n) .nilIface) E.pb (fM E D.re D.we (s.fds.set n .no)) 120:=by
  have:=hp.hb.setCell (o:=23+n) .nilIface;rw[show Value.nilIface=((Fd.no).ob E.cb D.re D.we).v from rfl,hset]at this;exact this
 have iC:Keep (λq=>q=E.pb) w (w.setCell (E.pb,23+n) .nilIface):=Keep.setCell w E.pb (23+n) _;have hol:=Dm hx hp hwf;have Dk:=Dl (s.fds.set n .no) s.pipes;have hsame:(∀p∈s.pipes,(Fd.rd p.id∈s.fds.set n .no↔Fd.rd p.id∈s.fds)∧(Fd.wr p.id∈s.fds.set n .no↔Fd.wr p.id∈s.fds))→aj (s.fds.set n .no) s.pipes=aj s.fds s.pipes:=λh=>iQ _ h;cases f with
 | no=>exact absurd rfl hne
 | jo=>
   refine⟨_,_,rfl,vk E.kb E.ob E.pb n E.cb _ _ w _ hp.c7 hp.kp hp.hb V6 hat ?_⟩;have hc1:=hp.hc.keep iC (hp.hc.ne hp.hb (by decide));rw[←hcf]at hc1;have hend:∀w',Blk w' E.cb [.int .i64 (((s.fds.set n .no).count Fd.jo:Nat):Int),D.tv,D.uv] 151→Keep (λq=>q=E.cb) (w.setCell (E.pb,23+n) .nilIface) w'→∃D',zD E s D (s.shut (s.fds.set n .no)) w.heap.size w D' w':=λw' h1 k1=>by
    have k:=(iC.mono (S':=λq=>q=E.pb∨q=E.cb) λ_ h=>.inl h).tr (k1.mono λ_ h=>.inr h);have hS:∀q,(q=E.pb∨q=E.cb)→q=E.pb∨q=E.ob∨q=E.cb∨∃p∈s.pipes,q=D.ch p.id∨(Fd.rd p.id∈s.fds∧q=D.re p.id)∨(Fd.wr p.id∈s.fds∧q=D.we p.id):=λq hq=>hq.elim .inl λe=>.inr (.inr (.inl e));have hn:∀q cs t,Blk w q cs t→t≠120→t≠151→¬(q=E.pb∨q=E.cb):=λq cs t hb n1 n2 hq=>hq.elim (hb.ne hp.hb n1) (hb.ne hp.hc n2);refine⟨D,hp.wX k _ _ hps hS (hbs.keep k1 (hp.hb.ne hp.hc (by decide))) ?_ h1 (λp bA=>?_) hsub,PP.jV k hS,PP.jU hps hsub,λq hq=>hp.lt hq⟩
    ·rw[Dk,hsame λp _=>⟨hmem _ (by simp) (by simp),hmem _ (by simp) (by simp)⟩];exact hp.ho.keep k (hn _ _ _ hp.ho (by decide) (by decide))
    ·have hpi:=hp.nG p (hps p bA)
     exact hpi.same k (hn _ _ _ hpi.c (by decide) (by decide)) (λhf=>hn _ _ _ (hpi.r hf) (by decide) (by decide)) (λhf=>hn _ _ _ (hpi.u hf) (by decide) (by decide)) (λg hg=>by obtain⟨_,hb⟩:=hpi.b.blk hg;exact hn _ _ _ hb (by decide) (by decide)) (hcnt _ (by simp) (by simp)) (hcnt _ (by simp) (by simp))
   by_cases h0:0<(s.fds.set n .no).count Fd.jo
   ·refine(Qo _ E.cb ((s.fds.set n .no).count Fd.jo) _ _ _ hc1 (by have:=h8 Fd.jo;omega) h0).mono ?_
    rintro e w' ⟨rfl,h1,k1⟩;exact⟨rfl,hend w' h1 k1⟩
   ·have e0:(s.fds.set n .no).count Fd.jo=0:=by omega
    rw[e0]at hc1 hend;refine(MK _ E.cb _ _ _ hc1).mono ?_;rintro e w' ⟨rfl,h1,k1⟩;exact⟨rfl,hend w' h1 k1⟩
 | rd i=>
   obtain⟨p0,hp0,rfl⟩:=hwf.has _ hfm i (.inl rfl);have rZ:=hp.nG p0 hp0;have hr0:=rZ.r hfm;refine⟨_,_,rfl,vk E.kb E.ob E.pb n (D.re p0.id) _ _ w _ hp.c7 hp.kp hp.hb V6 hat ?_⟩;have hc1:=hr0.keep iC (hr0.ne hp.hb (by decide));rw[←hcf]at hc1;by_cases h0:0<(s.fds.set n .no).count (Fd.rd p0.id)
   ·refine(Uq _ (D.re p0.id) ((s.fds.set n .no).count (Fd.rd p0.id)) _ _ _ hc1 (by have:=h8 (Fd.rd p0.id);omega) h0).mono ?_
    rintro e w' ⟨rfl,h1,k1⟩;have hin:Fd.rd p0.id∈s.fds.set n .no:=List.count_pos_iff.1 h0;have k:=(iC.mono (S':=λq=>q=E.pb∨q=D.re p0.id) λ_ h=>.inl h).tr (k1.mono λ_ h=>.inr h);have hS:∀q,(q=E.pb∨q=D.re p0.id)→q=E.pb∨q=E.ob∨q=E.cb∨∃p∈s.pipes,q=D.ch p.id∨(Fd.rd p.id∈s.fds∧q=D.re p.id)∨(Fd.wr p.id∈s.fds∧q=D.we p.id):=λq hq=>hq.elim .inl λe=>.inr (.inr (.inr ⟨p0,hp0,.inr (.inl ⟨hfm,e⟩)⟩));have hn:∀q cs t,Blk w q cs t→t≠120→t≠446→¬(q=E.pb∨q=D.re p0.id):=λq cs t hb n1 n2 hq=>hq.elim (hb.ne hp.hb n1) (hb.ne hr0 n2);have hmm:∀x,x≠ .no→(x∈s.fds.set n .no↔x∈s.fds):=λx hx0=>by
     by_cases e:x=.rd p0.id
     ·subst e;exact⟨λ_=>hfm,λ_=>hin⟩
     ·exact hmem x hx0 e
    refine⟨rfl,D,hp.wX k _ _ hps hS (hbs.keep k1 (hp.hb.ne hr0 (by decide))) ?_ ?_ (λp bA=>?_) hsub,PP.jV k hS,PP.jU hps hsub,λq hq=>hp.lt hq⟩
    ·rw[Dk,hsame λp _=>⟨hmm _ (by simp),hmm _ (by simp)⟩];exact hp.ho.keep k (hn _ _ _ hp.ho (by decide) (by decide))
    ·rw[hcnt _ (by simp) (by simp)];exact hp.hc.keep k (hn _ _ _ hp.hc (by decide) (by decide))
    ·have hpi:=hp.nG p (hps p bA)
     by_cases e:p.id=p0.id
     ·refine⟨by simp only[hmm (Fd.rd p.id) (by simp),hmm (Fd.wr p.id) (by simp)];exact hpi.c.keep k (hn _ _ _ hpi.c (by decide) (by decide)),hpi.b.keep k (λg hg=>by obtain⟨_,hb⟩:=hpi.b.blk hg;exact hn _ _ _ hb (by decide) (by decide)),λ_=>by rw[e];exact h1,λh=>?_⟩
      rw[hcnt _ (by simp) (by simp)];exact(hpi.u ((hmm _ (by simp)).1 h)).keep k (hn _ _ _ (hpi.u ((hmm _ (by simp)).1 h)) (by decide) (by decide))
     ·exact hpi.same k (hn _ _ _ hpi.c (by decide) (by decide)) (λh=>λhq=>hq.elim ((hpi.r h).ne hp.hb (by decide)) λe2=>e (hp.JH (hps p bA) hp0 h hfm e2)) (λhf=>hn _ _ _ (hpi.u hf) (by decide) (by decide)) (λg hg=>by obtain⟨_,hb⟩:=hpi.b.blk hg;exact hn _ _ _ hb (by decide) (by decide)) (hcnt _ (by simp) (by simpa using e)) (hcnt _ (by simp) (by simp))
   ·have e0:(s.fds.set n .no).count (Fd.rd p0.id)=0:=by omega
    have hout:Fd.rd p0.id∉s.fds.set n .no:=List.count_eq_zero.1 e0;rw[e0]at hc1;have hdr:=Bv hwf hp0 (.inl rfl) hfm hout hmem;have hch:=rZ.c;rw[if_pos hfm]at hch;refine(Qp E.ob (D.re p0.id) (D.ch p0.id) (aj s.fds s.pipes).length 1 E.l.c.toNat 0 _ _ _ (by have:=hp.ho.keep iC (hp.ho.ne hp.hb (by decide));rw[show((E.l.c.toNat:Nat):Int)=E.l.c from Int.toNat_of_nonneg hx.lc.1];exact this) hc1 (hch.keep iC (hch.ne hp.hb (by decide))) rfl (by omega) (by omega) (by omega)).mono ?_;rintro e w' ⟨rfl,h1,h2,h3,k1⟩;rw[show((E.l.c.toNat:Nat):Int)=E.l.c from Int.toNat_of_nonneg hx.lc.1]at h2;have k:=(iC.mono (S':=λq=>q=E.pb∨q=D.re p0.id∨q=E.ob∨q=D.ch p0.id) λ_ h=>.inl h).tr (k1.mono λ_ h=>.inr h);have hS:∀q,(q=E.pb∨q=D.re p0.id∨q=E.ob∨q=D.ch p0.id)→q=E.pb∨q=E.ob∨q=E.cb∨∃p∈s.pipes,q=D.ch p.id∨(Fd.rd p.id∈s.fds∧q=D.re p.id)∨(Fd.wr p.id∈s.fds∧q=D.we p.id):=λq hq=>by
     rcases hq with e|e|e|e
     ·exact .inl e
     ·exact .inr (.inr (.inr ⟨p0,hp0,.inr (.inl ⟨hfm,e⟩)⟩))
     ·exact .inr (.inl e)
     ·exact .inr (.inr (.inr ⟨p0,hp0,.inl e⟩))
    have hn:∀q cs t,Blk w q cs t→t≠120→t≠446→t≠222→t≠475→¬(q=E.pb∨q=D.re p0.id∨q=E.ob∨q=D.ch p0.id):=λq cs t hb n1 n2 n3 n4 hq=>by
     rcases hq with e|e|e|e
     ·exact hb.ne hp.hb n1 e
     ·exact hb.ne hr0 n2 e
     ·exact hb.ne hp.ho n3 e
     ·exact hb.ne rZ.c n4 e
    refine⟨rfl,D,hp.wX k _ _ hps hS (hbs.keep k1 λhq=>?_) ?_ ?_ (λp bA=>?_) hsub,PP.jV k hS,PP.jU hps hsub,λq hq=>hp.lt hq⟩
    ·rcases hq with e|e|e
     ·exact hp.hb.ne hr0 (by decide) e
     ·exact hp.hb.ne hp.ho (by decide) e
     ·exact hp.hb.ne rZ.c (by decide) e
    ·rw[Dk,show(aj (s.fds.set n .no) s.pipes).length=(aj s.fds s.pipes).length-1 from by omega];exact h2
    ·rw[hcnt _ (by simp) (by simp)];exact hp.hc.keep k (hn _ _ _ hp.hc (by decide) (by decide) (by decide) (by decide))
    ·have hpi:=hp.nG p (hps p bA)
     by_cases e:p.id=p0.id
     ·have hpe:p=p0:=by
       rcases lJ hwf.ids p (hps p bA) p0 hp0 with h|h|h
       ·exact h
       ·omega
       ·omega
      subst hpe;refine⟨?_,hpi.b.keep k (λg hg=>by obtain⟨_,hb⟩:=hpi.b.blk hg;exact hn _ _ _ hb (by decide) (by decide) (by decide) (by decide)),λh=>absurd h hout,λh=>?_⟩
      ·rw[if_neg hout]
       simp only[hmem (Fd.wr p.id) (by simp) (by simp)]
       exact h3
      ·rw[hcnt _ (by simp) (by simp)]
       exact(hpi.u ((hmem _ (by simp) (by simp)).1 h)).keep k (hn _ _ _ (hpi.u ((hmem _ (by simp) (by simp)).1 h)) (by decide) (by decide) (by decide) (by decide))
     ·refine hpi.same k (λhq=>?_) (λh hq=>?_) (λhf=>hn _ _ _ (hpi.u hf) (by decide) (by decide) (by decide) (by decide)) (λg hg=>by obtain⟨_,hb⟩:=hpi.b.blk hg;exact hn _ _ _ hb (by decide) (by decide) (by decide) (by decide)) (hcnt _ (by simp) (by simpa using e)) (hcnt _ (by simp) (by simp))
      ·rcases hq with e2|e2|e2|e2
       ·exact hpi.c.ne hp.hb (by decide) e2
       ·exact hpi.c.ne hr0 (by decide) e2
       ·exact hpi.c.ne hp.ho (by decide) e2
       ·exact e (hp.inj p (hps p bA) p0 hp0 e2)
      ·rcases hq with e2|e2|e2|e2
       ·exact(hpi.r h).ne hp.hb (by decide) e2
       ·exact e (hp.JH (hps p bA) hp0 h hfm e2)
       ·exact(hpi.r h).ne hp.ho (by decide) e2
       ·exact(hpi.r h).ne rZ.c (by decide) e2
 | wr i=>
   obtain⟨p0,hp0,rfl⟩:=hwf.has _ hfm i (.inr rfl);have rZ:=hp.nG p0 hp0;have hr0:=rZ.u hfm;refine⟨_,_,rfl,vk E.kb E.ob E.pb n (D.we p0.id) _ _ w _ hp.c7 hp.kp hp.hb V6 hat ?_⟩;have hc1:=hr0.keep iC (hr0.ne hp.hb (by decide));rw[←hcf]at hc1;by_cases h0:0<(s.fds.set n .no).count (Fd.wr p0.id)
   ·refine(Ur _ (D.we p0.id) ((s.fds.set n .no).count (Fd.wr p0.id)) _ _ _ hc1 (by have:=h8 (Fd.wr p0.id);omega) h0).mono ?_
    rintro e w' ⟨rfl,h1,k1⟩;have hin:Fd.wr p0.id∈s.fds.set n .no:=List.count_pos_iff.1 h0;have k:=(iC.mono (S':=λq=>q=E.pb∨q=D.we p0.id) λ_ h=>.inl h).tr (k1.mono λ_ h=>.inr h);have hS:∀q,(q=E.pb∨q=D.we p0.id)→q=E.pb∨q=E.ob∨q=E.cb∨∃p∈s.pipes,q=D.ch p.id∨(Fd.rd p.id∈s.fds∧q=D.re p.id)∨(Fd.wr p.id∈s.fds∧q=D.we p.id):=λq hq=>hq.elim .inl λe=>.inr (.inr (.inr ⟨p0,hp0,.inr (.inr ⟨hfm,e⟩)⟩));have hn:∀q cs t,Blk w q cs t→t≠120→t≠448→¬(q=E.pb∨q=D.we p0.id):=λq cs t hb n1 n2 hq=>hq.elim (hb.ne hp.hb n1) (hb.ne hr0 n2);have hmm:∀x,x≠ .no→(x∈s.fds.set n .no↔x∈s.fds):=λx hx0=>by
     by_cases e:x=.wr p0.id
     ·subst e;exact⟨λ_=>hfm,λ_=>hin⟩
     ·exact hmem x hx0 e
    refine⟨rfl,D,hp.wX k _ _ hps hS (hbs.keep k1 (hp.hb.ne hr0 (by decide))) ?_ ?_ (λp bA=>?_) hsub,PP.jV k hS,PP.jU hps hsub,λq hq=>hp.lt hq⟩
    ·rw[Dk,hsame λp _=>⟨hmm _ (by simp),hmm _ (by simp)⟩];exact hp.ho.keep k (hn _ _ _ hp.ho (by decide) (by decide))
    ·rw[hcnt _ (by simp) (by simp)];exact hp.hc.keep k (hn _ _ _ hp.hc (by decide) (by decide))
    ·have hpi:=hp.nG p (hps p bA)
     by_cases e:p.id=p0.id
     ·refine⟨by simp only[hmm (Fd.rd p.id) (by simp),hmm (Fd.wr p.id) (by simp)];exact hpi.c.keep k (hn _ _ _ hpi.c (by decide) (by decide)),hpi.b.keep k (λg hg=>by obtain⟨_,hb⟩:=hpi.b.blk hg;exact hn _ _ _ hb (by decide) (by decide)),λh=>?_,λ_=>by rw[e];exact h1⟩
      rw[hcnt _ (by simp) (by simp)];exact(hpi.r ((hmm _ (by simp)).1 h)).keep k (hn _ _ _ (hpi.r ((hmm _ (by simp)).1 h)) (by decide) (by decide))
     ·exact hpi.same k (hn _ _ _ hpi.c (by decide) (by decide)) (λhf=>hn _ _ _ (hpi.r hf) (by decide) (by decide)) (λh=>λhq=>hq.elim ((hpi.u h).ne hp.hb (by decide)) λe2=>e (hp.JI (hps p bA) hp0 h hfm e2)) (λg hg=>by obtain⟨_,hb⟩:=hpi.b.blk hg;exact hn _ _ _ hb (by decide) (by decide)) (hcnt _ (by simp) (by simp)) (hcnt _ (by simp) (by simpa using e))
   ·have e0:(s.fds.set n .no).count (Fd.wr p0.id)=0:=by omega
    have hout:Fd.wr p0.id∉s.fds.set n .no:=List.count_eq_zero.1 e0;rw[e0]at hc1;have hdr:=Bv hwf hp0 (.inr rfl) hfm hout hmem;have hch:=rZ.c;rw[if_pos (c:=Fd.wr p0.id∈s.fds) hfm]at hch;refine(Qq E.ob (D.we p0.id) (D.ch p0.id) (aj s.fds s.pipes).length 1 E.l.c.toNat 0 _ _ _ (by have:=hp.ho.keep iC (hp.ho.ne hp.hb (by decide));rw[show((E.l.c.toNat:Nat):Int)=E.l.c from Int.toNat_of_nonneg hx.lc.1];exact this) hc1 (hch.keep iC (hch.ne hp.hb (by decide))) rfl (by omega) (by omega) (by omega)).mono ?_;rintro e w' ⟨rfl,h1,h2,h3,k1⟩;rw[show((E.l.c.toNat:Nat):Int)=E.l.c from Int.toNat_of_nonneg hx.lc.1]at h2;have k:=(iC.mono (S':=λq=>q=E.pb∨q=D.we p0.id∨q=E.ob∨q=D.ch p0.id) λ_ h=>.inl h).tr (k1.mono λ_ h=>.inr h);have hS:∀q,(q=E.pb∨q=D.we p0.id∨q=E.ob∨q=D.ch p0.id)→q=E.pb∨q=E.ob∨q=E.cb∨∃p∈s.pipes,q=D.ch p.id∨(Fd.rd p.id∈s.fds∧q=D.re p.id)∨(Fd.wr p.id∈s.fds∧q=D.we p.id):=λq hq=>by
     rcases hq with e|e|e|e
     ·exact .inl e
     ·exact .inr (.inr (.inr ⟨p0,hp0,.inr (.inr ⟨hfm,e⟩)⟩))
     ·exact .inr (.inl e)
     ·exact .inr (.inr (.inr ⟨p0,hp0,.inl e⟩))
    have hn:∀q cs t,Blk w q cs t→t≠120→t≠448→t≠222→t≠475→¬(q=E.pb∨q=D.we p0.id∨q=E.ob∨q=D.ch p0.id):=λq cs t hb n1 n2 n3 n4 hq=>by
     rcases hq with e|e|e|e
     ·exact hb.ne hp.hb n1 e
     ·exact hb.ne hr0 n2 e
     ·exact hb.ne hp.ho n3 e
     ·exact hb.ne rZ.c n4 e
    refine⟨rfl,D,hp.wX k _ _ hps hS (hbs.keep k1 λhq=>?_) ?_ ?_ (λp bA=>?_) hsub,PP.jV k hS,PP.jU hps hsub,λq hq=>hp.lt hq⟩
    ·rcases hq with e|e|e
     ·exact hp.hb.ne hr0 (by decide) e
     ·exact hp.hb.ne hp.ho (by decide) e
     ·exact hp.hb.ne rZ.c (by decide) e
    ·rw[Dk,show(aj (s.fds.set n .no) s.pipes).length=(aj s.fds s.pipes).length-1 from by omega];exact h2
    ·rw[hcnt _ (by simp) (by simp)];exact hp.hc.keep k (hn _ _ _ hp.hc (by decide) (by decide) (by decide) (by decide))
    ·have hpi:=hp.nG p (hps p bA)
     by_cases e:p.id=p0.id
     ·have hpe:p=p0:=by
       rcases lJ hwf.ids p (hps p bA) p0 hp0 with h|h|h
       ·exact h
       ·omega
       ·omega
      subst hpe;refine⟨?_,hpi.b.keep k (λg hg=>by obtain⟨_,hb⟩:=hpi.b.blk hg;exact hn _ _ _ hb (by decide) (by decide) (by decide) (by decide)),λh=>?_,λh=>absurd h hout⟩
      ·rw[if_neg (c:=Fd.wr p.id∈s.fds.set n .no) hout]
       simp only[hmem (Fd.rd p.id) (by simp) (by simp)]
       exact h3
      ·rw[hcnt _ (by simp) (by simp)]
       exact(hpi.r ((hmem _ (by simp) (by simp)).1 h)).keep k (hn _ _ _ (hpi.r ((hmem _ (by simp) (by simp)).1 h)) (by decide) (by decide) (by decide) (by decide))
     ·refine hpi.same k (λhq=>?_) (λhf=>hn _ _ _ (hpi.r hf) (by decide) (by decide) (by decide) (by decide)) (λh hq=>?_) (λg hg=>by obtain⟨_,hb⟩:=hpi.b.blk hg;exact hn _ _ _ hb (by decide) (by decide) (by decide) (by decide)) (hcnt _ (by simp) (by simp)) (hcnt _ (by simp) (by simpa using e))
      ·rcases hq with e2|e2|e2|e2
       ·exact hpi.c.ne hp.hb (by decide) e2
       ·exact hpi.c.ne hr0 (by decide) e2
       ·exact hpi.c.ne hp.ho (by decide) e2
       ·exact e (hp.inj p (hps p bA) p0 hp0 e2)
      ·rcases hq with e2|e2|e2|e2
       ·exact(hpi.u h).ne hp.hb (by decide) e2
       ·exact e (hp.JI (hps p bA) hp0 h hfm e2)
       ·exact(hpi.u h).ne hp.ho (by decide) e2
       ·exact(hpi.u h).ne rZ.c (by decide) e2
end
def FX(f:Nat→Nat)(i v:Nat):Nat→Nat:=λj=>if j=i then v else f j
theorem gF(f:Nat→Nat)(i v:Nat):FX f i v i=v:=if_pos rfl
theorem iM(f:Nat→Nat){i j:Nat}(v:Nat)(h:j≠i):FX f i v j=f j:=if_neg h
section
variable {E:PE} {s:St} {D:PD} {w:World} (hx:ek E) (hp:PP E w s D) (hk:eH E w) (hwf:s.Wf)
include hx hp hwf
theorem nQ{r from_:Nat}(h:xH s.fds from_ r):∀W,Bel w W→Calls prog 303 #[E.pb,.int .i64 from_] W (Z.b (.tuple #[.int .i64 r,.nilIface]) W):=λW hW=>by
 have tK:r<8:=by rw[←hwf.fl];exact(bZ h.2.1).1
 refine Us E.pb from_ r (fM E D.re D.we s.fds) (s.fds.map (Fd.ob E.cb D.re D.we)) W (hp.hb.bel hW) (λi x hi=>?_) (by rw[fJ,hwf.fl]) h.1 tK (λi x h1 h2 hi=>?_) (λx hi=>?_)
 ·rw[qf hx.rl]
  rw[dA]at hi;obtain⟨f,hf,rfl⟩:=Option.map_eq_some_iff.1 hi;rw[hf];rfl
 ·rw[dA]at hi
  obtain⟨f,hf,rfl⟩:=Option.map_eq_some_iff.1 hi;have:=h.2.2 i h1 h2;cases f with
  | no=>exact absurd hf this
  | _=>simp[Fd.ob,Ob.cnt]
 ·rw[dA,h.2.1]at hi
  cases hi
  rfl
theorem su{from_:Nat}(h8:from_≤8)(h:Ol s.fds from_):∀W,Bel w W→Calls prog 303 #[E.pb,.int .i64 from_] W (Z.b (.tuple #[(0:Int),.iface 48 (.int .i64 14)]) W):=λW hW=>by
 refine MM E.pb from_ (fM E D.re D.we s.fds) (s.fds.map (Fd.ob E.cb D.re D.we)) W (hp.hb.bel hW) (λi x hi=>?_) (by rw[fJ,hwf.fl]) h8 (λi x h1 hi=>?_)
 ·rw[qf hx.rl]
  rw[dA]at hi;obtain⟨f,hf,rfl⟩:=Option.map_eq_some_iff.1 hi;rw[hf];rfl
 ·rw[dA]at hi
  obtain⟨f,hf,rfl⟩:=Option.map_eq_some_iff.1 hi;have:=h i h1;cases f with
  | no=>exact absurd hf this
  | _=>simp[Fd.ob,Ob.cnt]
theorem xS{a:Int}(h:Ls s.fds a):∀W,Bel w W→Calls prog 239 #[E.pb,a] W (Z.e (.tuple #[.nilIface,.iface 48 (.int .i64 13)]) W):=λW hW=>by
 rcases h with h|h|⟨n,rfl,hn,hf⟩
 ·exact Qr E.pb a W (.inl h)
 ·exact Qr E.pb a W (.inr h)
 ·refine aaw E.pb n _ W (hp.hb.bel hW) hn ?_
  rw[qf hx.rl,hf];rfl
theorem fZ{n:Nat}{f:Fd}(hf:s.fds[n]?=some f){t:TypeId}{a:Nat}(ht:(f.ob E.cb D.re D.we).v=.iface t (.pointer (a,0))):∀W,Bel w W→Calls prog 239 #[E.pb,.int .i64 n] W (Z.e (.tuple #[.iface t (.pointer (a,0)),.nilIface]) W):=λW hW=>by
 refine aav E.pb n t a _ W (hp.hb.bel hW) (by rw[←hwf.fl];exact(bZ hf).1) ?_;rw[qf hx.rl,hf,←ht];rfl
include hk
theorem Oq(r m:Nat)(a b:Int)(t:ByteArray)(lp dp:Option Addr)(ln lc dn dc:Nat)(hr:xH s.fds 0 r)(hm:xH s.fds (r+1) m)(hl:(aj s.fds s.pipes).length+2≤E.l.c.toNat):HOk E s D (s.piped r m) r m [] 244 14 a b t lp dp ln lc dn dc w:=by
 have tK:r<8:=by rw[←hwf.fl];exact(bZ hr.2.1).1
 have Ul:m<8:=by rw[←hwf.fl];exact(bZ hm.2.1).1
 have hrm:r≠m:=by have:=hm.1;omega
 have hol:=Dm hx hp hwf;have hoc:((E.l.c.toNat:Nat):Int)=E.l.c:=Int.toNat_of_nonneg hx.lc.1;have hnew:=hwf.YC;have Ve:∀p∈s.pipes,p.id≠s.last+1:=λp bA=>by have:=hwf.FN p bA;omega
 have hpl:∀fds:List Fd,fds.length=8→(fM E D.re D.we fds).length=31:=λfds h=>by rw[Bu hx.rl,h]
 refine(Qu E.kb E.pb E.ob 14 a b t lp dp ln lc dn dc w hp.c7 r m tK (by simpa using nQ hx hp hwf hr) (by have:=nQ hx hp hwf hm;simpa using this)
  (λx y w1=>∃c,w.heap.size≤c∧w.heap.size≤x∧w.heap.size≤y∧Blk w1 E.ob [.int .i64 ((aj s.fds s.pipes).length+2:Nat),.int .i64 E.l.c] 222∧Blk w1 c [(),(1:Int),(1:Int)] 475∧Blk w1 x [(0:Int),c] 446∧Blk w1 y [(0:Int),c] 448∧Keep (λq=>q=E.ob) w w1∧Blk w1 (w.heap.size+1) [(0:Int),(0:Int),()] 62)
  (λx y w1=>∃c,w.heap.size≤c∧w.heap.size≤x∧w.heap.size≤y∧Blk w1 E.ob [.int .i64 ((aj s.fds s.pipes).length+2:Nat),.int .i64 E.l.c] 222∧Blk w1 c [(),(1:Int),(1:Int)] 475∧Blk w1 x [(1:Int),c] 446∧Blk w1 y [(0:Int),c] 448∧Blk w1 E.pb ((fM E D.re D.we s.fds).set (23+r) (.iface 443 (.pointer (x,0)))) 120∧Keep (λq=>q=E.ob∨q=E.pb) w w1∧Blk w1 (w.heap.size+1) [(0:Int),(0:Int),()] 62)
  (λx y w1=>∃c,w.heap.size≤c∧w.heap.size≤x∧w.heap.size≤y∧Blk w1 E.ob [.int .i64 ((aj s.fds s.pipes).length+2:Nat),.int .i64 E.l.c] 222∧Blk w1 c [(),(1:Int),(1:Int)] 475∧Blk w1 x [(1:Int),c] 446∧Blk w1 y [(1:Int),c] 448∧Blk w1 E.pb (((fM E D.re D.we s.fds).set (23+r) (.iface 443 (.pointer (x,0)))).set (23+m) (.iface 447 (.pointer (y,0)))) 120∧Keep (λq=>q=E.ob∨q=E.pb) w w1∧Blk w1 (w.heap.size+1) [(0:Int),(0:Int),()] 62)
  (λW hW=>?_) (λW c hW hc hcb iX=>?_) (λx y W hR=>?_) (λx y W hR=>?_) (λx y W hR=>by obtain⟨c,_,_,_,_,_,_,_,_,_,h⟩:=hR;exact h)).mono ?_
 ·refine(AO E.ob (aj s.fds s.pipes).length E.l.c.toNat 2 W (by rw[hoc];exact hp.ho.bel hW) (by omega) (by omega)).mono ?_
  rintro e w' ⟨rfl,h⟩;exact⟨by rw[decide_eq_true hl],h⟩
 ·refine(Qn E.ob c (aj s.fds s.pipes).length E.l.c.toNat _ W (by rw[hoc];exact hp.ho.bel hW) hcb (by omega)).mono ?_
  rintro e w' ⟨x,y,rfl,h1,h2,h3,h4,h5,h6,k⟩;rw[hoc]at h1;have hle:=hW.le;refine⟨x,y,rfl,c,hc,by omega,by omega,h1,h2,h3,h4,(Keep.of_bel _ hW).aY k (λi hi=>hi.elim .inl λe=>.inr (by omega)),iX.keep k λhq=>hq.elim (λe=>?_) (iX.ne hcb (by decide))⟩;have:=hp.ho.lt;omega
 ·obtain⟨c,hc,OY,Zz,b1,b2,b3,b4,k,bx⟩:=hR
  have hpb:Blk W E.pb (fM E D.re D.we s.fds) 120:=hp.hb.keep k (hp.hb.ne hp.ho (by decide));have iC:∀v,Keep (λq=>q=E.pb) W (W.setCell (E.pb,23+r) v):=λv=>Keep.setCell W E.pb (23+r) v;have c7:W.cell? (E.kb,7)=some (.pointer (E.ob,0)):=(hp.hk.keep k (hp.hk.ne hp.ho (by decide))).cell 7;refine tL E.kb E.ob E.pb r x _ _ W _ c7 hp.kp hpb tK (by rw[hpl _ hwf.fl];omega) ((EF _ x 0 _ _ _ (b3.keep (iC _) (b3.ne hpb (by decide))) (by omega)).mono ?_);rintro e w' ⟨rfl,h1,k1⟩;refine⟨rfl,c,hc,OY,Zz,(b1.keep (iC _) (b1.ne hpb (by decide))).keep k1 (b1.ne b3 (by decide)),(b2.keep (iC _) (b2.ne hpb (by decide))).keep k1 (b2.ne b3 (by decide)),h1,(b4.keep (iC _) (b4.ne hpb (by decide))).keep k1 (b4.ne b3 (by decide)),(hpb.setCell (o:=23+r) _).keep k1 (hpb.ne b3 (by decide)),?_,(bx.keep (iC _) (bx.ne hpb (by decide))).keep k1 (bx.ne b3 (by decide))⟩;exact((k.mono (S':=λq=>q=E.ob∨q=E.pb) λ_ h=>.inl h).tr ((iC _).mono λ_ h=>.inr h)).aY k1 λi hi=>.inr (by have hi:i=x:=hi;omega)
 ·obtain⟨c,hc,OY,Zz,b1,b2,b3,b4,b5,k,bx⟩:=hR
  have iC:∀v,Keep (λq=>q=E.pb) W (W.setCell (E.pb,23+m) v):=λv=>Keep.setCell W E.pb (23+m) v;have c7:W.cell? (E.kb,7)=some (.pointer (E.ob,0)):=(hp.hk.keep k λhq=>hq.elim (hp.hk.ne hp.ho (by decide)) hp.kp).cell 7;refine tL E.kb E.ob E.pb m y _ _ W _ c7 hp.kp b5 Ul (by rw[List.length_set,hpl _ hwf.fl];omega) ((EG _ y 0 _ _ _ (b4.keep (iC _) (b4.ne b5 (by decide))) (by omega)).mono ?_);rintro e w' ⟨rfl,h1,k1⟩;refine⟨rfl,c,hc,OY,Zz,(b1.keep (iC _) (b1.ne b5 (by decide))).keep k1 (b1.ne b4 (by decide)),(b2.keep (iC _) (b2.ne b5 (by decide))).keep k1 (b2.ne b4 (by decide)),(b3.keep (iC _) (b3.ne b5 (by decide))).keep k1 (b3.ne b4 (by decide)),h1,(b5.setCell (o:=23+m) _).keep k1 (b5.ne b4 (by decide)),?_,(bx.keep (iC _) (bx.ne b5 (by decide))).keep k1 (bx.ne b4 (by decide))⟩;exact(k.tr ((iC _).mono λ_ h=>.inr h)).aY k1 λi hi=>.inr (by have hi:i=y:=hi;omega)
 ·rintro e w' ⟨x,y,w0,rfl,⟨c,hc,OY,Zz,b1,b2,b3,b4,b5,k,bx⟩,kb⟩
  have nb:∀{q cs t},Blk w0 q cs t→t≠62→¬q=w.heap.size+1:=λh ht=>h.ne bx ht;have k2:Keep (λq=>q=E.ob∨q=E.pb) w w':=k.aY kb λi hi=>.inr (by have hi:i=w.heap.size+1:=hi;omega);have c1:=b1.keep kb (nb b1 (by decide));have c2:=b2.keep kb (nb b2 (by decide));have c3:=b3.keep kb (nb b3 (by decide));have c4:=b4.keep kb (nb b4 (by decide));have c5:=b5.keep kb (nb b5 (by decide));clear b1 b2 b3 b4 b5 k kb bx nb;have hn:∀{q cs t},Blk w q cs t→t≠222→t≠120→¬(q=E.ob∨q=E.pb):=λhb n1 n2 hq=>hq.elim (hb.ne hp.ho n1) (hb.ne hp.hb n2);have abo:(s.piped r m).fds=(s.fds.set r (.rd (s.last+1))).set m (.wr (s.last+1)):=rfl;have hm2:(s.fds.set r (.rd (s.last+1)))[m]?=some .no:=by rw[List.getElem?_set_ne hrm];exact hm.2.1
  have hcnt:∀z,z≠ .no→(s.piped r m).fds.count z=s.fds.count z+(if Fd.rd (s.last+1)=z then 1 else 0)+if Fd.wr (s.last+1)=z then 1 else 0:=λz hz=>by rw[abo,kL hm2 hz,kL hr.2.1 hz]
  obtain⟨D',hD'⟩:∃D':PD,D'={D with ch:=FX D.ch (s.last+1) c,re:=FX D.re (s.last+1) x,we:=FX D.we (s.last+1) y,bv:=rY D.bv (s.last+1) (.slice none 0 0)}:=⟨_,rfl⟩;have YJ:∀i,D'.ch i=FX D.ch (s.last+1) c i:=λi=>by rw[hD']
  have dre:∀i,D'.re i=FX D.re (s.last+1) x i:=λi=>by rw[hD']
  have dwe:∀i,D'.we i=FX D.we (s.last+1) y i:=λi=>by rw[hD']
  have ZJ:∀i,D'.bv i=rY D.bv (s.last+1) (.slice none 0 0) i:=λi=>by rw[hD']
  have dtv:D'.tv=D.tv:=by rw[hD']
  have duv:D'.uv=D.uv:=by rw[hD']
  have hpc:fM E D'.re D'.we (s.piped r m).fds=((fM E D.re D.we s.fds).set (23+r) (.iface 443 (.pointer (x,0)))).set (23+m) (.iface 447 (.pointer (y,0))):=by
   have e1:fM E D'.re D'.we s.fds=fM E D.re D.we s.fds:=FQ (λi hi=>by rw[dre];exact iM _ _ λe=>hnew.1 (e▸hi)) (λi hi=>by rw[dwe];exact iM _ _ λe=>hnew.2 (e▸hi));have e2:(Value.iface 443 (.pointer (x,0)))=((Fd.rd (s.last+1)).ob E.cb D'.re D'.we).v:=by show _=Value.iface _ (.pointer (D'.re (s.last+1),0));rw[dre,gF]
   have e3:(Value.iface 447 (.pointer (y,0)))=((Fd.wr (s.last+1)).ob E.cb D'.re D'.we).v:=by show _=Value.iface _ (.pointer (D'.we (s.last+1),0));rw[dwe,gF]
   rw[abo,←e1,e2,e3,qL hx.rl,qL hx.rl]
  have Bw:∀p∈(s.piped r m).pipes,p∈s.pipes∧p.id≠s.last+1∨p=⟨s.last+1,[]⟩:=λp bA=>by
   rcases List.mem_append.1 (show p∈s.pipes++[⟨s.last+1,[]⟩]from bA)with h|h
   ·exact .inl ⟨h,Ve p h⟩
   ·exact .inr (List.mem_singleton.1 h)
  have iD:∀q,bJ E (s.piped r m) D' q→bJ E s D q∨w.heap.size≤q:=λq hq=>by
   rcases hq with e|e|e|e|e|e|⟨p,bA,e⟩
   ·exact .inl (.inl e)
   ·exact .inl (.inr (.inl e))
   ·exact .inl (.inr (.inr (.inl e)))
   ·exact .inl (.inr (.inr (.inr (.inl e))))
   ·rw[dtv]at e;exact .inl (.inr (.inr (.inr (.inr (.inl e)))))
   ·rw[duv]at e;exact .inl (.inr (.inr (.inr (.inr (.inr (.inl e))))))
   ·rw[YJ,dre,dwe,ZJ]at e
    rcases Bw p bA with⟨h,hne⟩|rfl
    ·rw[iM _ _ hne,iM _ _ hne,iM _ _ hne,oq _ _ hne]at e
     have hin:∀z,z≠ .no→z≠ .rd (s.last+1)→z≠ .wr (s.last+1)→z∈(s.piped r m).fds→z∈s.fds:=λz h1 h2 h3 h4=>by
      rw[←List.count_pos_iff,hcnt z h1,if_neg λe=>h2 e.symm,if_neg λe=>h3 e.symm]at h4;exact List.count_pos_iff.1 (by omega)
     rcases e with e|⟨h1,e⟩|⟨h1,e⟩|e
     ·exact .inl (e▸Dj h)
     ·exact .inl (e▸Vb h (hin _ (by simp) (by simpa using hne) (by simp) h1))
     ·exact .inl (e▸Vd h (hin _ (by simp) (by simp) (by simpa using hne) h1))
     ·exact .inl (Lv h e)
    ·simp only[gF,iA]at e
     rcases e with e|⟨_,e⟩|⟨_,e⟩|e
     ·exact .inr (e▸hc)
     ·exact .inr (e▸OY)
     ·exact .inr (e▸Zz)
     ·cases e
  refine⟨r,m,none,0,0,rfl,zD.ans (D':=D') ⟨⟨?_,?_,?_,?_,?_,?_,λp bA=>?_,λp bA q OZ e=>?_,?_,λp bA g hg=>?_,λq hq=>?_⟩,k2.mono λq hq=>hq.elim (λe=>.inr (.inr (.inl e))) λe=>.inr (.inl e),iD,λq hq=>hp.lt hq⟩⟩
  ·rw[hD'];exact hp.hk.keep k2 (hn hp.hk (by decide) (by decide))
  ·rw[hpc];exact c5
  ·rw[zB hwf hr.2.1 hm.2.1 hrm,List.length_append];exact c1
  ·rw[dtv,duv,hcnt _ (by simp),if_neg (by simp),if_neg (by simp)];exact hp.hc.keep k2 (hn hp.hc (by decide) (by decide))
  ·rw[dtv];exact hp.tb.keep k2 λg hg=>by obtain⟨_,hb⟩:=hp.tb.blk hg;exact hn hb (by decide) (by decide)
  ·rw[duv];exact hp.ub.keep k2 λg hg=>by obtain⟨_,hb⟩:=hp.ub.blk hg;exact hn hb (by decide) (by decide)
  ·rcases Bw p bA with⟨h,hne⟩|rfl
   ·have hpi:=hp.nG p h
    have e1:=hcnt (Fd.rd p.id) (by simp);rw[if_neg (by simpa using λe=>hne e.symm),if_neg (by simp)]at e1;have e2:=hcnt (Fd.wr p.id) (by simp);rw[if_neg (by simp),if_neg (by simpa using λe=>hne e.symm)]at e2;have h2:xG w' D (s.piped r m).fds p:=hpi.same k2 (hn hpi.c (by decide) (by decide)) (λhf=>hn (hpi.r hf) (by decide) (by decide)) (λhf=>hn (hpi.u hf) (by decide) (by decide)) (λg hg=>by obtain⟨_,hb⟩:=hpi.b.blk hg;exact hn hb (by decide) (by decide)) e1 e2;have f1:D'.ch p.id=D.ch p.id:=by rw[YJ];exact iM _ _ hne
    have f2:D'.re p.id=D.re p.id:=by rw[dre];exact iM _ _ hne
    have f3:D'.we p.id=D.we p.id:=by rw[dwe];exact iM _ _ hne
    have f4:D'.bv p.id=D.bv p.id:=by rw[ZJ];exact oq _ _ hne
    exact⟨by rw[f1,f4];exact h2.c,by rw[f4];exact h2.b,by rw[f1,f2];exact h2.r,by rw[f1,f3];exact h2.u⟩
   ·have e1:=hcnt (Fd.rd (s.last+1)) (by simp)
    rw[if_pos rfl,if_neg (by simp),List.count_eq_zero.2 hnew.1]at e1;have e2:=hcnt (Fd.wr (s.last+1)) (by simp);rw[if_neg (by simp),if_pos rfl,List.count_eq_zero.2 hnew.2]at e2;have m1:Fd.rd (s.last+1)∈(s.piped r m).fds:=List.count_pos_iff.1 (by omega);have m2:Fd.wr (s.last+1)∈(s.piped r m).fds:=List.count_pos_iff.1 (by omega);refine⟨?_,?_,λ_=>?_,λ_=>?_⟩
    ·show Blk w' (D'.ch (s.last+1)) [D'.bv (s.last+1),_,_] _
     rw[YJ,ZJ,gF,iA,if_pos m1,if_pos m2];exact c2
    ·show Buf w' (D'.bv (s.last+1)) []
     rw[ZJ,iA];exact Buf.nil w'
    ·show Blk w' (D'.re (s.last+1)) [.int .i64 (((s.piped r m).fds.count (Fd.rd (s.last+1)):Nat):Int),.pointer (D'.ch (s.last+1),0)] _
     rw[dre,YJ,gF,gF,e1];exact c3
    ·show Blk w' (D'.we (s.last+1)) [.int .i64 (((s.piped r m).fds.count (Fd.wr (s.last+1)):Nat):Int),.pointer (D'.ch (s.last+1),0)] _
     rw[dwe,YJ,gF,gF,e2];exact c4
  ·rw[YJ,YJ]at e
   have hlt:∀p∈s.pipes,D.ch p.id<w.heap.size:=λp h=>(hp.nG p h).c.lt;rcases Bw p bA with⟨h,hne⟩|rfl
   ·rcases Bw q OZ with⟨h',hne'⟩|rfl
    ·rw[iM _ _ hne,iM _ _ hne']at e
     exact hp.inj p h q h' e
    ·rw[iM _ _ hne,gF]at e
     have:=hlt p h;omega
   ·rcases Bw q OZ with⟨h',hne'⟩|rfl
    ·rw[iM _ _ hne',gF]at e
     have:=hlt q h';omega
    ·rfl
  ·rw[dtv,duv];exact hp.ap
  ·rw[dtv,duv]
   rcases Bw p bA with⟨h,hne⟩|rfl
   ·rw[ZJ,oq _ _ hne]at hg
    exact hp.zC p h g hg
   ·have hg:ag (D'.bv (s.last+1))=some g:=hg
    rw[ZJ,iA]at hg;cases hg
  ·rcases iD q hq with h|h
   ·exact hp.lo q h
   ·exact .inl (aV hk.size h)
end
end
section
open Go.Proofs.Tryz Go.RowKit Go.MapKept Go.Maps Go.Shelf
theorem MH(rb cb m ml:Nat)(h wr:Value)(ri:Int)(v:Value)(L M:List Int)(p:Option Addr)(c:Nat)(w:World)(hr:Blk w rb [h,cb] 448)(hb:Blk w cb [v,ri,wr] 475)(hv:Buf w v L)(hM:Buf w (.slice p ml c) M)(hrd:0<ri)(hL:L.length≤64)(hn:L.length<64∨ml=0)(hm:m=min (64-L.length) ml)(hMl:ml≤1000000) :
 Calls prog 427 #[rb,(p,ml,c)] w λe w'=>e=.returned (.tuple #[.int .i64 m,.nilIface])∧∃v',Blk w' cb [v',ri,wr] 475∧Buf w' v' (L++M.take m)∧Keep (λq=>q=cb) w w'∧(∀g,ag v'=some g→ag v=some g∨w.heap.size≤g):=by
 obtain⟨q,cap,rfl,hlc,hcm⟩:=hv.slice;have c1:=hr.c 1 rfl;have c2:=hb.c 0 rfl;have c3:=hb.c 1 rfl;have hcm2:ml≤c∧M.length=ml:=by
  obtain⟨_,_,e,h1,_⟩:=hM.slice;cases e
  exact⟨h1,rfl⟩
 have hw:IntKind.i64.wrap (64-(L.length:Int))=64-(L.length:Int):=by rw[IntKind.wrap_i64];omega
 have hrb:(ri==0)=false:=bK (by omega);have hmn:min (64-(L.length:Int)) (ml:Int)=(m:Int):=by omega
 have hmc:(m:Int)≤c:=by omega
 have aeN:(L.length:Int)≤cap:=by omega
 have hcl:=hb.lt;have hcr:cb≠rb:=λe=>hr.ne hb (by decide) e.symm;have HB:=xh hb;have HV:Hid (Buf w.drew (.slice q L.length L.length) L):=xh (by
  have:=(hv.take (bH _)).bel (Bel.drew (Bel.refl w))
  rwa [List.take_length]at this)
 have hml:(M.take m).length=m:=by rw[List.length_take];omega
 have HM:Hid (kY w.drew p (M.take m)):=xh ((hM.take (n:=m) (by omega)).bel (Bel.drew (Bel.refl w))).byt;have MC:=xh hml;have Eu:=xh hL;have HMC:=xh hcm2;have R1:w.drew.cell? (rb,1)=some (.pointer (cb,0)):=aa (Bel.drew (Bel.refl w)) c1;have uI:Hid (Blk w.drew cb [.slice q L.length cap,ri,wr] 475):=xh (HB.o.bel (Bel.drew (Bel.refl w)));have GJ:=xh R1;have HD:Hid (Bel w w.drew):=xh (Bel.drew (Bel.refl w));clear hb hv hr hM hml hrd hcm2 R1 hlc hcm;by_cases hfull:L.length=64
 ·have hM0:ml=0:=hn.resolve_left (by omega)
  subst hM0;have hm0:m=0:=by omega
  subst hm0;have hne:((64-(L.length:Int))==0)=true:=beq_iff_eq.2 (by omega);have aeO:min (64-(L.length:Int)) 0=0:=by omega
  clear hn hfull hm hmn hMl;go_enter func427,ntmps427;go_upto_region 7 with fail
  refine wp_region_noPanic ?_;refine wp_region_held_drew (S:=λw'=>w'.cell? ⟨rb,1,none⟩=some (.pointer (cb,0))) (by kernel_rfl) (by(first|(go_keep;done)|assumption|exact GJ.o)) (λhHeld=>?_);refine plan [0,1,2,3,4,5,6,7,8,9,11,12,13,14,15,16,19,20,21,22,23,24,28,29,30] ?_;(repeat refine t0 rfl (by kernel_rfl) (by intro w hw;(try dsimp only at hw);go_simp;with_reducible rfl) (by assumption) (by(try simp only[Act.put,lits]);exact rfl) ?_);refine aK ?_;refine wpAnyH_ready (rs:=[10,17,25]) (by kernel_rfl) (by simp) ?_;refine AllReadyH.cons rfl (λK hK=>?ox1) (AllReadyH.cons rfl (λK hK=>?ox2) (AllReadyH.cons rfl (λK hK=>?ox3) AllReadyH.nil));all_goals (go_simp;refine hK.out _ _ (by(first|(go_keep;done)|assumption|exact GJ.o)) (λhH=>?_);clear hK K;(try simp only[Act.put,lits]))
  case' ox1=>(refine wpAnyH_ready (rs:=[17,25]) (by kernel_rfl) (by simp) ?_;refine AllReadyH.cons rfl (λK hK=>?px1) (AllReadyH.cons rfl (λK hK=>?px2) AllReadyH.nil))
  case' ox2=>(refine plan [18] ?_;(repeat refine t0 rfl (by kernel_rfl) (by intro w hw;(try dsimp only at hw);go_simp;with_reducible rfl) (by assumption) (by(try simp only[Act.put,lits]);exact rfl) ?_);refine aK ?_;refine wpAnyH_ready (rs:=[10,25]) (by kernel_rfl) (by simp) ?_;refine AllReadyH.cons rfl (λK hK=>?px3) (AllReadyH.cons rfl (λK hK=>?px4) AllReadyH.nil))
  case' ox3=>(refine plan [26] ?_;(repeat refine t0 rfl (by kernel_rfl) (by intro w hw;(try dsimp only at hw);go_simp;with_reducible rfl) (by assumption) (by(try simp only[Act.put,lits]);exact rfl) ?_);refine aK ?_;refine wpAnyH_ready (rs:=[10,17]) (by kernel_rfl) (by simp) ?_;refine AllReadyH.cons rfl (λK hK=>?px5) (AllReadyH.cons rfl (λK hK=>?px6) AllReadyH.nil))
  all_goals (go_simp;refine hK.out _ _ (by(first|(go_keep;done)|assumption|exact GJ.o)) (λhH=>?_);clear hK K;(try simp only[Act.put,lits]))
  case' px1=>(refine plan [18] ?_;(repeat refine t0 rfl (by kernel_rfl) (by intro w hw;(try dsimp only at hw);go_simp;with_reducible rfl) (by assumption) (by(try simp only[Act.put,lits]);exact rfl) ?_);refine aK ?_;refine rd 25 rfl (by kernel_rfl) (λK hK=>?_))
  case' px2=>(refine plan [26] ?_;(repeat refine t0 rfl (by kernel_rfl) (by intro w hw;(try dsimp only at hw);go_simp;with_reducible rfl) (by assumption) (by(try simp only[Act.put,lits]);exact rfl) ?_);refine aK ?_;refine rd 17 rfl (by kernel_rfl) (λK hK=>?_))
  case' px3=>(refine rd 25 rfl (by kernel_rfl) (λK hK=>?_))
  case' px4=>(refine plan [26] ?_;(repeat refine t0 rfl (by kernel_rfl) (by intro w hw;(try dsimp only at hw);go_simp;with_reducible rfl) (by assumption) (by(try simp only[Act.put,lits]);exact rfl) ?_);refine aK ?_;refine rd 10 rfl (by kernel_rfl) (λK hK=>?_))
  case' px5=>(refine rd 17 rfl (by kernel_rfl) (λK hK=>?_))
  case' px6=>(refine plan [18] ?_;(repeat refine t0 rfl (by kernel_rfl) (by intro w hw;(try dsimp only at hw);go_simp;with_reducible rfl) (by assumption) (by(try simp only[Act.put,lits]);exact rfl) ?_);refine aK ?_;refine rd 10 rfl (by kernel_rfl) (λK hK=>?_))
  all_goals (go_simp;refine hK.out _ _ (by(first|(go_keep;done)|assumption|exact GJ.o)) (λhH=>?_);clear hK K;(try simp only[Act.put,lits]))
  case' px1=>(refine plan [26] ?_;(repeat refine t0 rfl (by kernel_rfl) (by intro w hw;(try dsimp only at hw);go_simp;with_reducible rfl) (by assumption) (by(try simp only[Act.put,lits]);exact rfl) ?_);refine aK ?_)
  case' px2=>(refine plan [18] ?_;(repeat refine t0 rfl (by kernel_rfl) (by intro w hw;(try dsimp only at hw);go_simp;with_reducible rfl) (by assumption) (by(try simp only[Act.put,lits]);exact rfl) ?_);refine aK ?_)
  case' px3=>(refine plan [26] ?_;(repeat refine t0 rfl (by kernel_rfl) (by intro w hw;(try dsimp only at hw);go_simp;with_reducible rfl) (by assumption) (by(try simp only[Act.put,lits]);exact rfl) ?_);refine aK ?_)
  case' px5=>(refine plan [18] ?_;(repeat refine t0 rfl (by kernel_rfl) (by intro w hw;(try dsimp only at hw);go_simp;with_reducible rfl) (by assumption) (by(try simp only[Act.put,lits]);exact rfl) ?_);refine aK ?_)
  all_goals
   refine plan [27] ?_;(repeat refine t0 rfl (by kernel_rfl) (by intro w hw;(try dsimp only at hw);go_simp;with_reducible rfl) (by assumption) (by(try simp only[Act.put,lits]);exact rfl) ?_);refine aK ?_;refine rd 31 rfl (by kernel_rfl) (λK hK=>?_);refine ic rfl (.tmp 67) (.tmp 70) rfl (.slice q L.length L.length) p c L (M.take 0) rfl (by rw[MC.o];rfl) HV.o HM.o (by rw[MC.o];have:=Eu.o;omega) ?_;intro v' wa h1 h2 h3 h4;have kA:=h4 q rfl;obtain⟨pa,la,bS,rfl⟩:∃pa la bS,v'=.slice pa la bS:=(let ⟨pa,bS,e,_⟩:=h1.slice;⟨pa,_,bS,e⟩);have r1:=aa kA GJ.o;have ca:=(uI.o.bel kA).cell 0;have fa:=(uI.o.bel kA).frozen;have HA:=xh (And.intro h1 (And.intro h3 kA));clear h1 h2 h3 h4 kA;refine hK.out _ _ (by(first|(go_keep;done)|assumption|exact GJ.o)) (λhH=>?_);clear hK K;(try simp only[Act.put,lits]);refine plan [32,33] ?_;(repeat refine t0 rfl (by kernel_rfl) (by intro w hw;(try dsimp only at hw);go_simp;with_reducible rfl) (by assumption) (by(try simp only[Act.put,lits]);exact rfl) ?_);refine aK ?_;refine rd 34 rfl (by kernel_rfl) (λK hK=>?_);go_simp;refine hK.out _ _ (by(first|(go_keep;done)|assumption|exact GJ.o)) (λhH=>?_);clear hK K;(try simp only[Act.put,lits]);refine wpAnyH_done (by kernel_rfl) ?_ _;refine NoPanic.normal ?_;go_wp2
   go_ret2
   refine⟨rfl,_,(uI.o.bel HA.o.2.2).setCell (o:=0) _,HA.o.1.keep (Keep.setCell _ _ _ _) ?_,(Keep.of_bel _ (HD.o.tr HA.o.2.2)).tr (Keep.setCell _ _ _ _),λg hg=>?_⟩
   ·exact λg hg e=>(HA.o.1.ne (uI.o.bel HA.o.2.2) (by decide)) g hg e
   ·exact(HA.o.2.1 g hg).imp (λh=>by cases q<;>exact h) λh=>h
 ·have hne:((64-(L.length:Int))==0)=false:=bK (by omega)
  clear hn hfull hm hMl;go_enter func427,ntmps427;go_upto_region 7 with fail
  refine wp_region_noPanic ?_;refine wp_region_held_drew (S:=λw'=>w'.cell? ⟨rb,1,none⟩=some (.pointer (cb,0))) (by kernel_rfl) (by(first|(go_keep;done)|assumption|exact GJ.o)) (λhHeld=>?_);refine plan [0,1,2,3,4,5,6,7,8,9,11,12,13,14,15,16,19,20,21,22,23,24,28,29,30] ?_;(repeat refine t0 rfl (by kernel_rfl) (by intro w hw;(try dsimp only at hw);go_simp;with_reducible rfl) (by assumption) (by(try simp only[Act.put,lits]);exact rfl) ?_);refine aK ?_;refine wpAnyH_ready (rs:=[10,17,25]) (by kernel_rfl) (by simp) ?_;refine AllReadyH.cons rfl (λK hK=>?oy1) (AllReadyH.cons rfl (λK hK=>?oy2) (AllReadyH.cons rfl (λK hK=>?oy3) AllReadyH.nil));all_goals (go_simp;refine hK.out _ _ (by(first|(go_keep;done)|assumption|exact GJ.o)) (λhH=>?_);clear hK K;(try simp only[Act.put,lits]))
  case' oy1=>(refine wpAnyH_ready (rs:=[17,25]) (by kernel_rfl) (by simp) ?_;refine AllReadyH.cons rfl (λK hK=>?py1) (AllReadyH.cons rfl (λK hK=>?py2) AllReadyH.nil))
  case' oy2=>(refine plan [18] ?_;(repeat refine t0 rfl (by kernel_rfl) (by intro w hw;(try dsimp only at hw);go_simp;with_reducible rfl) (by assumption) (by(try simp only[Act.put,lits]);exact rfl) ?_);refine aK ?_;refine wpAnyH_ready (rs:=[10,25]) (by kernel_rfl) (by simp) ?_;refine AllReadyH.cons rfl (λK hK=>?py3) (AllReadyH.cons rfl (λK hK=>?py4) AllReadyH.nil))
  case' oy3=>(refine plan [26] ?_;(repeat refine t0 rfl (by kernel_rfl) (by intro w hw;(try dsimp only at hw);go_simp;with_reducible rfl) (by assumption) (by(try simp only[Act.put,lits]);exact rfl) ?_);refine aK ?_;refine wpAnyH_ready (rs:=[10,17]) (by kernel_rfl) (by simp) ?_;refine AllReadyH.cons rfl (λK hK=>?py5) (AllReadyH.cons rfl (λK hK=>?py6) AllReadyH.nil))
  all_goals (go_simp;refine hK.out _ _ (by(first|(go_keep;done)|assumption|exact GJ.o)) (λhH=>?_);clear hK K;(try simp only[Act.put,lits]))
  case' py1=>(refine plan [18] ?_;(repeat refine t0 rfl (by kernel_rfl) (by intro w hw;(try dsimp only at hw);go_simp;with_reducible rfl) (by assumption) (by(try simp only[Act.put,lits]);exact rfl) ?_);refine aK ?_;refine rd 25 rfl (by kernel_rfl) (λK hK=>?_))
  case' py2=>(refine plan [26] ?_;(repeat refine t0 rfl (by kernel_rfl) (by intro w hw;(try dsimp only at hw);go_simp;with_reducible rfl) (by assumption) (by(try simp only[Act.put,lits]);exact rfl) ?_);refine aK ?_;refine rd 17 rfl (by kernel_rfl) (λK hK=>?_))
  case' py3=>(refine rd 25 rfl (by kernel_rfl) (λK hK=>?_))
  case' py4=>(refine plan [26] ?_;(repeat refine t0 rfl (by kernel_rfl) (by intro w hw;(try dsimp only at hw);go_simp;with_reducible rfl) (by assumption) (by(try simp only[Act.put,lits]);exact rfl) ?_);refine aK ?_;refine rd 10 rfl (by kernel_rfl) (λK hK=>?_))
  case' py5=>(refine rd 17 rfl (by kernel_rfl) (λK hK=>?_))
  case' py6=>(refine plan [18] ?_;(repeat refine t0 rfl (by kernel_rfl) (by intro w hw;(try dsimp only at hw);go_simp;with_reducible rfl) (by assumption) (by(try simp only[Act.put,lits]);exact rfl) ?_);refine aK ?_;refine rd 10 rfl (by kernel_rfl) (λK hK=>?_))
  all_goals (go_simp;refine hK.out _ _ (by(first|(go_keep;done)|assumption|exact GJ.o)) (λhH=>?_);clear hK K;(try simp only[Act.put,lits]))
  case' py1=>(refine plan [26] ?_;(repeat refine t0 rfl (by kernel_rfl) (by intro w hw;(try dsimp only at hw);go_simp;with_reducible rfl) (by assumption) (by(try simp only[Act.put,lits]);exact rfl) ?_);refine aK ?_)
  case' py2=>(refine plan [18] ?_;(repeat refine t0 rfl (by kernel_rfl) (by intro w hw;(try dsimp only at hw);go_simp;with_reducible rfl) (by assumption) (by(try simp only[Act.put,lits]);exact rfl) ?_);refine aK ?_)
  case' py3=>(refine plan [26] ?_;(repeat refine t0 rfl (by kernel_rfl) (by intro w hw;(try dsimp only at hw);go_simp;with_reducible rfl) (by assumption) (by(try simp only[Act.put,lits]);exact rfl) ?_);refine aK ?_)
  case' py5=>(refine plan [18] ?_;(repeat refine t0 rfl (by kernel_rfl) (by intro w hw;(try dsimp only at hw);go_simp;with_reducible rfl) (by assumption) (by(try simp only[Act.put,lits]);exact rfl) ?_);refine aK ?_)
  all_goals
   refine plan [27] ?_;(repeat refine t0 rfl (by kernel_rfl) (by intro w hw;(try dsimp only at hw);go_simp;with_reducible rfl) (by assumption) (by(try simp only[Act.put,lits]);exact rfl) ?_);refine aK ?_;refine rd 31 rfl (by kernel_rfl) (λK hK=>?_);refine ic rfl (.tmp 67) (.tmp 70) rfl (.slice q L.length L.length) p c L (M.take m) rfl (by rw[MC.o];rfl) HV.o HM.o (by rw[MC.o];have:=Eu.o;omega) ?_;intro v' wa h1 h2 h3 h4;have kA:=h4 q rfl;obtain⟨pa,la,bS,rfl⟩:∃pa la bS,v'=.slice pa la bS:=(let ⟨pa,bS,e,_⟩:=h1.slice;⟨pa,_,bS,e⟩);have r1:=aa kA GJ.o;have ca:=(uI.o.bel kA).cell 0;have fa:=(uI.o.bel kA).frozen;have HA:=xh (And.intro h1 (And.intro h3 kA));clear h1 h2 h3 h4 kA;refine hK.out _ _ (by(first|(go_keep;done)|assumption|exact GJ.o)) (λhH=>?_);clear hK K;(try simp only[Act.put,lits]);refine plan [32,33] ?_;(repeat refine t0 rfl (by kernel_rfl) (by intro w hw;(try dsimp only at hw);go_simp;with_reducible rfl) (by assumption) (by(try simp only[Act.put,lits]);exact rfl) ?_);refine aK ?_;refine rd 34 rfl (by kernel_rfl) (λK hK=>?_);go_simp;refine hK.out _ _ (by(first|(go_keep;done)|assumption|exact GJ.o)) (λhH=>?_);clear hK K;(try simp only[Act.put,lits]);refine wpAnyH_done (by kernel_rfl) ?_ _;refine NoPanic.normal ?_;go_wp2
   go_ret2
   refine⟨rfl,_,(uI.o.bel HA.o.2.2).setCell (o:=0) _,HA.o.1.keep (Keep.setCell _ _ _ _) ?_,(Keep.of_bel _ (HD.o.tr HA.o.2.2)).tr (Keep.setCell _ _ _ _),λg hg=>?_⟩
   ·exact λg hg e=>(HA.o.1.ne (uI.o.bel HA.o.2.2) (by decide)) g hg e
   ·exact(HA.o.2.1 g hg).imp (λh=>by cases q<;>exact h) λh=>h
end
section
open Go.Proofs.Tryz Go.RowKit Go.MapKept Go.Maps
theorem JJ(g o l c m:Nat)(hm:m≤l)(i:Nat)(hi:i<m):dV (bD (.slice (g,o) l c) m) (o+i):=by
 show dV (.slice (if c=m then some ⟨g,o,none⟩else(some ⟨g,o,none⟩:Option Addr).map (·.add m)) (l-m) (c-m)) (o+i)
 by_cases e:c=m
 ·rw[if_pos e]
  exact .inl (by omega)
 ·rw[if_neg e]
  rw[show(some ⟨g,o,none⟩:Option Addr).map (·.add m)=some ⟨g,o+m,none⟩from by simp[Addr.add_lit]];refine .inr ?_;show o+i<(o+m)+(l-m)
  omega
section
variable {E:PE} {s:St} {D:PD} {w:World} (hx:ek E) (hp:PP E w s D) (hk:eH E w) (hwf:s.Wf)
include hx hp hk hwf
theorem Ot(n k m:Nat)(t:ByteArray)(lp dp:Option Addr)(ln lc dn dc:Nat)(hf:s.fds[n]?=some .jo)(hk4:k≤4096)(h0:0<s.typed.length∨k=0)(hm:m=min k s.typed.length):HOk E s D {s with typed:=s.typed.drop m} m 0 (s.typed.take m) 240 10 n k t lp dp ln lc dn dc w:=by
 obtain⟨p0,cap0,Vf,h1,h2⟩:=hp.tb.slice;have hml:m≤s.typed.length:=by omega
 refine(tT E.kb E.pb E.cb _ _ _ _ 4 10 n k t lp dp ln lc dn dc w (nI E.cb) (fZ hx hp hwf hf rfl) (by decide) (by omega) (by omega) (λp l c ev w'=>ev=.nilIface∧p=p0∧l=m∧c=m∧Blk w' E.cb [.int .i64 ((s.fds.count Fd.jo:Nat):Int),bD D.tv m,D.uv] 151∧Keep (λq=>q=E.cb) w w') (λp l c ev W h=>⟨by omega,.inl h.1⟩) λW hW hsz iX=>?_).mono ?_
 ·refine(Qj E.cb k m _ _ D.tv s.typed W (hp.hc.bel hW) (hp.tb.bel hW) h0 hm).mono ?_
  rintro e w' ⟨rfl,b1,k1⟩;exact⟨p0,m,m,_,by rw[Vf];rfl,⟨rfl,rfl,rfl,rfl,b1,(Keep.of_bel _ hW).tr k1⟩,iX.keep k1 λe=>iX.ne (hp.hc.bel hW) (by decide) e⟩
 ·rintro e w' ⟨p,l,c,ev,w0,rfl,⟨rfl,rfl,rfl,rfl,b1,k1⟩,kb⟩
  have hcl:=hp.hc.lt;have b2:=b1.keep kb (by show ¬E.cb=_;omega);have k2:Keep (λq=>q=E.cb) w w':=k1.aY kb λi hi=>.inr (by have hi:i=w.heap.size+1:=hi;omega);have hS:∀q,q=E.cb→q=E.cb∨ag D.tv=some q∨ag D.uv=some q:=λq h=>.inl h;have ht:Buf w' D.tv s.typed:=hp.tb.keep k2 λg hg=>by obtain⟨_,hb⟩:=hp.tb.blk hg;exact hb.ne hp.hc (by decide)
  have hu:Buf w' D.uv s.out:=hp.ub.keep k2 λg hg=>by obtain⟨_,hb⟩:=hp.ub.blk hg;exact hb.ne hp.hc (by decide)
  have f1:∀g,ag (bD D.tv c)=some g→ag D.tv=some g∨w.heap.size≤g:=λg hg=>.inl (by rw[lC]at hg;exact hg);have f2:∀g,ag D.uv=some g→ag D.uv=some g∨w.heap.size≤g:=λg hg=>.inl hg;refine⟨c,0,p,c,c,rfl,rfl,rfl,by simp;omega,{D with tv:=bD D.tv c,uv:=D.uv},⟨hp.jo hk k2 hS _ _ _ _ b2 (ht.drop hml) hu (λg hg=>by rw[lC]at hg;exact hp.ap g hg) f1 f2,uw hS k2,PP.zG f1 f2,λq hq=>hp.lt hq⟩,?_,?_⟩
  ·have:=ht.take hml
   rw[Vf]at this;have e:(s.typed.take c).length=c:=by simp;omega
   have h3:Buf w' (.slice p c c) (s.typed.take c):=this;exact h3.byt
  ·rintro g o rfl h3
   refine⟨.inr (.inr (.inr (.inr (.inl (by rw[Vf];rfl))))),λhg i hi=>?_,hp.ap g (by rw[Vf];rfl)⟩;show dV (bD D.tv c) (o+i)
   rw[Vf];exact JJ g o _ _ c hml i (by simp at hi;omega)
theorem JK(n k m:Nat)(p:dH)(t:ByteArray)(lp dp:Option Addr)(ln lc dn dc:Nat)(bA:p∈s.pipes)(hf:s.fds[n]?=some (.rd p.id))(hk4:k≤4096)(h0:0<p.byt.length∨Fd.wr p.id∉s.fds∨k=0)(hm:m=min k p.byt.length):HOk E s D (s.put p.id (p.byt.drop m)) m 0 (p.byt.take m) 240 10 n k t lp dp ln lc dn dc w:=by
 have hpi:=hp.nG p bA;have hrd:=List.mem_of_getElem? hf;obtain⟨p0,cap0,Vf,h1,h2⟩:=hpi.b.slice;have hml:m≤p.byt.length:=by omega
 have hr:=hpi.r hrd;refine(tT E.kb E.pb (D.re p.id) _ _ _ _ 2 10 n k t lp dp ln lc dn dc w (tN _) (fZ hx hp hwf hf rfl) (by decide) (by omega) (by omega) (λpp l c ev w'=>ev=.nilIface∧pp=p0∧l=m∧c=m∧Blk w' (D.ch p.id) [bD (D.bv p.id) m,.int .i64 ((if Fd.rd p.id∈s.fds then 1 else 0:Nat):Int),.int .i64 ((if Fd.wr p.id∈s.fds then 1 else 0:Nat):Int)] 475∧Keep (λq=>q=D.ch p.id) w w') (λp l c ev W h=>⟨by omega,.inl h.1⟩) λW hW hsz iX=>?_).mono ?_
 ·refine(Qk (D.re p.id) (D.ch p.id) k m _ _ _ (D.bv p.id) p.byt W (hr.bel hW) (hpi.c.bel hW) (hpi.b.bel hW) ?_ hm).mono ?_
  ·rcases h0 with h|h|h
   ·exact .inl h
   ·exact .inr (.inl (by rw[if_neg h];decide))
   ·exact .inr (.inr h)
  ·rintro e w' ⟨rfl,b1,k1⟩
   exact⟨p0,m,m,_,by rw[Vf];rfl,⟨rfl,rfl,rfl,rfl,b1,(Keep.of_bel _ hW).tr k1⟩,iX.keep k1 λe=>iX.ne (hpi.c.bel hW) (by decide) e⟩
 ·rintro e w' ⟨pp,l,c,ev,w0,rfl,⟨rfl,rfl,rfl,rfl,b1,k1⟩,kb⟩
  have hcl:=hpi.c.lt;have b2:=b1.keep kb (by show ¬D.ch p.id=_;omega);have k2:Keep (λq=>q=D.ch p.id) w w':=k1.aY kb λi hi=>.inr (by have hi:i=w.heap.size+1:=hi;omega);have ht:Buf w' (D.bv p.id) p.byt:=hpi.b.keep k2 λg hg=>by obtain⟨_,hb⟩:=hpi.b.blk hg;exact hb.ne hpi.c (by decide)
  have f1:∀g,ag (bD (D.bv p.id) c)=some g→ag (D.bv p.id)=some g∨w.heap.size≤g:=λg hg=>.inl (by rw[lC]at hg;exact hg);refine⟨c,0,pp,c,c,rfl,rfl,rfl,by simp;omega,{D with bv:=rY D.bv p.id (bD (D.bv p.id) c)},⟨hp.put hk bA k2 _ _ b2 (ht.drop hml) f1,k2.mono λq hq=>by have hq:q=D.ch p.id:=hq;subst hq;exact Dj bA,PP.FV bA f1,λq hq=>hp.lt hq⟩,?_,?_⟩
  ·have:=ht.take hml
   rw[Vf]at this;have e:(p.byt.take c).length=c:=by simp;omega
   have h3:Buf w' (.slice pp c c) (p.byt.take c):=this;exact h3.byt
  ·rintro g o rfl h3
   have hg0:ag (D.bv p.id)=some g:=by rw[Vf];rfl
   exact⟨Lv bA hg0,λhg=>absurd hg (hp.zC p bA g hg0).1,(hp.zC p bA g hg0).2⟩
theorem JL(n:Nat)(b:Int)(d:List Int)(t:ByteArray)(lp dp:Option Addr)(ln lc dc:Nat)(hf:s.fds[n]?=some .jo)(hd4:d.length≤4096)(hd:kY w dp d)(hlen:s.out.length+d.length≤100000000):Calls prog 241 #[E.kb,E.pb,.agg #[(11:Int),.int .i64 n,b,t,(lp,ln,lc),(dp,d.length,dc)]] w λe w'=>e=.returned (.tuple #[.int .i64 d.length,.nilIface])∧∃D',zD E s D {s with out:=s.out++d} w.heap.size w D' w':=by
 refine(qE E.kb E.pb E.cb _ _ _ _ 4 11 n b t lp dp ln lc d.length dc w (nI E.cb) (fZ hx hp hwf hf rfl) (by decide) hd4 (λl ev w'=>l=d.length∧ev=.nilIface∧∃D',zD E s D {s with out:=s.out++d} w.heap.size w D' w') λW hW=>?_).mono ?_
 ·have Sb:=hp.bel hW
  refine(MI E.cb _ _ D.uv s.out d dp dc W Sb.hc Sb.ub (hd.bel hW) hlen).mono ?_;rintro e w' ⟨rfl,v',wa,b1,b2,ka,k1,f2⟩;have k2:Keep (λq=>q=E.cb∨ag D.uv=some q) W w':=(ka.keep.mono λq h=>.inr h).tr (k1.mono λq h=>.inl h);have hS:∀q,q=E.cb∨ag D.uv=some q→q=E.cb∨ag D.tv=some q∨ag D.uv=some q:=λq h=>h.imp id .inr;have ht:Buf w' D.tv s.typed:=Sb.tb.keep k2 λg hg hq=>hq.elim (λe=>by obtain⟨_,hb⟩:=Sb.tb.blk hg;exact hb.ne Sb.hc (by decide) e) λe=>hp.ap g hg e;have f1:∀g,ag D.tv=some g→ag D.tv=some g∨W.heap.size≤g:=λg hg=>.inl hg;refine⟨_,_,rfl,rfl,rfl,{D with tv:=D.tv,uv:=v'},zD.bel ⟨Sb.jo (hk.tr (Keep.of_bel _ hW)) k2 hS D.tv v' s.typed _ b1 ht b2 (λg hg e=>?_) f1 f2,uw hS k2,PP.zG f1 f2,λq hq=>Sb.lt hq⟩ hW hp hW.le⟩;rcases f2 g e with h|h
  ·exact hp.ap g hg h
  ·obtain⟨_,hb⟩:=Sb.tb.blk hg
   have:=hb.lt;omega
 ·rintro e w' ⟨l,ev,rfl,rfl,rfl,h⟩
  exact⟨rfl,h⟩
theorem FY(n m:Nat)(b:Int)(d:List Int)(p:dH)(t:ByteArray)(lp dp:Option Addr)(ln lc dc:Nat)(bA:p∈s.pipes)(hf:s.fds[n]?=some (.wr p.id))(hd4:d.length≤4096)(hrd:Fd.rd p.id∈s.fds)(h0:p.byt.length<64∨d.length=0)(hm:m=min (64-p.byt.length) d.length)(hd:Buf w (.slice dp d.length dc) d):Calls prog 241 #[E.kb,E.pb,.agg #[(11:Int),.int .i64 n,b,t,(lp,ln,lc),(dp,d.length,dc)]] w λe w'=>e=.returned (.tuple #[.int .i64 m,.nilIface])∧∃D',zD E s D (s.put p.id (p.byt++d.take m)) w.heap.size w D' w':=by
 have hpi:=hp.nG p bA;have hwr:=List.mem_of_getElem? hf;have hu:=hpi.u hwr;refine(qE E.kb E.pb (D.we p.id) _ _ _ _ 3 11 n b t lp dp ln lc d.length dc w (tQ _) (fZ hx hp hwf hf rfl) (by decide) hd4 (λl ev w'=>l=m∧ev=.nilIface∧∃D',zD E s D (s.put p.id (p.byt++d.take m)) w.heap.size w D' w') λW hW=>?_).mono ?_
 ·have Sb:=hp.bel hW
  refine(MH (D.we p.id) (D.ch p.id) m d.length _ _ _ (D.bv p.id) p.byt d dp dc W (hu.bel hW) (hpi.c.bel hW) (hpi.b.bel hW) (hd.bel hW) (by rw[if_pos hrd];decide) (hwf.b64 p bA) h0 hm (by omega)).mono ?_;rintro e w' ⟨rfl,v',b1,b2,k1,f1⟩;exact⟨_,_,rfl,rfl,rfl,_,zD.bel ⟨Sb.put (hk.tr (Keep.of_bel _ hW)) bA k1 v' _ b1 b2 f1,k1.mono λq hq=>by have hq:q=D.ch p.id:=hq;subst hq;exact Dj bA,PP.FV bA f1,λq hq=>Sb.lt hq⟩ hW hp hW.le⟩
 ·rintro e w' ⟨l,ev,rfl,rfl,rfl,h⟩
  exact⟨rfl,h⟩
theorem Vg{k a b:Int}{d:List Int}{N M f:Int}{L:List Int}{s':St}(o:vN E.l.c.toNat s k a b d N M f L s')(t:ByteArray)(lp dp:Option Addr)(ln lc dc:Nat)(hd:Buf w (.slice dp d.length dc) d)(hlen:s.out.length+d.length≤100000000) :
 (f=0∧ZI E s D s' N M L 1 k a b t lp dp ln lc d.length dc w)∨(f≠0∧N=0∧M=0∧L=[]∧s'=s∧FU E f 1 k a b t lp dp ln lc d.length dc w):=by
 have YK:∀(args:Array Value) (W:World),(callFunc 240 args).run prog W=.ok (.enter 240 args) W:=λ_ _=>by kernel_rfl
 have YL:∀(args:Array Value) (W:World),(callFunc 241 args).run prog W=.ok (.enter 241 args) W:=λ_ _=>by kernel_rfl
 have cfD:∀(args:Array Value) (W:World),(callFunc 243 args).run prog W=.ok (.enter 243 args) W:=λ_ _=>by kernel_rfl
 have cfP:∀(args:Array Value) (W:World),(callFunc 244 args).run prog W=.ok (.enter 244 args) W:=λ_ _=>by kernel_rfl
 have cfC:∀(args:Array Value) (W:World),(callFunc 238 args).run prog W=.ok (.enter 238 args) W:=λ_ _=>by kernel_rfl
 have hkW:∀{W},Bel w W→eH E W:=λhW=>hk.tr (Keep.of_bel _ hW);cases o with
 | call _ _ _ _ h=>exact .inr ⟨by simp,rfl,rfl,rfl,rfl,RZ hx hp hk k a b t lp dp ln lc _ dc h⟩
 | bad _ _ _ _ hkk h=>
   refine .inr ⟨by simp,rfl,rfl,rfl,rfl,?_⟩;rcases hkk with rfl|rfl|rfl|rfl
   ·exact Dh hx hp hk 13 _ 9 a b t lp dp ln lc _ dc cfC tV λW hW=>(MR E.kb E.pb 9 a b t lp dp ln lc _ dc W λW2 hW2=>xS hx (hp.bel hW) hwf h W2 hW2)
   ·exact mF hx hp hk 13 _ 10 a b t lp dp ln lc _ dc YK gV λW hW=>((Qt E.kb E.pb 10 a b t _ _ W ⟨lp,ln,lc,rfl⟩ ⟨dp,d.length,dc,rfl⟩ λW2 hW2=>xS hx (hp.bel hW) hwf h W2 hW2).mono λe w' h=>⟨_,_,_,_,_,h.1,h.2⟩)
   ·exact gZ hx hp hk 13 _ 11 a b t lp dp ln lc _ dc YL fU λW hW=>((MN E.kb E.pb 11 a b t lp dp ln lc _ dc W λW2 hW2=>xS hx (hp.bel hW) hwf h W2 hW2).mono λe w' h=>⟨_,h.1,h.2⟩)
   ·exact gZ hx hp hk 13 _ 13 a b t lp dp ln lc _ dc cfD rO λW hW=>((Ut E.kb E.pb 13 a b t lp dp ln lc _ dc W λW2 hW2=>xS hx (hp.bel hW) hwf h W2 hW2).mono λe w' h=>⟨_,h.1,h.2⟩)
 | close n _ _ f hf hne=>
   refine .inl ⟨rfl,RY hx hp hk _ 9 n b t lp dp ln lc _ dc cfC tV λW hW=>?_⟩;obtain⟨ty,q,e1,_⟩:=si hx hp hwf n f hf hne;refine MS E.kb E.pb q ty 9 n b t lp dp ln lc _ dc W (λW2 hW2=>fZ hx (hp.bel hW) hwf hf e1 W2 hW2) _ λW2 hW2=>?_;obtain⟨ty2,q2,_,hcl⟩:=si hx (hp.bel (hW.tr hW2)) hwf n f hf hne;refine hcl.mono ?_;rintro e w' ⟨rfl,D',h⟩;exact⟨rfl,D',h.bel hW2 (hp.bel hW) hW2.le⟩
 | rwr n i _ _ hf=>exact .inr ⟨by simp,rfl,rfl,rfl,rfl,mF hx hp hk 13 _ 10 n b t lp dp ln lc _ dc YK gV λW hW=>((II E.kb E.pb (D.we i) _ _ _ _ 3 10 n b t lp dp ln lc _ dc W (tQ _) (λW2 hW2=>fZ hx (hp.bel hW) hwf hf rfl W2 hW2) rfl).mono λe w' h=>⟨_,_,_,_,_,h.1,h.2⟩)⟩
 | YF n _ _ f hf hne hw hb=>
   refine .inr ⟨by simp,rfl,rfl,rfl,rfl,mF hx hp hk 6 _ 10 n b t lp dp ln lc _ dc YK gV λW hW=>?_⟩;cases f with
   | no=>exact absurd rfl hne
   | wr i=>exact absurd rfl (hw i)
   | jo=>
     rcases hb with hb|hb
     ·exact(AV E.kb E.pb E.cb _ _ _ _ 4 10 n b t lp dp ln lc _ dc W (nI _) (λW2 hW2=>fZ hx (hp.bel hW) hwf hf rfl W2 hW2) (by decide) hb).mono λe w' h=>⟨_,_,_,_,_,h.1,h.2⟩
     ·exact(AX E.kb E.pb E.cb _ _ _ _ 4 10 n b t lp dp ln lc _ dc W (nI _) (λW2 hW2=>fZ hx (hp.bel hW) hwf hf rfl W2 hW2) (by decide) hb).mono λe w' h=>⟨_,_,_,_,_,h.1,h.2⟩
   | rd i=>
     rcases hb with hb|hb
     ·exact(AV E.kb E.pb (D.re i) _ _ _ _ 2 10 n b t lp dp ln lc _ dc W (tN _) (λW2 hW2=>fZ hx (hp.bel hW) hwf hf rfl W2 hW2) (by decide) hb).mono λe w' h=>⟨_,_,_,_,_,h.1,h.2⟩
     ·exact(AX E.kb E.pb (D.re i) _ _ _ _ 2 10 n b t lp dp ln lc _ dc W (tN _) (λW2 hW2=>fZ hx (hp.bel hW) hwf hf rfl W2 hW2) (by decide) hb).mono λe w' h=>⟨_,_,_,_,_,h.1,h.2⟩
 | RI n _ _ hf h0 h4 ht=>
   refine .inr ⟨by simp,rfl,rfl,rfl,rfl,mF hx hp hk 16 _ 10 n b t lp dp ln lc _ dc YK gV λW hW=>?_⟩;refine(tT E.kb E.pb E.cb _ _ _ _ 4 10 n b t lp dp ln lc _ dc W (nI E.cb) (λW2 hW2=>fZ hx (hp.bel hW) hwf hf rfl W2 hW2) (by decide) (by omega) h4 (λp l c ev w'=>p=none∧l=0∧c=0∧ev=.iface 48 (.int .i64 16)∧Bel W w') (λp l c ev W h=>⟨by omega,.inr ⟨_,_,h.2.2.2.1⟩⟩) λW2 hW2 hsz iX=>?_).mono ?_
   ·have hb2:=(hp.bel hW).bel hW2
    refine(EC E.cb b _ _ D.tv W2 hb2.hc (by have:=hb2.tb;rw[ht]at this;exact this) h0).mono ?_;rintro e w' ⟨rfl,rfl⟩;exact⟨none,0,0,_,rfl,⟨rfl,rfl,rfl,rfl,hW2⟩,iX⟩
   ·rintro e w' ⟨p,l,c,ev,w0,rfl,⟨rfl,rfl,rfl,rfl,hb⟩,kb⟩
    exact⟨_,_,_,_,_,rfl,dI hb kb (by omega)⟩
 | U7 n kk m _ hf h4 h0 hm=>exact .inl ⟨rfl,JG hx hp hk m 0 _ _ 10 n kk t lp dp ln lc _ dc YK gV λW hW=>by
    have h:=Ot hx (hp.bel hW) (hkW hW) hwf n kk m t lp dp ln lc d.length dc hf h4 h0 hm;exact h⟩
 | YG n _ _ p bA hf h0 h4 ht hwr=>
   have hpi:=hp.nG p bA;have hrd:=List.mem_of_getElem? hf;refine .inr ⟨by simp,rfl,rfl,rfl,rfl,mF hx hp hk 16 _ 10 n b t lp dp ln lc _ dc YK gV λW hW=>?_⟩;refine(tT E.kb E.pb (D.re p.id) _ _ _ _ 2 10 n b t lp dp ln lc _ dc W (tN _) (λW2 hW2=>fZ hx (hp.bel hW) hwf hf rfl W2 hW2) (by decide) (by omega) h4 (λp l c ev w'=>p=none∧l=0∧c=0∧ev=.iface 48 (.int .i64 16)∧Bel W w') (λp l c ev W h=>⟨by omega,.inr ⟨_,_,h.2.2.2.1⟩⟩) λW2 hW2 hsz iX=>?_).mono ?_
   ·have k2:=hW.tr hW2
    refine(ED (D.re p.id) (D.ch p.id) b _ _ _ (D.bv p.id) W2 ((hpi.r hrd).bel k2) (hpi.c.bel k2) (by have:=hpi.b.bel k2;rw[ht]at this;exact this) h0 (by rw[if_pos hwr];decide)).mono ?_;rintro e w' ⟨rfl,rfl⟩;exact⟨none,0,0,_,rfl,⟨rfl,rfl,rfl,rfl,hW2⟩,iX⟩
   ·rintro e w' ⟨p,l,c,ev,w0,rfl,⟨rfl,rfl,rfl,rfl,hb⟩,kb⟩
    exact⟨_,_,_,_,_,rfl,dI hb kb (by omega)⟩
 | rrd n kk m _ p bA hf h4 h0 hm=>exact .inl ⟨rfl,JG hx hp hk m 0 _ _ 10 n kk t lp dp ln lc _ dc YK gV λW hW=>JK hx (hp.bel hW) (hkW hW) hwf n kk m p t lp dp ln lc _ dc bA hf h4 h0 hm⟩
 | wrd n i _ _ hf=>exact .inr ⟨by simp,rfl,rfl,rfl,rfl,gZ hx hp hk 13 _ 11 n b t lp dp ln lc _ dc YL fU λW hW=>((EI E.kb E.pb (D.re i) _ _ _ _ 2 11 n b t lp dp ln lc _ dc W (tN _) (λW2 hW2=>fZ hx (hp.bel hW) hwf hf rfl W2 hW2) rfl).mono λe w' h=>⟨_,h.1,h.2⟩)⟩
 | YH n _ _ f hf hne hw hb=>
   refine .inr ⟨by simp,rfl,rfl,rfl,rfl,gZ hx hp hk 6 _ 11 n b t lp dp ln lc _ dc YL fU λW hW=>?_⟩;cases f with
   | no=>exact absurd rfl hne
   | rd i=>exact absurd rfl (hw i)
   | jo=>exact(yI E.kb E.pb E.cb _ _ _ _ 4 11 n b t lp dp ln lc _ dc W (nI _) (λW2 hW2=>fZ hx (hp.bel hW) hwf hf rfl W2 hW2) (by decide) hb).mono λe w' h=>⟨_,h.1,h.2⟩
   | wr i=>exact(yI E.kb E.pb (D.we i) _ _ _ _ 3 11 n b t lp dp ln lc _ dc W (tQ _) (λW2 hW2=>fZ hx (hp.bel hW) hwf hf rfl W2 hW2) (by decide) hb).mono λe w' h=>⟨_,h.1,h.2⟩
 | U8 n _ _ hf h4=>exact .inl ⟨rfl,Dg hx hp hk _ _ 11 n b t lp dp ln lc _ dc YL fU λW hW=>JL hx (hp.bel hW) (hkW hW) hwf n b d t lp dp ln lc dc hf h4 (hd.byt.bel hW) hlen⟩
 | RJ n _ _ p bA hf h4 hr=>
   have hpi:=hp.nG p bA;refine .inr ⟨by simp,rfl,rfl,rfl,rfl,gZ hx hp hk 15 _ 11 n b t lp dp ln lc _ dc YL fU λW hW=>?_⟩;refine(qE E.kb E.pb (D.we p.id) _ _ _ _ 3 11 n b t lp dp ln lc d.length dc W (tQ _) (λW2 hW2=>fZ hx (hp.bel hW) hwf hf rfl W2 hW2) (by decide) h4 (λl ev w'=>ev=.iface 48 (.int .i64 15)∧Bel W w') λW2 hW2=>?_).mono ?_
   ·have k2:=hW.tr hW2
    have hc:=hpi.c;rw[if_neg hr]at hc;refine(EE (D.we p.id) (D.ch p.id) _ _ (D.bv p.id) p.byt dp d.length dc W2 ((hpi.u (List.mem_of_getElem? hf)).bel k2) (hc.bel k2) (hpi.b.bel k2) (hwf.b64 p bA)).mono ?_;rintro e w' ⟨rfl,rfl⟩;exact⟨_,_,rfl,rfl,hW2⟩
   ·rintro e w' ⟨l,ev,rfl,rfl,h⟩
    exact⟨_,rfl,h⟩
 | JE n _ _ p bA hf h4 hr h64 h0=>
   have hpi:=hp.nG p bA;refine .inr ⟨by simp,rfl,rfl,rfl,rfl,gZ hx hp hk 16 _ 11 n b t lp dp ln lc _ dc YL fU λW hW=>?_⟩;refine(qE E.kb E.pb (D.we p.id) _ _ _ _ 3 11 n b t lp dp ln lc d.length dc W (tQ _) (λW2 hW2=>fZ hx (hp.bel hW) hwf hf rfl W2 hW2) (by decide) h4 (λl ev w'=>ev=.iface 48 (.int .i64 16)∧Bel W w') λW2 hW2=>?_).mono ?_
   ·have k2:=hW.tr hW2
    refine(Cw (D.we p.id) (D.ch p.id) _ _ _ (D.bv p.id) p.byt dp d.length dc W2 ((hpi.u (List.mem_of_getElem? hf)).bel k2) (hpi.c.bel k2) (hpi.b.bel k2) (by rw[if_pos hr];decide) h64 h0).mono ?_;rintro e w' ⟨rfl,rfl⟩;exact⟨_,_,rfl,rfl,hW2⟩
   ·rintro e w' ⟨l,ev,rfl,rfl,h⟩
    exact⟨_,rfl,h⟩
 | wok n m _ _ p bA hf h4 hr h0 hm=>exact .inl ⟨rfl,Dg hx hp hk _ _ 11 n b t lp dp ln lc _ dc YL fU λW hW=>FY hx (hp.bel hW) (hkW hW) hwf n m b d p t lp dp ln lc dc bA hf h4 hr h0 hm (hd.bel hW)⟩
 | RL n _ _ f hf hne hno=>
   refine .inr ⟨by simp,rfl,rfl,rfl,rfl,gZ hx hp hk 14 _ 13 n b t lp dp ln lc _ dc cfD rO λW hW=>?_⟩;obtain⟨ty,q,e1,_⟩:=si hx hp hwf n f hf hne;exact(MO E.kb E.pb q ty 13 n b t lp dp ln lc _ dc W (λW2 hW2=>fZ hx (hp.bel hW) hwf hf e1 W2 hW2) (λW2 hW2=>by have:=su hx (hp.bel hW) hwf (from_:=0) (by omega) hno W2 hW2;simpa using this)).mono λe w' h=>⟨_,h.1,h.2⟩
 | dup n r _ _ f hf hne hr=>
   refine .inl ⟨rfl,Dg hx hp hk _ _ 13 n b t lp dp ln lc _ dc cfD rO λW hW=>?_⟩;obtain⟨ty,q,e1,_⟩:=FW hx hp hwf r f hr.2.1 (List.mem_of_getElem? hf) hne;refine Uu E.kb E.pb q ty 13 n b t lp dp ln lc _ dc W (λW2 hW2=>fZ hx (hp.bel hW) hwf hf e1 W2 hW2) r _ (λW2 hW2=>by have:=nQ hx (hp.bel hW) hwf hr W2 hW2;simpa using this) λW2 hW2=>?_;obtain⟨ty2,q2,e2,hcl⟩:=FW hx (hp.bel (hW.tr hW2)) hwf r f hr.2.1 (List.mem_of_getElem? hf) hne;rw[e1]at e2;cases e2
   refine hcl.mono ?_;rintro e w' ⟨rfl,D',h⟩;exact⟨rfl,D',h.bel hW2 (hp.bel hW) hW2.le⟩
 | pno _ _ _ hno=>exact .inr ⟨by simp,rfl,rfl,rfl,rfl,mF hx hp hk 14 _ 14 a b t lp dp ln lc _ dc cfP l6 λW hW=>((MP E.kb E.pb E.ob 14 a b t lp dp ln lc _ dc W (hp.bel hW).c7 (λW2 hW2=>by have:=su hx (hp.bel hW) hwf (from_:=0) (by omega) hno W2 hW2;simpa using this)).mono λe w' h=>⟨_,_,_,_,_,h.1,h.2⟩)⟩
 | YI r _ _ _ hr hno=>
   have tK:r<8:=by rw[←hwf.fl];exact(bZ hr.2.1).1
   exact .inr ⟨by simp,rfl,rfl,rfl,rfl,mF hx hp hk 14 _ 14 a b t lp dp ln lc _ dc cfP l6 λW hW=>((MQ E.kb E.pb E.ob 14 a b t lp dp ln lc _ dc W (hp.bel hW).c7 r tK (λW2 hW2=>by have:=nQ hx (hp.bel hW) hwf hr W2 hW2;simpa using this) (λW2 hW2=>by have:=su hx (hp.bel hW) hwf (from_:=r+1) (by omega) hno W2 hW2;simpa using this)).mono λe w' h=>⟨_,_,_,_,_,h.1,h.2⟩)⟩
 | RN r m _ _ _ hr hm hl=>
   have tK:r<8:=by rw[←hwf.fl];exact(bZ hr.2.1).1
   have hol:=Dm hx hp hwf;have hoc:((E.l.c.toNat:Nat):Int)=E.l.c:=Int.toNat_of_nonneg hx.lc.1;refine .inr ⟨by simp,rfl,rfl,rfl,rfl,mF hx hp hk 12 _ 14 a b t lp dp ln lc _ dc cfP l6 λW hW=>((IJ E.kb E.pb E.ob 14 a b t lp dp ln lc _ dc W (hp.bel hW).c7 r m tK (λW2 hW2=>by have:=nQ hx (hp.bel hW) hwf hr W2 hW2;simpa using this) (λW2 hW2=>by have:=nQ hx (hp.bel hW) hwf hm W2 hW2;simpa using this) λW2 hW2=>?_).mono λe w' h=>⟨_,_,_,_,_,h.1,h.2⟩)⟩;refine(AO E.ob (aj s.fds s.pipes).length E.l.c.toNat 2 W2 (by rw[hoc];exact(hp.bel hW).ho.bel hW2) (by omega) (by omega)).mono ?_;rintro e w' ⟨rfl,h⟩;exact⟨by rw[decide_eq_false (by omega)],h⟩
 | pipe r m _ _ _ hr hm hl=>exact .inl ⟨rfl,JG hx hp hk r m [] _ 14 a b t lp dp ln lc _ dc cfP l6 λW hW=>Oq hx (hp.bel hW) (hkW hW) hwf r m a b t lp dp ln lc _ dc hr hm hl⟩
end
end
end Go.Proofs.YtcnjjchlebmfiaaGreatDoor
