/-.-/
import Derived.Test.YtcnjjchlebmfiaaGreatDoorP12
import Derived.Test.YtcnjjchlebmfiaaGreatDoorP08
import Derived.Deep.DrawnRows
import Derived.WalkLawsBesides
import Derived.Shelf.SlSortCmp.NoneTotal
import Derived.Laws.EntriesVeiled
set_option linter.all false
set_option maxRecDepth 100000
set_option maxHeartbeats 16000000
namespace Go.Proofs.YtcnjjchlebmfiaaGreatDoor
section
open Go.Proofs.Tryz Go.RowKit
theorem Ag{P:Program}{w:World}{base:Nat}{e:TypeId}{size:Nat}{v:Value}{n:Nat}{xs:List Value}{ops:Array Oper}{o:Oper}{a:Act}{K:Act→World→Prop}{Q:Exit→Act→World→Prop}{E:Prop}(hgd:o.guard=none)(s x:Operand)(t:TypeId)
 (ho:o.op=.call {callee:=.builtin .append,args:= #[s,x],argTypes:= #[t,t]}){bytes:Nat}(ht:P.underlying t=some (.slice e))
 (hi:(P.info? e).map (λi=>(i.size,i.bytes,(i.zero.map (·.cells.size))))=some (size,bytes,some size))(hsz:0<size)
 (hs:a.eval s=v)(hown:w.ownsRow base e size v n xs)(g m c:Nat)(cs:List Value)(hx:a.eval x=.slice (g,0) m c)(hB:∀j u,cs[j]?=some u→w.cell? ⟨g,j,none⟩=some u)(hl:cs.length=m*size)(h1:∀u∈cs,u.oneCell'=true)
 (h63:n+m≤maxLen)(hbytes:(n+m)*bytes≤140737488355328)(hbase:base≤w.heap.size)
 (h:∀p cp w',w'.ownsRow base e size (.slice p (n+m) cp) (n+m) (xs++cs)→Keep (λq=>v.ownBlock=some q) w w'→(∀q,(Value.slice p (n+m) cp).ownBlock=some q→v.ownBlock=some q∨q=w.heap.size)→K (a.put o.dst (.slice p (n+m) cp)) w'):if Region.wanted o (yielded ops a.tmps)=true then Oper.wp P o a w K Q else E:=by
 have hw:Region.wanted o (yielded ops a.tmps)=true:=by simp[Region.wanted,hgd]
 rw[if_pos hw];obtain⟨i,z,hi,hz,e1,e2,e3⟩:=info_of hi;obtain⟨v',w',hrun,k1,k2,_,k3⟩:=run_append_own_at (P:=P) w base t o.type e i z size bytes ht hi hz e1 e2 e3 hsz v n xs hown ⟨g,0,none⟩ m c cs hl (λj u hj=>by
  rw[show(⟨g,0,none⟩:Addr).add j=⟨g,j,none⟩from by unfold Addr.add;split<;>simp_all];exact hB j u hj) h1 h63 hbytes hbase
 obtain⟨p,cp,rfl,_⟩:=aG k1;unfold Oper.wp;simp[execOp,ho,resolve,invoke,builtin,hs,hx,hrun,Result.andThen]
 exact h p cp w' k1 ⟨k2.os,k2.tape,k2.output,k2.size,λk hk hn=>k2.block k hk λe=>hn e.symm⟩ λq hq=>by
  rcases k3 with k3|k3
  ·exact .inl (k3▸hq)
  ·exact .inr (Option.some.inj (hq.symm.trans k3))
theorem FM(w:World):Calls prog 90 #[.map none] w (Z.b (.slice none 0 0) w):=by
 go_enter func90,ntmps90
 go_wp2_with (first
  | (go_at_call 173;refine(Ed _ _).mono ?_;rintro e w1 ⟨rfl,rfl⟩)
  | (go_at_call 172;refine(FN w.heap.size _ (by simp) (by simp)).mono ?_;rintro e w2 ⟨rfl,k2⟩;have iC:Hid (Bel w w2):=xh ((Bel.start w _).tr k2);clear k2))
 refine wp_loop_rounds 1 ?_;rw[rounds_succ];go_wp2
 go_ret
 exact⟨rfl,iC.o⟩
theorem Qp:(prog.info? 5).map (λi=>(i.size,i.bytes,(i.zero.map (·.cells.size))))=some (1,1,some 1):=by kernel_rfl
def Ee:Prop:=(prog.info? 71).map (λi=>(i.size,i.bytes,(i.zero.map (·.cells.size))))=some (3,48,some 3)
theorem U3:Ee:=by unfold Ee;kernel_rfl
def uw(T:List Pn)(k:Nat):List UInt8×Bool×List Int:=(dW (aJ T) k,((T[k-1]?).map Pn.dir).getD false,((T[k-1]?).map Pn.byt).getD [])
def FileR.key(r:FileR):List UInt8×Bool×List Int:=(r.path,r.dir,r.byt)
structure Ah(w:World)(bl bw:Nat)(v:Value):Prop where
 l:Blk w bl [v] 24
 f:Blk w bw [.func (.func 89) #[] #[bl,bw]] 229
structure abB(W:World)(bl bw base:Nat)(v:Value)(R:List FileR)(T:List Pn)(D:List Nat)(w':World):Prop where
 out:∃(v':Value) (E:List Nat) (Rn:List FileR),E.Perm D∧Rn.map FileR.key=E.map (uw T)∧Ah w' bl bw v'∧FRows w' base v' (R++Rn)∧Keep (λq=>q=bl∨v.ownBlock=some q) W w'∧∀q,v'.ownBlock=some q→v.ownBlock=some q∨W.heap.size≤q
theorem U4{wr w5 w8:World}{base bl bw n c5 c8:Nat}{v':Value}{RR:List FileR}{p5 p8:Option Addr}{o:Obj}{r:FileR}{cs:List Value}(hbx:Ah wr bl bw v')(hfr:FRows wr base v' RR)(hbb:bl<base)(hbw:bw<base)(hne:bl≠bw)(hk5:Bel wr w5)
 (h5:Rw w5 (.slice p5 n c5) r.byt)(h6:∀g,(Value.slice p5 n c5).ownBlock=some g→wr.heap.size≤g)(hbase:base≤wr.heap.size)
 (R8:w8.ownsRow base 71 3 (.slice p8 (RR.length+1) c8) (RR.length+1) (RR.flatMap FileR.cells++cs))(K8:Keep (λq=>v'.ownBlock=some q) (w5.alloc o) w8)(O8:∀q,(Value.slice p8 (RR.length+1) c8).ownBlock=some q→v'.ownBlock=some q∨q=(w5.alloc o).heap.size)
 (hr:r.cells=cs)(hrb:r.bv=.slice p5 n c5) :
 Ah (w8.setCell (bl,0) (.slice p8 (RR.length+1) c8)) bl bw (.slice p8 (RR.length+1) c8)∧FRows (w8.setCell (bl,0) (.slice p8 (RR.length+1) c8)) base (.slice p8 (RR.length+1) c8) (RR++[r])∧
  Keep (λq=>q=bl∨v'.ownBlock=some q) wr (w8.setCell (bl,0) (.slice p8 (RR.length+1) c8))∧∀q,(Value.slice p8 (RR.length+1) c8).ownBlock=some q→v'.ownBlock=some q∨wr.heap.size≤q:=by
 have hv:∀q,v'.ownBlock=some q→base≤q:=λq hq=>(row_blk hfr.row hq).1;have ka:Bel wr (w5.alloc o):=hk5.ac o;have B8:=(hbx.l.bel ka).keep K8 (λe=>by have:=hv _ e;omega);have F8:=(hbx.f.bel ka).keep K8 (λe=>by have:=hv _ e;omega);have ks:=Keep.setCell w8 bl 0 (.slice p8 (RR.length+1) c8);refine⟨⟨B8.setCell (o:=0) _,F8.keep ks (λe=>hne e.symm)⟩,?_,?_,?_⟩
 ·have hfa:=hfr.bel ka
  have h5a:Rw (w5.alloc o) r.bv r.byt:=by rw[hrb];exact h5.bel (Bel.start w5 o)
  have hs:=hfa.snoc (r:=r) h5a (λg hg=>by rw[hrb]at hg;have:=h6 g hg;omega) (by decide) (by rw[hr];exact R8) K8;exact hs.keep ks (λg hg _ e=>by have e:g=bl:=e;omega)
 ·exact((Keep.of_bel _ ka).tr (K8.mono λq h=>.inr h)).tr (ks.mono λq h=>.inl h)
 ·intro q hq
  rcases O8 q hq with h|h
  ·exact .inl h
  ·have:=ka.size
   exact .inr (by omega)
theorem U5(A:bJ)(T:List Pn)(hl:T.length≤8000)(hlv:Live T)(hs:∀n∈aJ T,n.name.size≤1000)(hby:∀n∈T,n.byt.length≤1000000)(bl bw base:Nat)(hbb:bl<base)(hbw:bw<base)(hbne:bl≠bw)(Ef:∀q,uu A T q→q<base∧q≠bl) :
 ∀(f d:Nat) (n:Pn) (W:World) (v:Value) (R:List FileR),T.length≤d+f→T[d]?=some n→n.gone=false→dV W A T→base≤W.heap.size→Ah W bl bw v→FRows W base v R→R.length+(eH (aJ T) f (d+1)).length≤100000→
 Calls prog 89 #[A.ptr (d+1),bl,bw] W λe w'=>e=.returned (.tuple #[])∧abB W bl bw base v R T (eH (aJ T) f (d+1)) w':=by
 intro f
 induction f with
 | zero=>
   intro d n W v R hf hd;have:=(bV hd).1;omega
 | succ f ih=>
   intro d n W v R hf hd hg ht hbase hbx hfr hcnt;have hB:=ht.node d n hd;have c2:=hB.c 2 rfl;rw[show A.ptr (d+1)=.pointer (A.nb (d+1),0)from rfl];cases oW:n.dir with
   | false=>
     have hkn:nV (aJ T) (d+1)=[]:=by
      refine List.eq_nil_iff_forall_not_mem.2 λk hk=>?_;obtain⟨j,x,hj,hp,rfl⟩:=oZ.1 hk;unfold aJ at hj;rw[fA]at hj;cases hy:T[j]? with
      | none=>rw[hy]at hj;cases hj
      | some y=>
        rw[hy]at hj;simp only[Option.map_some,Option.some.injEq]at hj
        subst hj;have hyp:y.par=d+1:=by
         have:(if y.gone then 0 else y.par)=d+1:=hp;split at this
         ·omega
         ·exact this
        obtain⟨p,h1,h2⟩:=ht.KW j y hy (by omega);rw[hyp,Nat.add_sub_cancel,hd]at h1;cases h1
        rw[oW]at h2;cases h2
     rw[show n.map A (d+1)=none from by unfold Pn.map;rw[oW];rfl]at c2;have Y0:=xh hfr;have uy:=xh hbx;clear hfr hbx hB ht;go_enter func89,ntmps89;go_wp2_with (go_at_call 90;((with_reducible refine aH (FM _) ?_);rintro e w1 ⟨rfl,k1⟩;have bP:=xh k1;clear k1))
     refine wp_loop_rounds 1 ?_;rw[rounds_succ];go_wp2
     go_end0
     refine⟨rfl,⟨v,[],[],?_,rfl,⟨uy.o.l.bel bP.o,uy.o.f.bel bP.o⟩,by rw[List.append_nil];exact Y0.o.bel bP.o,Keep.of_bel _ bP.o,λq hq=>.inl hq⟩⟩;unfold eH;rw[hkn];exact List.Perm.nil
   | true=>
     have hvl:∀q,v.ownBlock=some q→base≤q∧q<W.heap.size:=λq hq=>by
      obtain⟨h1,cur,h2⟩:=row_blk hfr.row hq;exact⟨h1,h2.lt⟩
     have hso:=λW' (hW:Bel W W')=>Iq A T d n W' (ht.bel hW) hl hd oW hs;rw[show n.map A (d+1)=some (A.mb (d+1))from by unfold Pn.map;rw[oW];rfl]at c2;have Ij:=xh hso;have Y0:=xh hfr;have uy:=xh hbx;have HT:=xh ht;have HVL:=xh hvl;have HD:=xh (And.intro hd (And.intro hg oW));clear hfr hbx hB ht hso hvl hd hg oW;go_enter func89,ntmps89;go_wp2_with (go_at_call 90;((with_reducible refine aH (Ij.o _ (Bel.refl _)) ?_);rintro e w1 ⟨⟨v1,E,rfl,hE,hrow⟩,k1⟩;obtain⟨ps,cap,rfl,hcap,hcm,hps⟩:=aG hrow;have bP:=xh k1;have HE:=xh hE;have vO:=xh hps;clear k1 hE hrow hps))
     have hel:E.length≤8000:=by
      have h1:=HE.o.length_eq;have h2:=Ai (d+1) 0 (aJ T);rw[lJ]at h2;unfold nV at h1;omega
     clear c2
     go_loopw [14] (λi wr=>∃(k:Nat) (v':Value) (D:List Nat) (Rn:List FileR),k≤E.length∧i=.int .i64 k∧D.Perm ((E.take k).flatMap λx=>x::eH (aJ T) f x)∧Rn.map FileR.key=D.map (uw T)∧Ah wr bl bw v'∧FRows wr base v' (R++Rn)∧Keep (λq=>q=bl∨v.ownBlock=some q) w1 wr∧∀q,v'.ownBlock=some q→v.ownBlock=some q∨w1.heap.size≤q) (λi _=>E.length-(intOf i).toNat)
     case atStart=>exact⟨0,v,[],[],Nat.zero_le _,rfl,List.Perm.nil,rfl,⟨uy.o.l.bel bP.o,uy.o.f.bel bP.o⟩,by rw[List.append_nil];exact Y0.o.bel bP.o,Keep.refl _ _,λq hq=>.inl hq⟩
     case round=>
      obtain⟨k,v',D,Rn,hk,rfl,hD,hRn,hbx,hfr,hkr,hvo⟩:=hrel;have HDP:=xh (And.intro hD hRn);have U6:=xh hbx;have U7:=xh hfr;have uf:=xh hkr;have HVO:=xh hvo;clear hD hRn hbx hfr hkr hvo;by_cases hlt:k<E.length
      ·have hx:=bT hlt
       have hxm:=HE.o.mem_iff.1 (List.getElem_mem hlt);obtain⟨j,xn,hj,hp,hxe⟩:=oZ.1 hxm;obtain⟨m,hm,rfl⟩:∃m,T[j]?=some m∧xn=m.nd:=by
        unfold aJ at hj;rw[fA]at hj;cases hy:T[j]? with
        | none=>rw[hy]at hj;cases hj
        | some y=>rw[hy]at hj;simp at hj;exact⟨y,rfl,hj.symm⟩
       have hmg:m.gone=false:=by
        have:(if m.gone then 0 else m.par)=d+1:=hp;cases hc:m.gone with
        | false=>rfl
        | true=>rw[hc]at this;simp at this
       have hdj:d<j:=by
        have:=FO HT.o.down (d:=d+1) (by omega) hxm;omega
       obtain⟨g,rfl,hgb,hgl,hcell,_⟩:=vO.o.resolve_left (by omega);have hgw:=bP.o.size;have kw:Keep (λq=>q=bl∨v.ownBlock=some q) W wr:=(Keep.of_bel _ bP.o).tr uf.o;have htr:dV wr A T:=HT.o.keep kw λq hq=>by
        have h1:=Ef q hq;rintro(h2|h2)
        ·exact h1.2 h2
        ·have:=(HVL.o q h2).1;omega
       have hcp:wr.cell? ⟨g,k,none⟩=some (.pointer (A.nb (j+1),0)):=by
        rw[uf.o.cell ⟨g,k,none⟩ hgl (by
         rintro(h2|h2)
         ·have h2:g=bl:=h2;omega
         ·have:=(HVL.o g h2).2;omega),hcell k (by simpa using hlt),fA,hx,hxe]
        rfl
       have hB:=htr.node j m hm;have c3:wr.cell? (A.nb (j+1),3)=some m.bv:=hB.cell 3;have c2:=hB.c 2 rfl;have cl:=U6.o.l.c 0 rfl;have hpa:=Qq A T wr htr hl hlv hs j m hm hmg;rw[show A.ptr (j+1)=.pointer (A.nb (j+1),0)from rfl]at hpa;have HPA:=xh hpa;have YT:=xh htr;have HX:=xh hxe;have HM:=xh (And.intro hm (And.intro hmg (And.intro hp hx)));have HRW:=xh (htr.aS j m hm);have hbl:m.byt.length≤1000000:=hby m (List.mem_of_getElem? hm);have ug:=xh kw;have hnl:=hB.lt;have hll:=U6.o.l.lt;clear hpa hxm hxe hj hp hx hm hmg htr hB hcell kw;have agj:A.nb (j+1)≠bl:=(Ef _ ⟨j,m,HM.o.1,.inl rfl⟩).2;have aiP:bl≠A.nb (j+1):=λe=>agj e.symm;have ai3:A.nb (j+1)<base:=(Ef _ ⟨j,m,HM.o.1,.inl rfl⟩).1;generalize U8:A.nb (j+1)=Y1 at *
       have agk:=xh U8;clear U8;go_upto_region 4 with(go_at_call 91;((with_reducible refine aH HPA.o ?_);rintro e wx ⟨rfl,hh⟩;subst hh))
       have hvb:∀q,v'.ownBlock=some q→base≤q∧q<wr.heap.size:=λq hq=>by
        obtain⟨h1,cur,h2⟩:=row_blk U7.o.row hq;exact⟨h1,h2.lt⟩
       have HVB:=xh hvb;have hrl:(R++Rn).length≤100000:=by
        have h1:=congrArg List.length HDP.o.2;have h2:=HDP.o.1.length_eq;have h3:((E.take k).flatMap λx=>x::eH (aJ T) f x).length≤(E.flatMap λx=>x::eH (aJ T) f x).length:=by
         conv=>rhs;rw[←List.take_append_drop k E,List.flatMap_append,List.length_append]
         omega
        have h4:=(HE.o.flatMap_right λx=>x::eH (aJ T) f x).length_eq;rw[show eH (aJ T) (f+1) (d+1)=(nV (aJ T) (d+1)).flatMap λk=>k::eH (aJ T) f k from rfl]at hcnt;simp only[jE]at h1
        rw[List.length_append];omega
       have hbr:base≤wr.heap.size:=bU hbase ug.o.size;obtain⟨RR,hRR⟩:=e_x (R++Rn);rw[hRR]at U7 hrl;have HRR:=xh hRR;have Eg:Hid (uw T (j+1)=(dW (aJ T) (j+1),(m.map A (j+1)).isSome,m.byt)):=xh (by
        unfold uw;rw[Nat.add_sub_cancel,HM.o.1];show(_,m.dir,m.byt)=_
        congr 2
        unfold Pn.map;cases m.dir<;>rfl)
       obtain⟨pt,hpt⟩:=e_x (dW (aJ T) (j+1));rw[hpt]at Eg⊢;rw[show strV pt=.string ⟨pt.toArray⟩from rfl];obtain⟨sb,hsb⟩:∃sb:ByteArray,⟨pt.toArray⟩=sb:=⟨_,rfl⟩;rw[hsb];have Dt:=xh hsb;generalize m.map A (j+1)=mm at *
       clear hRR hpt hvb hcp hsb
       go_cut [] (λwx=>Hid (∃(v2:Value) (r:FileR),r.key=uw T (j+1)∧Ah wx bl bw v2∧FRows wx base v2 (RR++[r])∧Keep (λq=>q=bl∨v'.ownBlock=some q) wr wx∧∀q,v2.ownBlock=some q→v'.ownBlock=some q∨wr.heap.size≤q))
       case first=>
        refine wp_region_noPanic ?_;refine wp_region_held_drew (S:=λw'=>w'.cell? ⟨Y1,3,none⟩=some m.bv∧w'.cell? ⟨Y1,2,none⟩=some (.map mm)) (by kernel_rfl) ⟨c3,c2⟩ (λhHeld=>?_);refine plan [1,2,4,5,6,7] ?_;repeat refine t0 rfl (by kernel_rfl) (by intro w hw;(try dsimp only at hw);go_simp;with_reducible rfl) (by assumption) (by(try simp only[Act.put,lits]);exact rfl) ?_
        refine iI ?_;refine wpAnyH_ready (rs:=[0,3]) (by kernel_rfl) (by simp) ?_;refine AllReadyH.cons rfl (λK hK=>?v1) (AllReadyH.cons rfl (λK hK=>?v2) AllReadyH.nil)
        case' v1=>(go_simp;refine hK.out _ _ (by(try dsimp only);first|assumption|(go_keep;done)) (λhH=>?_);clear hK K;(try simp only[Act.put,lits]);refine rd 3 rfl (by kernel_rfl) (λK hK=>?_))
        all_goals (go_simp;go_at_call 92;((with_reducible refine aH (sJ Y1 mm _ (by go_split_ands;assumption)) ?_);rintro e wx ⟨rfl,hh⟩;subst hh);refine hK.out _ _ (by(try dsimp only);first|assumption|(go_keep;done)) (λhH=>?_);clear hK K;(try simp only[Act.put,lits]))
        case' v2=>(refine wpAnyH_ready (rs:=[0,8]) (by kernel_rfl) (by simp) ?_;refine AllReadyH.cons rfl (λK hK=>?v3) (AllReadyH.cons rfl (λK hK=>?v4) AllReadyH.nil))
        case' v3=>(go_simp;refine hK.out _ _ (by(try dsimp only);first|assumption|(go_keep;done)) (λhH=>?_);clear hK K;(try simp only[Act.put,lits]);refine rd 8 rfl (by kernel_rfl) (λK hK=>?_))
        case' v1=>(refine rd 8 rfl (by kernel_rfl) (λK hK=>?_))
        all_goals (refine step_append_copy rfl (.tmp 30) 59 rfl underlying59 Qp m.byt m.bv rfl (HRW.o.bel (Bel.drew (Bel.refl _))) hbl ?_;intro bv2 w5 h5 h6 k5;obtain⟨p5,c5,rfl,_,_,_⟩:=h5.slice;have kk5:Bel wr w5:=(Bel.drew (Bel.refl wr)).tr k5;have cl5:=af kk5 cl;have ai4:∀o,(w5.alloc o).cell? (bl,0)=some v':=λo=>af (Bel.start w5 o) cl5;have c35:=af kk5 c3;have c25:=af kk5 c2;have pX:=xh kk5;have hb5:base≤w5.heap.size:=bU hbr kk5.size;have hl5:bl<w5.heap.size:=(by omega);have hn5:Y1<w5.heap.size:=(by omega);have HR5:=xh (And.intro h5 h6);clear h5 h6 k5 kk5;refine hK.out _ _ (by(try dsimp only);first|assumption|(go_keep;done)) (λhH=>?_);clear hK K;(try simp only[Act.put,lits]);refine plan [9] ?_;(repeat refine t0 rfl (by kernel_rfl) (by intro w hw;(try dsimp only at hw);go_simp;with_reducible rfl) (by assumption) (by(try simp only[Act.put,lits]);exact rfl) ?_);refine iI ?_)
        case' v4=>(refine wpAnyH_ready (rs:=[0,10]) (by kernel_rfl) (by simp) ?_;refine AllReadyH.cons rfl (λK hK=>?v5) (AllReadyH.cons rfl (λK hK=>?v6) AllReadyH.nil))
        case' v5=>(go_simp;refine hK.out _ _ (by(try dsimp only);first|assumption|(go_keep;done)) (λhH=>?_);clear hK K;(try simp only[Act.put,lits]);refine rd 10 rfl (by kernel_rfl) (λK hK=>?_))
        case' v1=>(refine rd 10 rfl (by kernel_rfl) (λK hK=>?_))
        case' v3=>(refine rd 10 rfl (by kernel_rfl) (λK hK=>?_))
        all_goals (go_simp;refine hK.out _ _ (by(try dsimp only);first|assumption|(go_keep;done)) (λhH=>?_);clear hK K;(try simp only[Act.put,lits]))
        case' v6=>(refine rd 0 rfl (by kernel_rfl) (λK hK=>?_);go_simp;refine hK.out _ _ (by(try dsimp only);first|assumption|(go_keep;done)) (λhH=>?_);clear hK K;(try simp only[Act.put,lits]))
        all_goals
         refine rd 11 rfl (by kernel_rfl) (λK hK=>?_);refine Ag (base:=base) (n:=RR.length) (xs:=RR.flatMap FileR.cells) (size:=3) (bytes:=48) rfl (.tmp 23) (.tmp 33) 24 rfl underlying24 U3 (by omega) rfl (aO U7.o.row (pX.o.ac _)) w5.heap.size 1 1 [.string sb,.bool mm.isSome,.slice p5 m.byt.length c5] rfl (λj u hj=>by rw[←hj];exact(Blk.new w5 [.string sb,.bool mm.isSome,.slice p5 m.byt.length c5] 71).cell j) rfl (by intro v hv;simp at hv;rcases hv with rfl|rfl|rfl<;>rfl) (by unfold maxLen;omega) (by omega) (by simp;omega) ?_;intro p8 c8 w8 R8 K8 O8;have cl8:w8.cell? (bl,0)=some v':=(K8.cell ⟨bl,0,none⟩ (by simp;omega) (λe=>by have:=(HVB.o _ e).1;simp at this;omega)).trans (af (Bel.start w5 _) cl5);have c38:w8.cell? (Y1,3)=some m.bv:=(K8.cell ⟨Y1,3,none⟩ (by simp;omega) (λe=>by have:=(HVB.o _ e).1;simp at this;omega)).trans (af (Bel.start w5 _) c35);have c28:w8.cell? (Y1,2)=some (.map mm):=(K8.cell ⟨Y1,2,none⟩ (by simp;omega) (λe=>by have:=(HVB.o _ e).1;simp at this;omega)).trans (af (Bel.start w5 _) c25);have HST:=xh (U4 (r:=⟨pt,mm.isSome,m.byt,p5,c5⟩) U6.o U7.o hbb hbw hbne pX.o HR5.o.1 HR5.o.2 hbr R8 K8 O8 (by unfold FileR.cells strV FileR.bv;rw[Dt.o]) rfl);have f8:w8.frozen? (bl,0)=false:=(((U6.o.l.bel pX.o).alloc _).keep K8 (λe=>by have:=(HVB.o _ e).1;omega)).frozen 0;have hl8:bl<w8.heap.size:=Nat.lt_of_lt_of_le hl5 (bU (by simp) K8.size);clear R8 K8 O8;refine hK.out _ _ (by(try dsimp only);first|assumption|(go_keep;done)) (λhH=>?_);clear hK K;(try simp only[Act.put,lits])
         refine rd 12 rfl (by kernel_rfl) (λK hK=>?_);go_simp;refine hK.out _ _ (by(try dsimp only);first|assumption|(go_keep;done)) (λhH=>?_);clear hK K;(try simp only[Act.put,lits])
         refine wpAnyH_done (by kernel_rfl) ?_ _;refine NoPanic.normal ?_;go_wp2_with fail
         go_meet
         exact xh ⟨_,⟨pt,mm.isSome,m.byt,p5,c5⟩,Eg.o.symm,HST.o⟩
       case rest=>
        obtain⟨v2,r,hrk,hbx2,hfr2,hk2,hv2⟩:=hcut.out;have kwc:Keep (λq=>q=bl∨v.ownBlock=some q) W wc:=ug.o.dY hk2 (λq hq=>by
         rcases hq with h|h
         ·exact .inl (.inl h)
         ·rcases HVO.o q h with h|h
          ·exact .inl (.inr h)
          ·exact .inr (bU bP.o.size h))
        have htc:dV wc A T:=HT.o.keep kwc λq hq=>by
         have h1:=Ef q hq;rintro(h2|h2)
         ·exact h1.2 h2
         ·have:=(HVL.o q h2).1;omega
        have cbw:=hbx2.f.c 0 rfl;have hih:=ih j m wc v2 (RR++[r]) (by omega) HM.o.1 HM.o.2.1 htc (bU hbase kwc.size) hbx2 hfr2 (by
         have h1:=congrArg List.length HDP.o.2;have h2:=HDP.o.1.length_eq;have h3:((E.take k).flatMap λx=>x::eH (aJ T) f x).length+(eH (aJ T) f (j+1)).length+1≤(E.flatMap λx=>x::eH (aJ T) f x).length:=by
          conv=>rhs;rw[←List.take_append_drop k E,List.flatMap_append,List.length_append]
          rw[List.drop_eq_getElem_cons hlt,List.flatMap_cons,List.length_append,HX.o,List.length_cons];omega
         have h4:=(HE.o.flatMap_right λx=>x::eH (aJ T) f x).length_eq;rw[show eH (aJ T) (f+1) (d+1)=(nV (aJ T) (d+1)).flatMap λk=>k::eH (aJ T) f k from rfl]at hcnt;simp only[jE]at h1
         have h5:=congrArg List.length HRR.o;rw[List.length_append]at h5;rw[List.length_append,List.length_singleton];omega)
        rw[show A.ptr (j+1)=.pointer (Y1,0)from by rw[←agk.o];rfl]at hih;have HIH:=xh hih;have HR2:=xh (And.intro hrk (And.intro hk2 hv2));have Ir:=xh kwc;clear hih hrk hbx2 hfr2 hk2 hv2 htc kwc;go_wp2_with (go_at_call 89;((with_reducible refine aH HIH.o ?_);rintro e w9 ⟨rfl,h9⟩;have Y2:=xh h9;clear h9))
        go_roundw
        case rel=>
         obtain⟨v3,E3,Rn3,hp3,hk3,agl,hfr3,agm,hv3⟩:=Y2.o.out;have hk4:Keep (λq=>q=bl∨v.ownBlock=some q) w1 wc:=uf.o.dY HR2.o.2.1 (λq hq=>by
          rcases hq with h|h
          ·exact .inl (.inl h)
          ·rcases HVO.o q h with h|h
           ·exact .inl (.inr h)
           ·exact .inr h)
         have hv4:∀q,v2.ownBlock=some q→v.ownBlock=some q∨w1.heap.size≤q:=λq hq=>by
          rcases HR2.o.2.2 q hq with h|h
          ·exact HVO.o q h
          ·exact .inr (bU uf.o.size h)
         refine⟨k+1,v3,D++(j+1)::E3,Rn++r::Rn3,by omega,by go_num,?_,?_,agl,?_,?_,?_⟩
         ·rw[List.take_succ_eq_append_getElem hlt,List.flatMap_append,List.flatMap_singleton,HX.o]
          exact HDP.o.1.append (hp3.cons _)
         ·rw[List.map_append,List.map_append,List.map_cons,List.map_cons,HDP.o.2,hk3,HR2.o.1]
         ·have e:R++(Rn++r::Rn3)=RR++[r]++Rn3:=by rw[←HRR.o];simp
          rw[e];exact hfr3
         ·exact hk4.dY agm (λq hq=>by
           rcases hq with h|h
           ·exact .inl (.inl h)
           ·rcases hv4 q h with h|h
            ·exact .inl (.inr h)
            ·exact .inr h)
         ·intro q hq
          rcases hv3 q hq with h|h
          ·exact hv4 q h
          ·exact .inr (bU hk4.size h)
        case measure=>simp[intOf]<;>omega
      ·obtain rfl:k=E.length:=by omega
       go_wp2_with fail
       go_end0
       refine⟨rfl,⟨v',D,Rn,?_,HDP.o.2,U6.o,U7.o,(Keep.of_bel _ bP.o).tr uf.o,λq hq=>?_⟩⟩
       ·have:=HDP.o.1
        rw[List.take_length]at this;exact this.trans (HE.o.flatMap_right _)
       ·rcases HVO.o q hq with h|h
        ·exact .inl h
        ·exact .inr (bU bP.o.size h)
theorem QD(a:ByteArray)(w:World):Calls prog 251 #[a] w (Z.e (.bool false) w):=by
 go_enter func251,ntmps251;go_wp2
 go_ret
 exact⟨rfl,rfl⟩
def Lu(a b:List UInt8):Int:=if a<b then -1 else if a=b then 0 else 1
theorem Vx(a b:ByteArray)(w:World):Calls prog 176 #[a,b] w (Z.e (.int .i64 (Lu a.data.toList b.data.toList)) w):=by
 go_enter func176,ntmps176;go_wp2_with (go_at_call 251;((with_reducible refine aH (QD _ _) ?_);rintro e w1 ⟨rfl,hh⟩;subst hh))
 ·have h:Op.bytesLess a.toList b.toList=true:=by assumption
  rw[ByteArray.toList_eq,ByteArray.toList_eq,bytesLess_eq]at h;go_ret
  refine⟨?_,rfl⟩;rw[Lu,if_pos (by simpa using h)];rfl
 ·have h1:Op.bytesLess a.toList b.toList=false:=by assumption
  have h2:(!a.toList==b.toList)=true:=by assumption
  rw[ByteArray.toList_eq,ByteArray.toList_eq,bytesLess_eq]at h1;rw[ByteArray.toList_eq,ByteArray.toList_eq]at h2;go_ret
  refine⟨?_,rfl⟩;rw[Lu,if_neg (by simpa using h1),if_neg (by simpa using h2)];rfl
 ·have h1:Op.bytesLess a.toList b.toList=false:=by assumption
  have h2:(!a.toList==b.toList)=false:=by assumption
  rw[ByteArray.toList_eq,ByteArray.toList_eq,bytesLess_eq]at h1;rw[ByteArray.toList_eq,ByteArray.toList_eq]at h2;go_ret
  refine⟨?_,rfl⟩;rw[Lu,if_neg (by simpa using h1),if_pos (by simpa using h2)];rfl
end
end Go.Proofs.YtcnjjchlebmfiaaGreatDoor
namespace Go.Proofs
open Go.Shelf
def Tryz.Uf:Go.Shelf.Ren:=⟨λ|6=>174|15=>122|14=>250|28=>219|29=>220|20=>308|21=>309|22=>310|23=>311|24=>312|25=>313|26=>314|27=>315|46=>346|47=>277|48=>278|49=>347|50=>348|57=>356|n=>n,λ|22=>24|24=>71|25=>315|3=>3|39=>33|0=>0|53=>367|55=>37|4=>4|46=>360|45=>359|50=>364|5=>5|9=>9|66=>430|70=>434|76=>507|77=>142|n=>n,λ|n=>n⟩
theorem Tryz.aa4:Go.Proofs.SlLaysF0.n6 prog Tryz.Uf:={
 mixed:=by kernel_rfl
 f6:=⟨Tryz.f174.name,by decide,fe func174 (by kernel_rfl)⟩
 f14:=⟨Tryz.f250.name,by decide,fe func250 (by kernel_rfl)⟩
 f15:=fe func122 (by kernel_rfl)
 f20:=⟨Tryz.f308.name,by decide,fe func308 (by kernel_rfl)⟩
 f21:=⟨Tryz.f309.name,by decide,fe func309 (by kernel_rfl)⟩
 f22:=⟨Tryz.f310.name,by decide,fe func310 (by kernel_rfl)⟩
 f23:=⟨Tryz.f311.name,by decide,fe func311 (by kernel_rfl)⟩
 f24:=⟨Tryz.f312.name,by decide,fe func312 (by kernel_rfl)⟩
 f25:=⟨Tryz.f313.name,by decide,fe func313 (by kernel_rfl)⟩
 f26:=⟨Tryz.f314.name,by decide,fe func314 (by kernel_rfl)⟩
 f27:=⟨Tryz.f315.name,by decide,fe func315 (by kernel_rfl)⟩
 f28:=fe func219 (by kernel_rfl)
 f29:=fe func220 (by kernel_rfl)
 f46:=⟨Tryz.f346.name,by decide,fe func346 (by kernel_rfl)⟩
 f47:=fe func277 (by kernel_rfl)
 f48:=fe func278 (by kernel_rfl)
 f49:=⟨Tryz.f347.name,by decide,fe func347 (by kernel_rfl)⟩
 f50:=⟨Tryz.f348.name,by decide,fe func348 (by kernel_rfl)⟩
 f57:=⟨Tryz.f356.name,by decide,fe func356 (by kernel_rfl)⟩
 t0:=underlying0
 a0:=isAgg0
 z0:=sizeOf0
 v0:=zeroValue0
 t3:=underlying3
 a3:=isAgg3
 z3:=sizeOf3
 v3:=zeroValue3
 t4:=underlying4
 a4:=isAgg4
 z4:=sizeOf4
 v4:=zeroValue4
 t5:=underlying5
 a5:=isAgg5
 z5:=sizeOf5
 v5:=zeroValue5
 t9:=underlying9
 a9:=isAgg9
 z9:=sizeOf9
 v9:=zeroValue9
 t22:=underlying24
 a22:=isAgg24
 z22:=sizeOf24
 v22:=zeroValue24
 t25:=underlying315
 a25:=isAgg315
 z25:=sizeOf315
 v25:=zeroValue315
 t39:=underlying33
 a39:=isAgg33
 z39:=sizeOf33
 v39:=zeroValue33
 t45:=underlying359
 a45:=isAgg359
 z45:=sizeOf359
 v45:=zeroValue359
 t46:=underlying360
 a46:=isAgg360
 z46:=sizeOf360
 v46:=zeroValue360
 t50:=underlying364
 a50:=isAgg364
 z50:=sizeOf364
 v50:=zeroValue364
 t53:=underlying367
 a53:=isAgg367
 z53:=sizeOf367
 v53:=zeroValue367
 t55:=underlying37
 a55:=isAgg37
 z55:=sizeOf37
 v55:=zeroValue37
 t66:=underlying430
 a66:=isAgg430
 z66:=sizeOf430
 v66:=zeroValue430
 t70:=underlying434
 a70:=isAgg434
 z70:=sizeOf434
 v70:=zeroValue434
 t76:=underlying507
 a76:=isAgg507
 z76:=sizeOf507
 v76:=zeroValue507
 t77:=underlying142
 a77:=isAgg142
 z77:=sizeOf142
 v77:=zeroValue142}
end Go.Proofs
namespace Go.Proofs.YtcnjjchlebmfiaaGreatDoor
section
open Go.Proofs.Tryz Go.RowKit Go.Sort Go.Shelf
instance:Inhabited FileR:=⟨⟨[],false,[],none,0⟩⟩
def Ls(x y:FileR):Int:=Lu x.path y.path
theorem zS(x y:FileR):ltOf Ls x y=decide (x.path<y.path):=by
 unfold ltOf Ls Lu;by_cases h:x.path<y.path
 ·rw[if_pos h];simp[h]
 ·rw[if_neg h]
  by_cases e:x.path=y.path
  ·rw[if_pos e];simp[h]
  ·rw[if_neg e];simp[h]
theorem Vu:SWO (ltOf Ls) where
 irrefl x:=by rw[zS];simp[List.lt_irrefl]
 trans x y z h1 h2:=by
  rw[zS]at *
  simp only[decide_eq_true_eq]at *
  exact List.lt_trans h1 h2
 ntrans x y z h1 h2:=by
  rw[zS]at *
  simp only[decide_eq_false_iff_not]at *
  rw[List.not_lt]at *
  exact List.le_trans h2 h1
theorem Vw(w:World)(a b:Obj):(w.alloc a).alloc b=grow w #[a,b]:=by
 rw[alloc_eq_grow,alloc_eq_grow,grow_grow];rfl
theorem IG(x y:FileR)(w:World):Calls prog 175 #[.agg x.cells.toArray,.agg y.cells.toArray] w λe w'=>e=.returned (.int .i64 (Ls x y))∧∃os,w'=grow w os:=by
 have hc:=Vx ⟨x.path.toArray⟩ ⟨y.path.toArray⟩;have HC:=xh hc;have HF:Hid (Lu (⟨x.path.toArray⟩:ByteArray).data.toList (⟨y.path.toArray⟩:ByteArray).data.toList=Ls x y):=xh rfl;clear hc;have ex:x.cells.toArray = #[.string ⟨x.path.toArray⟩,.bool x.dir,x.bv]:=rfl;have ey:y.cells.toArray = #[.string ⟨y.path.toArray⟩,.bool y.dir,y.bv]:=rfl;rw[ex,ey];generalize (⟨x.path.toArray⟩:ByteArray)=sx at *
 generalize (⟨y.path.toArray⟩:ByteArray)=sy at *
 clear ex ey;go_enter func175,ntmps175;go_wp2_with (go_at_call 176;((with_reducible refine aH (HC.o _) ?_);rintro e w1 ⟨rfl,hh⟩;subst hh))
 go_ret
 exact⟨by rw[←HF.o];rfl,_,Vw _ _ _⟩
theorem Aw(d:List FileR):(flatK FileR.cells 3 d.toArray).toList=d.flatMap FileR.cells:=by
 apply List.ext_getElem?
 intro t;have h3:∀x∈d,(FileR.cells x).length=3:=λ_ _=>rfl;by_cases ht:t<d.length*3
 ·have e:=fP FileR.cells 3 d h3 (t/3) (t%3) (Nat.mod_lt _ (by omega))
  rw[show t/3*3+t%3=t from by omega]at e;rw[e,bT (show t/3<d.length by omega)];have hs:t<(flatK FileR.cells 3 d.toArray).size:=by simpa using ht
  rw[Array.getElem?_toList,Array.getElem?_eq_getElem hs];have:=get_flatK FileR.cells 3 d.toArray t (by simpa using ht);rw[getElem!_pos _ t hs,getElem!_pos _ (t/3) (by simp;omega)]at this;rw[this];simp only[Option.bind_some,List.getElem_toArray]
  rw[getElem!_pos _ (t%3) (by show t%3<3;omega)];exact(bT _).symm
 ·rw[List.getElem?_eq_none (by simp;omega),List.getElem?_eq_none (by rw[rowsLen];omega)]
theorem LC{w:World}{g n:Nat}{os:Array Obj}{cur:Array Value}{e:TypeId}{fr:Nat×Nat}(d:Array Value)(hb:w.heap[g]?=some (.cells cur e fr)) :
 (grow (putRow id (Sort.ahead w n) g 0 d) os).heap[g]?=some (.cells (putCells id 0 d cur) e fr):=by
 have hg:g<w.heap.size:=(Array.getElem?_eq_some_iff.1 hb).1;rw[heap_grow_old _ _ (by simpa using hg)];simp[putRow,mapBlock,Sort.ahead,Array.getElem?_modify,hb,onCells]
theorem LD{w:World}{g n:Nat}{os:Array Obj}(d:Array Value):Keep (λq=>q=g) w (grow (putRow id (Sort.ahead w n) g 0 d) os):=by
 refine⟨rfl,rfl,rfl,by simp,λk hk hne=>?_⟩;rw[heap_grow_old _ _ (by simpa using hk)];have:g≠k:=λe=>hne e.symm;simp[putRow,mapBlock,Sort.ahead,Array.getElem?_modify,this]
theorem Qz(cur:Array Value)(ts:List Value)(h:ts.length≤cur.size):(putCells id 0 ts.toArray cur).toList.take ts.length=ts:=by
 apply List.ext_getElem?
 intro j;by_cases hj:j<ts.length
 ·rw[List.getElem?_take_of_lt hj,Array.getElem?_toList]
  simp[putCells,hj,show j<cur.size by omega]
 ·rw[List.getElem?_take_eq_none (by omega),List.getElem?_eq_none (by omega)]
def FZ(R:List FileR):Prop:=R.Pairwise λx y=>¬y.path<x.path
theorem LG(base:Nat)(v:Value)(R:List FileR)(w:World)(h:FRows w base v R)(hl:R.length≤100000) :
 Calls prog 93 #[v] w λe w'=>e=.returned v∧∃R',R'.Perm R∧FZ R'∧FRows w' base v R'∧Keep (λq=>v.ownBlock=some q) w w':=by
 rcases h.row.2 with⟨rfl,h0⟩|⟨g,cap,cur,rfl,h2,h3,h4,h5,h6,h7⟩
 ·obtain rfl:=List.eq_nil_of_length_eq_zero h0
  have hs:∀W:World,Calls prog 174 #[(),.func (.func 175) #[] #[]] W λe w'=>e=.returned (.tuple #[])∧w'=W:=λW=>AnyF.slices_SortFunc_none Tryz.aa4 none 0 (.func (.func 175) #[] #[]) W;have HS:=xh hs;have HH:=xh h;clear hs h h0;go_enter func93,ntmps93;go_wp2_with (go_at_call 174;((with_reducible refine aH (HS.o _) ?_);rintro e w1 ⟨rfl,hh⟩;subst hh))
  go_ret
  exact⟨rfl,[],List.Perm.refl _,List.Pairwise.nil,HH.o,Keep.refl _ _⟩
 ·have hgl:g<w.heap.size:=(Array.getElem?_eq_some_iff.1 h3).1
  have hH:HoldsK FileR.cells 3 w g 0 R.toArray:=by
   intro j hj;have hj':j<R.length*3:=by simpa using hj
   refine⟨?_,by simp[World.frozen?,h3]⟩;have e1:(flatK FileR.cells 3 R.toArray)[j]! =(R.flatMap FileR.cells)[j]'(by rw[rowsLen];exact hj'):=by
    rw[getElem!_pos _ j hj];have:=congrArg (·[j]?) (Aw R);simp only[Array.getElem?_toList]at this
    rw[Array.getElem?_eq_getElem hj,bT (by rw[rowsLen];exact hj')]at this;exact Option.some.inj this
   rw[e1];have h8:=congrArg (·[j]?) h7;simp only[List.getElem?_take,if_pos hj']at h8
   rw[bT (l:=R.flatMap FileR.cells) (by rw[rowsLen];exact hj')]at h8;simp only[World.cell?,h3,Nat.zero_add]
   simp only[Option.isSome_none,Bool.false_eq_true,if_false]
   rw[←Array.getElem?_toList,h8];rfl
  have hcmp:CmpLays prog 175 #[] FileR.cells 3 Ls g 0 R.toArray.size w:=λm os dk _ x y=>by
   refine(IG x y _).mono ?_;rintro e w' ⟨rfl,os',rfl⟩;exact⟨rfl,0,os',rfl⟩
  have hone:∀x:FileR,∀u∈FileR.cells x,u.oneCell'=true:=λx u hu=>by
   simp[FileR.cells]at hu
   rcases hu with rfl|rfl|rfl<;>rfl
  have hs:Calls prog 174 #[.slice (g,0) R.length cap,.func (.func 175) #[] #[]] w λe w'=>e=.returned (.tuple #[])∧∃R',R'.Perm R∧FZ R'∧FRows w' base (.slice (g,0) R.length cap) R'∧Keep (λq=>q=g) w w':=by
   refine(AnyQ.slices_SortFunc Tryz.aa4 3 (λw=>by kernel_rfl) (λw=>by kernel_rfl) FileR.cells (λ_=>rfl) hone Ls Vu 175 #[] g 0 cap R.toArray w (enters_of func175 (by kernel_rfl) rfl) hcmp hH hgl (by simp;omega)).mono ?_;rintro e w' ⟨rfl,d',n,os,hp,hso,rfl⟩;obtain⟨R',rfl⟩:∃R':List FileR,d'=R'.toArray:=⟨d'.toList,by simp⟩;have hlen:R'.length=R.length:=by have:=hp.1;simpa using this
   have hperm:R'.Perm R:=by
    have:=hp.2.2;simp only[List.size_toArray,List.extract_toArray,List.extract_eq_take_drop,List.drop_zero,Nat.sub_zero]at this
    rw[List.take_of_length_le (by omega),List.take_of_length_le (by omega)]at this;exact this
   have hkeep:=LD (w:=w) (g:=g) (n:=n) (os:=os) (flatK FileR.cells 3 R'.toArray);refine⟨rfl,R',hperm,?_,⟨⟨by rw[rowsLen],.inr ⟨g,cap,_,by rw[hlen],h2,LC _ h3,by omega,h5,by simp[putCells,h6],?_⟩⟩,λr hr=>?_⟩,hkeep⟩
   ·refine List.pairwise_iff_getElem.2 λi j hi hj hij=>?_
    have:=hso i j (Nat.zero_le _) hij (by simp;omega);rw[zS,getElem!_pos _ i (by simpa using hi),getElem!_pos _ j (by simpa using hj)]at this
    simpa using this
   ·have e:flatK FileR.cells 3 R'.toArray=(R'.flatMap FileR.cells).toArray:=by rw[←Aw]
    rw[e,←rowsLen R'];exact Qz cur _ (by rw[rowsLen];omega)
   ·have hb:=h.byt r (hperm.mem_iff.1 hr)
    refine⟨hb.1.keep hkeep λq hq e=>?_,hb.2⟩;obtain⟨_,cur2,hb2⟩:=hb.1.lt hq;have e:q=g:=e;subst e;have h3':Blk w q cur.toList 71:=h3;exact h3'.ne hb2 (by decide) rfl
  have HS:=xh hs;have HE:Hid (∀q,q=g↔(Value.slice (g,0) R.length cap).ownBlock=some q):=xh λq=>⟨λe=>by rw[e];rfl,λe=>(Option.some.inj e).symm⟩;clear hs hcmp hH h7 h3 h h6 hone;go_enter func93,ntmps93;go_wp2_with (go_at_call 174;((with_reducible refine aH HS.o ?_);rintro e w1 ⟨rfl,h1⟩;have H1:=xh h1;clear h1))
  go_ret
  obtain⟨R',k1,k2,k3,k4⟩:=H1.o;exact⟨rfl,R',k1,k2,k3,k4.mono λq hq=>(HE.o q).1 hq⟩
end
section
open Go.Proofs.Tryz Go.RowKit
theorem lD{x:Nat}:∀{l:List Nat},x∈l→x≤l.sum
 | [],h=>by cases h
 | y::l,h=>by
   rw[List.sum_cons];rcases List.mem_cons.1 h with rfl|h
   ·omega
   ·have:=lD h;omega
structure adq(w:World)(T:List Pn)(v:Value)(w':World):Prop where
 out:∃R:List FileR,(R.map FileR.key).Perm ((eH (aJ T) T.length 1).map (uw T))∧FZ R∧FRows w' w.heap.size v R
 bel:Bel w w'
theorem Jz(tb:Nat)(A:bJ)(T:List Pn)(mi mb:Nat)(w:World)(h:PT w tb A T mi mb)(hl:T.length≤8000)(hlv:Live T)(hs:∀n∈aJ T,n.name.size≤1000)(hd:(eH (aJ T) T.length 1).length≤100000) :
 Calls prog 52 #[tb] w λe w'=>∃v,e=.returned v∧adq w T v w':=by
 have hc:=h.block.c 0 rfl;have hby:∀n∈T,n.byt.length≤1000000:=λn hn=>by
  have h1:n.nd.byt.length≤cZ (aJ T):=by
   unfold cZ;exact lD (List.mem_map.2 ⟨n.nd,List.mem_map.2 ⟨n,hn,rfl⟩,rfl⟩)
  have h2:=h.small;have h3:=h.mb;show n.nd.byt.length≤_
  omega
 have hfl:=λq hq=>h.iy (q:=q) (.inr hq);rw[show A.ptr 1=.pointer (A.nb 1,0)from rfl]at hc;obtain⟨r,hr0,hrp,hrd,hrg⟩:=h.tree.root;have k3:Bel w ((w.alloc (.cells #[()] 24)).alloc (.cells #[.func (.func 89) #[] #[w.heap.size,.pointer (w.heap.size+1,0)]] 229)):=(Bel.start w _).ac _;have hbx:Ah ((w.alloc (.cells #[()] 24)).alloc (.cells #[.func (.func 89) #[] #[w.heap.size,.pointer (w.heap.size+1,0)]] 229)) w.heap.size (w.heap.size+1) (.slice none 0 0):=
  ⟨(Blk.new w [()] _).alloc _,Blk.dF _ _ _ (by simp)⟩
 have hsz:((w.alloc (.cells #[()] 24)).alloc (.cells #[.func (.func 89) #[] #[w.heap.size,.pointer (w.heap.size+1,0)]] 229)).heap.size=w.heap.size+2:=by simp
 have HH:=xh h;clear h;go_enter func52,ntmps52;go_upto_region 4 with fail
 generalize (w.alloc (.cells #[()] 24)).alloc (.cells #[.func (.func 89) #[] #[w.heap.size,.pointer (w.heap.size+1,0)]] 229)=w3 at *
 generalize hB:w.heap.size=B at *
 have hB':w.heap.size=B:=hB;have hih:=λW (hW:Bel w3 W)=>U5 A T hl hlv hs hby B (B+1) (B+2) (by omega) (by omega) (by omega) (λq hq=>by have:=hfl q hq;omega) T.length 0 r W (.slice none 0 0) [] (by omega) hr0 hrg (HH.o.tree.bel (k3.tr hW)) (by have:=hW.size;omega) ⟨hbx.l.bel hW,hbx.f.bel hW⟩ (FRows.nil _ _) (by simpa using hd);rw[show A.ptr (0+1)=.pointer (A.nb 1,0)from rfl]at hih;have cb:=hbx.f.c 0 rfl;have ct:=af k3 hc;have HIH:=xh hih;have jP:=xh k3;have QA:=xh (And.intro hsz hB);clear hih hbx hsz k3 hfl hc hB hB'
 go_region_with (go_at_call 89;((with_reducible refine aH (HIH.o _ (Bel.drew (Bel.refl _))) ?_);rintro e w4 ⟨rfl,⟨v',E,Rn,hE,hRn,age,agf,hk4,hv4⟩⟩;have cl4:=age.l.c 0 rfl;have H4:=xh (And.intro hE (And.intro hRn (And.intro agf (And.intro hk4 hv4))));clear hE hRn age agf hk4 hv4))
 all_goals
  have hln:Rn.length≤100000:=by
   have h1:=congrArg List.length H4.o.2.1;have h2:=H4.o.1.length_eq;simp only[jE]at h1
   rw[show(0+1:Nat)=1 from rfl]at h2;omega
  have hbp:=LG (B+2) v' Rn w4 (by have:=H4.o.2.2.1;rwa [List.nil_append]at this) hln;have Dl:=xh hbp;clear hbp;go_wp2_with (go_at_call 93;((with_reducible refine aH Dl.o ?_);rintro e w5 ⟨rfl,h5⟩;have H5:=xh h5;clear h5))
  go_ret
  obtain⟨R',p1,p2,p3,p4⟩:=H5.o;refine⟨v',rfl,⟨⟨R',?_,p2,?_⟩,?_⟩⟩
  ·refine(p1.map _).trans ?_
   rw[H4.o.2.1];exact H4.o.1.map _
  ·rw[QA.o.2]
   exact⟨ownsRow_base_a p3.row (by omega),λx hx=>⟨(p3.byt x hx).1,λg hg=>by have:=(p3.byt x hx).2 g hg;omega⟩⟩
  ·have hv:∀q,v'.ownBlock=some q→B+2≤q:=λq hq=>(row_blk H4.o.2.2.1.row hq).1
   have hb:=QA.o.2;have h3:Keep (λq=>B≤q) w w3:=Keep.of_bel _ jP.o;have hd3:Keep (λq=>B≤q) w3 w3.drew:=Keep.of_bel _ (Bel.drew (Bel.refl _));have h4:Keep (λq=>B≤q) w3.drew w4:=H4.o.2.2.2.1.mono λq h=>by
    rcases h with h|h
    ·have h:q=B:=h
     omega
    ·cases h
   have h5:Keep (λq=>B≤q) w4 w5:=p4.mono λq h=>by have:=hv q h;show B≤q;omega
   exact(((h3.tr hd3).tr h4).tr h5).below _ (bM _) λq hq=>by have hq:B≤q:=hq;omega
end
end Go.Proofs.YtcnjjchlebmfiaaGreatDoor
