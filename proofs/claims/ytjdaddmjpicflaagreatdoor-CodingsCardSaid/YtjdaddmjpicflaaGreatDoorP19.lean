/- (*Tree).All: the closure that calls itself. -/
import Derived.Maps.AppendAt
import Derived.Deep.RegionHeld3
import Derived.Deep.DrawnRows
import Derived.Deep.DeepCutAuto
import Derived.Test.YtjdaddmjpicflaaGreatDoorP00
import Derived.Test.YtjdaddmjpicflaaGreatDoorP18
import Derived.WalkLawsBesides
import Derived.Sort.Walk0
import Derived.Ground.SlsfProg
import Derived.Shelf.SlSortCmp.WholeK
import Derived.Shelf.SlSortCmp.NoneTotal
import Derived.Test.YtjdaddmjpicflaaGreatDoorProg
import Derived.Sort.OwnSorted
import Derived.Test.YtjdaddmjpicflaaGreatDoorP05
import Derived.Deep.RegionWith
import Derived.Laws.EntriesVeiled
set_option linter.unusedVariables false
set_option linter.unusedSimpArgs false
set_option maxRecDepth 100000
set_option maxHeartbeats 16000000
namespace Go.Proofs.YtjdaddmjpicflaaGreatDoor
open Go.RowKit
theorem step_append_at {P:Program} {w:World} {base:Nat} {e:TypeId} {size:Nat} {v:Value} {n:Nat} {xs:List Value} {ops:Array Oper} {o:Oper} {a:Act} {K:Act→World→Prop} {Q:Exit→Act→World→Prop} {E:Prop} (hgd:o.guard=none) (s x:Operand) (t:TypeId)
 (ho:o.op=.call {callee:=.builtin .append,args:= #[s,x],argTypes:= #[t,t]}) {bytes:Nat} (ht:P.underlying t=some (.slice e))
 (hi:(P.info? e).map (λi=>(i.size,i.bytes,(i.zero.map (·.cells.size))))=some (size,bytes,some size)) (hsz:0<size)
 (hs:a.eval s=v) (hown:w.ownsRow base e size v n xs) (g m c:Nat) (cs:List Value) (hx:a.eval x=.slice (some ⟨g,0,none⟩) m c) (hB:∀j u,cs[j]?=some u→w.cell? ⟨g,j,none⟩=some u) (hl:cs.length=m*size) (h1:∀u∈cs,u.oneCell'=true)
 (h63:n+m≤maxLen) (hbytes:(n+m)*bytes≤140737488355328) (hbase:base≤w.heap.size)
 (h:∀p cp w',w'.ownsRow base e size (.slice p (n+m) cp) (n+m) (xs++cs)→Keep (λq=>v.ownBlock=some q) w w'→(∀q,(Value.slice p (n+m) cp).ownBlock=some q→v.ownBlock=some q∨q=w.heap.size)→K (a.put o.dst (.slice p (n+m) cp)) w'):if Region.wanted o (yielded ops a.tmps)=true then Oper.wp P o a w K Q else E:=by
 have hw:Region.wanted o (yielded ops a.tmps)=true:=by simp[Region.wanted,hgd]
 rw[if_pos hw]
 obtain⟨i,z,hi,hz,e1,e2,e3⟩:=info_of hi
 obtain⟨v',w',hrun,k1,k2,_,k3⟩:=run_append_own_at (P:=P) w base t o.type e i z size bytes ht hi hz e1 e2 e3 hsz v n xs hown ⟨g,0,none⟩ m c cs hl (λj u hj=>by
  rw[show(⟨g,0,none⟩:Addr).add j=⟨g,j,none⟩from by unfold Addr.add;split<;>simp_all]
  exact hB j u hj) h1 h63 hbytes hbase
 obtain⟨p,cp,rfl,_⟩:=row_slice k1
 unfold Oper.wp
 simp[execOp,ho,resolve,invoke,builtin,hs,hx,hrun,Result.andThen]
 exact h p cp w' k1 ⟨k2.os,k2.tape,k2.output,k2.size,λk hk hn=>k2.block k hk λe=>hn e.symm⟩ λq hq=>by
  rcases k3 with k3|k3
  ·exact .inl (k3▸hq)
  ·exact .inr (Option.some.inj (hq.symm.trans k3))
theorem sortedN_none (w:World):Calls Tryz.prog 178 #[.map none] w λe w'=>e=.returned (.slice none 0 0)∧Bel w w':=by
 go_enter Tryz.func178,Tryz.ntmps178
 go_wp2_with (first
  | (go_at_call 234;refine(keysS_any _ _).mono ?_;rintro e w1 ⟨rfl,rfl⟩)
  | (go_at_call 233;refine(sortedS_none w.heap.size _ (by simp) (by simp)).mono ?_;rintro e w2 ⟨rfl,k2⟩;have HK2:Hid (Bel w w2):=xh ((Bel.start w _).tr k2);clear k2))
 refine wp_loop_rounds 1 ?_
 rw[rounds_succ]
 go_wp2
 go_ret
 exact⟨rfl,HK2.out⟩
theorem byteInfoA:(Tryz.prog.info? 5).map (λi=>(i.size,i.bytes,(i.zero.map (·.cells.size))))=some (1,1,some 1):=by kernel_rfl
def fileInfo0:Prop:=(Tryz.prog.info? 46).map (λi=>(i.size,i.bytes,(i.zero.map (·.cells.size))))=some (3,48,some 3)
theorem fileInfo:fileInfo0:=by unfold fileInfo0;kernel_rfl
def nodeK (T:List Pn) (k:Nat):List UInt8×Bool×List Int:=(pathL (nds T) k,((T[k-1]?).map Pn.dir).getD false,((T[k-1]?).map Pn.byt).getD [])
def FileR.key (r:FileR):List UInt8×Bool×List Int:=(r.path,r.dir,r.byt)
structure Boxes (w:World) (bl bw:Nat) (v:Value):Prop where
 l:Blk w bl [v] 24
 f:Blk w bw [.func (.func 177) #[] #[.pointer (some ⟨bl,0,none⟩),.pointer (some ⟨bw,0,none⟩)]] 356
structure AllRes (W:World) (bl bw base:Nat) (v:Value) (R:List FileR) (T:List Pn) (D:List Nat) (w':World):Prop where
 out:∃(v':Value) (E:List Nat) (Rn:List FileR),E.Perm D∧Rn.map FileR.key=E.map (nodeK T)∧Boxes w' bl bw v'∧FRows w' base v' (R++Rn)∧Keep (λq=>q=bl∨v.ownBlock=some q) W w'∧∀q,v'.ownBlock=some q→v.ownBlock=some q∨W.heap.size≤q
theorem all_step {wr w5 w8:World} {base bl bw n c5 c8:Nat} {v':Value} {RR:List FileR} {p5 p8:Option Addr} {o:Obj} {r:FileR} {cs:List Value} (hbx:Boxes wr bl bw v') (hfr:FRows wr base v' RR) (hbb:bl<base) (hbw:bw<base) (hne:bl≠bw) (hk5:Bel wr w5)
 (h5:Rw w5 (.slice p5 n c5) r.byt) (h6:∀g,(Value.slice p5 n c5).ownBlock=some g→wr.heap.size≤g) (hbase:base≤wr.heap.size)
 (R8:w8.ownsRow base 46 3 (.slice p8 (RR.length+1) c8) (RR.length+1) (RR.flatMap FileR.cells++cs)) (K8:Keep (λq=>v'.ownBlock=some q) (w5.alloc o) w8) (O8:∀q,(Value.slice p8 (RR.length+1) c8).ownBlock=some q→v'.ownBlock=some q∨q=(w5.alloc o).heap.size)
 (hr:r.cells=cs) (hrb:r.bv=.slice p5 n c5) :
 Boxes (w8.setCell ⟨bl,0,none⟩ (.slice p8 (RR.length+1) c8)) bl bw (.slice p8 (RR.length+1) c8)∧FRows (w8.setCell ⟨bl,0,none⟩ (.slice p8 (RR.length+1) c8)) base (.slice p8 (RR.length+1) c8) (RR++[r])∧
  Keep (λq=>q=bl∨v'.ownBlock=some q) wr (w8.setCell ⟨bl,0,none⟩ (.slice p8 (RR.length+1) c8))∧∀q,(Value.slice p8 (RR.length+1) c8).ownBlock=some q→v'.ownBlock=some q∨wr.heap.size≤q:=by
 have hv:∀q,v'.ownBlock=some q→base≤q:=λq hq=>(row_blk hfr.row hq).1
 have ka:Bel wr (w5.alloc o):=hk5.ac o
 have B8:=(hbx.l.bel ka).keep K8 (λe=>by have:=hv _ e;omega)
 have F8:=(hbx.f.bel ka).keep K8 (λe=>by have:=hv _ e;omega)
 have ks:=Keep.setCell w8 bl 0 (.slice p8 (RR.length+1) c8)
 refine⟨⟨B8.setCell (o:=0) _,F8.keep ks (λe=>hne e.symm)⟩,?_,?_,?_⟩
 ·have hfa:=hfr.bel ka
  have h5a:Rw (w5.alloc o) r.bv r.byt:=by rw[hrb];exact h5.bel (Bel.start w5 o)
  have hs:=hfa.snoc (r:=r) h5a (λg hg=>by rw[hrb]at hg;have:=h6 g hg;omega) (by decide) (by rw[hr];exact R8) K8
  exact hs.keep ks (λg hg _ e=>by have e:g=bl:=e;omega)
 ·exact((Keep.of_bel _ ka).tr (K8.mono λq h=>.inr h)).tr (ks.mono λq h=>.inl h)
 ·intro q hq
  rcases O8 q hq with h|h
  ·exact .inl h
  ·have:=ka.size
   exact .inr (by omega)
theorem all1_any (A:Adr) (T:List Pn) (hl:T.length≤8000) (hlv:Live T) (hs:∀n∈nds T,n.name.size≤1000) (hby:∀n∈T,n.byt.length≤1000000) (bl bw base:Nat) (hbb:bl<base) (hbw:bw<base) (hbne:bl≠bw) (hfoot:∀q,TFoot A T q→q<base∧q≠bl) :
 ∀(f d:Nat) (n:Pn) (W:World) (v:Value) (R:List FileR),T.length≤d+f→T[d]?=some n→n.gone=false→PTree W A T→base≤W.heap.size→Boxes W bl bw v→FRows W base v R→R.length+(descF (nds T) f (d+1)).length≤100000→
 Calls Tryz.prog 177 #[A.ptr (d+1),.pointer (some ⟨bl,0,none⟩),.pointer (some ⟨bw,0,none⟩)] W λe w'=>e=.returned (.tuple #[])∧AllRes W bl bw base v R T (descF (nds T) f (d+1)) w':=by
 intro f
 induction f with
 | zero=>
   intro d n W v R hf hd
   have:=(List.getElem?_eq_some_iff.1 hd).1
   omega
 | succ f ih=>
   intro d n W v R hf hd hg ht hbase hbx hfr hcnt
   have hB:=ht.node d n hd
   have c2:W.cell? ⟨A.nb (d+1),2,none⟩=some (.map (n.map A (d+1))):=hB.cell 2
   rw[show A.ptr (d+1)=.pointer (some ⟨A.nb (d+1),0,none⟩)from rfl]
   cases hdir:n.dir with
   | false=>
     have hkn:kidN (nds T) (d+1)=[]:=by
      refine List.eq_nil_iff_forall_not_mem.2 λk hk=>?_
      obtain⟨j,x,hj,hp,rfl⟩:=kidN_mem.1 hk
      unfold nds at hj
      rw[List.getElem?_map]at hj
      cases hy:T[j]? with
      | none=>rw[hy]at hj;cases hj
      | some y=>
        rw[hy]at hj
        simp only[Option.map_some,Option.some.injEq]at hj
        subst hj
        have hyp:y.par=d+1:=by
         have:(if y.gone then 0 else y.par)=d+1:=hp
         split at this
         ·omega
         ·exact this
        obtain⟨p,h1,h2⟩:=ht.pdir j y hy (by omega)
        rw[hyp,Nat.add_sub_cancel,hd]at h1
        cases h1
        rw[hdir]at h2
        cases h2
     rw[show n.map A (d+1)=none from by unfold Pn.map;rw[hdir];rfl]at c2
     have HFR:=xh hfr
     have HBX:=xh hbx
     clear hfr hbx hB ht
     go_enter Tryz.func177,Tryz.ntmps177
     go_wp2_with (go_at_call 178;((with_reducible refine Calls.mono (sortedN_none _) ?_);rintro e w1 ⟨rfl,k1⟩;have HK1:=xh k1;clear k1))
     refine wp_loop_rounds 1 ?_
     rw[rounds_succ]
     go_wp2
     go_end0
     refine⟨rfl,⟨v,[],[],?_,rfl,⟨HBX.out.l.bel HK1.out,HBX.out.f.bel HK1.out⟩,by rw[List.append_nil];exact HFR.out.bel HK1.out,Keep.of_bel _ HK1.out,λq hq=>.inl hq⟩⟩
     unfold descF
     rw[hkn]
     exact List.Perm.nil
   | true=>
     have hvl:∀q,v.ownBlock=some q→base≤q∧q<W.heap.size:=λq hq=>by
      obtain⟨h1,cur,h2⟩:=row_blk hfr.row hq
      exact⟨h1,h2.lt⟩
     have hso:=λW' (hW:Bel W W')=>sortedN_any A T d n W' (ht.bel hW) hl hd hdir hs
     rw[show n.map A (d+1)=some (A.mb (d+1))from by unfold Pn.map;rw[hdir];rfl]at c2
     have HSO:=xh hso
     have HFR:=xh hfr
     have HBX:=xh hbx
     have HT:=xh ht
     have HVL:=xh hvl
     have HD:=xh (And.intro hd (And.intro hg hdir))
     clear hfr hbx hB ht hso hvl hd hg hdir
     go_enter Tryz.func177,Tryz.ntmps177
     go_wp2_with (go_at_call 178;((with_reducible refine Calls.mono (HSO.out _ (Bel.refl _)) ?_);rintro e w1 ⟨⟨v1,E,rfl,hE,hrow⟩,k1⟩;obtain⟨ps,cap,rfl,hcap,hcm,hps⟩:=row_slice hrow;have HK1:=xh k1;have HE:=xh hE;have HPS:=xh hps;clear k1 hE hrow hps))
     have hel:E.length≤8000:=by
      have h1:=HE.out.length_eq
      have h2:=kidF_len (d+1) 0 (nds T)
      rw[nds_len]at h2
      unfold kidN at h1
      omega
     clear c2
     go_loopw [14] (λi wr=>∃(k:Nat) (v':Value) (D:List Nat) (Rn:List FileR),k≤E.length∧i=.int .i64 k∧D.Perm ((E.take k).flatMap λx=>x::descF (nds T) f x)∧Rn.map FileR.key=D.map (nodeK T)∧Boxes wr bl bw v'∧FRows wr base v' (R++Rn)∧Keep (λq=>q=bl∨v.ownBlock=some q) w1 wr∧∀q,v'.ownBlock=some q→v.ownBlock=some q∨w1.heap.size≤q) (λi _=>E.length-(intOf i).toNat)
     case atStart=>exact⟨0,v,[],[],Nat.zero_le _,rfl,List.Perm.nil,rfl,⟨HBX.out.l.bel HK1.out,HBX.out.f.bel HK1.out⟩,by rw[List.append_nil];exact HFR.out.bel HK1.out,Keep.refl _ _,λq hq=>.inl hq⟩
     case round=>
      obtain⟨k,v',D,Rn,hk,rfl,hD,hRn,hbx,hfr,hkr,hvo⟩:=hrel
      have HDP:=xh (And.intro hD hRn)
      have HBX2:=xh hbx
      have HFR2:=xh hfr
      have HKR:=xh hkr
      have HVO:=xh hvo
      clear hD hRn hbx hfr hkr hvo
      by_cases hlt:k<E.length
      ·have hx:=List.getElem?_eq_getElem hlt
       have hxm:=HE.out.mem_iff.1 (List.getElem_mem hlt)
       obtain⟨j,xn,hj,hp,hxe⟩:=kidN_mem.1 hxm
       obtain⟨m,hm,rfl⟩:∃m,T[j]?=some m∧xn=m.nd:=by
        unfold nds at hj
        rw[List.getElem?_map]at hj
        cases hy:T[j]? with
        | none=>rw[hy]at hj;cases hj
        | some y=>rw[hy]at hj;simp at hj;exact⟨y,rfl,hj.symm⟩
       have hmg:m.gone=false:=by
        have:(if m.gone then 0 else m.par)=d+1:=hp
        cases hc:m.gone with
        | false=>rfl
        | true=>rw[hc]at this;simp at this
       have hdj:d<j:=by
        have:=kidN_gt HT.out.down (d:=d+1) (by omega) hxm
        omega
       obtain⟨g,rfl,hgb,hgl,hcell,_⟩:=HPS.out.resolve_left (by omega)
       have hgw:=HK1.out.size
       have kw:Keep (λq=>q=bl∨v.ownBlock=some q) W wr:=(Keep.of_bel _ HK1.out).tr HKR.out
       have htr:PTree wr A T:=HT.out.keep kw λq hq=>by
        have h1:=hfoot q hq
        rintro(h2|h2)
        ·exact h1.2 h2
        ·have:=(HVL.out q h2).1;omega
       have hcp:wr.cell? ⟨g,k,none⟩=some (.pointer (some ⟨A.nb (j+1),0,none⟩)):=by
        rw[HKR.out.cell ⟨g,k,none⟩ hgl (by
         rintro(h2|h2)
         ·have h2:g=bl:=h2;omega
         ·have:=(HVL.out g h2).2;omega),hcell k (by simpa using hlt),List.getElem?_map,hx,hxe]
        rfl
       have hB:=htr.node j m hm
       have c3:wr.cell? ⟨A.nb (j+1),3,none⟩=some m.bv:=hB.cell 3
       have c2:wr.cell? ⟨A.nb (j+1),2,none⟩=some (.map (m.map A (j+1))):=hB.cell 2
       have cl:wr.cell? ⟨bl,0,none⟩=some v':=HBX2.out.l.cell 0
       have hpa:=pathP_any A T wr htr hl hlv hs j m hm hmg
       rw[show A.ptr (j+1)=.pointer (some ⟨A.nb (j+1),0,none⟩)from rfl]at hpa
       have HPA:=xh hpa
       have HTR:=xh htr
       have HX:=xh hxe
       have HM:=xh (And.intro hm (And.intro hmg (And.intro hp hx)))
       have HRW:=xh (htr.byts j m hm)
       have hbl:m.byt.length≤1000000:=hby m (List.mem_of_getElem? hm)
       have HKW:=xh kw
       have hnl:=hB.lt
       have hll:=HBX2.out.l.lt
       clear hpa hxm hxe hj hp hx hm hmg htr hB hcell kw
       have hnbl:A.nb (j+1)≠bl:=(hfoot _ ⟨j,m,HM.out.1,.inl rfl⟩).2
       have hnbl2:bl≠A.nb (j+1):=λe=>hnbl e.symm
       have hnbb:A.nb (j+1)<base:=(hfoot _ ⟨j,m,HM.out.1,.inl rfl⟩).1
       generalize hnbe:A.nb (j+1)=nbj at *
       have HNBE:=xh hnbe
       clear hnbe
       go_upto_region 4 with(go_at_call 179;((with_reducible refine Calls.mono HPA.out ?_);rintro e wx ⟨rfl,hh⟩;subst hh))
       have hvb:∀q,v'.ownBlock=some q→base≤q∧q<wr.heap.size:=λq hq=>by
        obtain⟨h1,cur,h2⟩:=row_blk HFR2.out.row hq
        exact⟨h1,h2.lt⟩
       have HVB:=xh hvb
       have hrl:(R++Rn).length≤100000:=by
        have h1:=congrArg List.length HDP.out.2
        have h2:=HDP.out.1.length_eq
        have h3:((E.take k).flatMap λx=>x::descF (nds T) f x).length≤(E.flatMap λx=>x::descF (nds T) f x).length:=by
         conv=>rhs;rw[←List.take_append_drop k E,List.flatMap_append,List.length_append]
         omega
        have h4:=(HE.out.flatMap_right λx=>x::descF (nds T) f x).length_eq
        rw[show descF (nds T) (f+1) (d+1)=(kidN (nds T) (d+1)).flatMap λk=>k::descF (nds T) f k from rfl]at hcnt
        simp only[List.length_map]at h1
        rw[List.length_append]
        omega
       have hbr:base≤wr.heap.size:=Nat.le_trans hbase HKW.out.size
       obtain⟨RR,hRR⟩:∃RR,R++Rn=RR:=⟨_,rfl⟩
       rw[hRR]at HFR2 hrl
       have HRR:=xh hRR
       have HPK:Hid (nodeK T (j+1)=(pathL (nds T) (j+1),(m.map A (j+1)).isSome,m.byt)):=xh (by
        unfold nodeK
        rw[Nat.add_sub_cancel,HM.out.1]
        show(_,m.dir,m.byt)=_
        congr 2
        unfold Pn.map
        cases m.dir<;>rfl)
       obtain⟨pt,hpt⟩:∃pt,pathL (nds T) (j+1)=pt:=⟨_,rfl⟩
       rw[hpt]at HPK⊢
       rw[show strV pt=.string ⟨pt.toArray⟩from rfl]
       obtain⟨sb,hsb⟩:∃sb:ByteArray,⟨pt.toArray⟩=sb:=⟨_,rfl⟩
       rw[hsb]
       have HSB:=xh hsb
       generalize m.map A (j+1)=mm at *
       clear hRR hpt hvb hcp hsb
       go_cut [] (λwx=>Hid (∃(v2:Value) (r:FileR),r.key=nodeK T (j+1)∧Boxes wx bl bw v2∧FRows wx base v2 (RR++[r])∧Keep (λq=>q=bl∨v'.ownBlock=some q) wr wx∧∀q,v2.ownBlock=some q→v'.ownBlock=some q∨wr.heap.size≤q))
       case first=>
        refine wp_region_noPanic ?_
        refine wp_region_held_drew (S:=λw'=>w'.cell? ⟨nbj,3,none⟩=some m.bv∧w'.cell? ⟨nbj,2,none⟩=some (.map mm)) (by kernel_rfl) ⟨c3,c2⟩ (λhHeld=>?_)
        refine plan [1,2,4,5,6,7] ?_
        repeat refine tk rfl (by kernel_rfl) rfl (by intro w hw;(try dsimp only at hw);go_simp;with_reducible rfl) (by assumption) (λ_ _ _ h=>h) (by(try simp only[Act.put,lits]);exact rfl) ?_
        refine planned ?_
        refine wpAnyH_ready (rs:=[0,3]) (by kernel_rfl) (by simp) ?_
        refine AllReadyH.cons rfl (λK hK=>?ob7) ?xb7
        case ob7=>
         go_simp
         refine hK.out _ _ (by(try dsimp only);first|assumption|(go_keep;done)) (λhH=>?_)
         clear hK K
         (try simp only[Act.put,lits])
         refine rd 3 rfl (by kernel_rfl) (λK hK=>?_)
         go_simp;go_at_call 66;((with_reducible refine Calls.mono (dir_any nbj mm _ (by go_split_ands;assumption)) ?_);rintro e wx ⟨rfl,hh⟩;subst hh)
         refine hK.out _ _ (by(try dsimp only);first|assumption|(go_keep;done)) (λhH=>?_)
         clear hK K
         (try simp only[Act.put,lits])
         refine rd 8 rfl (by kernel_rfl) (λK hK=>?_)
         refine step_append_copy rfl (.tmp 30) 32 rfl Tryz.underlying32 byteInfoA m.byt m.bv rfl (HRW.out.bel (Bel.drew (Bel.refl _))) hbl ?_;intro bv2 w5 h5 h6 k5;obtain⟨p5,c5,rfl,_,_,_⟩:=h5.slice;have kk5:Bel wr w5:=(Bel.drew (Bel.refl wr)).tr k5;have cl5:=cell_bel kk5 cl;have cal5:∀o,(w5.alloc o).cell? ⟨bl,0,none⟩=some v':=λo=>cell_bel (Bel.start w5 o) cl5;have c35:=cell_bel kk5 c3;have c25:=cell_bel kk5 c2;have HK5:=xh kk5;have hb5:base≤w5.heap.size:=Nat.le_trans hbr kk5.size;have hl5:bl<w5.heap.size:=(by omega);have hn5:nbj<w5.heap.size:=(by omega);have HR5:=xh (And.intro h5 h6);clear h5 h6 k5 kk5
         refine hK.out _ _ (by(try dsimp only);first|assumption|(go_keep;done)) (λhH=>?_)
         clear hK K
         (try simp only[Act.put,lits])
         refine plan [9] ?_
         repeat refine tk rfl (by kernel_rfl) rfl (by intro w hw;(try dsimp only at hw);go_simp;with_reducible rfl) (by assumption) (λ_ _ _ h=>h) (by(try simp only[Act.put,lits]);exact rfl) ?_
         refine planned ?_
         refine rd 10 rfl (by kernel_rfl) (λK hK=>?_)
         go_simp
         refine hK.out _ _ (by(try dsimp only);first|assumption|(go_keep;done)) (λhH=>?_)
         clear hK K
         (try simp only[Act.put,lits])
         refine rd 11 rfl (by kernel_rfl) (λK hK=>?_)
         refine step_append_at (base:=base) (n:=RR.length) (xs:=RR.flatMap FileR.cells) (size:=3) (bytes:=48) rfl (.tmp 23) (.tmp 33) 24 rfl Tryz.underlying24 fileInfo (by omega) rfl (row_bel HFR2.out.row (HK5.out.ac _)) w5.heap.size 1 1 [.string sb,.bool mm.isSome,.slice p5 m.byt.length c5] rfl (λj u hj=>by rw[←hj];exact(Blk.new w5 [.string sb,.bool mm.isSome,.slice p5 m.byt.length c5] 46).cell j) rfl (by intro v hv;simp at hv;rcases hv with rfl|rfl|rfl<;>rfl) (by unfold maxLen;omega) (by omega) (by simp;omega) ?_;intro p8 c8 w8 R8 K8 O8;have cl8:w8.cell? ⟨bl,0,none⟩=some v':=(K8.cell ⟨bl,0,none⟩ (by simp;omega) (λe=>by have:=(HVB.out _ e).1;simp at this;omega)).trans (cell_bel (Bel.start w5 _) cl5);have c38:w8.cell? ⟨nbj,3,none⟩=some m.bv:=(K8.cell ⟨nbj,3,none⟩ (by simp;omega) (λe=>by have:=(HVB.out _ e).1;simp at this;omega)).trans (cell_bel (Bel.start w5 _) c35);have c28:w8.cell? ⟨nbj,2,none⟩=some (.map mm):=(K8.cell ⟨nbj,2,none⟩ (by simp;omega) (λe=>by have:=(HVB.out _ e).1;simp at this;omega)).trans (cell_bel (Bel.start w5 _) c25);have HST:=xh (all_step (r:=⟨pt,mm.isSome,m.byt,p5,c5⟩) HBX2.out HFR2.out hbb hbw hbne HK5.out HR5.out.1 HR5.out.2 hbr R8 K8 O8 (by unfold FileR.cells strV FileR.bv;rw[HSB.out]) rfl);have f8:w8.frozen? ⟨bl,0,none⟩=false:=(((HBX2.out.l.bel HK5.out).alloc _).keep K8 (λe=>by have:=(HVB.out _ e).1;omega)).frozen 0;have hl8:bl<w8.heap.size:=Nat.lt_of_lt_of_le hl5 (Nat.le_trans (by simp) K8.size);clear R8 K8 O8
         refine hK.out _ _ (by(try dsimp only);first|assumption|(go_keep;done)) (λhH=>?_)
         clear hK K
         (try simp only[Act.put,lits])
         refine rd 12 rfl (by kernel_rfl) (λK hK=>?_)
         go_simp
         refine hK.out _ _ (by(try dsimp only);first|assumption|(go_keep;done)) (λhH=>?_)
         clear hK K
         (try simp only[Act.put,lits])
         refine wpAnyH_done (by kernel_rfl) ?_ _
         refine NoPanic.normal ?_
         go_wp2_with fail
         go_meet
         exact xh ⟨_,⟨pt,mm.isSome,m.byt,p5,c5⟩,HPK.out.symm,HST.out⟩
        case xb7=>
         refine AllReadyH.cons rfl (λK hK=>?ob9) AllReadyH.nil
         case ob9=>
          go_simp;go_at_call 66;((with_reducible refine Calls.mono (dir_any nbj mm _ (by go_split_ands;assumption)) ?_);rintro e wx ⟨rfl,hh⟩;subst hh)
          refine hK.out _ _ (by(try dsimp only);first|assumption|(go_keep;done)) (λhH=>?_)
          clear hK K
          (try simp only[Act.put,lits])
          refine wpAnyH_ready (rs:=[0,8]) (by kernel_rfl) (by simp) ?_
          refine AllReadyH.cons rfl (λK hK=>?ob10) ?xb10
          case ob10=>
           go_simp
           refine hK.out _ _ (by(try dsimp only);first|assumption|(go_keep;done)) (λhH=>?_)
           clear hK K
           (try simp only[Act.put,lits])
           refine rd 8 rfl (by kernel_rfl) (λK hK=>?_)
           refine step_append_copy rfl (.tmp 30) 32 rfl Tryz.underlying32 byteInfoA m.byt m.bv rfl (HRW.out.bel (Bel.drew (Bel.refl _))) hbl ?_;intro bv2 w5 h5 h6 k5;obtain⟨p5,c5,rfl,_,_,_⟩:=h5.slice;have kk5:Bel wr w5:=(Bel.drew (Bel.refl wr)).tr k5;have cl5:=cell_bel kk5 cl;have cal5:∀o,(w5.alloc o).cell? ⟨bl,0,none⟩=some v':=λo=>cell_bel (Bel.start w5 o) cl5;have c35:=cell_bel kk5 c3;have c25:=cell_bel kk5 c2;have HK5:=xh kk5;have hb5:base≤w5.heap.size:=Nat.le_trans hbr kk5.size;have hl5:bl<w5.heap.size:=(by omega);have hn5:nbj<w5.heap.size:=(by omega);have HR5:=xh (And.intro h5 h6);clear h5 h6 k5 kk5
           refine hK.out _ _ (by(try dsimp only);first|assumption|(go_keep;done)) (λhH=>?_)
           clear hK K
           (try simp only[Act.put,lits])
           refine plan [9] ?_
           repeat refine tk rfl (by kernel_rfl) rfl (by intro w hw;(try dsimp only at hw);go_simp;with_reducible rfl) (by assumption) (λ_ _ _ h=>h) (by(try simp only[Act.put,lits]);exact rfl) ?_
           refine planned ?_
           refine rd 10 rfl (by kernel_rfl) (λK hK=>?_)
           go_simp
           refine hK.out _ _ (by(try dsimp only);first|assumption|(go_keep;done)) (λhH=>?_)
           clear hK K
           (try simp only[Act.put,lits])
           refine rd 11 rfl (by kernel_rfl) (λK hK=>?_)
           refine step_append_at (base:=base) (n:=RR.length) (xs:=RR.flatMap FileR.cells) (size:=3) (bytes:=48) rfl (.tmp 23) (.tmp 33) 24 rfl Tryz.underlying24 fileInfo (by omega) rfl (row_bel HFR2.out.row (HK5.out.ac _)) w5.heap.size 1 1 [.string sb,.bool mm.isSome,.slice p5 m.byt.length c5] rfl (λj u hj=>by rw[←hj];exact(Blk.new w5 [.string sb,.bool mm.isSome,.slice p5 m.byt.length c5] 46).cell j) rfl (by intro v hv;simp at hv;rcases hv with rfl|rfl|rfl<;>rfl) (by unfold maxLen;omega) (by omega) (by simp;omega) ?_;intro p8 c8 w8 R8 K8 O8;have cl8:w8.cell? ⟨bl,0,none⟩=some v':=(K8.cell ⟨bl,0,none⟩ (by simp;omega) (λe=>by have:=(HVB.out _ e).1;simp at this;omega)).trans (cell_bel (Bel.start w5 _) cl5);have c38:w8.cell? ⟨nbj,3,none⟩=some m.bv:=(K8.cell ⟨nbj,3,none⟩ (by simp;omega) (λe=>by have:=(HVB.out _ e).1;simp at this;omega)).trans (cell_bel (Bel.start w5 _) c35);have c28:w8.cell? ⟨nbj,2,none⟩=some (.map mm):=(K8.cell ⟨nbj,2,none⟩ (by simp;omega) (λe=>by have:=(HVB.out _ e).1;simp at this;omega)).trans (cell_bel (Bel.start w5 _) c25);have HST:=xh (all_step (r:=⟨pt,mm.isSome,m.byt,p5,c5⟩) HBX2.out HFR2.out hbb hbw hbne HK5.out HR5.out.1 HR5.out.2 hbr R8 K8 O8 (by unfold FileR.cells strV FileR.bv;rw[HSB.out]) rfl);have f8:w8.frozen? ⟨bl,0,none⟩=false:=(((HBX2.out.l.bel HK5.out).alloc _).keep K8 (λe=>by have:=(HVB.out _ e).1;omega)).frozen 0;have hl8:bl<w8.heap.size:=Nat.lt_of_lt_of_le hl5 (Nat.le_trans (by simp) K8.size);clear R8 K8 O8
           refine hK.out _ _ (by(try dsimp only);first|assumption|(go_keep;done)) (λhH=>?_)
           clear hK K
           (try simp only[Act.put,lits])
           refine rd 12 rfl (by kernel_rfl) (λK hK=>?_)
           go_simp
           refine hK.out _ _ (by(try dsimp only);first|assumption|(go_keep;done)) (λhH=>?_)
           clear hK K
           (try simp only[Act.put,lits])
           refine wpAnyH_done (by kernel_rfl) ?_ _
           refine NoPanic.normal ?_
           go_wp2_with fail
           go_meet
           exact xh ⟨_,⟨pt,mm.isSome,m.byt,p5,c5⟩,HPK.out.symm,HST.out⟩
          case xb10=>
           refine AllReadyH.cons rfl (λK hK=>?ob12) AllReadyH.nil
           case ob12=>
            refine step_append_copy rfl (.tmp 30) 32 rfl Tryz.underlying32 byteInfoA m.byt m.bv rfl (HRW.out.bel (Bel.drew (Bel.refl _))) hbl ?_;intro bv2 w5 h5 h6 k5;obtain⟨p5,c5,rfl,_,_,_⟩:=h5.slice;have kk5:Bel wr w5:=(Bel.drew (Bel.refl wr)).tr k5;have cl5:=cell_bel kk5 cl;have cal5:∀o,(w5.alloc o).cell? ⟨bl,0,none⟩=some v':=λo=>cell_bel (Bel.start w5 o) cl5;have c35:=cell_bel kk5 c3;have c25:=cell_bel kk5 c2;have HK5:=xh kk5;have hb5:base≤w5.heap.size:=Nat.le_trans hbr kk5.size;have hl5:bl<w5.heap.size:=(by omega);have hn5:nbj<w5.heap.size:=(by omega);have HR5:=xh (And.intro h5 h6);clear h5 h6 k5 kk5
            refine hK.out _ _ (by(try dsimp only);first|assumption|(go_keep;done)) (λhH=>?_)
            clear hK K
            (try simp only[Act.put,lits])
            refine plan [9] ?_
            repeat refine tk rfl (by kernel_rfl) rfl (by intro w hw;(try dsimp only at hw);go_simp;with_reducible rfl) (by assumption) (λ_ _ _ h=>h) (by(try simp only[Act.put,lits]);exact rfl) ?_
            refine planned ?_
            refine wpAnyH_ready (rs:=[0,10]) (by kernel_rfl) (by simp) ?_
            refine AllReadyH.cons rfl (λK hK=>?ob14) ?xb14
            case ob14=>
                  go_simp
                  refine hK.out _ _ (by(try dsimp only);first|assumption|(go_keep;done)) (λhH=>?_)
                  clear hK K
                  (try simp only[Act.put,lits])
                  refine rd 10 rfl (by kernel_rfl) (λK hK=>?_)
                  go_simp
                  refine hK.out _ _ (by(try dsimp only);first|assumption|(go_keep;done)) (λhH=>?_)
                  clear hK K
                  (try simp only[Act.put,lits])
                  refine rd 11 rfl (by kernel_rfl) (λK hK=>?_)
                  refine step_append_at (base:=base) (n:=RR.length) (xs:=RR.flatMap FileR.cells) (size:=3) (bytes:=48) rfl (.tmp 23) (.tmp 33) 24 rfl Tryz.underlying24 fileInfo (by omega) rfl (row_bel HFR2.out.row (HK5.out.ac _)) w5.heap.size 1 1 [.string sb,.bool mm.isSome,.slice p5 m.byt.length c5] rfl (λj u hj=>by rw[←hj];exact(Blk.new w5 [.string sb,.bool mm.isSome,.slice p5 m.byt.length c5] 46).cell j) rfl (by intro v hv;simp at hv;rcases hv with rfl|rfl|rfl<;>rfl) (by unfold maxLen;omega) (by omega) (by simp;omega) ?_;intro p8 c8 w8 R8 K8 O8;have cl8:w8.cell? ⟨bl,0,none⟩=some v':=(K8.cell ⟨bl,0,none⟩ (by simp;omega) (λe=>by have:=(HVB.out _ e).1;simp at this;omega)).trans (cell_bel (Bel.start w5 _) cl5);have c38:w8.cell? ⟨nbj,3,none⟩=some m.bv:=(K8.cell ⟨nbj,3,none⟩ (by simp;omega) (λe=>by have:=(HVB.out _ e).1;simp at this;omega)).trans (cell_bel (Bel.start w5 _) c35);have c28:w8.cell? ⟨nbj,2,none⟩=some (.map mm):=(K8.cell ⟨nbj,2,none⟩ (by simp;omega) (λe=>by have:=(HVB.out _ e).1;simp at this;omega)).trans (cell_bel (Bel.start w5 _) c25);have HST:=xh (all_step (r:=⟨pt,mm.isSome,m.byt,p5,c5⟩) HBX2.out HFR2.out hbb hbw hbne HK5.out HR5.out.1 HR5.out.2 hbr R8 K8 O8 (by unfold FileR.cells strV FileR.bv;rw[HSB.out]) rfl);have f8:w8.frozen? ⟨bl,0,none⟩=false:=(((HBX2.out.l.bel HK5.out).alloc _).keep K8 (λe=>by have:=(HVB.out _ e).1;omega)).frozen 0;have hl8:bl<w8.heap.size:=Nat.lt_of_lt_of_le hl5 (Nat.le_trans (by simp) K8.size);clear R8 K8 O8
                  refine hK.out _ _ (by(try dsimp only);first|assumption|(go_keep;done)) (λhH=>?_)
                  clear hK K
                  (try simp only[Act.put,lits])
                  refine rd 12 rfl (by kernel_rfl) (λK hK=>?_)
                  go_simp
                  refine hK.out _ _ (by(try dsimp only);first|assumption|(go_keep;done)) (λhH=>?_)
                  clear hK K
                  (try simp only[Act.put,lits])
                  refine wpAnyH_done (by kernel_rfl) ?_ _
                  refine NoPanic.normal ?_
                  go_wp2_with fail
                  go_meet
                  exact xh ⟨_,⟨pt,mm.isSome,m.byt,p5,c5⟩,HPK.out.symm,HST.out⟩
            case xb14=>
                  refine AllReadyH.cons rfl (λK hK=>?ob15) AllReadyH.nil
                  case ob15=>
                   go_simp
                   refine hK.out _ _ (by(try dsimp only);first|assumption|(go_keep;done)) (λhH=>?_)
                   clear hK K
                   (try simp only[Act.put,lits])
                   refine rd 0 rfl (by kernel_rfl) (λK hK=>?_)
                   go_simp
                   refine hK.out _ _ (by(try dsimp only);first|assumption|(go_keep;done)) (λhH=>?_)
                   clear hK K
                   (try simp only[Act.put,lits])
                   refine rd 11 rfl (by kernel_rfl) (λK hK=>?_)
                   refine step_append_at (base:=base) (n:=RR.length) (xs:=RR.flatMap FileR.cells) (size:=3) (bytes:=48) rfl (.tmp 23) (.tmp 33) 24 rfl Tryz.underlying24 fileInfo (by omega) rfl (row_bel HFR2.out.row (HK5.out.ac _)) w5.heap.size 1 1 [.string sb,.bool mm.isSome,.slice p5 m.byt.length c5] rfl (λj u hj=>by rw[←hj];exact(Blk.new w5 [.string sb,.bool mm.isSome,.slice p5 m.byt.length c5] 46).cell j) rfl (by intro v hv;simp at hv;rcases hv with rfl|rfl|rfl<;>rfl) (by unfold maxLen;omega) (by omega) (by simp;omega) ?_;intro p8 c8 w8 R8 K8 O8;have cl8:w8.cell? ⟨bl,0,none⟩=some v':=(K8.cell ⟨bl,0,none⟩ (by simp;omega) (λe=>by have:=(HVB.out _ e).1;simp at this;omega)).trans (cell_bel (Bel.start w5 _) cl5);have c38:w8.cell? ⟨nbj,3,none⟩=some m.bv:=(K8.cell ⟨nbj,3,none⟩ (by simp;omega) (λe=>by have:=(HVB.out _ e).1;simp at this;omega)).trans (cell_bel (Bel.start w5 _) c35);have c28:w8.cell? ⟨nbj,2,none⟩=some (.map mm):=(K8.cell ⟨nbj,2,none⟩ (by simp;omega) (λe=>by have:=(HVB.out _ e).1;simp at this;omega)).trans (cell_bel (Bel.start w5 _) c25);have HST:=xh (all_step (r:=⟨pt,mm.isSome,m.byt,p5,c5⟩) HBX2.out HFR2.out hbb hbw hbne HK5.out HR5.out.1 HR5.out.2 hbr R8 K8 O8 (by unfold FileR.cells strV FileR.bv;rw[HSB.out]) rfl);have f8:w8.frozen? ⟨bl,0,none⟩=false:=(((HBX2.out.l.bel HK5.out).alloc _).keep K8 (λe=>by have:=(HVB.out _ e).1;omega)).frozen 0;have hl8:bl<w8.heap.size:=Nat.lt_of_lt_of_le hl5 (Nat.le_trans (by simp) K8.size);clear R8 K8 O8
                   refine hK.out _ _ (by(try dsimp only);first|assumption|(go_keep;done)) (λhH=>?_)
                   clear hK K
                   (try simp only[Act.put,lits])
                   refine rd 12 rfl (by kernel_rfl) (λK hK=>?_)
                   go_simp
                   refine hK.out _ _ (by(try dsimp only);first|assumption|(go_keep;done)) (λhH=>?_)
                   clear hK K
                   (try simp only[Act.put,lits])
                   refine wpAnyH_done (by kernel_rfl) ?_ _
                   refine NoPanic.normal ?_
                   go_wp2_with fail
                   go_meet
                   exact xh ⟨_,⟨pt,mm.isSome,m.byt,p5,c5⟩,HPK.out.symm,HST.out⟩
       case rest=>
        obtain⟨v2,r,hrk,hbx2,hfr2,hk2,hv2⟩:=hcut.out
        have kwc:Keep (λq=>q=bl∨v.ownBlock=some q) W wc:=HKW.out.tr_new hk2 (λq hq=>by
         rcases hq with h|h
         ·exact .inl (.inl h)
         ·rcases HVO.out q h with h|h
          ·exact .inl (.inr h)
          ·exact .inr (Nat.le_trans HK1.out.size h))
        have htc:PTree wc A T:=HT.out.keep kwc λq hq=>by
         have h1:=hfoot q hq
         rintro(h2|h2)
         ·exact h1.2 h2
         ·have:=(HVL.out q h2).1;omega
        have cbw:wc.cell? ⟨bw,0,none⟩=some (.func (.func 177) #[] #[.pointer (some ⟨bl,0,none⟩),.pointer (some ⟨bw,0,none⟩)]):=hbx2.f.cell 0
        have hih:=ih j m wc v2 (RR++[r]) (by omega) HM.out.1 HM.out.2.1 htc (Nat.le_trans hbase kwc.size) hbx2 hfr2 (by
         have h1:=congrArg List.length HDP.out.2
         have h2:=HDP.out.1.length_eq
         have h3:((E.take k).flatMap λx=>x::descF (nds T) f x).length+(descF (nds T) f (j+1)).length+1≤(E.flatMap λx=>x::descF (nds T) f x).length:=by
          conv=>rhs;rw[←List.take_append_drop k E,List.flatMap_append,List.length_append]
          rw[List.drop_eq_getElem_cons hlt,List.flatMap_cons,List.length_append,HX.out,List.length_cons]
          omega
         have h4:=(HE.out.flatMap_right λx=>x::descF (nds T) f x).length_eq
         rw[show descF (nds T) (f+1) (d+1)=(kidN (nds T) (d+1)).flatMap λk=>k::descF (nds T) f k from rfl]at hcnt
         simp only[List.length_map]at h1
         have h5:=congrArg List.length HRR.out
         rw[List.length_append]at h5
         rw[List.length_append,List.length_singleton]
         omega)
        rw[show A.ptr (j+1)=.pointer (some ⟨nbj,0,none⟩)from by rw[←HNBE.out];rfl]at hih
        have HIH:=xh hih
        have HR2:=xh (And.intro hrk (And.intro hk2 hv2))
        have HKC:=xh kwc
        clear hih hrk hbx2 hfr2 hk2 hv2 htc kwc
        go_wp2_with (go_at_call 177;((with_reducible refine Calls.mono HIH.out ?_);rintro e w9 ⟨rfl,h9⟩;have HR9:=xh h9;clear h9))
        go_roundw
        case rel=>
         obtain⟨v3,E3,Rn3,hp3,hk3,hbx3,hfr3,hkk3,hv3⟩:=HR9.out.out
         have hk4:Keep (λq=>q=bl∨v.ownBlock=some q) w1 wc:=HKR.out.tr_new HR2.out.2.1 (λq hq=>by
          rcases hq with h|h
          ·exact .inl (.inl h)
          ·rcases HVO.out q h with h|h
           ·exact .inl (.inr h)
           ·exact .inr h)
         have hv4:∀q,v2.ownBlock=some q→v.ownBlock=some q∨w1.heap.size≤q:=λq hq=>by
          rcases HR2.out.2.2 q hq with h|h
          ·exact HVO.out q h
          ·exact .inr (Nat.le_trans HKR.out.size h)
         refine⟨k+1,v3,D++(j+1)::E3,Rn++r::Rn3,by omega,by go_num,?_,?_,hbx3,?_,?_,?_⟩
         ·rw[List.take_succ_eq_append_getElem hlt,List.flatMap_append,List.flatMap_singleton,HX.out]
          exact HDP.out.1.append (hp3.cons _)
         ·rw[List.map_append,List.map_append,List.map_cons,List.map_cons,HDP.out.2,hk3,HR2.out.1]
         ·have e:R++(Rn++r::Rn3)=RR++[r]++Rn3:=by rw[←HRR.out];simp
          rw[e]
          exact hfr3
         ·exact hk4.tr_new hkk3 (λq hq=>by
           rcases hq with h|h
           ·exact .inl (.inl h)
           ·rcases hv4 q h with h|h
            ·exact .inl (.inr h)
            ·exact .inr h)
         ·intro q hq
          rcases hv3 q hq with h|h
          ·exact hv4 q h
          ·exact .inr (Nat.le_trans hk4.size h)
        case measure=>simp[intOf]<;>omega
      ·obtain rfl:k=E.length:=by omega
       go_wp2_with fail
       go_end0
       refine⟨rfl,⟨v',D,Rn,?_,HDP.out.2,HBX2.out,HFR2.out,(Keep.of_bel _ HK1.out).tr HKR.out,λq hq=>?_⟩⟩
       ·have:=HDP.out.1
        rw[List.take_length]at this
        exact this.trans (HE.out.flatMap_right _)
       ·rcases HVO.out q hq with h|h
        ·exact .inl h
        ·exact .inr (Nat.le_trans HK1.out.size h)
theorem isNaN_any (a:ByteArray) (w:World):Calls Tryz.prog 283 #[.string a] w λe w'=>e=.returned (.bool false)∧w=w':=by
 go_enter Tryz.func283,Tryz.ntmps283
 go_wp2
 go_ret
 exact⟨rfl,rfl⟩
def pcmp (a b:List UInt8):Int:=if a<b then -1 else if a=b then 0 else 1
theorem cmpS_any (a b:ByteArray) (w:World):Calls Tryz.prog 237 #[.string a,.string b] w λe w'=>e=.returned (.int .i64 (pcmp a.data.toList b.data.toList))∧w=w':=by
 go_enter Tryz.func237,Tryz.ntmps237
 go_wp2_with (go_at_call 283;((with_reducible refine Calls.mono (isNaN_any _ _) ?_);rintro e w1 ⟨rfl,hh⟩;subst hh))
 ·have h:Op.bytesLess a.toList b.toList=true:=by assumption
  rw[ByteArray.toList_eq,ByteArray.toList_eq,bytesLess_eq]at h
  go_ret
  refine⟨?_,rfl⟩
  rw[pcmp,if_pos (by simpa using h)]
  rfl
 ·have h1:Op.bytesLess a.toList b.toList=false:=by assumption
  have h2:(!a.toList==b.toList)=true:=by assumption
  rw[ByteArray.toList_eq,ByteArray.toList_eq,bytesLess_eq]at h1
  rw[ByteArray.toList_eq,ByteArray.toList_eq]at h2
  go_ret
  refine⟨?_,rfl⟩
  rw[pcmp,if_neg (by simpa using h1),if_neg (by simpa using h2)]
  rfl
 ·have h1:Op.bytesLess a.toList b.toList=false:=by assumption
  have h2:(!a.toList==b.toList)=false:=by assumption
  rw[ByteArray.toList_eq,ByteArray.toList_eq,bytesLess_eq]at h1
  rw[ByteArray.toList_eq,ByteArray.toList_eq]at h2
  go_ret
  refine⟨?_,rfl⟩
  rw[pcmp,if_neg (by simpa using h1),if_pos (by simpa using h2)]
  rfl
end Go.Proofs.YtjdaddmjpicflaaGreatDoor
namespace Go.Proofs
open Go.Shelf
def Tryz.sortF_ren:Go.Shelf.Ren:=⟨λ|6=>235|15=>231|14=>282|28=>277|29=>278|20=>323|21=>324|22=>325|23=>326|24=>327|25=>328|26=>329|27=>330|46=>352|47=>316|48=>317|49=>353|50=>354|57=>358|n=>n,λ|22=>24|24=>46|25=>391|3=>3|39=>29|0=>0|53=>427|55=>75|4=>4|46=>421|45=>420|50=>278|5=>5|9=>9|66=>491|70=>495|76=>516|77=>140|n=>n,λ|n=>n⟩
theorem Tryz.sortF:Go.Proofs.SlLaysF0.n6 Tryz.prog Tryz.sortF_ren:={
 mixed:=by kernel_rfl
 f6:=⟨Tryz.f235.name,by decide,Tryz.func235.trans (congrArg some (by kernel_rfl))⟩
 f14:=⟨Tryz.f282.name,by decide,Tryz.func282.trans (congrArg some (by kernel_rfl))⟩
 f15:=Tryz.func231.trans (congrArg some (by kernel_rfl))
 f20:=⟨Tryz.f323.name,by decide,Tryz.func323.trans (congrArg some (by kernel_rfl))⟩
 f21:=⟨Tryz.f324.name,by decide,Tryz.func324.trans (congrArg some (by kernel_rfl))⟩
 f22:=⟨Tryz.f325.name,by decide,Tryz.func325.trans (congrArg some (by kernel_rfl))⟩
 f23:=⟨Tryz.f326.name,by decide,Tryz.func326.trans (congrArg some (by kernel_rfl))⟩
 f24:=⟨Tryz.f327.name,by decide,Tryz.func327.trans (congrArg some (by kernel_rfl))⟩
 f25:=⟨Tryz.f328.name,by decide,Tryz.func328.trans (congrArg some (by kernel_rfl))⟩
 f26:=⟨Tryz.f329.name,by decide,Tryz.func329.trans (congrArg some (by kernel_rfl))⟩
 f27:=⟨Tryz.f330.name,by decide,Tryz.func330.trans (congrArg some (by kernel_rfl))⟩
 f28:=Tryz.func277.trans (congrArg some (by kernel_rfl))
 f29:=Tryz.func278.trans (congrArg some (by kernel_rfl))
 f46:=⟨Tryz.f352.name,by decide,Tryz.func352.trans (congrArg some (by kernel_rfl))⟩
 f47:=Tryz.func316.trans (congrArg some (by kernel_rfl))
 f48:=Tryz.func317.trans (congrArg some (by kernel_rfl))
 f49:=⟨Tryz.f353.name,by decide,Tryz.func353.trans (congrArg some (by kernel_rfl))⟩
 f50:=⟨Tryz.f354.name,by decide,Tryz.func354.trans (congrArg some (by kernel_rfl))⟩
 f57:=⟨Tryz.f358.name,by decide,Tryz.func358.trans (congrArg some (by kernel_rfl))⟩
 t0:=Tryz.underlying0
 a0:=Tryz.isAgg0
 z0:=Tryz.sizeOf0
 v0:=Tryz.zeroValue0
 t3:=Tryz.underlying3
 a3:=Tryz.isAgg3
 z3:=Tryz.sizeOf3
 v3:=Tryz.zeroValue3
 t4:=Tryz.underlying4
 a4:=Tryz.isAgg4
 z4:=Tryz.sizeOf4
 v4:=Tryz.zeroValue4
 t5:=Tryz.underlying5
 a5:=Tryz.isAgg5
 z5:=Tryz.sizeOf5
 v5:=Tryz.zeroValue5
 t9:=Tryz.underlying9
 a9:=Tryz.isAgg9
 z9:=Tryz.sizeOf9
 v9:=Tryz.zeroValue9
 t22:=Tryz.underlying24
 a22:=Tryz.isAgg24
 z22:=Tryz.sizeOf24
 v22:=Tryz.zeroValue24
 t25:=Tryz.underlying391
 a25:=Tryz.isAgg391
 z25:=Tryz.sizeOf391
 v25:=Tryz.zeroValue391
 t39:=Tryz.underlying29
 a39:=Tryz.isAgg29
 z39:=Tryz.sizeOf29
 v39:=Tryz.zeroValue29
 t45:=Tryz.underlying420
 a45:=Tryz.isAgg420
 z45:=Tryz.sizeOf420
 v45:=Tryz.zeroValue420
 t46:=Tryz.underlying421
 a46:=Tryz.isAgg421
 z46:=Tryz.sizeOf421
 v46:=Tryz.zeroValue421
 t50:=Tryz.underlying278
 a50:=Tryz.isAgg278
 z50:=Tryz.sizeOf278
 v50:=Tryz.zeroValue278
 t53:=Tryz.underlying427
 a53:=Tryz.isAgg427
 z53:=Tryz.sizeOf427
 v53:=Tryz.zeroValue427
 t55:=Tryz.underlying75
 a55:=Tryz.isAgg75
 z55:=Tryz.sizeOf75
 v55:=Tryz.zeroValue75
 t66:=Tryz.underlying491
 a66:=Tryz.isAgg491
 z66:=Tryz.sizeOf491
 v66:=Tryz.zeroValue491
 t70:=Tryz.underlying495
 a70:=Tryz.isAgg495
 z70:=Tryz.sizeOf495
 v70:=Tryz.zeroValue495
 t76:=Tryz.underlying516
 a76:=Tryz.isAgg516
 z76:=Tryz.sizeOf516
 v76:=Tryz.zeroValue516
 t77:=Tryz.underlying140
 a77:=Tryz.isAgg140
 z77:=Tryz.sizeOf140
 v77:=Tryz.zeroValue140}
end Go.Proofs
namespace Go.Proofs.YtjdaddmjpicflaaGreatDoor
open Go.RowKit Go.Sort Go.Shelf
instance:Inhabited FileR:=⟨⟨[],false,[],none,0⟩⟩
def fcmp (x y:FileR):Int:=pcmp x.path y.path
theorem fcmp_lt (x y:FileR):ltOf fcmp x y=decide (x.path<y.path):=by
 unfold ltOf fcmp pcmp
 by_cases h:x.path<y.path
 ·rw[if_pos h];simp[h]
 ·rw[if_neg h]
  by_cases e:x.path=y.path
  ·rw[if_pos e];simp[h]
  ·rw[if_neg e];simp[h]
theorem fcmp_swo:SWO (ltOf fcmp) where
 irrefl x:=by rw[fcmp_lt];simp[List.lt_irrefl]
 trans x y z h1 h2:=by
  rw[fcmp_lt]at *
  simp only[decide_eq_true_eq]at *
  exact List.lt_trans h1 h2
 ntrans x y z h1 h2:=by
  rw[fcmp_lt]at *
  simp only[decide_eq_false_iff_not]at *
  rw[List.not_lt]at *
  exact List.le_trans h2 h1
theorem grow_two (w:World) (a b:Obj):(w.alloc a).alloc b=grow w #[a,b]:=by
 rw[alloc_eq_grow,alloc_eq_grow,grow_grow]
 rfl
theorem byPathF_any (x y:FileR) (w:World):Calls Tryz.prog 236 #[.agg x.cells.toArray,.agg y.cells.toArray] w λe w'=>e=.returned (.int .i64 (fcmp x y))∧∃os,w'=grow w os:=by
 have hc:=cmpS_any ⟨x.path.toArray⟩ ⟨y.path.toArray⟩
 have HC:=xh hc
 have HF:Hid (pcmp (⟨x.path.toArray⟩:ByteArray).data.toList (⟨y.path.toArray⟩:ByteArray).data.toList=fcmp x y):=xh rfl
 clear hc
 have ex:x.cells.toArray = #[.string ⟨x.path.toArray⟩,.bool x.dir,x.bv]:=rfl
 have ey:y.cells.toArray = #[.string ⟨y.path.toArray⟩,.bool y.dir,y.bv]:=rfl
 rw[ex,ey]
 generalize (⟨x.path.toArray⟩:ByteArray)=sx at *
 generalize (⟨y.path.toArray⟩:ByteArray)=sy at *
 clear ex ey
 go_enter Tryz.func236,Tryz.ntmps236
 go_wp2_with (go_at_call 237;((with_reducible refine Calls.mono (HC.out _) ?_);rintro e w1 ⟨rfl,hh⟩;subst hh))
 go_ret
 exact⟨by rw[←HF.out];rfl,_,grow_two _ _ _⟩
theorem flatK_list (d:List FileR):(flatK FileR.cells 3 d.toArray).toList=d.flatMap FileR.cells:=by
 apply List.ext_getElem?
 intro t
 have h3:∀x∈d,(FileR.cells x).length=3:=λ_ _=>rfl
 by_cases ht:t<d.length*3
 ·have e:=flat_at FileR.cells 3 d h3 (t/3) (t%3) (Nat.mod_lt _ (by omega))
  rw[show t/3*3+t%3=t from by omega]at e
  rw[e,List.getElem?_eq_getElem (show t/3<d.length by omega)]
  have hs:t<(flatK FileR.cells 3 d.toArray).size:=by simpa using ht
  rw[Array.getElem?_toList,Array.getElem?_eq_getElem hs]
  have:=get_flatK FileR.cells 3 d.toArray t (by simpa using ht)
  rw[getElem!_pos _ t hs,getElem!_pos _ (t/3) (by simp;omega)]at this
  rw[this]
  simp only[Option.bind_some,List.getElem_toArray]
  rw[getElem!_pos _ (t%3) (by show t%3<3;omega)]
  exact(List.getElem?_eq_getElem _).symm
 ·rw[List.getElem?_eq_none (by simp;omega),List.getElem?_eq_none (by rw[rowsLen];omega)]
theorem heap_sortK {w:World} {g n:Nat} {os:Array Obj} {cur:Array Value} {e:TypeId} {fr:Nat×Nat} (d:Array Value) (hb:w.heap[g]?=some (.cells cur e fr)) :
 (grow (putRow id (Sort.ahead w n) g 0 d) os).heap[g]?=some (.cells (putCells id 0 d cur) e fr):=by
 have hg:g<w.heap.size:=(Array.getElem?_eq_some_iff.1 hb).1
 rw[heap_grow_old _ _ (by simpa using hg)]
 simp[putRow,mapBlock,Sort.ahead,Array.getElem?_modify,hb,onCells]
theorem keep_sortK {w:World} {g n:Nat} {os:Array Obj} (d:Array Value):Keep (λq=>q=g) w (grow (putRow id (Sort.ahead w n) g 0 d) os):=by
 refine⟨rfl,rfl,rfl,by simp,λk hk hne=>?_⟩
 rw[heap_grow_old _ _ (by simpa using hk)]
 have:g≠k:=λe=>hne e.symm
 simp[putRow,mapBlock,Sort.ahead,Array.getElem?_modify,this]
theorem take_putK (cur:Array Value) (ts:List Value) (h:ts.length≤cur.size):(putCells id 0 ts.toArray cur).toList.take ts.length=ts:=by
 apply List.ext_getElem?
 intro j
 by_cases hj:j<ts.length
 ·rw[List.getElem?_take_of_lt hj,Array.getElem?_toList]
  simp[putCells,hj,show j<cur.size by omega]
 ·rw[List.getElem?_take_eq_none (by omega),List.getElem?_eq_none (by omega)]
def ByPath (R:List FileR):Prop:=R.Pairwise λx y=>¬y.path<x.path
theorem byPath_any (base:Nat) (v:Value) (R:List FileR) (w:World) (h:FRows w base v R) (hl:R.length≤100000) :
 Calls Tryz.prog 180 #[v] w λe w'=>e=.returned v∧∃R',R'.Perm R∧ByPath R'∧FRows w' base v R'∧Keep (λq=>v.ownBlock=some q) w w':=by
 rcases h.row.2 with⟨rfl,h0⟩|⟨g,cap,cur,rfl,h2,h3,h4,h5,h6,h7⟩
 ·obtain rfl:=List.eq_nil_of_length_eq_zero h0
  have hs:∀W:World,Calls Tryz.prog 235 #[.slice none 0 0,.func (.func 236) #[] #[]] W λe w'=>e=.returned (.tuple #[])∧w'=W:=λW=>AnyF.slices_SortFunc_none Tryz.sortF none 0 (.func (.func 236) #[] #[]) W
  have HS:=xh hs
  have HH:=xh h
  clear hs h h0
  go_enter Tryz.func180,Tryz.ntmps180
  go_wp2_with (go_at_call 235;((with_reducible refine Calls.mono (HS.out _) ?_);rintro e w1 ⟨rfl,hh⟩;subst hh))
  go_ret
  exact⟨rfl,[],List.Perm.refl _,List.Pairwise.nil,HH.out,Keep.refl _ _⟩
 ·have hgl:g<w.heap.size:=(Array.getElem?_eq_some_iff.1 h3).1
  have hH:HoldsK FileR.cells 3 w g 0 R.toArray:=by
   intro j hj
   have hj':j<R.length*3:=by simpa using hj
   refine⟨?_,by simp[World.frozen?,h3]⟩
   have e1:(flatK FileR.cells 3 R.toArray)[j]! =(R.flatMap FileR.cells)[j]'(by rw[rowsLen];exact hj'):=by
    rw[getElem!_pos _ j hj]
    have:=congrArg (·[j]?) (flatK_list R)
    simp only[Array.getElem?_toList]at this
    rw[Array.getElem?_eq_getElem hj,List.getElem?_eq_getElem (by rw[rowsLen];exact hj')]at this
    exact Option.some.inj this
   rw[e1]
   have h8:=congrArg (·[j]?) h7
   simp only[List.getElem?_take,if_pos hj']at h8
   rw[List.getElem?_eq_getElem (l:=R.flatMap FileR.cells) (by rw[rowsLen];exact hj')]at h8
   simp only[World.cell?,h3,Nat.zero_add]
   simp only[Option.isSome_none,Bool.false_eq_true,if_false]
   rw[←Array.getElem?_toList,h8]
   rfl
  have hcmp:CmpLays Tryz.prog 236 #[] FileR.cells 3 fcmp g 0 R.toArray.size w:=λm os dk _ x y=>by
   refine(byPathF_any x y _).mono ?_
   rintro e w' ⟨rfl,os',rfl⟩
   exact⟨rfl,0,os',rfl⟩
  have hone:∀x:FileR,∀u∈FileR.cells x,u.oneCell'=true:=λx u hu=>by
   simp[FileR.cells]at hu
   rcases hu with rfl|rfl|rfl<;>rfl
  have hs:Calls Tryz.prog 235 #[.slice (some ⟨g,0,none⟩) R.length cap,.func (.func 236) #[] #[]] w λe w'=>e=.returned (.tuple #[])∧∃R',R'.Perm R∧ByPath R'∧FRows w' base (.slice (some ⟨g,0,none⟩) R.length cap) R'∧Keep (λq=>q=g) w w':=by
   refine(AnyQ.slices_SortFunc Tryz.sortF 3 (λw=>by kernel_rfl) (λw=>by kernel_rfl) FileR.cells (λ_=>rfl) hone fcmp fcmp_swo 236 #[] g 0 cap R.toArray w (enters_of Tryz.func236 (by kernel_rfl) rfl) hcmp hH hgl (by simp;omega)).mono ?_
   rintro e w' ⟨rfl,d',n,os,hp,hso,rfl⟩
   obtain⟨R',rfl⟩:∃R':List FileR,d'=R'.toArray:=⟨d'.toList,by simp⟩
   have hlen:R'.length=R.length:=by have:=hp.1;simpa using this
   have hperm:R'.Perm R:=by
    have:=hp.2.2
    simp only[List.size_toArray,List.extract_toArray,List.extract_eq_take_drop,List.drop_zero,Nat.sub_zero]at this
    rw[List.take_of_length_le (by omega),List.take_of_length_le (by omega)]at this
    exact this
   have hkeep:=keep_sortK (w:=w) (g:=g) (n:=n) (os:=os) (flatK FileR.cells 3 R'.toArray)
   refine⟨rfl,R',hperm,?_,⟨⟨by rw[rowsLen],.inr ⟨g,cap,_,by rw[hlen],h2,heap_sortK _ h3,by omega,h5,by simp[putCells,h6],?_⟩⟩,λr hr=>?_⟩,hkeep⟩
   ·refine List.pairwise_iff_getElem.2 λi j hi hj hij=>?_
    have:=hso i j (Nat.zero_le _) hij (by simp;omega)
    rw[fcmp_lt,getElem!_pos _ i (by simpa using hi),getElem!_pos _ j (by simpa using hj)]at this
    simpa using this
   ·have e:flatK FileR.cells 3 R'.toArray=(R'.flatMap FileR.cells).toArray:=by rw[←flatK_list]
    rw[e,←rowsLen R']
    exact take_putK cur _ (by rw[rowsLen];omega)
   ·have hb:=h.byt r (hperm.mem_iff.1 hr)
    refine⟨hb.1.keep hkeep λq hq e=>?_,hb.2⟩
    obtain⟨_,cur2,hb2⟩:=hb.1.lt hq
    have e:q=g:=e
    subst e
    have h3':Blk w q cur.toList 46:=h3
    exact h3'.ne hb2 (by decide) rfl
  have HS:=xh hs
  have HE:Hid (∀q,q=g↔(Value.slice (some ⟨g,0,none⟩) R.length cap).ownBlock=some q):=xh λq=>⟨λe=>by rw[e];rfl,λe=>(Option.some.inj e).symm⟩
  clear hs hcmp hH h7 h3 h h6 hone
  go_enter Tryz.func180,Tryz.ntmps180
  go_wp2_with (go_at_call 235;((with_reducible refine Calls.mono HS.out ?_);rintro e w1 ⟨rfl,h1⟩;have H1:=xh h1;clear h1))
  go_ret
  obtain⟨R',k1,k2,k3,k4⟩:=H1.out
  exact⟨rfl,R',k1,k2,k3,k4.mono λq hq=>(HE.out q).1 hq⟩
end Go.Proofs.YtjdaddmjpicflaaGreatDoor
namespace Go.Proofs.YtjdaddmjpicflaaGreatDoor
open Go.RowKit
theorem le_sum_mem {x:Nat}:∀{l:List Nat},x∈l→x≤l.sum
 | [],h=>by cases h
 | y::l,h=>by
   rw[List.sum_cons]
   rcases List.mem_cons.1 h with rfl|h
   ·omega
   ·have:=le_sum_mem h;omega
structure AllOut (w:World) (T:List Pn) (v:Value) (w':World):Prop where
 out:∃R:List FileR,(R.map FileR.key).Perm ((descF (nds T) T.length 1).map (nodeK T))∧ByPath R∧FRows w' w.heap.size v R
 bel:Bel w w'
theorem treeAll_any (tb:Nat) (A:Adr) (T:List Pn) (mi mb:Nat) (w:World) (h:PT w tb A T mi mb) (hl:T.length≤8000) (hlv:Live T) (hs:∀n∈nds T,n.name.size≤1000) (hd:(descF (nds T) T.length 1).length≤100000) :
 Calls Tryz.prog 146 #[.pointer (some ⟨tb,0,none⟩)] w λe w'=>∃v,e=.returned v∧AllOut w T v w':=by
 have hc:w.cell? ⟨tb,0,none⟩=some (A.ptr 1):=h.block.cell 0
 have hby:∀n∈T,n.byt.length≤1000000:=λn hn=>by
  have h1:n.nd.byt.length≤sumB (nds T):=by
   unfold sumB
   exact le_sum_mem (List.mem_map.2 ⟨n.nd,List.mem_map.2 ⟨n,hn,rfl⟩,rfl⟩)
  have h2:=h.small
  have h3:=h.mb
  show n.nd.byt.length≤_
  omega
 have hfl:=λq hq=>h.foot_lt (q:=q) (.inr hq)
 rw[show A.ptr 1=.pointer (some ⟨A.nb 1,0,none⟩)from rfl]at hc
 obtain⟨r,hr0,hrp,hrd,hrg⟩:=h.tree.root
 have k3:Bel w ((w.alloc (.cells #[.slice none 0 0] 24)).alloc (.cells #[.func (.func 177) #[] #[.pointer (some ⟨w.heap.size,0,none⟩),.pointer (some ⟨w.heap.size+1,0,none⟩)]] 356)):=(Bel.start w _).ac _
 have hbx:Boxes ((w.alloc (.cells #[.slice none 0 0] 24)).alloc (.cells #[.func (.func 177) #[] #[.pointer (some ⟨w.heap.size,0,none⟩),.pointer (some ⟨w.heap.size+1,0,none⟩)]] 356)) w.heap.size (w.heap.size+1) (.slice none 0 0):=
  ⟨(Blk.new w [.slice none 0 0] _).alloc _,Blk.new_at _ _ _ (by simp)⟩
 have hsz:((w.alloc (.cells #[.slice none 0 0] 24)).alloc (.cells #[.func (.func 177) #[] #[.pointer (some ⟨w.heap.size,0,none⟩),.pointer (some ⟨w.heap.size+1,0,none⟩)]] 356)).heap.size=w.heap.size+2:=by simp
 have HH:=xh h
 clear h
 go_enter Tryz.func146,Tryz.ntmps146
 go_upto_region 4 with fail
 generalize (w.alloc (.cells #[.slice none 0 0] 24)).alloc (.cells #[.func (.func 177) #[] #[.pointer (some ⟨w.heap.size,0,none⟩),.pointer (some ⟨w.heap.size+1,0,none⟩)]] 356)=w3 at *
 generalize hB:w.heap.size=B at *
 have hB':w.heap.size=B:=hB
 have hih:=λW (hW:Bel w3 W)=>all1_any A T hl hlv hs hby B (B+1) (B+2) (by omega) (by omega) (by omega) (λq hq=>by have:=hfl q hq;omega) T.length 0 r W (.slice none 0 0) [] (by omega) hr0 hrg (HH.out.tree.bel (k3.tr hW)) (by have:=hW.size;omega) ⟨hbx.l.bel hW,hbx.f.bel hW⟩ (FRows.nil _ _) (by simpa using hd)
 rw[show A.ptr (0+1)=.pointer (some ⟨A.nb 1,0,none⟩)from rfl]at hih
 have cb:w3.cell? ⟨B+1,0,none⟩=some (.func (.func 177) #[] #[.pointer (some ⟨B,0,none⟩),.pointer (some ⟨B+1,0,none⟩)]):=hbx.f.cell 0
 have ct:=cell_bel k3 hc
 have HIH:=xh hih
 have HK3:=xh k3
 have HSZ:=xh (And.intro hsz hB)
 clear hih hbx hsz k3 hfl hc hB hB'
 go_region_with (go_at_call 177;((with_reducible refine Calls.mono (HIH.out _ (Bel.drew (Bel.refl _))) ?_);rintro e w4 ⟨rfl,⟨v',E,Rn,hE,hRn,hbx4,hfr4,hk4,hv4⟩⟩;have cl4:w4.cell? ⟨B,0,none⟩=some v':=hbx4.l.cell 0;have H4:=xh (And.intro hE (And.intro hRn (And.intro hfr4 (And.intro hk4 hv4))));clear hE hRn hbx4 hfr4 hk4 hv4))
 all_goals
  have hln:Rn.length≤100000:=by
   have h1:=congrArg List.length H4.out.2.1
   have h2:=H4.out.1.length_eq
   simp only[List.length_map]at h1
   rw[show(0+1:Nat)=1 from rfl]at h2
   omega
  have hbp:=byPath_any (B+2) v' Rn w4 (by have:=H4.out.2.2.1;rwa [List.nil_append]at this) hln
  have HBP:=xh hbp
  clear hbp
  go_wp2_with (go_at_call 180;((with_reducible refine Calls.mono HBP.out ?_);rintro e w5 ⟨rfl,h5⟩;have H5:=xh h5;clear h5))
  go_ret
  obtain⟨R',p1,p2,p3,p4⟩:=H5.out
  refine⟨v',rfl,⟨⟨R',?_,p2,?_⟩,?_⟩⟩
  ·refine(p1.map _).trans ?_
   rw[H4.out.2.1]
   exact H4.out.1.map _
  ·rw[HSZ.out.2]
   exact⟨ownsRow_base_a p3.row (by omega),λx hx=>⟨(p3.byt x hx).1,λg hg=>by have:=(p3.byt x hx).2 g hg;omega⟩⟩
  ·have hv:∀q,v'.ownBlock=some q→B+2≤q:=λq hq=>(row_blk H4.out.2.2.1.row hq).1
   have hb:=HSZ.out.2
   have h3:Keep (λq=>B≤q) w w3:=Keep.of_bel _ HK3.out
   have hd3:Keep (λq=>B≤q) w3 w3.drew:=Keep.of_bel _ (Bel.drew (Bel.refl _))
   have h4:Keep (λq=>B≤q) w3.drew w4:=H4.out.2.2.2.1.mono λq h=>by
    rcases h with h|h
    ·have h:q=B:=h
     omega
    ·cases h
   have h5:Keep (λq=>B≤q) w4 w5:=p4.mono λq h=>by have:=hv q h;show B≤q;omega
   exact(((h3.tr hd3).tr h4).tr h5).below _ (Nat.le_refl _) λq hq=>by have hq:B≤q:=hq;omega
end Go.Proofs.YtjdaddmjpicflaaGreatDoor
