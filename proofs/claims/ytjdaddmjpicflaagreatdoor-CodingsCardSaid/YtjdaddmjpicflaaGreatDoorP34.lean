/- The program's ready and Step of a process. -/
import Derived.Test.YtjdaddmjpicflaaGreatDoorP27
import Derived.Test.YtjdaddmjpicflaaGreatDoorP28
import Derived.Test.YtjdaddmjpicflaaGreatDoorP29
import Derived.Deep.DeepCutAuto
import Derived.Deep.QuietTactic
import Derived.Test.YtjdaddmjpicflaaGreatDoorP10
import Derived.StillTailTactics
import Derived.Test.YtjdaddmjpicflaaGreatDoorP16
import Derived.Test.YtjdaddmjpicflaaGreatDoorP26
import Derived.Test.YtjdaddmjpicflaaGreatDoorP33
import Derived.Test.YtjdaddmjpicflaaGreatDoorP32
set_option linter.unusedVariables false
set_option linter.unusedSimpArgs false
set_option maxRecDepth 100000
set_option maxHeartbeats 16000000
namespace Go.Proofs.YtjdaddmjpicflaaGreatDoor
open Go.RowKit Go.MapKept Go.Maps
theorem ready_ok (kb pm pb:Nat) (kv:List (Int×Value)) (pid:Int) (w:World) (hpid : -9223372036854775808≤pid∧pid≤9223372036854775807) (c5:w.cell? ⟨kb,5,none⟩=some (.map (some pm))) (hp:Mp keyP w pm kv) (hg:getKv kv pid=some (.pointer (some ⟨pb,0,none⟩))) (c20:w.cell? ⟨pb,20,none⟩=some (.int .i64 0)) :
 Calls Tryz.prog 124 #[.pointer (some ⟨kb,0,none⟩),.int .i64 pid] w λe w'=>e=.returned (.tuple #[.pointer (some ⟨pb,0,none⟩),.nilIface])∧w=w':=by
 have hlk:(Instr.lookup 98 (.map (some pm)) (.int .i64 pid) false).run Tryz.prog w=.ok (.pointer (some ⟨pb,0,none⟩)) w:=by
  have h1:=hp.lookup keyedI Tryz.underlying98 pid (WalkArith.wf_i64 hpid) false (zeroProc w)
  simp only[Bool.false_eq_true,if_false]at h1
  rw[hg]at h1
  exact h1
 clear hp hg
 go_enter Tryz.func124,Tryz.ntmps124
 go_wp2_with fail
 go_ret2
 exact⟨rfl,rfl⟩
theorem ready_state (kb pm pb:Nat) (kv:List (Int×Value)) (pid st:Int) (w:World) (hpid : -9223372036854775808≤pid∧pid≤9223372036854775807) (c5:w.cell? ⟨kb,5,none⟩=some (.map (some pm))) (hp:Mp keyP w pm kv) (hg:getKv kv pid=some (.pointer (some ⟨pb,0,none⟩))) (c20:w.cell? ⟨pb,20,none⟩=some (.int .i64 st)) (hs:st≠0) :
 Calls Tryz.prog 124 #[.pointer (some ⟨kb,0,none⟩),.int .i64 pid] w λe w'=>e=.returned (.tuple #[.pointer none,errN 24])∧w=w':=by
 have hlk:(Instr.lookup 98 (.map (some pm)) (.int .i64 pid) false).run Tryz.prog w=.ok (.pointer (some ⟨pb,0,none⟩)) w:=by
  have h1:=hp.lookup keyedI Tryz.underlying98 pid (WalkArith.wf_i64 hpid) false (zeroProc w)
  simp only[Bool.false_eq_true,if_false]at h1
  rw[hg]at h1
  exact h1
 have hne:(st != 0)=true:=bne_iff_ne.2 hs
 clear hp hg
 go_enter Tryz.func124,Tryz.ntmps124
 go_wp2_with fail
 go_ret2
 exact⟨rfl,rfl⟩
theorem kstep_go (kb pb sb:Nat) (perm:Nat→Option Int) (c:Cpu) (rest:List Value) (pid:Int) (w:World) (hr:Calls Tryz.prog 124 #[.pointer (some ⟨kb,0,none⟩),.int .i64 pid] w λe w'=>e=.returned (.tuple #[.pointer (some ⟨pb,0,none⟩),.nilIface])∧w=w') (h:CpuAt w pb sb perm c rest) (hk:stepK perm c=0) :
 Calls Tryz.prog 99 #[.pointer (some ⟨kb,0,none⟩),.int .i64 pid] w λe w'=>e=.returned .nilIface∧CpuAt w' pb sb perm (stepC c) rest∧Keep (Own2 pb sb) w w':=by
 have hst:=stepP_any pb sb perm c rest w h
 unfold StepPRes stepR at hst
 rw[hk]at hst
 have hpl:=h.blk.lt
 have HR:=xh hr
 have HST:=xh (hst.mono λe w' k=>And.intro k.1 (And.intro k.2.1 k.2.2.1))
 clear hr hst h hk
 go_enter Tryz.func99,Tryz.ntmps99
 go_wp2_with (first
  | (go_at_call 124;((with_reducible refine Calls.mono HR.out ?_);rintro e2 w2 ⟨rfl,rfl⟩))
  | (go_at_call 139;((with_reducible refine Calls.mono HST.out ?_);rintro e3 w3 ⟨rfl,k3⟩;have H3:=xh k3;clear k3)))
 go_ret
 exact⟨rfl,H3.out⟩
theorem kstep_trap (kb pb sb:Nat) (perm:Nat→Option Int) (c:Cpu) (rest:List Value) (pid:Int) (w:World) (hr:Calls Tryz.prog 124 #[.pointer (some ⟨kb,0,none⟩),.int .i64 pid] w λe w'=>e=.returned (.tuple #[.pointer (some ⟨pb,0,none⟩),.nilIface])∧w=w') (h:CpuAt w pb sb perm c rest) (k:Nat) (hk:stepK perm c=k) (h2:2≤k)
 (Q:World→Prop) (he:∀W,Bel w W→Calls Tryz.prog 140 #[.pointer (some ⟨kb,0,none⟩),.pointer (some ⟨pb,0,none⟩),.int .i64 k] W λe w'=>e=.returned (.tuple #[])∧Q w') :
 Calls Tryz.prog 99 #[.pointer (some ⟨kb,0,none⟩),.int .i64 pid] w λe w'=>e=.returned .nilIface∧Q w':=by
 have hst:=stepP_any pb sb perm c rest w h
 unfold StepPRes stepR at hst
 rw[hk,if_neg (by omega:¬k≤1)]at hst
 have e1:(k==1)=false:=beq_eq_false_iff_ne.2 (by omega)
 rw[e1]at hst
 have hpl:=h.blk.lt
 have hk0:(0:Int)<k:=by omega
 have HR:=xh hr
 have HE:=xh he
 have HST:=xh (hst.mono λe w' x=>And.intro x.1 (x.2.2.2 (by omega)))
 clear hr hst h hk he e1
 go_enter Tryz.func99,Tryz.ntmps99
 go_wp2_with (first
  | (go_at_call 124;((with_reducible refine Calls.mono HR.out ?_);rintro e2 w2 ⟨rfl,rfl⟩))
  | (go_at_call 139;((with_reducible refine Calls.mono HST.out ?_);rintro e3 w3 ⟨rfl,k3⟩;have H3:=xh k3;clear k3))
  | (go_at_call 140;((with_reducible refine Calls.mono (HE.out _ H3.out) ?_);rintro e4 w4 ⟨rfl,k4⟩;have H4:=xh k4;clear k4)))
 go_ret
 exact⟨rfl,H4.out⟩
theorem kstep_state (kb:Nat) (pid:Int) (w:World) (hr:Calls Tryz.prog 124 #[.pointer (some ⟨kb,0,none⟩),.int .i64 pid] w λe w'=>e=.returned (.tuple #[.pointer none,errN 24])∧w=w') :
 Calls Tryz.prog 99 #[.pointer (some ⟨kb,0,none⟩),.int .i64 pid] w λe w'=>e=.returned (errN 24)∧w=w':=by
 have HR:=xh hr
 clear hr
 go_enter Tryz.func99,Tryz.ntmps99
 go_wp2_with (first
  | (go_at_call 124;((with_reducible refine Calls.mono HR.out ?_);rintro e2 w2 ⟨rfl,rfl⟩)))
 go_ret
 exact⟨rfl,rfl⟩
theorem tstep_any (tk kb:Nat) (pid:Int) (R:Ending→World→Prop) (v:Value) (Q:World→Prop) (w:World) (h:Blk w tk [.pointer (some ⟨kb,0,none⟩)] 62) (hk:Calls Tryz.prog 99 #[.pointer (some ⟨kb,0,none⟩),.int .i64 pid] w λe w'=>e=.returned v∧Q w') :
 Calls Tryz.prog 51 #[.pointer (some ⟨tk,0,none⟩),.int .i64 pid] w λe w'=>e=.returned v∧Q w':=by
 have c0:=wrap_tinyos h
 have HK:=xh hk
 clear h hk
 go_enter Tryz.func51,Tryz.ntmps51
 go_wp2_with (go_at_call 99;((with_reducible refine Calls.mono HK.out ?_);rintro e2 w2 ⟨rfl,k2⟩;have H2:=xh k2;clear k2))
 go_ret
 exact⟨rfl,H2.out⟩
end Go.Proofs.YtjdaddmjpicflaaGreatDoor
namespace Go.Proofs.YtjdaddmjpicflaaGreatDoor
open Go.RowKit Go.Maps
theorem ends_none (kb:Nat) (of kind:Int) (w:World) (h6:w.cell? ⟨kb,6,none⟩=some (.slice none 0 0)) :
 Calls Tryz.prog 163 #[.pointer (some ⟨kb,0,none⟩),.int .i64 of,.int .i64 kind] w λe w'=>e=.returned (.int .i64 0)∧w=w':=by
 go_enter Tryz.func163,Tryz.ntmps163
 go_wp2_with fail
 refine wp_loop_rounds 1 ?_
 rw[rounds_succ]
 go_wp2_with fail
 go_ret
 exact⟨rfl,rfl⟩
theorem ndCells_take (L:List Nd) (k:Nat) (n:Nd) (h:L[k]?=some n):ndCells 0 (L.take (k+1))=ndCells 0 (L.take k)++n.cells k:=by
 have hlt:=(List.getElem?_eq_some_iff.1 h).1
 have e:L.take (k+1)=L.take k++[n]:=by
  rw[List.take_succ_eq_append_getElem hlt]
  congr 1
  rw[List.getElem?_eq_getElem hlt]at h
  rw[Option.some.inj h]
 rw[e,ndCells_app,List.length_take,Nat.min_eq_left (by omega),Nat.zero_add]
 simp[ndCells]
theorem nd_one (n:Nd) (k:Nat) (h:∃p m c,n.bv=.slice p m c):∀v∈n.cells k,v.oneCell'=true:=by
 obtain⟨p,m,c,h⟩:=h
 intro v hv
 simp only[Nd.cells,List.mem_cons,List.not_mem_nil,or_false]at hv
 rcases hv with rfl|rfl|rfl|rfl|rfl
 ·rfl
 ·rfl
 ·rfl
 ·rfl
 ·rw[h];rfl
theorem sweep_none (kb:Nat) (s:KV) (iv:Value) (L:List Nd) (w:World) (h:DK w kb s iv L) (ho:s.ov=.slice none 0 0) (hx:s.xv=.slice none 0 0) (hp:∀i n,L[i]?=some n→1≤i→0<n.par) (hb:∀n∈L,∃p k c,n.bv=.slice p k c) :
 Calls Tryz.prog 130 #[.pointer (some ⟨kb,0,none⟩)] w λe w'=>e=.returned (.tuple #[])∧∃iv',DK w' kb s iv' L∧Keep (λq=>q=kb) w w':=by
 have hkl:=h.blk.lt
 have hL:=h.few
 have c6:w.cell? ⟨kb,6,none⟩=some (.slice none 0 0):=by have:=h.blk.cell 6;rw[this];show some s.ov=_;rw[ho]
 have c8:w.cell? ⟨kb,8,none⟩=some (.slice none 0 0):=by have:=h.blk.cell 8;rw[this];show some s.xv=_;rw[hx]
 have fk:=h.blk.frozen
 have f6:=fk 6
 have f8:=fk 8
 have e6:(s.cells iv L.length).set 6 (.slice none 0 0)=s.cells iv L.length:=by show[_,_,_,_,_,_,_,_,_,_,_,_,_]=_;rw[←ho];rfl
 have e8:(s.cells iv L.length).set 8 (.slice none 0 0)=s.cells iv L.length:=by show[_,_,_,_,_,_,_,_,_,_,_,_,_]=_;rw[←hx];rfl
 have B1:=(h.blk.setCell (o:=6) (.slice none 0 0)).setCell (o:=8) (.slice none 0 0)
 rw[e6,e8]at B1
 have K1:Keep (λq=>q=kb) w ((w.setCell ⟨kb,6,none⟩ (.slice none 0 0)).setCell ⟨kb,8,none⟩ (.slice none 0 0)):=(Keep.setCell w kb 6 _).tr (Keep.setCell _ kb 8 _)
 have HD:=xh h
 have HO:=xh (And.intro ho hx)
 have HP:=xh hp
 have HBV:=xh hb
 have HB1:=xh B1
 have HK1:=xh K1
 clear h ho hx hp hb B1 K1 e6 e8 fk
 go_enter Tryz.func130,Tryz.ntmps130
 go_wp2_with fail
 refine wp_loop_rounds 1 ?_
 rw[rounds_succ]
 go_wp2_with fail
 refine wp_loop_rounds 1 ?_
 rw[rounds_succ]
 go_upto_region 18 with fail
 generalize (w.setCell ⟨kb,6,none⟩ (.slice none 0 0)).setCell ⟨kb,8,none⟩ (.slice none 0 0)=w1 at *
 have D1:DK w1 kb s iv L:=by
  refine⟨HB1.out,row_keep HD.out.row HK1.out (λg hg e=>by have e:g=kb:=e;omega),λn hn=>⟨(HD.out.byts n hn).1.keep HK1.out λg hg e=>?_,(HD.out.byts n hn).2⟩,HD.out.few,HD.out.one⟩
  obtain⟨_,cur,hb⟩:=(HD.out.byts n hn).1.lt hg
  have e:g=kb:=e
  subst e
  exact HD.out.blk.ne hb (by decide) rfl
 have hB6:w1.cell? ⟨kb,6,none⟩=some (.slice none 0 0):=by rw[HB1.out.cell];show some s.ov=_;rw[HO.out.1]
 obtain⟨g,cap,hiv,htree,_⟩:=D1.tree
 subst hiv
 have hB7:w1.cell? ⟨kb,7,none⟩=some (.slice (some ⟨g,0,none⟩) L.length cap):=HB1.out.cell 7
 have HD1:=xh D1
 have HTR:=xh htree
 have hkl1:kb<w1.heap.size:=HB1.out.lt
 have HEN:=xh λ(of kind:Int) (W:World) (hW:Bel w1 W)=>ends_none kb of kind W (cell_bel hW hB6)
 clear htree D1 c6 c8 f6 f8
 go_loopw [8,9] (λv i wr=>∃k:Nat,k≤L.length∧i=.int .i64 k∧Hid (wr.ownsRow w1.heap.size 138 5 v k (ndCells 0 (L.take k))∧Bel w1 wr)) (λ_ i _=>L.length-(intOf i).toNat)
 case atStart=>exact⟨0,Nat.zero_le _,rfl,xh ⟨World.ownsRow_nil _ _ _ _,Bel.refl _⟩⟩
 case round=>
  obtain⟨k,hk,rfl,HI⟩:=hrel
  have c7:=cell_bel HI.out.2 hB7
  by_cases hlt:k<L.length
  ·obtain⟨n,hn⟩:∃n,L[k]?=some n:=⟨_,List.getElem?_eq_getElem hlt⟩
   have hr:=(HTR.out.bel HI.out.2).2.2 k n hn
   have n0:wr.cell? ⟨g,k*5,none⟩=some (.int .i64 (k+1:Nat)):=hr 0 _ rfl
   have n1:wr.cell? ⟨g,k*5+1,none⟩=some (.int .i64 n.par):=hr 1 _ rfl
   have n2:wr.cell? ⟨g,k*5+2,none⟩=some (.string n.name):=hr 2 _ rfl
   have n3:wr.cell? ⟨g,k*5+3,none⟩=some (.bool n.dir):=hr 3 _ rfl
   have n4:wr.cell? ⟨g,k*5+4,none⟩=some n.bv:=hr 4 _ rfl
   obtain⟨p5,m5,q5,e5⟩:=HBV.out n (List.mem_iff_getElem?.2 ⟨k,hn⟩)
   rw[e5]at n4
   have HONE:Hid (∀v∈n.cells k,v.oneCell'=true):=xh (nd_one n k ⟨p5,m5,q5,e5⟩)
   have HCL:Hid (n.cells k=[.int .i64 (k+1:Nat),.int .i64 n.par,.string n.name,.bool n.dir,.slice p5 m5 q5]):=xh (by rw[←e5];rfl)
   have HX:Hid (ndCells 0 (L.take (k+1))=ndCells 0 (L.take k)++n.cells k):=xh (ndCells_take L k n hn)
   have HN:=xh hn
   have HE5:=xh e5
   have hpar:k=0∨0<(n.par:Int):=by
    by_cases e:k=0
    ·exact .inl e
    ·have:=HP.out k n hn (by omega);right;omega
   clear hr hn e5
   rcases hpar with e0|hpar
   ·have hz:(((k+1:Nat):Int)==1)=true:=by rw[e0];rfl
    have hz2:((k:Int)+1==1)=true:=by rw[e0];rfl
    clear e0
    by_cases hpar2:0<n.par
    ·have hpar3:0<(n.par:Int):=by omega
     go_wp2_with (first
      | (go_at_call 163;((with_reducible refine Calls.mono (HEN.out _ _ _ HI.out.2) ?_);rintro e w2 ⟨rfl,rfl⟩))
      | (refine wpList_buildSlice_one rfl 83 138 (.tmp 142) rfl [.int .i64 (k+1:Nat),.int .i64 n.par,.string n.name,.bool n.dir,.slice p5 m5 q5] rfl Tryz.underlying83 inodeInfo (by show 0<5;omega) (by show 5≤2^24;omega) ?_;intro w5 B5 K5)
      | (refine wpList_append_grown rfl (.tmp 135) (.tmp 143) 83 rfl Tryz.underlying83 inodeInfo (by omega) rfl (row_bel HI.out.1 K5) _ 1 1 [.int .i64 (k+1:Nat),.int .i64 n.par,.string n.name,.bool n.dir,.slice p5 m5 q5] 138 rfl B5.out rfl (by intro v hv;simp at hv;rcases hv with rfl|rfl|rfl|rfl|rfl<;>rfl) (by unfold maxLen;omega) (by omega) (by have:=K5.size;have:=HI.out.2.size;omega) ?_;intro p9 c9 w9 R9 K9;have HI9:=xh (And.intro R9 (((Keep.of_bel _ (HI.out.2.tr K5)).tr (K9.mono λq hq=>hq)).below _ (Nat.le_refl _) λq hq=>own_ge HI.out.1 q hq));clear R9 K9))
     go_roundw
     case rel=>exact⟨k+1,by omega,by go_num,xh ⟨by rw[HX.out,HCL.out];exact HI9.out.1,HI9.out.2⟩⟩
     case measure=>simp[intOf]<;>omega
    ·have hpar3:¬0<(n.par:Int):=by omega
     go_wp2_with (first
      | (go_at_call 163;((with_reducible refine Calls.mono (HEN.out _ _ _ HI.out.2) ?_);rintro e w2 ⟨rfl,rfl⟩))
      | (refine wpList_buildSlice_one rfl 83 138 (.tmp 142) rfl [.int .i64 (k+1:Nat),.int .i64 n.par,.string n.name,.bool n.dir,.slice p5 m5 q5] rfl Tryz.underlying83 inodeInfo (by show 0<5;omega) (by show 5≤2^24;omega) ?_;intro w5 B5 K5)
      | (refine wpList_append_grown rfl (.tmp 135) (.tmp 143) 83 rfl Tryz.underlying83 inodeInfo (by omega) rfl (row_bel HI.out.1 K5) _ 1 1 [.int .i64 (k+1:Nat),.int .i64 n.par,.string n.name,.bool n.dir,.slice p5 m5 q5] 138 rfl B5.out rfl (by intro v hv;simp at hv;rcases hv with rfl|rfl|rfl|rfl|rfl<;>rfl) (by unfold maxLen;omega) (by omega) (by have:=K5.size;have:=HI.out.2.size;omega) ?_;intro p9 c9 w9 R9 K9;have HI9:=xh (And.intro R9 (((Keep.of_bel _ (HI.out.2.tr K5)).tr (K9.mono λq hq=>hq)).below _ (Nat.le_refl _) λq hq=>own_ge HI.out.1 q hq));clear R9 K9))
     go_roundw
     case rel=>exact⟨k+1,by omega,by go_num,xh ⟨by rw[HX.out,HCL.out];exact HI9.out.1,HI9.out.2⟩⟩
     case measure=>simp[intOf]<;>omega
   ·have hpar2:0<n.par:=by omega
    go_wp2_with (first
     | (go_at_call 163;((with_reducible refine Calls.mono (HEN.out _ _ _ HI.out.2) ?_);rintro e w2 ⟨rfl,rfl⟩))
     | (refine wpList_buildSlice_one rfl 83 138 (.tmp 142) rfl [.int .i64 (k+1:Nat),.int .i64 n.par,.string n.name,.bool n.dir,.slice p5 m5 q5] rfl Tryz.underlying83 inodeInfo (by show 0<5;omega) (by show 5≤2^24;omega) ?_;intro w5 B5 K5)
     | (refine wpList_append_grown rfl (.tmp 135) (.tmp 143) 83 rfl Tryz.underlying83 inodeInfo (by omega) rfl (row_bel HI.out.1 K5) _ 1 1 [.int .i64 (k+1:Nat),.int .i64 n.par,.string n.name,.bool n.dir,.slice p5 m5 q5] 138 rfl B5.out rfl (by intro v hv;simp at hv;rcases hv with rfl|rfl|rfl|rfl|rfl<;>rfl) (by unfold maxLen;omega) (by omega) (by have:=K5.size;have:=HI.out.2.size;omega) ?_;intro p9 c9 w9 R9 K9;have HI9:=xh (And.intro R9 (((Keep.of_bel _ (HI.out.2.tr K5)).tr (K9.mono λq hq=>hq)).below _ (Nat.le_refl _) λq hq=>own_ge HI.out.1 q hq));clear R9 K9))
    go_roundw
    case rel=>exact⟨k+1,by omega,by go_num,xh ⟨by rw[HX.out,HCL.out];exact HI9.out.1,HI9.out.2⟩⟩
    case measure=>simp[intOf]<;>omega
  ·obtain rfl:k=L.length:=by omega
   have hr:=HI.out.1
   rw[List.take_length]at hr
   have hl2:kb<wr.heap.size:=by have:=HI.out.2.size;omega
   have BK:=HB1.out.bel HI.out.2
   have HBK:=xh BK
   have f7:=BK.frozen 7
   have HR:=xh hr
   have c7v:=c7
   obtain⟨pv,cv,rfl,_⟩:=row_slice hr
   clear hr BK
   go_wp2_with fail
   go_end0
   have K4:=Keep.setCell wr kb 7 (.slice pv L.length cv)
   have K04:=(HK1.out.tr (Keep.of_bel _ HI.out.2)).tr K4
   refine⟨rfl,_,⟨HBK.out.setCell (o:=7) _,row_keep (HR.out.mono (by have:=HB1.out.lt;omega)) K4 (λg hg e=>by have e:g=kb:=e;omega),λn hn=>⟨(HD.out.byts n hn).1.keep K04 λq hq e=>?_,(HD.out.byts n hn).2⟩,HD.out.few,HD.out.one⟩,K04⟩
   obtain⟨_,cur,hb⟩:=(HD.out.byts n hn).1.lt hq
   have e:q=kb:=e
   subst e
   exact HD.out.blk.ne hb (by decide) rfl
theorem splice_other {α:Type} (L:List α) (o:Nat) (vs:List α) (j:Nat) (hl:o+vs.length≤L.length) (h:j<o∨o+vs.length≤j):(splice L o vs)[j]?=L[j]?:=by
 unfold splice
 rcases h with h|h
 ·rw[List.getElem?_append_left (by rw[List.length_take];omega),List.getElem?_take_of_lt h]
 ·rw[List.getElem?_append_right (by rw[List.length_take];omega),List.length_take,Nat.min_eq_left (by omega),List.getElem?_append_right (by omega),List.getElem?_drop]
  congr 1
  omega
def zomD (cs:List Value) (o:Nat) (st:Int):List Value:=
 splice ((((cs.set (o+2) (.int .i64 2)).set (o+3) (.int .i64 st)).set (o+4) (.int .i64 0)).set (o+22) (.slice none 0 0)) (o+23) (List.replicate 8 (Value.int .i64 0))
theorem zomD_len (cs:List Value) (o:Nat) (st:Int) (h:o+31≤cs.length):(zomD cs o st).length=cs.length:=by
 unfold zomD
 rw[length_splice _ _ _ (by simp;omega)]
 simp
theorem zomD_at (cs:List Value) (o:Nat) (st:Int) (h:o+31≤cs.length) (j:Nat) (hj:j<o+2∨(o+5≤j∧j<o+22)∨o+31≤j):(zomD cs o st)[j]?=cs[j]?:=by
 unfold zomD
 rw[splice_other _ _ _ _ (by simp;omega) (by simp;omega),List.getElem?_set_ne (by omega),List.getElem?_set_ne (by omega),List.getElem?_set_ne (by omega),List.getElem?_set_ne (by omega)]
open Classical in
noncomputable def reparD (pid:Int) (cs:List Value):Nat→List Value
 | 0=>cs
 | k+1=>if (reparD pid cs k)[k*31+1]?=some (.int .i64 pid)then(reparD pid cs k).set (k*31+1) (.int .i64 1)else reparD pid cs k
theorem reparD_at (pid:Int) (cs:List Value) (j:Nat):∀k,(∀i,i<k→j≠i*31+1)→(reparD pid cs k)[j]?=cs[j]?
 | 0,_=>rfl
 | k+1,h=>by
   have ih:=reparD_at pid cs j k λi hi=>h i (by omega)
   rw[reparD]
   split
   ·rw[List.getElem?_set_ne (λe=>h k (by omega) e.symm),ih]
   ·exact ih
theorem row_keep_blk {S:Nat→Prop} {w w':World} {base:Nat} {e:TypeId} {size:Nat} {v:Value} {n:Nat} {xs:List Value} (h:w.ownsRow base e size v n xs) (k:Keep S w w') (hs:∀q cs,Blk w q cs e→¬S q):w'.ownsRow base e size v n xs:=by
 refine⟨h.1,?_⟩
 rcases h.2 with h2|⟨g,cap,cur,rfl,h3,h4,h5⟩
 ·exact .inl h2
 ·exact .inr ⟨g,cap,cur,rfl,h3,(k.block g (Array.getElem?_eq_some_iff.1 h4).1 (hs g _ h4)).trans h4,h5⟩
theorem DK.keep {S:Nat→Prop} {w w':World} {kb:Nat} {s:KV} {iv:Value} {L:List Nd} (h:DK w kb s iv L) (k:Keep S w w') (h1:¬S kb) (h2:∀q cs,Blk w q cs 138→¬S q) (h3:∀q cs,Blk w q cs 5→¬S q):DK w' kb s iv L:=by
 refine⟨h.blk.keep k h1,row_keep_blk h.row k (λq cs hb=>h2 q cs hb),λn hn=>⟨(h.byts n hn).1.keep k λg hg=>?_,(h.byts n hn).2⟩,h.few,h.one⟩
 obtain⟨_,cur,hb⟩:=(h.byts n hn).1.lt hg
 exact h3 g cur hb
theorem endD_any (kb b at_ n cap:Nat) (s:KV) (iv:Value) (L:List Nd) (cs:List Value) (pid st:Int) (w:World) (h:DK w kb s iv L) (hs:s.pv=.slice (some ⟨b,0,none⟩) n cap) (hb:Blk w b cs 80) (hl:n*31≤cs.length) (hpar:∀i,i<n→∃q:Int,cs[i*31+1]?=some (.int .i64 q)) (hat:at_<n) (hn:n≤1000)
 (hcall:Calls Tryz.prog 20 #[.pointer (some ⟨kb,0,none⟩),.int .i64 pid] w λe w'=>e=.returned (.int .i64 at_)∧w=w')
 (ho:s.ov=.slice none 0 0) (hx:s.xv=.slice none 0 0) (hp:∀i m,L[i]?=some m→1≤i→0<m.par) (hbv:∀m∈L,∃p k c,m.bv=.slice p k c) :
 Calls Tryz.prog 88 #[.pointer (some ⟨kb,0,none⟩),.int .i64 pid,.int .i64 st] w λe w'=>e=.returned (.tuple #[])∧∃iv',DK w' kb s iv' L∧Blk w' b (reparD pid (zomD cs (at_*31) st) n) 80∧Keep (λq=>q=kb∨q=b) w w':=by
 have hat0:(0:Int)≤at_:=by omega
 have hat1:(at_:Int)<n:=by omega
 have c5:w.cell? ⟨kb,5,none⟩=some (.slice (some ⟨b,0,none⟩) n cap):=by have:=h.blk.cell 5;rw[this];show some s.pv=_;rw[hs]
 have cl:∀j,j<31→∃v,w.cell? ⟨b,at_*31+j,none⟩=some v:=λj hj=>⟨_,by rw[hb.cell];exact List.getElem?_eq_getElem (by omega)⟩
 obtain⟨v2,c2⟩:=cl 2 (by omega)
 obtain⟨v3,c3⟩:=cl 3 (by omega)
 obtain⟨v4,c4⟩:=cl 4 (by omega)
 obtain⟨v22,c22⟩:=cl 22 (by omega)
 have fb:=hb.frozen
 have HCALL:=xh hcall
 have HD:=xh h
 have HB:=xh hb
 have HPAR:=xh hpar
 have HSX:=xh (And.intro hs (And.intro ho (And.intro hx (And.intro hp hbv))))
 clear hcall h hb cl hpar hs ho hx hp hbv
 have hbl:∀W,(Instr.build 78 #[]).run Tryz.prog W=.ok (.agg #[.int .i64 0,.int .i64 0,.int .i64 0,.int .i64 0,.int .i64 0,.int .i64 0,.int .i64 0,.int .i64 0]) W:=λW=>by kernel_rfl
 go_enter Tryz.func88,Tryz.ntmps88
 go_upto_region 2 with(go_at_call 20;((with_reducible refine Calls.mono HCALL.out ?_);rintro e2 w2 ⟨rfl,rfl⟩))
 obtain⟨o,ho2⟩:∃o,at_*31=o:=⟨_,rfl⟩
 have HO2:=xh ho2
 rw[ho2]at c2 c3 c4 c22⊢
 have hol:o+31≤cs.length:=by omega
 clear ho2
 have f2:=fb (o+2)
 clear fb
 go_upto_region 3 with fail
 have B1:=HB.out.setCell (o:=o+2) (.int .i64 2)
 have K1:=Keep.setCell w b (o+2) (.int .i64 2)
 generalize w.setCell ⟨b,o+2,none⟩ (.int .i64 2)=w1 at *
 have HK1:=xh K1
 have HB1:=xh B1
 have c3:w1.cell? ⟨b,o+3,none⟩=some v3:=by rw[B1.cell,List.getElem?_set_ne (by omega),←HB.out.cell];exact c3
 have f3:=B1.frozen (o+3)
 clear B1 K1 c2 f2
 go_upto_region 4 with fail
 have B2:=HB1.out.setCell (o:=o+3) (.int .i64 st)
 have K2:=HK1.out.tr (Keep.setCell w1 b (o+3) (.int .i64 st))
 generalize w1.setCell ⟨b,o+3,none⟩ (.int .i64 st)=w2 at *
 have HK2:=xh K2
 have HB2:=xh B2
 have c4:w2.cell? ⟨b,o+4,none⟩=some v4:=by rw[B2.cell,List.getElem?_set_ne (by omega),List.getElem?_set_ne (by omega),←HB.out.cell];exact c4
 have f4:=B2.frozen (o+4)
 clear B2 K2 c3 f3
 go_upto_region 5 with fail
 have B3:=HB2.out.setCell (o:=o+4) (.int .i64 0)
 have K3:=HK2.out.tr (Keep.setCell w2 b (o+4) (.int .i64 0))
 generalize w2.setCell ⟨b,o+4,none⟩ (.int .i64 0)=w3 at *
 have HK3:=xh K3
 have HB3:=xh B3
 have c22:w3.cell? ⟨b,o+22,none⟩=some v22:=by rw[B3.cell,List.getElem?_set_ne (by omega),List.getElem?_set_ne (by omega),List.getElem?_set_ne (by omega),←HB.out.cell];exact c22
 have f22:=B3.frozen (o+22)
 clear B3 K3 c4 f4
 go_upto_region 6 with fail
 have B5:=HB3.out.setCell (o:=o+22) (.slice none 0 0)
 have K5:=HK3.out.tr (Keep.setCell w3 b (o+22) (.slice none 0 0))
 generalize w3.setCell ⟨b,o+22,none⟩ (.slice none 0 0)=w5 at *
 have hth:w5.there b (o+23) 8:=λj hj=>⟨by rw[B5.cell,List.getElem?_eq_getElem (by simp;omega)];rfl,B5.frozen _⟩
 have HTH:=xh hth
 have HB5:=xh B5
 have HK5:=xh K5
 clear hth B5 K5 c22 f22 hbl
 go_upto_region 7 with(refine wpList_store_mid rfl 78 (.tmp 34) (.tmp 32) rfl b (o+23) (List.replicate 8 (Value.int .i64 0)).toArray rfl rfl HTH.out (by kernel_rfl) (all_oneCell_toArray (by intro v hv;rw[List.eq_of_mem_replicate hv];rfl)) ?_)
 have B6:Blk _ b (zomD cs o st) _:=HB5.out.setCells (o+23) (List.replicate 8 (Value.int .i64 0)) (by simp;omega)
 have K6:=HK5.out.tr (Keep.setCells w5 b (o+23) (List.replicate 8 (Value.int .i64 0)))
 generalize w5.setCells b (o+23) (List.replicate 8 (Value.int .i64 0))=w6 at *
 obtain⟨zs,hzs⟩:∃zs,zomD cs o st=zs:=⟨_,rfl⟩
 have hzl:zs.length=cs.length:=by rw[←hzs,zomD_len _ _ _ (by omega)]
 have hzp:∀i,i<n→∃q:Int,zs[i*31+1]?=some (.int .i64 q):=λi hi=>by
  rw[←hzs,zomD_at _ _ _ (by omega) _ (by have:=HO2.out;omega)]
  exact HPAR.out i hi
 rw[hzs]at B6
 have HZS:=xh hzs
 have hbk:b≠kb:=λe=>HD.out.blk.ne HB.out (by decide) e.symm
 have hne1:∀q ds,Blk w q ds 138→¬q=b:=λq ds hq e=>hq.ne HB.out (by decide) e
 have hne2:∀q ds,Blk w q ds 5→¬q=b:=λq ds hq e=>hq.ne HB.out (by decide) e
 have HZP:=xh hzp
 have HZL:=xh hzl
 have HB6:=xh B6
 have HK6:=xh K6
 have HNE:=xh (And.intro hbk (And.intro hne1 hne2))
 clear hzp hzl hzs B6 K6 hne1 hne2 c5 HTH HB5 HK5
 go_upto_region 8 with fail
 go_loopw [8] (λi wr=>∃k:Nat,k≤n∧i=.int .i64 k∧Hid (Blk wr b (reparD pid zs k) 80∧Keep (λq=>q=b) w wr)) (λi _=>n-(intOf i).toNat)
 case atStart=>exact⟨0,Nat.zero_le _,rfl,xh ⟨HB6.out,HK6.out⟩⟩
 case round=>
  obtain⟨k,hk,rfl,HI⟩:=hrel
  have D:=HD.out.keep HI.out.2 (λe=>HNE.out.1 e.symm) HNE.out.2.1 HNE.out.2.2
  have c5:wr.cell? ⟨kb,5,none⟩=some (.slice (some ⟨b,0,none⟩) n cap):=by have:=D.blk.cell 5;rw[this];show some s.pv=_;rw[HSX.out.1]
  have HDr:=xh D
  clear D
  by_cases hlt:k<n
  ·obtain⟨q,hq⟩:=HZP.out k hlt
   have hq2:(reparD pid zs k)[k*31+1]?=some (.int .i64 q):=by rw[reparD_at _ _ _ _ (λi hi=>by omega)];exact hq
   have c1:wr.cell? ⟨b,k*31+1,none⟩=some (.int .i64 q):=by rw[HI.out.1.cell];exact hq2
   have f1:=HI.out.1.frozen (k*31+1)
   have HQ:=xh hq2
   clear hq hq2
   by_cases he:q=pid
   ·subst he
    have hE:reparD q zs (k+1)=(reparD q zs k).set (k*31+1) (.int .i64 1):=by rw[reparD,if_pos HQ.out]
    have HE:=xh hE
    clear hE
    go_wp2_with fail
    go_roundw
    case rel=>exact⟨k+1,by omega,by go_num,xh ⟨by rw[HE.out];exact HI.out.1.setCell (o:=k*31+1) _,HI.out.2.tr (Keep.setCell _ b (k*31+1) _)⟩⟩
    case measure=>simp[intOf]<;>omega
   ·have hb:(q==pid)=false:=beq_eq_false_iff_ne.2 he
    have hE:reparD pid zs (k+1)=reparD pid zs k:=by rw[reparD,if_neg (by rw[HQ.out];intro e;injection e with e;injection e with _ e;exact he e)]
    have HE:=xh hE
    clear hE
    go_wp2_with fail
    go_roundw
    case rel=>exact⟨k+1,by omega,by go_num,xh ⟨by rw[HE.out];exact HI.out.1,HI.out.2⟩⟩
    case measure=>simp[intOf]<;>omega
  ·obtain rfl:k=n:=by omega
   have HSW:=xh (sweep_none kb s iv L wr HDr.out HSX.out.2.1 HSX.out.2.2.1 HSX.out.2.2.2.1 HSX.out.2.2.2.2)
   go_wp2_with (go_at_call 130;((with_reducible refine Calls.mono HSW.out ?_);rintro e3 w3 ⟨rfl,iv3,D3,K3⟩;have H3:=xh (And.intro D3 K3);clear D3 K3))
   go_end0
   rw[HO2.out,HZS.out]
   exact⟨rfl,iv3,H3.out.1,HI.out.1.keep H3.out.2 HNE.out.1,(HI.out.2.mono λ_ h=>.inr h).tr (H3.out.2.mono λ_ h=>.inl h)⟩
end Go.Proofs.YtjdaddmjpicflaaGreatDoor
namespace Go.Proofs.YtjdaddmjpicflaaGreatDoor
open Go.RowKit Go.Maps Go.Shelf
def MBytes (M:Nat→Int):Prop:=∀a,0≤M a∧M a≤255
theorem poke_byte {M:Nat→Int} (h:MBytes M) (A:Nat) (l:List Int) (hl:∀x∈l,0≤x∧x≤255):MBytes (pokeM M A l):=λa=>by
 unfold pokeM
 split
 ·rename_i hc
  rw[List.getD_eq_getElem?_getD,List.getElem?_eq_getElem (by omega)]
  exact hl _ (List.getElem_mem _)
 ·exact h a
theorem st_byte (ss:List ByteArray):∀is:List Nat,MBytes (stOf ss is).M:=by
 refine snoc_ind ?_ ?_
 ·intro a;simp[stOf]
 ·intro is i ih
  rw[stOf_snoc]
  exact poke_byte ih _ _ (arg_byte ss i)
theorem mem_byte (ss:List ByteArray) (hg:Good ss) (hn:ss.length≤8):MBytes (memOf ss):=by
 have:∀k,MBytes (finTo (stAll ss) ss.length k):=by
  intro k
  induction k with
  | zero=>exact st_byte ss _
  | succ k ih=>
    have:=word_bound ss hg hn k
    exact poke_byte ih _ _ (bytes8_byte _ this.1 (by omega))
 exact this _
def stM (ss:List ByteArray):Pages:=pagesOf stPerm (memOf ss)
theorem stM_ok (ss:List ByteArray) (hg:Good ss) (hn:ss.length≤8):PagesOk (stM ss):=by
 refine⟨λn h=>?_,λn p h=>?_⟩
 ·unfold stM pagesOf stPerm
  rw[if_neg (by omega)];rfl
 ·unfold stM pagesOf at h
  obtain⟨q,hq,rfl⟩:=Option.map_eq_some_iff.1 h
  refine⟨by simp,λx hx=>?_,?_⟩
  ·obtain⟨i,_,rfl⟩:=List.mem_map.1 hx
   exact mem_byte ss hg hn _
  ·unfold stPerm at hq
   split at hq
   ·cases hq;exact⟨by simp,by simp⟩
   ·cases hq
theorem stM_at (ss:List ByteArray) (n:Nat) (h:n=254∨n=255):stM ss n=some ⟨6,(List.range 256).map λi=>memOf ss (256*n+i)⟩:=by
 unfold stM pagesOf stPerm
 rw[if_pos h];rfl
theorem withStack_ok {m:Pages} {ss:List ByteArray} (h:PagesOk m) (hg:Good ss) (hn:ss.length≤8):PagesOk (withStack m ss):=by
 have hs:=stM_ok ss hg hn
 refine⟨λn hn2=>?_,λn p hp=>?_⟩
 ·unfold withStack
  rw[if_neg (by omega)]
  exact h.below n hn2
 ·unfold withStack at hp
  by_cases e:n=254∨n=255
  ·rw[if_pos e]at hp
   exact hs.wf n p ((stM_at ss n e).trans hp)
  ·rw[if_neg e]at hp
   exact h.wf n p hp
def pgs (m:Pages):List (Nat×Pg):=(pageNums m).map λn=>(n,(m n).getD Pg.zero)
theorem pgs_api (m:Pages):(pgs m).flatMap (λq=>apiCells q.1 q.2)=pagesCells m (pageNums m):=by
 unfold pgs pagesCells
 rw[List.flatMap_map]
theorem pgs_ref (m:Pages):(pgs m).flatMap (λq=>refCells q.1 q.2)=refRow m:=by
 unfold pgs refRow
 rw[List.flatMap_map]
theorem pgs_len (m:Pages):(pgs m).length=(pageNums m).length:=by unfold pgs;simp
theorem pgs_le (m:Pages):(pgs m).length≤256:=by
 rw[pgs_len]
 have:=List.length_filter_le (λn=>(m n).isSome) (List.range 256)
 simpa [pageNums]using this
theorem pgs_wf {m:Pages} (h:PagesOk m):∀q∈pgs m,q.2.wf:=λq hq=>by
 obtain⟨n,hn,rfl⟩:=List.mem_map.1 hq
 have h1:=(List.mem_filter.1 hn).2
 cases hm:m n with
 | none=>rw[hm]at h1;cases h1
 | some p=>exact h.wf n p hm
theorem boxB_eq (E sp:Int) (v:Value):execC proc0 0 v E sp=boxB E sp v:=rfl
theorem cpu_eq (E sp:Int) (sb:Nat) (r:List Value):cpuC E sp sb++r=.int .u64 E::(rsV sp).map (Value.int .u64)++[.map (some sb)]++r:=by
 simp[cpuC,rsV]
theorem execB_sk (L:List Nd) (path:List UInt8):execB (sks L) path=execB L path:=by
 unfold execB
 rw[docWalk_sk]
 unfold sks
 rw[List.getElem?_map]
 cases L[(docWalk L path).2.2.1-1]?<;>rfl
theorem bootE_exec {l:Lims} {F:List FileA} (h:bootE l F=0):execE (filesF l.d.toNat l.e.toNat [rootNd] F).2 initP true 0 0 l.b.toNat=0:=by
 unfold bootE at h
 by_cases h1:l.okA=false
 ·rw[if_pos h1]at h;cases h
 ·rw[if_neg h1]at h
  by_cases h2:l.okB=false
  ·rw[if_pos h2]at h;cases h
  ·rw[if_neg h2]at h
   by_cases h3:l.d=0
   ·rw[if_pos h3]at h;cases h
   ·rw[if_neg h3]at h
    by_cases h4:(filesF l.d.toNat l.e.toNat [rootNd] F).1≠0
    ·rw[if_pos h4]at h;exact absurd h h4
    ·rw[if_neg h4]at h;exact h
theorem sk_get {T:List Pn} {L:List Nd} (h:sks L=nds T) {k:Nat} {n:Nd} (hk:L[k]?=some n):(nds T)[k]?=some n.sk:=by
 rw[←h];unfold sks;rw[List.getElem?_map,hk];rfl
theorem down_sk2 {L:List Nd} (h:Down (sks L)):Down L:=λi n hn=>h i n.sk (by unfold sks;rw[List.getElem?_map,hn];rfl)
end Go.Proofs.YtjdaddmjpicflaaGreatDoor
namespace Go.Proofs.YtjdaddmjpicflaaGreatDoor
open Go.RowKit Go.MapKept Go.Maps
def VarT (t:TypeId):Prop:=t=121∨t=80∨t=148∨t=109∨t=105∨t=87
def VarB (B:Nat) (w:World) (q:Nat):Prop:=B≤q∧((∃cs t,Blk w q cs t∧VarT t∧∃k n,cs[0]?=some (.int k n))∨∃m,Sp w q m∧∃n,(m n).isSome=true)
theorem VarB.back {B:Nat} {w w':World} {q:Nat} (h:VarB B w' q) (hb:w'.heap[q]?=w.heap[q]?):VarB B w q:=by
 obtain⟨hB,h⟩:=h
 refine⟨hB,?_⟩
 rcases h with⟨cs,t,h,ht⟩|⟨m,h,hm⟩
 ·exact .inl ⟨cs,t,hb.symm.trans h,ht⟩
 ·exact .inr ⟨m,h.of_block hb.symm,hm⟩
abbrev KeepV (B:Nat) (w w':World):Prop:=Keep (VarB B w) w w'
theorem KeepV.below {B:Nat} {w w':World} (h:KeepV B w w') (hB:B≤w.heap.size):Below B w w':=Keep.below h B hB λ_ hq=>hq.1
theorem KeepV.tr {B:Nat} {w w' w'':World} (h:KeepV B w w') (k:KeepV B w' w''):KeepV B w w'':=
 ⟨k.os.trans h.os,k.tape.trans h.tape,k.output.trans h.output,Nat.le_trans h.size k.size,λq hq hn=>(k.block q (Nat.lt_of_lt_of_le hq h.size) λhv=>hn (hv.back (h.block q hq hn))).trans (h.block q hq hn)⟩
theorem KeepV.bel {B:Nat} {w w':World} (h:Bel w w'):KeepV B w w':=Keep.of_bel _ h
theorem varB_blk {B:Nat} {w:World} {q:Nat} {cs:List Value} {t:TypeId} (h:Blk w q cs t) (ht:¬VarT t):¬VarB B w q:=by
 rintro⟨_,h3⟩
 rcases h3 with(⟨ds,u,h2,hu⟩|⟨m,⟨kv,hmp,_⟩,_⟩)
 ·unfold Blk at h h2
  rw[h]at h2
  injection h2 with h2
  injection h2 with _ h2
  subst h2
  exact ht hu.1
 ·exact h.ne_map hmp rfl
theorem Blk.keepV {B:Nat} {w w':World} {q:Nat} {cs:List Value} {t:TypeId} (h:Blk w q cs t) (k:KeepV B w w') (ht:¬VarT t):Blk w' q cs t:=h.keep k (varB_blk h ht)
theorem sp_some {w:World} {q:Nat} {m:Pages} (h:Sp w q m) {n:Nat} (hn:(m n).isSome=true):∃kv v,Mp keyI w q kv∧((n:Int),v)∈kv∧∃p:Pg,v=p.v:=by
 obtain⟨kv,hmp,hg,_⟩:=h
 obtain⟨p,hp⟩:=Option.isSome_iff_exists.1 hn
 have:=hg n
 rw[hp]at this
 exact⟨kv,p.v,hmp,getKv_mem this,p,rfl⟩
theorem errVar_var {B:Nat} {w:World} (h:ErrVar w):¬VarB B w 0:=by
 unfold ErrVar at h
 rintro⟨_,h3⟩
 rcases h3 with(⟨cs,t,h2,_,k,n,hc⟩|⟨m,⟨kv,⟨es,c,hb,_⟩,_⟩,_⟩)
 ·rw[h2.cell,hc]at h
  injection h with h
  cases h
 ·simp[World.cell?,hb]at h
theorem varB_mapS {B:Nat} {w:World} {q:Nat} {kv:List (ByteArray×Value)} (h:Mp keyS w q kv):¬VarB B w q:=by
 rintro⟨_,h3⟩
 rcases h3 with(⟨ds,u,h2,hu⟩|⟨m,hs,n,hn⟩)
 ·exact h2.ne_map h rfl
 ·obtain⟨kv2,v,⟨es2,c2,hb2,_,he2,_⟩,hm,_⟩:=sp_some hs hn
  obtain⟨es,c,hb,_,he,_⟩:=h
  rw[hb]at hb2
  injection hb2 with hb2
  injection hb2 with e1 _
  subst e1
  have h3:(keyI.kf (n:Int),v)∈es.toList.map (λe=>(e.key,e.val)):=by rw[he2];exact List.mem_map.2 ⟨_,hm,rfl⟩
  rw[he]at h3
  obtain⟨p,_,e⟩:=List.mem_map.1 h3
  injection e with e _
  cases e
theorem varB_mapP {B:Nat} {w:World} {q:Nat} {kv:List (Int×Value)} (h:Mp keyP w q kv) (hv:∀p∈kv,∃a,p.2=.pointer a):¬VarB B w q:=by
 rintro⟨_,h3⟩
 rcases h3 with(⟨ds,u,h2,hu⟩|⟨m,hs,n,hn⟩)
 ·exact h2.ne_map h rfl
 ·obtain⟨kv2,v,⟨es2,c2,hb2,_,he2,_⟩,hm,p,rfl⟩:=sp_some hs hn
  obtain⟨es,c,hb,_,he,_⟩:=h
  rw[hb]at hb2
  injection hb2 with hb2
  injection hb2 with e1 _
  subst e1
  have h3:(keyI.kf (n:Int),p.v)∈es.toList.map (λe=>(e.key,e.val)):=by rw[he2];exact List.mem_map.2 ⟨_,hm,rfl⟩
  rw[he]at h3
  obtain⟨r,hr,e⟩:=List.mem_map.1 h3
  obtain⟨a,ha⟩:=hv r hr
  injection e with _ e
  rw[ha]at e
  cases e
theorem PT.keepV {B:Nat} {w w':World} {tb:Nat} {A:Adr} {T:List Pn} {mi mb:Nat} (h:PT w tb A T mi mb) (k:KeepV B w w'):PT w' tb A T mi mb:=
 h.keep k λq hq=>by
  rcases hq with rfl|⟨i,n,hi,rfl|⟨hd,rfl⟩|hb⟩
  ·exact varB_blk h.block (by unfold VarT;decide)
  ·exact varB_blk (h.tree.node i n hi) (by unfold VarT;decide)
  ·exact varB_mapS (h.tree.kids i n hi hd)
  ·obtain⟨_,cur,hc⟩:=(h.tree.byts i n hi).lt hb
   exact varB_blk hc (by unfold VarT;decide)
structure CE where
 B:Nat
 wb:Nat
 tk:Nat
 kb:Nat
 rb:Nat
 pm:Nat
 tb:Nat
 ob:Nat
 cb:Nat
 pb:Nat
 pb2:Nat
 pc2:Nat
 l:Lims
 A:Adr
 T:List Pn
 L:List Nd
structure CPla (E:CE):Prop where
 sk:sks E.L=nds E.T
 inv:FInv (nds E.T)
 few:E.T.length≤101
 pc:1≤E.pc2
 hb:E.B≤E.kb∧E.B≤E.cb∧E.B≤E.rb∧E.B≤E.pb∧E.B≤E.pb2
structure CFix (E:CE) (w:World):Prop where
 hW:Blk w E.wb [.pointer (some ⟨E.tk,0,none⟩),.pointer (some ⟨E.rb,0,none⟩),.slice none 0 0,.slice none 0 0,.bool false] 55
 ht:Blk w E.tk [.pointer (some ⟨E.kb,0,none⟩)] 62
 hp:Mp keyP w E.pm [(1,.pointer (some ⟨E.pb,0,none⟩))]
 ho:Blk w E.ob [.int .i64 0,.int .i64 E.l.c] 187
 tr:PT w E.tb E.A E.T E.l.d.toNat E.l.e.toNat
 ev:ErrVar w
theorem CFix.keepV {B:Nat} {E:CE} {w w':World} (h:CFix E w) (k:KeepV B w w'):CFix E w':=by
 refine⟨h.hW.keepV k (by unfold VarT;decide),h.ht.keepV k (by unfold VarT;decide),h.hp.of_block (k.block _ h.hp.lt (varB_mapP h.hp λp hp=>?_)),h.ho.keepV k (by unfold VarT;decide),h.tr.keepV k,?_⟩
 ·rw[List.mem_singleton.1 hp]
  exact⟨_,rfl⟩
 ·have hn:=errVar_var (B:=B) h.ev
  exact(k.cell ⟨0,0,none⟩ h.ev.lt hn).trans h.ev
structure CKer (E:CE) (w:World) (fr:Int) (fds:Nat) (s:KV) (iv:Value):Prop where
 hk:Blk w E.kb (kerC E.l.a E.l.b E.l.c E.l.d.toNat E.l.e.toNat E.pm E.tb E.ob E.cb fr 0 (.slice none 0 0)) 109
 hc:Blk w E.cb [.int .i64 fds,.slice none 0 0,.slice none 0 0] 105
 dk:DK w E.rb s iv E.L
 pv:s.pv=.slice (some ⟨E.pb2,0,none⟩) 1 E.pc2
 ov:s.ov=.slice none 0 0
 xv:s.xv=.slice none 0 0
theorem CKer.keep {S:Nat→Prop} {E:CE} {w w':World} {fr:Int} {fds:Nat} {s:KV} {iv:Value} (h:CKer E w fr fds s iv) (k:Keep S w w') (hs:∀q cs t,Blk w q cs t→t≠121→t≠80→t≠148→¬S q):CKer E w' fr fds s iv:=
 ⟨h.hk.keep k (hs _ _ _ h.hk (by decide) (by decide) (by decide)),h.hc.keep k (hs _ _ _ h.hc (by decide) (by decide) (by decide)),h.dk.keep k (hs _ _ _ h.dk.blk (by decide) (by decide) (by decide)) (λq cs hb=>hs q cs _ hb (by decide) (by decide) (by decide)) (λq cs hb=>hs q cs _ hb (by decide) (by decide) (by decide)),h.pv,h.ov,h.xv⟩
structure Hdr (cs:List Value) (st sv:Int) (ids:List Int):Prop where
 h0:cs[0]?=some (.int .i64 1)
 h1:cs[1]?=some (.int .i64 0)
 h2:cs[2]?=some (.int .i64 st)
 h3:cs[3]?=some (.int .i64 sv)
 h4:cs[4]?=some (.int .i64 0)
 h5:∀j,j<8→cs[23+j]?=some (.int .i64 (ids.getD j 0))
structure LiveC (E:CE) (w:World) (perm:Nat→Option Int) (c:Cpu) (sb:Nat) (pv:Value) (cs:List Value):Prop where
 cpu:CpuAt w E.pb sb perm c (restC 1 0 0 0 0 (fds0 E.cb))
 dcp:DCpu w E.pb2 0 cs perm c pv
 hdr:Hdr cs 0 0 idsC
 ne:pv.ownBlock≠some E.pb2
 som:∃n,(perm n).isSome=true
 hsb:E.B≤sb
 hpg:∀g,pv.ownBlock=some g→E.B≤g
structure DeadC (E:CE) (w:World) (sv pc:Int) (regs:List Int) (cs:List Value):Prop where
 pro:Blk w E.pb (cpuD pc regs (.map none)++restC 1 0 2 sv 0 fdsN) 121
 doc:Blk w E.pb2 cs 80
 len:31≤cs.length
 hdr:Hdr cs 2 sv idsN
 c5:cs[5]?=some (.int .u64 pc)
 reg:∀i,i<16→cs[6+i]?=some (.int .u64 (regs.getD i 0))
 c22:cs[22]?=some (.slice none 0 0)
 ok:RegsOk regs
def frm (perm:Nat→Option Int):Nat:=(pageNums (pagesOf perm λ_=>0)).length
structure Inv (E:CE) (w:World):Prop where
 fix:CFix E w
 st:(∃s iv perm c sb pv cs,CKer E w (frm perm:Nat) 3 s iv∧LiveC E w perm c sb pv cs)∨∃s iv sv pc regs cs,CKer E w 0 0 s iv∧DeadC E w sv pc regs cs
end Go.Proofs.YtjdaddmjpicflaaGreatDoor
