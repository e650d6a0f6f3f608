/- (*Kernel).Step of the document: what makes A of A, B and Imm. -/
import Derived.StillTailTactics
import Derived.Test.YtjdaddmjpicflaaGreatDoorP31
import Derived.Test.YtjdaddmjpicflaaGreatDoorP30
set_option linter.unusedVariables false
set_option linter.unusedSimpArgs false
set_option maxRecDepth 100000
set_option maxHeartbeats 16000000
namespace Go.Proofs.YtjdaddmjpicflaaGreatDoor
open Go.RowKit Go.Maps
theorem stepD_alu (op:Nat) (ho1:1≤op) (ho2:op≤13) (kb b at_ n cap:Nat) (pid:Int) (cs:List Value) (perm:Nat→Option Int) (c:Cpu) (pv:Value) (A B:Nat) (imm:Int) (w:World) (hp:ProcAtD w kb b at_ n cap pid cs) (h:DCpu w b (at_*31) cs perm c pv) (hne:pv.ownBlock≠some b) (hA:A<16) (hB:B<16) (hnx:(∀W,DCpu W b (at_*31) cs perm c pv→Calls Tryz.prog 21 #[.pointer (some ⟨b,at_*31,none⟩)] W λe w'=>e=.returned (.tuple #[insR op A B imm,.int .i64 0])∧Bel W w')) :
 Calls Tryz.prog 52 #[.pointer (some ⟨kb,0,none⟩),.int .i64 pid] w λe w'=>StepDRes b (at_*31) cs perm {c with pc:=u64 (c.pc+4),regs:=c.regs.set A (aluF op (c.regs.getD A 0) (c.regs.getD B 0) (u64 imm))} pv w e w':=by
 have hA0:(0:Int)≤A:=by omega
 have hA1:(A:Int)<16:=by omega
 have hB0:(0:Int)≤B:=by omega
 have hB1:(B:Int)<16:=by omega
 have HC:=xh h
 have HP:=xh hp
 have HNX:=xh hnx
 have HNE:=xh hne
 have hat:=hp.lt
 have hfew:=hp.few
 have hat0:¬(at_:Int)<0:=by omega
 have hat1:(0:Int)≤at_:=by omega
 have hat2:(at_:Int)<n:=by omega
 have c5:=hp.row
 have cst:w.cell? ⟨b,at_*31+2,none⟩=some (.int .i64 0):=by rw[h.blk.cell];exact hp.st
 obtain⟨ra,hra⟩:∃ra,c.regs.getD A 0=ra:=⟨_,rfl⟩
 obtain⟨rb,hrb⟩:∃rb,c.regs.getD B 0=rb:=⟨_,rfl⟩
 obtain⟨pc,hpc⟩:∃pc,c.pc=pc:=⟨_,rfl⟩
 have ua:=h.regU A
 have ub:=h.regU B
 rw[hra]at ua
 rw[hrb]at ub
 have HRA:=xh hra
 have HRB:=xh hrb
 have HPC:=xh hpc
 have hwp:IntKind.wrap .u64 (pc+4)=u64 (pc+4):=rfl
 have HAL:Hid (∀W,Calls Tryz.prog 100 #[insR op A B imm,.int .u64 ra,.int .u64 rb] W λe w'=>e=.returned (.tuple #[.int .u64 (aluF op ra rb (u64 imm)),.bool true])∧Bel W w'):=xh λW=>(aluD_any op A B imm ra rb W ho1 (by omega) ua ub).mono λe w' h=>⟨h.1.trans (by unfold aluR;simp[ho2]),h.2⟩
 clear h hp hnx hne hra hrb hpc hat hfew ho1 ho2
 go_enter Tryz.func52,Tryz.ntmps52
 go_upto_region 11 with(first
  | (go_at_call 20;((with_reducible refine Calls.mono (HP.out.call _ (Bel.refl _)) ?_);rintro e2 w2 ⟨rfl,rfl⟩))
  | (go_at_call 21;((with_reducible refine Calls.mono (HNX.out _ HC.out) ?_);rintro e3 w3 ⟨rfl,k3⟩;have H3:=xh k3;clear k3)))
 have k4:Bel w (w3.alloc (.cells #[.int .i64 op,.int .i64 A,.int .i64 B,.int .i64 imm] 89)):=H3.out.ac _
 have BI:Blk (w3.alloc (.cells #[.int .i64 op,.int .i64 A,.int .i64 B,.int .i64 imm] 89)) w3.heap.size [.int .i64 op,.int .i64 A,.int .i64 B,.int .i64 imm] 89:=Blk.new w3 _ _
 have hws:w.heap.size≤w3.heap.size:=H3.out.size
 generalize w3.alloc (.cells #[.int .i64 op,.int .i64 A,.int .i64 B,.int .i64 imm] 89)=w4 at *
 obtain⟨bx,hbx⟩:∃bx,w3.heap.size=bx:=⟨_,rfl⟩
 rw[hbx]at BI hws⊢
 have K4:=xh k4
 have HBI:=xh BI
 have HWS:=xh hws
 have FX:Hid (∀W,Bel w4 W→W.cell? ⟨bx,0,none⟩=some (.int .i64 op)∧W.cell? ⟨bx,1,none⟩=some (.int .i64 A)∧W.cell? ⟨bx,2,none⟩=some (.int .i64 B)∧W.cell? ⟨bx,3,none⟩=some (.int .i64 imm)):=xh λW hW=>⟨(HBI.out.bel hW).cell 0,(HBI.out.bel hW).cell 1,(HBI.out.bel hW).cell 2,(HBI.out.bel hW).cell 3⟩
 have FP:Hid (∀W,Bel w4 W→W.cell? ⟨b,at_*31+5,none⟩=some (.int .u64 pc)∧W.cell? ⟨b,at_*31+6+A,none⟩=some (.int .u64 ra)∧W.cell? ⟨b,at_*31+6+B,none⟩=some (.int .u64 rb)):=xh λW hW=>by
  have h4:=HC.out.bel (K4.out.tr hW)
  refine⟨?_,?_,?_⟩
  ·rw[←HPC.out];exact h4.cell5
  ·rw[←HRA.out];exact h4.cellR A hA
  ·rw[←HRB.out];exact h4.cellR B hB
 clear c5 cst k4 BI hws hbx
 obtain⟨i0,i1,i2,i3⟩:=FX.out w4 (Bel.refl _)
 obtain⟨p5,pA,pB⟩:=FP.out w4 (Bel.refl _)
 go_quiet (fail)
 clear i0 i1 i2 i3 p5 pA pB
 have k5:Bel w4 (w4.drewN nq):=bel_drewN (Bel.refl _) nq
 obtain⟨i0,i1,i2,i3⟩:=FX.out _ k5
 obtain⟨p5,pA,pB⟩:=FP.out _ k5
 generalize w4.drewN nq=w5 at *
 have K5:=xh k5
 clear k5 nq
 go_upto_region 12 with fail
 go_quiet (fail)
 clear i0 i1 i2 i3 p5 pA pB
 have k6:Bel w4 (w5.drewN nq):=bel_drewN K5.out nq
 obtain⟨i0,i1,i2,i3⟩:=FX.out _ k6
 obtain⟨p5,pA,pB⟩:=FP.out _ k6
 generalize w5.drewN nq=w6 at *
 have K6:=xh k6
 clear k6 nq K5 w5
 go_upto_region 19 with(go_at_call 100;((with_reducible refine Calls.mono (HAL.out _) ?_);rintro e7 w7 ⟨rfl,k7⟩;have K7:=xh (K6.out.tr k7);clear k7))
 clear i0 i1 i2 i3 p5 pA pB
 obtain⟨i0,i1,i2,i3⟩:=FX.out _ K7.out
 obtain⟨p5,pA,pB⟩:=FP.out _ K7.out
 have fb:∀o,w7.frozen? ⟨b,o,none⟩=false:=(HC.out.bel (K4.out.tr K7.out)).blk.frozen
 go_still_tail 7,(by kernel_rfl)
 change wpList _ _ _ _ _ w7.drew
 have hx1:at_*31+6+A≠at_*31+5:=by omega
 have hx2:at_*31+5≠at_*31+6+A:=by omega
 go_wp2_with fail
 go_ret
 have h7:=(HC.out.bel (K4.out.tr K7.out)).setReg HNE.out A hA (aluF op ra rb (u64 imm)) (aluF_U op ra rb _ ua ub (U_u64 imm))
 have h8:=h7.setPc HNE.out (u64 (pc+4)) (U_u64 _)
 have kd:Keep (λ_=>False) ((w7.setCell ⟨b,at_*31+6+A,none⟩ (.int .u64 (aluF op ra rb (u64 imm)))).setCell ⟨b,at_*31+5,none⟩ (.int .u64 (u64 (pc+4)))) ((w7.setCell ⟨b,at_*31+6+A,none⟩ (.int .u64 (aluF op ra rb (u64 imm)))).setCell ⟨b,at_*31+5,none⟩ (.int .u64 (u64 (pc+4)))).drew:=Keep.of_bel _ (Bel.drew (Bel.refl _))
 rw[HRA.out,HRB.out,HPC.out]
 exact⟨rfl,⟨_,h8.keep kd (λh=>h) (λ_ _ h=>h),((Rest.refl _ _).set _ _ (by omega) (by omega)).set _ _ (by omega) (by omega)⟩,(((Keep.of_bel _ (K4.out.tr K7.out)).tr (ownD_b b _ pv _ _)).tr (ownD_b b _ pv _ _)).tr (kd.mono λ_ h=>h.elim)⟩
theorem stepD_br (op:Nat) (ho:op=18∨op=19∨op=20∨op=21∨op=23) (kb b at_ n cap:Nat) (pid:Int) (cs:List Value) (perm:Nat→Option Int) (c:Cpu) (pv:Value) (A B:Nat) (imm:Int) (w:World) (hp:ProcAtD w kb b at_ n cap pid cs) (h:DCpu w b (at_*31) cs perm c pv) (hne:pv.ownBlock≠some b) (hA:A<16) (hB:B<16) (hnx:(∀W,DCpu W b (at_*31) cs perm c pv→Calls Tryz.prog 21 #[.pointer (some ⟨b,at_*31,none⟩)] W λe w'=>e=.returned (.tuple #[insR op A B imm,.int .i64 0])∧Bel W w')) :
 Calls Tryz.prog 52 #[.pointer (some ⟨kb,0,none⟩),.int .i64 pid] w λe w'=>StepDRes b (at_*31) cs perm {c with pc:=jmpF op c.pc (c.regs.getD A 0) (c.regs.getD B 0) imm} pv w e w':=by
 have hA0:(0:Int)≤A:=by omega
 have hA1:(A:Int)<16:=by omega
 have hB0:(0:Int)≤B:=by omega
 have hB1:(B:Int)<16:=by omega
 have HC:=xh h
 have HP:=xh hp
 have HNX:=xh hnx
 have HNE:=xh hne
 have hat:=hp.lt
 have hfew:=hp.few
 have hat0:¬(at_:Int)<0:=by omega
 have hat1:(0:Int)≤at_:=by omega
 have hat2:(at_:Int)<n:=by omega
 have c5:=hp.row
 have cst:w.cell? ⟨b,at_*31+2,none⟩=some (.int .i64 0):=by rw[h.blk.cell];exact hp.st
 obtain⟨ra,hra⟩:∃ra,c.regs.getD A 0=ra:=⟨_,rfl⟩
 obtain⟨rb,hrb⟩:∃rb,c.regs.getD B 0=rb:=⟨_,rfl⟩
 obtain⟨pc,hpc⟩:∃pc,c.pc=pc:=⟨_,rfl⟩
 have ua:=h.regU A
 have ub:=h.regU B
 rw[hra]at ua
 rw[hrb]at ub
 have HRA:=xh hra
 have HRB:=xh hrb
 have HPC:=xh hpc
 have hwp:IntKind.wrap .u64 (pc+4)=u64 (pc+4):=rfl
 have HAL:Hid (∀W,Calls Tryz.prog 100 #[insR op A B imm,.int .u64 ra,.int .u64 rb] W λe w'=>e=.returned (.tuple #[.int .u64 0,.bool false])∧Bel W w'):=xh λW=>(aluD_any op A B imm ra rb W (by omega) (by omega) ua ub).mono λe w' h=>⟨h.1.trans (by unfold aluR;rw[if_neg (by omega),decide_eq_false (by omega)]),h.2⟩
 have HJ:Hid (∀W,Calls Tryz.prog 103 #[insR op A B imm,.int .u64 pc,.int .u64 ra,.int .u64 rb] W λe w'=>e=.returned (.int .u64 (jmpF op pc ra rb imm))∧Bel W w'):=xh λW=>jumps_any op A B imm pc ra rb W (by omega) (by omega) ua ub
 have ho13:14≤op:=by omega
 have ho14:(14:Int)≤op:=by omega
 have ho17:¬op≤17:=by omega
 have ho18:¬(op:Int)≤17:=by omega
 have ho22:((op:Int)==22)=false:=beq_eq_false_iff_ne.2 (by omega)
 have ho24:((op:Int)==24)=false:=beq_eq_false_iff_ne.2 (by omega)
 clear h hp hnx hne hra hrb hpc hat hfew ho
 go_enter Tryz.func52,Tryz.ntmps52
 go_upto_region 11 with(first
  | (go_at_call 20;((with_reducible refine Calls.mono (HP.out.call _ (Bel.refl _)) ?_);rintro e2 w2 ⟨rfl,rfl⟩))
  | (go_at_call 21;((with_reducible refine Calls.mono (HNX.out _ HC.out) ?_);rintro e3 w3 ⟨rfl,k3⟩;have H3:=xh k3;clear k3)))
 have k4:Bel w (w3.alloc (.cells #[.int .i64 op,.int .i64 A,.int .i64 B,.int .i64 imm] 89)):=H3.out.ac _
 have BI:Blk (w3.alloc (.cells #[.int .i64 op,.int .i64 A,.int .i64 B,.int .i64 imm] 89)) w3.heap.size [.int .i64 op,.int .i64 A,.int .i64 B,.int .i64 imm] 89:=Blk.new w3 _ _
 have hws:w.heap.size≤w3.heap.size:=H3.out.size
 generalize w3.alloc (.cells #[.int .i64 op,.int .i64 A,.int .i64 B,.int .i64 imm] 89)=w4 at *
 obtain⟨bx,hbx⟩:∃bx,w3.heap.size=bx:=⟨_,rfl⟩
 rw[hbx]at BI hws⊢
 have K4:=xh k4
 have HBI:=xh BI
 have HWS:=xh hws
 have FX:Hid (∀W,Bel w4 W→W.cell? ⟨bx,0,none⟩=some (.int .i64 op)∧W.cell? ⟨bx,1,none⟩=some (.int .i64 A)∧W.cell? ⟨bx,2,none⟩=some (.int .i64 B)∧W.cell? ⟨bx,3,none⟩=some (.int .i64 imm)):=xh λW hW=>⟨(HBI.out.bel hW).cell 0,(HBI.out.bel hW).cell 1,(HBI.out.bel hW).cell 2,(HBI.out.bel hW).cell 3⟩
 have FP:Hid (∀W,Bel w4 W→W.cell? ⟨b,at_*31+5,none⟩=some (.int .u64 pc)∧W.cell? ⟨b,at_*31+6+A,none⟩=some (.int .u64 ra)∧W.cell? ⟨b,at_*31+6+B,none⟩=some (.int .u64 rb)):=xh λW hW=>by
  have h4:=HC.out.bel (K4.out.tr hW)
  refine⟨?_,?_,?_⟩
  ·rw[←HPC.out];exact h4.cell5
  ·rw[←HRA.out];exact h4.cellR A hA
  ·rw[←HRB.out];exact h4.cellR B hB
 clear c5 cst k4 BI hws hbx
 obtain⟨i0,i1,i2,i3⟩:=FX.out w4 (Bel.refl _)
 obtain⟨p5,pA,pB⟩:=FP.out w4 (Bel.refl _)
 go_quiet (fail)
 clear i0 i1 i2 i3 p5 pA pB
 have k5:Bel w4 (w4.drewN nq):=bel_drewN (Bel.refl _) nq
 obtain⟨i0,i1,i2,i3⟩:=FX.out _ k5
 obtain⟨p5,pA,pB⟩:=FP.out _ k5
 generalize w4.drewN nq=w5 at *
 have K5:=xh k5
 clear k5 nq
 go_upto_region 12 with fail
 go_quiet (fail)
 clear i0 i1 i2 i3 p5 pA pB
 have k6:Bel w4 (w5.drewN nq):=bel_drewN K5.out nq
 obtain⟨i0,i1,i2,i3⟩:=FX.out _ k6
 obtain⟨p5,pA,pB⟩:=FP.out _ k6
 generalize w5.drewN nq=w6 at *
 have K6:=xh k6
 clear k6 nq K5 w5
 go_upto_region 14 with(go_at_call 100;((with_reducible refine Calls.mono (HAL.out _) ?_);rintro e7 w7 ⟨rfl,k7⟩;have K7:=xh (K6.out.tr k7);clear i0 i1 i2 i3 p5 pA pB k7;obtain⟨i0,i1,i2,i3⟩:=FX.out _ K7.out;obtain⟨p5,pA,pB⟩:=FP.out _ K7.out))
 go_still_tail 7,(by kernel_rfl)
 change wpList _ _ _ _ _ w7.drew
 go_upto_region 17 with(go_at_call 103;((with_reducible refine Calls.mono (HJ.out _) ?_);rintro e8 w8 ⟨rfl,k8⟩;have K8:=xh (K7.out.tr ((Bel.drew (Bel.refl _)).tr k8));clear i0 i1 i2 i3 p5 pA pB k8;obtain⟨i0,i1,i2,i3⟩:=FX.out _ K8.out;obtain⟨p5,pA,pB⟩:=FP.out _ K8.out))
 have fb:∀o,w8.frozen? ⟨b,o,none⟩=false:=(HC.out.bel (K4.out.tr K8.out)).blk.frozen
 have hju:U (jmpF op pc ra rb imm):=jmpF_U _ _ _ _ _ ua
 go_wp2_with fail
 go_ret
 have h8:=(HC.out.bel (K4.out.tr K8.out)).setPc HNE.out (jmpF op pc ra rb imm) hju
 rw[HRA.out,HRB.out,HPC.out]
 exact⟨rfl,⟨_,h8,(Rest.refl _ _).set _ _ (by omega) (by omega)⟩,(Keep.of_bel _ (K4.out.tr K8.out)).tr (ownD_b b _ pv _ _)⟩
theorem stepD_br22 (kb b at_ n cap:Nat) (pid:Int) (cs:List Value) (perm:Nat→Option Int) (c:Cpu) (pv:Value) (A B:Nat) (imm:Int) (w:World) (hp:ProcAtD w kb b at_ n cap pid cs) (h:DCpu w b (at_*31) cs perm c pv) (hne:pv.ownBlock≠some b) (hA:A<16) (hB:B<16) (hnx:(∀W,DCpu W b (at_*31) cs perm c pv→Calls Tryz.prog 21 #[.pointer (some ⟨b,at_*31,none⟩)] W λe w'=>e=.returned (.tuple #[insR 22 A B imm,.int .i64 0])∧Bel W w')) :
 Calls Tryz.prog 52 #[.pointer (some ⟨kb,0,none⟩),.int .i64 pid] w λe w'=>StepDRes b (at_*31) cs perm {c with pc:=jmpF 22 c.pc (c.regs.getD A 0) (c.regs.getD B 0) imm,regs:=c.regs.set A (u64 (c.pc+4))} pv w e w':=by
 have hA0:(0:Int)≤A:=by omega
 have hA1:(A:Int)<16:=by omega
 have hB0:(0:Int)≤B:=by omega
 have hB1:(B:Int)<16:=by omega
 have HC:=xh h
 have HP:=xh hp
 have HNX:=xh hnx
 have HNE:=xh hne
 have hat:=hp.lt
 have hfew:=hp.few
 have hat0:¬(at_:Int)<0:=by omega
 have hat1:(0:Int)≤at_:=by omega
 have hat2:(at_:Int)<n:=by omega
 have c5:=hp.row
 have cst:w.cell? ⟨b,at_*31+2,none⟩=some (.int .i64 0):=by rw[h.blk.cell];exact hp.st
 obtain⟨ra,hra⟩:∃ra,c.regs.getD A 0=ra:=⟨_,rfl⟩
 obtain⟨rb,hrb⟩:∃rb,c.regs.getD B 0=rb:=⟨_,rfl⟩
 obtain⟨pc,hpc⟩:∃pc,c.pc=pc:=⟨_,rfl⟩
 have ua:=h.regU A
 have ub:=h.regU B
 rw[hra]at ua
 rw[hrb]at ub
 have HRA:=xh hra
 have HRB:=xh hrb
 have HPC:=xh hpc
 have hwp:IntKind.wrap .u64 (pc+4)=u64 (pc+4):=rfl
 have HAL:Hid (∀W,Calls Tryz.prog 100 #[insR 22 A B imm,.int .u64 ra,.int .u64 rb] W λe w'=>e=.returned (.tuple #[.int .u64 0,.bool false])∧Bel W w'):=xh λW=>aluD_any 22 A B imm ra rb W (by decide) (by decide) ua ub
 have HJ:Hid (∀W,Calls Tryz.prog 103 #[insR 22 A B imm,.int .u64 pc,.int .u64 ra,.int .u64 rb] W λe w'=>e=.returned (.int .u64 (jmpF 22 pc ra rb imm))∧Bel W w'):=xh λW=>jumps_any 22 A B imm pc ra rb W (by decide) (by decide) ua ub
 clear h hp hnx hne hra hrb hpc hat hfew
 go_enter Tryz.func52,Tryz.ntmps52
 go_upto_region 11 with(first
  | (go_at_call 20;((with_reducible refine Calls.mono (HP.out.call _ (Bel.refl _)) ?_);rintro e2 w2 ⟨rfl,rfl⟩))
  | (go_at_call 21;((with_reducible refine Calls.mono (HNX.out _ HC.out) ?_);rintro e3 w3 ⟨rfl,k3⟩;have H3:=xh k3;clear k3)))
 have k4:Bel w (w3.alloc (.cells #[.int .i64 22,.int .i64 A,.int .i64 B,.int .i64 imm] 89)):=H3.out.ac _
 have BI:Blk (w3.alloc (.cells #[.int .i64 22,.int .i64 A,.int .i64 B,.int .i64 imm] 89)) w3.heap.size [.int .i64 22,.int .i64 A,.int .i64 B,.int .i64 imm] 89:=Blk.new w3 _ _
 have hws:w.heap.size≤w3.heap.size:=H3.out.size
 generalize w3.alloc (.cells #[.int .i64 22,.int .i64 A,.int .i64 B,.int .i64 imm] 89)=w4 at *
 obtain⟨bx,hbx⟩:∃bx,w3.heap.size=bx:=⟨_,rfl⟩
 rw[hbx]at BI hws⊢
 have K4:=xh k4
 have HBI:=xh BI
 have HWS:=xh hws
 have FX:Hid (∀W,Bel w4 W→W.cell? ⟨bx,0,none⟩=some (.int .i64 22)∧W.cell? ⟨bx,1,none⟩=some (.int .i64 A)∧W.cell? ⟨bx,2,none⟩=some (.int .i64 B)∧W.cell? ⟨bx,3,none⟩=some (.int .i64 imm)):=xh λW hW=>⟨(HBI.out.bel hW).cell 0,(HBI.out.bel hW).cell 1,(HBI.out.bel hW).cell 2,(HBI.out.bel hW).cell 3⟩
 have FP:Hid (∀W,Bel w4 W→W.cell? ⟨b,at_*31+5,none⟩=some (.int .u64 pc)∧W.cell? ⟨b,at_*31+6+A,none⟩=some (.int .u64 ra)∧W.cell? ⟨b,at_*31+6+B,none⟩=some (.int .u64 rb)):=xh λW hW=>by
  have h4:=HC.out.bel (K4.out.tr hW)
  refine⟨?_,?_,?_⟩
  ·rw[←HPC.out];exact h4.cell5
  ·rw[←HRA.out];exact h4.cellR A hA
  ·rw[←HRB.out];exact h4.cellR B hB
 clear c5 cst k4 BI hws hbx
 obtain⟨i0,i1,i2,i3⟩:=FX.out w4 (Bel.refl _)
 obtain⟨p5,pA,pB⟩:=FP.out w4 (Bel.refl _)
 go_quiet (fail)
 clear i0 i1 i2 i3 p5 pA pB
 have k5:Bel w4 (w4.drewN nq):=bel_drewN (Bel.refl _) nq
 obtain⟨i0,i1,i2,i3⟩:=FX.out _ k5
 obtain⟨p5,pA,pB⟩:=FP.out _ k5
 generalize w4.drewN nq=w5 at *
 have K5:=xh k5
 clear k5 nq
 go_upto_region 12 with fail
 go_quiet (fail)
 clear i0 i1 i2 i3 p5 pA pB
 have k6:Bel w4 (w5.drewN nq):=bel_drewN K5.out nq
 obtain⟨i0,i1,i2,i3⟩:=FX.out _ k6
 obtain⟨p5,pA,pB⟩:=FP.out _ k6
 generalize w5.drewN nq=w6 at *
 have K6:=xh k6
 clear k6 nq K5 w5
 go_upto_region 14 with(go_at_call 100;((with_reducible refine Calls.mono (HAL.out _) ?_);rintro e7 w7 ⟨rfl,k7⟩;have K7:=xh (K6.out.tr k7);clear i0 i1 i2 i3 p5 pA pB k7;obtain⟨i0,i1,i2,i3⟩:=FX.out _ K7.out;obtain⟨p5,pA,pB⟩:=FP.out _ K7.out))
 go_still_tail 7,(by kernel_rfl)
 change wpList _ _ _ _ _ w7.drew
 go_upto_region 16 with(go_at_call 103;((with_reducible refine Calls.mono (HJ.out _) ?_);rintro e8 w8 ⟨rfl,k8⟩;have K8:=xh (K7.out.tr ((Bel.drew (Bel.refl _)).tr k8));clear i0 i1 i2 i3 p5 pA pB k8;obtain⟨i0,i1,i2,i3⟩:=FX.out _ K8.out;obtain⟨p5,pA,pB⟩:=FP.out _ K8.out))
 have fb:∀o,w8.frozen? ⟨b,o,none⟩=false:=(HC.out.bel (K4.out.tr K8.out)).blk.frozen
 have hju:U (jmpF 22 pc ra rb imm):=jmpF_U _ _ _ _ _ ua
 go_still_tail 11,(by kernel_rfl)
 change wpList _ _ _ _ _ w8.drew
 have hx1:at_*31+6+A≠at_*31+5:=by omega
 have hx2:at_*31+5≠at_*31+6+A:=by omega
 go_wp2_with fail
 go_ret
 have h7:=(HC.out.bel (K4.out.tr K8.out)).setReg HNE.out A hA (u64 (pc+4)) (U_u64 _)
 have h8:=h7.setPc HNE.out (jmpF 22 pc ra rb imm) hju
 have kd:Keep (λ_=>False) ((w8.setCell ⟨b,at_*31+6+A,none⟩ (.int .u64 (u64 (pc+4)))).setCell ⟨b,at_*31+5,none⟩ (.int .u64 (jmpF 22 pc ra rb imm))) ((w8.setCell ⟨b,at_*31+6+A,none⟩ (.int .u64 (u64 (pc+4)))).setCell ⟨b,at_*31+5,none⟩ (.int .u64 (jmpF 22 pc ra rb imm))).drew:=Keep.of_bel _ (Bel.drew (Bel.refl _))
 rw[HRA.out,HRB.out,HPC.out]
 exact⟨rfl,⟨_,h8.keep kd (λh=>h) (λ_ _ h=>h),((Rest.refl _ _).set _ _ (by omega) (by omega)).set _ _ (by omega) (by omega)⟩,(((Keep.of_bel _ (K4.out.tr K8.out)).tr (ownD_b b _ pv _ _)).tr (ownD_b b _ pv _ _)).tr (kd.mono λ_ h=>h.elim)⟩
theorem stepD_memG (op:Nat) (ho:op=14∨op=15∨op=16∨op=17) (kb b at_ n cap:Nat) (pid:Int) (cs cs2:List Value) (perm:Nat→Option Int) (c c2:Cpu) (pv:Value) (A B:Nat) (imm:Int) (w:World) (hp:ProcAtD w kb b at_ n cap pid cs) (h:DCpu w b (at_*31) cs perm c pv) (hne:pv.ownBlock≠some b) (hA:A<16) (hB:B<16) (hpc2:c2.pc=c.pc) (hr2:Rest (at_*31) cs cs2) (hme:∀W,DCpu W b (at_*31) cs perm c pv→Calls Tryz.prog 101 #[.pointer (some ⟨b,at_*31,none⟩),insR op A B imm] W λe w'=>e=.returned (.bool true)∧DCpu w' b (at_*31) cs2 perm c2 pv∧Keep (OwnD b pv) W w') (hnx:(∀W,DCpu W b (at_*31) cs perm c pv→Calls Tryz.prog 21 #[.pointer (some ⟨b,at_*31,none⟩)] W λe w'=>e=.returned (.tuple #[insR op A B imm,.int .i64 0])∧Bel W w')) :
 Calls Tryz.prog 52 #[.pointer (some ⟨kb,0,none⟩),.int .i64 pid] w λe w'=>StepDRes b (at_*31) cs perm {c2 with pc:=u64 (c.pc+4)} pv w e w':=by
 have hA0:(0:Int)≤A:=by omega
 have hA1:(A:Int)<16:=by omega
 have hB0:(0:Int)≤B:=by omega
 have hB1:(B:Int)<16:=by omega
 have HC:=xh h
 have HP:=xh hp
 have HNX:=xh hnx
 have HNE:=xh hne
 have hat:=hp.lt
 have hfew:=hp.few
 have hat0:¬(at_:Int)<0:=by omega
 have hat1:(0:Int)≤at_:=by omega
 have hat2:(at_:Int)<n:=by omega
 have c5:=hp.row
 have cst:w.cell? ⟨b,at_*31+2,none⟩=some (.int .i64 0):=by rw[h.blk.cell];exact hp.st
 obtain⟨ra,hra⟩:∃ra,c.regs.getD A 0=ra:=⟨_,rfl⟩
 obtain⟨rb,hrb⟩:∃rb,c.regs.getD B 0=rb:=⟨_,rfl⟩
 obtain⟨pc,hpc⟩:∃pc,c.pc=pc:=⟨_,rfl⟩
 have ua:=h.regU A
 have ub:=h.regU B
 rw[hra]at ua
 rw[hrb]at ub
 have HRA:=xh hra
 have HRB:=xh hrb
 have HPC:=xh hpc
 have hwp:IntKind.wrap .u64 (pc+4)=u64 (pc+4):=rfl
 have HAL:Hid (∀W,Calls Tryz.prog 100 #[insR op A B imm,.int .u64 ra,.int .u64 rb] W λe w'=>e=.returned (.tuple #[.int .u64 0,.bool false])∧Bel W w'):=xh λW=>(aluD_any op A B imm ra rb W (by omega) (by omega) ua ub).mono λe w' h=>⟨h.1.trans (by unfold aluR;rw[if_neg (by omega),decide_eq_false (by omega)]),h.2⟩
 have HME:=xh hme
 have HP2:=xh hpc2
 have HR2:=xh hr2
 have ho13:14≤op:=by omega
 have ho14:(14:Int)≤op:=by omega
 have ho17:op≤17:=by omega
 have ho18:(op:Int)≤17:=by omega
 have ho22:((op:Int)==22)=false:=beq_eq_false_iff_ne.2 (by omega)
 have ho24:((op:Int)==24)=false:=beq_eq_false_iff_ne.2 (by omega)
 clear h hp hnx hne hra hrb hpc hat hfew hme hpc2 hr2 ho
 go_enter Tryz.func52,Tryz.ntmps52
 go_upto_region 11 with(first
  | (go_at_call 20;((with_reducible refine Calls.mono (HP.out.call _ (Bel.refl _)) ?_);rintro e2 w2 ⟨rfl,rfl⟩))
  | (go_at_call 21;((with_reducible refine Calls.mono (HNX.out _ HC.out) ?_);rintro e3 w3 ⟨rfl,k3⟩;have H3:=xh k3;clear k3)))
 have k4:Bel w (w3.alloc (.cells #[.int .i64 op,.int .i64 A,.int .i64 B,.int .i64 imm] 89)):=H3.out.ac _
 have BI:Blk (w3.alloc (.cells #[.int .i64 op,.int .i64 A,.int .i64 B,.int .i64 imm] 89)) w3.heap.size [.int .i64 op,.int .i64 A,.int .i64 B,.int .i64 imm] 89:=Blk.new w3 _ _
 have hws:w.heap.size≤w3.heap.size:=H3.out.size
 generalize w3.alloc (.cells #[.int .i64 op,.int .i64 A,.int .i64 B,.int .i64 imm] 89)=w4 at *
 obtain⟨bx,hbx⟩:∃bx,w3.heap.size=bx:=⟨_,rfl⟩
 rw[hbx]at BI hws⊢
 have K4:=xh k4
 have HBI:=xh BI
 have HWS:=xh hws
 have FX:Hid (∀W,Bel w4 W→W.cell? ⟨bx,0,none⟩=some (.int .i64 op)∧W.cell? ⟨bx,1,none⟩=some (.int .i64 A)∧W.cell? ⟨bx,2,none⟩=some (.int .i64 B)∧W.cell? ⟨bx,3,none⟩=some (.int .i64 imm)):=xh λW hW=>⟨(HBI.out.bel hW).cell 0,(HBI.out.bel hW).cell 1,(HBI.out.bel hW).cell 2,(HBI.out.bel hW).cell 3⟩
 have FP:Hid (∀W,Bel w4 W→W.cell? ⟨b,at_*31+5,none⟩=some (.int .u64 pc)∧W.cell? ⟨b,at_*31+6+A,none⟩=some (.int .u64 ra)∧W.cell? ⟨b,at_*31+6+B,none⟩=some (.int .u64 rb)):=xh λW hW=>by
  have h4:=HC.out.bel (K4.out.tr hW)
  refine⟨?_,?_,?_⟩
  ·rw[←HPC.out];exact h4.cell5
  ·rw[←HRA.out];exact h4.cellR A hA
  ·rw[←HRB.out];exact h4.cellR B hB
 clear c5 cst k4 BI hws hbx
 obtain⟨i0,i1,i2,i3⟩:=FX.out w4 (Bel.refl _)
 obtain⟨p5,pA,pB⟩:=FP.out w4 (Bel.refl _)
 go_quiet (fail)
 clear i0 i1 i2 i3 p5 pA pB
 have k5:Bel w4 (w4.drewN nq):=bel_drewN (Bel.refl _) nq
 obtain⟨i0,i1,i2,i3⟩:=FX.out _ k5
 obtain⟨p5,pA,pB⟩:=FP.out _ k5
 generalize w4.drewN nq=w5 at *
 have K5:=xh k5
 clear k5 nq
 go_upto_region 12 with fail
 go_quiet (fail)
 clear i0 i1 i2 i3 p5 pA pB
 have k6:Bel w4 (w5.drewN nq):=bel_drewN K5.out nq
 obtain⟨i0,i1,i2,i3⟩:=FX.out _ k6
 obtain⟨p5,pA,pB⟩:=FP.out _ k6
 generalize w5.drewN nq=w6 at *
 have K6:=xh k6
 clear k6 nq K5 w5
 go_upto_region 22 with(go_at_call 100;((with_reducible refine Calls.mono (HAL.out _) ?_);rintro e7 w7 ⟨rfl,k7⟩;have K7:=xh (K6.out.tr k7);clear i0 i1 i2 i3 p5 pA pB k7;obtain⟨i0,i1,i2,i3⟩:=FX.out _ K7.out;obtain⟨p5,pA,pB⟩:=FP.out _ K7.out))
 go_upto_region 26 with(go_at_call 101;((with_reducible refine Calls.mono (HME.out _ (HC.out.bel (K4.out.tr K7.out))) ?_);rintro e8 w8 ⟨rfl,hd8,hk8⟩;have H8:=xh (And.intro hd8 hk8);clear hd8 hk8))
 clear i0 i1 i2 i3 p5 pA pB
 have p5:w8.cell? ⟨b,at_*31+5,none⟩=some (.int .u64 pc):=by rw[←HPC.out,←HP2.out];exact H8.out.1.cell5
 have fb:∀o,w8.frozen? ⟨b,o,none⟩=false:=H8.out.1.blk.frozen
 go_wp2_with fail
 go_ret
 have h9:=H8.out.1.setPc HNE.out (u64 (pc+4)) (U_u64 _)
 rw[HPC.out]
 exact⟨rfl,⟨_,h9,HR2.out.set _ _ (by omega) (by omega)⟩,((Keep.of_bel _ (K4.out.tr K7.out)).tr H8.out.2).tr (ownD_b b _ pv _ _)⟩
theorem stepD_mem14 (kb b at_ n cap:Nat) (pid:Int) (cs:List Value) (perm:Nat→Option Int) (c:Cpu) (pv:Value) (A B:Nat) (imm:Int) (w:World) (hp:ProcAtD w kb b at_ n cap pid cs) (h:DCpu w b (at_*31) cs perm c pv) (hne:pv.ownBlock≠some b) (hA:A<16) (hB:B<16) (hm:mayB (pagesOf perm c.M) (memA c B imm) 8 4=true) (hnx:(∀W,DCpu W b (at_*31) cs perm c pv→Calls Tryz.prog 21 #[.pointer (some ⟨b,at_*31,none⟩)] W λe w'=>e=.returned (.tuple #[insR 14 A B imm,.int .i64 0])∧Bel W w')) :
 Calls Tryz.prog 52 #[.pointer (some ⟨kb,0,none⟩),.int .i64 pid] w λe w'=>StepDRes b (at_*31) cs perm {{c with regs:=c.regs.set A (numV (bytesAt c.M (memA c B imm) 8))}with pc:=u64 (c.pc+4)} pv w e w':=
 stepD_memG 14 (by omega) kb b at_ n cap pid cs _ perm c {c with regs:=c.regs.set A (numV (bytesAt c.M (memA c B imm) 8))} pv A B imm w hp h hne hA hB rfl ((Rest.refl _ _).set _ _ (by omega) (by omega)) (λW hW=>(memD_load14 b (at_*31) cs perm c pv A B imm W hW hne hA hB hm).mono λ_ _ h=>⟨h.1,h.2.1,h.2.2.mono λ_ hq=>.inl hq⟩) hnx
theorem stepD_mem15 (kb b at_ n cap:Nat) (pid:Int) (cs:List Value) (perm:Nat→Option Int) (c:Cpu) (pv:Value) (A B:Nat) (imm:Int) (w:World) (hp:ProcAtD w kb b at_ n cap pid cs) (h:DCpu w b (at_*31) cs perm c pv) (hne:pv.ownBlock≠some b) (hA:A<16) (hB:B<16) (hm:mayB (pagesOf perm c.M) (memA c B imm) 8 2=true) (hnx:(∀W,DCpu W b (at_*31) cs perm c pv→Calls Tryz.prog 21 #[.pointer (some ⟨b,at_*31,none⟩)] W λe w'=>e=.returned (.tuple #[insR 15 A B imm,.int .i64 0])∧Bel W w')) :
 Calls Tryz.prog 52 #[.pointer (some ⟨kb,0,none⟩),.int .i64 pid] w λe w'=>StepDRes b (at_*31) cs perm {{c with M:=pokeM c.M (memA c B imm).toNat (bytes8F (c.regs.getD A 0))}with pc:=u64 (c.pc+4)} pv w e w':=
 stepD_memG 15 (by omega) kb b at_ n cap pid cs cs perm c {c with M:=pokeM c.M (memA c B imm).toNat (bytes8F (c.regs.getD A 0))} pv A B imm w hp h hne hA hB rfl (Rest.refl _ _) (λW hW=>(memD_store15 b (at_*31) cs perm c pv A B imm W hW hne hA hB hm).mono λ_ _ h=>⟨h.1,h.2.1,h.2.2.mono λ_ hq=>.inr hq⟩) hnx
theorem stepD_mem16 (kb b at_ n cap:Nat) (pid:Int) (cs:List Value) (perm:Nat→Option Int) (c:Cpu) (pv:Value) (A B:Nat) (imm:Int) (w:World) (hp:ProcAtD w kb b at_ n cap pid cs) (h:DCpu w b (at_*31) cs perm c pv) (hne:pv.ownBlock≠some b) (hA:A<16) (hB:B<16) (hm:mayB (pagesOf perm c.M) (memA c B imm) 1 4=true) (hnx:(∀W,DCpu W b (at_*31) cs perm c pv→Calls Tryz.prog 21 #[.pointer (some ⟨b,at_*31,none⟩)] W λe w'=>e=.returned (.tuple #[insR 16 A B imm,.int .i64 0])∧Bel W w')) :
 Calls Tryz.prog 52 #[.pointer (some ⟨kb,0,none⟩),.int .i64 pid] w λe w'=>StepDRes b (at_*31) cs perm {{c with regs:=c.regs.set A (numV (bytesAt c.M (memA c B imm) 1))}with pc:=u64 (c.pc+4)} pv w e w':=
 stepD_memG 16 (by omega) kb b at_ n cap pid cs _ perm c {c with regs:=c.regs.set A (numV (bytesAt c.M (memA c B imm) 1))} pv A B imm w hp h hne hA hB rfl ((Rest.refl _ _).set _ _ (by omega) (by omega)) (λW hW=>(memD_load16 b (at_*31) cs perm c pv A B imm W hW hne hA hB hm).mono λ_ _ h=>⟨h.1,h.2.1,h.2.2.mono λ_ hq=>.inl hq⟩) hnx
theorem stepD_mem17 (kb b at_ n cap:Nat) (pid:Int) (cs:List Value) (perm:Nat→Option Int) (c:Cpu) (pv:Value) (A B:Nat) (imm:Int) (w:World) (hp:ProcAtD w kb b at_ n cap pid cs) (h:DCpu w b (at_*31) cs perm c pv) (hne:pv.ownBlock≠some b) (hA:A<16) (hB:B<16) (hm:mayB (pagesOf perm c.M) (memA c B imm) 1 2=true) (hnx:(∀W,DCpu W b (at_*31) cs perm c pv→Calls Tryz.prog 21 #[.pointer (some ⟨b,at_*31,none⟩)] W λe w'=>e=.returned (.tuple #[insR 17 A B imm,.int .i64 0])∧Bel W w')) :
 Calls Tryz.prog 52 #[.pointer (some ⟨kb,0,none⟩),.int .i64 pid] w λe w'=>StepDRes b (at_*31) cs perm {{c with M:=pokeM c.M (memA c B imm).toNat ((bytes8F (c.regs.getD A 0)).take 1)}with pc:=u64 (c.pc+4)} pv w e w':=
 stepD_memG 17 (by omega) kb b at_ n cap pid cs cs perm c {c with M:=pokeM c.M (memA c B imm).toNat ((bytes8F (c.regs.getD A 0)).take 1)} pv A B imm w hp h hne hA hB rfl (Rest.refl _ _) (λW hW=>(memD_store17 b (at_*31) cs perm c pv A B imm W hW hne hA hB hm).mono λ_ _ h=>⟨h.1,h.2.1,h.2.2.mono λ_ hq=>.inr hq⟩) hnx
theorem nextD_any (b o:Nat) (cs:List Value) (perm:Nat→Option Int) (c:Cpu) (pv:Value) (w:World) (h:DCpu w b o cs perm c pv) :
 Calls Tryz.prog 21 #[.pointer (some ⟨b,o,none⟩)] w λe w'=>e=nextE perm c∧Bel w w':=by
 by_cases hf:fetchB perm c=false
 ·refine(nextD_bad b o pv perm c w h.cell5 h.cell22 h.pgs.rd h.ok h.pc hf).mono ?_
  rintro e w' ⟨rfl,hb⟩
  refine⟨?_,hb⟩
  have hk:nextK perm c=129:=by unfold nextK;rw[if_pos hf]
  unfold nextE
  rw[hk]
  rfl
 ·exact nextD_ok b o pv perm c w h.cell5 h.cell22 h.pgs.rd h.ok h.pc h.mem ((Bool.not_eq_false _).mp hf)
theorem DCpu.ins {w:World} {b o:Nat} {cs:List Value} {perm:Nat→Option Int} {c:Cpu} {pv:Value} (h:DCpu w b o cs perm c pv) (i:Nat):0≤insB c i∧insB c i≤255:=h.mem _
theorem next_ins {perm:Nat→Option Int} {c:Cpu} (hf:¬fetchB perm c=false) (ho:¬(insB c 0<1∨24<insB c 0)):nextE perm c=.returned (.tuple #[insR (opC c) (rA c:Nat) (rB c:Nat) (immC c),.int .i64 0]):=by
 have hk:nextK perm c=0:=by unfold nextK;rw[if_neg hf,if_neg ho]
 unfold nextE
 rw[hk]
 rfl
theorem stepD_go (kb b at_ n cap:Nat) (pid:Int) (cs:List Value) (perm:Nat→Option Int) (c:Cpu) (pv:Value) (w:World) (hp:ProcAtD w kb b at_ n cap pid cs) (h:DCpu w b (at_*31) cs perm c pv) (hne:pv.ownBlock≠some b) (hk:stepK perm c=0) :
 Calls Tryz.prog 52 #[.pointer (some ⟨kb,0,none⟩),.int .i64 pid] w λe w'=>StepDRes b (at_*31) cs perm (stepC c) pv w e w':=by
 have hf:¬fetchB perm c=false:=λe=>by unfold stepK at hk;rw[if_pos e]at hk;cases hk
 have ho:¬(insB c 0<1∨24<insB c 0):=λe=>by unfold stepK at hk;rw[if_neg hf,if_pos e]at hk;cases hk
 have h0:=h.ins 0
 have hop1:1≤opC c:=by unfold opC;omega
 have hop2:opC c≤24:=by unfold opC;omega
 have hA:=rA_lt (h.ins 1)
 have hB:=rB_lt (h.ins 1)
 have hnx:∀W,DCpu W b (at_*31) cs perm c pv→Calls Tryz.prog 21 #[.pointer (some ⟨b,at_*31,none⟩)] W λe w'=>e=.returned (.tuple #[insR (opC c) (rA c:Nat) (rB c:Nat) (immC c),.int .i64 0])∧Bel W w':=λW hW=>by
  have:=nextD_any b (at_*31) cs perm c pv W hW
  rw[next_ins hf ho]at this
  exact this
 obtain⟨op,hop⟩:∃op,opC c=op:=⟨_,rfl⟩
 have hk2:op≠24∧¬(14≤op∧op≤17∧mayB (pagesOf perm c.M) (memA c (rB c) (immC c)) (memN op) (memK op)=false):=by
  unfold stepK at hk
  rw[if_neg hf,if_neg ho,hop]at hk
  refine⟨λe=>(by rw[if_pos e]at hk;cases hk),λe=>?_⟩
  rw[if_neg (by omega),if_pos e]at hk
  cases hk
 rw[hop]at hnx hop1 hop2
 have hm:14≤op→op≤17→mayB (pagesOf perm c.M) (memA c (rB c) (immC c)) (memN op) (memK op)=true:=λh1 h2=>(Bool.not_eq_false _).mp λe=>hk2.2 ⟨h1,h2,e⟩
 have hcases:op=1∨op=2∨op=3∨op=4∨op=5∨op=6∨op=7∨op=8∨op=9∨op=10∨op=11∨op=12∨op=13∨op=14∨op=15∨op=16∨op=17∨op=18∨op=19∨op=20∨op=21∨op=22∨op=23:=by have:=hk2.1;omega
 rcases hcases with rfl|rfl|rfl|rfl|rfl|rfl|rfl|rfl|rfl|rfl|rfl|rfl|rfl|rfl|rfl|rfl|rfl|rfl|rfl|rfl|rfl|rfl|rfl
 ·refine(stepD_alu 1 (by omega) (by omega) kb b at_ n cap pid cs perm c pv (rA c) (rB c) (immC c) w hp h hne hA hB hnx).mono λe w' k=>?_
  unfold stepC
  rw[hop]
  exact k
 ·refine(stepD_alu 2 (by omega) (by omega) kb b at_ n cap pid cs perm c pv (rA c) (rB c) (immC c) w hp h hne hA hB hnx).mono λe w' k=>?_
  unfold stepC
  rw[hop]
  exact k
 ·refine(stepD_alu 3 (by omega) (by omega) kb b at_ n cap pid cs perm c pv (rA c) (rB c) (immC c) w hp h hne hA hB hnx).mono λe w' k=>?_
  unfold stepC
  rw[hop]
  exact k
 ·refine(stepD_alu 4 (by omega) (by omega) kb b at_ n cap pid cs perm c pv (rA c) (rB c) (immC c) w hp h hne hA hB hnx).mono λe w' k=>?_
  unfold stepC
  rw[hop]
  exact k
 ·refine(stepD_alu 5 (by omega) (by omega) kb b at_ n cap pid cs perm c pv (rA c) (rB c) (immC c) w hp h hne hA hB hnx).mono λe w' k=>?_
  unfold stepC
  rw[hop]
  exact k
 ·refine(stepD_alu 6 (by omega) (by omega) kb b at_ n cap pid cs perm c pv (rA c) (rB c) (immC c) w hp h hne hA hB hnx).mono λe w' k=>?_
  unfold stepC
  rw[hop]
  exact k
 ·refine(stepD_alu 7 (by omega) (by omega) kb b at_ n cap pid cs perm c pv (rA c) (rB c) (immC c) w hp h hne hA hB hnx).mono λe w' k=>?_
  unfold stepC
  rw[hop]
  exact k
 ·refine(stepD_alu 8 (by omega) (by omega) kb b at_ n cap pid cs perm c pv (rA c) (rB c) (immC c) w hp h hne hA hB hnx).mono λe w' k=>?_
  unfold stepC
  rw[hop]
  exact k
 ·refine(stepD_alu 9 (by omega) (by omega) kb b at_ n cap pid cs perm c pv (rA c) (rB c) (immC c) w hp h hne hA hB hnx).mono λe w' k=>?_
  unfold stepC
  rw[hop]
  exact k
 ·refine(stepD_alu 10 (by omega) (by omega) kb b at_ n cap pid cs perm c pv (rA c) (rB c) (immC c) w hp h hne hA hB hnx).mono λe w' k=>?_
  unfold stepC
  rw[hop]
  exact k
 ·refine(stepD_alu 11 (by omega) (by omega) kb b at_ n cap pid cs perm c pv (rA c) (rB c) (immC c) w hp h hne hA hB hnx).mono λe w' k=>?_
  unfold stepC
  rw[hop]
  exact k
 ·refine(stepD_alu 12 (by omega) (by omega) kb b at_ n cap pid cs perm c pv (rA c) (rB c) (immC c) w hp h hne hA hB hnx).mono λe w' k=>?_
  unfold stepC
  rw[hop]
  exact k
 ·refine(stepD_alu 13 (by omega) (by omega) kb b at_ n cap pid cs perm c pv (rA c) (rB c) (immC c) w hp h hne hA hB hnx).mono λe w' k=>?_
  unfold stepC
  rw[hop]
  exact k
 ·refine(stepD_mem14 kb b at_ n cap pid cs perm c pv (rA c) (rB c) (immC c) w hp h hne hA hB (hm (by omega) (by omega)) hnx).mono λe w' k=>?_
  unfold stepC
  rw[hop]
  exact k
 ·refine(stepD_mem15 kb b at_ n cap pid cs perm c pv (rA c) (rB c) (immC c) w hp h hne hA hB (hm (by omega) (by omega)) hnx).mono λe w' k=>?_
  unfold stepC
  rw[hop]
  exact k
 ·refine(stepD_mem16 kb b at_ n cap pid cs perm c pv (rA c) (rB c) (immC c) w hp h hne hA hB (hm (by omega) (by omega)) hnx).mono λe w' k=>?_
  unfold stepC
  rw[hop]
  exact k
 ·refine(stepD_mem17 kb b at_ n cap pid cs perm c pv (rA c) (rB c) (immC c) w hp h hne hA hB (hm (by omega) (by omega)) hnx).mono λe w' k=>?_
  unfold stepC
  rw[hop]
  exact k
 ·refine(stepD_br 18 (by omega) kb b at_ n cap pid cs perm c pv (rA c) (rB c) (immC c) w hp h hne hA hB hnx).mono λe w' k=>?_
  unfold stepC
  rw[hop]
  exact k
 ·refine(stepD_br 19 (by omega) kb b at_ n cap pid cs perm c pv (rA c) (rB c) (immC c) w hp h hne hA hB hnx).mono λe w' k=>?_
  unfold stepC
  rw[hop]
  exact k
 ·refine(stepD_br 20 (by omega) kb b at_ n cap pid cs perm c pv (rA c) (rB c) (immC c) w hp h hne hA hB hnx).mono λe w' k=>?_
  unfold stepC
  rw[hop]
  exact k
 ·refine(stepD_br 21 (by omega) kb b at_ n cap pid cs perm c pv (rA c) (rB c) (immC c) w hp h hne hA hB hnx).mono λe w' k=>?_
  unfold stepC
  rw[hop]
  exact k
 ·refine(stepD_br22 kb b at_ n cap pid cs perm c pv (rA c) (rB c) (immC c) w hp h hne hA hB hnx).mono λe w' k=>?_
  unfold stepC
  rw[hop]
  exact k
 ·refine(stepD_br 23 (by omega) kb b at_ n cap pid cs perm c pv (rA c) (rB c) (immC c) w hp h hne hA hB hnx).mono λe w' k=>?_
  unfold stepC
  rw[hop]
  exact k
theorem stepD_trap (kb b at_ n cap:Nat) (pid:Int) (cs:List Value) (perm:Nat→Option Int) (c:Cpu) (pv:Value) (k:Nat) (w:World) (hp:ProcAtD w kb b at_ n cap pid cs) (h:DCpu w b (at_*31) cs perm c pv) (hk:stepK perm c=k) (h2:2≤k)
 (Q:World→Prop) (he:∀W,Bel w W→Calls Tryz.prog 88 #[.pointer (some ⟨kb,0,none⟩),.int .i64 pid,.int .i64 k] W λe w'=>e=.returned (.tuple #[])∧Q w') :
 Calls Tryz.prog 52 #[.pointer (some ⟨kb,0,none⟩),.int .i64 pid] w λe w'=>e=.returned (.int .i64 0)∧Q w':=by
 have hN:=λW (hW:DCpu W b (at_*31) cs perm c pv)=>nextD_any b (at_*31) cs perm c pv W hW
 by_cases hf:fetchB perm c=false
 ·have hk1:k=129:=by rw[←hk];unfold stepK;rw[if_pos hf]
  subst hk1
  have hn:nextK perm c=129:=by unfold nextK;rw[if_pos hf]
  refine stepD_fetch kb b at_ n cap pid cs perm c pv 129 w hp h (by omega) (by omega) (λW hW=>?_) Q he
  have:=hN W hW
  unfold nextE at this
  rw[hn]at this
  exact this
 by_cases ho:insB c 0<1∨24<insB c 0
 ·have hk1:k=130:=by rw[←hk];unfold stepK;rw[if_neg hf,if_pos ho]
  subst hk1
  have hn:nextK perm c=130:=by unfold nextK;rw[if_neg hf,if_pos ho]
  refine stepD_fetch kb b at_ n cap pid cs perm c pv 130 w hp h (by omega) (by omega) (λW hW=>?_) Q he
  have:=hN W hW
  unfold nextE at this
  rw[hn]at this
  exact this
 rw[next_ins hf ho]at hN
 obtain⟨op,hop⟩:∃op,opC c=op:=⟨_,rfl⟩
 have hA:=rA_lt (h.ins 1)
 have hB:=rB_lt (h.ins 1)
 have hk2:k=131∧14≤op∧op≤17∧mayB (pagesOf perm c.M) (memA c (rB c) (immC c)) (memN op) (memK op)=false:=by
  unfold stepK at hk
  rw[if_neg hf,if_neg ho,hop]at hk
  by_cases h24:op=24
  ·rw[if_pos h24]at hk;omega
  ·rw[if_neg h24]at hk
   by_cases hm:14≤op∧op≤17∧mayB (pagesOf perm c.M) (memA c (rB c) (immC c)) (memN op) (memK op)=false
   ·rw[if_pos hm]at hk;exact⟨hk.symm,hm⟩
   ·rw[if_neg hm]at hk;omega
 obtain⟨rfl,h14,h17,hm⟩:=hk2
 rw[hop]at hN
 have hcases:op=14∨op=15∨op=16∨op=17:=by omega
 exact stepD_badG op hcases kb b at_ n cap pid cs perm c pv (rA c) (rB c) (immC c) w hp h hA hB hm hN Q he
theorem stepD_state (kb b at_ n cap:Nat) (pid st:Int) (w:World) (c5:w.cell? ⟨kb,5,none⟩=some (.slice (some ⟨b,0,none⟩) n cap)) (hat:at_<n) (hfew:n≤1000) (hcall:Calls Tryz.prog 20 #[.pointer (some ⟨kb,0,none⟩),.int .i64 pid] w λe w'=>e=.returned (.int .i64 at_)∧w=w')
 (cst:w.cell? ⟨b,at_*31+2,none⟩=some (.int .i64 st)) (hs:st≠0) :
 Calls Tryz.prog 52 #[.pointer (some ⟨kb,0,none⟩),.int .i64 pid] w λe w'=>e=.returned (.int .i64 24)∧Bel w w':=by
 have hat0:¬(at_:Int)<0:=by omega
 have hat1:(0:Int)≤at_:=by omega
 have hat2:(at_:Int)<n:=by omega
 have hne:(st != 0)=true:=bne_iff_ne.2 hs
 have HP:=xh hcall
 clear hcall hat hfew hs
 go_enter Tryz.func52,Tryz.ntmps52
 go_wp2_with (first
  | (go_at_call 20;((with_reducible refine Calls.mono HP.out ?_);rintro e2 w2 ⟨rfl,rfl⟩)))
 go_ret
 exact⟨rfl,Bel.refl _⟩
end Go.Proofs.YtjdaddmjpicflaaGreatDoor
