/- (*CPU).Step walked: Ecall; what makes A of A, B and Imm. -/
import Derived.Deep.RegionHeld3
import Derived.StillTailTactics
import Derived.Test.YtjdaddmjpicflaaGreatDoorP25
set_option linter.unusedVariables false
set_option linter.unusedSimpArgs false
set_option maxRecDepth 100000
set_option maxHeartbeats 16000000
namespace Go.Proofs.YtjdaddmjpicflaaGreatDoor
open Go.RowKit Go.Maps
theorem step_ecall (pb sb:Nat) (perm:Nat→Option Int) (c:Cpu) (rest:List Value) (A B:Nat) (imm:Int) (w:World) (h:CpuAt w pb sb perm c rest) (hA:A<16) (hB:B<16) (hf:FetchOk pb 24 A B imm w) :
 Calls Tryz.prog 139 #[.pointer (some ⟨pb,0,none⟩)] w λe w'=>e=.returned (.tuple #[.bool true,.int .i64 0])∧Bel w w':=by
 have hmf:=makeF
 have hA0:(0:Int)≤A:=by omega
 have hA1:(A:Int)<16:=by omega
 have hB0:(0:Int)≤B:=by omega
 have hB1:(B:Int)<16:=by omega
 have HC:=xh h
 unfold FetchOk at hf
 have HF:=xh hf
 obtain⟨ra,hra⟩:∃ra,c.regs.getD A 0=ra:=⟨_,rfl⟩
 obtain⟨rb,hrb⟩:∃rb,c.regs.getD B 0=rb:=⟨_,rfl⟩
 obtain⟨pc,hpc⟩:∃pc,c.pc=pc:=⟨_,rfl⟩
 have ua:=h.regU A
 have ub:=h.regU B
 have up:=h.pc
 rw[hra]at ua
 rw[hrb]at ub
 rw[hpc]at up
 have HRA:=xh hra
 have HRB:=xh hrb
 have HPC:=xh hpc
 have hwp:IntKind.wrap .u64 (pc+4)=u64 (pc+4):=rfl
 obtain⟨sv,hsv⟩:∃sv,w.heap.size=sv:=⟨_,rfl⟩
 have HSV:=xh hsv
 have hpl:=h.blk.lt
 have hne:pb≠sv:=by omega
 have hne':sv≠pb:=by omega
 clear hf hsv h hra hrb hpc hpl
 go_enter_defers Tryz.func139,Tryz.ntmps139
 go_upto_region 3 with(go_at_call 166;((with_reducible refine Calls.mono (HF.out _ (Bel.start w _)) ?_);rintro e2 w2 ⟨rfl,k2⟩;have H2:=xh k2;clear k2))
 rw[HSV.out]
 have k3:Bel w (w2.alloc (.cells #[.int .u8 24,.int .i64 A,.int .i64 B,.int .i16 imm] 344)):=((Bel.start w _).tr H2.out).ac _
 have BI:Blk (w2.alloc (.cells #[.int .u8 24,.int .i64 A,.int .i64 B,.int .i16 imm] 344)) w2.heap.size [.int .u8 24,.int .i64 A,.int .i64 B,.int .i16 imm] 344:=Blk.new w2 _ _
 have BS:Blk (w2.alloc (.cells #[.int .u8 24,.int .i64 A,.int .i64 B,.int .i16 imm] 344)) sv [.int .i64 0] 3:=by rw[←HSV.out];exact((Blk.new w [.int .i64 0] 3).bel H2.out).alloc _
 have hsb:sv<w2.heap.size:=by have h1:=H2.out.size;have h2:=HSV.out;simp at h1;omega
 generalize w2.alloc (.cells #[.int .u8 24,.int .i64 A,.int .i64 B,.int .i16 imm] 344)=w3 at *
 obtain⟨bx,hbx⟩:∃bx,w2.heap.size=bx:=⟨_,rfl⟩
 rw[hbx]at BI hsb⊢
 have i0:w3.cell? ⟨bx,0,none⟩=some (.int .u8 24):=BI.cell 0
 have i1:w3.cell? ⟨bx,1,none⟩=some (.int .i64 A):=BI.cell 1
 have i2:w3.cell? ⟨bx,2,none⟩=some (.int .i64 B):=BI.cell 2
 have i3:w3.cell? ⟨bx,3,none⟩=some (.int .i16 imm):=BI.cell 3
 have s0:w3.cell? ⟨sv,0,none⟩=some (.int .i64 0):=BS.cell 0
 have sf:w3.frozen? ⟨sv,0,none⟩=false:=BS.frozen 0
 have p0:w3.cell? ⟨pb,0,none⟩=some (.int .u64 pc):=by have:=cell_bel k3 HC.out.c0;rwa [HPC.out]at this
 have pA:w3.cell? ⟨pb,1+A,none⟩=some (.int .u64 ra):=by have:=cell_bel k3 (HC.out.reg A hA);rwa [HRA.out]at this
 have pB:w3.cell? ⟨pb,1+B,none⟩=some (.int .u64 rb):=by have:=cell_bel k3 (HC.out.reg B hB);rwa [HRB.out]at this
 have K3:=xh k3
 have HBI:=xh BI
 have HBS:=xh BS
 have hnb:sv≠bx:=by omega
 have hnb':bx≠sv:=by omega
 clear k3 BI BS hbx H2
 go_quiet (fail)
 have BS:Blk (w3.drewN nq) sv [.int .i64 0] 3:=HBS.out
 have K4:Hid (Bel w (w3.drewN nq)):=xh (bel_drewN K3.out nq)
 replace i0:(w3.drewN nq).cell? ⟨bx,0,none⟩=some (.int .u8 24):=i0
 replace i1:(w3.drewN nq).cell? ⟨bx,1,none⟩=some (.int .i64 A):=i1
 replace i2:(w3.drewN nq).cell? ⟨bx,2,none⟩=some (.int .i64 B):=i2
 replace i3:(w3.drewN nq).cell? ⟨bx,3,none⟩=some (.int .i16 imm):=i3
 replace s0:(w3.drewN nq).cell? ⟨sv,0,none⟩=some (.int .i64 0):=s0
 replace sf:(w3.drewN nq).frozen? ⟨sv,0,none⟩=false:=sf
 replace p0:(w3.drewN nq).cell? ⟨pb,0,none⟩=some (.int .u64 pc):=p0
 replace pA:(w3.drewN nq).cell? ⟨pb,1+A,none⟩=some (.int .u64 ra):=pA
 have HI:Hid (Blk (w3.drewN nq) bx [.int .u8 24,.int .i64 A,.int .i64 B,.int .i16 imm] 344):=xh HBI.out
 generalize w3.drewN nq=w4 at *
 clear pB K3 HBS HBI w3
 have hpx:pb≠bx:=λe=>by have h1:=HC.out.blk.bel K4.out;exact blk_ne h1 HI.out (by decide) e
 have hpx':bx≠pb:=λe=>hpx e.symm
 have pf:∀o,w4.frozen? ⟨pb,o,none⟩=false:=(HC.out.blk.bel K4.out).frozen
 go_wp2_with fail
 refine leaves_cons (f:=165) (args:= #[.pointer (some ⟨sv,0,none⟩)]) (by simp) (by simp[go_sem]) ?_
 refine(catch_none ⟨sv,0,none⟩ _).mono ?_
 rintro e u' w'' ⟨rfl,rfl,rfl⟩
 have hc:(w4.setCell ⟨sv,0,none⟩ (.int .i64 0)).cell? ⟨sv,0,none⟩=some (.int .i64 0):=(BS.setCell (o:=0) (.int .i64 0)).cell 0
 simp[Leaves,settle,results,Tryz.results139,go_sem,hc]
 exact K4.out.store (by show w.heap.size≤sv;rw[HSV.out];exact Nat.le_refl _) _
theorem step_aluG (op f:Nat) (ho:op≤13) (hav:aluV op=.func (.func f) #[] #[]) (hcf:∀(args:Array Value) (W:World),(callFunc f args).run Tryz.prog W=.ok (.enter f args) W) (haf:∀(a b i:Int) (W:World),U a→U b→U i→Calls Tryz.prog f #[.int .u64 a,.int .u64 b,.int .u64 i] W λe w'=>e=.returned (.int .u64 (aluF op a b i))∧W=w') (pb sb:Nat) (perm:Nat→Option Int) (c:Cpu) (rest:List Value) (A B:Nat) (imm:Int) (w:World) (h:CpuAt w pb sb perm c rest) (hA:A<16) (hB:B<16) (hf:FetchOk pb op A B imm w) :
 Calls Tryz.prog 139 #[.pointer (some ⟨pb,0,none⟩)] w λe w'=>e=.returned (.tuple #[.bool false,.int .i64 0])∧CpuAt w' pb sb perm {c with pc:=u64 (c.pc+4),regs:=c.regs.set A (aluF op (c.regs.getD A 0) (c.regs.getD B 0) (u64 imm))} rest∧Keep (Own2 pb sb) w w':=by
 have hmf:=makeF
 have hA0:(0:Int)≤A:=by omega
 have hA1:(A:Int)<16:=by omega
 have hB0:(0:Int)≤B:=by omega
 have hB1:(B:Int)<16:=by omega
 have HC:=xh h
 unfold FetchOk at hf
 have HF:=xh hf
 obtain⟨ra,hra⟩:∃ra,c.regs.getD A 0=ra:=⟨_,rfl⟩
 obtain⟨rb,hrb⟩:∃rb,c.regs.getD B 0=rb:=⟨_,rfl⟩
 obtain⟨pc,hpc⟩:∃pc,c.pc=pc:=⟨_,rfl⟩
 have ua:=h.regU A
 have ub:=h.regU B
 have up:=h.pc
 rw[hra]at ua
 rw[hrb]at ub
 rw[hpc]at up
 have HRA:=xh hra
 have HRB:=xh hrb
 have HPC:=xh hpc
 have HAL:Hid (∀W,Calls Tryz.prog 167 #[.int .u8 op] W λe w'=>e=.returned (.func (.func f) #[] #[])∧W=w'):=xh λW=>hav▸alu_any op (by omega) W
 have HAF:Hid (∀W,Calls Tryz.prog f #[.int .u64 ra,.int .u64 rb,.int .u64 (u64 imm)] W λe w'=>e=.returned (.int .u64 (aluF op ra rb (u64 imm)))∧W=w'):=xh λW=>haf ra rb (u64 imm) W ua ub (U_u64 imm)
 have hfn:∀W,(binOp .neq 346 (.func (.func f) #[] #[]) .nilFunc).run Tryz.prog W=.ok (.bool true) W:=λW=>rfl
 have hwi:IntKind.wrap .u64 imm=u64 imm:=rfl
 have ho24:((op:Int)==24)=false:=beq_eq_false_iff_ne.2 (by omega)
 clear hav haf ho
 have hwp:IntKind.wrap .u64 (pc+4)=u64 (pc+4):=rfl
 obtain⟨sv,hsv⟩:∃sv,w.heap.size=sv:=⟨_,rfl⟩
 have HSV:=xh hsv
 have hpl:=h.blk.lt
 have hne:pb≠sv:=by omega
 have hne':sv≠pb:=by omega
 clear hf hsv h hra hrb hpc hpl
 go_enter_defers Tryz.func139,Tryz.ntmps139
 go_upto_region 3 with(go_at_call 166;((with_reducible refine Calls.mono (HF.out _ (Bel.start w _)) ?_);rintro e2 w2 ⟨rfl,k2⟩;have H2:=xh k2;clear k2))
 rw[HSV.out]
 have k3:Bel w (w2.alloc (.cells #[.int .u8 op,.int .i64 A,.int .i64 B,.int .i16 imm] 344)):=((Bel.start w _).tr H2.out).ac _
 have BI:Blk (w2.alloc (.cells #[.int .u8 op,.int .i64 A,.int .i64 B,.int .i16 imm] 344)) w2.heap.size [.int .u8 op,.int .i64 A,.int .i64 B,.int .i16 imm] 344:=Blk.new w2 _ _
 have BS:Blk (w2.alloc (.cells #[.int .u8 op,.int .i64 A,.int .i64 B,.int .i16 imm] 344)) sv [.int .i64 0] 3:=by rw[←HSV.out];exact((Blk.new w [.int .i64 0] 3).bel H2.out).alloc _
 have hsb:sv<w2.heap.size:=by have h1:=H2.out.size;have h2:=HSV.out;simp at h1;omega
 generalize w2.alloc (.cells #[.int .u8 op,.int .i64 A,.int .i64 B,.int .i16 imm] 344)=w3 at *
 obtain⟨bx,hbx⟩:∃bx,w2.heap.size=bx:=⟨_,rfl⟩
 rw[hbx]at BI hsb⊢
 have i0:w3.cell? ⟨bx,0,none⟩=some (.int .u8 op):=BI.cell 0
 have i1:w3.cell? ⟨bx,1,none⟩=some (.int .i64 A):=BI.cell 1
 have i2:w3.cell? ⟨bx,2,none⟩=some (.int .i64 B):=BI.cell 2
 have i3:w3.cell? ⟨bx,3,none⟩=some (.int .i16 imm):=BI.cell 3
 have s0:w3.cell? ⟨sv,0,none⟩=some (.int .i64 0):=BS.cell 0
 have sf:w3.frozen? ⟨sv,0,none⟩=false:=BS.frozen 0
 have p0:w3.cell? ⟨pb,0,none⟩=some (.int .u64 pc):=by have:=cell_bel k3 HC.out.c0;rwa [HPC.out]at this
 have pA:w3.cell? ⟨pb,1+A,none⟩=some (.int .u64 ra):=by have:=cell_bel k3 (HC.out.reg A hA);rwa [HRA.out]at this
 have pB:w3.cell? ⟨pb,1+B,none⟩=some (.int .u64 rb):=by have:=cell_bel k3 (HC.out.reg B hB);rwa [HRB.out]at this
 have K3:=xh k3
 have HBI:=xh BI
 have HBS:=xh BS
 have hnb:sv≠bx:=by omega
 have hnb':bx≠sv:=by omega
 clear k3 BI BS hbx H2
 go_quiet (fail)
 have BS:Blk (w3.drewN nq) sv [.int .i64 0] 3:=HBS.out
 have K4:Hid (Bel w (w3.drewN nq)):=xh (bel_drewN K3.out nq)
 replace i0:(w3.drewN nq).cell? ⟨bx,0,none⟩=some (.int .u8 op):=i0
 replace i1:(w3.drewN nq).cell? ⟨bx,1,none⟩=some (.int .i64 A):=i1
 replace i2:(w3.drewN nq).cell? ⟨bx,2,none⟩=some (.int .i64 B):=i2
 replace i3:(w3.drewN nq).cell? ⟨bx,3,none⟩=some (.int .i16 imm):=i3
 replace s0:(w3.drewN nq).cell? ⟨sv,0,none⟩=some (.int .i64 0):=s0
 replace sf:(w3.drewN nq).frozen? ⟨sv,0,none⟩=false:=sf
 replace p0:(w3.drewN nq).cell? ⟨pb,0,none⟩=some (.int .u64 pc):=p0
 replace pA:(w3.drewN nq).cell? ⟨pb,1+A,none⟩=some (.int .u64 ra):=pA
 have HI:Hid (Blk (w3.drewN nq) bx [.int .u8 op,.int .i64 A,.int .i64 B,.int .i16 imm] 344):=xh HBI.out
 generalize w3.drewN nq=w4 at *
 clear pB K3 HBS HBI w3
 have hpx:pb≠bx:=λe=>by have h1:=HC.out.blk.bel K4.out;exact blk_ne h1 HI.out (by decide) e
 have hpx':bx≠pb:=λe=>hpx e.symm
 have pf:∀o,w4.frozen? ⟨pb,o,none⟩=false:=(HC.out.blk.bel K4.out).frozen
 go_upto_region 8 with(go_at_call 167;((with_reducible refine Calls.mono (HAL.out _) ?_);rintro e5 w5 ⟨rfl,rfl⟩))
 go_region_held3 (λw'=>w'.cell? ⟨bx,0,none⟩=some (.int .u8 op)∧w'.cell? ⟨bx,1,none⟩=some (.int .i64 A)∧w'.cell? ⟨bx,3,none⟩=some (.int .i16 imm)) (first|(go_keep;done)) (first
  | (go_at_call 167;((with_reducible refine Calls.mono (HAL.out _) ?_);rintro e5 w5 ⟨rfl,rfl⟩))
  | (((with_reducible refine Calls.mono (HAF.out _) ?_);rintro e5 w5 ⟨rfl,rfl⟩)))
 have ha0:1+A≠0:=by omega
 have ha0':0≠1+A:=by omega
 go_wp2_with fail
 refine leaves_cons (f:=165) (args:= #[.pointer (some ⟨sv,0,none⟩)]) (by simp) (by simp[go_sem]) ?_
 refine(catch_none ⟨sv,0,none⟩ _).mono ?_
 rintro e u' w'' ⟨rfl,rfl,rfl⟩
 have h4:=HC.out.bel K4.out
 have h5:=(h4.setReg A hA (aluF op ra rb (u64 imm)) (aluF_U op ra rb _ ua ub (U_u64 imm)) HC.out.ne).setPc (u64 (pc+4)) (U_u64 _)
 have B5:Blk ((w4.setCell ⟨pb,1+A,none⟩ (.int .u64 (aluF op ra rb (u64 imm)))).setCell ⟨pb,0,none⟩ (.int .u64 (u64 (pc+4)))) sv [.int .i64 0] 3:=(BS.setCell_other hne' _).setCell_other hne' _
 have hc:=fin_ret B5 (.int .i64 0)
 rw[HRA.out,HRB.out,HPC.out]
 simp[Leaves,settle,results,Tryz.results139,go_sem,hc]
 exact step_end HC.out K4.out HSV.out ((own_pb pb sb _ _ _).tr (own_pb pb sb _ _ _)) h5 _
theorem step_jr (pb sb:Nat) (perm:Nat→Option Int) (c:Cpu) (rest:List Value) (A B:Nat) (imm:Int) (w:World) (h:CpuAt w pb sb perm c rest) (hA:A<16) (hB:B<16) (hf:FetchOk pb 23 A B imm w) :
 Calls Tryz.prog 139 #[.pointer (some ⟨pb,0,none⟩)] w λe w'=>e=.returned (.tuple #[.bool false,.int .i64 0])∧CpuAt w' pb sb perm {c with pc:=c.regs.getD A 0} rest∧Keep (Own2 pb sb) w w':=by
 have hmf:=makeF
 have hA0:(0:Int)≤A:=by omega
 have hA1:(A:Int)<16:=by omega
 have hB0:(0:Int)≤B:=by omega
 have hB1:(B:Int)<16:=by omega
 have HC:=xh h
 unfold FetchOk at hf
 have HF:=xh hf
 obtain⟨ra,hra⟩:∃ra,c.regs.getD A 0=ra:=⟨_,rfl⟩
 obtain⟨rb,hrb⟩:∃rb,c.regs.getD B 0=rb:=⟨_,rfl⟩
 obtain⟨pc,hpc⟩:∃pc,c.pc=pc:=⟨_,rfl⟩
 have ua:=h.regU A
 have ub:=h.regU B
 have up:=h.pc
 rw[hra]at ua
 rw[hrb]at ub
 rw[hpc]at up
 have HRA:=xh hra
 have HRB:=xh hrb
 have HPC:=xh hpc
 have HAL:Hid (∀W,Calls Tryz.prog 167 #[.int .u8 23] W λe w'=>e=.returned .nilFunc∧W=w'):=xh λW=>alu_any 23 (by decide) W
 have hfn:∀W,(binOp .neq 346 .nilFunc .nilFunc).run Tryz.prog W=.ok (.bool false) W:=λW=>by kernel_rfl
 have hwi:IntKind.wrap .u64 imm=u64 imm:=rfl
 have hwp:IntKind.wrap .u64 (pc+4)=u64 (pc+4):=rfl
 obtain⟨sv,hsv⟩:∃sv,w.heap.size=sv:=⟨_,rfl⟩
 have HSV:=xh hsv
 have hpl:=h.blk.lt
 have hne:pb≠sv:=by omega
 have hne':sv≠pb:=by omega
 clear hf hsv h hra hrb hpc hpl
 go_enter_defers Tryz.func139,Tryz.ntmps139
 go_upto_region 3 with(go_at_call 166;((with_reducible refine Calls.mono (HF.out _ (Bel.start w _)) ?_);rintro e2 w2 ⟨rfl,k2⟩;have H2:=xh k2;clear k2))
 rw[HSV.out]
 have k3:Bel w (w2.alloc (.cells #[.int .u8 23,.int .i64 A,.int .i64 B,.int .i16 imm] 344)):=((Bel.start w _).tr H2.out).ac _
 have BI:Blk (w2.alloc (.cells #[.int .u8 23,.int .i64 A,.int .i64 B,.int .i16 imm] 344)) w2.heap.size [.int .u8 23,.int .i64 A,.int .i64 B,.int .i16 imm] 344:=Blk.new w2 _ _
 have BS:Blk (w2.alloc (.cells #[.int .u8 23,.int .i64 A,.int .i64 B,.int .i16 imm] 344)) sv [.int .i64 0] 3:=by rw[←HSV.out];exact((Blk.new w [.int .i64 0] 3).bel H2.out).alloc _
 have hsb:sv<w2.heap.size:=by have h1:=H2.out.size;have h2:=HSV.out;simp at h1;omega
 generalize w2.alloc (.cells #[.int .u8 23,.int .i64 A,.int .i64 B,.int .i16 imm] 344)=w3 at *
 obtain⟨bx,hbx⟩:∃bx,w2.heap.size=bx:=⟨_,rfl⟩
 rw[hbx]at BI hsb⊢
 have i0:w3.cell? ⟨bx,0,none⟩=some (.int .u8 23):=BI.cell 0
 have i1:w3.cell? ⟨bx,1,none⟩=some (.int .i64 A):=BI.cell 1
 have i2:w3.cell? ⟨bx,2,none⟩=some (.int .i64 B):=BI.cell 2
 have i3:w3.cell? ⟨bx,3,none⟩=some (.int .i16 imm):=BI.cell 3
 have s0:w3.cell? ⟨sv,0,none⟩=some (.int .i64 0):=BS.cell 0
 have sf:w3.frozen? ⟨sv,0,none⟩=false:=BS.frozen 0
 have p0:w3.cell? ⟨pb,0,none⟩=some (.int .u64 pc):=by have:=cell_bel k3 HC.out.c0;rwa [HPC.out]at this
 have pA:w3.cell? ⟨pb,1+A,none⟩=some (.int .u64 ra):=by have:=cell_bel k3 (HC.out.reg A hA);rwa [HRA.out]at this
 have pB:w3.cell? ⟨pb,1+B,none⟩=some (.int .u64 rb):=by have:=cell_bel k3 (HC.out.reg B hB);rwa [HRB.out]at this
 have K3:=xh k3
 have HBI:=xh BI
 have HBS:=xh BS
 have hnb:sv≠bx:=by omega
 have hnb':bx≠sv:=by omega
 clear k3 BI BS hbx H2
 go_quiet (fail)
 have BS:Blk (w3.drewN nq) sv [.int .i64 0] 3:=HBS.out
 have K4:Hid (Bel w (w3.drewN nq)):=xh (bel_drewN K3.out nq)
 replace i0:(w3.drewN nq).cell? ⟨bx,0,none⟩=some (.int .u8 23):=i0
 replace i1:(w3.drewN nq).cell? ⟨bx,1,none⟩=some (.int .i64 A):=i1
 replace i2:(w3.drewN nq).cell? ⟨bx,2,none⟩=some (.int .i64 B):=i2
 replace i3:(w3.drewN nq).cell? ⟨bx,3,none⟩=some (.int .i16 imm):=i3
 replace s0:(w3.drewN nq).cell? ⟨sv,0,none⟩=some (.int .i64 0):=s0
 replace sf:(w3.drewN nq).frozen? ⟨sv,0,none⟩=false:=sf
 replace p0:(w3.drewN nq).cell? ⟨pb,0,none⟩=some (.int .u64 pc):=p0
 replace pA:(w3.drewN nq).cell? ⟨pb,1+A,none⟩=some (.int .u64 ra):=pA
 have HI:Hid (Blk (w3.drewN nq) bx [.int .u8 23,.int .i64 A,.int .i64 B,.int .i16 imm] 344):=xh HBI.out
 generalize w3.drewN nq=w4 at *
 clear pB K3 HBS HBI w3
 have hpx:pb≠bx:=λe=>by have h1:=HC.out.blk.bel K4.out;exact blk_ne h1 HI.out (by decide) e
 have hpx':bx≠pb:=λe=>hpx e.symm
 have pf:∀o,w4.frozen? ⟨pb,o,none⟩=false:=(HC.out.blk.bel K4.out).frozen
 go_wp2_with (go_at_call 167;((with_reducible refine Calls.mono (HAL.out _) ?_);rintro e5 w5 ⟨rfl,rfl⟩))
 refine leaves_cons (f:=165) (args:= #[.pointer (some ⟨sv,0,none⟩)]) (by simp) (by simp[go_sem]) ?_
 refine(catch_none ⟨sv,0,none⟩ _).mono ?_
 rintro e u' w'' ⟨rfl,rfl,rfl⟩
 have h4:=HC.out.bel K4.out
 have h5:=h4.setPc ra ua
 have hc:=fin_ret0 (BS.setCell_other (a:=⟨pb,0,none⟩) hne' (.int .u64 ra)) (.int .i64 0)
 rw[HRA.out]
 simp[Leaves,settle,results,Tryz.results139,go_sem,hc]
 exact step_end0 HC.out K4.out HSV.out (own_pb pb sb _ _ _) h5 _
theorem step_brGt (op f:Nat) (ho:op=18∨op=19∨op=20∨op=21) (hav:aluV op=.nilFunc) (hbv:brV op=.func (.func f) #[] #[]) (hcf:∀(args:Array Value) (W:World),(callFunc f args).run Tryz.prog W=.ok (.enter f args) W) (haf:∀(a b:Int) (W:World),U a→U b→Calls Tryz.prog f #[.int .u64 a,.int .u64 b] W λe w'=>e=.returned (.bool (brF op a b))∧W=w') (pb sb:Nat) (perm:Nat→Option Int) (c:Cpu) (rest:List Value) (A B:Nat) (imm:Int) (w:World) (h:CpuAt w pb sb perm c rest) (hA:A<16) (hB:B<16) (hb:brF op (c.regs.getD A 0) (c.regs.getD B 0)=true) (hf:FetchOk pb op A B imm w) :
 Calls Tryz.prog 139 #[.pointer (some ⟨pb,0,none⟩)] w λe w'=>e=.returned (.tuple #[.bool false,.int .i64 0])∧CpuAt w' pb sb perm {c with pc:=u64 (c.pc+u64 imm),regs:=c.regs} rest∧Keep (Own2 pb sb) w w':=by
 have hmf:=makeF
 have hA0:(0:Int)≤A:=by omega
 have hA1:(A:Int)<16:=by omega
 have hB0:(0:Int)≤B:=by omega
 have hB1:(B:Int)<16:=by omega
 have HC:=xh h
 unfold FetchOk at hf
 have HF:=xh hf
 obtain⟨ra,hra⟩:∃ra,c.regs.getD A 0=ra:=⟨_,rfl⟩
 obtain⟨rb,hrb⟩:∃rb,c.regs.getD B 0=rb:=⟨_,rfl⟩
 obtain⟨pc,hpc⟩:∃pc,c.pc=pc:=⟨_,rfl⟩
 have ua:=h.regU A
 have ub:=h.regU B
 have up:=h.pc
 rw[hra]at ua
 rw[hrb]at ub
 rw[hpc]at up
 have HRA:=xh hra
 have HRB:=xh hrb
 have HPC:=xh hpc
 have HAL:Hid (∀W,Calls Tryz.prog 167 #[.int .u8 op] W λe w'=>e=.returned .nilFunc∧W=w'):=xh λW=>hav▸alu_any op (by omega) W
 have hfn:∀W,(binOp .neq 346 .nilFunc .nilFunc).run Tryz.prog W=.ok (.bool false) W:=λW=>rfl
 have hwi:IntKind.wrap .u64 imm=u64 imm:=rfl
 have ho22:((op:Int)==22)=false:=beq_eq_false_iff_ne.2 (by omega)
 have ho23:((op:Int)==23)=false:=beq_eq_false_iff_ne.2 (by omega)
 have ho24:((op:Int)==24)=false:=beq_eq_false_iff_ne.2 (by omega)
 have HBR:Hid (∀W,Calls Tryz.prog 168 #[.int .u8 op] W λe w'=>e=.returned (.func (.func f) #[] #[])∧W=w'):=xh λW=>hbv▸branch_any op (by omega) W
 have hbn:∀W,(binOp .neq 348 (.func (.func f) #[] #[]) .nilFunc).run Tryz.prog W=.ok (.bool true) W:=λW=>rfl
 have hbf:∀W,Calls Tryz.prog f #[.int .u64 ra,.int .u64 rb] W λe w'=>e=.returned (.bool (brF op ra rb))∧W=w':=λW=>haf ra rb W ua ub
 rw[hra,hrb]at hb
 rw[hb]at hbf
 have HBF:=xh hbf
 clear hbf hb hav hbv haf ho
 have hwf:IntKind.wrap .u64 (pc+u64 imm)=u64 (pc+u64 imm):=rfl
 have hwp:IntKind.wrap .u64 (pc+4)=u64 (pc+4):=rfl
 obtain⟨sv,hsv⟩:∃sv,w.heap.size=sv:=⟨_,rfl⟩
 have HSV:=xh hsv
 have hpl:=h.blk.lt
 have hne:pb≠sv:=by omega
 have hne':sv≠pb:=by omega
 clear hf hsv h hra hrb hpc hpl
 go_enter_defers Tryz.func139,Tryz.ntmps139
 go_upto_region 3 with(go_at_call 166;((with_reducible refine Calls.mono (HF.out _ (Bel.start w _)) ?_);rintro e2 w2 ⟨rfl,k2⟩;have H2:=xh k2;clear k2))
 rw[HSV.out]
 have k3:Bel w (w2.alloc (.cells #[.int .u8 op,.int .i64 A,.int .i64 B,.int .i16 imm] 344)):=((Bel.start w _).tr H2.out).ac _
 have BI:Blk (w2.alloc (.cells #[.int .u8 op,.int .i64 A,.int .i64 B,.int .i16 imm] 344)) w2.heap.size [.int .u8 op,.int .i64 A,.int .i64 B,.int .i16 imm] 344:=Blk.new w2 _ _
 have BS:Blk (w2.alloc (.cells #[.int .u8 op,.int .i64 A,.int .i64 B,.int .i16 imm] 344)) sv [.int .i64 0] 3:=by rw[←HSV.out];exact((Blk.new w [.int .i64 0] 3).bel H2.out).alloc _
 have hsb:sv<w2.heap.size:=by have h1:=H2.out.size;have h2:=HSV.out;simp at h1;omega
 generalize w2.alloc (.cells #[.int .u8 op,.int .i64 A,.int .i64 B,.int .i16 imm] 344)=w3 at *
 obtain⟨bx,hbx⟩:∃bx,w2.heap.size=bx:=⟨_,rfl⟩
 rw[hbx]at BI hsb⊢
 have i0:w3.cell? ⟨bx,0,none⟩=some (.int .u8 op):=BI.cell 0
 have i1:w3.cell? ⟨bx,1,none⟩=some (.int .i64 A):=BI.cell 1
 have i2:w3.cell? ⟨bx,2,none⟩=some (.int .i64 B):=BI.cell 2
 have i3:w3.cell? ⟨bx,3,none⟩=some (.int .i16 imm):=BI.cell 3
 have s0:w3.cell? ⟨sv,0,none⟩=some (.int .i64 0):=BS.cell 0
 have sf:w3.frozen? ⟨sv,0,none⟩=false:=BS.frozen 0
 have p0:w3.cell? ⟨pb,0,none⟩=some (.int .u64 pc):=by have:=cell_bel k3 HC.out.c0;rwa [HPC.out]at this
 have pA:w3.cell? ⟨pb,1+A,none⟩=some (.int .u64 ra):=by have:=cell_bel k3 (HC.out.reg A hA);rwa [HRA.out]at this
 have pB:w3.cell? ⟨pb,1+B,none⟩=some (.int .u64 rb):=by have:=cell_bel k3 (HC.out.reg B hB);rwa [HRB.out]at this
 have K3:=xh k3
 have HBI:=xh BI
 have HBS:=xh BS
 have hnb:sv≠bx:=by omega
 have hnb':bx≠sv:=by omega
 clear k3 BI BS hbx H2
 go_quiet (fail)
 have BS:Blk (w3.drewN nq) sv [.int .i64 0] 3:=HBS.out
 have K4:Hid (Bel w (w3.drewN nq)):=xh (bel_drewN K3.out nq)
 replace i0:(w3.drewN nq).cell? ⟨bx,0,none⟩=some (.int .u8 op):=i0
 replace i1:(w3.drewN nq).cell? ⟨bx,1,none⟩=some (.int .i64 A):=i1
 replace i2:(w3.drewN nq).cell? ⟨bx,2,none⟩=some (.int .i64 B):=i2
 replace i3:(w3.drewN nq).cell? ⟨bx,3,none⟩=some (.int .i16 imm):=i3
 replace s0:(w3.drewN nq).cell? ⟨sv,0,none⟩=some (.int .i64 0):=s0
 replace sf:(w3.drewN nq).frozen? ⟨sv,0,none⟩=false:=sf
 replace p0:(w3.drewN nq).cell? ⟨pb,0,none⟩=some (.int .u64 pc):=p0
 replace pA:(w3.drewN nq).cell? ⟨pb,1+A,none⟩=some (.int .u64 ra):=pA
 have HI:Hid (Blk (w3.drewN nq) bx [.int .u8 op,.int .i64 A,.int .i64 B,.int .i16 imm] 344):=xh HBI.out
 generalize w3.drewN nq=w4 at *
 clear pB K3 HBS HBI w3
 have hpx:pb≠bx:=λe=>by have h1:=HC.out.blk.bel K4.out;exact blk_ne h1 HI.out (by decide) e
 have hpx':bx≠pb:=λe=>hpx e.symm
 have pf:∀o,w4.frozen? ⟨pb,o,none⟩=false:=(HC.out.blk.bel K4.out).frozen
 go_wp2_with (first
  | (go_at_call 167;((with_reducible refine Calls.mono (HAL.out _) ?_);rintro e5 w5 ⟨rfl,rfl⟩))
  | (go_at_call 168;((with_reducible refine Calls.mono (HBR.out _) ?_);rintro e5 w5 ⟨rfl,rfl⟩))
  | (((with_reducible refine Calls.mono (HBF.out _) ?_);rintro e5 w5 ⟨rfl,rfl⟩)))
 refine leaves_cons (f:=165) (args:= #[.pointer (some ⟨sv,0,none⟩)]) (by simp) (by simp[go_sem]) ?_
 refine(catch_none ⟨sv,0,none⟩ _).mono ?_
 rintro e u' w'' ⟨rfl,rfl,rfl⟩
 have h4:=HC.out.bel K4.out
 have h5:=(h4.setPc (u64 (pc+4)) (U_u64 _)).setPc (u64 (pc+u64 imm)) (U_u64 _)
 have B5:Blk ((w4.setCell ⟨pb,0,none⟩ (.int .u64 (u64 (pc+4)))).setCell ⟨pb,0,none⟩ (.int .u64 (u64 (pc+u64 imm)))) sv [.int .i64 0] 3:=(BS.setCell_other (a:=⟨pb,0,none⟩) hne' _).setCell_other (a:=⟨pb,0,none⟩) hne' _
 have hc:=fin_ret0 B5 (.int .i64 0)
 rw[HPC.out]
 simp[Leaves,settle,results,Tryz.results139,go_sem,hc]
 exact step_end0 HC.out K4.out HSV.out ((own_pb pb sb _ _ _).tr (own_pb pb sb _ _ _)) h5 _
theorem step_brGf (op f:Nat) (ho:op=18∨op=19∨op=20∨op=21) (hav:aluV op=.nilFunc) (hbv:brV op=.func (.func f) #[] #[]) (hcf:∀(args:Array Value) (W:World),(callFunc f args).run Tryz.prog W=.ok (.enter f args) W) (haf:∀(a b:Int) (W:World),U a→U b→Calls Tryz.prog f #[.int .u64 a,.int .u64 b] W λe w'=>e=.returned (.bool (brF op a b))∧W=w') (pb sb:Nat) (perm:Nat→Option Int) (c:Cpu) (rest:List Value) (A B:Nat) (imm:Int) (w:World) (h:CpuAt w pb sb perm c rest) (hA:A<16) (hB:B<16) (hb:brF op (c.regs.getD A 0) (c.regs.getD B 0)=false) (hf:FetchOk pb op A B imm w) :
 Calls Tryz.prog 139 #[.pointer (some ⟨pb,0,none⟩)] w λe w'=>e=.returned (.tuple #[.bool false,.int .i64 0])∧CpuAt w' pb sb perm {c with pc:=u64 (c.pc+4),regs:=c.regs} rest∧Keep (Own2 pb sb) w w':=by
 have hmf:=makeF
 have hA0:(0:Int)≤A:=by omega
 have hA1:(A:Int)<16:=by omega
 have hB0:(0:Int)≤B:=by omega
 have hB1:(B:Int)<16:=by omega
 have HC:=xh h
 unfold FetchOk at hf
 have HF:=xh hf
 obtain⟨ra,hra⟩:∃ra,c.regs.getD A 0=ra:=⟨_,rfl⟩
 obtain⟨rb,hrb⟩:∃rb,c.regs.getD B 0=rb:=⟨_,rfl⟩
 obtain⟨pc,hpc⟩:∃pc,c.pc=pc:=⟨_,rfl⟩
 have ua:=h.regU A
 have ub:=h.regU B
 have up:=h.pc
 rw[hra]at ua
 rw[hrb]at ub
 rw[hpc]at up
 have HRA:=xh hra
 have HRB:=xh hrb
 have HPC:=xh hpc
 have HAL:Hid (∀W,Calls Tryz.prog 167 #[.int .u8 op] W λe w'=>e=.returned .nilFunc∧W=w'):=xh λW=>hav▸alu_any op (by omega) W
 have hfn:∀W,(binOp .neq 346 .nilFunc .nilFunc).run Tryz.prog W=.ok (.bool false) W:=λW=>rfl
 have hwi:IntKind.wrap .u64 imm=u64 imm:=rfl
 have ho22:((op:Int)==22)=false:=beq_eq_false_iff_ne.2 (by omega)
 have ho23:((op:Int)==23)=false:=beq_eq_false_iff_ne.2 (by omega)
 have ho24:((op:Int)==24)=false:=beq_eq_false_iff_ne.2 (by omega)
 have HBR:Hid (∀W,Calls Tryz.prog 168 #[.int .u8 op] W λe w'=>e=.returned (.func (.func f) #[] #[])∧W=w'):=xh λW=>hbv▸branch_any op (by omega) W
 have hbn:∀W,(binOp .neq 348 (.func (.func f) #[] #[]) .nilFunc).run Tryz.prog W=.ok (.bool true) W:=λW=>rfl
 have hbf:∀W,Calls Tryz.prog f #[.int .u64 ra,.int .u64 rb] W λe w'=>e=.returned (.bool (brF op ra rb))∧W=w':=λW=>haf ra rb W ua ub
 rw[hra,hrb]at hb
 rw[hb]at hbf
 have HBF:=xh hbf
 clear hbf hb hav hbv haf ho
 have hwf:IntKind.wrap .u64 (pc+u64 imm)=u64 (pc+u64 imm):=rfl
 have hwp:IntKind.wrap .u64 (pc+4)=u64 (pc+4):=rfl
 obtain⟨sv,hsv⟩:∃sv,w.heap.size=sv:=⟨_,rfl⟩
 have HSV:=xh hsv
 have hpl:=h.blk.lt
 have hne:pb≠sv:=by omega
 have hne':sv≠pb:=by omega
 clear hf hsv h hra hrb hpc hpl
 go_enter_defers Tryz.func139,Tryz.ntmps139
 go_upto_region 3 with(go_at_call 166;((with_reducible refine Calls.mono (HF.out _ (Bel.start w _)) ?_);rintro e2 w2 ⟨rfl,k2⟩;have H2:=xh k2;clear k2))
 rw[HSV.out]
 have k3:Bel w (w2.alloc (.cells #[.int .u8 op,.int .i64 A,.int .i64 B,.int .i16 imm] 344)):=((Bel.start w _).tr H2.out).ac _
 have BI:Blk (w2.alloc (.cells #[.int .u8 op,.int .i64 A,.int .i64 B,.int .i16 imm] 344)) w2.heap.size [.int .u8 op,.int .i64 A,.int .i64 B,.int .i16 imm] 344:=Blk.new w2 _ _
 have BS:Blk (w2.alloc (.cells #[.int .u8 op,.int .i64 A,.int .i64 B,.int .i16 imm] 344)) sv [.int .i64 0] 3:=by rw[←HSV.out];exact((Blk.new w [.int .i64 0] 3).bel H2.out).alloc _
 have hsb:sv<w2.heap.size:=by have h1:=H2.out.size;have h2:=HSV.out;simp at h1;omega
 generalize w2.alloc (.cells #[.int .u8 op,.int .i64 A,.int .i64 B,.int .i16 imm] 344)=w3 at *
 obtain⟨bx,hbx⟩:∃bx,w2.heap.size=bx:=⟨_,rfl⟩
 rw[hbx]at BI hsb⊢
 have i0:w3.cell? ⟨bx,0,none⟩=some (.int .u8 op):=BI.cell 0
 have i1:w3.cell? ⟨bx,1,none⟩=some (.int .i64 A):=BI.cell 1
 have i2:w3.cell? ⟨bx,2,none⟩=some (.int .i64 B):=BI.cell 2
 have i3:w3.cell? ⟨bx,3,none⟩=some (.int .i16 imm):=BI.cell 3
 have s0:w3.cell? ⟨sv,0,none⟩=some (.int .i64 0):=BS.cell 0
 have sf:w3.frozen? ⟨sv,0,none⟩=false:=BS.frozen 0
 have p0:w3.cell? ⟨pb,0,none⟩=some (.int .u64 pc):=by have:=cell_bel k3 HC.out.c0;rwa [HPC.out]at this
 have pA:w3.cell? ⟨pb,1+A,none⟩=some (.int .u64 ra):=by have:=cell_bel k3 (HC.out.reg A hA);rwa [HRA.out]at this
 have pB:w3.cell? ⟨pb,1+B,none⟩=some (.int .u64 rb):=by have:=cell_bel k3 (HC.out.reg B hB);rwa [HRB.out]at this
 have K3:=xh k3
 have HBI:=xh BI
 have HBS:=xh BS
 have hnb:sv≠bx:=by omega
 have hnb':bx≠sv:=by omega
 clear k3 BI BS hbx H2
 go_quiet (fail)
 have BS:Blk (w3.drewN nq) sv [.int .i64 0] 3:=HBS.out
 have K4:Hid (Bel w (w3.drewN nq)):=xh (bel_drewN K3.out nq)
 replace i0:(w3.drewN nq).cell? ⟨bx,0,none⟩=some (.int .u8 op):=i0
 replace i1:(w3.drewN nq).cell? ⟨bx,1,none⟩=some (.int .i64 A):=i1
 replace i2:(w3.drewN nq).cell? ⟨bx,2,none⟩=some (.int .i64 B):=i2
 replace i3:(w3.drewN nq).cell? ⟨bx,3,none⟩=some (.int .i16 imm):=i3
 replace s0:(w3.drewN nq).cell? ⟨sv,0,none⟩=some (.int .i64 0):=s0
 replace sf:(w3.drewN nq).frozen? ⟨sv,0,none⟩=false:=sf
 replace p0:(w3.drewN nq).cell? ⟨pb,0,none⟩=some (.int .u64 pc):=p0
 replace pA:(w3.drewN nq).cell? ⟨pb,1+A,none⟩=some (.int .u64 ra):=pA
 have HI:Hid (Blk (w3.drewN nq) bx [.int .u8 op,.int .i64 A,.int .i64 B,.int .i16 imm] 344):=xh HBI.out
 generalize w3.drewN nq=w4 at *
 clear pB K3 HBS HBI w3
 have hpx:pb≠bx:=λe=>by have h1:=HC.out.blk.bel K4.out;exact blk_ne h1 HI.out (by decide) e
 have hpx':bx≠pb:=λe=>hpx e.symm
 have pf:∀o,w4.frozen? ⟨pb,o,none⟩=false:=(HC.out.blk.bel K4.out).frozen
 go_wp2_with (first
  | (go_at_call 167;((with_reducible refine Calls.mono (HAL.out _) ?_);rintro e5 w5 ⟨rfl,rfl⟩))
  | (go_at_call 168;((with_reducible refine Calls.mono (HBR.out _) ?_);rintro e5 w5 ⟨rfl,rfl⟩))
  | (((with_reducible refine Calls.mono (HBF.out _) ?_);rintro e5 w5 ⟨rfl,rfl⟩)))
 refine leaves_cons (f:=165) (args:= #[.pointer (some ⟨sv,0,none⟩)]) (by simp) (by simp[go_sem]) ?_
 refine(catch_none ⟨sv,0,none⟩ _).mono ?_
 rintro e u' w'' ⟨rfl,rfl,rfl⟩
 have h4:=HC.out.bel K4.out
 have h5:=h4.setPc (u64 (pc+4)) (U_u64 _)
 have B5:Blk (w4.setCell ⟨pb,0,none⟩ (.int .u64 (u64 (pc+4)))) sv [.int .i64 0] 3:=BS.setCell_other (a:=⟨pb,0,none⟩) hne' _
 have hc:=fin_ret0 B5 (.int .i64 0)
 rw[HPC.out]
 simp[Leaves,settle,results,Tryz.results139,go_sem,hc]
 exact step_end0 HC.out K4.out HSV.out (own_pb pb sb _ _ _) h5 _
theorem step_br22t (pb sb:Nat) (perm:Nat→Option Int) (c:Cpu) (rest:List Value) (A B:Nat) (imm:Int) (w:World) (h:CpuAt w pb sb perm c rest) (hA:A<16) (hB:B<16) (hb:brF 22 (c.regs.getD A 0) (c.regs.getD B 0)=true) (hf:FetchOk pb 22 A B imm w) :
 Calls Tryz.prog 139 #[.pointer (some ⟨pb,0,none⟩)] w λe w'=>e=.returned (.tuple #[.bool false,.int .i64 0])∧CpuAt w' pb sb perm {c with pc:=u64 (c.pc+u64 imm),regs:=c.regs.set A (u64 (c.pc+4))} rest∧Keep (Own2 pb sb) w w':=by
 have hmf:=makeF
 have hA0:(0:Int)≤A:=by omega
 have hA1:(A:Int)<16:=by omega
 have hB0:(0:Int)≤B:=by omega
 have hB1:(B:Int)<16:=by omega
 have HC:=xh h
 unfold FetchOk at hf
 have HF:=xh hf
 obtain⟨ra,hra⟩:∃ra,c.regs.getD A 0=ra:=⟨_,rfl⟩
 obtain⟨rb,hrb⟩:∃rb,c.regs.getD B 0=rb:=⟨_,rfl⟩
 obtain⟨pc,hpc⟩:∃pc,c.pc=pc:=⟨_,rfl⟩
 have ua:=h.regU A
 have ub:=h.regU B
 have up:=h.pc
 rw[hra]at ua
 rw[hrb]at ub
 rw[hpc]at up
 have HRA:=xh hra
 have HRB:=xh hrb
 have HPC:=xh hpc
 have HAL:Hid (∀W,Calls Tryz.prog 167 #[.int .u8 22] W λe w'=>e=.returned .nilFunc∧W=w'):=xh λW=>alu_any 22 (by decide) W
 have hfn:∀W,(binOp .neq 346 .nilFunc .nilFunc).run Tryz.prog W=.ok (.bool false) W:=λW=>by kernel_rfl
 have hwi:IntKind.wrap .u64 imm=u64 imm:=rfl
 have HBR:Hid (∀W,Calls Tryz.prog 168 #[.int .u8 22] W λe w'=>e=.returned (.func (.func 224) #[] #[])∧W=w'):=xh λW=>branch_any 22 (by decide) W
 have hbn:∀W,(binOp .neq 348 (.func (.func 224) #[] #[]) .nilFunc).run Tryz.prog W=.ok (.bool true) W:=λW=>by kernel_rfl
 have hbf:∀W,Calls Tryz.prog 224 #[.int .u64 ra,.int .u64 rb] W λe w'=>e=.returned (.bool (brF 22 ra rb))∧W=w':=λW=>br5_any ra rb W ua ub
 rw[hra,hrb]at hb
 rw[hb]at hbf
 have HBF:=xh hbf
 clear hbf hb
 have hwf:IntKind.wrap .u64 (pc+u64 imm)=u64 (pc+u64 imm):=rfl
 have hwp:IntKind.wrap .u64 (pc+4)=u64 (pc+4):=rfl
 obtain⟨sv,hsv⟩:∃sv,w.heap.size=sv:=⟨_,rfl⟩
 have HSV:=xh hsv
 have hpl:=h.blk.lt
 have hne:pb≠sv:=by omega
 have hne':sv≠pb:=by omega
 clear hf hsv h hra hrb hpc hpl
 go_enter_defers Tryz.func139,Tryz.ntmps139
 go_upto_region 3 with(go_at_call 166;((with_reducible refine Calls.mono (HF.out _ (Bel.start w _)) ?_);rintro e2 w2 ⟨rfl,k2⟩;have H2:=xh k2;clear k2))
 rw[HSV.out]
 have k3:Bel w (w2.alloc (.cells #[.int .u8 22,.int .i64 A,.int .i64 B,.int .i16 imm] 344)):=((Bel.start w _).tr H2.out).ac _
 have BI:Blk (w2.alloc (.cells #[.int .u8 22,.int .i64 A,.int .i64 B,.int .i16 imm] 344)) w2.heap.size [.int .u8 22,.int .i64 A,.int .i64 B,.int .i16 imm] 344:=Blk.new w2 _ _
 have BS:Blk (w2.alloc (.cells #[.int .u8 22,.int .i64 A,.int .i64 B,.int .i16 imm] 344)) sv [.int .i64 0] 3:=by rw[←HSV.out];exact((Blk.new w [.int .i64 0] 3).bel H2.out).alloc _
 have hsb:sv<w2.heap.size:=by have h1:=H2.out.size;have h2:=HSV.out;simp at h1;omega
 generalize w2.alloc (.cells #[.int .u8 22,.int .i64 A,.int .i64 B,.int .i16 imm] 344)=w3 at *
 obtain⟨bx,hbx⟩:∃bx,w2.heap.size=bx:=⟨_,rfl⟩
 rw[hbx]at BI hsb⊢
 have i0:w3.cell? ⟨bx,0,none⟩=some (.int .u8 22):=BI.cell 0
 have i1:w3.cell? ⟨bx,1,none⟩=some (.int .i64 A):=BI.cell 1
 have i2:w3.cell? ⟨bx,2,none⟩=some (.int .i64 B):=BI.cell 2
 have i3:w3.cell? ⟨bx,3,none⟩=some (.int .i16 imm):=BI.cell 3
 have s0:w3.cell? ⟨sv,0,none⟩=some (.int .i64 0):=BS.cell 0
 have sf:w3.frozen? ⟨sv,0,none⟩=false:=BS.frozen 0
 have p0:w3.cell? ⟨pb,0,none⟩=some (.int .u64 pc):=by have:=cell_bel k3 HC.out.c0;rwa [HPC.out]at this
 have pA:w3.cell? ⟨pb,1+A,none⟩=some (.int .u64 ra):=by have:=cell_bel k3 (HC.out.reg A hA);rwa [HRA.out]at this
 have pB:w3.cell? ⟨pb,1+B,none⟩=some (.int .u64 rb):=by have:=cell_bel k3 (HC.out.reg B hB);rwa [HRB.out]at this
 have K3:=xh k3
 have HBI:=xh BI
 have HBS:=xh BS
 have hnb:sv≠bx:=by omega
 have hnb':bx≠sv:=by omega
 clear k3 BI BS hbx H2
 go_quiet (fail)
 have BS:Blk (w3.drewN nq) sv [.int .i64 0] 3:=HBS.out
 have K4:Hid (Bel w (w3.drewN nq)):=xh (bel_drewN K3.out nq)
 replace i0:(w3.drewN nq).cell? ⟨bx,0,none⟩=some (.int .u8 22):=i0
 replace i1:(w3.drewN nq).cell? ⟨bx,1,none⟩=some (.int .i64 A):=i1
 replace i2:(w3.drewN nq).cell? ⟨bx,2,none⟩=some (.int .i64 B):=i2
 replace i3:(w3.drewN nq).cell? ⟨bx,3,none⟩=some (.int .i16 imm):=i3
 replace s0:(w3.drewN nq).cell? ⟨sv,0,none⟩=some (.int .i64 0):=s0
 replace sf:(w3.drewN nq).frozen? ⟨sv,0,none⟩=false:=sf
 replace p0:(w3.drewN nq).cell? ⟨pb,0,none⟩=some (.int .u64 pc):=p0
 replace pA:(w3.drewN nq).cell? ⟨pb,1+A,none⟩=some (.int .u64 ra):=pA
 have HI:Hid (Blk (w3.drewN nq) bx [.int .u8 22,.int .i64 A,.int .i64 B,.int .i16 imm] 344):=xh HBI.out
 generalize w3.drewN nq=w4 at *
 clear pB K3 HBS HBI w3
 have hpx:pb≠bx:=λe=>by have h1:=HC.out.blk.bel K4.out;exact blk_ne h1 HI.out (by decide) e
 have hpx':bx≠pb:=λe=>hpx e.symm
 have pf:∀o,w4.frozen? ⟨pb,o,none⟩=false:=(HC.out.blk.bel K4.out).frozen
 go_upto_region 18 with(first
  | (go_at_call 167;((with_reducible refine Calls.mono (HAL.out _) ?_);rintro e5 w5 ⟨rfl,rfl⟩))
  | (go_at_call 168;((with_reducible refine Calls.mono (HBR.out _) ?_);rintro e5 w5 ⟨rfl,rfl⟩))
  | (go_at_call 224;((with_reducible refine Calls.mono (HBF.out _) ?_);rintro e5 w5 ⟨rfl,rfl⟩)))
 have h5:=((HC.out.bel K4.out).setPc (u64 (pc+4)) (U_u64 _)).setPc (u64 (pc+u64 imm)) (U_u64 _)
 have B5:Blk ((w4.setCell ⟨pb,0,none⟩ (.int .u64 (u64 (pc+4)))).setCell ⟨pb,0,none⟩ (.int .u64 (u64 (pc+u64 imm)))) sv [.int .i64 0] 3:=(BS.setCell_other (a:=⟨pb,0,none⟩) hne' _).setCell_other (a:=⟨pb,0,none⟩) hne' _
 have K5:Hid (Keep (Own2 pb sb) w4 ((w4.setCell ⟨pb,0,none⟩ (.int .u64 (u64 (pc+4)))).setCell ⟨pb,0,none⟩ (.int .u64 (u64 (pc+u64 imm))))):=xh ((own_pb pb sb _ _ _).tr (own_pb pb sb _ _ _))
 have i1:((w4.setCell ⟨pb,0,none⟩ (.int .u64 (u64 (pc+4)))).setCell ⟨pb,0,none⟩ (.int .u64 (u64 (pc+u64 imm)))).cell? ⟨bx,1,none⟩=some (.int .i64 A):=(K5.out.cell ⟨bx,1,none⟩ HI.out.lt (λe=>by rcases e with e|e;exact hpx' e;have e:bx=sb:=e;have h1:=HC.out.sp.lt;have h2:=HSV.out;omega)).trans i1
 generalize ((w4.setCell ⟨pb,0,none⟩ (.int .u64 (u64 (pc+4)))).setCell ⟨pb,0,none⟩ (.int .u64 (u64 (pc+u64 imm))))=w5 at *
 clear i0 i2 i3 s0 sf p0 pA pf
 have s0:w5.cell? ⟨sv,0,none⟩=some (.int .i64 0):=B5.cell 0
 have sf:w5.frozen? ⟨sv,0,none⟩=false:=B5.frozen 0
 have pf:∀o,w5.frozen? ⟨pb,o,none⟩=false:=h5.blk.frozen
 obtain⟨rx,hrx⟩:∃rx,w5.cell? ⟨pb,1+A,none⟩=some (.int .u64 rx):=⟨_,h5.reg A hA⟩
 have HC5:=xh h5
 clear h5
 go_still_tail 8,(by kernel_rfl)
 change wpList _ _ _ _ _ w5.drew
 go_wp2_with fail
 refine leaves_cons (f:=165) (args:= #[.pointer (some ⟨sv,0,none⟩)]) (by simp) (by simp[go_sem]) ?_
 refine(catch_none ⟨sv,0,none⟩ _).mono ?_
 rintro e u' w'' ⟨rfl,rfl,rfl⟩
 have h6:=HC5.out.setReg A hA (u64 (pc+4)) (U_u64 _) HC5.out.ne
 have hc:=fin_ret0 (B5.setCell_other (a:=⟨pb,1+A,none⟩) hne' (.int .u64 (u64 (pc+4)))) (.int .i64 0)
 rw[HPC.out]
 simp[Leaves,settle,results,Tryz.results139,go_sem,hc]
 exact step_end HC.out K4.out HSV.out (K5.out.tr (own_pb pb sb _ _ _)) h6 _
def StepPRes (perm:Nat→Option Int) (c:Cpu) (pb sb:Nat) (rest:List Value) (w:World) (e:Ending) (w':World):Prop:=
 e=.returned (.tuple #[.bool (stepK perm c==1),.int .i64 (if stepK perm c≤1 then 0 else stepK perm c:Nat)])∧CpuAt w' pb sb perm (stepR perm c) rest∧Keep (Own2 pb sb) w w'∧(stepK perm c≠0→Bel w w')
theorem stepRes_bel {perm:Nat→Option Int} {c:Cpu} {pb sb:Nat} {rest:List Value} {w w':World} {e:Ending} (h:CpuAt w pb sb perm c rest) {k:Nat} (hk:stepK perm c=k) (h0:k≠0) (he:e=.returned (.tuple #[.bool (k==1),.int .i64 (if k≤1 then 0 else k:Nat)])) (hb:Bel w w'):StepPRes perm c pb sb rest w e w':=by
 unfold StepPRes stepR
 rw[hk,if_neg h0]
 exact⟨he,h.bel hb,Keep.of_bel _ hb,λ_=>hb⟩
theorem stepRes_go {perm:Nat→Option Int} {c c':Cpu} {pb sb:Nat} {rest:List Value} {w w':World} {e:Ending} (hk:stepK perm c=0) (hc:stepC c=c') (h:e=.returned (.tuple #[.bool false,.int .i64 0])∧CpuAt w' pb sb perm c' rest∧Keep (Own2 pb sb) w w'):StepPRes perm c pb sb rest w e w':=by
 unfold StepPRes stepR
 rw[hk,if_pos rfl,hc]
 exact⟨h.1,h.2.1,h.2.2,λh=>absurd rfl h⟩
theorem stepP_any (pb sb:Nat) (perm:Nat→Option Int) (c:Cpu) (rest:List Value) (w:World) (h:CpuAt w pb sb perm c rest) :
 Calls Tryz.prog 139 #[.pointer (some ⟨pb,0,none⟩)] w λe w'=>StepPRes perm c pb sb rest w e w':=by
 by_cases hf:fetchB perm c=false
 ·have hk:stepK perm c=129:=by unfold stepK;rw[if_pos hf]
  refine(step_fetch pb sb perm c rest 129 w h.blk.lt λW hW=>fetch_bad pb sb perm c rest W (h.bel hW) hf).mono ?_
  rintro e w' ⟨rfl,hb⟩
  exact stepRes_bel h hk (by decide) rfl hb
 have hf':fetchB perm c=true:=by simpa using hf
 by_cases ho:insB c 0<1∨24<insB c 0
 ·have hk:stepK perm c=130:=by unfold stepK;rw[if_neg hf,if_pos ho]
  refine(step_fetch pb sb perm c rest 130 w h.blk.lt λW hW=>(fetch_ok pb sb perm c rest W (h.bel hW) hf').mono λe w' k=>⟨k.2.1 ho,k.1⟩).mono ?_
  rintro e w' ⟨rfl,hb⟩
  exact stepRes_bel h hk (by decide) rfl hb
 have h0:=h.ins 0
 have hop1:1≤opC c:=by unfold opC;omega
 have hop2:opC c≤24:=by unfold opC;omega
 have hfo:FetchOk pb (opC c) (rA c) (rB c) (immC c) w:=λW hW=>(fetch_ok pb sb perm c rest W (h.bel hW) hf').mono λe w' k=>⟨by rw[←decM_eq h.ins];exact k.2.2 (by omega) (by omega),k.1⟩
 have hA:=rA_lt (h.ins 1)
 have hB:=rB_lt (h.ins 1)
 obtain⟨op,hop⟩:∃op,opC c=op:=⟨_,rfl⟩
 rw[hop]at hfo hop1 hop2
 have hK:stepK perm c=if op=24 then 1 else if 14≤op∧op≤17∧mayB (pagesOf perm c.M) (memA c (rB c) (immC c)) (memN op) (memK op)=false then 131 else 0:=by unfold stepK;rw[if_neg hf,if_neg ho,hop]
 have hcases:op=1∨op=2∨op=3∨op=4∨op=5∨op=6∨op=7∨op=8∨op=9∨op=10∨op=11∨op=12∨op=13∨op=14∨op=15∨op=16∨op=17∨op=18∨op=19∨op=20∨op=21∨op=22∨op=23∨op=24:=by omega
 rcases hcases with rfl|rfl|rfl|rfl|rfl|rfl|rfl|rfl|rfl|rfl|rfl|rfl|rfl|rfl|rfl|rfl|rfl|rfl|rfl|rfl|rfl|rfl|rfl|rfl
 ·refine(step_aluG 1 207 (by omega) rfl (λargs W=>by kernel_rfl) (λa b i W ha hb hi=>alu1_any a b i W ha hb hi) pb sb perm c rest (rA c) (rB c) (immC c) w h hA hB hfo).mono λe w' k=>stepRes_go (by rw[hK];simp) ?_ k
  unfold stepC
  rw[hop]
  rfl
 ·refine(step_aluG 2 208 (by omega) rfl (λargs W=>by kernel_rfl) (λa b i W ha hb hi=>alu2_any a b i W ha hb hi) pb sb perm c rest (rA c) (rB c) (immC c) w h hA hB hfo).mono λe w' k=>stepRes_go (by rw[hK];simp) ?_ k
  unfold stepC
  rw[hop]
  rfl
 ·refine(step_aluG 3 209 (by omega) rfl (λargs W=>by kernel_rfl) (λa b i W ha hb hi=>alu3_any a b i W ha hb hi) pb sb perm c rest (rA c) (rB c) (immC c) w h hA hB hfo).mono λe w' k=>stepRes_go (by rw[hK];simp) ?_ k
  unfold stepC
  rw[hop]
  rfl
 ·refine(step_aluG 4 210 (by omega) rfl (λargs W=>by kernel_rfl) (λa b i W ha hb hi=>alu4_any a b i W ha hb hi) pb sb perm c rest (rA c) (rB c) (immC c) w h hA hB hfo).mono λe w' k=>stepRes_go (by rw[hK];simp) ?_ k
  unfold stepC
  rw[hop]
  rfl
 ·refine(step_aluG 5 211 (by omega) rfl (λargs W=>by kernel_rfl) (λa b i W ha hb hi=>alu5_any a b i W ha hb hi) pb sb perm c rest (rA c) (rB c) (immC c) w h hA hB hfo).mono λe w' k=>stepRes_go (by rw[hK];simp) ?_ k
  unfold stepC
  rw[hop]
  rfl
 ·refine(step_aluG 6 212 (by omega) rfl (λargs W=>by kernel_rfl) (λa b i W ha hb hi=>alu6_any a b i W ha hb hi) pb sb perm c rest (rA c) (rB c) (immC c) w h hA hB hfo).mono λe w' k=>stepRes_go (by rw[hK];simp) ?_ k
  unfold stepC
  rw[hop]
  rfl
 ·refine(step_aluG 7 213 (by omega) rfl (λargs W=>by kernel_rfl) (λa b i W ha hb hi=>alu7_any a b i W ha hb hi) pb sb perm c rest (rA c) (rB c) (immC c) w h hA hB hfo).mono λe w' k=>stepRes_go (by rw[hK];simp) ?_ k
  unfold stepC
  rw[hop]
  rfl
 ·refine(step_aluG 8 214 (by omega) rfl (λargs W=>by kernel_rfl) (λa b i W ha hb hi=>alu8_any a b i W ha hb hi) pb sb perm c rest (rA c) (rB c) (immC c) w h hA hB hfo).mono λe w' k=>stepRes_go (by rw[hK];simp) ?_ k
  unfold stepC
  rw[hop]
  rfl
 ·refine(step_aluG 9 215 (by omega) rfl (λargs W=>by kernel_rfl) (λa b i W ha hb hi=>alu9_any a b i W ha hb hi) pb sb perm c rest (rA c) (rB c) (immC c) w h hA hB hfo).mono λe w' k=>stepRes_go (by rw[hK];simp) ?_ k
  unfold stepC
  rw[hop]
  rfl
 ·refine(step_aluG 10 216 (by omega) rfl (λargs W=>by kernel_rfl) (λa b i W ha hb hi=>alu10_any a b i W ha hb hi) pb sb perm c rest (rA c) (rB c) (immC c) w h hA hB hfo).mono λe w' k=>stepRes_go (by rw[hK];simp) ?_ k
  unfold stepC
  rw[hop]
  rfl
 ·refine(step_aluG 11 217 (by omega) rfl (λargs W=>by kernel_rfl) (λa b i W ha hb hi=>alu11_any a b i W ha hb hi) pb sb perm c rest (rA c) (rB c) (immC c) w h hA hB hfo).mono λe w' k=>stepRes_go (by rw[hK];simp) ?_ k
  unfold stepC
  rw[hop]
  rfl
 ·refine(step_aluG 12 218 (by omega) rfl (λargs W=>by kernel_rfl) (λa b i W ha hb hi=>alu12_any a b i W ha hb hi) pb sb perm c rest (rA c) (rB c) (immC c) w h hA hB hfo).mono λe w' k=>stepRes_go (by rw[hK];simp) ?_ k
  unfold stepC
  rw[hop]
  rfl
 ·refine(step_aluG 13 219 (by omega) rfl (λargs W=>by kernel_rfl) (λa b i W ha hb hi=>alu13_any a b i W ha hb hi) pb sb perm c rest (rA c) (rB c) (immC c) w h hA hB hfo).mono λe w' k=>stepRes_go (by rw[hK];simp) ?_ k
  unfold stepC
  rw[hop]
  rfl
 ·by_cases hm:mayB (pagesOf perm c.M) (memA c (rB c) (immC c)) (memN 14) (memK 14)=false
  ·refine(step_badG 14 (by omega) pb sb perm c rest (rA c) (rB c) (immC c) w h hA hB hm hfo).mono ?_
   rintro e w' ⟨rfl,hb⟩
   exact stepRes_bel h (k:=131) (by rw[hK,if_neg (by decide),if_pos ⟨by decide,by decide,hm⟩]) (by decide) rfl hb
  ·refine(step_mem14 pb sb perm c rest (rA c) (rB c) (immC c) w h hA hB ((Bool.not_eq_false _).mp hm) hfo).mono λe w' k=>stepRes_go (by rw[hK,if_neg (by decide),if_neg λh=>hm h.2.2]) ?_ k
   unfold stepC
   rw[hop]
   rfl
 ·by_cases hm:mayB (pagesOf perm c.M) (memA c (rB c) (immC c)) (memN 15) (memK 15)=false
  ·refine(step_badG 15 (by omega) pb sb perm c rest (rA c) (rB c) (immC c) w h hA hB hm hfo).mono ?_
   rintro e w' ⟨rfl,hb⟩
   exact stepRes_bel h (k:=131) (by rw[hK,if_neg (by decide),if_pos ⟨by decide,by decide,hm⟩]) (by decide) rfl hb
  ·refine(step_mem15 pb sb perm c rest (rA c) (rB c) (immC c) w h hA hB ((Bool.not_eq_false _).mp hm) hfo).mono λe w' k=>stepRes_go (by rw[hK,if_neg (by decide),if_neg λh=>hm h.2.2]) ?_ k
   unfold stepC
   rw[hop]
   rfl
 ·by_cases hm:mayB (pagesOf perm c.M) (memA c (rB c) (immC c)) (memN 16) (memK 16)=false
  ·refine(step_badG 16 (by omega) pb sb perm c rest (rA c) (rB c) (immC c) w h hA hB hm hfo).mono ?_
   rintro e w' ⟨rfl,hb⟩
   exact stepRes_bel h (k:=131) (by rw[hK,if_neg (by decide),if_pos ⟨by decide,by decide,hm⟩]) (by decide) rfl hb
  ·refine(step_mem16 pb sb perm c rest (rA c) (rB c) (immC c) w h hA hB ((Bool.not_eq_false _).mp hm) hfo).mono λe w' k=>stepRes_go (by rw[hK,if_neg (by decide),if_neg λh=>hm h.2.2]) ?_ k
   unfold stepC
   rw[hop]
   rfl
 ·by_cases hm:mayB (pagesOf perm c.M) (memA c (rB c) (immC c)) (memN 17) (memK 17)=false
  ·refine(step_badG 17 (by omega) pb sb perm c rest (rA c) (rB c) (immC c) w h hA hB hm hfo).mono ?_
   rintro e w' ⟨rfl,hb⟩
   exact stepRes_bel h (k:=131) (by rw[hK,if_neg (by decide),if_pos ⟨by decide,by decide,hm⟩]) (by decide) rfl hb
  ·refine(step_mem17 pb sb perm c rest (rA c) (rB c) (immC c) w h hA hB ((Bool.not_eq_false _).mp hm) hfo).mono λe w' k=>stepRes_go (by rw[hK,if_neg (by decide),if_neg λh=>hm h.2.2]) ?_ k
   unfold stepC
   rw[hop]
   rfl
 ·by_cases hb:brF 18 (c.regs.getD (rA c) 0) (c.regs.getD (rB c) 0)=true
  ·refine(step_brGt 18 220 (by omega) rfl rfl (λargs W=>by kernel_rfl) (λa b W ha hb=>br1_any a b W ha hb) pb sb perm c rest (rA c) (rB c) (immC c) w h hA hB hb hfo).mono λe w' k=>stepRes_go (by rw[hK];simp) ?_ k
   unfold stepC vA vB
   rw[hop]
   show(⟨if brF 18 (c.regs.getD (rA c) 0) (c.regs.getD (rB c) 0)=true then u64 (c.pc+u64 (immC c))else u64 (c.pc+4),c.regs,c.M⟩:Cpu)=_
   rw[if_pos hb]
  ·refine(step_brGf 18 220 (by omega) rfl rfl (λargs W=>by kernel_rfl) (λa b W ha hb=>br1_any a b W ha hb) pb sb perm c rest (rA c) (rB c) (immC c) w h hA hB (by simpa using hb) hfo).mono λe w' k=>stepRes_go (by rw[hK];simp) ?_ k
   unfold stepC vA vB
   rw[hop]
   show(⟨if brF 18 (c.regs.getD (rA c) 0) (c.regs.getD (rB c) 0)=true then u64 (c.pc+u64 (immC c))else u64 (c.pc+4),c.regs,c.M⟩:Cpu)=_
   rw[if_neg hb]
 ·by_cases hb:brF 19 (c.regs.getD (rA c) 0) (c.regs.getD (rB c) 0)=true
  ·refine(step_brGt 19 221 (by omega) rfl rfl (λargs W=>by kernel_rfl) (λa b W ha hb=>br2_any a b W ha hb) pb sb perm c rest (rA c) (rB c) (immC c) w h hA hB hb hfo).mono λe w' k=>stepRes_go (by rw[hK];simp) ?_ k
   unfold stepC vA vB
   rw[hop]
   show(⟨if brF 19 (c.regs.getD (rA c) 0) (c.regs.getD (rB c) 0)=true then u64 (c.pc+u64 (immC c))else u64 (c.pc+4),c.regs,c.M⟩:Cpu)=_
   rw[if_pos hb]
  ·refine(step_brGf 19 221 (by omega) rfl rfl (λargs W=>by kernel_rfl) (λa b W ha hb=>br2_any a b W ha hb) pb sb perm c rest (rA c) (rB c) (immC c) w h hA hB (by simpa using hb) hfo).mono λe w' k=>stepRes_go (by rw[hK];simp) ?_ k
   unfold stepC vA vB
   rw[hop]
   show(⟨if brF 19 (c.regs.getD (rA c) 0) (c.regs.getD (rB c) 0)=true then u64 (c.pc+u64 (immC c))else u64 (c.pc+4),c.regs,c.M⟩:Cpu)=_
   rw[if_neg hb]
 ·by_cases hb:brF 20 (c.regs.getD (rA c) 0) (c.regs.getD (rB c) 0)=true
  ·refine(step_brGt 20 222 (by omega) rfl rfl (λargs W=>by kernel_rfl) (λa b W ha hb=>br3_any a b W ha hb) pb sb perm c rest (rA c) (rB c) (immC c) w h hA hB hb hfo).mono λe w' k=>stepRes_go (by rw[hK];simp) ?_ k
   unfold stepC vA vB
   rw[hop]
   show(⟨if brF 20 (c.regs.getD (rA c) 0) (c.regs.getD (rB c) 0)=true then u64 (c.pc+u64 (immC c))else u64 (c.pc+4),c.regs,c.M⟩:Cpu)=_
   rw[if_pos hb]
  ·refine(step_brGf 20 222 (by omega) rfl rfl (λargs W=>by kernel_rfl) (λa b W ha hb=>br3_any a b W ha hb) pb sb perm c rest (rA c) (rB c) (immC c) w h hA hB (by simpa using hb) hfo).mono λe w' k=>stepRes_go (by rw[hK];simp) ?_ k
   unfold stepC vA vB
   rw[hop]
   show(⟨if brF 20 (c.regs.getD (rA c) 0) (c.regs.getD (rB c) 0)=true then u64 (c.pc+u64 (immC c))else u64 (c.pc+4),c.regs,c.M⟩:Cpu)=_
   rw[if_neg hb]
 ·by_cases hb:brF 21 (c.regs.getD (rA c) 0) (c.regs.getD (rB c) 0)=true
  ·refine(step_brGt 21 223 (by omega) rfl rfl (λargs W=>by kernel_rfl) (λa b W ha hb=>br4_any a b W ha hb) pb sb perm c rest (rA c) (rB c) (immC c) w h hA hB hb hfo).mono λe w' k=>stepRes_go (by rw[hK];simp) ?_ k
   unfold stepC vA vB
   rw[hop]
   show(⟨if brF 21 (c.regs.getD (rA c) 0) (c.regs.getD (rB c) 0)=true then u64 (c.pc+u64 (immC c))else u64 (c.pc+4),c.regs,c.M⟩:Cpu)=_
   rw[if_pos hb]
  ·refine(step_brGf 21 223 (by omega) rfl rfl (λargs W=>by kernel_rfl) (λa b W ha hb=>br4_any a b W ha hb) pb sb perm c rest (rA c) (rB c) (immC c) w h hA hB (by simpa using hb) hfo).mono λe w' k=>stepRes_go (by rw[hK];simp) ?_ k
   unfold stepC vA vB
   rw[hop]
   show(⟨if brF 21 (c.regs.getD (rA c) 0) (c.regs.getD (rB c) 0)=true then u64 (c.pc+u64 (immC c))else u64 (c.pc+4),c.regs,c.M⟩:Cpu)=_
   rw[if_neg hb]
 ·have hb:brF 22 (c.regs.getD (rA c) 0) (c.regs.getD (rB c) 0)=true:=rfl
  refine(step_br22t pb sb perm c rest (rA c) (rB c) (immC c) w h hA hB hb hfo).mono λe w' k=>stepRes_go (by rw[hK];simp) ?_ k
  unfold stepC
  rw[hop]
  rfl
 ·refine(step_jr pb sb perm c rest (rA c) (rB c) (immC c) w h hA hB hfo).mono λe w' k=>stepRes_go (by rw[hK];simp) ?_ k
  unfold stepC
  rw[hop]
  rfl
 ·refine(step_ecall pb sb perm c rest (rA c) (rB c) (immC c) w h hA hB hfo).mono ?_
  rintro e w' ⟨rfl,hb⟩
  exact stepRes_bel h (by rw[hK,if_pos rfl]) (by decide) rfl hb
end Go.Proofs.YtjdaddmjpicflaaGreatDoor
