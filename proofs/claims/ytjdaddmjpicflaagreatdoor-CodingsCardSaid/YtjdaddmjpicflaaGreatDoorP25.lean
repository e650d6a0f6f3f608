/- (*CPU).Step walked: the deferred closure. -/
import Derived.Defers
import Derived.Recover
import Derived.Test.YtjdaddmjpicflaaGreatDoorP23
import Derived.RegionCalls
import Derived.Deep.DeepCutAuto
import Derived.Deep.RegionHeld3
import Derived.StillTailTactics
set_option linter.unusedVariables false
set_option linter.unusedSimpArgs false
set_option maxRecDepth 100000
set_option maxHeartbeats 16000000
namespace Go.Proofs.YtjdaddmjpicflaaGreatDoor
open Go.RowKit Go.Maps
theorem catch_trap (p:Addr) (x n:Int) (w:World) (hc:w.cell? p=some (.int .i64 x)) (hz:w.frozen? p=false) :
 CallsD Tryz.prog 165 #[.pointer (some p)] (.panicking (trapP n)) w λe u' w'=>
  e=.returned (.tuple #[])∧u'=.panicking [{v:=.iface 340 (.int .i64 n),recovered:=true}]∧w'=w.setCell p (.int .i64 n):=by
 have hta:∀(w:World),(Instr.typeAssert (.iface 340 (.int .i64 n)) 20 340 true).run Tryz.prog w=.ok (.tuple #[.int .i64 n,.bool true]) w:=λw=>by kernel_rfl
 have hnot:∀(x:Bool) (w:World),(Op.unary .not (.bool x)).run Tryz.prog w=.ok (.bool (!x)) w:=λ_ _=>rfl
 refine callsD_of_wpS Tryz.func165 rfl λc₀ cs hu=>?_
 apply wpS_seq
 apply wpS_region
 simp[wpOpsS,go_sem,recoverD,hu,trapP,Tryz.ntmps165,Exit.thenS]
 apply wpS_seq
 apply wpS_region
 simp[wpOpsS,go_sem,Exit.thenS]
 refine wpS_cond (t:=true) (by simp[Act.eval,Array.replicate]) ?_
 simp only[if_true]
 apply wpS_seq
 apply wpS_region
 simp[wpOpsS,go_sem,Exit.thenS,hta]
 apply wpS_seq
 apply wpS_seq
 apply wpS_region
 simp[wpOpsS,go_sem,Exit.thenS,hnot]
 refine wpS_cond (t:=false) (by simp[Act.eval,Array.replicate]) ?_
 simp only[Bool.false_eq_true,if_false]
 refine wpS_of_wp (wp_skip ?_)
 simp only[Exit.thenS]
 apply wpS_region
 simp[wpOpsS,go_sem,hc,hz,bodyPostS,results,Tryz.results165]
theorem catch_none (p:Addr) (w:World) :
 CallsD Tryz.prog 165 #[.pointer (some p)] .returning w λe u' w'=>e=.returned (.tuple #[])∧u'=.returning∧w'=w:=by
 refine callsD_of_wpS Tryz.func165 rfl λc₀ cs hu=>?_
 apply wpS_seq
 apply wpS_region
 simp[wpOpsS,go_sem,recoverD,hu,Tryz.ntmps165,Exit.thenS]
 apply wpS_seq
 apply wpS_region
 simp[wpOpsS,go_sem,Exit.thenS]
 refine wpS_cond (t:=false) (by simp[Act.eval,Array.replicate]) ?_
 simp only[Bool.false_eq_true,if_false]
 refine wpS_of_wp (wp_skip ?_)
 cases c₀
 simp_all [bodyPostS,results,Tryz.results165]
theorem makeF (fn:Fn) (first cap:Array Value) (w:World):(Instr.makeFunc fn first cap).run Tryz.prog w=.ok (.func fn first cap) w:=rfl
theorem step_fetch (pb sb:Nat) (perm:Nat→Option Int) (c:Cpu) (rest:List Value) (n:Int) (w:World) (hpb:pb<w.heap.size) (hf:∀W,Bel w W→Calls Tryz.prog 166 #[.pointer (some ⟨pb,0,none⟩)] W λe w'=>e=.panicked (trapP n)∧Bel W w') :
 Calls Tryz.prog 139 #[.pointer (some ⟨pb,0,none⟩)] w λe w'=>e=.returned (.tuple #[.bool false,.int .i64 n])∧Bel w w':=by
 have hmf:=makeF
 have HF:=xh hf
 obtain⟨sv,hsv⟩:∃sv,w.heap.size=sv:=⟨_,rfl⟩
 have HSV:=xh hsv
 clear hf hsv
 go_enter_defers Tryz.func139,Tryz.ntmps139
 go_wp2_with (go_at_call 166;((with_reducible refine Calls.mono (HF.out _ (Bel.start w _)) ?_);rintro e2 w2 ⟨rfl,k2⟩;have H2:=xh k2;clear k2))
 rw[HSV.out]
 have hB:Blk w2 sv [.int .i64 0] 3:=by rw[←HSV.out];exact(Blk.new w [.int .i64 0] 3).bel H2.out
 refine leaves_cons (f:=165) (args:= #[.pointer (some ⟨sv,0,none⟩)]) (by simp) (by simp[go_sem]) ?_
 refine(catch_trap ⟨sv,0,none⟩ 0 n _ (hB.cell 0) (hB.frozen 0)).mono ?_
 rintro e u' w'' ⟨rfl,rfl,rfl⟩
 have hc:(w2.setCell ⟨sv,0,none⟩ (.int .i64 n)).cell? ⟨sv,0,none⟩=some (.int .i64 n):=(hB.setCell (o:=0) (.int .i64 n)).cell 0
 simp[Leaves,settle,results,Tryz.results139,go_sem,hc]
 exact((Bel.start w _).tr H2.out).store (by show w.heap.size≤sv;rw[HSV.out];exact Nat.le_refl _) _
def Own2 (pb sb q:Nat):Prop:=q=pb∨q=sb
theorem CpuAt.keep {S:Nat→Prop} {w w':World} {pb sb:Nat} {perm:Nat→Option Int} {c:Cpu} {rest:List Value} (h:CpuAt w pb sb perm c rest) (k:Keep S w w') (h1:¬S pb) (h2:¬S sb):CpuAt w' pb sb perm c rest:=
 ⟨h.blk.keep k h1,h.sp.keep k h2,h.pc,h.regs,h.mem⟩
theorem CpuAt.setPc {w:World} {pb sb:Nat} {perm:Nat→Option Int} {c:Cpu} {rest:List Value} (h:CpuAt w pb sb perm c rest) (v:Int) (hv:U v):CpuAt (w.setCell ⟨pb,0,none⟩ (.int .u64 v)) pb sb perm {c with pc:=v} rest:=
 ⟨h.blk.setCell (o:=0) (.int .u64 v),h.sp.keep (Keep.setCell w pb 0 _) h.ne,hv,h.regs,h.mem⟩
theorem fin_ret {w5:World} {sv:Nat} {x:Value} {t:TypeId} (BS:Blk w5 sv [x] t) (v:Value):(w5.setCell ⟨sv,0,none⟩ v).drew.cell? ⟨sv,0,none⟩=some v:=(BS.setCell (o:=0) v).cell 0
theorem fin_ret0 {w5:World} {sv:Nat} {x:Value} {t:TypeId} (BS:Blk w5 sv [x] t) (v:Value):(w5.setCell ⟨sv,0,none⟩ v).cell? ⟨sv,0,none⟩=some v:=(BS.setCell (o:=0) v).cell 0
theorem step_end {w w4 w5:World} {pb sb:Nat} {perm:Nat→Option Int} {c c5:Cpu} {rest:List Value} {sv:Nat} (h:CpuAt w pb sb perm c rest) (K4:Bel w w4) (hsv:w.heap.size=sv) (K5:Keep (Own2 pb sb) w4 w5) (h5:CpuAt w5 pb sb perm c5 rest) (v:Value) :
 CpuAt ((w5.setCell ⟨sv,0,none⟩ v).drew) pb sb perm c5 rest∧Keep (Own2 pb sb) w ((w5.setCell ⟨sv,0,none⟩ v).drew):=by
 have h1:=h.blk.lt
 have h2:=h.sp.lt
 have k:Keep (λq=>q=sv) w5 ((w5.setCell ⟨sv,0,none⟩ v).drew):=(Keep.setCell w5 sv 0 v).tr (Keep.of_bel _ (Bel.drew (Bel.refl _)))
 refine⟨h5.keep k (λe=>by have e:pb=sv:=e;omega) (λe=>by have e:sb=sv:=e;omega),((Keep.of_bel _ K4).tr K5).tr_new k λi hi=>.inr (by have e:i=sv:=hi;omega)⟩
theorem step_end0 {w w4 w5:World} {pb sb:Nat} {perm:Nat→Option Int} {c c5:Cpu} {rest:List Value} {sv:Nat} (h:CpuAt w pb sb perm c rest) (K4:Bel w w4) (hsv:w.heap.size=sv) (K5:Keep (Own2 pb sb) w4 w5) (h5:CpuAt w5 pb sb perm c5 rest) (v:Value) :
 CpuAt (w5.setCell ⟨sv,0,none⟩ v) pb sb perm c5 rest∧Keep (Own2 pb sb) w (w5.setCell ⟨sv,0,none⟩ v):=by
 have h1:=h.blk.lt
 have h2:=h.sp.lt
 have k:Keep (λq=>q=sv) w5 (w5.setCell ⟨sv,0,none⟩ v):=Keep.setCell w5 sv 0 v
 refine⟨h5.keep k (λe=>by have e:pb=sv:=e;omega) (λe=>by have e:sb=sv:=e;omega),((Keep.of_bel _ K4).tr K5).tr_new k λi hi=>.inr (by have e:i=sv:=hi;omega)⟩
theorem own_pb (pb sb o:Nat) (w:World) (v:Value):Keep (Own2 pb sb) w (w.setCell ⟨pb,o,none⟩ v):=(Keep.setCell w pb o v).mono λ_ hq=>.inl hq
theorem bits_U (op:BinOp) (a b:Int):U (bits op .u64 a b):=⟨Int.emod_nonneg _ (by decide),Int.emod_lt_of_pos _ (by decide)⟩
theorem aluF_U (op:Nat) (a b i:Int) (ha:U a) (hb:U b) (hi:U i):U (aluF op a b i):=by
 unfold aluF
 split
 ·exact hi
 ·exact hb
 ·exact U_u64 _
 ·exact U_u64 _
 ·exact U_u64 _
 ·exact U_u64 _
 ·split
  ·exact⟨by decide,by decide⟩
  ·obtain⟨a0,a1⟩:=ha
   obtain⟨b0,b1⟩:=hb
   exact⟨Int.ediv_nonneg a0 b0,Int.lt_of_le_of_lt (Int.ediv_le_self _ a0) a1⟩
 ·split
  ·exact ha
  ·obtain⟨a0,a1⟩:=ha
   obtain⟨b0,b1⟩:=hb
   exact⟨Int.emod_nonneg _ (by assumption),Int.lt_trans (Int.emod_lt_of_pos _ (by omega)) b1⟩
 ·exact bits_U _ _ _
 ·exact bits_U _ _ _
 ·exact bits_U _ _ _
 ·exact U_u64 _
 ·obtain⟨a0,a1⟩:=ha
  exact⟨Int.ediv_nonneg a0 (Int.pow_nonneg (by decide)),Int.lt_of_le_of_lt (Int.ediv_le_self _ a0) a1⟩
def FetchOk (pb:Nat) (op A B:Nat) (imm:Int) (w:World):Prop:=∀W,Bel w W→Calls Tryz.prog 166 #[.pointer (some ⟨pb,0,none⟩)] W λe w'=>e=.returned (.agg #[.int .u8 op,.int .i64 A,.int .i64 B,.int .i16 imm])∧Bel W w'
theorem step_memG (op:Nat) (ho:op=14∨op=15∨op=16∨op=17) (pb sb:Nat) (perm:Nat→Option Int) (c c2:Cpu) (rest:List Value) (A B:Nat) (imm:Int) (w:World) (h:CpuAt w pb sb perm c rest) (hA:A<16) (hB:B<16) (hpc2:c2.pc=c.pc) (hme:∀W,CpuAt W pb sb perm c rest→Calls Tryz.prog 169 #[.pointer (some ⟨pb,0,none⟩),.agg #[.int .u8 op,.int .i64 A,.int .i64 B,.int .i16 imm]] W λe w'=>e=.returned (.tuple #[])∧CpuAt w' pb sb perm c2 rest∧Keep (Own2 pb sb) W w') (hf:FetchOk pb op A B imm w) :
 Calls Tryz.prog 139 #[.pointer (some ⟨pb,0,none⟩)] w λe w'=>e=.returned (.tuple #[.bool false,.int .i64 0])∧CpuAt w' pb sb perm {c2 with pc:=u64 (c.pc+4)} rest∧Keep (Own2 pb sb) w w':=by
 have hmf:=makeF
 have hA0:(0:Int)≤A:=by omega
 have hA1:(A:Int)<16:=by omega
 have hB0:(0:Int)≤B:=by omega
 have hB1:(B:Int)<16:=by omega
 have HC:=xh h
 unfold FetchOk at hf
 have HF:=xh hf
 obtain⟨ra,hra⟩:∃ra,c.regs.getD A 0=ra:=⟨_,rfl⟩
 obtain⟨rb,hrb⟩:∃rb,c.regs.getD B 0=rb:=⟨_,rfl⟩
 obtain⟨pc,hpc⟩:∃pc,c.pc=pc:=⟨_,rfl⟩
 have ua:=h.regU A
 have ub:=h.regU B
 have up:=h.pc
 rw[hra]at ua
 rw[hrb]at ub
 rw[hpc]at up
 have HRA:=xh hra
 have HRB:=xh hrb
 have HPC:=xh hpc
 have HAL:Hid (∀W,Calls Tryz.prog 167 #[.int .u8 op] W λe w'=>e=.returned .nilFunc∧W=w'):=xh λW=>(show aluV op=.nilFunc by rcases ho with rfl|rfl|rfl|rfl<;>rfl)▸alu_any op (by omega) W
 have hfn:∀W,(binOp .neq 346 .nilFunc .nilFunc).run Tryz.prog W=.ok (.bool false) W:=λW=>by kernel_rfl
 have hwi:IntKind.wrap .u64 imm=u64 imm:=rfl
 have HBR:Hid (∀W,Calls Tryz.prog 168 #[.int .u8 op] W λe w'=>e=.returned .nilFunc∧W=w'):=xh λW=>(show brV op=.nilFunc by rcases ho with rfl|rfl|rfl|rfl<;>rfl)▸branch_any op (by omega) W
 have hbn:∀W,(binOp .neq 348 .nilFunc .nilFunc).run Tryz.prog W=.ok (.bool false) W:=λW=>by kernel_rfl
 have HME:=xh hme
 have HP2:=xh hpc2
 have hsp:=h.sp.lt
 have ho22:((op:Int)==22)=false:=beq_eq_false_iff_ne.2 (by omega)
 have ho23:((op:Int)==23)=false:=beq_eq_false_iff_ne.2 (by omega)
 have ho24:((op:Int)==24)=false:=beq_eq_false_iff_ne.2 (by omega)
 clear hme hpc2 ho
 have hwp:IntKind.wrap .u64 (pc+4)=u64 (pc+4):=rfl
 obtain⟨sv,hsv⟩:∃sv,w.heap.size=sv:=⟨_,rfl⟩
 have HSV:=xh hsv
 have hpl:=h.blk.lt
 have hne:pb≠sv:=by omega
 have hne':sv≠pb:=by omega
 clear hf hsv h hra hrb hpc hpl
 go_enter_defers Tryz.func139,Tryz.ntmps139
 go_upto_region 3 with(go_at_call 166;((with_reducible refine Calls.mono (HF.out _ (Bel.start w _)) ?_);rintro e2 w2 ⟨rfl,k2⟩;have H2:=xh k2;clear k2))
 rw[HSV.out]
 have k3:Bel w (w2.alloc (.cells #[.int .u8 op,.int .i64 A,.int .i64 B,.int .i16 imm] 344)):=((Bel.start w _).tr H2.out).ac _
 have BI:Blk (w2.alloc (.cells #[.int .u8 op,.int .i64 A,.int .i64 B,.int .i16 imm] 344)) w2.heap.size [.int .u8 op,.int .i64 A,.int .i64 B,.int .i16 imm] 344:=Blk.new w2 _ _
 have BS:Blk (w2.alloc (.cells #[.int .u8 op,.int .i64 A,.int .i64 B,.int .i16 imm] 344)) sv [.int .i64 0] 3:=by rw[←HSV.out];exact((Blk.new w [.int .i64 0] 3).bel H2.out).alloc _
 have hsb:sv<w2.heap.size:=by have h1:=H2.out.size;have h2:=HSV.out;simp at h1;omega
 generalize w2.alloc (.cells #[.int .u8 op,.int .i64 A,.int .i64 B,.int .i16 imm] 344)=w3 at *
 obtain⟨bx,hbx⟩:∃bx,w2.heap.size=bx:=⟨_,rfl⟩
 rw[hbx]at BI hsb⊢
 have i0:w3.cell? ⟨bx,0,none⟩=some (.int .u8 op):=BI.cell 0
 have i1:w3.cell? ⟨bx,1,none⟩=some (.int .i64 A):=BI.cell 1
 have i2:w3.cell? ⟨bx,2,none⟩=some (.int .i64 B):=BI.cell 2
 have i3:w3.cell? ⟨bx,3,none⟩=some (.int .i16 imm):=BI.cell 3
 have s0:w3.cell? ⟨sv,0,none⟩=some (.int .i64 0):=BS.cell 0
 have sf:w3.frozen? ⟨sv,0,none⟩=false:=BS.frozen 0
 have p0:w3.cell? ⟨pb,0,none⟩=some (.int .u64 pc):=by have:=cell_bel k3 HC.out.c0;rwa [HPC.out]at this
 have pA:w3.cell? ⟨pb,1+A,none⟩=some (.int .u64 ra):=by have:=cell_bel k3 (HC.out.reg A hA);rwa [HRA.out]at this
 have pB:w3.cell? ⟨pb,1+B,none⟩=some (.int .u64 rb):=by have:=cell_bel k3 (HC.out.reg B hB);rwa [HRB.out]at this
 have K3:=xh k3
 have HBI:=xh BI
 have HBS:=xh BS
 have hnb:sv≠bx:=by omega
 have hnb':bx≠sv:=by omega
 clear k3 BI BS hbx H2
 go_quiet (fail)
 have BS:Blk (w3.drewN nq) sv [.int .i64 0] 3:=HBS.out
 have K4:Hid (Bel w (w3.drewN nq)):=xh (bel_drewN K3.out nq)
 replace i0:(w3.drewN nq).cell? ⟨bx,0,none⟩=some (.int .u8 op):=i0
 replace i1:(w3.drewN nq).cell? ⟨bx,1,none⟩=some (.int .i64 A):=i1
 replace i2:(w3.drewN nq).cell? ⟨bx,2,none⟩=some (.int .i64 B):=i2
 replace i3:(w3.drewN nq).cell? ⟨bx,3,none⟩=some (.int .i16 imm):=i3
 replace s0:(w3.drewN nq).cell? ⟨sv,0,none⟩=some (.int .i64 0):=s0
 replace sf:(w3.drewN nq).frozen? ⟨sv,0,none⟩=false:=sf
 replace p0:(w3.drewN nq).cell? ⟨pb,0,none⟩=some (.int .u64 pc):=p0
 replace pA:(w3.drewN nq).cell? ⟨pb,1+A,none⟩=some (.int .u64 ra):=pA
 have HI:Hid (Blk (w3.drewN nq) bx [.int .u8 op,.int .i64 A,.int .i64 B,.int .i16 imm] 344):=xh HBI.out
 generalize w3.drewN nq=w4 at *
 clear pB K3 HBS HBI w3
 have hpx:pb≠bx:=λe=>by have h1:=HC.out.blk.bel K4.out;exact blk_ne h1 HI.out (by decide) e
 have hpx':bx≠pb:=λe=>hpx e.symm
 have pf:∀o,w4.frozen? ⟨pb,o,none⟩=false:=(HC.out.blk.bel K4.out).frozen
 go_wp2_with (first
  | (go_at_call 167;((with_reducible refine Calls.mono (HAL.out _) ?_);rintro e5 w5 ⟨rfl,rfl⟩))
  | (go_at_call 168;((with_reducible refine Calls.mono (HBR.out _) ?_);rintro e5 w5 ⟨rfl,rfl⟩))
  | (go_at_call 169;((with_reducible refine Calls.mono (HME.out _ (HC.out.bel K4.out)) ?_);rintro e6 w6 ⟨rfl,hc6,hk6⟩;have q0:w6.cell? ⟨pb,0,none⟩=some (.int .u64 pc):=(by have:=hc6.c0;rwa [HP2.out,HPC.out]at this);have pf6:∀o,w6.frozen? ⟨pb,o,none⟩=false:=hc6.blk.frozen;have B6:Blk w6 sv [.int .i64 0] 3:=BS.keep hk6 (λe=>by have h2:=HSV.out;rcases e with e|e<;>omega);have t0:w6.cell? ⟨sv,0,none⟩=some (.int .i64 0):=B6.cell 0;have tf:w6.frozen? ⟨sv,0,none⟩=false:=B6.frozen 0;have H6:=xh (And.intro hc6 hk6);clear hc6 hk6)))
 refine leaves_cons (f:=165) (args:= #[.pointer (some ⟨sv,0,none⟩)]) (by simp) (by simp[go_sem]) ?_
 refine(catch_none ⟨sv,0,none⟩ _).mono ?_
 rintro e u' w'' ⟨rfl,rfl,rfl⟩
 have h5:=H6.out.1.setPc (u64 (pc+4)) (U_u64 _)
 have hc:=fin_ret0 (B6.setCell_other (a:=⟨pb,0,none⟩) hne' (.int .u64 (u64 (pc+4)))) (.int .i64 0)
 rw[HPC.out]
 simp[Leaves,settle,results,Tryz.results139,go_sem,hc]
 exact step_end0 HC.out K4.out HSV.out (H6.out.2.tr (own_pb pb sb _ _ _)) h5 _
theorem step_mem14 (pb sb:Nat) (perm:Nat→Option Int) (c:Cpu) (rest:List Value) (A B:Nat) (imm:Int) (w:World) (h:CpuAt w pb sb perm c rest) (hA:A<16) (hB:B<16) (hm:mayB (pagesOf perm c.M) (memA c B imm) 8 4=true) (hf:FetchOk pb 14 A B imm w) :
 Calls Tryz.prog 139 #[.pointer (some ⟨pb,0,none⟩)] w λe w'=>e=.returned (.tuple #[.bool false,.int .i64 0])∧CpuAt w' pb sb perm {{c with regs:=c.regs.set A (numV (bytesAt c.M (memA c B imm) 8))}with pc:=u64 (c.pc+4)} rest∧Keep (Own2 pb sb) w w':=
 step_memG 14 (by omega) pb sb perm c {c with regs:=c.regs.set A (numV (bytesAt c.M (memA c B imm) 8))} rest A B imm w h hA hB rfl (λW hW=>(mem_load14 pb sb perm c rest A B imm W hW hA hB hm).mono λ_ _ h=>⟨h.1,h.2.1,h.2.2.mono λ_ hq=>.inl hq⟩) hf
theorem step_mem15 (pb sb:Nat) (perm:Nat→Option Int) (c:Cpu) (rest:List Value) (A B:Nat) (imm:Int) (w:World) (h:CpuAt w pb sb perm c rest) (hA:A<16) (hB:B<16) (hm:mayB (pagesOf perm c.M) (memA c B imm) 8 2=true) (hf:FetchOk pb 15 A B imm w) :
 Calls Tryz.prog 139 #[.pointer (some ⟨pb,0,none⟩)] w λe w'=>e=.returned (.tuple #[.bool false,.int .i64 0])∧CpuAt w' pb sb perm {{c with M:=pokeM c.M (memA c B imm).toNat (bytes8F (c.regs.getD A 0))}with pc:=u64 (c.pc+4)} rest∧Keep (Own2 pb sb) w w':=
 step_memG 15 (by omega) pb sb perm c {c with M:=pokeM c.M (memA c B imm).toNat (bytes8F (c.regs.getD A 0))} rest A B imm w h hA hB rfl (λW hW=>(mem_store15 pb sb perm c rest A B imm W hW hA hB hm).mono λ_ _ h=>⟨h.1,h.2.1,h.2.2.mono λ_ hq=>.inr hq⟩) hf
theorem step_mem16 (pb sb:Nat) (perm:Nat→Option Int) (c:Cpu) (rest:List Value) (A B:Nat) (imm:Int) (w:World) (h:CpuAt w pb sb perm c rest) (hA:A<16) (hB:B<16) (hm:mayB (pagesOf perm c.M) (memA c B imm) 1 4=true) (hf:FetchOk pb 16 A B imm w) :
 Calls Tryz.prog 139 #[.pointer (some ⟨pb,0,none⟩)] w λe w'=>e=.returned (.tuple #[.bool false,.int .i64 0])∧CpuAt w' pb sb perm {{c with regs:=c.regs.set A (numV (bytesAt c.M (memA c B imm) 1))}with pc:=u64 (c.pc+4)} rest∧Keep (Own2 pb sb) w w':=
 step_memG 16 (by omega) pb sb perm c {c with regs:=c.regs.set A (numV (bytesAt c.M (memA c B imm) 1))} rest A B imm w h hA hB rfl (λW hW=>(mem_load16 pb sb perm c rest A B imm W hW hA hB hm).mono λ_ _ h=>⟨h.1,h.2.1,h.2.2.mono λ_ hq=>.inl hq⟩) hf
theorem step_mem17 (pb sb:Nat) (perm:Nat→Option Int) (c:Cpu) (rest:List Value) (A B:Nat) (imm:Int) (w:World) (h:CpuAt w pb sb perm c rest) (hA:A<16) (hB:B<16) (hm:mayB (pagesOf perm c.M) (memA c B imm) 1 2=true) (hf:FetchOk pb 17 A B imm w) :
 Calls Tryz.prog 139 #[.pointer (some ⟨pb,0,none⟩)] w λe w'=>e=.returned (.tuple #[.bool false,.int .i64 0])∧CpuAt w' pb sb perm {{c with M:=pokeM c.M (memA c B imm).toNat ((bytes8F (c.regs.getD A 0)).take 1)}with pc:=u64 (c.pc+4)} rest∧Keep (Own2 pb sb) w w':=
 step_memG 17 (by omega) pb sb perm c {c with M:=pokeM c.M (memA c B imm).toNat ((bytes8F (c.regs.getD A 0)).take 1)} rest A B imm w h hA hB rfl (λW hW=>(mem_store17 pb sb perm c rest A B imm W hW hA hB hm).mono λ_ _ h=>⟨h.1,h.2.1,h.2.2.mono λ_ hq=>.inr hq⟩) hf
theorem step_badG (op:Nat) (ho:op=14∨op=15∨op=16∨op=17) (pb sb:Nat) (perm:Nat→Option Int) (c:Cpu) (rest:List Value) (A B:Nat) (imm:Int) (w:World) (h:CpuAt w pb sb perm c rest) (hA:A<16) (hB:B<16) (hm:mayB (pagesOf perm c.M) (memA c B imm) (memN op) (memK op)=false) (hf:FetchOk pb op A B imm w) :
 Calls Tryz.prog 139 #[.pointer (some ⟨pb,0,none⟩)] w λe w'=>e=.returned (.tuple #[.bool false,.int .i64 131])∧Bel w w':=by
 have hmf:=makeF
 have hA0:(0:Int)≤A:=by omega
 have hA1:(A:Int)<16:=by omega
 have hB0:(0:Int)≤B:=by omega
 have hB1:(B:Int)<16:=by omega
 have HC:=xh h
 unfold FetchOk at hf
 have HF:=xh hf
 obtain⟨ra,hra⟩:∃ra,c.regs.getD A 0=ra:=⟨_,rfl⟩
 obtain⟨rb,hrb⟩:∃rb,c.regs.getD B 0=rb:=⟨_,rfl⟩
 obtain⟨pc,hpc⟩:∃pc,c.pc=pc:=⟨_,rfl⟩
 have ua:=h.regU A
 have ub:=h.regU B
 have up:=h.pc
 rw[hra]at ua
 rw[hrb]at ub
 rw[hpc]at up
 have HRA:=xh hra
 have HRB:=xh hrb
 have HPC:=xh hpc
 have HAL:Hid (∀W,Calls Tryz.prog 167 #[.int .u8 op] W λe w'=>e=.returned .nilFunc∧W=w'):=xh λW=>(show aluV op=.nilFunc by rcases ho with rfl|rfl|rfl|rfl<;>rfl)▸alu_any op (by omega) W
 have hfn:∀W,(binOp .neq 346 .nilFunc .nilFunc).run Tryz.prog W=.ok (.bool false) W:=λW=>by kernel_rfl
 have hwi:IntKind.wrap .u64 imm=u64 imm:=rfl
 have HBR:Hid (∀W,Calls Tryz.prog 168 #[.int .u8 op] W λe w'=>e=.returned .nilFunc∧W=w'):=xh λW=>(show brV op=.nilFunc by rcases ho with rfl|rfl|rfl|rfl<;>rfl)▸branch_any op (by omega) W
 have hbn:∀W,(binOp .neq 348 .nilFunc .nilFunc).run Tryz.prog W=.ok (.bool false) W:=λW=>by kernel_rfl
 have HME:Hid (∀W,CpuAt W pb sb perm c rest→Calls Tryz.prog 169 #[.pointer (some ⟨pb,0,none⟩),.agg #[.int .u8 op,.int .i64 A,.int .i64 B,.int .i16 imm]] W λe w'=>e=.panicked (trapP 131)∧Bel W w'):=xh λW hW=>mem_bad pb sb perm c rest op A B imm W hW ho hB hm
 have ho22:((op:Int)==22)=false:=beq_eq_false_iff_ne.2 (by omega)
 have ho23:((op:Int)==23)=false:=beq_eq_false_iff_ne.2 (by omega)
 have ho24:((op:Int)==24)=false:=beq_eq_false_iff_ne.2 (by omega)
 clear hm ho
 have hwp:IntKind.wrap .u64 (pc+4)=u64 (pc+4):=rfl
 obtain⟨sv,hsv⟩:∃sv,w.heap.size=sv:=⟨_,rfl⟩
 have HSV:=xh hsv
 have hpl:=h.blk.lt
 have hne:pb≠sv:=by omega
 have hne':sv≠pb:=by omega
 clear hf hsv h hra hrb hpc hpl
 go_enter_defers Tryz.func139,Tryz.ntmps139
 go_upto_region 3 with(go_at_call 166;((with_reducible refine Calls.mono (HF.out _ (Bel.start w _)) ?_);rintro e2 w2 ⟨rfl,k2⟩;have H2:=xh k2;clear k2))
 rw[HSV.out]
 have k3:Bel w (w2.alloc (.cells #[.int .u8 op,.int .i64 A,.int .i64 B,.int .i16 imm] 344)):=((Bel.start w _).tr H2.out).ac _
 have BI:Blk (w2.alloc (.cells #[.int .u8 op,.int .i64 A,.int .i64 B,.int .i16 imm] 344)) w2.heap.size [.int .u8 op,.int .i64 A,.int .i64 B,.int .i16 imm] 344:=Blk.new w2 _ _
 have BS:Blk (w2.alloc (.cells #[.int .u8 op,.int .i64 A,.int .i64 B,.int .i16 imm] 344)) sv [.int .i64 0] 3:=by rw[←HSV.out];exact((Blk.new w [.int .i64 0] 3).bel H2.out).alloc _
 have hsb:sv<w2.heap.size:=by have h1:=H2.out.size;have h2:=HSV.out;simp at h1;omega
 generalize w2.alloc (.cells #[.int .u8 op,.int .i64 A,.int .i64 B,.int .i16 imm] 344)=w3 at *
 obtain⟨bx,hbx⟩:∃bx,w2.heap.size=bx:=⟨_,rfl⟩
 rw[hbx]at BI hsb⊢
 have i0:w3.cell? ⟨bx,0,none⟩=some (.int .u8 op):=BI.cell 0
 have i1:w3.cell? ⟨bx,1,none⟩=some (.int .i64 A):=BI.cell 1
 have i2:w3.cell? ⟨bx,2,none⟩=some (.int .i64 B):=BI.cell 2
 have i3:w3.cell? ⟨bx,3,none⟩=some (.int .i16 imm):=BI.cell 3
 have s0:w3.cell? ⟨sv,0,none⟩=some (.int .i64 0):=BS.cell 0
 have sf:w3.frozen? ⟨sv,0,none⟩=false:=BS.frozen 0
 have p0:w3.cell? ⟨pb,0,none⟩=some (.int .u64 pc):=by have:=cell_bel k3 HC.out.c0;rwa [HPC.out]at this
 have pA:w3.cell? ⟨pb,1+A,none⟩=some (.int .u64 ra):=by have:=cell_bel k3 (HC.out.reg A hA);rwa [HRA.out]at this
 have pB:w3.cell? ⟨pb,1+B,none⟩=some (.int .u64 rb):=by have:=cell_bel k3 (HC.out.reg B hB);rwa [HRB.out]at this
 have K3:=xh k3
 have HBI:=xh BI
 have HBS:=xh BS
 have hnb:sv≠bx:=by omega
 have hnb':bx≠sv:=by omega
 clear k3 BI BS hbx H2
 go_quiet (fail)
 have BS:Blk (w3.drewN nq) sv [.int .i64 0] 3:=HBS.out
 have K4:Hid (Bel w (w3.drewN nq)):=xh (bel_drewN K3.out nq)
 replace i0:(w3.drewN nq).cell? ⟨bx,0,none⟩=some (.int .u8 op):=i0
 replace i1:(w3.drewN nq).cell? ⟨bx,1,none⟩=some (.int .i64 A):=i1
 replace i2:(w3.drewN nq).cell? ⟨bx,2,none⟩=some (.int .i64 B):=i2
 replace i3:(w3.drewN nq).cell? ⟨bx,3,none⟩=some (.int .i16 imm):=i3
 replace s0:(w3.drewN nq).cell? ⟨sv,0,none⟩=some (.int .i64 0):=s0
 replace sf:(w3.drewN nq).frozen? ⟨sv,0,none⟩=false:=sf
 replace p0:(w3.drewN nq).cell? ⟨pb,0,none⟩=some (.int .u64 pc):=p0
 replace pA:(w3.drewN nq).cell? ⟨pb,1+A,none⟩=some (.int .u64 ra):=pA
 have HI:Hid (Blk (w3.drewN nq) bx [.int .u8 op,.int .i64 A,.int .i64 B,.int .i16 imm] 344):=xh HBI.out
 generalize w3.drewN nq=w4 at *
 clear pB K3 HBS HBI w3
 have hpx:pb≠bx:=λe=>by have h1:=HC.out.blk.bel K4.out;exact blk_ne h1 HI.out (by decide) e
 have hpx':bx≠pb:=λe=>hpx e.symm
 have pf:∀o,w4.frozen? ⟨pb,o,none⟩=false:=(HC.out.blk.bel K4.out).frozen
 go_wp2_with (first
  | (go_at_call 167;((with_reducible refine Calls.mono (HAL.out _) ?_);rintro e5 w5 ⟨rfl,rfl⟩))
  | (go_at_call 168;((with_reducible refine Calls.mono (HBR.out _) ?_);rintro e5 w5 ⟨rfl,rfl⟩))
  | (go_at_call 169;((with_reducible refine Calls.mono (HME.out _ (HC.out.bel K4.out)) ?_);rintro e6 w6 ⟨rfl,hk6⟩;have H6:=xh hk6;clear hk6)))
 have hB:Blk w6 sv [.int .i64 0] 3:=BS.bel H6.out
 refine leaves_cons (f:=165) (args:= #[.pointer (some ⟨sv,0,none⟩)]) (by simp) (by simp[go_sem]) ?_
 refine(catch_trap ⟨sv,0,none⟩ 0 131 _ (hB.cell 0) (hB.frozen 0)).mono ?_
 rintro e u' w'' ⟨rfl,rfl,rfl⟩
 have hc:(w6.setCell ⟨sv,0,none⟩ (.int .i64 131)).cell? ⟨sv,0,none⟩=some (.int .i64 131):=(hB.setCell (o:=0) (.int .i64 131)).cell 0
 simp[Leaves,settle,results,Tryz.results139,go_sem,hc]
 exact(K4.out.tr H6.out).store (by show w.heap.size≤sv;rw[HSV.out];exact Nat.le_refl _) _
end Go.Proofs.YtjdaddmjpicflaaGreatDoor
