/- (*CPU).memory walked. -/
import Derived.StillTailTactics
import Derived.Test.YtjdaddmjpicflaaGreatDoorP22
set_option linter.unusedVariables false
set_option linter.unusedSimpArgs false
set_option maxRecDepth 100000
set_option maxHeartbeats 16000000
namespace Go.Proofs.YtjdaddmjpicflaaGreatDoor
open Go.RowKit Go.Maps
theorem cpuD_set (pc:Int) (regs:List Int) (sp:Value) (rest:List Value) (A:Nat) (v:Int) (h:A<regs.length):(cpuD pc regs sp++rest).set (1+A) (.int .u64 v)=cpuD pc (regs.set A v) sp++rest:=by
 rw[Nat.add_comm]
 simp only[cpuD,List.cons_append,List.set_cons_succ]
 rw[List.append_assoc,List.set_append_left _ _ (by simpa using h),←List.map_set,←List.append_assoc]
theorem CpuAt.setReg {w:World} {pb sb:Nat} {perm:Nat→Option Int} {c:Cpu} {rest:List Value} (h:CpuAt w pb sb perm c rest) (A:Nat) (hA:A<16) (v:Int) (hv:U v) (hne:sb≠pb):CpuAt (w.setCell ⟨pb,1+A,none⟩ (.int .u64 v)) pb sb perm {c with regs:=c.regs.set A v} rest:=by
 refine⟨?_,h.sp.keep (Keep.setCell w pb (1+A) _) hne,h.pc,⟨by rw[List.length_set];exact h.regs.len,λx hx=>?_⟩,h.mem⟩
 ·have:=h.blk.setCell (o:=1+A) (.int .u64 v)
  rwa [cpuD_set _ _ _ _ _ _ (by rw[h.regs.len];exact hA)]at this
 ·rcases List.mem_or_eq_of_mem_set hx with h1|rfl
  ·exact h.regs.u x h1
  ·exact hv
theorem CpuAt.ne {w:World} {pb sb:Nat} {perm:Nat→Option Int} {c:Cpu} {rest:List Value} (h:CpuAt w pb sb perm c rest):sb≠pb:=λe=>by
 obtain⟨kv,hm,_⟩:=h.sp
 obtain⟨es,clock,hb,_⟩:=hm
 have hB:=h.blk
 unfold Blk at hB
 rw[←e,hb]at hB
 injection hB with hB
 cases hB
def memA (c:Cpu) (B:Nat) (imm:Int):Int:=u64 (c.regs.getD B 0+u64 imm)
def memN (op:Nat):Int:=if op=16∨op=17 then 1 else 8
def memK (op:Nat):Int:=if op=15∨op=17 then 2 else 4
theorem U_u64 (n:Int):U (u64 n):=by unfold U u64;omega
theorem mem_bad (pb sb:Nat) (perm:Nat→Option Int) (c:Cpu) (rest:List Value) (op A B:Nat) (imm:Int) (w:World) (h:CpuAt w pb sb perm c rest) (ho:op=14∨op=15∨op=16∨op=17) (hB:B<16) (hm:mayB (pagesOf perm c.M) (memA c B imm) (memN op) (memK op)=false) :
 Calls Tryz.prog 169 #[.pointer (some ⟨pb,0,none⟩),.agg #[.int .u8 op,.int .i64 A,.int .i64 B,.int .i16 imm]] w λe w'=>e=.panicked (trapP 131)∧Bel w w':=by
 have hr:=h.reg B hB
 have c17:=h.c17
 have hpl:=h.blk.lt
 have hmay:=λq=>may_quiet sb (pagesOf perm c.M) (memA c B imm) (memN op) (memK op) (w.alloc (.cells #[.int .u8 op,.int .i64 A,.int .i64 B,.int .i16 imm] 344)) (h.sp.alloc _) (U_u64 _) (by unfold memN;split<;>omega) (by unfold memN;split<;>omega) q
 rw[hm]at hmay
 obtain⟨rv,hrv⟩:∃rv,c.regs.getD B 0=rv:=⟨_,rfl⟩
 have hma:memA c B imm=u64 (rv+u64 imm):=by unfold memA;rw[hrv]
 rw[hma]at hmay
 rw[hrv]at hr
 have hwi:IntKind.wrap .u64 imm=u64 imm:=rfl
 have hwa:IntKind.wrap .u64 (rv+u64 imm)=u64 (rv+u64 imm):=rfl
 have HM:=xh hmay
 clear hmay h hm hma hrv
 rcases ho with rfl|rfl|rfl|rfl
 all_goals
  go_enter Tryz.func169,Tryz.ntmps169
  go_upto_region 9 with fail
  go_quiet (fail)
  go_wp2_with ((go_at_call 114;refine(HM.out _).mono ?_;rintro e w2 ⟨rfl,rfl⟩))
  go_wp2_with fail
  exact⟨rfl,rfl,bel_drewN (Bel.start _ _) _⟩
theorem cell_setCell_blk {w:World} {pb o p:Nat} {cs:List Value} {t:TypeId} {x:Option Value} (B:Blk w pb cs t) (h:o≠p) (m:w.cell? ⟨pb,p,none⟩=x) (v:Value):(w.setCell ⟨pb,o,none⟩ v).cell? ⟨pb,p,none⟩=x:=by
 rw[(B.setCell v).cell,List.getElem?_set_ne h,←B.cell,m]
def bytesAt (M:Nat→Int) (a:Int) (n:Nat):List Int:=(List.range n).map λi=>M (a.toNat+i)
theorem bts_bytesAt {W:World} {g n:Nat} {M:Nat→Int} {a:Nat} (hM:∀a,0≤M a∧M a≤255) (h:Blk W g (rowOf (λi=>M (a+i)) n) 5):Bts W g 0 (bytesAt M a n):=by
 refine⟨λi hi=>?_,λi hi=>?_⟩
 ·have hi':i<n:=by simpa [bytesAt]using hi
  rw[Nat.zero_add,h.cell,rowOf_get _ _ _ hi']
  simp[bytesAt,hi']
 ·obtain⟨k,_,rfl⟩:=List.mem_map.1 hi
  exact hM _
theorem mem_load14 (pb sb:Nat) (perm:Nat→Option Int) (c:Cpu) (rest:List Value) (A B:Nat) (imm:Int) (w:World) (h:CpuAt w pb sb perm c rest) (hA:A<16) (hB:B<16) (hm:mayB (pagesOf perm c.M) (memA c B imm) 8 4=true) :
 Calls Tryz.prog 169 #[.pointer (some ⟨pb,0,none⟩),.agg #[.int .u8 14,.int .i64 A,.int .i64 B,.int .i16 imm]] w λe w'=>e=.returned (.tuple #[])∧CpuAt w' pb sb perm {c with regs:=c.regs.set A (numV (bytesAt c.M (memA c B imm) 8))} rest∧Keep (λk=>k=pb) w w':=by
 have hA0:(0:Int)≤A:=by omega
 have hA1:(A:Int)<16:=by omega
 have hr:=h.reg B hB
 have c17:=h.c17
 have hpl:=h.blk.lt
 obtain⟨a0,a1⟩:=U_u64 (c.regs.getD B 0+u64 imm)
 obtain⟨an,han⟩:=Int.eq_ofNat_of_zero_le a0
 have hmay:=λq=>may_quiet sb (pagesOf perm c.M) (memA c B imm) 8 4 (w.alloc (.cells #[.int .u8 14,.int .i64 A,.int .i64 B,.int .i16 imm] 344)) (h.sp.alloc _) (U_u64 _) (by omega) (by omega) q
 rw[hm]at hmay
 obtain⟨rv,hrv⟩:∃rv,c.regs.getD B 0=rv:=⟨_,rfl⟩
 have hma:memA c B imm=u64 (rv+u64 imm):=by unfold memA;rw[hrv]
 have hman:memA c B imm=an:=han
 have hm2:=hm
 rw[hman]at hm2
 obtain⟨hA2,hperm⟩:=may_perm (by omega) hm2 (by decide)
 have hpk:∀W,Bel w W→Calls Tryz.prog 206 #[.map (some sb),.int .u64 (u64 (rv+u64 imm)),.int .i64 8] W λe w'=>∃g,e=.returned (.slice (some ⟨g,0,none⟩) 8 8)∧W.heap.size≤g∧Bts w' g 0 (bytesAt c.M (memA c B imm) 8)∧Bel W w':=λW hW=>by
  rw[←hma,hman]
  refine(peek_any sb perm c.M an 8 W (h.sp.bel hW) (by omega) (λa h1 h2=>hperm a h1 (by omega))).mono ?_
  rintro e w' ⟨g,h1,h2,h3,h4⟩
  exact⟨g,h1,h2,bts_bytesAt h.mem h3,h4⟩
 obtain⟨bs,hbs⟩:∃bs,bytesAt c.M (memA c B imm) 8=bs:=⟨_,rfl⟩
 have hbl:bs.length=8:=by rw[←hbs];simp[bytesAt]
 have hnum:∀g W,Bts W g 0 bs→Calls Tryz.prog 113 #[.slice (some ⟨g,0,none⟩) 8 8] W λe w'=>e=.returned (.int .u64 (numV bs))∧W=w':=λg W hW=>by
  have:=number_any g 0 8 bs W (by omega) hW
  rw[hbl]at this
  exact this
 rw[hbs]at hpk⊢
 rw[hma]at hmay
 rw[hrv]at hr
 have hwi:IntKind.wrap .u64 imm=u64 imm:=rfl
 have hwa:IntKind.wrap .u64 (rv+u64 imm)=u64 (rv+u64 imm):=rfl
 have HM:=xh hmay
 have HPK:=xh hpk
 have HN:=xh hnum
 have HC:=xh h
 have HL:=xh hbl
 obtain⟨bx,hbx⟩:∃bx,w.heap.size=bx:=⟨_,rfl⟩
 have HBX:=xh hbx
 clear hmay h hm hma hrv hpk hnum hbs hbl hm2 hA2 hperm han hman hbx a0 a1
 go_enter Tryz.func169,Tryz.ntmps169
 go_upto_region 9 with fail
 go_quiet (fail)
 go_upto_region 13 with((go_at_call 114;refine(HM.out _).mono ?_;rintro e w2 ⟨rfl,rfl⟩))
 have k1:Bel w ((w.alloc (.cells #[.int .u8 14,.int .i64 A,.int .i64 B,.int .i16 imm] 344)).drewN nq):=bel_drewN (Bel.start _ _) nq
 have BR:Blk ((w.alloc (.cells #[.int .u8 14,.int .i64 A,.int .i64 B,.int .i16 imm] 344)).drewN nq) bx [.int .u8 14,.int .i64 A,.int .i64 B,.int .i16 imm] 344:=by rw[←HBX.out];exact Blk.new w _ _
 rw[HBX.out]
 have e1:=BR.cell 1
 simp only[List.getElem?_cons_succ,List.getElem?_cons_zero]at e1
 have e17:=cell_bel k1 c17
 obtain⟨ra,hra⟩:∃ra,((w.alloc (.cells #[.int .u8 14,.int .i64 A,.int .i64 B,.int .i16 imm] 344)).drewN nq).cell? ⟨pb,1+A,none⟩=some (.int .u64 ra):=⟨_,cell_bel k1 (HC.out.reg A hA)⟩
 generalize (w.alloc (.cells #[.int .u8 14,.int .i64 A,.int .i64 B,.int .i16 imm] 344)).drewN nq=w1 at *
 have K1:=xh k1
 have hbx1:bx<w1.heap.size:=BR.lt
 have hpl1:pb<w1.heap.size:=World.block_lt_of_cell? _ _ e17
 have HS1:∀W,Bel w1 W→W.cell? ⟨bx,1,none⟩=some (.int .i64 A)∧W.cell? ⟨pb,17,none⟩=some (.map (some sb)):=λW hW=>⟨cell_bel hW e1,cell_bel hW e17⟩
 have HS:=xh HS1
 have hbn:bx≠pb:=by have:=HBX.out;omega
 have hbn':pb≠bx:=λe=>hbn e.symm
 have ha1:1+A≠17:=by omega
 have ha2:17≠1+A:=by omega
 clear HS1 c17 hr k1 BR hpl
 go_region_held3 (λw'=>w'.cell? ⟨bx,1,none⟩=some (.int .i64 A)∧w'.cell? ⟨pb,17,none⟩=some (.map (some sb)))
  (first|(go_keep;done)|(refine⟨?_,?_⟩<;>first|(go_keep;done)|exact hst _))
  (first
    | (go_at_call 206;with_reducible refine Calls.mono (HPK.out _ (K1.out.tr (Bel.drew (Bel.refl _)))) ?_;rintro e3 w3 ⟨g,rfl,hg,hB,hk3⟩;have m1:w3.cell? ⟨bx,1,none⟩=some (.int .i64 A):=cell_bel (Bel.tr (Bel.drew (Bel.refl _)) hk3) e1;have m17:w3.cell? ⟨pb,17,none⟩=some (.map (some sb)):=cell_bel (Bel.tr (Bel.drew (Bel.refl _)) hk3) e17;have mA:w3.cell? ⟨pb,1+A,none⟩=some (.int .u64 ra):=cell_bel (Bel.tr (Bel.drew (Bel.refl _)) hk3) hra;have mF:w3.frozen? ⟨pb,1+A,none⟩=false:=(HC.out.blk.bel (K1.out.tr (Bel.tr (Bel.drew (Bel.refl _)) hk3))).frozen _;have hst:=cell_setCell_blk (HC.out.blk.bel (K1.out.tr (Bel.tr (Bel.drew (Bel.refl _)) hk3))) ha1 m17;have H3:=xh (And.intro hg (And.intro hB hk3));clear hg hB hk3)
    | (go_at_call 113;with_reducible refine Calls.mono (HN.out _ _ H3.out.2.1) ?_;rintro e4 w4 ⟨rfl,rfl⟩))
 go_wp2_with fail
 refine bodyPost_ret (v:=.tuple #[]) (results_none (by kernel_rfl) _ _ _) rfl ?_
 have hkw:=K1.out.tr (Bel.tr (Bel.drew (Bel.refl _)) H3.out.2.2)
 refine⟨rfl,(HC.out.bel hkw).setReg A hA (numV bs) (numV_u64 bs H3.out.2.1.byte (by rw[HL.out];omega)) HC.out.ne,(Keep.of_bel _ hkw).tr (Keep.setCell _ _ _ _)⟩
theorem mem_load16 (pb sb:Nat) (perm:Nat→Option Int) (c:Cpu) (rest:List Value) (A B:Nat) (imm:Int) (w:World) (h:CpuAt w pb sb perm c rest) (hA:A<16) (hB:B<16) (hm:mayB (pagesOf perm c.M) (memA c B imm) 1 4=true) :
 Calls Tryz.prog 169 #[.pointer (some ⟨pb,0,none⟩),.agg #[.int .u8 16,.int .i64 A,.int .i64 B,.int .i16 imm]] w λe w'=>e=.returned (.tuple #[])∧CpuAt w' pb sb perm {c with regs:=c.regs.set A (numV (bytesAt c.M (memA c B imm) 1))} rest∧Keep (λk=>k=pb) w w':=by
 have hA0:(0:Int)≤A:=by omega
 have hA1:(A:Int)<16:=by omega
 have hr:=h.reg B hB
 have c17:=h.c17
 have hpl:=h.blk.lt
 obtain⟨a0,a1⟩:=U_u64 (c.regs.getD B 0+u64 imm)
 obtain⟨an,han⟩:=Int.eq_ofNat_of_zero_le a0
 have hmay:=λq=>may_quiet sb (pagesOf perm c.M) (memA c B imm) 1 4 (w.alloc (.cells #[.int .u8 16,.int .i64 A,.int .i64 B,.int .i16 imm] 344)) (h.sp.alloc _) (U_u64 _) (by omega) (by omega) q
 rw[hm]at hmay
 obtain⟨rv,hrv⟩:∃rv,c.regs.getD B 0=rv:=⟨_,rfl⟩
 have hma:memA c B imm=u64 (rv+u64 imm):=by unfold memA;rw[hrv]
 have hman:memA c B imm=an:=han
 have hm2:=hm
 rw[hman]at hm2
 obtain⟨hA2,hperm⟩:=may_perm (by omega) hm2 (by decide)
 have hpk:∀W,Bel w W→Calls Tryz.prog 206 #[.map (some sb),.int .u64 (u64 (rv+u64 imm)),.int .i64 1] W λe w'=>∃g,e=.returned (.slice (some ⟨g,0,none⟩) 1 1)∧W.heap.size≤g∧Bts w' g 0 (bytesAt c.M (memA c B imm) 1)∧Bel W w':=λW hW=>by
  rw[←hma,hman]
  refine(peek_any sb perm c.M an 1 W (h.sp.bel hW) (by omega) (λa h1 h2=>hperm a h1 (by omega))).mono ?_
  rintro e w' ⟨g,h1,h2,h3,h4⟩
  exact⟨g,h1,h2,bts_bytesAt h.mem h3,h4⟩
 obtain⟨bs,hbs⟩:∃bs,bytesAt c.M (memA c B imm) 1=bs:=⟨_,rfl⟩
 have hbl:bs.length=1:=by rw[←hbs];simp[bytesAt]
 have hnum:∀g W,Bts W g 0 bs→Calls Tryz.prog 113 #[.slice (some ⟨g,0,none⟩) 1 1] W λe w'=>e=.returned (.int .u64 (numV bs))∧W=w':=λg W hW=>by
  have:=number_any g 0 1 bs W (by omega) hW
  rw[hbl]at this
  exact this
 rw[hbs]at hpk⊢
 rw[hma]at hmay
 rw[hrv]at hr
 have hwi:IntKind.wrap .u64 imm=u64 imm:=rfl
 have hwa:IntKind.wrap .u64 (rv+u64 imm)=u64 (rv+u64 imm):=rfl
 have HM:=xh hmay
 have HPK:=xh hpk
 have HN:=xh hnum
 have HC:=xh h
 have HL:=xh hbl
 obtain⟨bx,hbx⟩:∃bx,w.heap.size=bx:=⟨_,rfl⟩
 have HBX:=xh hbx
 clear hmay h hm hma hrv hpk hnum hbs hbl hm2 hA2 hperm han hman hbx a0 a1
 go_enter Tryz.func169,Tryz.ntmps169
 go_upto_region 9 with fail
 go_quiet (fail)
 go_upto_region 13 with((go_at_call 114;refine(HM.out _).mono ?_;rintro e w2 ⟨rfl,rfl⟩))
 have k1:Bel w ((w.alloc (.cells #[.int .u8 16,.int .i64 A,.int .i64 B,.int .i16 imm] 344)).drewN nq):=bel_drewN (Bel.start _ _) nq
 have BR:Blk ((w.alloc (.cells #[.int .u8 16,.int .i64 A,.int .i64 B,.int .i16 imm] 344)).drewN nq) bx [.int .u8 16,.int .i64 A,.int .i64 B,.int .i16 imm] 344:=by rw[←HBX.out];exact Blk.new w _ _
 rw[HBX.out]
 have e1:=BR.cell 1
 simp only[List.getElem?_cons_succ,List.getElem?_cons_zero]at e1
 have e17:=cell_bel k1 c17
 obtain⟨ra,hra⟩:∃ra,((w.alloc (.cells #[.int .u8 16,.int .i64 A,.int .i64 B,.int .i16 imm] 344)).drewN nq).cell? ⟨pb,1+A,none⟩=some (.int .u64 ra):=⟨_,cell_bel k1 (HC.out.reg A hA)⟩
 generalize (w.alloc (.cells #[.int .u8 16,.int .i64 A,.int .i64 B,.int .i16 imm] 344)).drewN nq=w1 at *
 have K1:=xh k1
 have hbx1:bx<w1.heap.size:=BR.lt
 have hpl1:pb<w1.heap.size:=World.block_lt_of_cell? _ _ e17
 have HS1:∀W,Bel w1 W→W.cell? ⟨bx,1,none⟩=some (.int .i64 A)∧W.cell? ⟨pb,17,none⟩=some (.map (some sb)):=λW hW=>⟨cell_bel hW e1,cell_bel hW e17⟩
 have HS:=xh HS1
 have hbn:bx≠pb:=by have:=HBX.out;omega
 have hbn':pb≠bx:=λe=>hbn e.symm
 have ha1:1+A≠17:=by omega
 have ha2:17≠1+A:=by omega
 clear HS1 c17 hr k1 BR hpl
 go_region_held3 (λw'=>w'.cell? ⟨bx,1,none⟩=some (.int .i64 A)∧w'.cell? ⟨pb,17,none⟩=some (.map (some sb)))
  (first|(go_keep;done)|(refine⟨?_,?_⟩<;>first|(go_keep;done)|exact hst _))
  (first
    | (go_at_call 206;with_reducible refine Calls.mono (HPK.out _ (K1.out.tr (Bel.drew (Bel.refl _)))) ?_;rintro e3 w3 ⟨g,rfl,hg,hB,hk3⟩;have m1:w3.cell? ⟨bx,1,none⟩=some (.int .i64 A):=cell_bel (Bel.tr (Bel.drew (Bel.refl _)) hk3) e1;have m17:w3.cell? ⟨pb,17,none⟩=some (.map (some sb)):=cell_bel (Bel.tr (Bel.drew (Bel.refl _)) hk3) e17;have mA:w3.cell? ⟨pb,1+A,none⟩=some (.int .u64 ra):=cell_bel (Bel.tr (Bel.drew (Bel.refl _)) hk3) hra;have mF:w3.frozen? ⟨pb,1+A,none⟩=false:=(HC.out.blk.bel (K1.out.tr (Bel.tr (Bel.drew (Bel.refl _)) hk3))).frozen _;have hst:=cell_setCell_blk (HC.out.blk.bel (K1.out.tr (Bel.tr (Bel.drew (Bel.refl _)) hk3))) ha1 m17;have H3:=xh (And.intro hg (And.intro hB hk3));clear hg hB hk3)
    | (go_at_call 113;with_reducible refine Calls.mono (HN.out _ _ H3.out.2.1) ?_;rintro e4 w4 ⟨rfl,rfl⟩))
 go_wp2_with fail
 refine bodyPost_ret (v:=.tuple #[]) (results_none (by kernel_rfl) _ _ _) rfl ?_
 have hkw:=K1.out.tr (Bel.tr (Bel.drew (Bel.refl _)) H3.out.2.2)
 refine⟨rfl,(HC.out.bel hkw).setReg A hA (numV bs) (numV_u64 bs H3.out.2.1.byte (by rw[HL.out];omega)) HC.out.ne,(Keep.of_bel _ hkw).tr (Keep.setCell _ _ _ _)⟩
theorem bts_put {w:World} {g:Nat} {t:TypeId} (n:Int) (hn:U n) (h:Blk w g (rowOf (putF (λ_=>0) 0 n) 8) t):Bts w g 0 (bytes8F n):=by
 obtain⟨n0,n1⟩:=hn
 refine⟨λi hi=>?_,λx hx=>?_⟩
 ·have hi:i<8:=hi
  rw[Nat.zero_add,h.cell,rowOf_get _ _ _ hi]
  rcases(by omega:i=0∨i=1∨i=2∨i=3∨i=4∨i=5∨i=6∨i=7)with rfl|rfl|rfl|rfl|rfl|rfl|rfl|rfl<;>rfl
 ·simp only[bytes8F,List.mem_cons,List.not_mem_nil,or_false]at hx
  omega
theorem bts_take1 {w:World} {g:Nat} {n:Int} (h:Bts w g 0 (bytes8F n)):Bts w g 0 ((bytes8F n).take 1):=by
 refine⟨λi hi=>?_,λx hx=>h.byte x (List.mem_of_mem_take hx)⟩
 have hi:i<1:=hi
 obtain rfl:i=0:=by omega
 exact h.cell 0 (by show 0<8;omega)
theorem bytes8F_byte {n:Int} (hn:U n):∀x∈bytes8F n,0≤x∧x≤255:=by
 obtain⟨n0,n1⟩:=hn
 intro x hx
 simp only[bytes8F,List.mem_cons,List.not_mem_nil,or_false]at hx
 omega
theorem pokeM_byte {M:Nat→Int} {A:Nat} {bs:List Int} (hM:∀a,0≤M a∧M a≤255) (hb:∀x∈bs,0≤x∧x≤255) (a:Nat):0≤pokeM M A bs a∧pokeM M A bs a≤255:=by
 unfold pokeM
 split
 ·rename_i h
  rw[List.getD_eq_getElem?_getD,List.getElem?_eq_getElem (by omega)]
  exact hb _ (List.getElem_mem _)
 ·exact hM a
theorem CpuAt.regU {w:World} {pb sb:Nat} {perm:Nat→Option Int} {c:Cpu} {rest:List Value} (h:CpuAt w pb sb perm c rest) (i:Nat):U (c.regs.getD i 0):=by
 rw[List.getD_eq_getElem?_getD]
 cases hx:c.regs[i]? with
 | none=>exact⟨by simp,by simp⟩
 | some x=>exact h.regs.u x (List.mem_of_getElem? hx)
theorem mem_store15 (pb sb:Nat) (perm:Nat→Option Int) (c:Cpu) (rest:List Value) (A B:Nat) (imm:Int) (w:World) (h:CpuAt w pb sb perm c rest) (hA:A<16) (hB:B<16) (hm:mayB (pagesOf perm c.M) (memA c B imm) 8 2=true) :
 Calls Tryz.prog 169 #[.pointer (some ⟨pb,0,none⟩),.agg #[.int .u8 15,.int .i64 A,.int .i64 B,.int .i16 imm]] w λe w'=>e=.returned (.tuple #[])∧CpuAt w' pb sb perm {c with M:=pokeM c.M (memA c B imm).toNat (bytes8F (c.regs.getD A 0))} rest∧Keep (λk=>k=sb) w w':=by
 have hA0:(0:Int)≤A:=by omega
 have hA1:(A:Int)<16:=by omega
 have hr:=h.reg B hB
 have c17:=h.c17
 have hpl:=h.blk.lt
 obtain⟨a0,a1⟩:=U_u64 (c.regs.getD B 0+u64 imm)
 obtain⟨an,han⟩:=Int.eq_ofNat_of_zero_le a0
 have hmay:=λq=>may_quiet sb (pagesOf perm c.M) (memA c B imm) 8 2 (w.alloc (.cells #[.int .u8 15,.int .i64 A,.int .i64 B,.int .i16 imm] 344)) (h.sp.alloc _) (U_u64 _) (by omega) (by omega) q
 rw[hm]at hmay
 obtain⟨rv,hrv⟩:∃rv,c.regs.getD B 0=rv:=⟨_,rfl⟩
 have hma:memA c B imm=u64 (rv+u64 imm):=by unfold memA;rw[hrv]
 have hman:memA c B imm=an:=han
 have hm2:=hm
 rw[hman]at hm2
 obtain⟨hA2,hperm⟩:=may_perm (by omega) hm2 (by decide)
 rw[hma]at hmay
 have HMA:=xh hma
 rw[hrv]at hr
 have hwi:IntKind.wrap .u64 imm=u64 imm:=rfl
 have hwa:IntKind.wrap .u64 (rv+u64 imm)=u64 (rv+u64 imm):=rfl
 have HM:=xh hmay
 have HC:=xh h
 obtain⟨bx,hbx⟩:∃bx,w.heap.size=bx:=⟨_,rfl⟩
 have HBX:=xh hbx
 have HPM:=xh hperm
 have HAN:=xh (And.intro hA2 hman)
 clear hperm hA2 hman han
 clear hmay h hm hma hrv hm2 hbx a0 a1
 go_enter Tryz.func169,Tryz.ntmps169
 go_upto_region 9 with fail
 go_quiet (fail)
 go_upto_region 15 with((go_at_call 114;refine(HM.out _).mono ?_;rintro e w2 ⟨rfl,rfl⟩))
 have k1:Bel w ((w.alloc (.cells #[.int .u8 15,.int .i64 A,.int .i64 B,.int .i16 imm] 344)).drewN nq):=bel_drewN (Bel.start _ _) nq
 have BR:Blk ((w.alloc (.cells #[.int .u8 15,.int .i64 A,.int .i64 B,.int .i16 imm] 344)).drewN nq) bx [.int .u8 15,.int .i64 A,.int .i64 B,.int .i16 imm] 344:=by rw[←HBX.out];exact Blk.new w _ _
 have hsz:((w.alloc (.cells #[.int .u8 15,.int .i64 A,.int .i64 B,.int .i16 imm] 344)).drewN nq).heap.size=bx+1:=by rw[←HBX.out];exact Array.size_push ..
 generalize (w.alloc (.cells #[.int .u8 15,.int .i64 A,.int .i64 B,.int .i16 imm] 344)).drewN nq=w1 at *
 have k2:Bel w1 (w1.alloc (.cells #[.int .u8 0,.int .u8 0,.int .u8 0,.int .u8 0,.int .u8 0,.int .u8 0,.int .u8 0,.int .u8 0] 273)):=Bel.start _ _
 have BG:Blk (w1.alloc (.cells #[.int .u8 0,.int .u8 0,.int .u8 0,.int .u8 0,.int .u8 0,.int .u8 0,.int .u8 0,.int .u8 0] 273)) w1.heap.size (rowOf (λ_=>0) 8) 273:=Blk.new w1 _ _
 rw[hsz]at BG
 rw[HBX.out]
 generalize w1.alloc (.cells #[.int .u8 0,.int .u8 0,.int .u8 0,.int .u8 0,.int .u8 0,.int .u8 0,.int .u8 0,.int .u8 0] 273)=w2 at *
 have KW:=xh (k1.tr k2)
 have e1:w2.cell? ⟨bx,1,none⟩=some (.int .i64 A):=cell_bel k2 (BR.cell 1)
 have e17:w2.cell? ⟨pb,17,none⟩=some (.map (some sb)):=cell_bel KW.out c17
 obtain⟨ra,hra⟩:∃ra,c.regs.getD A 0=ra:=⟨_,rfl⟩
 have eA:w2.cell? ⟨pb,1+A,none⟩=some (.int .u64 ra):=by rw[←hra];exact cell_bel KW.out (HC.out.reg A hA)
 have HRA:=xh hra
 have HBG:=xh BG
 have HSZ:=xh hsz
 clear k1 k2 BR BG hra hr c17 hpl hsz
 go_still_tail 8,(by kernel_rfl)
 change wpList _ _ _ _ _ w2.drew
 have HPT:=xh (put_any (bx+1) 0 8 (λ_=>0) 273 8 ra w2.drew (HBG.out.bel (Bel.drew (Bel.refl _))) (by omega) (by omega) (by omega) (by rw[←HRA.out];exact(HC.out.regU A).1) (by rw[←HRA.out];exact(HC.out.regU A).2))
 go_upto_region 16 with((go_at_call 118;refine Calls.mono HPT.out ?_;rintro e3 w3 ⟨rfl,hB3,hk3⟩;have H3:=xh (And.intro hB3 hk3);clear hB3 hk3))
 have hne1:pb≠bx+1:=by have:=HC.out.blk.lt;have:=HBX.out;omega
 have hle:pb<w2.drew.heap.size:=(HC.out.blk.bel (KW.out.tr (Bel.drew (Bel.refl _)))).lt
 have m17:w3.cell? ⟨pb,17,none⟩=some (.map (some sb)):=(H3.out.2.cell ⟨pb,17,none⟩ hle hne1).trans e17
 go_still_tail 7,(by kernel_rfl)
 change wpList _ _ _ _ _ w3.drew
 have HPK:Hid (Calls Tryz.prog 117 #[.map (some sb),.int .u64 (u64 (rv+u64 imm)),.slice (some ⟨bx+1,0,none⟩) 8 8] w3.drew λe w'=>e=.returned (.tuple #[])∧Sp w' sb (pagesOf perm (pokeM c.M an (bytes8F ra)))∧Keep (λk=>k=sb) w3.drew w'):=xh (by
  have hsl:=HC.out.sp.lt
  have hbx:=HBX.out
  rw[←HMA.out,HAN.out.2]
  exact poke_any sb perm c.M an (bytes8F ra) (some ⟨bx+1,0,none⟩) (bx+1) 0 8 w3.drew ((((HC.out.sp.bel KW.out).bel (Bel.drew (Bel.refl _))).keep H3.out.2 (λe=>by have e:sb=bx+1:=e;omega)).bel (Bel.drew (Bel.refl _))) (by have:=HAN.out.1;show an+8≤65536;omega) (λ_=>rfl) ((bts_put ra (by rw[←HRA.out];exact HC.out.regU A) H3.out.1).of_cell λ_ _=>rfl) (Nat.le_refl 8) (λa h1 h2=>HPM.out a h1 (by have:a<an+8:=h2;omega)))
 go_wp2_with ((go_at_call 117;refine Calls.mono HPK.out ?_;rintro e4 w4 ⟨rfl,hs4,hk4⟩;have H4:=xh (And.intro hs4 hk4);clear hs4 hk4))
 refine bodyPost_end (results_none (by kernel_rfl) _ _ _) rfl ?_
 have hne2:pb≠sb:=λe=>HC.out.ne e.symm
 have hkw:Keep (λk=>k=bx+1) w w3:=(Keep.of_bel _ (KW.out.tr (Bel.drew (Bel.refl _)))).tr H3.out.2
 have hbl3:Bel w w3:=hkw.below _ (Nat.le_refl _) (λk hk=>by have e:k=bx+1:=hk;have:=HBX.out;omega)
 have hk4:Keep (λk=>k=sb) w w4:=(Keep.of_bel _ (hbl3.tr (Bel.drew (Bel.refl _)))).tr H4.out.2
 have hb4:Blk w4 pb (cpuD c.pc c.regs (.map (some sb))++rest) 121:=by
  have hbw:=HC.out.blk
  have h1:Blk w3.drew pb (cpuD c.pc c.regs (.map (some sb))++rest) 121:=(show Blk w3 pb _ _ from(hkw.block pb hbw.lt hne1).trans hbw).bel (Bel.drew (Bel.refl _))
  exact(H4.out.2.block pb h1.lt hne2).trans h1
 refine⟨rfl,⟨hb4,?_,HC.out.pc,HC.out.regs,?_⟩,?_⟩
 ·have hs:=H4.out.1
  rw[show(memA c B imm).toNat=an from by rw[HAN.out.2];rfl,HRA.out]
  exact hs
 ·intro a
  show 0≤pokeM c.M _ _ a∧pokeM c.M _ _ a≤255
  exact pokeM_byte HC.out.mem (bytes8F_byte (HC.out.regU A)) a
 ·exact hk4
theorem mem_store17 (pb sb:Nat) (perm:Nat→Option Int) (c:Cpu) (rest:List Value) (A B:Nat) (imm:Int) (w:World) (h:CpuAt w pb sb perm c rest) (hA:A<16) (hB:B<16) (hm:mayB (pagesOf perm c.M) (memA c B imm) 1 2=true) :
 Calls Tryz.prog 169 #[.pointer (some ⟨pb,0,none⟩),.agg #[.int .u8 17,.int .i64 A,.int .i64 B,.int .i16 imm]] w λe w'=>e=.returned (.tuple #[])∧CpuAt w' pb sb perm {c with M:=pokeM c.M (memA c B imm).toNat ((bytes8F (c.regs.getD A 0)).take 1)} rest∧Keep (λk=>k=sb) w w':=by
 have hA0:(0:Int)≤A:=by omega
 have hA1:(A:Int)<16:=by omega
 have hr:=h.reg B hB
 have c17:=h.c17
 have hpl:=h.blk.lt
 obtain⟨a0,a1⟩:=U_u64 (c.regs.getD B 0+u64 imm)
 obtain⟨an,han⟩:=Int.eq_ofNat_of_zero_le a0
 have hmay:=λq=>may_quiet sb (pagesOf perm c.M) (memA c B imm) 1 2 (w.alloc (.cells #[.int .u8 17,.int .i64 A,.int .i64 B,.int .i16 imm] 344)) (h.sp.alloc _) (U_u64 _) (by omega) (by omega) q
 rw[hm]at hmay
 obtain⟨rv,hrv⟩:∃rv,c.regs.getD B 0=rv:=⟨_,rfl⟩
 have hma:memA c B imm=u64 (rv+u64 imm):=by unfold memA;rw[hrv]
 have hman:memA c B imm=an:=han
 have hm2:=hm
 rw[hman]at hm2
 obtain⟨hA2,hperm⟩:=may_perm (by omega) hm2 (by decide)
 rw[hma]at hmay
 have HMA:=xh hma
 rw[hrv]at hr
 have hwi:IntKind.wrap .u64 imm=u64 imm:=rfl
 have hwa:IntKind.wrap .u64 (rv+u64 imm)=u64 (rv+u64 imm):=rfl
 have HM:=xh hmay
 have HC:=xh h
 obtain⟨bx,hbx⟩:∃bx,w.heap.size=bx:=⟨_,rfl⟩
 have HBX:=xh hbx
 have HPM:=xh hperm
 have HAN:=xh (And.intro hA2 hman)
 clear hperm hA2 hman han
 clear hmay h hm hma hrv hm2 hbx a0 a1
 go_enter Tryz.func169,Tryz.ntmps169
 go_upto_region 9 with fail
 go_quiet (fail)
 go_upto_region 15 with((go_at_call 114;refine(HM.out _).mono ?_;rintro e w2 ⟨rfl,rfl⟩))
 have k1:Bel w ((w.alloc (.cells #[.int .u8 17,.int .i64 A,.int .i64 B,.int .i16 imm] 344)).drewN nq):=bel_drewN (Bel.start _ _) nq
 have BR:Blk ((w.alloc (.cells #[.int .u8 17,.int .i64 A,.int .i64 B,.int .i16 imm] 344)).drewN nq) bx [.int .u8 17,.int .i64 A,.int .i64 B,.int .i16 imm] 344:=by rw[←HBX.out];exact Blk.new w _ _
 have hsz:((w.alloc (.cells #[.int .u8 17,.int .i64 A,.int .i64 B,.int .i16 imm] 344)).drewN nq).heap.size=bx+1:=by rw[←HBX.out];exact Array.size_push ..
 generalize (w.alloc (.cells #[.int .u8 17,.int .i64 A,.int .i64 B,.int .i16 imm] 344)).drewN nq=w1 at *
 have k2:Bel w1 (w1.alloc (.cells #[.int .u8 0,.int .u8 0,.int .u8 0,.int .u8 0,.int .u8 0,.int .u8 0,.int .u8 0,.int .u8 0] 273)):=Bel.start _ _
 have BG:Blk (w1.alloc (.cells #[.int .u8 0,.int .u8 0,.int .u8 0,.int .u8 0,.int .u8 0,.int .u8 0,.int .u8 0,.int .u8 0] 273)) w1.heap.size (rowOf (λ_=>0) 8) 273:=Blk.new w1 _ _
 rw[hsz]at BG
 rw[HBX.out]
 generalize w1.alloc (.cells #[.int .u8 0,.int .u8 0,.int .u8 0,.int .u8 0,.int .u8 0,.int .u8 0,.int .u8 0,.int .u8 0] 273)=w2 at *
 have KW:=xh (k1.tr k2)
 have e1:w2.cell? ⟨bx,1,none⟩=some (.int .i64 A):=cell_bel k2 (BR.cell 1)
 have e17:w2.cell? ⟨pb,17,none⟩=some (.map (some sb)):=cell_bel KW.out c17
 obtain⟨ra,hra⟩:∃ra,c.regs.getD A 0=ra:=⟨_,rfl⟩
 have eA:w2.cell? ⟨pb,1+A,none⟩=some (.int .u64 ra):=by rw[←hra];exact cell_bel KW.out (HC.out.reg A hA)
 have HRA:=xh hra
 have HBG:=xh BG
 have HSZ:=xh hsz
 clear k1 k2 BR BG hra hr c17 hpl hsz
 go_still_tail 8,(by kernel_rfl)
 change wpList _ _ _ _ _ w2.drew
 have HPT:=xh (put_any (bx+1) 0 8 (λ_=>0) 273 8 ra w2.drew (HBG.out.bel (Bel.drew (Bel.refl _))) (by omega) (by omega) (by omega) (by rw[←HRA.out];exact(HC.out.regU A).1) (by rw[←HRA.out];exact(HC.out.regU A).2))
 go_upto_region 16 with((go_at_call 118;refine Calls.mono HPT.out ?_;rintro e3 w3 ⟨rfl,hB3,hk3⟩;have H3:=xh (And.intro hB3 hk3);clear hB3 hk3))
 have hne1:pb≠bx+1:=by have:=HC.out.blk.lt;have:=HBX.out;omega
 have hle:pb<w2.drew.heap.size:=(HC.out.blk.bel (KW.out.tr (Bel.drew (Bel.refl _)))).lt
 have m17:w3.cell? ⟨pb,17,none⟩=some (.map (some sb)):=(H3.out.2.cell ⟨pb,17,none⟩ hle hne1).trans e17
 go_still_tail 7,(by kernel_rfl)
 change wpList _ _ _ _ _ w3.drew
 have HPK:Hid (Calls Tryz.prog 117 #[.map (some sb),.int .u64 (u64 (rv+u64 imm)),.slice (some ⟨bx+1,0,none⟩) 1 8] w3.drew λe w'=>e=.returned (.tuple #[])∧Sp w' sb (pagesOf perm (pokeM c.M an ((bytes8F ra).take 1)))∧Keep (λk=>k=sb) w3.drew w'):=xh (by
  have hsl:=HC.out.sp.lt
  have hbx:=HBX.out
  rw[←HMA.out,HAN.out.2]
  exact poke_any sb perm c.M an ((bytes8F ra).take 1) (some ⟨bx+1,0,none⟩) (bx+1) 0 8 w3.drew ((((HC.out.sp.bel KW.out).bel (Bel.drew (Bel.refl _))).keep H3.out.2 (λe=>by have e:sb=bx+1:=e;omega)).bel (Bel.drew (Bel.refl _))) (by have:=HAN.out.1;show an+1≤65536;omega) (λ_=>rfl) ((bts_take1<|bts_put ra (by rw[←HRA.out];exact HC.out.regU A) H3.out.1).of_cell λ_ _=>rfl) (by decide:1≤8) (λa h1 h2=>HPM.out a h1 (by have:a<an+1:=h2;omega)))
 go_wp2_with ((go_at_call 117;refine Calls.mono HPK.out ?_;rintro e4 w4 ⟨rfl,hs4,hk4⟩;have H4:=xh (And.intro hs4 hk4);clear hs4 hk4))
 refine bodyPost_end (results_none (by kernel_rfl) _ _ _) rfl ?_
 have hne2:pb≠sb:=λe=>HC.out.ne e.symm
 have hkw:Keep (λk=>k=bx+1) w w3:=(Keep.of_bel _ (KW.out.tr (Bel.drew (Bel.refl _)))).tr H3.out.2
 have hbl3:Bel w w3:=hkw.below _ (Nat.le_refl _) (λk hk=>by have e:k=bx+1:=hk;have:=HBX.out;omega)
 have hk4:Keep (λk=>k=sb) w w4:=(Keep.of_bel _ (hbl3.tr (Bel.drew (Bel.refl _)))).tr H4.out.2
 have hb4:Blk w4 pb (cpuD c.pc c.regs (.map (some sb))++rest) 121:=by
  have hbw:=HC.out.blk
  have h1:Blk w3.drew pb (cpuD c.pc c.regs (.map (some sb))++rest) 121:=(show Blk w3 pb _ _ from(hkw.block pb hbw.lt hne1).trans hbw).bel (Bel.drew (Bel.refl _))
  exact(H4.out.2.block pb h1.lt hne2).trans h1
 refine⟨rfl,⟨hb4,?_,HC.out.pc,HC.out.regs,?_⟩,?_⟩
 ·have hs:=H4.out.1
  rw[show(memA c B imm).toNat=an from by rw[HAN.out.2];rfl,HRA.out]
  exact hs
 ·intro a
  show 0≤pokeM c.M _ _ a∧pokeM c.M _ _ a≤255
  exact pokeM_byte HC.out.mem (λx hx=>bytes8F_byte (HC.out.regU A) x (List.mem_of_mem_take hx)) a
 ·exact hk4
theorem blk_ne {w:World} {a b:Nat} {c d:List Value} {t u:TypeId} (h:Blk w a c t) (k:Blk w b d u) (hn:t≠u):a≠b:=by
 rintro rfl
 unfold Blk at h k
 rw[h]at k
 injection k with k
 injection k with _ k
 exact hn k
def immC (c:Cpu):Int:=IntKind.i16.wrap (insB c 2+insB c 3*256)
def rA (c:Cpu):Nat:=(insB c 1/16).toNat
def rB (c:Cpu):Nat:=(insB c 1%16).toNat
def vA (c:Cpu):Int:=c.regs.getD (rA c) 0
def vB (c:Cpu):Int:=c.regs.getD (rB c) 0
def opC (c:Cpu):Nat:=(insB c 0).toNat
def stepK (perm:Nat→Option Int) (c:Cpu):Nat:=
 if fetchB perm c=false then 129 else if insB c 0<1∨24<insB c 0 then 130 else if opC c=24 then 1 else
 if 14≤opC c∧opC c≤17∧mayB (pagesOf perm c.M) (memA c (rB c) (immC c)) (memN (opC c)) (memK (opC c))=false then 131 else 0
def stepC (c:Cpu):Cpu:=
 if opC c≤13 then{c with pc:=u64 (c.pc+4),regs:=c.regs.set (rA c) (aluF (opC c) (vA c) (vB c) (u64 (immC c)))}
 else if opC c=14 then{c with pc:=u64 (c.pc+4),regs:=c.regs.set (rA c) (numV (bytesAt c.M (memA c (rB c) (immC c)) 8))}
 else if opC c=15 then{c with pc:=u64 (c.pc+4),M:=pokeM c.M (memA c (rB c) (immC c)).toNat (bytes8F (vA c))}
 else if opC c=16 then{c with pc:=u64 (c.pc+4),regs:=c.regs.set (rA c) (numV (bytesAt c.M (memA c (rB c) (immC c)) 1))}
 else if opC c=17 then{c with pc:=u64 (c.pc+4),M:=pokeM c.M (memA c (rB c) (immC c)).toNat ((bytes8F (vA c)).take 1)}
 else if opC c=23 then{c with pc:=vA c}
 else{c with pc:=if brF (opC c) (vA c) (vB c)=true then u64 (c.pc+u64 (immC c))else u64 (c.pc+4),regs:=if opC c=22 then c.regs.set (rA c) (u64 (c.pc+4))else c.regs}
def stepR (perm:Nat→Option Int) (c:Cpu):Cpu:=if stepK perm c=0 then stepC c else c
theorem rA_lt {c:Cpu} (h:0≤insB c 1∧insB c 1≤255):rA c<16:=by unfold rA;omega
theorem rB_lt {c:Cpu} (h:0≤insB c 1∧insB c 1≤255):rB c<16:=by unfold rB;omega
theorem CpuAt.ins {w:World} {pb sb:Nat} {perm:Nat→Option Int} {c:Cpu} {rest:List Value} (h:CpuAt w pb sb perm c rest) (i:Nat):0≤insB c i∧insB c i≤255:=h.mem _
theorem decM_eq {c:Cpu} (h:∀i,0≤insB c i∧insB c i≤255):decM (insB c 0) (insB c 1) (insB c 2) (insB c 3)=.agg #[.int .u8 (opC c:Nat),.int .i64 (rA c:Nat),.int .i64 (rB c:Nat),.int .i16 (immC c)]:=by
 have h0:=h 0
 have h1:=h 1
 have e0:insB c 0=((opC c:Nat):Int):=by unfold opC;omega
 have e1:insB c 1/16=((rA c:Nat):Int):=by unfold rA;omega
 have e2:insB c 1%16=((rB c:Nat):Int):=by unfold rB;omega
 unfold decM immC
 rw[e0,e1,e2]
end Go.Proofs.YtjdaddmjpicflaaGreatDoor
