/- (*CPU).fetch walked. -/
import Derived.Deep.RegionHeld3
import Derived.RegionCalls
import Derived.Test.YtjdaddmjpicflaaGreatDoorP00
import Derived.Test.YtjdaddmjpicflaaGreatDoorP05
import Derived.Test.YtjdaddmjpicflaaGreatDoorP03
import Derived.Test.YtjdaddmjpicflaaGreatDoorP02
import Derived.Test.YtjdaddmjpicflaaGreatDoorP07
set_option linter.unusedVariables false
set_option linter.unusedSimpArgs false
set_option maxRecDepth 100000
set_option maxHeartbeats 16000000
namespace Go.Proofs.YtjdaddmjpicflaaGreatDoor
open Go.RowKit Go.Maps
def trapP (n:Int):List PanicEntry:=[{v:=.iface 340 (.int .i64 n),recovered:=false}]
def cpuD (pc:Int) (regs:List Int) (sp:Value):List Value:=.int .u64 pc::regs.map (Value.int .u64)++[sp]
structure RegsOk (regs:List Int):Prop where
 len:regs.length=16
 u:∀x∈regs,U x
structure CpuAt (w:World) (pb sb:Nat) (perm:Nat→Option Int) (c:Cpu) (rest:List Value):Prop where
 blk:Blk w pb (cpuD c.pc c.regs (.map (some sb))++rest) 121
 sp:Sp w sb (pagesOf perm c.M)
 pc:U c.pc
 regs:RegsOk c.regs
 mem:∀a,0≤c.M a∧c.M a≤255
theorem CpuAt.bel {w w':World} {pb sb:Nat} {perm:Nat→Option Int} {c:Cpu} {rest:List Value} (h:CpuAt w pb sb perm c rest) (k:Bel w w'):CpuAt w' pb sb perm c rest:=⟨h.blk.bel k,h.sp.bel k,h.pc,h.regs,h.mem⟩
theorem CpuAt.c0 {w:World} {pb sb:Nat} {perm:Nat→Option Int} {c:Cpu} {rest:List Value} (h:CpuAt w pb sb perm c rest):w.cell? ⟨pb,0,none⟩=some (.int .u64 c.pc):=by rw[h.blk.cell];rfl
theorem CpuAt.reg {w:World} {pb sb:Nat} {perm:Nat→Option Int} {c:Cpu} {rest:List Value} (h:CpuAt w pb sb perm c rest) (i:Nat) (hi:i<16):w.cell? ⟨pb,1+i,none⟩=some (.int .u64 (c.regs.getD i 0)):=by
 have hl:=h.regs.len
 rw[h.blk.cell,Nat.add_comm]
 simp only[cpuD,List.cons_append,List.getElem?_cons_succ]
 rw[List.append_assoc,List.getElem?_append_left (by simp;omega),List.getElem?_map,List.getD_eq_getElem?_getD,List.getElem?_eq_getElem (by omega)]
 rfl
theorem CpuAt.c17 {w:World} {pb sb:Nat} {perm:Nat→Option Int} {c:Cpu} {rest:List Value} (h:CpuAt w pb sb perm c rest):w.cell? ⟨pb,17,none⟩=some (.map (some sb)):=by
 have hl:=h.regs.len
 rw[h.blk.cell]
 simp only[cpuD,List.cons_append,List.getElem?_cons_succ]
 rw[List.append_assoc,List.getElem?_append_right (by simp;omega)]
 simp[hl]
def fetchB (perm:Nat→Option Int) (c:Cpu):Bool:=c.pc%4==0&&mayB (pagesOf perm c.M) c.pc 4 1
theorem may_perm {perm:Nat→Option Int} {M:Nat→Int} {a:Nat} {n k:Int} (hn:0<n) (h:mayB (pagesOf perm M) a n k=true) (hk:bits .and .u8 0 k=0):a+n≤65536∧∀x:Nat,a≤x→(x:Int)<a+n→(perm (x/256)).isSome=true:=by
 unfold mayB at h
 rw[if_neg (by omega)]at h
 split at h
 ·cases h
 ·rename_i h2
  refine⟨by omega,λx hx hx2=>?_⟩
  unfold mayAll at h
  have h3:=List.all_eq_true.1 h (x/256-((a:Int)/256).toNat) (List.mem_range.2 (by unfold lastOf;omega))
  rw[show((a:Int)/256).toNat+(x/256-((a:Int)/256).toNat)=x/256 from by omega]at h3
  unfold canAt Pg.can pagesOf at h3
  cases hp:perm (x/256)with
  | some p=>rfl
  | none=>
    rw[hp]at h3
    simp[Pg.zero,hk]at h3
theorem may_quiet (sb:Nat) (m:Pages) (a n k:Int) (w:World) (hs:Sp w sb m) (ha:U a) (hn : -9223372036854775808≤n) (hn1:n<9223372036854775808) (q:Nat) :
 Calls Tryz.prog 114 #[.map (some sb),.int .u64 a,.int .i64 n,.int .u8 k] (w.drewN q) λe w'=>e=.returned (.bool (mayB m a n k))∧w'=w.drewN q:=by
 refine(may_any sb m a n k (w.drewN q) (hs.of_block rfl) ha.1 ha.2 hn hn1).mono ?_
 rintro e w' ⟨h1,h2⟩
 exact⟨h1,h2.symm⟩
theorem fetch_bad (pb sb:Nat) (perm:Nat→Option Int) (c:Cpu) (rest:List Value) (w:World) (h:CpuAt w pb sb perm c rest) (hf:fetchB perm c=false) :
 Calls Tryz.prog 166 #[.pointer (some ⟨pb,0,none⟩)] w λe w'=>e=.panicked (trapP 129)∧Bel w w':=by
 have c0:=h.c0
 have c17:=h.c17
 have hpl:=h.blk.lt
 obtain⟨p0,p1⟩:=h.pc
 obtain⟨pc,hpc⟩:∃pc,c.pc=pc:=⟨_,rfl⟩
 by_cases h4:c.pc%4=0
 ·have hm:mayB (pagesOf perm c.M) c.pc 4 1=false:=by unfold fetchB at hf;rw[h4]at hf;simpa using hf
  have hmay:=λq=>may_quiet sb (pagesOf perm c.M) c.pc 4 1 (w.alloc (.cells #[.int .u8 0,.int .i64 0,.int .i64 0,.int .i16 0] 344)) (h.sp.alloc _) h.pc (by omega) (by omega) q
  rw[hm]at hmay
  rw[hpc]at c0 p0 p1 h4 hmay
  have hne:(pc%4 != 0)=false:=by rw[h4];rfl
  have HM:=xh hmay
  clear hmay h hf hpc hm h4
  go_enter Tryz.func166,Tryz.ntmps166
  go_upto_region 1 with fail
  go_quiet ((go_at_call 114;exact Calls.quiet_of_same (HM.out _)))
  go_wp2_with fail
  exact⟨rfl,rfl,bel_drewN (Bel.start _ _) _⟩
 ·rw[hpc]at c0 p0 p1 h4
  have hne:(pc%4 != 0)=true:=bne_iff_ne.2 h4
  clear h hf hpc
  go_enter Tryz.func166,Tryz.ntmps166
  go_upto_region 1 with fail
  go_quiet (fail)
  go_wp2_with fail
  exact⟨rfl,rfl,bel_drewN (Bel.start _ _) _⟩
def insB (c:Cpu) (i:Nat):Int:=c.M (c.pc.toNat+i)
theorem fetch_ok (pb sb:Nat) (perm:Nat→Option Int) (c:Cpu) (rest:List Value) (w:World) (h:CpuAt w pb sb perm c rest) (hf:fetchB perm c=true) :
 Calls Tryz.prog 166 #[.pointer (some ⟨pb,0,none⟩)] w λe w'=>Bel w w'∧((insB c 0<1∨24<insB c 0)→e=.panicked (trapP 130))∧(1≤insB c 0→insB c 0≤24→e=.returned (decM (insB c 0) (insB c 1) (insB c 2) (insB c 3))):=by
 obtain⟨hf4,hfm⟩:c.pc%4=0∧mayB (pagesOf perm c.M) c.pc 4 1=true:=by
  unfold fetchB at hf
  simpa using hf
 obtain⟨p0,p1⟩:=h.pc
 obtain⟨pn,hpn⟩:=Int.eq_ofNat_of_zero_le p0
 obtain⟨pc,hpc⟩:∃pc,c.pc=pc:=⟨_,rfl⟩
 have c0:=h.c0
 have c17:=h.c17
 have hpl:=h.blk.lt
 have hfm2:=hfm
 rw[hpn]at hfm2
 obtain⟨hA,hperm⟩:=may_perm (by omega) hfm2 (by decide)
 have hb:∀i,0≤insB c i∧insB c i≤255:=λi=>h.mem _
 have hins:∀i,insB c i=c.M (pn+i):=λi=>by unfold insB;rw[hpn];rfl
 have hmay:=λq=>may_quiet sb (pagesOf perm c.M) c.pc 4 1 (w.alloc (.cells #[.int .u8 0,.int .i64 0,.int .i64 0,.int .i16 0] 344)) (h.sp.alloc _) h.pc (by omega) (by omega) q
 rw[hfm]at hmay
 have hpk:∀W,Bel w W→Calls Tryz.prog 206 #[.map (some sb),.int .u64 c.pc,.int .i64 4] W λe w'=>∃g,e=.returned (.slice (some ⟨g,0,none⟩) 4 4)∧W.heap.size≤g∧Blk w' g [.int .u8 (insB c 0),.int .u8 (insB c 1),.int .u8 (insB c 2),.int .u8 (insB c 3)] 5∧Bel W w':=λW hW=>by
  rw[hpn]
  refine(peek_any sb perm c.M pn 4 W (h.sp.bel hW) (by omega) (λa h1 h2=>hperm a h1 (by omega))).mono ?_
  rintro e w' ⟨g,h1,h2,h3,h4⟩
  refine⟨g,h1,h2,?_,h4⟩
  rw[hins 0,hins 1,hins 2,hins 3]
  exact h3
 rw[hpc]at hf4 c0 p0 p1 hmay hpk
 have hne:(pc%4 != 0)=false:=by rw[hf4];rfl
 have HM:=xh hmay
 have HPK:=xh hpk
 have HBB:=xh hb
 clear hmay hpk hperm hf hfm hfm2 hf4 hA hpc hpn h hb hins
 have hb0:=HBB.out 0
 have hb1:=HBB.out 1
 have hb2:=HBB.out 2
 have hb3:=HBB.out 3
 clear HBB
 generalize insB c 0=b0 at *
 generalize insB c 1=b1 at *
 generalize insB c 2=b2 at *
 generalize insB c 3=b3 at *
 obtain⟨rb,hrb⟩:∃rb,w.heap.size=rb:=⟨_,rfl⟩
 have HRB:=xh hrb
 have k1:∀n,Bel w ((w.alloc (.cells #[.int .u8 0,.int .i64 0,.int .i64 0,.int .i16 0] 344)).drewN n):=λn=>bel_drewN (Bel.start _ _) n
 have BR:∀n,Blk ((w.alloc (.cells #[.int .u8 0,.int .i64 0,.int .i64 0,.int .i16 0] 344)).drewN n) rb [.int .u8 0,.int .i64 0,.int .i64 0,.int .i16 0] 344:=λn=>by rw[←hrb];exact Blk.new w _ _
 have HK1:=xh k1
 have HBR:=xh BR
 clear hrb k1 BR
 have hat:∀g W,(Instr.arrayAt 145 (.slice (some ⟨g,0,none⟩) 4 4)).run Tryz.prog W=.ok (.pointer (some ⟨g,0,none⟩)) W:=λg W=>by kernel_rfl
 by_cases hop:1≤b0∧b0≤24
 ·have HDC:=xh λW=>decodeM_ok b0 b1 b2 b3 W hop.1 hop.2 hb1.1 hb1.2 hb2.1 hb2.2 hb3.1 hb3.2
  have HOP:=xh hop
  clear hb0 hb1 hb2 hb3 hop
  go_enter Tryz.func166,Tryz.ntmps166
  go_upto_region 1 with fail
  go_quiet ((go_at_call 114;exact Calls.quiet_of_same (HM.out _)))
  go_upto_region 3 with fail
  have k1:=HK1.out nq
  have BR:=HBR.out nq
  rw[HRB.out]
  have e0:((w.alloc (.cells #[.int .u8 0,.int .i64 0,.int .i64 0,.int .i16 0] 344)).drewN nq).cell? ⟨pb,0,none⟩=some (.int .u64 pc):=cell_bel k1 c0
  have e17:((w.alloc (.cells #[.int .u8 0,.int .i64 0,.int .i64 0,.int .i16 0] 344)).drewN nq).cell? ⟨pb,17,none⟩=some (.map (some sb)):=cell_bel k1 c17
  generalize (w.alloc (.cells #[.int .u8 0,.int .i64 0,.int .i64 0,.int .i16 0] 344)).drewN nq=w1 at *
  have K1:=xh k1
  have HR:=xh BR
  have hpl1:pb<w1.heap.size:=World.block_lt_of_cell? _ _ e0
  have hn1:pb≠w1.heap.size:=by omega
  have hm1:w1.heap.size≠pb:=by omega
  clear c0 c17 hpl k1 BR
  have HS1:∀W,Bel w1 W→W.cell? ⟨pb,0,none⟩=some (.int .u64 pc)∧W.cell? ⟨pb,17,none⟩=some (.map (some sb)):=λW hW=>⟨cell_bel hW e0,cell_bel hW e17⟩
  have HS:=xh HS1
  clear HS1
  refine wp_region_noPanic ?_
  refine wp_region_held_drew (S:=λw'=>w'.cell? ⟨pb,0,none⟩=some (.int .u64 pc)∧w'.cell? ⟨pb,17,none⟩=some (.map (some sb))) (by kernel_rfl) (HS.out _ (Bel.drew (Bel.refl _))) (λhHeld=>?_)
  refine plan [0,1,2,3,4,5,6,7] ?_
  repeat refine tk rfl (by kernel_rfl) rfl (by intro w hw;(try dsimp only at hw);go_simp;with_reducible rfl) (by assumption) (λ_ _ _ h=>h) (by(try simp only[Act.put,lits]);exact rfl) ?_
  refine planned ?_
  refine wpAnyH_ready (rs:=[8,15]) (by kernel_rfl) (by simp) ?_
  refine AllReadyH.cons rfl (λK hK=>?oA) ?xA
  case oA=>
   go_simp
   go_at_call 206
   refine Calls.mono (HPK.out _ (K1.out.tr (Bel.drew (Bel.refl w1)))) ?_
   rintro e3 w3 ⟨g,rfl,hg,hB,hk3⟩
   have H3:Hid (Bel w1 w3):=xh (Bel.tr (Bel.drew (Bel.refl w1)) hk3)
   have HK3:=xh hk3
   have d0:w3.cell? ⟨g,0,none⟩=some (.int .u8 b0):=hB.cell 0
   have d1:w3.cell? ⟨g,1,none⟩=some (.int .u8 b1):=hB.cell 1
   have d2:w3.cell? ⟨g,2,none⟩=some (.int .u8 b2):=hB.cell 2
   have d3:w3.cell? ⟨g,3,none⟩=some (.int .u8 b3):=hB.cell 3
   have gl:g<w3.heap.size:=hB.lt
   have gn:w3.heap.size≠g:=Nat.ne_of_gt gl
   clear hg hB hk3
   refine hK.out _ _ (HS.out _ H3.out) (λhH=>?_)
   clear hK K
   (try simp only[Act.put,lits])
   refine plan [9] ?_
   repeat refine tk rfl (by kernel_rfl) rfl (by intro w hw;(try dsimp only at hw);go_simp;with_reducible rfl) (by assumption) (λ_ _ _ h=>h) (by(try simp only[Act.put,lits]);exact rfl) ?_
   refine planned ?_
   refine wpAnyH_ready (rs:=[10,15]) (by kernel_rfl) (by simp) ?_
   refine AllReadyH.cons rfl (λK hK=>?oB) ?xB
   case oB=>
    go_simp
    refine hK.out _ _ (HS.out _ H3.out) (λhH=>?_)
    clear hK K
    (try simp only[Act.put,lits])
    refine wpAnyH_ready (rs:=[11,15]) (by kernel_rfl) (by simp) ?_
    refine AllReadyH.cons rfl (λK hK=>?oC) ?xC
    case oC=>
     go_simp
     go_at_call 205
     refine Calls.mono (HDC.out _) ?_
     rintro e4 w4 ⟨rfl,hk4⟩
     have H4:Hid (Bel w1 w4):=xh (Bel.tr H3.out hk4)
     have HK4:=xh hk4
     clear hk4
     refine hK.out _ _ (HS.out _ H4.out) (λhH=>?_)
     clear hK K
     (try simp only[Act.put,lits])
     refine plan [12,13,14] ?_
     repeat refine tk rfl (by kernel_rfl) rfl (by intro w hw;(try dsimp only at hw);go_simp;with_reducible rfl) (by assumption) (λ_ _ _ h=>h) (by(try simp only[Act.put,lits]);exact rfl) ?_
     refine planned ?_
     refine rd 15 rfl (by kernel_rfl) (λK hK=>?_)
     go_simp
     refine hK.out _ _ (HS.out _ (H4.out.ac _)) (λhH=>?_)
     clear hK K
     (try simp only[Act.put,lits])
     refine rd 16 rfl (by kernel_rfl) (λK hK=>?_)
     rw[if_pos (by rfl)]
     refine wp_store_row _ _ _ rfl w4.heap.size (([.int .u8 b0,.int .i64 (b1/16),.int .i64 (b1%16),.int .i16 (IntKind.i16.wrap (b2+b3*256))]:List Value)).toArray rfl rfl 344 (([.int .u8 0,.int .i64 0,.int .i64 0,.int .i16 0]:List Value)).toArray (Blk.new w4 _ _) (by kernel_rfl) rfl (all_oneCell_toArray (by intro v hv;simp at hv;rcases hv with rfl|rfl|rfl|rfl<;>rfl)) ?_
     have kS:Keep (λk=>k=w4.heap.size) (w4.alloc (.cells #[.int .u8 0,.int .i64 0,.int .i64 0,.int .i16 0] 344)) _:=Keep.setRow _ w4.heap.size (([.int .u8 b0,.int .i64 (b1/16),.int .i64 (b1%16),.int .i16 (IntKind.i16.wrap (b2+b3*256))]:List Value)).toArray
     have BZ:=Blk.setRow (show Blk (w4.alloc (.cells #[.int .u8 0,.int .i64 0,.int .i64 0,.int .i16 0] 344)) w4.heap.size [.int .u8 0,.int .i64 0,.int .i64 0,.int .i16 0] 344 from(Blk.new w4 _ _)) [.int .u8 b0,.int .i64 (b1/16),.int .i64 (b1%16),.int .i16 (IntKind.i16.wrap (b2+b3*256))]
     have kB:Bel w1 _:=((Keep.of_bel _ (H4.out.ac _)).tr kS).below _ (Nat.le_refl _) (λk hk=>by have e:k=w4.heap.size:=hk;have:=H4.out.size;have:=H3.out.size;omega)
     refine hK.out _ _ (HS.out _ kB) (λhH=>?_)
     clear hK K
     (try simp only[Act.put,lits])
     refine plan [17] ?_
     repeat refine tk rfl (by kernel_rfl) rfl (by intro w hw;(try dsimp only at hw);go_simp;with_reducible rfl) (by assumption) (λ_ _ _ h=>h) (by(try simp only[Act.put,lits]);exact rfl) ?_
     refine planned ?_
     refine wpAnyH_done (by kernel_rfl) ?_ _
     refine NoPanic.normal ?_
     have RB:=HR.out.bel kB
     have hzr:w4.heap.size≠rb:=by(have h1:=HR.out.lt;have h2:=H3.out.size;have h3:=H4.out.size;omega)
     have hrz:rb≠w4.heap.size:=λe=>hzr e.symm
     clear kS hH HK3 HK4
     generalize World.setRow (w4.alloc (.cells #[.int .u8 0,.int .i64 0,.int .i64 0,.int .i16 0] 344)) w4.heap.size (([.int .u8 b0,.int .i64 (b1/16),.int .i64 (b1%16),.int .i16 (IntKind.i16.wrap (b2+b3*256))]:List Value)).toArray=w5 at *
     have z0:w5.cell? ⟨w4.heap.size,0,none⟩=some (.int .u8 b0):=BZ.cell 0
     have z1:w5.cell? ⟨w4.heap.size,1,none⟩=some (.int .i64 (b1/16)):=BZ.cell 1
     have z2:w5.cell? ⟨w4.heap.size,2,none⟩=some (.int .i64 (b1%16)):=BZ.cell 2
     have z3:w5.cell? ⟨w4.heap.size,3,none⟩=some (.int .i16 (IntKind.i16.wrap (b2+b3*256))):=BZ.cell 3
     have r0:w5.cell? ⟨rb,0,none⟩=some (.int .u8 0):=RB.cell 0
     have r1:w5.cell? ⟨rb,1,none⟩=some (.int .i64 0):=RB.cell 1
     have r2:w5.cell? ⟨rb,2,none⟩=some (.int .i64 0):=RB.cell 2
     have r3:w5.cell? ⟨rb,3,none⟩=some (.int .i16 0):=RB.cell 3
     have rf:=RB.frozen
     have rl:=RB.lt
     have HKB:=xh kB
     clear BZ kB RB
     go_wp2_with fail
     refine bodyPost_ret (v:=decM b0 b1 b2 b3) (by simp[results,Tryz.results166,go_sem, *]) rfl ⟨?_,λh=>?_,λ_ _=>rfl⟩
     ·have hw:w.heap.size≤rb:=by(rw[HRB.out];exact Nat.le_refl _)
      exact(((((K1.out.tr HKB.out)).store (p:=⟨rb,0,none⟩) hw _).store (p:=⟨rb,1,none⟩) hw _).store (p:=⟨rb,2,none⟩) hw _).store (p:=⟨rb,3,none⟩) hw _
     ·have:=HOP.out
      omega
    case xC=>
     refine AllReadyH.cons rfl (λK hK=>?_) AllReadyH.nil
     go_simp
     refine hK.out _ _ (HS.out _ (H3.out.ac _)) (λhH=>?_)
     clear hK K
     (try simp only[Act.put,lits])
     refine rd 11 rfl (by kernel_rfl) (λK hK=>?_)
     go_simp
     go_at_call 205
     refine Calls.mono (HDC.out _) ?_
     rintro e4 w4 ⟨rfl,hk4⟩
     have H4:Hid (Bel w1 w4):=xh (Bel.tr (H3.out.ac _) hk4)
     have HK4:=xh hk4
     clear hk4
     refine hK.out _ _ (HS.out _ H4.out) (λhH=>?_)
     clear hK K
     (try simp only[Act.put,lits])
     refine plan [12,13,14] ?_
     repeat refine tk rfl (by kernel_rfl) rfl (by intro w hw;(try dsimp only at hw);go_simp;with_reducible rfl) (by assumption) (λ_ _ _ h=>h) (by(try simp only[Act.put,lits]);exact rfl) ?_
     refine planned ?_
     refine rd 16 rfl (by kernel_rfl) (λK hK=>?_)
     rw[if_pos (by rfl)]
     refine wp_store_row _ _ _ rfl w3.heap.size (([.int .u8 b0,.int .i64 (b1/16),.int .i64 (b1%16),.int .i16 (IntKind.i16.wrap (b2+b3*256))]:List Value)).toArray rfl rfl 344 (([.int .u8 0,.int .i64 0,.int .i64 0,.int .i16 0]:List Value)).toArray ((Blk.new w3 _ _).bel HK4.out) (by kernel_rfl) rfl (all_oneCell_toArray (by intro v hv;simp at hv;rcases hv with rfl|rfl|rfl|rfl<;>rfl)) ?_
     have kS:Keep (λk=>k=w3.heap.size) w4 _:=Keep.setRow _ w3.heap.size (([.int .u8 b0,.int .i64 (b1/16),.int .i64 (b1%16),.int .i16 (IntKind.i16.wrap (b2+b3*256))]:List Value)).toArray
     have BZ:=Blk.setRow (show Blk w4 w3.heap.size [.int .u8 0,.int .i64 0,.int .i64 0,.int .i16 0] 344 from((Blk.new w3 _ _).bel HK4.out)) [.int .u8 b0,.int .i64 (b1/16),.int .i64 (b1%16),.int .i16 (IntKind.i16.wrap (b2+b3*256))]
     have kB:Bel w1 _:=((Keep.of_bel _ H4.out).tr kS).below _ (Nat.le_refl _) (λk hk=>by have e:k=w3.heap.size:=hk;have:=H4.out.size;have:=H3.out.size;omega)
     refine hK.out _ _ (HS.out _ kB) (λhH=>?_)
     clear hK K
     (try simp only[Act.put,lits])
     refine plan [17] ?_
     repeat refine tk rfl (by kernel_rfl) rfl (by intro w hw;(try dsimp only at hw);go_simp;with_reducible rfl) (by assumption) (λ_ _ _ h=>h) (by(try simp only[Act.put,lits]);exact rfl) ?_
     refine planned ?_
     refine wpAnyH_done (by kernel_rfl) ?_ _
     refine NoPanic.normal ?_
     have RB:=HR.out.bel kB
     have hzr:w3.heap.size≠rb:=by(have h1:=HR.out.lt;have h2:=H3.out.size;have h3:=H4.out.size;omega)
     have hrz:rb≠w3.heap.size:=λe=>hzr e.symm
     clear kS hH HK3 HK4
     generalize World.setRow w4 w3.heap.size (([.int .u8 b0,.int .i64 (b1/16),.int .i64 (b1%16),.int .i16 (IntKind.i16.wrap (b2+b3*256))]:List Value)).toArray=w5 at *
     have z0:w5.cell? ⟨w3.heap.size,0,none⟩=some (.int .u8 b0):=BZ.cell 0
     have z1:w5.cell? ⟨w3.heap.size,1,none⟩=some (.int .i64 (b1/16)):=BZ.cell 1
     have z2:w5.cell? ⟨w3.heap.size,2,none⟩=some (.int .i64 (b1%16)):=BZ.cell 2
     have z3:w5.cell? ⟨w3.heap.size,3,none⟩=some (.int .i16 (IntKind.i16.wrap (b2+b3*256))):=BZ.cell 3
     have r0:w5.cell? ⟨rb,0,none⟩=some (.int .u8 0):=RB.cell 0
     have r1:w5.cell? ⟨rb,1,none⟩=some (.int .i64 0):=RB.cell 1
     have r2:w5.cell? ⟨rb,2,none⟩=some (.int .i64 0):=RB.cell 2
     have r3:w5.cell? ⟨rb,3,none⟩=some (.int .i16 0):=RB.cell 3
     have rf:=RB.frozen
     have rl:=RB.lt
     have HKB:=xh kB
     clear BZ kB RB
     go_wp2_with fail
     refine bodyPost_ret (v:=decM b0 b1 b2 b3) (by simp[results,Tryz.results166,go_sem, *]) rfl ⟨?_,λh=>?_,λ_ _=>rfl⟩
     ·have hw:w.heap.size≤rb:=by(rw[HRB.out];exact Nat.le_refl _)
      exact(((((K1.out.tr HKB.out)).store (p:=⟨rb,0,none⟩) hw _).store (p:=⟨rb,1,none⟩) hw _).store (p:=⟨rb,2,none⟩) hw _).store (p:=⟨rb,3,none⟩) hw _
     ·have:=HOP.out
      omega
   case xB=>
    refine AllReadyH.cons rfl (λK hK=>?_) AllReadyH.nil
    go_simp
    refine hK.out _ _ (HS.out _ (H3.out.ac _)) (λhH=>?_)
    clear hK K
    (try simp only[Act.put,lits])
    refine rd 10 rfl (by kernel_rfl) (λK hK=>?_)
    go_simp
    refine hK.out _ _ (HS.out _ (H3.out.ac _)) (λhH=>?_)
    clear hK K
    (try simp only[Act.put,lits])
    refine rd 11 rfl (by kernel_rfl) (λK hK=>?_)
    go_simp
    go_at_call 205
    refine Calls.mono (HDC.out _) ?_
    rintro e4 w4 ⟨rfl,hk4⟩
    have H4:Hid (Bel w1 w4):=xh (Bel.tr (H3.out.ac _) hk4)
    have HK4:=xh hk4
    clear hk4
    refine hK.out _ _ (HS.out _ H4.out) (λhH=>?_)
    clear hK K
    (try simp only[Act.put,lits])
    refine plan [12,13,14] ?_
    repeat refine tk rfl (by kernel_rfl) rfl (by intro w hw;(try dsimp only at hw);go_simp;with_reducible rfl) (by assumption) (λ_ _ _ h=>h) (by(try simp only[Act.put,lits]);exact rfl) ?_
    refine planned ?_
    refine rd 16 rfl (by kernel_rfl) (λK hK=>?_)
    rw[if_pos (by rfl)]
    refine wp_store_row _ _ _ rfl w3.heap.size (([.int .u8 b0,.int .i64 (b1/16),.int .i64 (b1%16),.int .i16 (IntKind.i16.wrap (b2+b3*256))]:List Value)).toArray rfl rfl 344 (([.int .u8 0,.int .i64 0,.int .i64 0,.int .i16 0]:List Value)).toArray ((Blk.new w3 _ _).bel HK4.out) (by kernel_rfl) rfl (all_oneCell_toArray (by intro v hv;simp at hv;rcases hv with rfl|rfl|rfl|rfl<;>rfl)) ?_
    have kS:Keep (λk=>k=w3.heap.size) w4 _:=Keep.setRow _ w3.heap.size (([.int .u8 b0,.int .i64 (b1/16),.int .i64 (b1%16),.int .i16 (IntKind.i16.wrap (b2+b3*256))]:List Value)).toArray
    have BZ:=Blk.setRow (show Blk w4 w3.heap.size [.int .u8 0,.int .i64 0,.int .i64 0,.int .i16 0] 344 from((Blk.new w3 _ _).bel HK4.out)) [.int .u8 b0,.int .i64 (b1/16),.int .i64 (b1%16),.int .i16 (IntKind.i16.wrap (b2+b3*256))]
    have kB:Bel w1 _:=((Keep.of_bel _ H4.out).tr kS).below _ (Nat.le_refl _) (λk hk=>by have e:k=w3.heap.size:=hk;have:=H4.out.size;have:=H3.out.size;omega)
    refine hK.out _ _ (HS.out _ kB) (λhH=>?_)
    clear hK K
    (try simp only[Act.put,lits])
    refine plan [17] ?_
    repeat refine tk rfl (by kernel_rfl) rfl (by intro w hw;(try dsimp only at hw);go_simp;with_reducible rfl) (by assumption) (λ_ _ _ h=>h) (by(try simp only[Act.put,lits]);exact rfl) ?_
    refine planned ?_
    refine wpAnyH_done (by kernel_rfl) ?_ _
    refine NoPanic.normal ?_
    have RB:=HR.out.bel kB
    have hzr:w3.heap.size≠rb:=by(have h1:=HR.out.lt;have h2:=H3.out.size;have h3:=H4.out.size;omega)
    have hrz:rb≠w3.heap.size:=λe=>hzr e.symm
    clear kS hH HK3 HK4
    generalize World.setRow w4 w3.heap.size (([.int .u8 b0,.int .i64 (b1/16),.int .i64 (b1%16),.int .i16 (IntKind.i16.wrap (b2+b3*256))]:List Value)).toArray=w5 at *
    have z0:w5.cell? ⟨w3.heap.size,0,none⟩=some (.int .u8 b0):=BZ.cell 0
    have z1:w5.cell? ⟨w3.heap.size,1,none⟩=some (.int .i64 (b1/16)):=BZ.cell 1
    have z2:w5.cell? ⟨w3.heap.size,2,none⟩=some (.int .i64 (b1%16)):=BZ.cell 2
    have z3:w5.cell? ⟨w3.heap.size,3,none⟩=some (.int .i16 (IntKind.i16.wrap (b2+b3*256))):=BZ.cell 3
    have r0:w5.cell? ⟨rb,0,none⟩=some (.int .u8 0):=RB.cell 0
    have r1:w5.cell? ⟨rb,1,none⟩=some (.int .i64 0):=RB.cell 1
    have r2:w5.cell? ⟨rb,2,none⟩=some (.int .i64 0):=RB.cell 2
    have r3:w5.cell? ⟨rb,3,none⟩=some (.int .i16 0):=RB.cell 3
    have rf:=RB.frozen
    have rl:=RB.lt
    have HKB:=xh kB
    clear BZ kB RB
    go_wp2_with fail
    refine bodyPost_ret (v:=decM b0 b1 b2 b3) (by simp[results,Tryz.results166,go_sem, *]) rfl ⟨?_,λh=>?_,λ_ _=>rfl⟩
    ·have hw:w.heap.size≤rb:=by(rw[HRB.out];exact Nat.le_refl _)
     exact(((((K1.out.tr HKB.out)).store (p:=⟨rb,0,none⟩) hw _).store (p:=⟨rb,1,none⟩) hw _).store (p:=⟨rb,2,none⟩) hw _).store (p:=⟨rb,3,none⟩) hw _
    ·have:=HOP.out
     omega
  case xA=>
   refine AllReadyH.cons rfl (λK hK=>?_) AllReadyH.nil
   go_simp
   refine hK.out _ _ (HS.out _ ((Bel.start w1 (.cells #[.int .u8 0,.int .i64 0,.int .i64 0,.int .i16 0] 344)).drew)) (λhH=>?_)
   clear hK K
   (try simp only[Act.put,lits])
   refine rd 8 rfl (by kernel_rfl) (λK hK=>?_)
   go_simp
   go_at_call 206
   refine Calls.mono (HPK.out _ (K1.out.tr ((Bel.start w1 (.cells #[.int .u8 0,.int .i64 0,.int .i64 0,.int .i16 0] 344)).drew))) ?_
   rintro e3 w3 ⟨g,rfl,hg,hB,hk3⟩
   have H3:Hid (Bel w1 w3):=xh (Bel.tr ((Bel.start w1 (.cells #[.int .u8 0,.int .i64 0,.int .i64 0,.int .i16 0] 344)).drew) hk3)
   have HK3:=xh hk3
   have d0:w3.cell? ⟨g,0,none⟩=some (.int .u8 b0):=hB.cell 0
   have d1:w3.cell? ⟨g,1,none⟩=some (.int .u8 b1):=hB.cell 1
   have d2:w3.cell? ⟨g,2,none⟩=some (.int .u8 b2):=hB.cell 2
   have d3:w3.cell? ⟨g,3,none⟩=some (.int .u8 b3):=hB.cell 3
   have gl:g<w3.heap.size:=hB.lt
   have gn:w3.heap.size≠g:=Nat.ne_of_gt gl
   clear hg hB hk3
   refine hK.out _ _ (HS.out _ H3.out) (λhH=>?_)
   clear hK K
   (try simp only[Act.put,lits])
   refine plan [9] ?_
   repeat refine tk rfl (by kernel_rfl) rfl (by intro w hw;(try dsimp only at hw);go_simp;with_reducible rfl) (by assumption) (λ_ _ _ h=>h) (by(try simp only[Act.put,lits]);exact rfl) ?_
   refine planned ?_
   refine rd 10 rfl (by kernel_rfl) (λK hK=>?_)
   go_simp
   refine hK.out _ _ (HS.out _ H3.out) (λhH=>?_)
   clear hK K
   (try simp only[Act.put,lits])
   refine rd 11 rfl (by kernel_rfl) (λK hK=>?_)
   go_simp
   go_at_call 205
   refine Calls.mono (HDC.out _) ?_
   rintro e4 w4 ⟨rfl,hk4⟩
   have H4:Hid (Bel w1 w4):=xh (Bel.tr H3.out hk4)
   have HK4:=xh hk4
   clear hk4
   refine hK.out _ _ (HS.out _ H4.out) (λhH=>?_)
   clear hK K
   (try simp only[Act.put,lits])
   refine plan [12,13,14] ?_
   repeat refine tk rfl (by kernel_rfl) rfl (by intro w hw;(try dsimp only at hw);go_simp;with_reducible rfl) (by assumption) (λ_ _ _ h=>h) (by(try simp only[Act.put,lits]);exact rfl) ?_
   refine planned ?_
   refine rd 16 rfl (by kernel_rfl) (λK hK=>?_)
   rw[if_pos (by rfl)]
   refine wp_store_row _ _ _ rfl w1.heap.size (([.int .u8 b0,.int .i64 (b1/16),.int .i64 (b1%16),.int .i16 (IntKind.i16.wrap (b2+b3*256))]:List Value)).toArray rfl rfl 344 (([.int .u8 0,.int .i64 0,.int .i64 0,.int .i16 0]:List Value)).toArray (((show Blk (w1.alloc (.cells #[.int .u8 0,.int .i64 0,.int .i64 0,.int .i16 0] 344)).drew w1.heap.size [.int .u8 0,.int .i64 0,.int .i64 0,.int .i16 0] 344 from Blk.new w1 _ _).bel HK3.out).bel HK4.out) (by kernel_rfl) rfl (all_oneCell_toArray (by intro v hv;simp at hv;rcases hv with rfl|rfl|rfl|rfl<;>rfl)) ?_
   have kS:Keep (λk=>k=w1.heap.size) w4 _:=Keep.setRow _ w1.heap.size (([.int .u8 b0,.int .i64 (b1/16),.int .i64 (b1%16),.int .i16 (IntKind.i16.wrap (b2+b3*256))]:List Value)).toArray
   have BZ:=Blk.setRow (show Blk w4 w1.heap.size [.int .u8 0,.int .i64 0,.int .i64 0,.int .i16 0] 344 from(((show Blk (w1.alloc (.cells #[.int .u8 0,.int .i64 0,.int .i64 0,.int .i16 0] 344)).drew w1.heap.size [.int .u8 0,.int .i64 0,.int .i64 0,.int .i16 0] 344 from Blk.new w1 _ _).bel HK3.out).bel HK4.out)) [.int .u8 b0,.int .i64 (b1/16),.int .i64 (b1%16),.int .i16 (IntKind.i16.wrap (b2+b3*256))]
   have kB:Bel w1 _:=((Keep.of_bel _ H4.out).tr kS).below _ (Nat.le_refl _) (λk hk=>by have e:k=w1.heap.size:=hk;have:=H4.out.size;have:=H3.out.size;omega)
   refine hK.out _ _ (HS.out _ kB) (λhH=>?_)
   clear hK K
   (try simp only[Act.put,lits])
   refine plan [17] ?_
   repeat refine tk rfl (by kernel_rfl) rfl (by intro w hw;(try dsimp only at hw);go_simp;with_reducible rfl) (by assumption) (λ_ _ _ h=>h) (by(try simp only[Act.put,lits]);exact rfl) ?_
   refine planned ?_
   refine wpAnyH_done (by kernel_rfl) ?_ _
   refine NoPanic.normal ?_
   have RB:=HR.out.bel kB
   have hzr:w1.heap.size≠rb:=by(have h1:=HR.out.lt;have h2:=H3.out.size;have h3:=H4.out.size;omega)
   have hrz:rb≠w1.heap.size:=λe=>hzr e.symm
   clear kS hH HK3 HK4
   generalize World.setRow w4 w1.heap.size (([.int .u8 b0,.int .i64 (b1/16),.int .i64 (b1%16),.int .i16 (IntKind.i16.wrap (b2+b3*256))]:List Value)).toArray=w5 at *
   have z0:w5.cell? ⟨w1.heap.size,0,none⟩=some (.int .u8 b0):=BZ.cell 0
   have z1:w5.cell? ⟨w1.heap.size,1,none⟩=some (.int .i64 (b1/16)):=BZ.cell 1
   have z2:w5.cell? ⟨w1.heap.size,2,none⟩=some (.int .i64 (b1%16)):=BZ.cell 2
   have z3:w5.cell? ⟨w1.heap.size,3,none⟩=some (.int .i16 (IntKind.i16.wrap (b2+b3*256))):=BZ.cell 3
   have r0:w5.cell? ⟨rb,0,none⟩=some (.int .u8 0):=RB.cell 0
   have r1:w5.cell? ⟨rb,1,none⟩=some (.int .i64 0):=RB.cell 1
   have r2:w5.cell? ⟨rb,2,none⟩=some (.int .i64 0):=RB.cell 2
   have r3:w5.cell? ⟨rb,3,none⟩=some (.int .i16 0):=RB.cell 3
   have rf:=RB.frozen
   have rl:=RB.lt
   have HKB:=xh kB
   clear BZ kB RB
   go_wp2_with fail
   refine bodyPost_ret (v:=decM b0 b1 b2 b3) (by simp[results,Tryz.results166,go_sem, *]) rfl ⟨?_,λh=>?_,λ_ _=>rfl⟩
   ·have hw:w.heap.size≤rb:=by(rw[HRB.out];exact Nat.le_refl _)
    exact(((((K1.out.tr HKB.out)).store (p:=⟨rb,0,none⟩) hw _).store (p:=⟨rb,1,none⟩) hw _).store (p:=⟨rb,2,none⟩) hw _).store (p:=⟨rb,3,none⟩) hw _
   ·have:=HOP.out
    omega
 ·have HDC:=xh λW=>decodeM_bad b0 b1 b2 b3 W hb0.1 hb0.2 (by omega)
  have HOP:=xh hop
  clear hb0 hb1 hb2 hb3 hop
  go_enter Tryz.func166,Tryz.ntmps166
  go_upto_region 1 with fail
  go_quiet ((go_at_call 114;exact Calls.quiet_of_same (HM.out _)))
  go_upto_region 3 with fail
  have k1:=HK1.out nq
  have BR:=HBR.out nq
  rw[HRB.out]
  have e0:((w.alloc (.cells #[.int .u8 0,.int .i64 0,.int .i64 0,.int .i16 0] 344)).drewN nq).cell? ⟨pb,0,none⟩=some (.int .u64 pc):=cell_bel k1 c0
  have e17:((w.alloc (.cells #[.int .u8 0,.int .i64 0,.int .i64 0,.int .i16 0] 344)).drewN nq).cell? ⟨pb,17,none⟩=some (.map (some sb)):=cell_bel k1 c17
  generalize (w.alloc (.cells #[.int .u8 0,.int .i64 0,.int .i64 0,.int .i16 0] 344)).drewN nq=w1 at *
  have K1:=xh k1
  have HR:=xh BR
  have hpl1:pb<w1.heap.size:=World.block_lt_of_cell? _ _ e0
  have hn1:pb≠w1.heap.size:=by omega
  have hm1:w1.heap.size≠pb:=by omega
  clear c0 c17 hpl k1 BR
  have HS1:∀W,Bel w1 W→W.cell? ⟨pb,0,none⟩=some (.int .u64 pc)∧W.cell? ⟨pb,17,none⟩=some (.map (some sb)):=λW hW=>⟨cell_bel hW e0,cell_bel hW e17⟩
  have HS:=xh HS1
  clear HS1
  refine wp_region_noPanic ?_
  refine wp_region_held_drew (S:=λw'=>w'.cell? ⟨pb,0,none⟩=some (.int .u64 pc)∧w'.cell? ⟨pb,17,none⟩=some (.map (some sb))) (by kernel_rfl) (HS.out _ (Bel.drew (Bel.refl _))) (λhHeld=>?_)
  refine plan [0,1,2,3,4,5,6,7] ?_
  repeat refine tk rfl (by kernel_rfl) rfl (by intro w hw;(try dsimp only at hw);go_simp;with_reducible rfl) (by assumption) (λ_ _ _ h=>h) (by(try simp only[Act.put,lits]);exact rfl) ?_
  refine planned ?_
  refine wpAnyH_ready (rs:=[8,15]) (by kernel_rfl) (by simp) ?_
  refine AllReadyH.cons rfl (λK hK=>?oA) ?xA
  case oA=>
   go_simp
   go_at_call 206
   refine Calls.mono (HPK.out _ (K1.out.tr (Bel.drew (Bel.refl w1)))) ?_
   rintro e3 w3 ⟨g,rfl,hg,hB,hk3⟩
   have H3:Hid (Bel w1 w3):=xh (Bel.tr (Bel.drew (Bel.refl w1)) hk3)
   have HK3:=xh hk3
   have d0:w3.cell? ⟨g,0,none⟩=some (.int .u8 b0):=hB.cell 0
   have d1:w3.cell? ⟨g,1,none⟩=some (.int .u8 b1):=hB.cell 1
   have d2:w3.cell? ⟨g,2,none⟩=some (.int .u8 b2):=hB.cell 2
   have d3:w3.cell? ⟨g,3,none⟩=some (.int .u8 b3):=hB.cell 3
   have gl:g<w3.heap.size:=hB.lt
   have gn:w3.heap.size≠g:=Nat.ne_of_gt gl
   clear hg hB hk3
   refine hK.out _ _ (HS.out _ H3.out) (λhH=>?_)
   clear hK K
   (try simp only[Act.put,lits])
   refine plan [9] ?_
   repeat refine tk rfl (by kernel_rfl) rfl (by intro w hw;(try dsimp only at hw);go_simp;with_reducible rfl) (by assumption) (λ_ _ _ h=>h) (by(try simp only[Act.put,lits]);exact rfl) ?_
   refine planned ?_
   refine wpAnyH_ready (rs:=[10,15]) (by kernel_rfl) (by simp) ?_
   refine AllReadyH.cons rfl (λK hK=>?oB) ?xB
   case oB=>
    go_simp
    refine hK.out _ _ (HS.out _ H3.out) (λhH=>?_)
    clear hK K
    (try simp only[Act.put,lits])
    refine wpAnyH_ready (rs:=[11,15]) (by kernel_rfl) (by simp) ?_
    refine AllReadyH.cons rfl (λK hK=>?oC) ?xC
    case oC=>
     go_simp
     go_at_call 205
     refine Calls.mono (HDC.out _) ?_
     rintro e4 w4 ⟨rfl,hk4⟩
     have H4:Hid (Bel w1 w4):=xh (Bel.tr H3.out hk4)
     have HK4:=xh hk4
     clear hk4
     refine hK.out _ _ (HS.out _ H4.out) (λhH=>?_)
     clear hK K
     (try simp only[Act.put,lits])
     refine plan [12,13,14] ?_
     repeat refine tk rfl (by kernel_rfl) rfl (by intro w hw;(try dsimp only at hw);go_simp;with_reducible rfl) (by assumption) (λ_ _ _ h=>h) (by(try simp only[Act.put,lits]);exact rfl) ?_
     refine planned ?_
     refine rd 15 rfl (by kernel_rfl) (λK hK=>?_)
     go_simp
     refine hK.out _ _ (HS.out _ (H4.out.ac _)) (λhH=>?_)
     clear hK K
     (try simp only[Act.put,lits])
     refine rd 16 rfl (by kernel_rfl) (λK hK=>?_)
     rw[if_pos (by rfl)]
     refine wp_store_row _ _ _ rfl w4.heap.size (([.int .u8 0,.int .i64 0,.int .i64 0,.int .i16 0]:List Value)).toArray rfl rfl 344 (([.int .u8 0,.int .i64 0,.int .i64 0,.int .i16 0]:List Value)).toArray (Blk.new w4 _ _) (by kernel_rfl) rfl (all_oneCell_toArray (by intro v hv;simp at hv;rcases hv with rfl|rfl|rfl|rfl<;>rfl)) ?_
     have kS:Keep (λk=>k=w4.heap.size) (w4.alloc (.cells #[.int .u8 0,.int .i64 0,.int .i64 0,.int .i16 0] 344)) _:=Keep.setRow _ w4.heap.size (([.int .u8 0,.int .i64 0,.int .i64 0,.int .i16 0]:List Value)).toArray
     have BZ:=Blk.setRow (show Blk (w4.alloc (.cells #[.int .u8 0,.int .i64 0,.int .i64 0,.int .i16 0] 344)) w4.heap.size [.int .u8 0,.int .i64 0,.int .i64 0,.int .i16 0] 344 from(Blk.new w4 _ _)) [.int .u8 0,.int .i64 0,.int .i64 0,.int .i16 0]
     have kB:Bel w1 _:=((Keep.of_bel _ (H4.out.ac _)).tr kS).below _ (Nat.le_refl _) (λk hk=>by have e:k=w4.heap.size:=hk;have:=H4.out.size;have:=H3.out.size;omega)
     refine hK.out _ _ (HS.out _ kB) (λhH=>?_)
     clear hK K
     (try simp only[Act.put,lits])
     refine plan [17] ?_
     repeat refine tk rfl (by kernel_rfl) rfl (by intro w hw;(try dsimp only at hw);go_simp;with_reducible rfl) (by assumption) (λ_ _ _ h=>h) (by(try simp only[Act.put,lits]);exact rfl) ?_
     refine planned ?_
     refine wpAnyH_done (by kernel_rfl) ?_ _
     refine NoPanic.normal ?_
     have HKB:=xh kB
     clear kS hH HK3 HK4 BZ kB
     generalize World.setRow (w4.alloc (.cells #[.int .u8 0,.int .i64 0,.int .i64 0,.int .i16 0] 344)) w4.heap.size (([.int .u8 0,.int .i64 0,.int .i64 0,.int .i16 0]:List Value)).toArray=w5 at *
     go_wp2_with fail
     exact⟨rfl,K1.out.tr HKB.out,λ_=>rfl,λh1 h2=>absurd (And.intro h1 h2) HOP.out⟩
    case xC=>
     refine AllReadyH.cons rfl (λK hK=>?_) AllReadyH.nil
     go_simp
     refine hK.out _ _ (HS.out _ (H3.out.ac _)) (λhH=>?_)
     clear hK K
     (try simp only[Act.put,lits])
     refine rd 11 rfl (by kernel_rfl) (λK hK=>?_)
     go_simp
     go_at_call 205
     refine Calls.mono (HDC.out _) ?_
     rintro e4 w4 ⟨rfl,hk4⟩
     have H4:Hid (Bel w1 w4):=xh (Bel.tr (H3.out.ac _) hk4)
     have HK4:=xh hk4
     clear hk4
     refine hK.out _ _ (HS.out _ H4.out) (λhH=>?_)
     clear hK K
     (try simp only[Act.put,lits])
     refine plan [12,13,14] ?_
     repeat refine tk rfl (by kernel_rfl) rfl (by intro w hw;(try dsimp only at hw);go_simp;with_reducible rfl) (by assumption) (λ_ _ _ h=>h) (by(try simp only[Act.put,lits]);exact rfl) ?_
     refine planned ?_
     refine rd 16 rfl (by kernel_rfl) (λK hK=>?_)
     rw[if_pos (by rfl)]
     refine wp_store_row _ _ _ rfl w3.heap.size (([.int .u8 0,.int .i64 0,.int .i64 0,.int .i16 0]:List Value)).toArray rfl rfl 344 (([.int .u8 0,.int .i64 0,.int .i64 0,.int .i16 0]:List Value)).toArray ((Blk.new w3 _ _).bel HK4.out) (by kernel_rfl) rfl (all_oneCell_toArray (by intro v hv;simp at hv;rcases hv with rfl|rfl|rfl|rfl<;>rfl)) ?_
     have kS:Keep (λk=>k=w3.heap.size) w4 _:=Keep.setRow _ w3.heap.size (([.int .u8 0,.int .i64 0,.int .i64 0,.int .i16 0]:List Value)).toArray
     have BZ:=Blk.setRow (show Blk w4 w3.heap.size [.int .u8 0,.int .i64 0,.int .i64 0,.int .i16 0] 344 from((Blk.new w3 _ _).bel HK4.out)) [.int .u8 0,.int .i64 0,.int .i64 0,.int .i16 0]
     have kB:Bel w1 _:=((Keep.of_bel _ H4.out).tr kS).below _ (Nat.le_refl _) (λk hk=>by have e:k=w3.heap.size:=hk;have:=H4.out.size;have:=H3.out.size;omega)
     refine hK.out _ _ (HS.out _ kB) (λhH=>?_)
     clear hK K
     (try simp only[Act.put,lits])
     refine plan [17] ?_
     repeat refine tk rfl (by kernel_rfl) rfl (by intro w hw;(try dsimp only at hw);go_simp;with_reducible rfl) (by assumption) (λ_ _ _ h=>h) (by(try simp only[Act.put,lits]);exact rfl) ?_
     refine planned ?_
     refine wpAnyH_done (by kernel_rfl) ?_ _
     refine NoPanic.normal ?_
     have HKB:=xh kB
     clear kS hH HK3 HK4 BZ kB
     generalize World.setRow w4 w3.heap.size (([.int .u8 0,.int .i64 0,.int .i64 0,.int .i16 0]:List Value)).toArray=w5 at *
     go_wp2_with fail
     exact⟨rfl,K1.out.tr HKB.out,λ_=>rfl,λh1 h2=>absurd (And.intro h1 h2) HOP.out⟩
   case xB=>
    refine AllReadyH.cons rfl (λK hK=>?_) AllReadyH.nil
    go_simp
    refine hK.out _ _ (HS.out _ (H3.out.ac _)) (λhH=>?_)
    clear hK K
    (try simp only[Act.put,lits])
    refine rd 10 rfl (by kernel_rfl) (λK hK=>?_)
    go_simp
    refine hK.out _ _ (HS.out _ (H3.out.ac _)) (λhH=>?_)
    clear hK K
    (try simp only[Act.put,lits])
    refine rd 11 rfl (by kernel_rfl) (λK hK=>?_)
    go_simp
    go_at_call 205
    refine Calls.mono (HDC.out _) ?_
    rintro e4 w4 ⟨rfl,hk4⟩
    have H4:Hid (Bel w1 w4):=xh (Bel.tr (H3.out.ac _) hk4)
    have HK4:=xh hk4
    clear hk4
    refine hK.out _ _ (HS.out _ H4.out) (λhH=>?_)
    clear hK K
    (try simp only[Act.put,lits])
    refine plan [12,13,14] ?_
    repeat refine tk rfl (by kernel_rfl) rfl (by intro w hw;(try dsimp only at hw);go_simp;with_reducible rfl) (by assumption) (λ_ _ _ h=>h) (by(try simp only[Act.put,lits]);exact rfl) ?_
    refine planned ?_
    refine rd 16 rfl (by kernel_rfl) (λK hK=>?_)
    rw[if_pos (by rfl)]
    refine wp_store_row _ _ _ rfl w3.heap.size (([.int .u8 0,.int .i64 0,.int .i64 0,.int .i16 0]:List Value)).toArray rfl rfl 344 (([.int .u8 0,.int .i64 0,.int .i64 0,.int .i16 0]:List Value)).toArray ((Blk.new w3 _ _).bel HK4.out) (by kernel_rfl) rfl (all_oneCell_toArray (by intro v hv;simp at hv;rcases hv with rfl|rfl|rfl|rfl<;>rfl)) ?_
    have kS:Keep (λk=>k=w3.heap.size) w4 _:=Keep.setRow _ w3.heap.size (([.int .u8 0,.int .i64 0,.int .i64 0,.int .i16 0]:List Value)).toArray
    have BZ:=Blk.setRow (show Blk w4 w3.heap.size [.int .u8 0,.int .i64 0,.int .i64 0,.int .i16 0] 344 from((Blk.new w3 _ _).bel HK4.out)) [.int .u8 0,.int .i64 0,.int .i64 0,.int .i16 0]
    have kB:Bel w1 _:=((Keep.of_bel _ H4.out).tr kS).below _ (Nat.le_refl _) (λk hk=>by have e:k=w3.heap.size:=hk;have:=H4.out.size;have:=H3.out.size;omega)
    refine hK.out _ _ (HS.out _ kB) (λhH=>?_)
    clear hK K
    (try simp only[Act.put,lits])
    refine plan [17] ?_
    repeat refine tk rfl (by kernel_rfl) rfl (by intro w hw;(try dsimp only at hw);go_simp;with_reducible rfl) (by assumption) (λ_ _ _ h=>h) (by(try simp only[Act.put,lits]);exact rfl) ?_
    refine planned ?_
    refine wpAnyH_done (by kernel_rfl) ?_ _
    refine NoPanic.normal ?_
    have HKB:=xh kB
    clear kS hH HK3 HK4 BZ kB
    generalize World.setRow w4 w3.heap.size (([.int .u8 0,.int .i64 0,.int .i64 0,.int .i16 0]:List Value)).toArray=w5 at *
    go_wp2_with fail
    exact⟨rfl,K1.out.tr HKB.out,λ_=>rfl,λh1 h2=>absurd (And.intro h1 h2) HOP.out⟩
  case xA=>
   refine AllReadyH.cons rfl (λK hK=>?_) AllReadyH.nil
   go_simp
   refine hK.out _ _ (HS.out _ ((Bel.start w1 (.cells #[.int .u8 0,.int .i64 0,.int .i64 0,.int .i16 0] 344)).drew)) (λhH=>?_)
   clear hK K
   (try simp only[Act.put,lits])
   refine rd 8 rfl (by kernel_rfl) (λK hK=>?_)
   go_simp
   go_at_call 206
   refine Calls.mono (HPK.out _ (K1.out.tr ((Bel.start w1 (.cells #[.int .u8 0,.int .i64 0,.int .i64 0,.int .i16 0] 344)).drew))) ?_
   rintro e3 w3 ⟨g,rfl,hg,hB,hk3⟩
   have H3:Hid (Bel w1 w3):=xh (Bel.tr ((Bel.start w1 (.cells #[.int .u8 0,.int .i64 0,.int .i64 0,.int .i16 0] 344)).drew) hk3)
   have HK3:=xh hk3
   have d0:w3.cell? ⟨g,0,none⟩=some (.int .u8 b0):=hB.cell 0
   have d1:w3.cell? ⟨g,1,none⟩=some (.int .u8 b1):=hB.cell 1
   have d2:w3.cell? ⟨g,2,none⟩=some (.int .u8 b2):=hB.cell 2
   have d3:w3.cell? ⟨g,3,none⟩=some (.int .u8 b3):=hB.cell 3
   have gl:g<w3.heap.size:=hB.lt
   have gn:w3.heap.size≠g:=Nat.ne_of_gt gl
   clear hg hB hk3
   refine hK.out _ _ (HS.out _ H3.out) (λhH=>?_)
   clear hK K
   (try simp only[Act.put,lits])
   refine plan [9] ?_
   repeat refine tk rfl (by kernel_rfl) rfl (by intro w hw;(try dsimp only at hw);go_simp;with_reducible rfl) (by assumption) (λ_ _ _ h=>h) (by(try simp only[Act.put,lits]);exact rfl) ?_
   refine planned ?_
   refine rd 10 rfl (by kernel_rfl) (λK hK=>?_)
   go_simp
   refine hK.out _ _ (HS.out _ H3.out) (λhH=>?_)
   clear hK K
   (try simp only[Act.put,lits])
   refine rd 11 rfl (by kernel_rfl) (λK hK=>?_)
   go_simp
   go_at_call 205
   refine Calls.mono (HDC.out _) ?_
   rintro e4 w4 ⟨rfl,hk4⟩
   have H4:Hid (Bel w1 w4):=xh (Bel.tr H3.out hk4)
   have HK4:=xh hk4
   clear hk4
   refine hK.out _ _ (HS.out _ H4.out) (λhH=>?_)
   clear hK K
   (try simp only[Act.put,lits])
   refine plan [12,13,14] ?_
   repeat refine tk rfl (by kernel_rfl) rfl (by intro w hw;(try dsimp only at hw);go_simp;with_reducible rfl) (by assumption) (λ_ _ _ h=>h) (by(try simp only[Act.put,lits]);exact rfl) ?_
   refine planned ?_
   refine rd 16 rfl (by kernel_rfl) (λK hK=>?_)
   rw[if_pos (by rfl)]
   refine wp_store_row _ _ _ rfl w1.heap.size (([.int .u8 0,.int .i64 0,.int .i64 0,.int .i16 0]:List Value)).toArray rfl rfl 344 (([.int .u8 0,.int .i64 0,.int .i64 0,.int .i16 0]:List Value)).toArray (((show Blk (w1.alloc (.cells #[.int .u8 0,.int .i64 0,.int .i64 0,.int .i16 0] 344)).drew w1.heap.size [.int .u8 0,.int .i64 0,.int .i64 0,.int .i16 0] 344 from Blk.new w1 _ _).bel HK3.out).bel HK4.out) (by kernel_rfl) rfl (all_oneCell_toArray (by intro v hv;simp at hv;rcases hv with rfl|rfl|rfl|rfl<;>rfl)) ?_
   have kS:Keep (λk=>k=w1.heap.size) w4 _:=Keep.setRow _ w1.heap.size (([.int .u8 0,.int .i64 0,.int .i64 0,.int .i16 0]:List Value)).toArray
   have BZ:=Blk.setRow (show Blk w4 w1.heap.size [.int .u8 0,.int .i64 0,.int .i64 0,.int .i16 0] 344 from(((show Blk (w1.alloc (.cells #[.int .u8 0,.int .i64 0,.int .i64 0,.int .i16 0] 344)).drew w1.heap.size [.int .u8 0,.int .i64 0,.int .i64 0,.int .i16 0] 344 from Blk.new w1 _ _).bel HK3.out).bel HK4.out)) [.int .u8 0,.int .i64 0,.int .i64 0,.int .i16 0]
   have kB:Bel w1 _:=((Keep.of_bel _ H4.out).tr kS).below _ (Nat.le_refl _) (λk hk=>by have e:k=w1.heap.size:=hk;have:=H4.out.size;have:=H3.out.size;omega)
   refine hK.out _ _ (HS.out _ kB) (λhH=>?_)
   clear hK K
   (try simp only[Act.put,lits])
   refine plan [17] ?_
   repeat refine tk rfl (by kernel_rfl) rfl (by intro w hw;(try dsimp only at hw);go_simp;with_reducible rfl) (by assumption) (λ_ _ _ h=>h) (by(try simp only[Act.put,lits]);exact rfl) ?_
   refine planned ?_
   refine wpAnyH_done (by kernel_rfl) ?_ _
   refine NoPanic.normal ?_
   have HKB:=xh kB
   clear kS hH HK3 HK4 BZ kB
   generalize World.setRow w4 w1.heap.size (([.int .u8 0,.int .i64 0,.int .i64 0,.int .i16 0]:List Value)).toArray=w5 at *
   go_wp2_with fail
   exact⟨rfl,K1.out.tr HKB.out,λ_=>rfl,λh1 h2=>absurd (And.intro h1 h2) HOP.out⟩
end Go.Proofs.YtjdaddmjpicflaaGreatDoor
