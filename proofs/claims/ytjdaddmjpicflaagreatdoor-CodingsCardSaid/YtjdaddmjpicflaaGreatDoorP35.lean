/- The law's stepped and before. -/
import Derived.Deep.DeepCutAuto
import Derived.Test.YtjdaddmjpicflaaGreatDoorP29
import Derived.Test.YtjdaddmjpicflaaGreatDoorP30
import Derived.Test.YtjdaddmjpicflaaGreatDoorP34
import Derived.Test.YtjdaddmjpicflaaGreatDoorP26
import Derived.Test.YtjdaddmjpicflaaGreatDoorP00
set_option linter.unusedVariables false
set_option linter.unusedSimpArgs false
set_option maxRecDepth 100000
set_option maxHeartbeats 16000000
namespace Go.Proofs.YtjdaddmjpicflaaGreatDoor
open Go.RowKit Go.Maps
theorem procD_any (kb b n cap at_:Nat) (cs:List Value) (pid:Int) (w:World) (c5:w.cell? ⟨kb,5,none⟩=some (.slice (some ⟨b,0,none⟩) n cap)) (hb:Blk w b cs 80) (hat:at_<n) (hn:n≤1000) (hall:∀i,i<at_→∃q:Int,cs[i*31]?=some (.int .i64 q)∧q≠pid) (he:cs[at_*31]?=some (.int .i64 pid)) :
 Calls Tryz.prog 20 #[.pointer (some ⟨kb,0,none⟩),.int .i64 pid] w λe w'=>e=.returned (.int .i64 at_)∧w=w':=by
 have HB:=xh hb
 have HA:=xh hall
 have HE:=xh he
 clear hb hall he
 go_enter Tryz.func20,Tryz.ntmps20
 go_wp2_with fail
 go_loop [5] (λi=>∃k:Nat,k≤at_∧i=.int .i64 k) (λi=>at_+1-(intOf i).toNat)
 case atStart=>exact⟨0,Nat.zero_le _,rfl⟩
 case round=>
  obtain⟨k,hk,rfl⟩:=hrel
  have hkn:k<n:=by omega
  by_cases hlt:k<at_
  ·obtain⟨q,hq,hqn⟩:=HA.out k hlt
   have c0:w.cell? ⟨b,k*31,none⟩=some (.int .i64 q):=by rw[HB.out.cell];exact hq
   have hbq:(q==pid)=false:=beq_eq_false_iff_ne.2 hqn
   clear hq
   go_wp2_with fail
   go_round
   case rel=>exact⟨k+1,by omega,by go_num⟩
   case measure=>simp[intOf]<;>omega
  ·obtain rfl:k=at_:=by omega
   have c0:w.cell? ⟨b,k*31,none⟩=some (.int .i64 pid):=by rw[HB.out.cell];exact HE.out
   go_wp2_with fail
   go_ret
   exact⟨rfl,rfl⟩
theorem stepped_live (wb tk rb b at_ n cap:Nat) (o1 o2 o3:Value) (pid op a2 a3 a4 tn:Int) (v:Value) (nv:Int) (Q1 Q2:World→Prop) (w:World)
 (hW:∀W,Q1 W→Blk W wb [.pointer (some ⟨tk,0,none⟩),.pointer (some ⟨rb,0,none⟩),o1,o2,o3] 55) (hW0:Blk w wb [.pointer (some ⟨tk,0,none⟩),.pointer (some ⟨rb,0,none⟩),o1,o2,o3] 55) (c5:w.cell? ⟨rb,5,none⟩=some (.slice (some ⟨b,0,none⟩) n cap)) (hat:at_<n) (hn:n≤1000) (cst:w.cell? ⟨b,at_*31+2,none⟩=some (.int .i64 0))
 (hcall:Calls Tryz.prog 20 #[.pointer (some ⟨rb,0,none⟩),.int .i64 pid] w λe w'=>e=.returned (.int .i64 at_)∧w=w')
 (hnx:∀W,Bel w W→Calls Tryz.prog 21 #[.pointer (some ⟨b,at_*31,none⟩)] W λe w'=>e=.returned (.tuple #[.agg #[.int .i64 op,.int .i64 a2,.int .i64 a3,.int .i64 a4],.int .i64 tn])∧Bel W w') (hne:tn≠0∨op≠24) (hnv:nv≠ -2)
 (hks:∀W,Bel w W→Calls Tryz.prog 51 #[.pointer (some ⟨tk,0,none⟩),.int .i64 pid] W λe w'=>e=.returned v∧Q1 w') (htl:∀W,Q1 W→Calls Tryz.prog 8 #[v] W λe w'=>e=.returned (.int .i64 nv)∧Bel W w')
 (hrs:∀W W',Q1 W→Bel W W'→Calls Tryz.prog 52 #[.pointer (some ⟨rb,0,none⟩),.int .i64 pid] W' λe w'=>e=.returned (.int .i64 nv)∧Q2 w') :
 Calls Tryz.prog 23 #[.pointer (some ⟨wb,0,none⟩),.int .i64 pid] w λe w'=>e=.returned (.bool true)∧Q2 w':=by
 have hat0:(0:Int)≤at_:=by omega
 have hat1:(at_:Int)<n:=by omega
 have w1:w.cell? ⟨wb,1,none⟩=some (.pointer (some ⟨rb,0,none⟩)):=hW0.cell 1
 have w0:w.cell? ⟨wb,0,none⟩=some (.pointer (some ⟨tk,0,none⟩)):=hW0.cell 0
 have HW:=xh hW
 have HC:=xh hcall
 have HNX:=xh hnx
 have HKS:=xh hks
 have HTL:=xh htl
 have HRS:=xh hrs
 have HW0:=xh (And.intro w0 w1)
 have hnv2:(nv != -2)=true:=bne_iff_ne.2 hnv
 clear hW hW0 hcall hnx hks htl hrs hnv
 have hdec:(tn==0)=false∨((tn==0)=true∧(op==24)=false):=by
  by_cases h:tn=0
  ·exact .inr ⟨beq_iff_eq.2 h,beq_eq_false_iff_ne.2 (hne.resolve_left (λh2=>h2 h))⟩
  ·exact .inl (beq_eq_false_iff_ne.2 h)
 clear hne
 go_enter Tryz.func23,Tryz.ntmps23
 go_upto_region 2 with(go_at_call 20;((with_reducible refine Calls.mono HC.out ?_);rintro e2 w2 ⟨rfl,rfl⟩))
 have k2:Bel w (w.alloc (.cells #[.int .i64 0,.int .i64 0,.int .i64 0,.string ⟨#[]⟩,.slice none 0 0,.slice none 0 0] 156)):=Bel.start _ _
 go_upto_region 3 with fail
 have hsz:w.heap.size=w.heap.size:=rfl
 generalize w.alloc (.cells #[.int .i64 0,.int .i64 0,.int .i64 0,.string ⟨#[]⟩,.slice none 0 0,.slice none 0 0] 156)=w2 at *
 have K2:=xh k2
 have w1:=cell_bel k2 w1
 have w0:=cell_bel k2 w0
 have c5:=cell_bel k2 c5
 have cst:=cell_bel k2 cst
 clear k2
 go_upto_region 6 with(go_at_call 21;((with_reducible refine Calls.mono (HNX.out _ K2.out) ?_);rintro e3 w3 ⟨rfl,k3⟩;have H3:=xh k3;clear k3))
 have k4:Bel w (w3.alloc (.cells #[.int .i64 op,.int .i64 a2,.int .i64 a3,.int .i64 a4] 89)):=(K2.out.tr H3.out).ac _
 have BI:Blk (w3.alloc (.cells #[.int .i64 op,.int .i64 a2,.int .i64 a3,.int .i64 a4] 89)) w3.heap.size [.int .i64 op,.int .i64 a2,.int .i64 a3,.int .i64 a4] 89:=Blk.new w3 _ _
 generalize w3.alloc (.cells #[.int .i64 op,.int .i64 a2,.int .i64 a3,.int .i64 a4] 89)=w4 at *
 generalize w3.heap.size=bx at *
 have i0:w4.cell? ⟨bx,0,none⟩=some (.int .i64 op):=BI.cell 0
 have K4:=xh k4
 have w0:w4.cell? ⟨wb,0,none⟩=some (.pointer (some ⟨tk,0,none⟩)):=cell_bel k4 HW0.out.1
 clear k4 w1 c5 cst BI
 rcases hdec with h1|⟨h1,h2⟩
 all_goals go_upto_region 9 with(go_at_call 51;((with_reducible refine Calls.mono (HKS.out _ K4.out) ?_);rintro e5 w5 ⟨rfl,q5⟩;have H5:=xh q5;clear q5))
 all_goals go_upto_region 10 with(first
  | (go_at_call 8;((with_reducible refine Calls.mono (HTL.out _ H5.out) ?_);rintro e6 w6 ⟨rfl,k6⟩;have H6:=xh k6;clear k6))
  | (go_at_call 19;((with_reducible refine Calls.mono (num_same _ _) ?_);rintro e7 w7 ⟨rfl,rfl⟩)))
 all_goals have w1:w6.cell? ⟨wb,1,none⟩=some (.pointer (some ⟨rb,0,none⟩)):=((HW.out _ H5.out).bel H6.out).cell 1
 all_goals go_wp2_with (go_at_call 52;((with_reducible refine Calls.mono (HRS.out _ _ H5.out H6.out) ?_);rintro e8 w8 ⟨rfl,q8⟩;have H8:=xh q8;clear q8))
 all_goals go_ret
 all_goals exact⟨rfl,H8.out⟩
theorem stepped_dead (wb tk rb b at_ n cap:Nat) (o1 o2 o3:Value) (pid st:Int) (v:Value) (nv:Int) (Q1 Q2:World→Prop) (w:World)
 (hW:∀W,Q1 W→Blk W wb [.pointer (some ⟨tk,0,none⟩),.pointer (some ⟨rb,0,none⟩),o1,o2,o3] 55) (hW0:Blk w wb [.pointer (some ⟨tk,0,none⟩),.pointer (some ⟨rb,0,none⟩),o1,o2,o3] 55) (c5:w.cell? ⟨rb,5,none⟩=some (.slice (some ⟨b,0,none⟩) n cap)) (hat:at_<n) (hn:n≤1000) (cst:w.cell? ⟨b,at_*31+2,none⟩=some (.int .i64 st)) (hst:st≠0)
 (hcall:Calls Tryz.prog 20 #[.pointer (some ⟨rb,0,none⟩),.int .i64 pid] w λe w'=>e=.returned (.int .i64 at_)∧w=w') (hnv:nv≠ -2)
 (hks:∀W,Bel w W→Calls Tryz.prog 51 #[.pointer (some ⟨tk,0,none⟩),.int .i64 pid] W λe w'=>e=.returned v∧Q1 w') (htl:∀W,Q1 W→Calls Tryz.prog 8 #[v] W λe w'=>e=.returned (.int .i64 nv)∧Bel W w')
 (hrs:∀W W',Q1 W→Bel W W'→Calls Tryz.prog 52 #[.pointer (some ⟨rb,0,none⟩),.int .i64 pid] W' λe w'=>e=.returned (.int .i64 nv)∧Q2 w') :
 Calls Tryz.prog 23 #[.pointer (some ⟨wb,0,none⟩),.int .i64 pid] w λe w'=>e=.returned (.bool true)∧Q2 w':=by
 have hat0:(0:Int)≤at_:=by omega
 have hat1:(at_:Int)<n:=by omega
 have w1:w.cell? ⟨wb,1,none⟩=some (.pointer (some ⟨rb,0,none⟩)):=hW0.cell 1
 have w0:w.cell? ⟨wb,0,none⟩=some (.pointer (some ⟨tk,0,none⟩)):=hW0.cell 0
 have HW:=xh hW
 have HC:=xh hcall
 have HKS:=xh hks
 have HTL:=xh htl
 have HRS:=xh hrs
 have hnv2:(nv != -2)=true:=bne_iff_ne.2 hnv
 have hst2:(st==0)=false:=beq_eq_false_iff_ne.2 hst
 clear hW hW0 hcall hks htl hrs hnv hst
 go_enter Tryz.func23,Tryz.ntmps23
 go_upto_region 2 with(go_at_call 20;((with_reducible refine Calls.mono HC.out ?_);rintro e2 w2 ⟨rfl,rfl⟩))
 have k2:Bel w (w.alloc (.cells #[.int .i64 0,.int .i64 0,.int .i64 0,.string ⟨#[]⟩,.slice none 0 0,.slice none 0 0] 156)):=Bel.start _ _
 go_upto_region 3 with fail
 generalize w.alloc (.cells #[.int .i64 0,.int .i64 0,.int .i64 0,.string ⟨#[]⟩,.slice none 0 0,.slice none 0 0] 156)=w2 at *
 have K2:=xh k2
 have w1:=cell_bel k2 w1
 have w0:=cell_bel k2 w0
 have c5:=cell_bel k2 c5
 have cst:=cell_bel k2 cst
 clear k2
 go_upto_region 9 with(go_at_call 51;((with_reducible refine Calls.mono (HKS.out _ K2.out) ?_);rintro e5 w5 ⟨rfl,q5⟩;have H5:=xh q5;clear q5))
 go_upto_region 10 with(first
  | (go_at_call 8;((with_reducible refine Calls.mono (HTL.out _ H5.out) ?_);rintro e6 w6 ⟨rfl,k6⟩;have H6:=xh k6;clear k6))
  | (go_at_call 19;((with_reducible refine Calls.mono (num_same _ _) ?_);rintro e7 w7 ⟨rfl,rfl⟩)))
 have w1:w6.cell? ⟨wb,1,none⟩=some (.pointer (some ⟨rb,0,none⟩)):=((HW.out _ H5.out).bel H6.out).cell 1
 go_wp2_with (go_at_call 52;((with_reducible refine Calls.mono (HRS.out _ _ H5.out H6.out) ?_);rintro e8 w8 ⟨rfl,q8⟩;have H8:=xh q8;clear q8))
 go_ret
 exact⟨rfl,H8.out⟩
theorem before_live (wb tk rb b at_ n cap:Nat) (o1 o2 o3:Value) (pid op a2 a3 a4 tn:Int) (w:World) (hW0:Blk w wb [.pointer (some ⟨tk,0,none⟩),.pointer (some ⟨rb,0,none⟩),o1,o2,o3] 55) (c5:w.cell? ⟨rb,5,none⟩=some (.slice (some ⟨b,0,none⟩) n cap)) (hat:at_<n) (hn:n≤1000) (cst:w.cell? ⟨b,at_*31+2,none⟩=some (.int .i64 0))
 (hcall:Calls Tryz.prog 20 #[.pointer (some ⟨rb,0,none⟩),.int .i64 pid] w λe w'=>e=.returned (.int .i64 at_)∧w=w')
 (hnx:∀W,Bel w W→Calls Tryz.prog 21 #[.pointer (some ⟨b,at_*31,none⟩)] W λe w'=>e=.returned (.tuple #[.agg #[.int .i64 op,.int .i64 a2,.int .i64 a3,.int .i64 a4],.int .i64 tn])∧Bel W w') :
 Calls Tryz.prog 11 #[.pointer (some ⟨wb,0,none⟩),.int .i64 pid,.int .i64 1] w λe w'=>e=.returned (.int .i64 (if tn=0∧op=24 then 0 else 1))∧Bel w w':=by
 have hat0:(0:Int)≤at_:=by omega
 have hat1:(at_:Int)<n:=by omega
 have hat2:¬(at_:Int)<0:=by omega
 have w1:w.cell? ⟨wb,1,none⟩=some (.pointer (some ⟨rb,0,none⟩)):=hW0.cell 1
 have HC:=xh hcall
 have HNX:=xh hnx
 clear hW0 hcall hnx
 obtain⟨R,hR⟩:∃R:Int,(if tn=0∧op=24 then(0:Int)else 1)=R:=⟨_,rfl⟩
 rw[hR]
 have hdec:((tn==0)=true∧(op==24)=true∧R=0)∨((tn==0)=false∧R=1)∨((tn==0)=true∧(op==24)=false∧R=1):=by
  by_cases h:tn=0
  ·by_cases h2:op=24
   ·rw[if_pos ⟨h,h2⟩]at hR
    exact .inl ⟨beq_iff_eq.2 h,beq_iff_eq.2 h2,hR.symm⟩
   ·rw[if_neg λe=>h2 e.2]at hR
    exact .inr (.inr ⟨beq_iff_eq.2 h,beq_eq_false_iff_ne.2 h2,hR.symm⟩)
  ·rw[if_neg λe=>h e.1]at hR
   exact .inr (.inl ⟨beq_eq_false_iff_ne.2 h,hR.symm⟩)
 clear hR
 go_enter Tryz.func11,Tryz.ntmps11
 go_upto_region 5 with(first
  | (go_at_call 20;((with_reducible refine Calls.mono HC.out ?_);rintro e2 w2 ⟨rfl,rfl⟩))
  | (go_at_call 21;((with_reducible refine Calls.mono (HNX.out _ (Bel.refl _)) ?_);rintro e3 w3 ⟨rfl,k3⟩;have H3:=xh k3;clear k3)))
 have k4:Bel w (w3.alloc (.cells #[.int .i64 op,.int .i64 a2,.int .i64 a3,.int .i64 a4] 89)):=H3.out.ac _
 have BI:Blk (w3.alloc (.cells #[.int .i64 op,.int .i64 a2,.int .i64 a3,.int .i64 a4] 89)) w3.heap.size [.int .i64 op,.int .i64 a2,.int .i64 a3,.int .i64 a4] 89:=Blk.new w3 _ _
 generalize w3.alloc (.cells #[.int .i64 op,.int .i64 a2,.int .i64 a3,.int .i64 a4] 89)=w4 at *
 generalize w3.heap.size=bx at *
 have i0:w4.cell? ⟨bx,0,none⟩=some (.int .i64 op):=BI.cell 0
 have K4:=xh k4
 clear k4 w1 c5 cst BI
 rcases hdec with⟨h1,h2,rfl⟩|⟨h1,rfl⟩|⟨h1,h2,rfl⟩
 all_goals go_wp2_with fail
 all_goals go_ret
 all_goals exact⟨rfl,K4.out⟩
theorem before_dead (wb tk rb b at_ n cap:Nat) (o1 o2 o3:Value) (pid st m:Int) (w:World) (hW0:Blk w wb [.pointer (some ⟨tk,0,none⟩),.pointer (some ⟨rb,0,none⟩),o1,o2,o3] 55) (c5:w.cell? ⟨rb,5,none⟩=some (.slice (some ⟨b,0,none⟩) n cap)) (hat:at_<n) (hn:n≤1000) (cst:w.cell? ⟨b,at_*31+2,none⟩=some (.int .i64 st)) (hst:st≠0)
 (hcall:Calls Tryz.prog 20 #[.pointer (some ⟨rb,0,none⟩),.int .i64 pid] w λe w'=>e=.returned (.int .i64 at_)∧w=w') :
 Calls Tryz.prog 11 #[.pointer (some ⟨wb,0,none⟩),.int .i64 pid,.int .i64 m] w λe w'=>e=.returned (.int .i64 m)∧Bel w w':=by
 have hat0:(0:Int)≤at_:=by omega
 have hat1:(at_:Int)<n:=by omega
 have hat2:¬(at_:Int)<0:=by omega
 have w1:w.cell? ⟨wb,1,none⟩=some (.pointer (some ⟨rb,0,none⟩)):=hW0.cell 1
 have HC:=xh hcall
 have hst2:(st != 0)=true:=bne_iff_ne.2 hst
 clear hW0 hcall hst
 go_enter Tryz.func11,Tryz.ntmps11
 go_wp2_with (go_at_call 20;((with_reducible refine Calls.mono HC.out ?_);rintro e2 w2 ⟨rfl,rfl⟩))
 go_ret
 exact⟨rfl,Bel.refl _⟩
end Go.Proofs.YtjdaddmjpicflaaGreatDoor
namespace Go.Proofs.YtjdaddmjpicflaaGreatDoor
open Go.RowKit Go.MapKept Go.Maps
theorem cpuD_rest (pc:Int) (regs:List Int) (sp:Value) (rest:List Value) (h:regs.length=16) (j:Nat):(cpuD pc regs sp++rest)[18+j]?=rest[j]?:=by
 rw[List.getElem?_append_right (by simp[cpuD,h])]
 simp[cpuD,h]
theorem cpuD_len (pc:Int) (regs:List Int) (sp:Value) (h:regs.length=16):(cpuD pc regs sp).length=18:=by simp[cpuD,h]
theorem cpuD_17 (pc:Int) (regs:List Int) (sp:Value) (rest:List Value) (h:regs.length=16):(cpuD pc regs sp++rest)[17]?=some sp:=by
 rw[List.getElem?_append_left (by rw[cpuD_len _ _ _ h];omega)]
 simp[cpuD,h]
section
variable {E:CE} {w w':World} {perm:Nat→Option Int} {c:Cpu} {sb:Nat} {pv:Value} {cs:List Value} {s:KV} {iv:Value} {fr:Int} {fds:Nat}
theorem LiveC.sm (h:LiveC E w perm c sb pv cs):∃n,(pagesOf perm c.M n).isSome=true:=by
 obtain⟨n,hn⟩:=h.som
 exact⟨n,by unfold pagesOf;rw[Option.isSome_map];exact hn⟩
theorem dcpu_pos (h:DCpu w E.pb2 0 cs perm c pv) (hs:∃n,(perm n).isSome=true):0<(pageNums (pagesOf perm c.M)).length:=by
 obtain⟨n,hn⟩:=hs
 refine List.length_pos_of_mem (a:=n) (mem_pageNums.2 ⟨?_,by unfold pagesOf;rw[Option.isSome_map];exact hn⟩)
 refine Classical.byContradiction λhc=>?_
 rw[h.lo n (by omega)]at hn
 cases hn
theorem LiveC.own2 (h:LiveC E w perm c sb pv cs) (hp:CPla E) (q:Nat) (hq:Own2 E.pb sb q):VarB E.B w q:=by
 rcases hq with rfl|rfl
 ·exact⟨hp.hb.2.2.2.1,.inl ⟨_,_,h.cpu.blk,.inl rfl,_,_,rfl⟩⟩
 ·exact⟨h.hsb,.inr ⟨_,h.cpu.sp,h.sm⟩⟩
theorem dcpu_pgblk (h:DCpu w E.pb2 0 cs perm c pv) (hs:∃n,(perm n).isSome=true) {g:Nat} (hg:pv.ownBlock=some g):∃ds,Blk w g ds 148∧∃k n,ds[0]?=some (.int k n):=by
 have hpos:=dcpu_pos h hs
 obtain⟨p,cap,rfl,hb⟩:=h.pgs
 obtain⟨g',ds,rfl,hb,hc⟩:=hb hpos
 cases hg
 obtain⟨k,hk⟩:∃k,(pageNums (pagesOf perm c.M))[0]?=some k:=⟨_,List.getElem?_eq_getElem hpos⟩
 obtain⟨e1,e2⟩:=page_get h.ok hk 0 (by omega)
 refine⟨ds,hb,.i64,(k:Int),?_⟩
 have e3:=hc 0 (by simpa using e2)
 rw[e3]
 have e1':(refRow (pagesOf perm c.M))[0]?=(refCells k ((pagesOf perm c.M k).getD Pg.zero))[0]?:=by simpa using e1
 rw[e1']
 rfl
theorem dcpu_own (h:DCpu w E.pb2 0 cs perm c pv) (hs:∃n,(perm n).isSome=true) (hp:CPla E) (hpg:∀g,pv.ownBlock=some g→E.B≤g) (h0:cs[0]?=some (.int .i64 1)) (q:Nat) (hq:OwnD E.pb2 pv q):VarB E.B w q:=by
 rcases hq with rfl|hq
 ·exact⟨hp.hb.2.2.2.2,.inl ⟨_,_,h.blk,.inr (.inl rfl),_,_,h0⟩⟩
 ·obtain⟨ds,hb,hc⟩:=dcpu_pgblk h hs hq
  exact⟨hpg _ hq,.inl ⟨_,_,hb,.inr (.inr (.inl rfl)),hc⟩⟩
theorem dcpu_not (h:DCpu w E.pb2 0 cs perm c pv) (hs:∃n,(perm n).isSome=true) (q:Nat) (ds:List Value) (t:TypeId) (hb:Blk w q ds t) (ht:t≠80) (ht2:t≠148):¬OwnD E.pb2 pv q:=by
 rintro(rfl|hq)
 ·exact hb.ne h.blk ht rfl
 ·obtain⟨ds2,hb2,_⟩:=dcpu_pgblk h hs hq
  exact hb.ne hb2 ht2 rfl
theorem dcpu_sb (h:DCpu w E.pb2 0 cs perm c pv) (hs:∃n,(perm n).isSome=true) {m:Pages} (hm:Sp w sb m):¬OwnD E.pb2 pv sb:=by
 obtain⟨kv,hmp,_⟩:=hm
 rintro(e|hq)
 ·exact h.blk.ne_map hmp e.symm
 ·obtain⟨ds2,hb2,_⟩:=dcpu_pgblk h hs hq
  exact hb2.ne_map hmp rfl
theorem LiveC.not2 (h:LiveC E w perm c sb pv cs) (q:Nat) (ds:List Value) (t:TypeId) (hb:Blk w q ds t) (ht:t≠121):¬Own2 E.pb sb q:=by
 rintro(rfl|rfl)
 ·exact hb.ne h.cpu.blk ht rfl
 ·obtain⟨kv,hmp,_⟩:=h.cpu.sp
  exact hb.ne_map hmp rfl
theorem LiveC.bel (h:LiveC E w perm c sb pv cs) (k:Bel w w'):LiveC E w' perm c sb pv cs:=⟨h.cpu.bel k,h.dcp.bel k,h.hdr,h.ne,h.som,h.hsb,h.hpg⟩
theorem CKer.bel (h:CKer E w fr fds s iv) (k:Bel w w'):CKer E w' fr fds s iv:=h.keep (Keep.of_bel (λ_=>False) k) λ_ _ _ _ _ _ _ h=>h
theorem CKer.c5 (h:CKer E w fr fds s iv):w.cell? ⟨E.rb,5,none⟩=some (.slice (some ⟨E.pb2,0,none⟩) 1 E.pc2):=by rw[h.dk.blk.cell];show some s.pv=_;rw[h.pv]
theorem CKer.at (h:CKer E w fr fds s iv) (hl:LiveC E w perm c sb pv cs):ProcAtD w E.rb E.pb2 0 1 E.pc2 1 cs:=
 ⟨h.c5,by omega,by omega,λW hW=>procD_any E.rb E.pb2 1 E.pc2 0 cs 1 W (cell_bel hW h.c5) (hl.dcp.blk.bel hW) (by omega) (by omega) (λi hi=>by omega) hl.hdr.h0,hl.hdr.h2⟩
theorem CKer.ready (h:CKer E w fr fds s iv) (hf:CFix E w) (hl:LiveC E w perm c sb pv cs):Calls Tryz.prog 124 #[.pointer (some ⟨E.kb,0,none⟩),.int .i64 1] w λe w'=>e=.returned (.tuple #[.pointer (some ⟨E.pb,0,none⟩),.nilIface])∧w=w':=
 ready_ok E.kb E.pm E.pb _ 1 w (by omega) (h.hk.cell 5) hf.hp rfl (by rw[hl.cpu.blk.cell];exact cpuD_rest _ _ _ _ hl.cpu.regs.len 2)
theorem Hdr.rest {st sv:Int} {ids:List Int} {cs':List Value} (h:Hdr cs st sv ids) (k:Rest 0 cs cs'):Hdr cs' st sv ids:=
 ⟨by rw[k.2 _ (by omega)];exact h.h0,by rw[k.2 _ (by omega)];exact h.h1,by rw[k.2 _ (by omega)];exact h.h2,by rw[k.2 _ (by omega)];exact h.h3,by rw[k.2 _ (by omega)];exact h.h4,λj hj=>by rw[k.2 _ (by omega)];exact h.h5 j hj⟩
end
theorem next_cells (perm:Nat→Option Int) (c:Cpu):∃op a2 a3 a4:Int,nextE perm c=.returned (.tuple #[.agg #[.int .i64 op,.int .i64 a2,.int .i64 a3,.int .i64 a4],.int .i64 (nextK perm c:Nat)])∧(nextK perm c=0→op=opC c):=by
 unfold nextE
 by_cases h:nextK perm c=0
 ·rw[if_pos h]
  exact⟨_,_,_,_,rfl,λ_=>rfl⟩
 ·rw[if_neg h]
  exact⟨0,0,0,0,rfl,λe=>absurd e h⟩
theorem stepK_ecall (perm:Nat→Option Int) (c:Cpu) (h0:0≤insB c 0∧insB c 0≤255):stepK perm c=1↔nextK perm c=0∧opC c=24:=by
 unfold stepK nextK
 by_cases hf:fetchB perm c=false
 ·rw[if_pos hf,if_pos hf];omega
 ·rw[if_neg hf,if_neg hf]
  by_cases ho:insB c 0<1∨24<insB c 0
  ·rw[if_pos ho,if_pos ho];omega
  ·rw[if_neg ho,if_neg ho]
   by_cases h24:opC c=24
   ·rw[if_pos h24];simp[h24]
   ·rw[if_neg h24]
    split<;>simp[h24]
theorem zomC_eq (pc:Int) (regs:List Int) (m:Option Nat) (cb:Nat) (st:Int) (h:regs.length=16):zomC (cpuD pc regs (.map m)++restC 1 0 0 0 0 (fds0 cb)) st=cpuD pc regs (.map none)++restC 1 0 2 st 0 fdsN:=by
 obtain⟨r0,r1,r2,r3,r4,r5,r6,r7,r8,r9,r10,r11,r12,r13,r14,r15,rfl⟩:=six_of h
 rfl
theorem splice_in {α:Type} (L:List α) (o:Nat) (vs:List α) (j:Nat) (hl:o+vs.length≤L.length) (h:j<vs.length):(splice L o vs)[o+j]?=vs[j]?:=by
 unfold splice
 rw[List.getElem?_append_right (by rw[List.length_take];omega),List.length_take,Nat.min_eq_left (by omega),List.getElem?_append_left (by omega)]
 congr 1
 omega
theorem zomD_hdr (cs:List Value) (st:Int) (h:31≤cs.length) (h0:cs[0]?=some (.int .i64 1)) (h1:cs[1]?=some (.int .i64 0)):Hdr (zomD cs 0 st) 2 st idsN∧(zomD cs 0 st)[22]?=some (.slice none 0 0):=by
 have hz:=λj hj=>zomD_at cs 0 st (by omega) j hj
 refine⟨⟨by rw[hz 0 (by omega)];exact h0,by rw[hz 1 (by omega)];exact h1,?_,?_,?_,λj hj=>?_⟩,?_⟩
 ·unfold zomD
  rw[splice_other _ _ _ _ (by simp;omega) (by simp),List.getElem?_set_ne (by omega),List.getElem?_set_ne (by omega),List.getElem?_set_ne (by omega),List.getElem?_set_self (by omega)]
 ·unfold zomD
  rw[splice_other _ _ _ _ (by simp;omega) (by simp),List.getElem?_set_ne (by omega),List.getElem?_set_ne (by omega),List.getElem?_set_self (by simp;omega)]
 ·unfold zomD
  rw[splice_other _ _ _ _ (by simp;omega) (by simp),List.getElem?_set_ne (by omega),List.getElem?_set_self (by simp;omega)]
 ·unfold zomD
  rw[show 23+j=(0+23)+j from by omega,splice_in _ _ _ _ (by simp;omega) (by simpa using hj),List.getElem?_replicate,if_pos hj]
  have:j=0∨j=1∨j=2∨j=3∨j=4∨j=5∨j=6∨j=7:=by omega
  rcases this with rfl|rfl|rfl|rfl|rfl|rfl|rfl|rfl<;>rfl
 ·unfold zomD
  rw[splice_other _ _ _ _ (by simp;omega) (by simp),List.getElem?_set_self (by simp;omega)]
theorem Inv.keepBel {E:CE} {w w':World} (h:Inv E w) (k:Bel w w'):Inv E w':=by
 refine⟨h.fix.keepV (KeepV.bel (B:=E.B) k),?_⟩
 rcases h.st with⟨s,iv,perm,c,sb,pv,cs,h1,h2⟩|⟨s,iv,sv,pc,regs,cs,h1,h2⟩
 ·exact .inl ⟨s,iv,perm,c,sb,pv,cs,h1.bel k,h2.bel k⟩
 ·exact .inr ⟨s,iv,sv,pc,regs,cs,h1.bel k,⟨h2.pro.bel k,h2.doc.bel k,h2.len,h2.hdr,h2.c5,h2.reg,h2.c22,h2.ok⟩⟩
theorem frm_eq (perm:Nat→Option Int) (M:Nat→Int):(pageNums (pagesOf perm M)).length=frm perm:=by
 unfold frm
 rw[pageNums_perm perm M λ_=>0]
theorem go_inv (E:CE) (w:World) (hp:CPla E) (hf:CFix E w) {s:KV} {iv:Value} {perm:Nat→Option Int} {c:Cpu} {sb:Nat} {pv:Value} {cs:List Value} (hk:CKer E w (frm perm:Nat) 3 s iv) (hl:LiveC E w perm c sb pv cs) (h0:stepK perm c=0) :
 Calls Tryz.prog 23 #[.pointer (some ⟨E.wb,0,none⟩),.int .i64 1] w λe w'=>e=.returned (.bool true)∧Inv E w'∧KeepV E.B w w':=by
 obtain⟨op,a2,a3,a4,hne,hop⟩:=next_cells perm c
 refine stepped_live E.wb E.tk E.rb E.pb2 0 1 E.pc2 _ _ _ 1 op a2 a3 a4 (nextK perm c:Nat) .nilIface 0 (λW=>CFix E W∧CKer E W (frm perm:Nat) 3 s iv∧CpuAt W E.pb sb perm (stepC c) (restC 1 0 0 0 0 (fds0 E.cb))∧DCpu W E.pb2 0 cs perm c pv∧KeepV E.B w W) (λW=>Inv E W∧KeepV E.B w W) w (λW h=>h.1.hW) hf.hW hk.c5 (by omega) (by omega) (by rw[hl.dcp.blk.cell];exact hl.hdr.h2)
  ((hk.at hl).call w (Bel.refl _)) (λW hW=>by have:=nextD_any E.pb2 0 cs perm c pv W (hl.dcp.bel hW);rw[hne]at this;exact this) ?_ (by omega) (λW hW=>?_) (λW _=>tell_nil W) (λW W' h1 hb=>?_)
 ·by_cases h1:nextK perm c=0
  ·right
   intro h2
   have:=(stepK_ecall perm c (hl.dcp.ins 0)).2 ⟨h1,by have:=hop h1;omega⟩
   omega
  ·left
   omega
 ·have hlW:=hl.bel hW
  have hkW:=hk.bel hW
  have hfW:=hf.keepV (KeepV.bel (B:=E.B) hW)
  refine tstep_any E.tk E.kb 1 (λ_ _=>True) .nilIface _ W hfW.ht ((kstep_go E.kb E.pb sb perm c _ 1 W (hkW.ready hfW hlW) hlW.cpu h0).mono ?_)
  rintro e w' ⟨rfl,hc,hK⟩
  have kv:KeepV E.B W w':=hK.mono (hlW.own2 hp)
  refine⟨rfl,hfW.keepV kv,hkW.keep hK (λq ds t hb h1 _ _=>hlW.not2 q ds t hb h1),hc,hlW.dcp.keep hK (hlW.not2 _ _ _ hlW.dcp.blk (by decide)) (λg hg=>?_),(KeepV.bel hW).tr kv⟩
  obtain⟨ds,hb,_⟩:=dcpu_pgblk hlW.dcp hlW.som hg
  exact hlW.not2 _ _ _ hb (by decide)
 ·obtain⟨f1,k1,c1,d1,v1⟩:=h1
  have fW:=f1.keepV (KeepV.bel (B:=E.B) hb)
  have kW:=k1.bel hb
  have cW:=c1.bel hb
  have dW:=d1.bel hb
  have hat:ProcAtD W' E.rb E.pb2 0 1 E.pc2 1 cs:=⟨kW.c5,by omega,by omega,λW2 hW2=>procD_any E.rb E.pb2 1 E.pc2 0 cs 1 W2 (cell_bel hW2 kW.c5) (dW.blk.bel hW2) (by omega) (by omega) (λi hi=>by omega) hl.hdr.h0,hl.hdr.h2⟩
  refine(stepD_go E.rb E.pb2 0 1 E.pc2 1 cs perm c pv W' hat dW hl.ne h0).mono ?_
  rintro e w' ⟨rfl,⟨cs',d2,hr⟩,hK⟩
  have kv:KeepV E.B W' w':=hK.mono (dcpu_own dW hl.som hp hl.hpg hl.hdr.h0)
  have hnot:=dcpu_not dW hl.som
  refine⟨rfl,⟨fW.keepV kv,.inl ⟨s,iv,perm,stepC c,sb,pv,cs',kW.keep hK (λq ds t hb _ h2 h3=>hnot q ds t hb h2 h3),⟨⟨cW.blk.keep hK (hnot _ _ _ cW.blk (by decide) (by decide)),cW.sp.of_block (hK.block _ cW.sp.lt (dcpu_sb dW hl.som cW.sp)),cW.pc,cW.regs,cW.mem⟩,d2,hl.hdr.rest hr,hl.ne,hl.som,hl.hsb,hl.hpg⟩⟩⟩,(v1.tr (KeepV.bel hb)).tr kv⟩
theorem trap_inv (E:CE) (w:World) (hp:CPla E) (hf:CFix E w) {s:KV} {iv:Value} {perm:Nat→Option Int} {c:Cpu} {sb:Nat} {pv:Value} {cs:List Value} (hk:CKer E w (frm perm:Nat) 3 s iv) (hl:LiveC E w perm c sb pv cs) (k:Nat) (h0:stepK perm c=k) (h2:2≤k) :
 Calls Tryz.prog 23 #[.pointer (some ⟨E.wb,0,none⟩),.int .i64 1] w λe w'=>e=.returned (.bool true)∧Inv E w'∧KeepV E.B w w':=by
 obtain⟨op,a2,a3,a4,hne,hop⟩:=next_cells perm c
 have hrl:=hl.cpu.regs.len
 refine stepped_live E.wb E.tk E.rb E.pb2 0 1 E.pc2 _ _ _ 1 op a2 a3 a4 (nextK perm c:Nat) .nilIface 0 (λW=>CFix E W∧CKer E W 0 0 s iv∧Blk W E.pb (cpuD c.pc c.regs (.map none)++restC 1 0 2 k 0 fdsN) 121∧DCpu W E.pb2 0 cs perm c pv∧KeepV E.B w W) (λW=>Inv E W∧KeepV E.B w W) w (λW h=>h.1.hW) hf.hW hk.c5 (by omega) (by omega) (by rw[hl.dcp.blk.cell];exact hl.hdr.h2)
  ((hk.at hl).call w (Bel.refl _)) (λW hW=>by have:=nextD_any E.pb2 0 cs perm c pv W (hl.dcp.bel hW);rw[hne]at this;exact this) ?_ (by omega) (λW hW=>?_) (λW _=>tell_nil W) (λW W' h1 hb=>?_)
 ·by_cases h1:nextK perm c=0
  ·right
   intro h2
   have:=(stepK_ecall perm c (hl.dcp.ins 0)).2 ⟨h1,by have:=hop h1;omega⟩
   omega
  ·left
   omega
 ·have hlW:=hl.bel hW
  have hkW:=hk.bel hW
  have hfW:=hf.keepV (KeepV.bel (B:=E.B) hW)
  refine tstep_any E.tk E.kb 1 (λ_ _=>True) .nilIface _ W hfW.ht (kstep_trap E.kb E.pb sb perm c _ 1 W (hkW.ready hfW hlW) hlW.cpu k h0 h2 _ (λW2 hW2=>?_))
  have hl2:=hlW.bel hW2
  have hk2:=hkW.bel hW2
  have hf2:=hfW.keepV (KeepV.bel (B:=E.B) hW2)
  refine(endP_any E.kb E.pm E.tb E.ob E.cb E.pb sb _ _ _ _ _ (frm perm:Nat) 0 _ [(1,E.pb)] (λ_=>cpuD c.pc c.regs (.map (some sb))++restC 1 0 0 0 0 (fds0 E.cb)) 1 (pagesOf perm c.M) k 0 _ _ W2 hk2.hk hf2.hp (λx hx=>?_) (by simp) (by simp) (by simp) (cpuD_17 _ _ _ _ hrl) ?_ ?_ hl2.cpu.sp (λn hn=>by unfold pagesOf;rw[hl.dcp.lo n hn];rfl) ⟨by omega,?_⟩ (by omega) hk2.hc).mono ?_
  ·rw[List.mem_singleton.1 hx]
   exact⟨hl2.cpu.blk,by rw[List.length_append,cpuD_len _ _ _ hrl];rfl,0,cpuD_rest _ _ _ _ hrl 1⟩
  ·exact cpuD_rest _ _ _ _ hrl 0
  ·obtain⟨r0,r1,r2,r3,r4,r5,r6,r7,r8,r9,r10,r11,r12,r13,r14,r15,e⟩:=six_of hrl
   rw[e]
   rfl
  ·have:=pageNums_length (pagesOf perm c.M)
   rw[frm_eq]at this
   omega
  ·rintro e w' ⟨rfl,b1,b2,b3,hK⟩
   have b3:=b3 _ (List.mem_singleton.2 rfl)
   have e1:repar 1 (csZ (λ_=>cpuD c.pc c.regs (.map (some sb))++restC 1 0 0 0 0 (fds0 E.cb)) E.pb k E.pb)=cpuD c.pc c.regs (.map none)++restC 1 0 2 k 0 fdsN:=by
    unfold csZ
    rw[if_pos rfl,zomC_eq _ _ _ _ _ hrl]
    unfold repar
    rw[if_neg]
    rw[show 19=18+1 from rfl,cpuD_rest _ _ _ _ hrl 1]
    intro h
    injection h with h
    injection h with _ h
    cases h
   have b3:Blk w' E.pb (cpuD c.pc c.regs (.map none)++restC 1 0 2 k 0 fdsN) 121:=by
    rw[←e1]
    exact b3
   rw[frm_eq,Int.sub_self]at b1
   have hv:∀q,q=E.kb∨q=E.cb∨q∈[(1,E.pb)].map (λx:Int×Nat=>x.2)→VarB E.B W2 q:=by
    rintro q (rfl|rfl|hq)
    ·exact⟨hp.hb.1,.inl ⟨_,_,hk2.hk,.inr (.inr (.inr (.inl rfl))),_,_,rfl⟩⟩
    ·exact⟨hp.hb.2.1,.inl ⟨_,_,hk2.hc,.inr (.inr (.inr (.inr (.inl rfl)))),_,_,rfl⟩⟩
    ·obtain rfl:q=E.pb:=by simpa using hq
     exact⟨hp.hb.2.2.2.1,.inl ⟨_,_,hl2.cpu.blk,.inl rfl,_,_,rfl⟩⟩
   have hn:∀q ds t,Blk W2 q ds t→t≠121→t≠109→t≠105→¬(q=E.kb∨q=E.cb∨q∈[(1,E.pb)].map (λx:Int×Nat=>x.2)):=by
    rintro q ds t hb n1 n2 n3 (rfl|rfl|hq)
    ·exact hb.ne hk2.hk n2 rfl
    ·exact hb.ne hk2.hc n3 rfl
    ·obtain rfl:q=E.pb:=by simpa using hq
     exact hb.ne hl2.cpu.blk n1 rfl
   have kv:KeepV E.B W2 w':=hK.mono hv
   refine⟨rfl,hf2.keepV kv,⟨b1,b2,hk2.dk.keep hK (hn _ _ _ hk2.dk.blk (by decide) (by decide) (by decide)) (λq ds hb=>hn _ _ _ hb (by decide) (by decide) (by decide)) (λq ds hb=>hn _ _ _ hb (by decide) (by decide) (by decide)),hk2.pv,hk2.ov,hk2.xv⟩,b3,hl2.dcp.keep hK (hn _ _ _ hl2.dcp.blk (by decide) (by decide) (by decide)) (λg hg=>?_),((KeepV.bel hW).tr (KeepV.bel hW2)).tr kv⟩
   obtain⟨ds,hb,_⟩:=dcpu_pgblk hl2.dcp hl.som hg
   exact hn _ _ _ hb (by decide) (by decide) (by decide)
 ·obtain⟨f1,k1,c1,d1,v1⟩:=h1
  have fW:=f1.keepV (KeepV.bel (B:=E.B) hb)
  have kW:=k1.bel hb
  have cW:=c1.bel hb
  have dW:=d1.bel hb
  have hat:ProcAtD W' E.rb E.pb2 0 1 E.pc2 1 cs:=⟨kW.c5,by omega,by omega,λW2 hW2=>procD_any E.rb E.pb2 1 E.pc2 0 cs 1 W2 (cell_bel hW2 kW.c5) (dW.blk.bel hW2) (by omega) (by omega) (λi hi=>by omega) hl.hdr.h0,hl.hdr.h2⟩
  refine stepD_trap E.rb E.pb2 0 1 E.pc2 1 cs perm c pv k W' hat dW h0 h2 _ (λW2 hW2=>?_)
  have f2:=fW.keepV (KeepV.bel (B:=E.B) hW2)
  have k2:=kW.bel hW2
  have c2:=cW.bel hW2
  have d2:=dW.bel hW2
  have hlen:31≤cs.length:=by have:=hl.dcp.len;omega
  refine(endD_any E.rb E.pb2 0 1 E.pc2 s iv E.L cs 1 k W2 k2.dk k2.pv d2.blk (by omega) (λi hi=>⟨0,by obtain rfl:i=0:=(by omega);exact hl.hdr.h1⟩) (by omega) (by omega) (procD_any E.rb E.pb2 1 E.pc2 0 cs 1 W2 k2.c5 d2.blk (by omega) (by omega) (λi hi=>by omega) hl.hdr.h0) k2.ov k2.xv (λi m hi h1=>?_) (λm hm=>?_)).mono ?_
  ·have:=hp.inv.conn i m.sk (sk_get hp.sk hi) (by omega)
   exact Nat.pos_of_ne_zero this
  ·obtain⟨q,c,e,_⟩:=(k2.dk.byts m hm).1.slice
   exact⟨q,_,c,e⟩
  ·rintro e w' ⟨rfl,iv',dk,b2,hK⟩
   have e1:reparD 1 (zomD cs (0*31) k) 1=zomD cs 0 k:=by
    rw[reparD,if_neg]
    ·rfl
    ·show(zomD cs 0 k)[1]?≠_
     rw[zomD_at cs 0 k (by omega) 1 (by omega),hl.hdr.h1]
     intro h
     injection h with h
     injection h with _ h
     cases h
   rw[e1]at b2
   obtain⟨z1,z2⟩:=zomD_hdr cs k hlen hl.hdr.h0 hl.hdr.h1
   have hv:∀q,q=E.rb∨q=E.pb2→VarB E.B W2 q:=by
    rintro q (rfl|rfl)
    ·exact⟨hp.hb.2.2.1,.inl ⟨_,_,k2.dk.blk,.inr (.inr (.inr (.inr (.inr rfl)))),_,_,rfl⟩⟩
    ·exact⟨hp.hb.2.2.2.2,.inl ⟨_,_,d2.blk,.inr (.inl rfl),_,_,hl.hdr.h0⟩⟩
   have hn:∀q ds t,Blk W2 q ds t→t≠87→t≠80→¬(q=E.rb∨q=E.pb2):=by
    rintro q ds t hb n1 n2 (rfl|rfl)
    ·exact hb.ne k2.dk.blk n1 rfl
    ·exact hb.ne d2.blk n2 rfl
   have kv:KeepV E.B W2 w':=hK.mono hv
   refine⟨rfl,⟨f2.keepV kv,.inr ⟨s,iv',k,c.pc,c.regs,zomD cs 0 k,⟨k2.hk.keep hK (hn _ _ _ k2.hk (by decide) (by decide)),k2.hc.keep hK (hn _ _ _ k2.hc (by decide) (by decide)),dk,k2.pv,k2.ov,k2.xv⟩,⟨c2.keep hK (hn _ _ _ c2 (by decide) (by decide)),b2,by rw[zomD_len _ _ _ (by omega)];exact hlen,z1,by rw[zomD_at cs 0 k (by omega) 5 (by omega)];have:=hl.dcp.c5;simpa using this,λi hi=>by rw[zomD_at cs 0 k (by omega) (6+i) (by omega)];have:=hl.dcp.reg i hi;simpa using this,z2,hl.dcp.regs⟩⟩⟩,((v1.tr (KeepV.bel hb)).tr (KeepV.bel hW2)).tr kv⟩
theorem dead_inv (E:CE) (w:World) (hf:CFix E w) {s:KV} {iv:Value} {sv pc:Int} {regs:List Int} {cs:List Value} (hk:CKer E w 0 0 s iv) (hl:DeadC E w sv pc regs cs) :
 Calls Tryz.prog 23 #[.pointer (some ⟨E.wb,0,none⟩),.int .i64 1] w λe w'=>e=.returned (.bool true)∧Inv E w'∧KeepV E.B w w':=by
 refine stepped_dead E.wb E.tk E.rb E.pb2 0 1 E.pc2 _ _ _ 1 2 (errN 24) 24 (λW=>Bel w W) (λW=>Inv E W∧KeepV E.B w W) w (λW h=>hf.hW.bel h) hf.hW hk.c5 (by omega) (by omega) (by rw[hl.doc.cell];exact hl.hdr.h2) (by omega)
  (procD_any E.rb E.pb2 1 E.pc2 0 cs 1 w hk.c5 hl.doc (by omega) (by omega) (λi hi=>by omega) hl.hdr.h0) (by omega) (λW hW=>?_) (λW hW=>tell_errN 24 W (hf.ev.bel hW)) (λW W' h1 hb=>?_)
 ·have hkW:=hk.bel hW
  have hfW:=hf.keepV (KeepV.bel (B:=E.B) hW)
  refine tstep_any E.tk E.kb 1 (λ_ _=>True) (errN 24) _ W hfW.ht ((kstep_state E.kb 1 W (ready_state E.kb E.pm E.pb _ 1 2 W (by omega) (hkW.hk.cell 5) hfW.hp rfl (by rw[(hl.pro.bel hW).cell];exact cpuD_rest _ _ _ _ hl.ok.len 2) (by omega))).mono ?_)
  rintro e w' ⟨rfl,rfl⟩
  exact⟨rfl,hW⟩
 ·have k2:=h1.tr hb
  have hkW:=hk.bel k2
  refine(stepD_state E.rb E.pb2 0 1 E.pc2 1 2 W' hkW.c5 (by omega) (by omega) (procD_any E.rb E.pb2 1 E.pc2 0 cs 1 W' hkW.c5 (hl.doc.bel k2) (by omega) (by omega) (λi hi=>by omega) hl.hdr.h0) (by rw[(hl.doc.bel k2).cell];exact hl.hdr.h2) (by omega)).mono ?_
  rintro e w' ⟨rfl,hb2⟩
  exact⟨rfl,(⟨hf,.inr ⟨s,iv,sv,pc,regs,cs,hk,hl⟩⟩:Inv E w).keepBel (k2.tr hb2),KeepV.bel (k2.tr hb2)⟩
theorem round_inv (E:CE) (w:World) (hp:CPla E) (h:Inv E w):∃n:Int,(n=0∨n=1)∧(∀W,Bel w W→Calls Tryz.prog 11 #[.pointer (some ⟨E.wb,0,none⟩),.int .i64 1,.int .i64 1] W (λe w'=>e=.returned (.int .i64 n)∧Bel W w'))∧
 (n=1→∀W,Bel w W→Calls Tryz.prog 23 #[.pointer (some ⟨E.wb,0,none⟩),.int .i64 1] W λe w'=>e=.returned (.bool true)∧Inv E w'∧KeepV E.B W w'):=by
 have hf:=h.fix
 rcases h.st with⟨s,iv,perm,c,sb,pv,cs,hk,hl⟩|⟨s,iv,sv,pc,regs,cs,hk,hl⟩
 ·obtain⟨op,a2,a3,a4,hne,hop⟩:=next_cells perm c
  refine⟨if ((nextK perm c:Nat):Int)=0∧op=24 then 0 else 1,?_,λW hW=>before_live E.wb E.tk E.rb E.pb2 0 1 E.pc2 _ _ _ 1 op a2 a3 a4 (nextK perm c:Nat) W (hf.hW.bel hW) (hk.bel hW).c5 (by omega) (by omega) (by rw[(hl.bel hW).dcp.blk.cell];exact hl.hdr.h2) (((hk.bel hW).at (hl.bel hW)).call W (Bel.refl _)) (λW2 hW2=>by have:=nextD_any E.pb2 0 cs perm c pv W2 ((hl.bel hW).dcp.bel hW2);rw[hne]at this;exact this),λh1 W hW=>?_⟩
  ·split
   ·exact .inl rfl
   ·exact .inr rfl
  ·have hn1:stepK perm c≠1:=λe=>by
    obtain⟨e1,e2⟩:=(stepK_ecall perm c (hl.dcp.ins 0)).1 e
    have e3:=hop e1
    rw[if_pos ⟨by omega,by omega⟩]at h1
    cases h1
   by_cases h0:stepK perm c=0
   ·exact go_inv E W hp (hf.keepV (KeepV.bel (B:=E.B) hW)) (hk.bel hW) (hl.bel hW) h0
   ·exact trap_inv E W hp (hf.keepV (KeepV.bel (B:=E.B) hW)) (hk.bel hW) (hl.bel hW) _ rfl (by omega)
 ·have hd:∀W,Bel w W→DeadC E W sv pc regs cs:=λW hW=>⟨hl.pro.bel hW,hl.doc.bel hW,hl.len,hl.hdr,hl.c5,hl.reg,hl.c22,hl.ok⟩
  refine⟨1,.inr rfl,λW hW=>before_dead E.wb E.tk E.rb E.pb2 0 1 E.pc2 _ _ _ 1 2 1 W (hf.hW.bel hW) (hk.bel hW).c5 (by omega) (by omega) (by rw[(hd W hW).doc.cell];exact hl.hdr.h2) (by omega) (procD_any E.rb E.pb2 1 E.pc2 0 cs 1 W (hk.bel hW).c5 (hd W hW).doc (by omega) (by omega) (λi hi=>by omega) hl.hdr.h0),λ_ W hW=>?_⟩
  exact dead_inv E W (hf.keepV (KeepV.bel (B:=E.B) hW)) (hk.bel hW) (hd W hW)
end Go.Proofs.YtjdaddmjpicflaaGreatDoor
namespace Go.Proofs.YtjdaddmjpicflaaGreatDoor
open Go.RowKit Go.Maps Go.Shelf
theorem sameProcZ_any (wb rb:Nat) (E:Int) (rs:List Int) (hrs16:rs.length=16) (sv:Int) (pv v:Value) (L:List (Nat×Pg)) (w:World) (h1:w.cell? ⟨wb,1,none⟩=some (.pointer (some ⟨rb,0,none⟩))) (h6:w.cell? ⟨rb,6,none⟩=some (.slice none 0 0))
 (hl:L.length≤256) (hwf:∀q∈L,q.2.wf) (ha:Rd w pv L.length (L.flatMap λq=>apiCells q.1 q.2)) (hb:Rd w v L.length (L.flatMap λq=>refCells q.1 q.2)) :
 Calls Tryz.prog 58 #[.pointer (some ⟨wb,0,none⟩),.agg (boxAG 2 sv E rs pv (.slice none 0 0)).toArray,.agg (boxBG 2 sv E rs v idsN).toArray] w λe w'=>e=.returned (.bool true)∧Bel w w':=by
 obtain⟨r0,r1,r2,r3,r4,r5,r6,r7,r8,r9,r10,r11,r12,r13,r14,r15,rfl⟩:=six_of hrs16
 clear hrs16
 have hsp:=λW (hW:Bel w W)=>same_any pv v L W hl hwf (ha.bel hW) (hb.bel hW)
 have HSP:=xh hsp
 clear ha hb hwf hsp
 obtain⟨ca,hca⟩:∃ca,ca=boxAG 2 sv E [r0,r1,r2,r3,r4,r5,r6,r7,r8,r9,r10,r11,r12,r13,r14,r15] pv (.slice none 0 0):=⟨_,rfl⟩
 obtain⟨cb,hcb⟩:∃cb,cb=boxBG 2 sv E [r0,r1,r2,r3,r4,r5,r6,r7,r8,r9,r10,r11,r12,r13,r14,r15] v idsN:=⟨_,rfl⟩
 rw[←hca,←hcb]
 have HCA:=xh hca
 have HCB:=xh hcb
 clear hca hcb
 go_enter Tryz.func58,Tryz.ntmps58
 go_upto_region 1 with fail
 have BA:Blk ((w.alloc (.cells ca.toArray 172)).alloc (.cells cb.toArray 80)) w.heap.size ca 172:=(Blk.new w ca _).alloc _
 have BB:Blk ((w.alloc (.cells ca.toArray 172)).alloc (.cells cb.toArray 80)) (w.heap.size+1) cb 80:=Blk.new_at _ _ _ (by simp)
 have hk:Bel w ((w.alloc (.cells ca.toArray 172)).alloc (.cells cb.toArray 80)):=(Bel.start w _).ac _
 generalize (w.alloc (.cells ca.toArray 172)).alloc (.cells cb.toArray 80)=w2 at *
 have HK:=xh hk
 have c1:=cell_bel hk h1
 have c6:=cell_bel hk h6
 rw[HCA.out]at BA
 rw[HCB.out]at BB
 have HBA:=xh BA
 have HBB:=xh BB
 clear hk h1 h6
 generalize w.heap.size=ab at *
 have a0:w2.cell? ⟨ab,0,none⟩=some (.int .i64 1):=BA.cell 0
 have a1:w2.cell? ⟨ab,1,none⟩=some (.int .i64 0):=BA.cell 1
 have a2:w2.cell? ⟨ab,2,none⟩=some (.int .i64 2):=BA.cell 2
 have a3:w2.cell? ⟨ab,3,none⟩=some (.int .i64 sv):=BA.cell 3
 have a4:w2.cell? ⟨ab,4,none⟩=some (.int .i64 0):=BA.cell 4
 have a5:w2.cell? ⟨ab,5,none⟩=some (.int .u64 E):=BA.cell 5
 have a22:w2.cell? ⟨ab,22,none⟩=some pv:=BA.cell 22
 have a23:w2.cell? ⟨ab,23,none⟩=some (.slice none 0 0):=BA.cell 23
 have b0:w2.cell? ⟨ab+1,0,none⟩=some (.int .i64 1):=BB.cell 0
 have b1:w2.cell? ⟨ab+1,1,none⟩=some (.int .i64 0):=BB.cell 1
 have b2:w2.cell? ⟨ab+1,2,none⟩=some (.int .i64 2):=BB.cell 2
 have b3:w2.cell? ⟨ab+1,3,none⟩=some (.int .i64 sv):=BB.cell 3
 have b4:w2.cell? ⟨ab+1,4,none⟩=some (.int .i64 0):=BB.cell 4
 have b5:w2.cell? ⟨ab+1,5,none⟩=some (.int .u64 E):=BB.cell 5
 have b22:w2.cell? ⟨ab+1,22,none⟩=some v:=BB.cell 22
 have a6:w2.cell? ⟨ab,6,none⟩=some (.int .u64 r0):=BA.cell 6
 have a7:w2.cell? ⟨ab,7,none⟩=some (.int .u64 r1):=BA.cell 7
 have a8:w2.cell? ⟨ab,8,none⟩=some (.int .u64 r2):=BA.cell 8
 have a9:w2.cell? ⟨ab,9,none⟩=some (.int .u64 r3):=BA.cell 9
 have a10:w2.cell? ⟨ab,10,none⟩=some (.int .u64 r4):=BA.cell 10
 have a11:w2.cell? ⟨ab,11,none⟩=some (.int .u64 r5):=BA.cell 11
 have a12:w2.cell? ⟨ab,12,none⟩=some (.int .u64 r6):=BA.cell 12
 have a13:w2.cell? ⟨ab,13,none⟩=some (.int .u64 r7):=BA.cell 13
 have a14:w2.cell? ⟨ab,14,none⟩=some (.int .u64 r8):=BA.cell 14
 have a15:w2.cell? ⟨ab,15,none⟩=some (.int .u64 r9):=BA.cell 15
 have a16:w2.cell? ⟨ab,16,none⟩=some (.int .u64 r10):=BA.cell 16
 have a17:w2.cell? ⟨ab,17,none⟩=some (.int .u64 r11):=BA.cell 17
 have a18:w2.cell? ⟨ab,18,none⟩=some (.int .u64 r12):=BA.cell 18
 have a19:w2.cell? ⟨ab,19,none⟩=some (.int .u64 r13):=BA.cell 19
 have a20:w2.cell? ⟨ab,20,none⟩=some (.int .u64 r14):=BA.cell 20
 have a21:w2.cell? ⟨ab,21,none⟩=some (.int .u64 r15):=BA.cell 21
 have b6:w2.cell? ⟨ab+1,6,none⟩=some (.int .u64 r0):=BB.cell 6
 have b7:w2.cell? ⟨ab+1,7,none⟩=some (.int .u64 r1):=BB.cell 7
 have b8:w2.cell? ⟨ab+1,8,none⟩=some (.int .u64 r2):=BB.cell 8
 have b9:w2.cell? ⟨ab+1,9,none⟩=some (.int .u64 r3):=BB.cell 9
 have b10:w2.cell? ⟨ab+1,10,none⟩=some (.int .u64 r4):=BB.cell 10
 have b11:w2.cell? ⟨ab+1,11,none⟩=some (.int .u64 r5):=BB.cell 11
 have b12:w2.cell? ⟨ab+1,12,none⟩=some (.int .u64 r6):=BB.cell 12
 have b13:w2.cell? ⟨ab+1,13,none⟩=some (.int .u64 r7):=BB.cell 13
 have b14:w2.cell? ⟨ab+1,14,none⟩=some (.int .u64 r8):=BB.cell 14
 have b15:w2.cell? ⟨ab+1,15,none⟩=some (.int .u64 r9):=BB.cell 15
 have b16:w2.cell? ⟨ab+1,16,none⟩=some (.int .u64 r10):=BB.cell 16
 have b17:w2.cell? ⟨ab+1,17,none⟩=some (.int .u64 r11):=BB.cell 17
 have b18:w2.cell? ⟨ab+1,18,none⟩=some (.int .u64 r12):=BB.cell 18
 have b19:w2.cell? ⟨ab+1,19,none⟩=some (.int .u64 r13):=BB.cell 19
 have b20:w2.cell? ⟨ab+1,20,none⟩=some (.int .u64 r14):=BB.cell 20
 have b21:w2.cell? ⟨ab+1,21,none⟩=some (.int .u64 r15):=BB.cell 21
 have b23:w2.cell? ⟨ab+1,23,none⟩=some (.int .i64 0):=BB.cell 23
 have b24:w2.cell? ⟨ab+1,24,none⟩=some (.int .i64 0):=BB.cell 24
 have b25:w2.cell? ⟨ab+1,25,none⟩=some (.int .i64 0):=BB.cell 25
 have b26:w2.cell? ⟨ab+1,26,none⟩=some (.int .i64 0):=BB.cell 26
 have b27:w2.cell? ⟨ab+1,27,none⟩=some (.int .i64 0):=BB.cell 27
 have b28:w2.cell? ⟨ab+1,28,none⟩=some (.int .i64 0):=BB.cell 28
 have b29:w2.cell? ⟨ab+1,29,none⟩=some (.int .i64 0):=BB.cell 29
 have b30:w2.cell? ⟨ab+1,30,none⟩=some (.int .i64 0):=BB.cell 30
 clear BA BB
 go_upto_region 4 with(go_at_call 107;((with_reducible refine Calls.mono (HSP.out _ HK.out) ?_);rintro e3 w3 ⟨rfl,nd,rfl⟩))
 change Code.wp _ _ _ _ (w2.drewN nd)
 have HK3:Hid (Bel w (w2.drewN nd)):=xh (bel_drewN HK.out nd)
 have hrs:(Tryz.prog.info? 76).map (·.size)=some 16:=by kernel_rfl
 obtain⟨ie,hie⟩:=Option.isSome_iff_exists.1 (show(Tryz.prog.info? 75).isSome=true by kernel_rfl)
 have hne:∀w,(binOp .neq 76 (.agg (([r0,r1,r2,r3,r4,r5,r6,r7,r8,r9,r10,r11,r12,r13,r14,r15]).map (Value.int .u64)).toArray) (.agg (([r0,r1,r2,r3,r4,r5,r6,r7,r8,r9,r10,r11,r12,r13,r14,r15]).map (Value.int .u64)).toArray)).run Tryz.prog w=.ok (.bool false) w:=λw=>by
  rw[run_neq_arr Tryz.underlying76 Tryz.underlying75 hie (by kernel_rfl) ([r0,r1,r2,r3,r4,r5,r6,r7,r8,r9,r10,r11,r12,r13,r14,r15]) ([r0,r1,r2,r3,r4,r5,r6,r7,r8,r9,r10,r11,r12,r13,r14,r15]) rfl rfl w];simp
 simp only[List.map_cons,List.map_nil]at hne
 clear hie
 go_wp2_with fail
 refine wp_loop_rounds 9 ?_
 rw[rounds_succ]
 go_wp2_with fail
 rw[rounds_succ]
 go_wp2_with fail
 rw[rounds_succ]
 go_wp2_with fail
 rw[rounds_succ]
 go_wp2_with fail
 rw[rounds_succ]
 go_wp2_with fail
 rw[rounds_succ]
 go_wp2_with fail
 rw[rounds_succ]
 go_wp2_with fail
 rw[rounds_succ]
 go_wp2_with fail
 rw[rounds_succ]
 go_wp2_with fail
 go_ret
 exact⟨rfl,HK3.out⟩
def ProcsResZ (E:Int) (rs:List Int) (sv:Int) (L:List (Nat×Pg)) (w:World) (e:Ending) (w':World):Prop:=
 ∃v,e=.returned v∧Bel w w'∧∃pp pc,w'.ownsRow w.heap.size 172 24 v 1 (boxAG 2 sv E rs (.slice pp L.length pc) (.slice none 0 0))∧w'.ownsRow w.heap.size 175 258 (.slice pp L.length pc) L.length (L.flatMap λq=>apiCells q.1 q.2)
theorem procsLZ_any (wb tk rb pb pc2:Nat) (o1 o2 o3:Value) (E:Int) (rs:List Int) (hrs16:rs.length=16) (sv:Int) (L:List (Nat×Pg)) (v:Value) (w:World) (hW:Blk w wb [.pointer (some ⟨tk,0,none⟩),.pointer (some ⟨rb,0,none⟩),o1,o2,o3] 55)
 (hP:Calls Tryz.prog 57 #[.pointer (some ⟨tk,0,none⟩)] w λe w'=>ProcsResZ E rs sv L w e w') (h5:w.cell? ⟨rb,5,none⟩=some (.slice (some ⟨pb,0,none⟩) 1 pc2)) (h6:w.cell? ⟨rb,6,none⟩=some (.slice none 0 0)) (hB:w.rangeAt pb 0 (boxBG 2 sv E rs v idsN))
 (hl:L.length≤256) (hL:L=[]) (hwf:∀q∈L,q.2.wf) (hv:Rd w v L.length (L.flatMap λq=>refCells q.1 q.2)) :
 Calls Tryz.prog 29 #[.pointer (some ⟨wb,0,none⟩)] w λe w'=>e=.returned (.bool true)∧Bel w w':=by
 obtain⟨r0,r1,r2,r3,r4,r5,r6,r7,r8,r9,r10,r11,r12,r13,r14,r15,rfl⟩:=six_of hrs16
 have c0:=hW.cell 0
 have c1:=hW.cell 1
 simp only[List.getElem?_cons_zero,List.getElem?_cons_succ]at c0 c1
 have HP:=xh hP
 have HV:=xh hv
 have HWF:=xh hwf
 have HL0:=xh hL
 clear hW hP hv hwf hL
 go_enter Tryz.func29,Tryz.ntmps29
 go_upto_region 2 with(go_at_call 57;((with_reducible refine Calls.mono HP.out ?_);rintro e2 w2 ⟨lv,rfl,k2,hrest⟩;have HR:=xh hrest;have HK2:=xh k2;clear hrest k2))
 obtain⟨pp,pc,R1,R2⟩:=HR.out
 have HR2:=xh R2
 obtain⟨lp,lcap,rfl,hlc,hlm,hlp⟩:=row_slice R1
 obtain⟨gl,rfl,hgb,hgl,hlcell,_⟩:=hlp.resolve_left (by simp)
 have hrA:w2.rangeAt gl 0 (boxAG 2 sv E [r0,r1,r2,r3,r4,r5,r6,r7,r8,r9,r10,r11,r12,r13,r14,r15] (.slice pp L.length pc) (.slice none 0 0)):=λj u hj=>by
  have:=(List.getElem?_eq_some_iff.1 hj).1
  rw[Nat.zero_add,hlcell j this,hj]
 have l22:w2.cell? ⟨gl,22,none⟩=some (.slice pp L.length pc):=hlcell 22 (by simp[boxAG])
 have HLB:=xh (row_blk R1 (g:=gl) rfl).2
 have hrB:w2.rangeAt pb 0 (boxBG 2 sv E [r0,r1,r2,r3,r4,r5,r6,r7,r8,r9,r10,r11,r12,r13,r14,r15] v idsN):=λj u hj=>cell_bel HK2.out (hB j u hj)
 have d0:=cell_bel HK2.out c0
 have d1:=cell_bel HK2.out c1
 have d5:=cell_bel HK2.out h5
 have d6:=cell_bel HK2.out h6
 have HSP:Hid (∀W,Bel w2 W→Calls Tryz.prog 58 #[.pointer (some ⟨wb,0,none⟩),.agg (boxAG 2 sv E [r0,r1,r2,r3,r4,r5,r6,r7,r8,r9,r10,r11,r12,r13,r14,r15] (.slice pp L.length pc) (.slice none 0 0)).toArray,.agg (boxBG 2 sv E [r0,r1,r2,r3,r4,r5,r6,r7,r8,r9,r10,r11,r12,r13,r14,r15] v idsN).toArray] W λe w'=>e=.returned (.bool true)∧Bel W w'):=xh λW hW=>sameProcZ_any wb rb E [r0,r1,r2,r3,r4,r5,r6,r7,r8,r9,r10,r11,r12,r13,r14,r15] hrs16 sv (.slice pp L.length pc) v L W (cell_bel hW d1) (cell_bel hW d6) hl HWF.out ((Rd.of_row HR2.out).bel hW) ((HV.out.bel HK2.out).bel hW)
 have HSK:Hid (∀W,Bel w2 W→W.rangeAt gl 0 (boxAG 2 sv E [r0,r1,r2,r3,r4,r5,r6,r7,r8,r9,r10,r11,r12,r13,r14,r15] (.slice pp L.length pc) (.slice none 0 0))∧W.cell? ⟨wb,1,none⟩=some (.pointer (some ⟨rb,0,none⟩))∧W.cell? ⟨rb,5,none⟩=some (.slice (some ⟨pb,0,none⟩) 1 pc2)∧W.rangeAt pb 0 (boxBG 2 sv E [r0,r1,r2,r3,r4,r5,r6,r7,r8,r9,r10,r11,r12,r13,r14,r15] v idsN)):=xh λW hW=>⟨λj u hj=>cell_bel hW (hrA j u hj),cell_bel hW d1,cell_bel hW d5,λj u hj=>cell_bel hW (hrB j u hj)⟩
 clear R1 R2 hlp hlcell hrA hrB hB h5 h6 c0 c1 HR
 go_upto_region 5 with fail
 refine wp_loop_rounds 2 ?_
 rw[rounds_succ]
 go_upto_region 7 with fail
 go_cut [5] (λs5 wx=>s5=.bool true∧Hid (Bel w2 wx))
 case first=>
  refine wp_region_noPanic ?_
  refine wp_region_held_drew (S:=λw'=>w'.rangeAt gl 0 (boxAG 2 sv E [r0,r1,r2,r3,r4,r5,r6,r7,r8,r9,r10,r11,r12,r13,r14,r15] (.slice pp L.length pc) (.slice none 0 0))∧w'.cell? ⟨wb,1,none⟩=some (.pointer (some ⟨rb,0,none⟩))∧w'.cell? ⟨rb,5,none⟩=some (.slice (some ⟨pb,0,none⟩) 1 pc2)∧w'.rangeAt pb 0 (boxBG 2 sv E [r0,r1,r2,r3,r4,r5,r6,r7,r8,r9,r10,r11,r12,r13,r14,r15] v idsN)) (by kernel_rfl) (HSK.out _ (Bel.drew (Bel.refl _))) (λhHeld=>?_)
  refine plan [0,1,2,3] ?_
  repeat refine Go.Proofs.YtjdaddmjpicflaaGreatDoor.tk rfl (by kernel_rfl) rfl (by intro w hw;(try dsimp only at hw);go_simp;with_reducible rfl) (by assumption) (λ_ _ _ h=>h) (by(try simp only[Act.put,lits]);exact rfl) ?_
  refine planned ?_
  refine wpAnyH_take (i:=4) (v:=_) rfl (by kernel_rfl) (by kernel_rfl) (by kernel_rfl) (λ_ _ _ h=>h) (yieldsIf_load_mid (by rfl) 172 (.tmp 32) rfl gl 0 rfl (boxAG 2 sv E [r0,r1,r2,r3,r4,r5,r6,r7,r8,r9,r10,r11,r12,r13,r14,r15] (.slice pp L.length pc) (.slice none 0 0)) _ (λ_ h=>h.1) Tryz.underlying172 rfl procSizeA) (by assumption) ?_
  (try simp only[Act.put,lits])
  refine plan [5,6,7,8,9,10,11,12,13] ?_
  repeat refine Go.Proofs.YtjdaddmjpicflaaGreatDoor.tk rfl (by kernel_rfl) rfl (by intro w hw;(try dsimp only at hw);go_simp;with_reducible rfl) (by assumption) (λ_ _ _ h=>h) (by(try simp only[Act.put,lits]);exact rfl) ?_
  refine planned ?_
  refine wpAnyH_take (i:=14) (v:=_) rfl (by kernel_rfl) (by kernel_rfl) (by kernel_rfl) (λ_ _ _ h=>h) (yieldsIf_load_mid (by rfl) 80 (.tmp 42) rfl pb 0 rfl (boxBG 2 sv E [r0,r1,r2,r3,r4,r5,r6,r7,r8,r9,r10,r11,r12,r13,r14,r15] v idsN) _ (λ_ h=>h.2.2.2) Tryz.underlying80 rfl refProcSize) (by assumption) ?_
  (try simp only[Act.put,lits])
  refine rd 15 rfl (by kernel_rfl) (λK hK=>?_)
  go_simp
  go_at_call 58
  refine Calls.mono (HSP.out _ (Bel.drew (Bel.refl _))) ?_
  rintro e3 w3 ⟨rfl,k3⟩
  have HK3:Hid (Bel w2 w3):=xh (Bel.tr (Bel.drew (Bel.refl _)) k3)
  clear k3
  refine hK.out _ _ (HSK.out _ HK3.out) (λhH3=>?_)
  clear hK K
  (try simp only[Act.put,lits])
  refine rd 16 rfl (by kernel_rfl) (λK hK=>?_)
  go_simp
  refine hK.out _ _ (HSK.out _ HK3.out) (λhH3=>?_)
  clear hK K
  refine wpAnyH_done (by kernel_rfl) ?_ _
  refine NoPanic.normal ?_
  go_wp2_with fail
  go_meet
  exact⟨rfl,HK3⟩
 case rest=>
  obtain⟨rfl,HKc⟩:=hcut
  obtain rfl:L=[]:=HL0.out
  have l22c:=cell_bel HKc.out l22
  simp only[List.length_nil]at l22c
  have HKW:Hid (Bel w wc):=xh (HK2.out.tr HKc.out)
  clear d0 d1 d5 d6 l22
  go_wp2_with fail
  refine wp_loop_rounds 1 ?_
  rw[rounds_succ]
  go_wp2_with fail
  rw[rounds_succ]
  go_wp2_with fail
  go_ret
  exact⟨rfl,HKW.out⟩
end Go.Proofs.YtjdaddmjpicflaaGreatDoor
namespace Go.Proofs.YtjdaddmjpicflaaGreatDoor
open Go.RowKit Go.MapKept Go.Maps Go.Shelf
theorem box_of {cs:List Value} {st sv pc:Int} {regs:List Int} {v:Value} {ids:List Int} (h:Hdr cs st sv ids) (h5:cs[5]?=some (.int .u64 pc)) (hr:∀i,i<16→cs[6+i]?=some (.int .u64 (regs.getD i 0))) (h22:cs[22]?=some v) (hl:regs.length=16) (hi:ids.length=8) (j:Nat) (u:Value) (hj:(boxBG st sv pc regs v ids)[j]?=some u):cs[j]?=some u:=by
 have hlt:=(List.getElem?_eq_some_iff.1 hj).1
 simp[boxBG,hl,hi]at hlt
 unfold boxBG at hj
 by_cases h1:j<6
 ·rw[List.append_assoc,List.append_assoc,List.getElem?_append_left (by simpa using h1)]at hj
  have:j=0∨j=1∨j=2∨j=3∨j=4∨j=5:=by omega
  rcases this with rfl|rfl|rfl|rfl|rfl|rfl
  ·rw[h.h0,←hj];rfl
  ·rw[h.h1,←hj];rfl
  ·rw[h.h2,←hj];rfl
  ·rw[h.h3,←hj];rfl
  ·rw[h.h4,←hj];rfl
  ·rw[h5,←hj];rfl
 ·by_cases h2:j<22
  ·rw[List.append_assoc,List.append_assoc,List.getElem?_append_right (by simp;omega),List.getElem?_append_left (by simp[hl];omega),List.getElem?_map]at hj
   have e:=hr (j-6) (by omega)
   rw[show 6+(j-6)=j from by omega]at e
   rw[e,←hj]
   simp only[List.length_cons,List.length_nil]
   rw[List.getD_eq_getElem?_getD,List.getElem?_eq_getElem (by omega)]
   rfl
  ·by_cases h3:j=22
   ·subst h3
    rw[List.append_assoc,List.getElem?_append_right (by simp[hl])]at hj
    simp[hl]at hj
    rw[h22,hj]
   ·rw[List.getElem?_append_right (by simp[hl];omega),List.getElem?_map]at hj
    simp only[List.length_append,List.length_cons,List.length_nil,List.length_map,hl]at hj
    have e:=h.h5 (j-23) (by omega)
    rw[show 23+(j-23)=j from by omega]at e
    rw[e,←hj]
    rw[List.getD_eq_getElem?_getD]
    rw[show j-(0+1+1+1+1+1+1+16+(0+1))=j-23 from by omega,List.getElem?_eq_getElem (by omega)]
    rfl
theorem procs_inv (E:CE) (w:World) (h:Inv E w):Calls Tryz.prog 29 #[.pointer (some ⟨E.wb,0,none⟩)] w λe w'=>e=.returned (.bool true)∧Bel w w':=by
 have hf:=h.fix
 rcases h.st with⟨s,iv,perm,c,sb,pv,cs,hk,hl⟩|⟨s,iv,sv,pc,regs,cs,hk,hl⟩
 ·have hm:=hl.dcp.ok
  have h6:w.cell? ⟨E.rb,6,none⟩=some (.slice none 0 0):=by rw[hk.dk.blk.cell];show some s.ov=_;rw[hk.ov]
  refine procsLR_any E.wb E.tk E.rb E.pb2 E.pc2 _ _ _ c.pc c.regs hl.cpu.regs.len (pgs (pagesOf perm c.M)) pv w hf.hW ?_ hk.c5 h6 (λj u hj=>?_) (pgs_le _) (by rw[pgs_len];exact dcpu_pos hl.dcp hl.som) (pgs_wf hm) ?_
  ·refine(tProcs_any E.tk E.kb (λv w'=>ProcsResR c.pc c.regs (pgs (pagesOf perm c.M)) w (.returned v) w') w hf.ht ((procsB_any E.kb _ _ _ _ _ E.pm E.tb E.ob E.cb E.pb sb (frm perm:Nat) 0 _ c.pc (c.regs.map (Value.int .u64)) (pagesOf perm c.M) w hk.hk hf.hp hl.cpu.blk (by rw[List.length_map];exact hl.cpu.regs.len) (λv hv=>?_) hl.cpu.sp hm _ _ _ hk.hc).mono ?_)).mono ?_
   ·obtain⟨x,_,rfl⟩:=List.mem_map.1 hv
    rfl
   ·rintro e w' ⟨v,rfl,hb,pv',fv,h1,h2,h3⟩
    obtain⟨pp,pc,rfl,_⟩:=row_slice h2
    obtain⟨fp,fc,rfl,_⟩:=row_slice h3
    rw[←pgs_len]at h1
    rw[←pgs_len,←pgs_api]at h2
    exact⟨v,rfl,v,rfl,hb,pp,pc,fp,fc,h1,h2,h3⟩
   ·rintro e w' ⟨v,rfl,h⟩
    exact h
  ·rw[Nat.zero_add,hl.dcp.blk.cell]
   exact box_of hl.hdr (by have:=hl.dcp.c5;simpa using this) (λi hi=>by have:=hl.dcp.reg i hi;simpa using this) (by have:=hl.dcp.c22;simpa using this) hl.dcp.regs.len rfl j u hj
  ·rw[pgs_ref,pgs_len]
   exact hl.dcp.pgs.rd
 ·have h6:w.cell? ⟨E.rb,6,none⟩=some (.slice none 0 0):=by rw[hk.dk.blk.cell];show some s.ov=_;rw[hk.ov]
  refine procsLZ_any E.wb E.tk E.rb E.pb2 E.pc2 _ _ _ pc regs hl.ok.len sv [] (.slice none 0 0) w hf.hW ?_ hk.c5 h6 (λj u hj=>?_) (by simp) rfl (by simp) ?_
  ·refine(tProcs_any E.tk E.kb (λv w'=>ProcsResZ pc regs sv [] w (.returned v) w') w hf.ht ((procsZ_any E.kb _ _ _ _ _ E.pm E.tb E.ob E.cb E.pb _ 0 _ pc (regs.map (Value.int .u64)) sv w hk.hk hf.hp hl.pro (by rw[List.length_map];exact hl.ok.len) (λv hv=>?_)).mono ?_)).mono ?_
   ·obtain⟨x,_,rfl⟩:=List.mem_map.1 hv
    rfl
   ·rintro e w' ⟨v,rfl,hb,pv',fv,rfl,h1,h2,h3⟩
    obtain⟨pp,pc,rfl,_⟩:=row_slice h2
    exact⟨v,rfl,v,rfl,hb,pp,pc,h1,h2⟩
   ·rintro e w' ⟨v,rfl,h⟩
    exact h
  ·rw[Nat.zero_add,hl.doc.cell]
   exact box_of hl.hdr hl.c5 hl.reg hl.c22 hl.ok.len rfl j u hj
  ·exact⟨none,0,rfl,λh=>absurd h (by simp)⟩
theorem files_ker (E:CE) (w:World) (hp:CPla E) (hf:CFix E w) {s:KV} {iv:Value} {fr fds:Nat} (hk:CKer E w (fr:Nat) fds s iv) (hfr:fr≤256) (q:Option Addr) (qc:Nat) (h22:w.cell? ⟨E.pb2,22,none⟩=some (.slice q fr qc)) :
 Calls Tryz.prog 30 #[.pointer (some ⟨E.wb,0,none⟩)] w λe w'=>e=.returned (.bool true)∧Bel w w':=by
 have hTL:=hp.sk
 have hinv:=hp.inv
 have h5:=hf.tr
 have dk:=hk.dk
 have hLT:E.L.length=E.T.length:=by
  have:=congrArg List.length hTL
  simpa [sks,nds]using this
 have hT1:=hp.few
 have hdown:=h5.tree.down
 have hperm:=desc_perm (nds E.T) hdown hinv.conn
 obtain⟨g,cap,rfl,htree,_⟩:=dk.tree
 have h10:=dk.one
 have hsum:sumB (sks E.L)≤100000:=by
  rw[hTL]
  have:=h5.small
  have:=h5.mb
  omega
 have hsb:∀n∈E.L,n.byt.length≤1000000:=λn hn=>by
  have h1:n.sk.byt.length≤sumB (sks E.L):=by
   unfold sumB
   exact le_sum_mem (List.mem_map.2 ⟨n.sk,List.mem_map.2 ⟨n,hn,rfl⟩,rfl⟩)
  have:n.sk.byt=n.byt:=rfl
  rw[this]at h1
  omega
 have hc5:=hk.c5
 have hc6:w.cell? ⟨E.rb,6,none⟩=some (.slice none 0 0):=by rw[hk.dk.blk.cell];show some s.ov=_;rw[hk.ov]
 have hbs:(byts E.L).sum=sumB (nds E.T):=by rw[byts_sk,hTL]
 refine files_any E.wb E.tk E.rb g cap _ _ _ E.L w hf.hW ?_ htree (by omega) (by omega) (down_sk2 (hTL▸hdown)) (λi n hi h0=>?_) (λn hn=>?_) (λn hn=>⟨(dk.byts n hn).1,hsb n hn⟩) [((1:Nat):Int),(fr:Int),0,(E.T.length:Int),(sumB (nds E.T):Int)] rfl (λW hW=>?_) (λW hW=>?_)
 ·refine(tFiles_any E.tk E.kb (λv w'=>Bel w w'∧∃R,Fit E.L R∧FRows w' w.heap.size v R∧∀r∈R,r.byt.length≤1000000) w hf.ht (kFiles_any E.kb E.tb _ w (hk.hk.cell 6) ((treeAll_any E.tb E.A E.T _ _ w h5 (by omega) (live_of h5.tree hinv.conn) hinv.size (by have e:=hperm.length_eq;have e2:(nds E.T).length=E.T.length:=(by simp[nds]);rw[e2]at e;simp at e;omega)).mono ?_)))
  rintro e w' ⟨v,rfl,⟨R,hR1,hR2,hR3⟩,hbel⟩
  refine⟨v,rfl,hbel,R,fit_of h5.tree hinv.conn hTL hR1 hR2,hR3,λr hr=>?_⟩
  have hmem:=hR1.mem_iff.1 (List.mem_map.2 ⟨r,hr,rfl⟩)
  obtain⟨x,_,hx⟩:=List.mem_map.1 hmem
  have e4:r.byt=((E.T[x-1]?).map Pn.byt).getD []:=(congrArg (λq=>q.2.2) hx).symm
  cases hq:E.T[x-1]? with
  | none=>rw[e4,hq];exact Nat.zero_le _
  | some p=>
    rw[e4,hq]
    have h1:p.nd.byt.length≤sumB (nds E.T):=by
     unfold sumB
     exact le_sum_mem (List.mem_map.2 ⟨p.nd,List.mem_map.2 ⟨p,List.mem_iff_getElem?.2 ⟨_,hq⟩,rfl⟩,rfl⟩)
    have h2:=h5.small
    have h3:=h5.mb
    show p.nd.byt.length≤_
    omega
 ·exact hinv.conn i n.sk (sk_get hTL hi) h0
 ·obtain⟨k,hk⟩:=List.mem_iff_getElem?.1 hn
  exact hinv.size n.sk (List.mem_iff_getElem?.2 ⟨k,sk_get hTL hk⟩)
 ·exact tUsed_any E.tk E.kb _ _ _ _ _ (λ_=>True) W (hf.ht.bel hW) λW2 hW2=>usedP_any E.kb _ _ _ _ _ E.pm E.tb E.ob E.cb _ _ _ _ E.A _ 0 _ W2 ((hk.hk.bel hW).bel hW2) ((hf.hp.bel hW).bel hW2) ((h5.block.bel hW).bel hW2) ((hf.ho.bel hW).bel hW2)
 ·have hu:=used_any E.rb g cap E.L W (htree.bel hW) [fr] (some ⟨E.pb2,0,none⟩) none E.pc2 0 0 (cell_bel hW hc5) hp.pc (λi n hi=>by
   have:i=0:=by have:=(List.getElem?_eq_some_iff.1 hi).1;simp at this;omega
   subst this
   cases hi
   exact⟨E.pb2,q,qc,rfl,cell_bel hW h22⟩) (cell_bel hW hc6) (λn hn=>by obtain⟨q,c,e,_⟩:=(dk.byts n hn).1.slice;exact⟨q,c,e⟩) (by simp;omega) (by rw[hbs,←hTL];omega) (by simp) (by omega) (by omega)
  rw[hbs,hLT]at hu
  exact hu
theorem files_inv (E:CE) (w:World) (hp:CPla E) (h:Inv E w):Calls Tryz.prog 30 #[.pointer (some ⟨E.wb,0,none⟩)] w λe w'=>e=.returned (.bool true)∧Bel w w':=by
 have hf:=h.fix
 rcases h.st with⟨s,iv,perm,c,sb,pv,cs,hk,hl⟩|⟨s,iv,sv,pc,regs,cs,hk,hl⟩
 ·obtain⟨q,qc,hpv,_⟩:=hl.dcp.pgs
  have h22:w.cell? ⟨E.pb2,22,none⟩=some pv:=by rw[hl.dcp.blk.cell];have:=hl.dcp.c22;simpa using this
  rw[hpv,frm_eq]at h22
  exact files_ker E w hp hf hk (by have:=pageNums_length (pagesOf perm c.M);rw[frm_eq]at this;exact this) q qc h22
 ·exact files_ker E w hp hf (fr:=0) hk (by omega) none 0 (by rw[hl.doc.cell];exact hl.c22)
end Go.Proofs.YtjdaddmjpicflaaGreatDoor
