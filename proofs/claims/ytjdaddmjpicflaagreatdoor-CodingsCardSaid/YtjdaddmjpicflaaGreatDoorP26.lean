/- sameProc: the one process, Ready, the console at 0, 1, 2. -/
import Derived.Test.YtjdaddmjpicflaaGreatDoorP24
import Derived.Test.YtjdaddmjpicflaaGreatDoorP05
import Derived.StillTailTactics
import Derived.Test.YtjdaddmjpicflaaGreatDoorP00
set_option linter.unusedVariables false
set_option linter.unusedSimpArgs false
set_option maxRecDepth 100000
set_option maxHeartbeats 16000000
namespace Go.Proofs.YtjdaddmjpicflaaGreatDoor
open Go.RowKit Go.Maps Go.Shelf
def rsV (sp:Int):List Int:=List.replicate 15 0++[sp]
def boxB (E sp:Int) (v:Value):List Value:=[.int .i64 1,.int .i64 0,.int .i64 0,.int .i64 0,.int .i64 0,.int .u64 E]++(rsV sp).map (Value.int .u64)++[v,.int .i64 (-1),.int .i64 (-1),.int .i64 (-1),.int .i64 0,.int .i64 0,.int .i64 0,.int .i64 0,.int .i64 0]
def PgRow (w:World) (g n:Nat):Prop:=∃cs:List Value,Blk w g cs 175∧∀k,k<n→(cs[k*258]?).isSome=true∧∃x,cs[k*258+2]?=some (.int .u8 x)
theorem PgRow.of_row {w:World} {base g n cap:Nat} (L:List (Nat×Pg)) (hwf:∀q∈L,q.2.wf) (hn:n=L.length) (h:w.ownsRow base 175 258 (.slice (some ⟨g,0,none⟩) n cap) n (L.flatMap λq=>apiCells q.1 q.2)):PgRow w g n:=by
 obtain⟨_,cs,hb⟩:=row_blk h (g:=g) rfl
 obtain⟨p,cap2,e,_,_,hps⟩:=row_slice h
 cases e
 refine⟨cs,hb,λk hk=>?_⟩
 obtain⟨g',e,_,_,hcell,_⟩:=hps.resolve_left (by omega)
 cases e
 have la:∀q∈L,(apiCells q.1 q.2).length=258:=λq hq=>apiCells_length _ _ (hwf q hq).len
 have hlt:k<L.length:=by omega
 have hc:∀j,j<258→cs[k*258+j]?=(apiCells L[k].1 L[k].2)[j]?:=λj hj=>by
  rw[←hb.cell,hcell _ (by rw[flat_length _ 258 L la];omega),flat_at _ 258 L la k j hj,List.getElem?_eq_getElem hlt];rfl
 refine⟨by rw[show k*258=k*258+0 from rfl,hc 0 (by omega)];rfl,?_⟩
 have hq:=hwf L[k] (List.getElem_mem hlt)
 rw[hc 2 (by omega)]
 obtain⟨n,p,hnp⟩:∃n p,L[k]=(n,p):=⟨_,_,rfl⟩
 rw[hnp]at hq⊢
 cases hby:p.bytes with
 | nil=>have:=hq.len;rw[hby]at this;cases this
 | cons x xs=>exact⟨x,by unfold apiCells;rw[hby];rfl⟩
theorem PgRow.set {w:World} {g n:Nat} (h:PgRow w g n) (j:Nat):PgRow (w.setCell ⟨g,j*258,none⟩ (.int .i64 999)) g n:=by
 obtain⟨cs,hb,h⟩:=h
 refine⟨_,hb.setCell _,λk hk=>?_⟩
 obtain⟨h1,x,h2⟩:=h k hk
 refine⟨by simpa using h1,x,?_⟩
 rw[List.getElem?_set_ne (by omega)]
 exact h2
theorem PgRow.set2 {w:World} {g n:Nat} (h:PgRow w g n) (j:Nat) (y:Int):PgRow (w.setCell ⟨g,j*258+2,none⟩ (.int .u8 y)) g n:=by
 obtain⟨cs,hb,h⟩:=h
 refine⟨_,hb.setCell _,λk hk=>?_⟩
 obtain⟨h1,x,h2⟩:=h k hk
 refine⟨by simpa using h1,?_⟩
 by_cases e:k=j
 ·subst e
  have:k*258+2<cs.length:=(List.getElem?_eq_some_iff.1 h2).1
  exact⟨y,by rw[List.getElem?_set_self this]⟩
 ·exact⟨x,by rw[List.getElem?_set_ne (by omega)];exact h2⟩
theorem refProcSize:(Tryz.prog.info? 80).map (·.size)=some 31:=by kernel_rfl
def boxAG (st sv E:Int) (rs:List Int) (pv fv:Value):List Value:=[.int .i64 1,.int .i64 0,.int .i64 st,.int .i64 sv,.int .i64 0,.int .u64 E]++rs.map (Value.int .u64)++[pv,fv]
def boxBG (st sv E:Int) (rs:List Int) (v:Value) (ids:List Int):List Value:=[.int .i64 1,.int .i64 0,.int .i64 st,.int .i64 sv,.int .i64 0,.int .u64 E]++rs.map (Value.int .u64)++[v]++ids.map (Value.int .i64)
def idsC:List Int:=[-1,-1,-1,0,0,0,0,0]
def idsN:List Int:=[0,0,0,0,0,0,0,0]
theorem six_of {rs:List Int} (h:rs.length=16):∃r0 r1 r2 r3 r4 r5 r6 r7 r8 r9 r10 r11 r12 r13 r14 r15,rs=[r0,r1,r2,r3,r4,r5,r6,r7,r8,r9,r10,r11,r12,r13,r14,r15]:=by
 match rs,h with
 | [r0,r1,r2,r3,r4,r5,r6,r7,r8,r9,r10,r11,r12,r13,r14,r15],_=>exact⟨r0,r1,r2,r3,r4,r5,r6,r7,r8,r9,r10,r11,r12,r13,r14,r15,rfl⟩
theorem sameProcR_any (wb rb:Nat) (E:Int) (rs:List Int) (hrs16:rs.length=16) (pv v:Value) (fp:Option Addr) (fc:Nat) (L:List (Nat×Pg)) (w:World) (h1:w.cell? ⟨wb,1,none⟩=some (.pointer (some ⟨rb,0,none⟩))) (h6:w.cell? ⟨rb,6,none⟩=some (.slice none 0 0))
 (hl:L.length≤256) (hwf:∀q∈L,q.2.wf) (ha:Rd w pv L.length (L.flatMap λq=>apiCells q.1 q.2)) (hb:Rd w v L.length (L.flatMap λq=>refCells q.1 q.2))
 (base:Nat) (hf:w.ownsRow base 255 3 (.slice fp 3 fc) 3 [.int .i64 0,.int .i64 4,.int .i64 0,.int .i64 1,.int .i64 4,.int .i64 0,.int .i64 2,.int .i64 4,.int .i64 0]) :
 Calls Tryz.prog 58 #[.pointer (some ⟨wb,0,none⟩),.agg (boxAG 0 0 E rs pv (.slice fp 3 fc)).toArray,.agg (boxBG 0 0 E rs v idsC).toArray] w λe w'=>e=.returned (.bool true)∧Bel w w':=by
 obtain⟨r0,r1,r2,r3,r4,r5,r6,r7,r8,r9,r10,r11,r12,r13,r14,r15,rfl⟩:=six_of hrs16
 clear hrs16
 have hsp:=λW (hW:Bel w W)=>same_any pv v L W hl hwf (ha.bel hW) (hb.bel hW)
 have HSP:=xh hsp
 obtain⟨p,cap,e,hcap,hcm,hps⟩:=row_slice hf
 cases e
 obtain⟨g,rfl,hgb,hgl,hcell,_⟩:=hps.resolve_left (by simp)
 have f0:w.cell? ⟨g,0,none⟩=some (.int .i64 0):=hcell 0 (by simp)
 have f1:w.cell? ⟨g,1,none⟩=some (.int .i64 4):=hcell 1 (by simp)
 have f2:w.cell? ⟨g,2,none⟩=some (.int .i64 0):=hcell 2 (by simp)
 have f3:w.cell? ⟨g,3,none⟩=some (.int .i64 1):=hcell 3 (by simp)
 have f4:w.cell? ⟨g,4,none⟩=some (.int .i64 4):=hcell 4 (by simp)
 have f5:w.cell? ⟨g,5,none⟩=some (.int .i64 0):=hcell 5 (by simp)
 have f6:w.cell? ⟨g,6,none⟩=some (.int .i64 2):=hcell 6 (by simp)
 have f7:w.cell? ⟨g,7,none⟩=some (.int .i64 4):=hcell 7 (by simp)
 have f8:w.cell? ⟨g,8,none⟩=some (.int .i64 0):=hcell 8 (by simp)
 clear hps hcell hf ha hb hwf hsp
 obtain⟨ca,hca⟩:∃ca,ca=boxAG 0 0 E [r0,r1,r2,r3,r4,r5,r6,r7,r8,r9,r10,r11,r12,r13,r14,r15] pv (.slice (some ⟨g,0,none⟩) 3 fc):=⟨_,rfl⟩
 obtain⟨cb,hcb⟩:∃cb,cb=boxBG 0 0 E [r0,r1,r2,r3,r4,r5,r6,r7,r8,r9,r10,r11,r12,r13,r14,r15] v idsC:=⟨_,rfl⟩
 rw[←hca,←hcb]
 have HCA:=xh hca
 have HCB:=xh hcb
 clear hca hcb
 go_enter Tryz.func58,Tryz.ntmps58
 go_upto_region 1 with fail
 have BA:Blk ((w.alloc (.cells ca.toArray 172)).alloc (.cells cb.toArray 80)) w.heap.size ca 172:=(Blk.new w ca _).alloc _
 have BB:Blk ((w.alloc (.cells ca.toArray 172)).alloc (.cells cb.toArray 80)) (w.heap.size+1) cb 80:=Blk.new_at _ _ _ (by simp)
 have hk:Bel w ((w.alloc (.cells ca.toArray 172)).alloc (.cells cb.toArray 80)):=(Bel.start w _).ac _
 generalize (w.alloc (.cells ca.toArray 172)).alloc (.cells cb.toArray 80)=w2 at *
 have HK:=xh hk
 have c1:=cell_bel hk h1
 have c6:=cell_bel hk h6
 have g0:=cell_bel hk f0
 have g1:=cell_bel hk f1
 have g2:=cell_bel hk f2
 have g3:=cell_bel hk f3
 have g4:=cell_bel hk f4
 have g5:=cell_bel hk f5
 have g6:=cell_bel hk f6
 have g7:=cell_bel hk f7
 have g8:=cell_bel hk f8
 rw[HCA.out]at BA
 rw[HCB.out]at BB
 have HBA:=xh BA
 have HBB:=xh BB
 clear hk f0 f1 f2 f3 f4 f5 f6 f7 f8 h1 h6
 generalize w.heap.size=ab at *
 have a0:w2.cell? ⟨ab,0,none⟩=some (.int .i64 1):=BA.cell 0
 have a1:w2.cell? ⟨ab,1,none⟩=some (.int .i64 0):=BA.cell 1
 have a2:w2.cell? ⟨ab,2,none⟩=some (.int .i64 0):=BA.cell 2
 have a3:w2.cell? ⟨ab,3,none⟩=some (.int .i64 0):=BA.cell 3
 have a4:w2.cell? ⟨ab,4,none⟩=some (.int .i64 0):=BA.cell 4
 have a5:w2.cell? ⟨ab,5,none⟩=some (.int .u64 E):=BA.cell 5
 have a22:w2.cell? ⟨ab,22,none⟩=some pv:=BA.cell 22
 have a23:w2.cell? ⟨ab,23,none⟩=some (.slice (some ⟨g,0,none⟩) 3 fc):=BA.cell 23
 have b0:w2.cell? ⟨ab+1,0,none⟩=some (.int .i64 1):=BB.cell 0
 have b1:w2.cell? ⟨ab+1,1,none⟩=some (.int .i64 0):=BB.cell 1
 have b2:w2.cell? ⟨ab+1,2,none⟩=some (.int .i64 0):=BB.cell 2
 have b3:w2.cell? ⟨ab+1,3,none⟩=some (.int .i64 0):=BB.cell 3
 have b4:w2.cell? ⟨ab+1,4,none⟩=some (.int .i64 0):=BB.cell 4
 have b5:w2.cell? ⟨ab+1,5,none⟩=some (.int .u64 E):=BB.cell 5
 have b22:w2.cell? ⟨ab+1,22,none⟩=some v:=BB.cell 22
 have a6:w2.cell? ⟨ab,6,none⟩=some (.int .u64 r0):=BA.cell 6
 have a7:w2.cell? ⟨ab,7,none⟩=some (.int .u64 r1):=BA.cell 7
 have a8:w2.cell? ⟨ab,8,none⟩=some (.int .u64 r2):=BA.cell 8
 have a9:w2.cell? ⟨ab,9,none⟩=some (.int .u64 r3):=BA.cell 9
 have a10:w2.cell? ⟨ab,10,none⟩=some (.int .u64 r4):=BA.cell 10
 have a11:w2.cell? ⟨ab,11,none⟩=some (.int .u64 r5):=BA.cell 11
 have a12:w2.cell? ⟨ab,12,none⟩=some (.int .u64 r6):=BA.cell 12
 have a13:w2.cell? ⟨ab,13,none⟩=some (.int .u64 r7):=BA.cell 13
 have a14:w2.cell? ⟨ab,14,none⟩=some (.int .u64 r8):=BA.cell 14
 have a15:w2.cell? ⟨ab,15,none⟩=some (.int .u64 r9):=BA.cell 15
 have a16:w2.cell? ⟨ab,16,none⟩=some (.int .u64 r10):=BA.cell 16
 have a17:w2.cell? ⟨ab,17,none⟩=some (.int .u64 r11):=BA.cell 17
 have a18:w2.cell? ⟨ab,18,none⟩=some (.int .u64 r12):=BA.cell 18
 have a19:w2.cell? ⟨ab,19,none⟩=some (.int .u64 r13):=BA.cell 19
 have a20:w2.cell? ⟨ab,20,none⟩=some (.int .u64 r14):=BA.cell 20
 have a21:w2.cell? ⟨ab,21,none⟩=some (.int .u64 r15):=BA.cell 21
 have b6:w2.cell? ⟨ab+1,6,none⟩=some (.int .u64 r0):=BB.cell 6
 have b7:w2.cell? ⟨ab+1,7,none⟩=some (.int .u64 r1):=BB.cell 7
 have b8:w2.cell? ⟨ab+1,8,none⟩=some (.int .u64 r2):=BB.cell 8
 have b9:w2.cell? ⟨ab+1,9,none⟩=some (.int .u64 r3):=BB.cell 9
 have b10:w2.cell? ⟨ab+1,10,none⟩=some (.int .u64 r4):=BB.cell 10
 have b11:w2.cell? ⟨ab+1,11,none⟩=some (.int .u64 r5):=BB.cell 11
 have b12:w2.cell? ⟨ab+1,12,none⟩=some (.int .u64 r6):=BB.cell 12
 have b13:w2.cell? ⟨ab+1,13,none⟩=some (.int .u64 r7):=BB.cell 13
 have b14:w2.cell? ⟨ab+1,14,none⟩=some (.int .u64 r8):=BB.cell 14
 have b15:w2.cell? ⟨ab+1,15,none⟩=some (.int .u64 r9):=BB.cell 15
 have b16:w2.cell? ⟨ab+1,16,none⟩=some (.int .u64 r10):=BB.cell 16
 have b17:w2.cell? ⟨ab+1,17,none⟩=some (.int .u64 r11):=BB.cell 17
 have b18:w2.cell? ⟨ab+1,18,none⟩=some (.int .u64 r12):=BB.cell 18
 have b19:w2.cell? ⟨ab+1,19,none⟩=some (.int .u64 r13):=BB.cell 19
 have b20:w2.cell? ⟨ab+1,20,none⟩=some (.int .u64 r14):=BB.cell 20
 have b21:w2.cell? ⟨ab+1,21,none⟩=some (.int .u64 r15):=BB.cell 21
 have b23:w2.cell? ⟨ab+1,23,none⟩=some (.int .i64 (-1)):=BB.cell 23
 have b24:w2.cell? ⟨ab+1,24,none⟩=some (.int .i64 (-1)):=BB.cell 24
 have b25:w2.cell? ⟨ab+1,25,none⟩=some (.int .i64 (-1)):=BB.cell 25
 have b26:w2.cell? ⟨ab+1,26,none⟩=some (.int .i64 0):=BB.cell 26
 have b27:w2.cell? ⟨ab+1,27,none⟩=some (.int .i64 0):=BB.cell 27
 have b28:w2.cell? ⟨ab+1,28,none⟩=some (.int .i64 0):=BB.cell 28
 have b29:w2.cell? ⟨ab+1,29,none⟩=some (.int .i64 0):=BB.cell 29
 have b30:w2.cell? ⟨ab+1,30,none⟩=some (.int .i64 0):=BB.cell 30
 clear BA BB
 go_upto_region 4 with(go_at_call 107;((with_reducible refine Calls.mono (HSP.out _ HK.out) ?_);rintro e3 w3 ⟨rfl,nd,rfl⟩))
 change Code.wp _ _ _ _ (w2.drewN nd)
 have HK3:Hid (Bel w (w2.drewN nd)):=xh (bel_drewN HK.out nd)
 have hrs:(Tryz.prog.info? 76).map (·.size)=some 16:=by kernel_rfl
 obtain⟨ie,hie⟩:=Option.isSome_iff_exists.1 (show(Tryz.prog.info? 75).isSome=true by kernel_rfl)
 have hne:∀w,(binOp .neq 76 (.agg (([r0,r1,r2,r3,r4,r5,r6,r7,r8,r9,r10,r11,r12,r13,r14,r15]).map (Value.int .u64)).toArray) (.agg (([r0,r1,r2,r3,r4,r5,r6,r7,r8,r9,r10,r11,r12,r13,r14,r15]).map (Value.int .u64)).toArray)).run Tryz.prog w=.ok (.bool false) w:=λw=>by
  rw[run_neq_arr Tryz.underlying76 Tryz.underlying75 hie (by kernel_rfl) ([r0,r1,r2,r3,r4,r5,r6,r7,r8,r9,r10,r11,r12,r13,r14,r15]) ([r0,r1,r2,r3,r4,r5,r6,r7,r8,r9,r10,r11,r12,r13,r14,r15]) rfl rfl w];simp
 simp only[List.map_cons,List.map_nil]at hne
 clear hie
 go_wp2_with fail
 refine wp_loop_rounds 9 ?_
 rw[rounds_succ]
 go_wp2_with fail
 refine wp_loop_rounds 1 ?_
 rw[rounds_succ]
 go_wp2_with fail
 rw[rounds_succ]
 go_wp2_with fail
 refine wp_loop_rounds 1 ?_
 rw[rounds_succ]
 go_wp2_with fail
 rw[rounds_succ]
 go_wp2_with fail
 refine wp_loop_rounds 1 ?_
 rw[rounds_succ]
 go_wp2_with fail
 rw[rounds_succ]
 go_wp2_with fail
 rw[rounds_succ]
 go_wp2_with fail
 rw[rounds_succ]
 go_wp2_with fail
 rw[rounds_succ]
 go_wp2_with fail
 rw[rounds_succ]
 go_wp2_with fail
 rw[rounds_succ]
 go_wp2_with fail
 go_ret
 exact⟨rfl,HK3.out⟩
def ProcsResR (E:Int) (rs:List Int) (L:List (Nat×Pg)) (w:World) (e:Ending) (w':World):Prop:=
 ∃v,e=.returned v∧Bel w w'∧∃pp pc fp fc,w'.ownsRow w.heap.size 172 24 v 1 (boxAG 0 0 E rs (.slice pp L.length pc) (.slice fp 3 fc))∧w'.ownsRow w.heap.size 175 258 (.slice pp L.length pc) L.length (L.flatMap λq=>apiCells q.1 q.2)∧w'.ownsRow w.heap.size 255 3 (.slice fp 3 fc) 3 [.int .i64 0,.int .i64 4,.int .i64 0,.int .i64 1,.int .i64 4,.int .i64 0,.int .i64 2,.int .i64 4,.int .i64 0]
theorem procsLR_any (wb tk rb pb pc2:Nat) (o1 o2 o3:Value) (E:Int) (rs:List Int) (hrs16:rs.length=16) (L:List (Nat×Pg)) (v:Value) (w:World) (hW:Blk w wb [.pointer (some ⟨tk,0,none⟩),.pointer (some ⟨rb,0,none⟩),o1,o2,o3] 55)
 (hP:Calls Tryz.prog 57 #[.pointer (some ⟨tk,0,none⟩)] w λe w'=>ProcsResR E rs L w e w') (h5:w.cell? ⟨rb,5,none⟩=some (.slice (some ⟨pb,0,none⟩) 1 pc2)) (h6:w.cell? ⟨rb,6,none⟩=some (.slice none 0 0)) (hB:w.rangeAt pb 0 (boxBG 0 0 E rs v idsC))
 (hl:L.length≤256) (hn:1≤L.length) (hwf:∀q∈L,q.2.wf) (hv:Rd w v L.length (L.flatMap λq=>refCells q.1 q.2)) :
 Calls Tryz.prog 29 #[.pointer (some ⟨wb,0,none⟩)] w λe w'=>e=.returned (.bool true)∧Bel w w':=by
 obtain⟨r0,r1,r2,r3,r4,r5,r6,r7,r8,r9,r10,r11,r12,r13,r14,r15,rfl⟩:=six_of hrs16
 have c0:=hW.cell 0
 have c1:=hW.cell 1
 simp only[List.getElem?_cons_zero,List.getElem?_cons_succ]at c0 c1
 have HP:=xh hP
 have HV:=xh hv
 have HWF:=xh hwf
 clear hW hP hv hwf
 go_enter Tryz.func29,Tryz.ntmps29
 go_upto_region 2 with(go_at_call 57;((with_reducible refine Calls.mono HP.out ?_);rintro e2 w2 ⟨lv,rfl,k2,hrest⟩;have HR:=xh hrest;have HK2:=xh k2;clear hrest k2))
 obtain⟨pp,pc,fp,fc,R1,R2,R3⟩:=HR.out
 have HR2:=xh R2
 have HR3:=xh R3
 obtain⟨lp,lcap,rfl,hlc,hlm,hlp⟩:=row_slice R1
 obtain⟨gl,rfl,hgb,hgl,hlcell,_⟩:=hlp.resolve_left (by simp)
 have hrA:w2.rangeAt gl 0 (boxAG 0 0 E [r0,r1,r2,r3,r4,r5,r6,r7,r8,r9,r10,r11,r12,r13,r14,r15] (.slice pp L.length pc) (.slice fp 3 fc)):=λj u hj=>by
  have:=(List.getElem?_eq_some_iff.1 hj).1
  rw[Nat.zero_add,hlcell j this,hj]
 have l22:w2.cell? ⟨gl,22,none⟩=some (.slice pp L.length pc):=hlcell 22 (by simp[boxAG])
 have HLB:=xh (row_blk R1 (g:=gl) rfl).2
 have hrB:w2.rangeAt pb 0 (boxBG 0 0 E [r0,r1,r2,r3,r4,r5,r6,r7,r8,r9,r10,r11,r12,r13,r14,r15] v idsC):=λj u hj=>cell_bel HK2.out (hB j u hj)
 have d0:=cell_bel HK2.out c0
 have d1:=cell_bel HK2.out c1
 have d5:=cell_bel HK2.out h5
 have d6:=cell_bel HK2.out h6
 have HSP:Hid (∀W,Bel w2 W→Calls Tryz.prog 58 #[.pointer (some ⟨wb,0,none⟩),.agg (boxAG 0 0 E [r0,r1,r2,r3,r4,r5,r6,r7,r8,r9,r10,r11,r12,r13,r14,r15] (.slice pp L.length pc) (.slice fp 3 fc)).toArray,.agg (boxBG 0 0 E [r0,r1,r2,r3,r4,r5,r6,r7,r8,r9,r10,r11,r12,r13,r14,r15] v idsC).toArray] W λe w'=>e=.returned (.bool true)∧Bel W w'):=xh λW hW=>sameProcR_any wb rb E [r0,r1,r2,r3,r4,r5,r6,r7,r8,r9,r10,r11,r12,r13,r14,r15] hrs16 (.slice pp L.length pc) v fp fc L W (cell_bel hW d1) (cell_bel hW d6) hl HWF.out ((Rd.of_row HR2.out).bel hW) ((HV.out.bel HK2.out).bel hW) w.heap.size (row_bel HR3.out hW)
 have HSK:Hid (∀W,Bel w2 W→W.rangeAt gl 0 (boxAG 0 0 E [r0,r1,r2,r3,r4,r5,r6,r7,r8,r9,r10,r11,r12,r13,r14,r15] (.slice pp L.length pc) (.slice fp 3 fc))∧W.cell? ⟨wb,1,none⟩=some (.pointer (some ⟨rb,0,none⟩))∧W.cell? ⟨rb,5,none⟩=some (.slice (some ⟨pb,0,none⟩) 1 pc2)∧W.rangeAt pb 0 (boxBG 0 0 E [r0,r1,r2,r3,r4,r5,r6,r7,r8,r9,r10,r11,r12,r13,r14,r15] v idsC)):=xh λW hW=>⟨λj u hj=>cell_bel hW (hrA j u hj),cell_bel hW d1,cell_bel hW d5,λj u hj=>cell_bel hW (hrB j u hj)⟩
 clear R1 R2 R3 hlp hlcell hrA hrB hB h5 h6 c0 c1 HR
 go_upto_region 5 with fail
 refine wp_loop_rounds 2 ?_
 rw[rounds_succ]
 go_upto_region 7 with fail
 go_cut [5] (λs5 wx=>s5=.bool true∧Hid (Bel w2 wx))
 case first=>
  refine wp_region_noPanic ?_
  refine wp_region_held_drew (S:=λw'=>w'.rangeAt gl 0 (boxAG 0 0 E [r0,r1,r2,r3,r4,r5,r6,r7,r8,r9,r10,r11,r12,r13,r14,r15] (.slice pp L.length pc) (.slice fp 3 fc))∧w'.cell? ⟨wb,1,none⟩=some (.pointer (some ⟨rb,0,none⟩))∧w'.cell? ⟨rb,5,none⟩=some (.slice (some ⟨pb,0,none⟩) 1 pc2)∧w'.rangeAt pb 0 (boxBG 0 0 E [r0,r1,r2,r3,r4,r5,r6,r7,r8,r9,r10,r11,r12,r13,r14,r15] v idsC)) (by kernel_rfl) (HSK.out _ (Bel.drew (Bel.refl _))) (λhHeld=>?_)
  refine plan [0,1,2,3] ?_
  repeat refine Go.Proofs.YtjdaddmjpicflaaGreatDoor.tk rfl (by kernel_rfl) rfl (by intro w hw;(try dsimp only at hw);go_simp;with_reducible rfl) (by assumption) (λ_ _ _ h=>h) (by(try simp only[Act.put,lits]);exact rfl) ?_
  refine planned ?_
  refine wpAnyH_take (i:=4) (v:=_) rfl (by kernel_rfl) (by kernel_rfl) (by kernel_rfl) (λ_ _ _ h=>h) (yieldsIf_load_mid (by rfl) 172 (.tmp 32) rfl gl 0 rfl (boxAG 0 0 E [r0,r1,r2,r3,r4,r5,r6,r7,r8,r9,r10,r11,r12,r13,r14,r15] (.slice pp L.length pc) (.slice fp 3 fc)) _ (λ_ h=>h.1) Tryz.underlying172 rfl procSizeA) (by assumption) ?_
  (try simp only[Act.put,lits])
  refine plan [5,6,7,8,9,10,11,12,13] ?_
  repeat refine Go.Proofs.YtjdaddmjpicflaaGreatDoor.tk rfl (by kernel_rfl) rfl (by intro w hw;(try dsimp only at hw);go_simp;with_reducible rfl) (by assumption) (λ_ _ _ h=>h) (by(try simp only[Act.put,lits]);exact rfl) ?_
  refine planned ?_
  refine wpAnyH_take (i:=14) (v:=_) rfl (by kernel_rfl) (by kernel_rfl) (by kernel_rfl) (λ_ _ _ h=>h) (yieldsIf_load_mid (by rfl) 80 (.tmp 42) rfl pb 0 rfl (boxBG 0 0 E [r0,r1,r2,r3,r4,r5,r6,r7,r8,r9,r10,r11,r12,r13,r14,r15] v idsC) _ (λ_ h=>h.2.2.2) Tryz.underlying80 rfl refProcSize) (by assumption) ?_
  (try simp only[Act.put,lits])
  refine rd 15 rfl (by kernel_rfl) (λK hK=>?_)
  go_simp
  go_at_call 58
  refine Calls.mono (HSP.out _ (Bel.drew (Bel.refl _))) ?_
  rintro e3 w3 ⟨rfl,k3⟩
  have HK3:Hid (Bel w2 w3):=xh (Bel.tr (Bel.drew (Bel.refl _)) k3)
  clear k3
  refine hK.out _ _ (HSK.out _ HK3.out) (λhH3=>?_)
  clear hK K
  (try simp only[Act.put,lits])
  refine rd 16 rfl (by kernel_rfl) (λK hK=>?_)
  go_simp
  refine hK.out _ _ (HSK.out _ HK3.out) (λhH3=>?_)
  clear hK K
  refine wpAnyH_done (by kernel_rfl) ?_ _
  refine NoPanic.normal ?_
  go_wp2_with fail
  go_meet
  exact⟨rfl,HK3⟩
 case rest=>
  obtain⟨rfl,HKc⟩:=hcut
  obtain⟨p,cap,e,_,_,hps⟩:=row_slice (row_bel HR2.out HKc.out)
  cases e
  obtain⟨gp,rfl,hgpb,hgpl,_,_⟩:=hps.resolve_left (by omega)
  have hpr:=PgRow.of_row L HWF.out rfl (row_bel HR2.out HKc.out)
  have l22c:=cell_bel HKc.out l22
  have hglc:gl<wc.heap.size:=Nat.lt_of_lt_of_le hgl HKc.out.le
  have hne:gl≠gp:=by
   obtain⟨cs,hb,_⟩:=hpr
   obtain⟨cur,hb2⟩:=HLB.out
   exact(hb2.bel HKc.out).ne hb (by decide)
  have HPR:=xh hpr
  have HKW:Hid (Bel w wc):=xh (HK2.out.tr HKc.out)
  clear hpr hps d0 d1 d5 d6 l22
  go_wp2_with fail
  go_loopw [6] (λi wr=>∃j:Nat,j≤L.length∧i=.int .i64 j∧Hid (PgRow wr gp L.length∧Keep (λq=>q=gp) wc wr)) (λi _=>L.length-(intOf i).toNat)
  case atStart=>exact⟨0,Nat.zero_le _,rfl,xh ⟨HPR.out,Keep.refl _ _⟩⟩
  case round=>
   obtain⟨j,hj,rfl,HI⟩:=hrel
   by_cases hlt:j<L.length
   ·have cj:=(HI.out.2.cell ⟨gl,22,none⟩ hglc hne).trans l22c
    obtain⟨cs,hb,hcs⟩:=HI.out.1
    obtain⟨hx0,x,hx2⟩:=hcs j hlt
    obtain⟨u0,hu0⟩:=Option.isSome_iff_exists.1 hx0
    rw[←hb.cell]at hu0 hx2
    have fz:=hb.frozen (j*258)
    have HP1:=xh (HI.out.1.set j)
    have HK1:=xh (HI.out.2.tr (Keep.setCell _ gp (j*258) (.int .i64 999)))
    have hx2':(wr.setCell ⟨gp,j*258,none⟩ (.int .i64 999)).cell? ⟨gp,j*258+2,none⟩=some (.int .u8 x):=by
     rw[World.cell?_setCell_other _ _ _ _ (by simp)];exact hx2
    have cj':(wr.setCell ⟨gp,j*258,none⟩ (.int .i64 999)).cell? ⟨gl,22,none⟩=some (.slice (some ⟨gp,0,none⟩) L.length pc):=by
     rw[World.cell?_setCell_other _ _ _ _ (by simp<;>omega)];exact cj
    have fz':(wr.setCell ⟨gp,j*258,none⟩ (.int .i64 999)).frozen? ⟨gp,j*258+2,none⟩=false:=by
     obtain⟨cs1,hb1,_⟩:=HP1.out
     exact hb1.frozen _
    clear hb hcs hx0
    go_upto_region 14 with fail
    generalize wr.setCell ⟨gp,j*258,none⟩ (.int .i64 999)=w5 at *
    have hne':gp≠gl:=λe=>hne e.symm
    go_still_tail 20,(by kernel_rfl)
    change wpList _ _ _ _ _ w5.drew
    go_wp2_with fail
    go_roundw
    case rel=>exact⟨j+1,by omega,by go_num,xh ⟨PgRow.set2 (w:=w5.drew) HP1.out j _,HK1.out.tr (Keep.tr (Keep.of_bel _ (Bel.drew (Bel.refl w5))) (Keep.setCell _ gp (j*258+2) _))⟩⟩
    case measure=>simp[intOf]<;>omega
   ·obtain rfl:j=L.length:=by omega
    have cj:=(HI.out.2.cell ⟨gl,22,none⟩ hglc hne).trans l22c
    have HF:Hid (Bel w wr):=xh (((Keep.of_bel (λq=>q=gp) HKW.out).tr HI.out.2).below _ (Nat.le_refl _) (λk hk=>hk▸hgpb))
    go_wp2_with fail
    rw[rounds_succ]
    go_wp2_with fail
    go_ret
    exact⟨rfl,HF.out⟩
end Go.Proofs.YtjdaddmjpicflaaGreatDoor
