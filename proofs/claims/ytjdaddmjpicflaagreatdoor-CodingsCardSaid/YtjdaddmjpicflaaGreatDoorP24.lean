/- The program's Procs, of a kernel with one process. -/
import Derived.Deep.RegionHeld3
import Derived.RegionCalls
import Derived.Deep.CutBlock
import Derived.Test.YtjdaddmjpicflaaGreatDoorP00
import Derived.Test.YtjdaddmjpicflaaGreatDoorP21
import Derived.Test.YtjdaddmjpicflaaGreatDoorP05
import Derived.Test.YtjdaddmjpicflaaGreatDoorP18
set_option linter.unusedVariables false
set_option linter.unusedSimpArgs false
set_option maxRecDepth 100000
set_option maxHeartbeats 16000000
namespace Go.Proofs.YtjdaddmjpicflaaGreatDoor
open Go.RowKit Go.Maps Go.Sort Go.Shelf
theorem keysP_any (mb:Option Nat) (w:World):Calls Tryz.prog 144 #[.map mb] w λe w'=>e=.returned (.func (.func 175) #[] #[.pointer (some ⟨w.heap.size,0,none⟩)])∧w'=w.alloc (.cells #[.map mb] 98):=
 (callsIn_wide (n:=5)).1 (AnyZI.keys_in Tryz.keysP Fence.wide 5 trivial rfl mb w)
theorem sortedP_any (q b:Nat) (kv:List (Int×Value)) (w:World) (hs:Mp keyP w b kv) (hl:kv.length≤1000000) (hq:q<w.heap.size) (hc:w.cell? ⟨q,0,none⟩=some (.map (some b))) :
 Calls Tryz.prog 143 #[.func (.func 175) #[] #[.pointer (some ⟨q,0,none⟩)]] w λe w'=>∃(v:Value) (ss:List Int),e=.returned v∧ss.Perm (kv.map Prod.fst)∧
  w'.ownsRow w.heap.size 3 1 v ss.length ((ss.mergeSort λx y=>decide (x≤y)).map (Value.int .i64))∧Bel w w':=by
 have hmax:kv.length≤maxLen:=by unfold maxLen;omega
 have hown:=Mp.owns hs hmax
 have hseq:SeqGives Fence.wide 2 Tryz.prog 175 #[.pointer (some ⟨q,0,none⟩)] encZ (λss=>ss.Perm (intKeys (D0 kv))) (Maps.size (D0 kv)) w:=
  AnyZI.keys_gives (ρ:=Tryz.keysP_ren) {Tryz.keysP with} Fence.wide _ trivial rfl (by omega) q b kv.length (D0 kv) _ hq hc hown
 have cS:=AnyZI.sorted_in Tryz.sortedA Fence.wide 5 trivial trivial trivial trivial rfl (by omega) (sorts _) (enters_of Tryz.func174 (by kernel_rfl) rfl) 175 #[.pointer (some ⟨q,0,none⟩)] trivial (enters_of Tryz.func175 (by kernel_rfl) rfl) _ _ (by rw[D0_size];exact hmax) (by rw[D0_size];omega) _ hseq
 refine((callsIn_wide (n:=5)).1 cS).mono ?_
 rintro e w' ⟨v,ss,rfl,hS,hrow,_,hb⟩
 exact⟨v,ss,rfl,hS.trans (D0_keys kv),hrow,hb⟩
theorem zeroProc (w:World):(zeroValue 111).run Tryz.prog w=.ok (.pointer none) w:=by kernel_rfl
def apiC (pid parent state status left:Int) (pc:Int) (regs:List Value) (pv fv:Value):List Value:=[.int .i64 pid,.int .i64 parent,.int .i64 state,.int .i64 status,.int .i64 left,.int .u64 pc]++regs++[pv,fv]
theorem procInfoA:(Tryz.prog.info? 172).map (λi=>(i.size,i.bytes,(i.zero.map (·.cells.size))))=some (24,224,some 24):=by kernel_rfl
theorem fdInfo:(Tryz.prog.info? 255).map (λi=>(i.size,i.bytes,(i.zero.map (·.cells.size))))=some (3,24,some 3):=by kernel_rfl
theorem built_procA16 (pid parent state status E:Int) (r0 r1 r2 r3 r4 r5 r6 r7 r8 r9 r10 r11 r12 r13 r14 r15:Value) (p:Option Addr) (n c:Nat):Tryz.prog.built 172 [(0,.int .i64 pid),(1,.int .i64 parent),(2,.int .i64 state),(3,.int .i64 status),(5,.int .u64 E),(6,.agg #[r0,r1,r2,r3,r4,r5,r6,r7,r8,r9,r10,r11,r12,r13,r14,r15]),(7,.slice p n c)]=some (apiC pid parent state status 0 E [r0,r1,r2,r3,r4,r5,r6,r7,r8,r9,r10,r11,r12,r13,r14,r15] (.slice p n c) (.slice none 0 0)).toArray:=by kernel_rfl
theorem built_procA (pid parent state status E:Int) (regs:List Value) (hr:regs.length=16) (p:Option Addr) (n c:Nat):Tryz.prog.built 172 [(0,.int .i64 pid),(1,.int .i64 parent),(2,.int .i64 state),(3,.int .i64 status),(5,.int .u64 E),(6,.agg regs.toArray),(7,.slice p n c)]=some (apiC pid parent state status 0 E regs (.slice p n c) (.slice none 0 0)).toArray:=
 match regs,hr with
 | [r0,r1,r2,r3,r4,r5,r6,r7,r8,r9,r10,r11,r12,r13,r14,r15],_=>built_procA16 pid parent state status E r0 r1 r2 r3 r4 r5 r6 r7 r8 r9 r10 r11 r12 r13 r14 r15 p n c
def apiH (pid parent state status left:Int) (pc:Int) (regs:List Value) (pv:Value):List Value:=[.int .i64 pid,.int .i64 parent,.int .i64 state,.int .i64 status,.int .i64 left,.int .u64 pc]++regs++[pv]
theorem apiC_eq (a b c d e f:Int) (regs:List Value) (pv fv:Value):apiC a b c d e f regs pv fv=apiH a b c d e f regs pv++[fv]:=by simp[apiC,apiH]
theorem apiH_len (a b c d e f:Int) (regs:List Value) (pv:Value) (hr:regs.length=16):(apiH a b c d e f regs pv).length=23:=by simp[apiH,hr]
theorem fd_step {w0 W w8:World} {gp i n:Nat} {xs ys cs:List Value} {fv:Value} {t e:TypeId} {o:Obj} (hb:Blk W gp (xs++[fv]) t) (hn:xs.length=n) (hr:W.ownsRow w0.heap.size e 3 fv i ys) (hk:Keep (λq=>q=gp) w0 W) (hg:gp<w0.heap.size) {p8:Option Addr} {c8:Nat}
 (R8:w8.ownsRow w0.heap.size e 3 (.slice p8 (i+1) c8) (i+1) (ys++cs)) (K8:Keep (λq=>fv.ownBlock=some q) (W.drew.alloc o) w8) :
 (Blk (w8.setCell ⟨gp,n,none⟩ (.slice p8 (i+1) c8)) gp (xs++[.slice p8 (i+1) c8]) t∧(w8.setCell ⟨gp,n,none⟩ (.slice p8 (i+1) c8)).ownsRow w0.heap.size e 3 (.slice p8 (i+1) c8) (i+1) (ys++cs)∧Keep (λq=>q=gp) w0 (w8.setCell ⟨gp,n,none⟩ (.slice p8 (i+1) c8)))∧w8.cell? ⟨gp,n,none⟩=some fv∧w8.frozen? ⟨gp,n,none⟩=false:=by
 subst hn
 have hbl:Bel W (W.drew.alloc o):=(Bel.drew (Bel.refl _)).ac _
 have hne:¬fv.ownBlock=some gp:=λh=>by have:=(row_blk hr h).1;omega
 have b8:Blk w8 gp (xs++[fv]) t:=(hb.bel hbl).keep K8 hne
 refine⟨⟨?_,ownsRow_setCell_below R8 (show(⟨gp,xs.length,none⟩:Addr).block<_ from hg) _,?_⟩,?_,b8.frozen _⟩
 ·have h:=b8.setCell (o:=xs.length) (.slice p8 (i+1) c8)
  simpa using h
 ·have h1:Keep (λq=>q=gp) w0 w8:=(hk.tr (Keep.of_bel _ hbl)).tr_new K8 (λq hq=>.inr (row_blk hr hq).1)
  exact h1.tr (Keep.setCell _ _ _ _)
 ·rw[b8.cell];simp
theorem yieldsIf_build {P:Program} {ops:Array Oper} {S:World→Prop} {op:Oper} {a:Act} (hw:Region.wanted op (yielded ops a.tmps)=true) (t:TypeId) (parts:Array (Nat×Operand)) (ho:op.op=.build t parts) (cells:Array Value) (hb:P.built t (parts.toList.map λx=>(x.1,a.eval x.2))=some cells):YieldsIf P ops S op (.agg cells) a:=
 .inl ⟨hw,λw _=>by
  have hb2:P.built t (parts.map λ(i,x)=>(i,a.eval x)).toList=some cells:=by rw[Array.toList_map];exact hb
  unfold execOp
  simp only[ho,Sem.run_bind,run_build w t _ cells hb2,Result.andThen_ok,Sem.run_pure]⟩
theorem ckind_any (cb:Nat) (w:World):Calls Tryz.prog 379 #[.pointer (some ⟨cb,0,none⟩)] w λe w'=>e=.returned (.int .i64 4)∧w'=w:=by
 go_enter Tryz.func379,Tryz.ntmps379
 go_wp2
 go_ret
 exact⟨rfl,rfl⟩
theorem coff_any (cb:Nat) (w:World):Calls Tryz.prog 380 #[.pointer (some ⟨cb,0,none⟩)] w λe w'=>e=.returned (.int .i64 0)∧w'=w:=by
 go_enter Tryz.func380,Tryz.ntmps380
 go_wp2
 go_ret
 exact⟨rfl,rfl⟩
theorem row_keepq {w w':World} {base gp:Nat} {e:TypeId} {size:Nat} {v:Value} {n:Nat} {xs:List Value} (h:w.ownsRow base e size v n xs) (hne:∀q,v.ownBlock=some q→q≠gp) (hk:Keep (λq=>q=gp) w w'):w'.ownsRow base e size v n xs:=by
 refine⟨h.1,?_⟩
 rcases h.2 with h2|⟨g,cap,cur,rfl,h3,h4,h5⟩
 ·exact .inl h2
 ·exact .inr ⟨g,cap,cur,rfl,h3,(hk.block g (Array.getElem?_eq_some_iff.1 h4).1 (hne g rfl)).trans h4,h5⟩
theorem procSizeA:(Tryz.prog.info? 172).map (·.size)=some 24:=by kernel_rfl
theorem procsB_any (kb:Nat) (a b c d e:Int) (pm tb ob cb pb sb:Nat) (fr now:Int) (sl:Value) (E:Int) (regs:List Value) (m:Pages) (w:World) (hk:Blk w kb (kerC a b c d e pm tb ob cb fr now sl) 109) (hp:Mp keyP w pm [(1,.pointer (some ⟨pb,0,none⟩))]) (hB:Blk w pb (.int .u64 E::regs++[.map (some sb)]++restC 1 0 0 0 0 (fds0 cb)) 121) (hrl:regs.length=16) (hr1:∀v∈regs,v.oneCell'=true) (hs:Sp w sb m) (hm:PagesOk m) (fdsN:Int) (ty out:Value) (hcb:Blk w cb [.int .i64 fdsN,ty,out] 105) :
 Calls Tryz.prog 106 #[.pointer (some ⟨kb,0,none⟩)] w λe w'=>∃v,e=.returned v∧Bel w w'∧∃pv fv,w'.ownsRow w.heap.size 172 24 v 1 (apiC 1 0 0 0 0 E regs pv fv)∧w'.ownsRow w.heap.size 175 258 pv (pageNums m).length (pagesCells m (pageNums m))∧w'.ownsRow w.heap.size 255 3 fv 3 [.int .i64 0,.int .i64 4,.int .i64 0,.int .i64 1,.int .i64 4,.int .i64 0,.int .i64 2,.int .i64 4,.int .i64 0]:=by
 have c5:w.cell? ⟨kb,5,none⟩=some (.map (some pm)):=hk.cell 5
 have hkl:=hk.lt
 have HK:=xh hk
 have HP:=xh hp
 have HB:=xh hB
 have HCB:=xh hcb
 have HS:=xh hs
 clear hk hp hB hcb hs
 go_enter Tryz.func106,Tryz.ntmps106
 go_wp2_with (first
  | (go_at_call 144;refine(keysP_any _ _).mono ?_;rintro e2 w1 ⟨rfl,rfl⟩)
  | (go_at_call 143;refine(sortedP_any w.heap.size pm _ _ (HP.out.alloc _) (by simp) (by simp) (by simp)).mono ?_;rintro e2 w2 ⟨v,ss,rfl,hss,hrow,k2⟩
     have hs1:ss=[1]:=List.perm_singleton.1 (show ss.Perm [1]from hss)
     subst hs1
     rw[List.mergeSort_singleton]at hrow
     have HROW:=xh hrow
     obtain⟨ps,cap,rfl,hcap,hcm,hps⟩:=row_slice hrow
     obtain⟨g,rfl,hgb,hgl,hcell,_⟩:=hps.resolve_left (by simp)
     have cg:w2.cell? ⟨g,0,none⟩=some (.int .i64 1):=hcell 0 (by simp)
     have HK2:Hid (Bel w w2):=xh ((Bel.start w _).tr k2)
     clear hss hrow k2 hcell))
 have hlk:∀W,Bel w W→(Instr.lookup 98 (.map (some pm)) (.int .i64 1) false).run Tryz.prog W=.ok (.pointer (some ⟨pb,0,none⟩)) W:=λW hW=>by
  have h1:=(HP.out.bel hW).lookup keyedI Tryz.underlying98 (1:Int) (WalkArith.wf_i64 (by omega)) false (zeroProc W)
  simp only[Bool.false_eq_true,if_false]at h1
  exact h1
 have hlk2:=hlk w2 HK2.out
 have c5:=cell_bel HK2.out c5
 refine wp_loop_rounds 2 ?_
 rw[rounds_succ]
 go_upto_region 6 with fail
 have B2:=HB.out.bel HK2.out
 have p0:w2.cell? ⟨pb,0,none⟩=some (.int .u64 E):=B2.cell 0
 have pr:w2.rangeAt pb 1 regs:=λj u hj=>by
  have hj16:j<16:=by have:=(List.getElem?_eq_some_iff.1 hj).1;omega
  rw[B2.cell,←hj]
  rw[show 1+j=j+1 from by omega,List.append_assoc,List.cons_append,List.getElem?_cons_succ,List.getElem?_append_left (by omega)]
 have hoff:∀j,((Value.int .u64 E::regs++[.map (some sb)]++restC 1 0 0 0 0 (fds0 cb)):List Value)[17+j]?=([.map (some sb)]++restC 1 0 0 0 0 (fds0 cb):List Value)[j]?:=λj=>by
  rw[List.append_assoc,List.getElem?_append_right (by simp;omega)]
  simp[hrl]
 have p17:w2.cell? ⟨pb,17,none⟩=some (.map (some sb)):=(B2.cell 17).trans (hoff 0)
 have p19:w2.cell? ⟨pb,19,none⟩=some (.int .i64 0):=(B2.cell 19).trans (hoff 2)
 have p20:w2.cell? ⟨pb,20,none⟩=some (.int .i64 0):=(B2.cell 20).trans (hoff 3)
 have p21:w2.cell? ⟨pb,21,none⟩=some (.int .i64 0):=(B2.cell 21).trans (hoff 4)
 have hpl:=B2.lt
 have hbl:∀(p:Option Addr) (n c:Nat) (W:World),(Instr.build 172 #[(0,.int .i64 1),(1,.int .i64 0),(2,.int .i64 0),(3,.int .i64 0),(5,.int .u64 E),(6,.agg regs.toArray),(7,.slice p n c)]).run Tryz.prog W=.ok (.agg (apiC 1 0 0 0 0 E regs (.slice p n c) (.slice none 0 0)).toArray) W:=λp n c W=>run_build W _ _ _ (built_procA 1 0 0 0 E regs hrl p n c)
 have hu:=Tryz.underlying76
 have hi:(Tryz.prog.info? 76).map (·.size)=some regs.length:=by rw[hrl];kernel_rfl
 have HBC:Hid (∀(p:Option Addr) (n c:Nat),(apiC 1 0 0 0 0 E regs (.slice p n c) (.slice none 0 0)).length=24∧∀v∈apiC 1 0 0 0 0 E regs (.slice p n c) (.slice none 0 0),v.oneCell'=true):=xh λp n c=>⟨by simp[apiC,hrl],λv hv=>by
  simp only[apiC,List.mem_append,List.mem_cons,List.not_mem_nil,or_false]at hv
  rcases hv with(h|h)|h
  ·rcases h with rfl|rfl|rfl|rfl|rfl|rfl<;>rfl
  ·exact hr1 v h
  ·rcases h with rfl|rfl<;>rfl⟩
 have HPL:=xh hpl
 clear B2 hoff hlk hlk2 c5
 obtain⟨zs,hzs⟩:∃zs:List Value,zs=apiC 0 0 0 0 0 0 (List.replicate 16 (.int .u64 0)) (.slice none 0 0) (.slice none 0 0):=⟨_,rfl⟩
 have hz:∀W,(zeroValue 172).run Tryz.prog W=.ok (.agg zs.toArray) W:=λW=>by rw[hzs];kernel_rfl
 have HZS:=xh hzs
 clear hzs
 go_cut [7] (λs7 wx=>∃gp:Nat,s7=.pointer (some ⟨gp,0,none⟩)∧Hid (∃p n c,Blk wx gp (apiC 1 0 0 0 0 E regs (.slice p n c) (.slice none 0 0)) 172∧wx.ownsRow w.heap.size 175 258 (.slice p n c) (pageNums m).length (pagesCells m (pageNums m))∧(∀q,(Value.slice p n c).ownBlock=some q→q≠gp)∧w.heap.size≤gp∧gp<wx.heap.size∧Bel w wx))
 case first=>
  have hps:=λW (hW:Bel w2 W)=>pages_any sb m W (HS.out.bel (HK2.out.tr hW)) hm
  have HPS:=xh hps
  have hsk:∀W,Bel w2 W→W.cell? ⟨pb,0,none⟩=some (.int .u64 E)∧W.rangeAt pb 1 regs∧W.cell? ⟨pb,17,none⟩=some (.map (some sb))∧W.cell? ⟨pb,19,none⟩=some (.int .i64 0)∧W.cell? ⟨pb,20,none⟩=some (.int .i64 0)∧W.cell? ⟨pb,21,none⟩=some (.int .i64 0):=λW hW=>⟨cell_bel hW p0,λj u hj=>cell_bel hW (pr j u hj),cell_bel hW p17,cell_bel hW p19,cell_bel hW p20,cell_bel hW p21⟩
  have HSK:=xh hsk
  clear hps hsk
  refine wp_region_noPanic ?_
  refine wp_region_held_drew (S:=λw'=>w'.cell? ⟨pb,0,none⟩=some (.int .u64 E)∧w'.rangeAt pb 1 regs∧w'.cell? ⟨pb,17,none⟩=some (.map (some sb))∧w'.cell? ⟨pb,19,none⟩=some (.int .i64 0)∧w'.cell? ⟨pb,20,none⟩=some (.int .i64 0)∧w'.cell? ⟨pb,21,none⟩=some (.int .i64 0)) (by kernel_rfl) (HSK.out _ (Bel.drew (Bel.refl _))) (λhHeld=>?_)
  refine plan [0,1,2,3,4,5,6,7,8,9,10,11,12,13,14,15,16,17,18,19,20,21] ?_
  repeat refine tk rfl (by kernel_rfl) rfl (by intro w hw;(try dsimp only at hw);go_simp;with_reducible rfl) (by assumption) (λ_ _ _ h=>h) (by(try simp only[Act.put,lits]);exact rfl) ?_
  refine planned ?_
  refine wpAnyH_take (i:=22) (v:=_) rfl (by kernel_rfl) (by kernel_rfl) (by kernel_rfl) (λ_ _ _ h=>h) (yieldsIf_load_mid (by rfl) _ _ rfl _ _ rfl regs _ (λ_ h=>h.2.1) hu rfl hi) (by assumption) ?_
  (try simp only[Act.put,lits])
  refine plan [23,24,25,26,27] ?_
  repeat refine tk rfl (by kernel_rfl) rfl (by intro w hw;(try dsimp only at hw);go_simp;with_reducible rfl) (by assumption) (λ_ _ _ h=>h) (by(try simp only[Act.put,lits]);exact rfl) ?_
  refine planned ?_
  refine wpAnyH_ready (rs:=[28,30]) (by kernel_rfl) (by simp) ?_
  refine AllReadyH.cons rfl (λK hK=>?o28) ?x28
  case o28=>
   go_simp
   go_at_call 145
   refine Calls.mono (HPS.out _ (Bel.drew (Bel.refl _))) ?_
   rintro e3 w3 ⟨v3,rfl,h3,k3⟩
   obtain⟨p3,c3,rfl,_⟩:=row_slice h3
   have HB3:Hid (Bel w2 w3):=xh (Bel.tr (Bel.drew (Bel.refl _)) k3)
   have HK3:=xh k3
   have HR3:=xh h3
   clear h3 k3
   refine hK.out _ _ (HSK.out _ HB3.out) (λhH3=>?_)
   clear hK K
   (try simp only[Act.put,lits])
   refine wpAnyH_take (i:=29) (v:=_) rfl (by kernel_rfl) (by kernel_rfl) (by kernel_rfl) (λ_ _ _ h=>h) (yieldsIf_build (by rfl) _ _ rfl _ (built_procA 1 0 0 0 E regs hrl p3 (pageNums m).length c3)) (by assumption) ?_
   (try simp only[Act.put,lits])
   refine rd 30 rfl (by kernel_rfl) (λK hK=>?_)
   go_simp
   refine hK.out _ _ (HSK.out _ (HB3.out.ac _)) (λhH5=>?_)
   clear hK K
   (try simp only[Act.put,lits])
   refine rd 31 rfl (by kernel_rfl) (λK hK=>?_)
   rw[if_pos (by rfl)]
   refine wp_store_row _ _ _ rfl w3.heap.size (apiC 1 0 0 0 0 E regs (.slice p3 (pageNums m).length c3) (.slice none 0 0)).toArray rfl rfl 172 zs.toArray (Blk.new w3 zs 172) ?_ ?_ ?_ ?_
   ·simp only[List.size_toArray,(HBC.out _ _ _).1];exact procSizeA
   ·simp only[List.size_toArray,(HBC.out _ _ _).1,HZS.out];rfl
   ·exact all_oneCell_toArray (HBC.out _ _ _).2
   have kS:Keep (λk=>k=w3.heap.size) (w3.alloc (.cells zs.toArray 172)) _:=Keep.setRow _ w3.heap.size (apiC 1 0 0 0 0 E regs (.slice p3 (pageNums m).length c3) (.slice none 0 0)).toArray
   have kB:Bel w2 _:=((Keep.of_bel _ (HB3.out.ac _)).tr kS).below _ (Nat.le_refl _) (λk hk=>hk▸HB3.out.le)
   refine hK.out _ _ (HSK.out _ kB) (λhH6=>?_)
   clear hK K
   refine wpAnyH_done (by kernel_rfl) ?_ _
   refine NoPanic.normal ?_
   go_wp2_with fail
   go_meet
   refine⟨_,rfl,xh ⟨p3,_,c3,(Blk.new w3 zs 172).setRow _,row_keep_ne (HR3.out.mono (show w.heap.size≤w2.heap.size from HK2.out.le)) (Bel.start w3 _) kS (Nat.le_refl _),λq hq=>Nat.ne_of_lt ((row_blk HR3.out hq).2.elim λ_ hb=>hb.lt),Nat.le_trans HK2.out.le HB3.out.le,by simp,HK2.out.tr kB⟩⟩
  case x28=>
   refine AllReadyH.cons rfl (λK hK=>?_) AllReadyH.nil
   go_simp
   refine hK.out _ _ (HSK.out _ ((Bel.drew (Bel.refl _)).ac _)) (λhH5=>?_)
   clear hK K
   (try simp only[Act.put,lits])
   refine rd 28 rfl (by kernel_rfl) (λK hK=>?_)
   go_simp
   go_at_call 145
   refine Calls.mono (HPS.out _ ((Bel.drew (Bel.refl w2)).ac (.cells zs.toArray 172))) ?_
   rintro e3 w3 ⟨v3,rfl,h3,k3⟩
   obtain⟨p3,c3,rfl,_⟩:=row_slice h3
   have HB3:Hid (Bel w2 w3):=xh (Bel.tr ((Bel.drew (Bel.refl w2)).ac (.cells zs.toArray 172)) k3)
   have HK3:=xh k3
   have HR3:=xh h3
   clear h3 k3
   refine hK.out _ _ (HSK.out _ HB3.out) (λhH3=>?_)
   clear hK K
   (try simp only[Act.put,lits])
   refine wpAnyH_take (i:=29) (v:=_) rfl (by kernel_rfl) (by kernel_rfl) (by kernel_rfl) (λ_ _ _ h=>h) (yieldsIf_build (by rfl) _ _ rfl _ (built_procA 1 0 0 0 E regs hrl p3 (pageNums m).length c3)) (by assumption) ?_
   (try simp only[Act.put,lits])
   refine rd 31 rfl (by kernel_rfl) (λK hK=>?_)
   rw[if_pos (by rfl)]
   refine wp_store_row _ _ _ rfl w2.heap.size (apiC 1 0 0 0 0 E regs (.slice p3 (pageNums m).length c3) (.slice none 0 0)).toArray rfl rfl 172 zs.toArray ((Blk.new w2.drew zs 172).bel HK3.out) ?_ ?_ ?_ ?_
   ·simp only[List.size_toArray,(HBC.out _ _ _).1];exact procSizeA
   ·simp only[List.size_toArray,(HBC.out _ _ _).1,HZS.out];rfl
   ·exact all_oneCell_toArray (HBC.out _ _ _).2
   have kS:Keep (λk=>k=w2.heap.size) w3 _:=Keep.setRow w3 w2.heap.size (apiC 1 0 0 0 0 E regs (.slice p3 (pageNums m).length c3) (.slice none 0 0)).toArray
   have kB:Bel w2 _:=((Keep.of_bel _ HB3.out).tr kS).below _ (Nat.le_refl _) (λk hk=>hk▸Nat.le_refl _)
   refine hK.out _ _ (HSK.out _ kB) (λhH6=>?_)
   clear hK K
   refine wpAnyH_done (by kernel_rfl) ?_ _
   refine NoPanic.normal ?_
   go_wp2_with fail
   go_meet
   refine⟨_,rfl,xh ⟨p3,_,c3,((Blk.new w2.drew zs 172).bel HK3.out).setRow _,(row_keep HR3.out kS (λq hq hq2=>?_)).mono (Nat.le_trans HK2.out.le (by simp)),λq hq=>?_,HK2.out.le,?_,HK2.out.tr kB⟩⟩
   ·simp at hq;omega
   ·have:=(row_blk HR3.out hq).1;simp at this;omega
   ·have:=HK3.out.le;simp at this⊢;omega
 case rest=>
  obtain⟨gp,rfl,hq⟩:=hcut
  obtain⟨pp,pn,pc,hgB,hpv,hpne,hgp,hgl,kc⟩:=hq.out
  have BW:=HB.out.bel kc
  have hoff:∀j,((Value.int .u64 E::regs++[.map (some sb)]++restC 1 0 0 0 0 (fds0 cb)):List Value)[17+j]?=([.map (some sb)]++restC 1 0 0 0 0 (fds0 cb):List Value)[j]?:=λj=>by
   rw[List.append_assoc,List.getElem?_append_right (by simp;omega)]
   simp[hrl]
  have q20:wc.cell? ⟨pb,20,none⟩=some (.int .i64 0):=(BW.cell 20).trans (hoff 3)
  have q19:wc.cell? ⟨pb,19,none⟩=some (.int .i64 0):=(BW.cell 19).trans (hoff 2)
  have q23:wc.cell? ⟨pb,23,none⟩=some (.iface 101 (.pointer (some ⟨cb,0,none⟩))):=(BW.cell 23).trans (hoff 6)
  have q24:wc.cell? ⟨pb,24,none⟩=some (.iface 101 (.pointer (some ⟨cb,0,none⟩))):=(BW.cell 24).trans (hoff 7)
  have q25:wc.cell? ⟨pb,25,none⟩=some (.iface 101 (.pointer (some ⟨cb,0,none⟩))):=(BW.cell 25).trans (hoff 8)
  have q26:wc.cell? ⟨pb,26,none⟩=some .nilIface:=(BW.cell 26).trans (hoff 9)
  have q27:wc.cell? ⟨pb,27,none⟩=some .nilIface:=(BW.cell 27).trans (hoff 10)
  have q28:wc.cell? ⟨pb,28,none⟩=some .nilIface:=(BW.cell 28).trans (hoff 11)
  have q29:wc.cell? ⟨pb,29,none⟩=some .nilIface:=(BW.cell 29).trans (hoff 12)
  have q30:wc.cell? ⟨pb,30,none⟩=some .nilIface:=(BW.cell 30).trans (hoff 13)
  have hpw:=HPL.out
  have hpg:pb<wc.heap.size:=BW.lt
  have hmk:∀w,(Go.method 660 101 (.pointer (some ⟨cb,0,none⟩)) "Kind").run Tryz.prog w=.ok (379,.pointer (some ⟨cb,0,none⟩)) w:=λw=>by kernel_rfl
  have hmo:∀w,(Go.method 660 101 (.pointer (some ⟨cb,0,none⟩)) "Offset").run Tryz.prog w=.ok (380,.pointer (some ⟨cb,0,none⟩)) w:=λw=>by kernel_rfl
  have hx0:∀W,(Instr.index 119 (.agg #[.iface 101 (.pointer (some ⟨cb,0,none⟩)),.iface 101 (.pointer (some ⟨cb,0,none⟩)),.iface 101 (.pointer (some ⟨cb,0,none⟩)),.nilIface,.nilIface,.nilIface,.nilIface,.nilIface]) (.int .i64 0)).run Tryz.prog W=.ok ((.iface 101 (.pointer (some ⟨cb,0,none⟩)))) W:=λW=>by kernel_rfl
  have hx1:∀W,(Instr.index 119 (.agg #[.iface 101 (.pointer (some ⟨cb,0,none⟩)),.iface 101 (.pointer (some ⟨cb,0,none⟩)),.iface 101 (.pointer (some ⟨cb,0,none⟩)),.nilIface,.nilIface,.nilIface,.nilIface,.nilIface]) (.int .i64 1)).run Tryz.prog W=.ok ((.iface 101 (.pointer (some ⟨cb,0,none⟩)))) W:=λW=>by kernel_rfl
  have hx2:∀W,(Instr.index 119 (.agg #[.iface 101 (.pointer (some ⟨cb,0,none⟩)),.iface 101 (.pointer (some ⟨cb,0,none⟩)),.iface 101 (.pointer (some ⟨cb,0,none⟩)),.nilIface,.nilIface,.nilIface,.nilIface,.nilIface]) (.int .i64 2)).run Tryz.prog W=.ok ((.iface 101 (.pointer (some ⟨cb,0,none⟩)))) W:=λW=>by kernel_rfl
  have hx3:∀W,(Instr.index 119 (.agg #[.iface 101 (.pointer (some ⟨cb,0,none⟩)),.iface 101 (.pointer (some ⟨cb,0,none⟩)),.iface 101 (.pointer (some ⟨cb,0,none⟩)),.nilIface,.nilIface,.nilIface,.nilIface,.nilIface]) (.int .i64 3)).run Tryz.prog W=.ok (.nilIface) W:=λW=>by kernel_rfl
  have hx4:∀W,(Instr.index 119 (.agg #[.iface 101 (.pointer (some ⟨cb,0,none⟩)),.iface 101 (.pointer (some ⟨cb,0,none⟩)),.iface 101 (.pointer (some ⟨cb,0,none⟩)),.nilIface,.nilIface,.nilIface,.nilIface,.nilIface]) (.int .i64 4)).run Tryz.prog W=.ok (.nilIface) W:=λW=>by kernel_rfl
  have hx5:∀W,(Instr.index 119 (.agg #[.iface 101 (.pointer (some ⟨cb,0,none⟩)),.iface 101 (.pointer (some ⟨cb,0,none⟩)),.iface 101 (.pointer (some ⟨cb,0,none⟩)),.nilIface,.nilIface,.nilIface,.nilIface,.nilIface]) (.int .i64 5)).run Tryz.prog W=.ok (.nilIface) W:=λW=>by kernel_rfl
  have hx6:∀W,(Instr.index 119 (.agg #[.iface 101 (.pointer (some ⟨cb,0,none⟩)),.iface 101 (.pointer (some ⟨cb,0,none⟩)),.iface 101 (.pointer (some ⟨cb,0,none⟩)),.nilIface,.nilIface,.nilIface,.nilIface,.nilIface]) (.int .i64 6)).run Tryz.prog W=.ok (.nilIface) W:=λW=>by kernel_rfl
  have hx7:∀W,(Instr.index 119 (.agg #[.iface 101 (.pointer (some ⟨cb,0,none⟩)),.iface 101 (.pointer (some ⟨cb,0,none⟩)),.iface 101 (.pointer (some ⟨cb,0,none⟩)),.nilIface,.nilIface,.nilIface,.nilIface,.nilIface]) (.int .i64 7)).run Tryz.prog W=.ok (.nilIface) W:=λW=>by kernel_rfl
  have HGB:=xh hgB
  have HPV:=xh hpv
  have HPN:=xh hpne
  have HKC:=xh kc
  have HGP:=xh (And.intro hgp hgl)
  obtain⟨W0,hW⟩:∃W,W=wc:=⟨_,rfl⟩
  subst hW
  have HI0:Hid (Blk W0 gp (apiC 1 0 0 0 0 E regs (.slice pp pn pc) (.slice none 0 0)) 172∧W0.ownsRow W0.heap.size 255 3 (.slice none 0 0) 0 []∧Keep (λq=>q=gp) W0 W0):=xh ⟨hgB,World.ownsRow_nil _ _ _ _,Keep.refl _ _⟩
  clear hgB hpv hpne hgp hgl kc BW hoff hq hbl hu hi p0 pr p17 p19 p20 p21 hpl hz
  go_upto_region 10 with fail
  refine wp_loop_rounds 9 ?_
  obtain⟨b0,r0,k0⟩:=HI0.out
  have b0b:=b0
  rw[apiC_eq]at b0b
  have c23:W0.cell? ⟨gp,23,none⟩=some (.slice none 0 0):=by rw[b0b.cell,List.getElem?_append_right (Nat.le_of_eq (apiH_len _ _ _ _ _ _ _ _ hrl)),apiH_len _ _ _ _ _ _ _ _ hrl];rfl
  have c23a:∀o,(W0.drew.alloc o).cell? ⟨gp,23,none⟩=some (.slice none 0 0):=λo=>cell_bel ((Bel.drew (Bel.refl _)).ac o) c23
  have hst:∀(p8:Option Addr) (c8:Nat) (w8:World),w8.ownsRow W0.heap.size 255 3 (.slice p8 1 c8) 1 ([]++[.int .i64 0,.int .i64 4,.int .i64 0])→Keep (λq=>(Value.slice none 0 0).ownBlock=some q) (W0.drew.alloc (.cells #[.int .i64 0,.int .i64 4,.int .i64 0] 255)) w8→_:=λp8 c8 w8 R8 K8=>fd_step (i:=0) b0b (apiH_len _ _ _ _ _ _ _ _ hrl) r0 k0 HGP.out.2 R8 K8
  have HST:=xh hst
  have HR:=xh r0
  have hgW0:gp<W0.heap.size:=Nat.lt_of_lt_of_le HGP.out.2 k0.size
  have hgn0:W0.heap.size≠gp:=Nat.ne_of_gt hgW0
  have hgm0:gp≠W0.heap.size:=Nat.ne_of_lt hgW0
  have hws0:W0.heap.size≤W0.heap.size:=k0.size
  clear b0 r0 k0 b0b hst
  rw[rounds_succ]
  go_upto_block 3 with fail
  go_cut []from 78 to 92 (λwx=>Hid (∃(p:Option Addr) (c:Nat),Blk wx gp (apiC 1 0 0 0 0 E regs (.slice pp pn pc) (.slice p 1 c)) 172∧wx.ownsRow W0.heap.size 255 3 (.slice p 1 c) 1 [.int .i64 0,.int .i64 4,.int .i64 0]∧Keep (λq=>q=gp) W0 wx))
  case first=>
   go_upto_region 13 with fail
   refine wp_region_noPanic ?_
   refine wp_region_held_drew (S:=λ_=>True) (by kernel_rfl) trivial (λhHeld=>?_)
   refine plan [0,2,3,5] ?_
   repeat refine tk rfl (by kernel_rfl) rfl (by intro w hw;(try dsimp only at hw);go_simp;with_reducible rfl) (by assumption) (λ_ _ _ h=>h) (by(try simp only[Act.put,lits]);exact rfl) ?_
   refine planned ?_
   refine wpAnyH_ready (rs:=[1,4]) (by kernel_rfl) (by simp) ?_
   refine AllReadyH.cons rfl (λK hK=>?ob5) ?xb5
   case ob5=>
    go_simp
    refine hK.out _ _ (by trivial) (λhH=>?_)
    clear hK K
    (try simp only[Act.put,lits])
    refine rd 4 rfl (by kernel_rfl) (λK hK=>?_)
    go_simp;go_at_call 379;((with_reducible refine Calls.mono (ckind_any cb _) ?_);rintro e wx ⟨rfl,hh⟩;subst hh)
    refine hK.out _ _ (by trivial) (λhH=>?_)
    clear hK K
    (try simp only[Act.put,lits])
    refine rd 6 rfl (by kernel_rfl) (λK hK=>?_)
    go_simp;go_at_call 380;((with_reducible refine Calls.mono (coff_any cb _) ?_);rintro e wx ⟨rfl,hh⟩;subst hh)
    refine hK.out _ _ (by trivial) (λhH=>?_)
    clear hK K
    (try simp only[Act.put,lits])
    refine plan [7] ?_
    repeat refine tk rfl (by kernel_rfl) rfl (by intro w hw;(try dsimp only at hw);go_simp;with_reducible rfl) (by assumption) (λ_ _ _ h=>h) (by(try simp only[Act.put,lits]);exact rfl) ?_
    refine planned ?_
    refine rd 8 rfl (by kernel_rfl) (λK hK=>?_)
    go_simp
    refine hK.out _ _ (by trivial) (λhH=>?_)
    clear hK K
    (try simp only[Act.put,lits])
    refine rd 9 rfl (by kernel_rfl) (λK hK=>?_)
    refine step_append_cells (base:=W0.heap.size) (n:=0) (xs:=[]) (size:=3) (bytes:=24) rfl (.tmp 83) (.tmp 90) 170 rfl Tryz.underlying170 fdInfo (by omega) rfl (row_bel HR.out ((Bel.drew (Bel.refl _)).ac _)) W0.heap.size 1 1 [.int .i64 0,.int .i64 4,.int .i64 0] rfl (λj u hj=>by rw[←hj];exact(Blk.new W0.drew [.int .i64 0,.int .i64 4,.int .i64 0] 255).cell j) rfl (λv hv=>by simp only[List.mem_cons,List.not_mem_nil,or_false]at hv;rcases hv with rfl|rfl|rfl<;>rfl) (by unfold maxLen;omega) (by omega) (Nat.le_trans hws0 (by simp)) ?_;intro p8 c8 w8 R8 K8;obtain⟨h8,x8,f8⟩:=HST.out p8 c8 w8 R8 K8;have H8:=xh h8;clear h8 R8 K8
    refine hK.out _ _ (by trivial) (λhH=>?_)
    clear hK K
    (try simp only[Act.put,lits])
    refine plan [10] ?_
    repeat refine tk rfl (by kernel_rfl) rfl (by intro w hw;(try dsimp only at hw);go_simp;with_reducible rfl) (by assumption) (λ_ _ _ h=>h) (by(try simp only[Act.put,lits]);exact rfl) ?_
    refine planned ?_
    refine rd 11 rfl (by kernel_rfl) (λK hK=>?_)
    go_simp
    refine hK.out _ _ (by trivial) (λhH=>?_)
    clear hK K
    (try simp only[Act.put,lits])
    refine wpAnyH_done (by kernel_rfl) ?_ _
    refine NoPanic.normal ?_
    go_wp2_with fail
    go_meet
    exact xh ⟨_,_,by rw[apiC_eq];exact H8.out.1,H8.out.2⟩
   case xb5=>
    refine AllReadyH.cons rfl (λK hK=>?ob8) AllReadyH.nil
    case ob8=>
     go_simp;go_at_call 379;((with_reducible refine Calls.mono (ckind_any cb _) ?_);rintro e wx ⟨rfl,hh⟩;subst hh)
     refine hK.out _ _ (by trivial) (λhH=>?_)
     clear hK K
     (try simp only[Act.put,lits])
     refine wpAnyH_ready (rs:=[1,6]) (by kernel_rfl) (by simp) ?_
     refine AllReadyH.cons rfl (λK hK=>?ob9) ?xb9
     case ob9=>
      go_simp
      refine hK.out _ _ (by trivial) (λhH=>?_)
      clear hK K
      (try simp only[Act.put,lits])
      refine rd 6 rfl (by kernel_rfl) (λK hK=>?_)
      go_simp;go_at_call 380;((with_reducible refine Calls.mono (coff_any cb _) ?_);rintro e wx ⟨rfl,hh⟩;subst hh)
      refine hK.out _ _ (by trivial) (λhH=>?_)
      clear hK K
      (try simp only[Act.put,lits])
      refine plan [7] ?_
      repeat refine tk rfl (by kernel_rfl) rfl (by intro w hw;(try dsimp only at hw);go_simp;with_reducible rfl) (by assumption) (λ_ _ _ h=>h) (by(try simp only[Act.put,lits]);exact rfl) ?_
      refine planned ?_
      refine rd 8 rfl (by kernel_rfl) (λK hK=>?_)
      go_simp
      refine hK.out _ _ (by trivial) (λhH=>?_)
      clear hK K
      (try simp only[Act.put,lits])
      refine rd 9 rfl (by kernel_rfl) (λK hK=>?_)
      refine step_append_cells (base:=W0.heap.size) (n:=0) (xs:=[]) (size:=3) (bytes:=24) rfl (.tmp 83) (.tmp 90) 170 rfl Tryz.underlying170 fdInfo (by omega) rfl (row_bel HR.out ((Bel.drew (Bel.refl _)).ac _)) W0.heap.size 1 1 [.int .i64 0,.int .i64 4,.int .i64 0] rfl (λj u hj=>by rw[←hj];exact(Blk.new W0.drew [.int .i64 0,.int .i64 4,.int .i64 0] 255).cell j) rfl (λv hv=>by simp only[List.mem_cons,List.not_mem_nil,or_false]at hv;rcases hv with rfl|rfl|rfl<;>rfl) (by unfold maxLen;omega) (by omega) (Nat.le_trans hws0 (by simp)) ?_;intro p8 c8 w8 R8 K8;obtain⟨h8,x8,f8⟩:=HST.out p8 c8 w8 R8 K8;have H8:=xh h8;clear h8 R8 K8
      refine hK.out _ _ (by trivial) (λhH=>?_)
      clear hK K
      (try simp only[Act.put,lits])
      refine plan [10] ?_
      repeat refine tk rfl (by kernel_rfl) rfl (by intro w hw;(try dsimp only at hw);go_simp;with_reducible rfl) (by assumption) (λ_ _ _ h=>h) (by(try simp only[Act.put,lits]);exact rfl) ?_
      refine planned ?_
      refine rd 11 rfl (by kernel_rfl) (λK hK=>?_)
      go_simp
      refine hK.out _ _ (by trivial) (λhH=>?_)
      clear hK K
      (try simp only[Act.put,lits])
      refine wpAnyH_done (by kernel_rfl) ?_ _
      refine NoPanic.normal ?_
      go_wp2_with fail
      go_meet
      exact xh ⟨_,_,by rw[apiC_eq];exact H8.out.1,H8.out.2⟩
     case xb9=>
      refine AllReadyH.cons rfl (λK hK=>?ob12) AllReadyH.nil
      case ob12=>
       go_simp;go_at_call 380;((with_reducible refine Calls.mono (coff_any cb _) ?_);rintro e wx ⟨rfl,hh⟩;subst hh)
       refine hK.out _ _ (by trivial) (λhH=>?_)
       clear hK K
       (try simp only[Act.put,lits])
       refine plan [7] ?_
       repeat refine tk rfl (by kernel_rfl) rfl (by intro w hw;(try dsimp only at hw);go_simp;with_reducible rfl) (by assumption) (λ_ _ _ h=>h) (by(try simp only[Act.put,lits]);exact rfl) ?_
       refine planned ?_
       refine wpAnyH_ready (rs:=[1,8]) (by kernel_rfl) (by simp) ?_
       refine AllReadyH.cons rfl (λK hK=>?ob14) ?xb14
       case ob14=>
             go_simp
             refine hK.out _ _ (by trivial) (λhH=>?_)
             clear hK K
             (try simp only[Act.put,lits])
             refine rd 8 rfl (by kernel_rfl) (λK hK=>?_)
             go_simp
             refine hK.out _ _ (by trivial) (λhH=>?_)
             clear hK K
             (try simp only[Act.put,lits])
             refine rd 9 rfl (by kernel_rfl) (λK hK=>?_)
             refine step_append_cells (base:=W0.heap.size) (n:=0) (xs:=[]) (size:=3) (bytes:=24) rfl (.tmp 83) (.tmp 90) 170 rfl Tryz.underlying170 fdInfo (by omega) rfl (row_bel HR.out ((Bel.drew (Bel.refl _)).ac _)) W0.heap.size 1 1 [.int .i64 0,.int .i64 4,.int .i64 0] rfl (λj u hj=>by rw[←hj];exact(Blk.new W0.drew [.int .i64 0,.int .i64 4,.int .i64 0] 255).cell j) rfl (λv hv=>by simp only[List.mem_cons,List.not_mem_nil,or_false]at hv;rcases hv with rfl|rfl|rfl<;>rfl) (by unfold maxLen;omega) (by omega) (Nat.le_trans hws0 (by simp)) ?_;intro p8 c8 w8 R8 K8;obtain⟨h8,x8,f8⟩:=HST.out p8 c8 w8 R8 K8;have H8:=xh h8;clear h8 R8 K8
             refine hK.out _ _ (by trivial) (λhH=>?_)
             clear hK K
             (try simp only[Act.put,lits])
             refine plan [10] ?_
             repeat refine tk rfl (by kernel_rfl) rfl (by intro w hw;(try dsimp only at hw);go_simp;with_reducible rfl) (by assumption) (λ_ _ _ h=>h) (by(try simp only[Act.put,lits]);exact rfl) ?_
             refine planned ?_
             refine rd 11 rfl (by kernel_rfl) (λK hK=>?_)
             go_simp
             refine hK.out _ _ (by trivial) (λhH=>?_)
             clear hK K
             (try simp only[Act.put,lits])
             refine wpAnyH_done (by kernel_rfl) ?_ _
             refine NoPanic.normal ?_
             go_wp2_with fail
             go_meet
             exact xh ⟨_,_,by rw[apiC_eq];exact H8.out.1,H8.out.2⟩
       case xb14=>
             refine AllReadyH.cons rfl (λK hK=>?ob16) AllReadyH.nil
             case ob16=>
              go_simp
              refine hK.out _ _ (by trivial) (λhH=>?_)
              clear hK K
              (try simp only[Act.put,lits])
              refine rd 1 rfl (by kernel_rfl) (λK hK=>?_)
              go_simp
              refine hK.out _ _ (by trivial) (λhH=>?_)
              clear hK K
              (try simp only[Act.put,lits])
              refine rd 9 rfl (by kernel_rfl) (λK hK=>?_)
              refine step_append_cells (base:=W0.heap.size) (n:=0) (xs:=[]) (size:=3) (bytes:=24) rfl (.tmp 83) (.tmp 90) 170 rfl Tryz.underlying170 fdInfo (by omega) rfl (row_bel HR.out ((Bel.drew (Bel.refl _)).ac _)) W0.heap.size 1 1 [.int .i64 0,.int .i64 4,.int .i64 0] rfl (λj u hj=>by rw[←hj];exact(Blk.new W0.drew [.int .i64 0,.int .i64 4,.int .i64 0] 255).cell j) rfl (λv hv=>by simp only[List.mem_cons,List.not_mem_nil,or_false]at hv;rcases hv with rfl|rfl|rfl<;>rfl) (by unfold maxLen;omega) (by omega) (Nat.le_trans hws0 (by simp)) ?_;intro p8 c8 w8 R8 K8;obtain⟨h8,x8,f8⟩:=HST.out p8 c8 w8 R8 K8;have H8:=xh h8;clear h8 R8 K8
              refine hK.out _ _ (by trivial) (λhH=>?_)
              clear hK K
              (try simp only[Act.put,lits])
              refine plan [10] ?_
              repeat refine tk rfl (by kernel_rfl) rfl (by intro w hw;(try dsimp only at hw);go_simp;with_reducible rfl) (by assumption) (λ_ _ _ h=>h) (by(try simp only[Act.put,lits]);exact rfl) ?_
              refine planned ?_
              refine rd 11 rfl (by kernel_rfl) (λK hK=>?_)
              go_simp
              refine hK.out _ _ (by trivial) (λhH=>?_)
              clear hK K
              (try simp only[Act.put,lits])
              refine wpAnyH_done (by kernel_rfl) ?_ _
              refine NoPanic.normal ?_
              go_wp2_with fail
              go_meet
              exact xh ⟨_,_,by rw[apiC_eq];exact H8.out.1,H8.out.2⟩
  case' rest=>
   obtain⟨W1,hW⟩:∃W,W=wc:=⟨_,rfl⟩
   subst hW
   obtain⟨p1,c1,hI⟩:=hcut.out
   have HI1:=xh hI
   clear hI hcut c23 c23a HST HR
  obtain⟨b1,r1,k1⟩:=HI1.out
  have b1b:=b1
  rw[apiC_eq]at b1b
  have c23:W1.cell? ⟨gp,23,none⟩=some (.slice p1 1 c1):=by rw[b1b.cell,List.getElem?_append_right (Nat.le_of_eq (apiH_len _ _ _ _ _ _ _ _ hrl)),apiH_len _ _ _ _ _ _ _ _ hrl];rfl
  have c23a:∀o,(W1.drew.alloc o).cell? ⟨gp,23,none⟩=some (.slice p1 1 c1):=λo=>cell_bel ((Bel.drew (Bel.refl _)).ac o) c23
  have hst:∀(p8:Option Addr) (c8:Nat) (w8:World),w8.ownsRow W0.heap.size 255 3 (.slice p8 2 c8) 2 ([.int .i64 0,.int .i64 4,.int .i64 0]++[.int .i64 1,.int .i64 4,.int .i64 0])→Keep (λq=>(Value.slice p1 1 c1).ownBlock=some q) (W1.drew.alloc (.cells #[.int .i64 1,.int .i64 4,.int .i64 0] 255)) w8→_:=λp8 c8 w8 R8 K8=>fd_step (i:=1) b1b (apiH_len _ _ _ _ _ _ _ _ hrl) r1 k1 HGP.out.2 R8 K8
  have HST:=xh hst
  have HR:=xh r1
  have hgW1:gp<W1.heap.size:=Nat.lt_of_lt_of_le HGP.out.2 k1.size
  have hgn1:W1.heap.size≠gp:=Nat.ne_of_gt hgW1
  have hgm1:gp≠W1.heap.size:=Nat.ne_of_lt hgW1
  have hws1:W0.heap.size≤W1.heap.size:=k1.size
  clear b1 r1 k1 b1b hst
  go_upto_block 3 with fail
  rw[rounds_succ]
  go_upto_block 3 with fail
  go_cut []from 78 to 92 (λwx=>Hid (∃(p:Option Addr) (c:Nat),Blk wx gp (apiC 1 0 0 0 0 E regs (.slice pp pn pc) (.slice p 2 c)) 172∧wx.ownsRow W0.heap.size 255 3 (.slice p 2 c) 2 [.int .i64 0,.int .i64 4,.int .i64 0,.int .i64 1,.int .i64 4,.int .i64 0]∧Keep (λq=>q=gp) W0 wx))
  case first=>
   go_upto_region 13 with fail
   refine wp_region_noPanic ?_
   refine wp_region_held_drew (S:=λ_=>True) (by kernel_rfl) trivial (λhHeld=>?_)
   refine plan [0,2,3,5] ?_
   repeat refine tk rfl (by kernel_rfl) rfl (by intro w hw;(try dsimp only at hw);go_simp;with_reducible rfl) (by assumption) (λ_ _ _ h=>h) (by(try simp only[Act.put,lits]);exact rfl) ?_
   refine planned ?_
   refine wpAnyH_ready (rs:=[1,4]) (by kernel_rfl) (by simp) ?_
   refine AllReadyH.cons rfl (λK hK=>?ob22) ?xb22
   case ob22=>
    go_simp
    refine hK.out _ _ (by trivial) (λhH=>?_)
    clear hK K
    (try simp only[Act.put,lits])
    refine rd 4 rfl (by kernel_rfl) (λK hK=>?_)
    go_simp;go_at_call 379;((with_reducible refine Calls.mono (ckind_any cb _) ?_);rintro e wx ⟨rfl,hh⟩;subst hh)
    refine hK.out _ _ (by trivial) (λhH=>?_)
    clear hK K
    (try simp only[Act.put,lits])
    refine rd 6 rfl (by kernel_rfl) (λK hK=>?_)
    go_simp;go_at_call 380;((with_reducible refine Calls.mono (coff_any cb _) ?_);rintro e wx ⟨rfl,hh⟩;subst hh)
    refine hK.out _ _ (by trivial) (λhH=>?_)
    clear hK K
    (try simp only[Act.put,lits])
    refine plan [7] ?_
    repeat refine tk rfl (by kernel_rfl) rfl (by intro w hw;(try dsimp only at hw);go_simp;with_reducible rfl) (by assumption) (λ_ _ _ h=>h) (by(try simp only[Act.put,lits]);exact rfl) ?_
    refine planned ?_
    refine rd 8 rfl (by kernel_rfl) (λK hK=>?_)
    go_simp
    refine hK.out _ _ (by trivial) (λhH=>?_)
    clear hK K
    (try simp only[Act.put,lits])
    refine rd 9 rfl (by kernel_rfl) (λK hK=>?_)
    refine step_append_cells (base:=W0.heap.size) (n:=1) (xs:=[.int .i64 0,.int .i64 4,.int .i64 0]) (size:=3) (bytes:=24) rfl (.tmp 83) (.tmp 90) 170 rfl Tryz.underlying170 fdInfo (by omega) rfl (row_bel HR.out ((Bel.drew (Bel.refl _)).ac _)) W1.heap.size 1 1 [.int .i64 1,.int .i64 4,.int .i64 0] rfl (λj u hj=>by rw[←hj];exact(Blk.new W1.drew [.int .i64 1,.int .i64 4,.int .i64 0] 255).cell j) rfl (λv hv=>by simp only[List.mem_cons,List.not_mem_nil,or_false]at hv;rcases hv with rfl|rfl|rfl<;>rfl) (by unfold maxLen;omega) (by omega) (Nat.le_trans hws1 (by simp)) ?_;intro p8 c8 w8 R8 K8;obtain⟨h8,x8,f8⟩:=HST.out p8 c8 w8 R8 K8;have H8:=xh h8;clear h8 R8 K8
    refine hK.out _ _ (by trivial) (λhH=>?_)
    clear hK K
    (try simp only[Act.put,lits])
    refine plan [10] ?_
    repeat refine tk rfl (by kernel_rfl) rfl (by intro w hw;(try dsimp only at hw);go_simp;with_reducible rfl) (by assumption) (λ_ _ _ h=>h) (by(try simp only[Act.put,lits]);exact rfl) ?_
    refine planned ?_
    refine rd 11 rfl (by kernel_rfl) (λK hK=>?_)
    go_simp
    refine hK.out _ _ (by trivial) (λhH=>?_)
    clear hK K
    (try simp only[Act.put,lits])
    refine wpAnyH_done (by kernel_rfl) ?_ _
    refine NoPanic.normal ?_
    go_wp2_with fail
    go_meet
    exact xh ⟨_,_,by rw[apiC_eq];exact H8.out.1,H8.out.2⟩
   case xb22=>
    refine AllReadyH.cons rfl (λK hK=>?ob25) AllReadyH.nil
    case ob25=>
     go_simp;go_at_call 379;((with_reducible refine Calls.mono (ckind_any cb _) ?_);rintro e wx ⟨rfl,hh⟩;subst hh)
     refine hK.out _ _ (by trivial) (λhH=>?_)
     clear hK K
     (try simp only[Act.put,lits])
     refine wpAnyH_ready (rs:=[1,6]) (by kernel_rfl) (by simp) ?_
     refine AllReadyH.cons rfl (λK hK=>?ob26) ?xb26
     case ob26=>
      go_simp
      refine hK.out _ _ (by trivial) (λhH=>?_)
      clear hK K
      (try simp only[Act.put,lits])
      refine rd 6 rfl (by kernel_rfl) (λK hK=>?_)
      go_simp;go_at_call 380;((with_reducible refine Calls.mono (coff_any cb _) ?_);rintro e wx ⟨rfl,hh⟩;subst hh)
      refine hK.out _ _ (by trivial) (λhH=>?_)
      clear hK K
      (try simp only[Act.put,lits])
      refine plan [7] ?_
      repeat refine tk rfl (by kernel_rfl) rfl (by intro w hw;(try dsimp only at hw);go_simp;with_reducible rfl) (by assumption) (λ_ _ _ h=>h) (by(try simp only[Act.put,lits]);exact rfl) ?_
      refine planned ?_
      refine rd 8 rfl (by kernel_rfl) (λK hK=>?_)
      go_simp
      refine hK.out _ _ (by trivial) (λhH=>?_)
      clear hK K
      (try simp only[Act.put,lits])
      refine rd 9 rfl (by kernel_rfl) (λK hK=>?_)
      refine step_append_cells (base:=W0.heap.size) (n:=1) (xs:=[.int .i64 0,.int .i64 4,.int .i64 0]) (size:=3) (bytes:=24) rfl (.tmp 83) (.tmp 90) 170 rfl Tryz.underlying170 fdInfo (by omega) rfl (row_bel HR.out ((Bel.drew (Bel.refl _)).ac _)) W1.heap.size 1 1 [.int .i64 1,.int .i64 4,.int .i64 0] rfl (λj u hj=>by rw[←hj];exact(Blk.new W1.drew [.int .i64 1,.int .i64 4,.int .i64 0] 255).cell j) rfl (λv hv=>by simp only[List.mem_cons,List.not_mem_nil,or_false]at hv;rcases hv with rfl|rfl|rfl<;>rfl) (by unfold maxLen;omega) (by omega) (Nat.le_trans hws1 (by simp)) ?_;intro p8 c8 w8 R8 K8;obtain⟨h8,x8,f8⟩:=HST.out p8 c8 w8 R8 K8;have H8:=xh h8;clear h8 R8 K8
      refine hK.out _ _ (by trivial) (λhH=>?_)
      clear hK K
      (try simp only[Act.put,lits])
      refine plan [10] ?_
      repeat refine tk rfl (by kernel_rfl) rfl (by intro w hw;(try dsimp only at hw);go_simp;with_reducible rfl) (by assumption) (λ_ _ _ h=>h) (by(try simp only[Act.put,lits]);exact rfl) ?_
      refine planned ?_
      refine rd 11 rfl (by kernel_rfl) (λK hK=>?_)
      go_simp
      refine hK.out _ _ (by trivial) (λhH=>?_)
      clear hK K
      (try simp only[Act.put,lits])
      refine wpAnyH_done (by kernel_rfl) ?_ _
      refine NoPanic.normal ?_
      go_wp2_with fail
      go_meet
      exact xh ⟨_,_,by rw[apiC_eq];exact H8.out.1,H8.out.2⟩
     case xb26=>
      refine AllReadyH.cons rfl (λK hK=>?ob29) AllReadyH.nil
      case ob29=>
       go_simp;go_at_call 380;((with_reducible refine Calls.mono (coff_any cb _) ?_);rintro e wx ⟨rfl,hh⟩;subst hh)
       refine hK.out _ _ (by trivial) (λhH=>?_)
       clear hK K
       (try simp only[Act.put,lits])
       refine plan [7] ?_
       repeat refine tk rfl (by kernel_rfl) rfl (by intro w hw;(try dsimp only at hw);go_simp;with_reducible rfl) (by assumption) (λ_ _ _ h=>h) (by(try simp only[Act.put,lits]);exact rfl) ?_
       refine planned ?_
       refine wpAnyH_ready (rs:=[1,8]) (by kernel_rfl) (by simp) ?_
       refine AllReadyH.cons rfl (λK hK=>?ob31) ?xb31
       case ob31=>
             go_simp
             refine hK.out _ _ (by trivial) (λhH=>?_)
             clear hK K
             (try simp only[Act.put,lits])
             refine rd 8 rfl (by kernel_rfl) (λK hK=>?_)
             go_simp
             refine hK.out _ _ (by trivial) (λhH=>?_)
             clear hK K
             (try simp only[Act.put,lits])
             refine rd 9 rfl (by kernel_rfl) (λK hK=>?_)
             refine step_append_cells (base:=W0.heap.size) (n:=1) (xs:=[.int .i64 0,.int .i64 4,.int .i64 0]) (size:=3) (bytes:=24) rfl (.tmp 83) (.tmp 90) 170 rfl Tryz.underlying170 fdInfo (by omega) rfl (row_bel HR.out ((Bel.drew (Bel.refl _)).ac _)) W1.heap.size 1 1 [.int .i64 1,.int .i64 4,.int .i64 0] rfl (λj u hj=>by rw[←hj];exact(Blk.new W1.drew [.int .i64 1,.int .i64 4,.int .i64 0] 255).cell j) rfl (λv hv=>by simp only[List.mem_cons,List.not_mem_nil,or_false]at hv;rcases hv with rfl|rfl|rfl<;>rfl) (by unfold maxLen;omega) (by omega) (Nat.le_trans hws1 (by simp)) ?_;intro p8 c8 w8 R8 K8;obtain⟨h8,x8,f8⟩:=HST.out p8 c8 w8 R8 K8;have H8:=xh h8;clear h8 R8 K8
             refine hK.out _ _ (by trivial) (λhH=>?_)
             clear hK K
             (try simp only[Act.put,lits])
             refine plan [10] ?_
             repeat refine tk rfl (by kernel_rfl) rfl (by intro w hw;(try dsimp only at hw);go_simp;with_reducible rfl) (by assumption) (λ_ _ _ h=>h) (by(try simp only[Act.put,lits]);exact rfl) ?_
             refine planned ?_
             refine rd 11 rfl (by kernel_rfl) (λK hK=>?_)
             go_simp
             refine hK.out _ _ (by trivial) (λhH=>?_)
             clear hK K
             (try simp only[Act.put,lits])
             refine wpAnyH_done (by kernel_rfl) ?_ _
             refine NoPanic.normal ?_
             go_wp2_with fail
             go_meet
             exact xh ⟨_,_,by rw[apiC_eq];exact H8.out.1,H8.out.2⟩
       case xb31=>
             refine AllReadyH.cons rfl (λK hK=>?ob33) AllReadyH.nil
             case ob33=>
              go_simp
              refine hK.out _ _ (by trivial) (λhH=>?_)
              clear hK K
              (try simp only[Act.put,lits])
              refine rd 1 rfl (by kernel_rfl) (λK hK=>?_)
              go_simp
              refine hK.out _ _ (by trivial) (λhH=>?_)
              clear hK K
              (try simp only[Act.put,lits])
              refine rd 9 rfl (by kernel_rfl) (λK hK=>?_)
              refine step_append_cells (base:=W0.heap.size) (n:=1) (xs:=[.int .i64 0,.int .i64 4,.int .i64 0]) (size:=3) (bytes:=24) rfl (.tmp 83) (.tmp 90) 170 rfl Tryz.underlying170 fdInfo (by omega) rfl (row_bel HR.out ((Bel.drew (Bel.refl _)).ac _)) W1.heap.size 1 1 [.int .i64 1,.int .i64 4,.int .i64 0] rfl (λj u hj=>by rw[←hj];exact(Blk.new W1.drew [.int .i64 1,.int .i64 4,.int .i64 0] 255).cell j) rfl (λv hv=>by simp only[List.mem_cons,List.not_mem_nil,or_false]at hv;rcases hv with rfl|rfl|rfl<;>rfl) (by unfold maxLen;omega) (by omega) (Nat.le_trans hws1 (by simp)) ?_;intro p8 c8 w8 R8 K8;obtain⟨h8,x8,f8⟩:=HST.out p8 c8 w8 R8 K8;have H8:=xh h8;clear h8 R8 K8
              refine hK.out _ _ (by trivial) (λhH=>?_)
              clear hK K
              (try simp only[Act.put,lits])
              refine plan [10] ?_
              repeat refine tk rfl (by kernel_rfl) rfl (by intro w hw;(try dsimp only at hw);go_simp;with_reducible rfl) (by assumption) (λ_ _ _ h=>h) (by(try simp only[Act.put,lits]);exact rfl) ?_
              refine planned ?_
              refine rd 11 rfl (by kernel_rfl) (λK hK=>?_)
              go_simp
              refine hK.out _ _ (by trivial) (λhH=>?_)
              clear hK K
              (try simp only[Act.put,lits])
              refine wpAnyH_done (by kernel_rfl) ?_ _
              refine NoPanic.normal ?_
              go_wp2_with fail
              go_meet
              exact xh ⟨_,_,by rw[apiC_eq];exact H8.out.1,H8.out.2⟩
  case' rest=>
   obtain⟨W2,hW⟩:∃W,W=wc:=⟨_,rfl⟩
   subst hW
   obtain⟨p2,c2,hI⟩:=hcut.out
   have HI2:=xh hI
   clear hI hcut c23 c23a HST HR
  obtain⟨b2,r2,k2⟩:=HI2.out
  have b2b:=b2
  rw[apiC_eq]at b2b
  have c23:W2.cell? ⟨gp,23,none⟩=some (.slice p2 2 c2):=by rw[b2b.cell,List.getElem?_append_right (Nat.le_of_eq (apiH_len _ _ _ _ _ _ _ _ hrl)),apiH_len _ _ _ _ _ _ _ _ hrl];rfl
  have c23a:∀o,(W2.drew.alloc o).cell? ⟨gp,23,none⟩=some (.slice p2 2 c2):=λo=>cell_bel ((Bel.drew (Bel.refl _)).ac o) c23
  have hst:∀(p8:Option Addr) (c8:Nat) (w8:World),w8.ownsRow W0.heap.size 255 3 (.slice p8 3 c8) 3 ([.int .i64 0,.int .i64 4,.int .i64 0,.int .i64 1,.int .i64 4,.int .i64 0]++[.int .i64 2,.int .i64 4,.int .i64 0])→Keep (λq=>(Value.slice p2 2 c2).ownBlock=some q) (W2.drew.alloc (.cells #[.int .i64 2,.int .i64 4,.int .i64 0] 255)) w8→_:=λp8 c8 w8 R8 K8=>fd_step (i:=2) b2b (apiH_len _ _ _ _ _ _ _ _ hrl) r2 k2 HGP.out.2 R8 K8
  have HST:=xh hst
  have HR:=xh r2
  have hgW2:gp<W2.heap.size:=Nat.lt_of_lt_of_le HGP.out.2 k2.size
  have hgn2:W2.heap.size≠gp:=Nat.ne_of_gt hgW2
  have hgm2:gp≠W2.heap.size:=Nat.ne_of_lt hgW2
  have hws2:W0.heap.size≤W2.heap.size:=k2.size
  clear b2 r2 k2 b2b hst
  go_upto_block 3 with fail
  rw[rounds_succ]
  go_upto_block 3 with fail
  go_cut []from 78 to 92 (λwx=>Hid (∃(p:Option Addr) (c:Nat),Blk wx gp (apiC 1 0 0 0 0 E regs (.slice pp pn pc) (.slice p 3 c)) 172∧wx.ownsRow W0.heap.size 255 3 (.slice p 3 c) 3 [.int .i64 0,.int .i64 4,.int .i64 0,.int .i64 1,.int .i64 4,.int .i64 0,.int .i64 2,.int .i64 4,.int .i64 0]∧Keep (λq=>q=gp) W0 wx))
  case first=>
   go_upto_region 13 with fail
   refine wp_region_noPanic ?_
   refine wp_region_held_drew (S:=λ_=>True) (by kernel_rfl) trivial (λhHeld=>?_)
   refine plan [0,2,3,5] ?_
   repeat refine tk rfl (by kernel_rfl) rfl (by intro w hw;(try dsimp only at hw);go_simp;with_reducible rfl) (by assumption) (λ_ _ _ h=>h) (by(try simp only[Act.put,lits]);exact rfl) ?_
   refine planned ?_
   refine wpAnyH_ready (rs:=[1,4]) (by kernel_rfl) (by simp) ?_
   refine AllReadyH.cons rfl (λK hK=>?ob39) ?xb39
   case ob39=>
    go_simp
    refine hK.out _ _ (by trivial) (λhH=>?_)
    clear hK K
    (try simp only[Act.put,lits])
    refine rd 4 rfl (by kernel_rfl) (λK hK=>?_)
    go_simp;go_at_call 379;((with_reducible refine Calls.mono (ckind_any cb _) ?_);rintro e wx ⟨rfl,hh⟩;subst hh)
    refine hK.out _ _ (by trivial) (λhH=>?_)
    clear hK K
    (try simp only[Act.put,lits])
    refine rd 6 rfl (by kernel_rfl) (λK hK=>?_)
    go_simp;go_at_call 380;((with_reducible refine Calls.mono (coff_any cb _) ?_);rintro e wx ⟨rfl,hh⟩;subst hh)
    refine hK.out _ _ (by trivial) (λhH=>?_)
    clear hK K
    (try simp only[Act.put,lits])
    refine plan [7] ?_
    repeat refine tk rfl (by kernel_rfl) rfl (by intro w hw;(try dsimp only at hw);go_simp;with_reducible rfl) (by assumption) (λ_ _ _ h=>h) (by(try simp only[Act.put,lits]);exact rfl) ?_
    refine planned ?_
    refine rd 8 rfl (by kernel_rfl) (λK hK=>?_)
    go_simp
    refine hK.out _ _ (by trivial) (λhH=>?_)
    clear hK K
    (try simp only[Act.put,lits])
    refine rd 9 rfl (by kernel_rfl) (λK hK=>?_)
    refine step_append_cells (base:=W0.heap.size) (n:=2) (xs:=[.int .i64 0,.int .i64 4,.int .i64 0,.int .i64 1,.int .i64 4,.int .i64 0]) (size:=3) (bytes:=24) rfl (.tmp 83) (.tmp 90) 170 rfl Tryz.underlying170 fdInfo (by omega) rfl (row_bel HR.out ((Bel.drew (Bel.refl _)).ac _)) W2.heap.size 1 1 [.int .i64 2,.int .i64 4,.int .i64 0] rfl (λj u hj=>by rw[←hj];exact(Blk.new W2.drew [.int .i64 2,.int .i64 4,.int .i64 0] 255).cell j) rfl (λv hv=>by simp only[List.mem_cons,List.not_mem_nil,or_false]at hv;rcases hv with rfl|rfl|rfl<;>rfl) (by unfold maxLen;omega) (by omega) (Nat.le_trans hws2 (by simp)) ?_;intro p8 c8 w8 R8 K8;obtain⟨h8,x8,f8⟩:=HST.out p8 c8 w8 R8 K8;have H8:=xh h8;clear h8 R8 K8
    refine hK.out _ _ (by trivial) (λhH=>?_)
    clear hK K
    (try simp only[Act.put,lits])
    refine plan [10] ?_
    repeat refine tk rfl (by kernel_rfl) rfl (by intro w hw;(try dsimp only at hw);go_simp;with_reducible rfl) (by assumption) (λ_ _ _ h=>h) (by(try simp only[Act.put,lits]);exact rfl) ?_
    refine planned ?_
    refine rd 11 rfl (by kernel_rfl) (λK hK=>?_)
    go_simp
    refine hK.out _ _ (by trivial) (λhH=>?_)
    clear hK K
    (try simp only[Act.put,lits])
    refine wpAnyH_done (by kernel_rfl) ?_ _
    refine NoPanic.normal ?_
    go_wp2_with fail
    go_meet
    exact xh ⟨_,_,by rw[apiC_eq];exact H8.out.1,H8.out.2⟩
   case xb39=>
    refine AllReadyH.cons rfl (λK hK=>?ob42) AllReadyH.nil
    case ob42=>
     go_simp;go_at_call 379;((with_reducible refine Calls.mono (ckind_any cb _) ?_);rintro e wx ⟨rfl,hh⟩;subst hh)
     refine hK.out _ _ (by trivial) (λhH=>?_)
     clear hK K
     (try simp only[Act.put,lits])
     refine wpAnyH_ready (rs:=[1,6]) (by kernel_rfl) (by simp) ?_
     refine AllReadyH.cons rfl (λK hK=>?ob43) ?xb43
     case ob43=>
      go_simp
      refine hK.out _ _ (by trivial) (λhH=>?_)
      clear hK K
      (try simp only[Act.put,lits])
      refine rd 6 rfl (by kernel_rfl) (λK hK=>?_)
      go_simp;go_at_call 380;((with_reducible refine Calls.mono (coff_any cb _) ?_);rintro e wx ⟨rfl,hh⟩;subst hh)
      refine hK.out _ _ (by trivial) (λhH=>?_)
      clear hK K
      (try simp only[Act.put,lits])
      refine plan [7] ?_
      repeat refine tk rfl (by kernel_rfl) rfl (by intro w hw;(try dsimp only at hw);go_simp;with_reducible rfl) (by assumption) (λ_ _ _ h=>h) (by(try simp only[Act.put,lits]);exact rfl) ?_
      refine planned ?_
      refine rd 8 rfl (by kernel_rfl) (λK hK=>?_)
      go_simp
      refine hK.out _ _ (by trivial) (λhH=>?_)
      clear hK K
      (try simp only[Act.put,lits])
      refine rd 9 rfl (by kernel_rfl) (λK hK=>?_)
      refine step_append_cells (base:=W0.heap.size) (n:=2) (xs:=[.int .i64 0,.int .i64 4,.int .i64 0,.int .i64 1,.int .i64 4,.int .i64 0]) (size:=3) (bytes:=24) rfl (.tmp 83) (.tmp 90) 170 rfl Tryz.underlying170 fdInfo (by omega) rfl (row_bel HR.out ((Bel.drew (Bel.refl _)).ac _)) W2.heap.size 1 1 [.int .i64 2,.int .i64 4,.int .i64 0] rfl (λj u hj=>by rw[←hj];exact(Blk.new W2.drew [.int .i64 2,.int .i64 4,.int .i64 0] 255).cell j) rfl (λv hv=>by simp only[List.mem_cons,List.not_mem_nil,or_false]at hv;rcases hv with rfl|rfl|rfl<;>rfl) (by unfold maxLen;omega) (by omega) (Nat.le_trans hws2 (by simp)) ?_;intro p8 c8 w8 R8 K8;obtain⟨h8,x8,f8⟩:=HST.out p8 c8 w8 R8 K8;have H8:=xh h8;clear h8 R8 K8
      refine hK.out _ _ (by trivial) (λhH=>?_)
      clear hK K
      (try simp only[Act.put,lits])
      refine plan [10] ?_
      repeat refine tk rfl (by kernel_rfl) rfl (by intro w hw;(try dsimp only at hw);go_simp;with_reducible rfl) (by assumption) (λ_ _ _ h=>h) (by(try simp only[Act.put,lits]);exact rfl) ?_
      refine planned ?_
      refine rd 11 rfl (by kernel_rfl) (λK hK=>?_)
      go_simp
      refine hK.out _ _ (by trivial) (λhH=>?_)
      clear hK K
      (try simp only[Act.put,lits])
      refine wpAnyH_done (by kernel_rfl) ?_ _
      refine NoPanic.normal ?_
      go_wp2_with fail
      go_meet
      exact xh ⟨_,_,by rw[apiC_eq];exact H8.out.1,H8.out.2⟩
     case xb43=>
      refine AllReadyH.cons rfl (λK hK=>?ob46) AllReadyH.nil
      case ob46=>
       go_simp;go_at_call 380;((with_reducible refine Calls.mono (coff_any cb _) ?_);rintro e wx ⟨rfl,hh⟩;subst hh)
       refine hK.out _ _ (by trivial) (λhH=>?_)
       clear hK K
       (try simp only[Act.put,lits])
       refine plan [7] ?_
       repeat refine tk rfl (by kernel_rfl) rfl (by intro w hw;(try dsimp only at hw);go_simp;with_reducible rfl) (by assumption) (λ_ _ _ h=>h) (by(try simp only[Act.put,lits]);exact rfl) ?_
       refine planned ?_
       refine wpAnyH_ready (rs:=[1,8]) (by kernel_rfl) (by simp) ?_
       refine AllReadyH.cons rfl (λK hK=>?ob48) ?xb48
       case ob48=>
             go_simp
             refine hK.out _ _ (by trivial) (λhH=>?_)
             clear hK K
             (try simp only[Act.put,lits])
             refine rd 8 rfl (by kernel_rfl) (λK hK=>?_)
             go_simp
             refine hK.out _ _ (by trivial) (λhH=>?_)
             clear hK K
             (try simp only[Act.put,lits])
             refine rd 9 rfl (by kernel_rfl) (λK hK=>?_)
             refine step_append_cells (base:=W0.heap.size) (n:=2) (xs:=[.int .i64 0,.int .i64 4,.int .i64 0,.int .i64 1,.int .i64 4,.int .i64 0]) (size:=3) (bytes:=24) rfl (.tmp 83) (.tmp 90) 170 rfl Tryz.underlying170 fdInfo (by omega) rfl (row_bel HR.out ((Bel.drew (Bel.refl _)).ac _)) W2.heap.size 1 1 [.int .i64 2,.int .i64 4,.int .i64 0] rfl (λj u hj=>by rw[←hj];exact(Blk.new W2.drew [.int .i64 2,.int .i64 4,.int .i64 0] 255).cell j) rfl (λv hv=>by simp only[List.mem_cons,List.not_mem_nil,or_false]at hv;rcases hv with rfl|rfl|rfl<;>rfl) (by unfold maxLen;omega) (by omega) (Nat.le_trans hws2 (by simp)) ?_;intro p8 c8 w8 R8 K8;obtain⟨h8,x8,f8⟩:=HST.out p8 c8 w8 R8 K8;have H8:=xh h8;clear h8 R8 K8
             refine hK.out _ _ (by trivial) (λhH=>?_)
             clear hK K
             (try simp only[Act.put,lits])
             refine plan [10] ?_
             repeat refine tk rfl (by kernel_rfl) rfl (by intro w hw;(try dsimp only at hw);go_simp;with_reducible rfl) (by assumption) (λ_ _ _ h=>h) (by(try simp only[Act.put,lits]);exact rfl) ?_
             refine planned ?_
             refine rd 11 rfl (by kernel_rfl) (λK hK=>?_)
             go_simp
             refine hK.out _ _ (by trivial) (λhH=>?_)
             clear hK K
             (try simp only[Act.put,lits])
             refine wpAnyH_done (by kernel_rfl) ?_ _
             refine NoPanic.normal ?_
             go_wp2_with fail
             go_meet
             exact xh ⟨_,_,by rw[apiC_eq];exact H8.out.1,H8.out.2⟩
       case xb48=>
             refine AllReadyH.cons rfl (λK hK=>?ob50) AllReadyH.nil
             case ob50=>
              go_simp
              refine hK.out _ _ (by trivial) (λhH=>?_)
              clear hK K
              (try simp only[Act.put,lits])
              refine rd 1 rfl (by kernel_rfl) (λK hK=>?_)
              go_simp
              refine hK.out _ _ (by trivial) (λhH=>?_)
              clear hK K
              (try simp only[Act.put,lits])
              refine rd 9 rfl (by kernel_rfl) (λK hK=>?_)
              refine step_append_cells (base:=W0.heap.size) (n:=2) (xs:=[.int .i64 0,.int .i64 4,.int .i64 0,.int .i64 1,.int .i64 4,.int .i64 0]) (size:=3) (bytes:=24) rfl (.tmp 83) (.tmp 90) 170 rfl Tryz.underlying170 fdInfo (by omega) rfl (row_bel HR.out ((Bel.drew (Bel.refl _)).ac _)) W2.heap.size 1 1 [.int .i64 2,.int .i64 4,.int .i64 0] rfl (λj u hj=>by rw[←hj];exact(Blk.new W2.drew [.int .i64 2,.int .i64 4,.int .i64 0] 255).cell j) rfl (λv hv=>by simp only[List.mem_cons,List.not_mem_nil,or_false]at hv;rcases hv with rfl|rfl|rfl<;>rfl) (by unfold maxLen;omega) (by omega) (Nat.le_trans hws2 (by simp)) ?_;intro p8 c8 w8 R8 K8;obtain⟨h8,x8,f8⟩:=HST.out p8 c8 w8 R8 K8;have H8:=xh h8;clear h8 R8 K8
              refine hK.out _ _ (by trivial) (λhH=>?_)
              clear hK K
              (try simp only[Act.put,lits])
              refine plan [10] ?_
              repeat refine tk rfl (by kernel_rfl) rfl (by intro w hw;(try dsimp only at hw);go_simp;with_reducible rfl) (by assumption) (λ_ _ _ h=>h) (by(try simp only[Act.put,lits]);exact rfl) ?_
              refine planned ?_
              refine rd 11 rfl (by kernel_rfl) (λK hK=>?_)
              go_simp
              refine hK.out _ _ (by trivial) (λhH=>?_)
              clear hK K
              (try simp only[Act.put,lits])
              refine wpAnyH_done (by kernel_rfl) ?_ _
              refine NoPanic.normal ?_
              go_wp2_with fail
              go_meet
              exact xh ⟨_,_,by rw[apiC_eq];exact H8.out.1,H8.out.2⟩
  case' rest=>
   obtain⟨W3,hW⟩:∃W,W=wc:=⟨_,rfl⟩
   subst hW
   obtain⟨p3,c3,hI⟩:=hcut.out
   have HI3:=xh hI
   clear hI hcut c23 c23a HST HR
   obtain⟨b3,r3,k3⟩:=HI3.out
   obtain⟨cs,hcs⟩:∃cs,cs=apiC 1 0 0 0 0 E regs (.slice pp pn pc) (.slice p3 3 c3):=⟨_,rfl⟩
   have HCL:Hid (cs.length=24):=xh (by rw[hcs];simp[apiC,hrl])
   have HCO:Hid (∀v∈cs,v.oneCell'=true):=xh (λv hv=>by
    rw[hcs]at hv
    simp only[apiC,List.mem_append,List.mem_cons,List.not_mem_nil,or_false]at hv
    rcases hv with(h|h)|h
    ·rcases h with rfl|rfl|rfl|rfl|rfl|rfl<;>rfl
    ·exact hr1 v h
    ·rcases h with rfl|rfl<;>rfl)
   rw[←hcs]at b3
   have HRA:Hid (W3.rangeAt gp 0 cs):=xh (by have:=b3.range 0;simpa using this)
   have hkw:Bel w W3:=((Keep.of_bel (λq=>q=gp) HKC.out).tr k3).below _ (Nat.le_refl _) (λk hk=>hk▸HGP.out.1)
   have HPW:Hid (W3.ownsRow w.heap.size 175 258 (.slice pp pn pc) (pageNums m).length (pagesCells m (pageNums m))):=xh (row_keepq HPV.out HPN.out k3)
   have HKW:=xh hkw
   have HR3:=xh r3
   have HK3:=xh k3
   have HCS:=xh hcs
   clear b3 r3 k3 hcs hkw
   go_upto_region 15 with fail
   rw[rounds_succ]
   go_upto_region 15 with fail
   rw[rounds_succ]
   go_upto_region 15 with fail
   rw[rounds_succ]
   go_upto_region 15 with fail
   rw[rounds_succ]
   go_upto_region 15 with fail
   rw[rounds_succ]
   go_upto_region 15 with fail
   rw[rounds_succ]
   go_upto_region 15 with fail
   go_wp2_with (first
    | (refine wpList_load_mid rfl 172 (.tmp 7) rfl gp 0 rfl cs _ HRA.out Tryz.underlying172 rfl (by rw[HCL.out];exact procSizeA) ?_)
    | (refine wpList_buildSlice_one rfl 166 172 (.tmp 95) rfl cs rfl Tryz.underlying166 (by rw[HCL.out];exact procInfoA) (by have:=HCL.out;omega) (by have:=HCL.out;omega) ?_;intro w9 B9 K9;have HB9:Hid (Blk w9 W3.heap.size cs 172):=B9;have HK9:Hid (Bel W3 w9):=xh K9;clear B9 K9)
    | (refine wpList_append_cells (base:=w.heap.size) (n:=0) (xs:=[]) (size:=24) (bytes:=224) rfl (.tmp 94) (.tmp 96) 166 rfl Tryz.underlying166 procInfoA (by omega) rfl (World.ownsRow_nil _ _ _ _) W3.heap.size 1 1 cs rfl (λj u hj=>by rw[←hj];exact HB9.out.cell j) (by rw[HCL.out]) HCO.out (by unfold maxLen;omega) (by omega) (Nat.le_trans HKW.out.le HK9.out.le) ?_;intro p10 c10 w10 R10 K10;have HR10:=xh R10;have HK10:Hid (Bel w9 w10):=xh (K10.below _ (Nat.le_refl _) (λk hk=>absurd (show(none:Option Nat)=some k from hk) (λh=>by cases h)));clear R10 K10))
   rw[rounds_succ]
   go_wp2_with fail
   go_ret
   refine⟨_,rfl,HKW.out.tr (HK9.out.tr HK10.out),.slice pp pn pc,.slice p3 3 c3,?_,row_bel (row_bel HPW.out HK9.out) HK10.out,(row_bel (row_bel HR3.out HK9.out) HK10.out).mono HKC.out.le⟩
   have h:=HR10.out
   rw[HCS.out]at h
   exact h
end Go.Proofs.YtjdaddmjpicflaaGreatDoor
