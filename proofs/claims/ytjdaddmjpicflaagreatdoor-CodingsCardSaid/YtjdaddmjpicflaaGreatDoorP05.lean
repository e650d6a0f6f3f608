/- Rows of the call's own: read, kept, appended to. No program. -/
import Derived.Laws.AppendOwn
import Derived.Deep.Onto
import Derived.Test.YtjdaddmjpicflaaGreatDoorP04
import Derived.Test.YtjdaddmjpicflaaGreatDoorP01
import Derived.ArgAppend
import Derived.Lib.Hide
import Derived.Test.YtjdaddmjpicflaaGreatDoorP03
import Derived.Test.YtjdaddmjpicflaaGreatDoorP02
import Derived.ChangeKeysEq
import Derived.Laws.StructEq
import Derived.Test.YtjdaddmjpicflaaGreatDoorP00
import Derived.Deep.MidRow
import Derived.Deep.DeepCutAuto
set_option linter.unusedVariables false
set_option linter.unusedSimpArgs false
set_option maxRecDepth 100000
set_option maxHeartbeats 16000000
namespace Go.Proofs.YtjdaddmjpicflaaGreatDoor
open Go.RowKit
variable {w w':World} {base:Nat} {e:TypeId} {size:Nat} {v:Value} {n:Nat} {xs:List Value}
theorem row_bel (h:w.ownsRow base e size v n xs) (hb:Bel w w'):w'.ownsRow base e size v n xs:=by
 refine⟨h.1,?_⟩
 rcases h.2 with h|⟨g,cap,cur,h1,h2,h3,h4⟩
 ·exact .inl h
 ·exact .inr ⟨g,cap,cur,h1,h2,(hb.block g (Array.getElem?_eq_some_iff.1 h3).1).trans h3,h4⟩
theorem row_keep {S:Nat→Prop} (h:w.ownsRow base e size v n xs) (hb:Keep S w w') (hs:∀g,base≤g→¬S g):w'.ownsRow base e size v n xs:=by
 refine⟨h.1,?_⟩
 rcases h.2 with h|⟨g,cap,cur,h1,h2,h3,h4⟩
 ·exact .inl h
 ·exact .inr ⟨g,cap,cur,h1,h2,(hb.block g (Array.getElem?_eq_some_iff.1 h3).1 (hs g h2)).trans h3,h4⟩
theorem row_slice (h:w.ownsRow base e size v n xs):∃p cap,v=.slice p n cap∧n≤cap∧cap≤maxLen∧(n=0∧p=none∧cap=0∨∃g,p=some ⟨g,0,none⟩∧base≤g∧g<w.heap.size∧(∀j,j<xs.length→w.cell? ⟨g,j,none⟩=xs[j]?)∧(∀j,w.frozen? ⟨g,j,none⟩=false)):=by
 rcases h.2 with⟨rfl,rfl⟩|⟨g,cap,cur,rfl,hg,hb,hn,hc,_,ht⟩
 ·exact⟨none,0,rfl,Nat.le_refl _,Nat.zero_le _,.inl ⟨rfl,rfl,rfl⟩⟩
 ·refine⟨_,cap,rfl,hn,hc,.inr ⟨g,rfl,hg,(Array.getElem?_eq_some_iff.1 hb).1,λj hj=>?_,λj=>?_⟩⟩
  ·have hj':j<n*size:=by
    rw[←ht,List.length_take]at hj
    exact(Nat.lt_min.1 hj).1
   simp only[World.cell?,hb]
   rw[←ht,List.getElem?_take,if_pos hj']
   simp
  ·simp only[World.frozen?,hb]
   simp
theorem grown_keep (hg:w.grownBy w' v.ownBlock) (h:w.ownsRow base e size v n xs):Keep (λi=>base≤i) w w':=
 ⟨hg.os,hg.tape,hg.output,hg.size,λk hk hn=>hg.block k hk λe=>hn (by
   rcases h.2 with⟨rfl,_⟩|⟨g,cap,cur,rfl,h2,_⟩
   ·cases e
   ·cases e;exact h2)⟩
theorem wpList_append_one {P:Program} {ops:Array Oper} {rest:List Oper} {o:Oper} {a:Act} {Q:Exit→Act→World→Prop} (hgd:o.guard=none) (s x:Operand) (t:TypeId)
 (ho:o.op=.call {callee:=.builtin .append,args:= #[s,x],argTypes:= #[t,t]}) {bytes:Nat} (ht:P.underlying t=some (.slice e))
 (hi:(P.info? e).map (λi=>(i.size,i.bytes,(i.zero.map (·.cells.size))))=some (size,bytes,some size)) (hsz:0<size)
 (hs:a.eval s=v) (hown:w.ownsRow base e size v n xs) (g:Nat) (cs:List Value) (t':TypeId) (hx:a.eval x=.slice (some ⟨g,0,none⟩) 1 1) (hB:w.heap[g]?=some (.cells cs.toArray t' (0,0))) (hl:cs.length=size) (h1:∀u∈cs,u.oneCell'=true)
 (h63:n+1≤maxLen) (hbytes:(n+1)*bytes≤140737488355328) (hbase:base≤w.heap.size)
 (h:∀v' w',w'.ownsRow base e size v' (n+1) (xs++cs)→Keep (λi=>base≤i) w w'→wpList P ops Q rest (a.put o.dst v') w'):wpList P ops Q (o::rest) a w:=by
 obtain⟨i,z,hi,hz,e1,e2,e3⟩:=info_of hi
 refine wpList_append_own w hgd s x t ho base e i z size bytes ht hi hz e1 e2 e3 hsz v n xs hs hown ⟨g,0,none⟩ 1 1 cs hx (by omega) (λj u hj=>?_) h1 h63 hbytes hbase λv' w' k1 k2 _=>h v' w' k1 (grown_keep k2 hown)
 rw[show(⟨g,0,none⟩:Addr).add j=⟨g,j,none⟩from by unfold Addr.add;split<;>simp_all]
 simp only[World.cell?,hB]
 simpa using hj
end Go.Proofs.YtjdaddmjpicflaaGreatDoor
namespace Go.Proofs.YtjdaddmjpicflaaGreatDoor
open Go.RowKit
section
variable {P:Program} {w:World}
theorem zeroCells_one (z:Value) (n:Nat):Builtin.zeroCells #[z] n=(List.replicate n z).toArray:=by
 apply Array.ext'
 simp[Builtin.zeroCells]
 apply List.ext_getElem?
 intro i
 simp[List.getElem?_replicate,List.getElem?_map,List.getElem?_range]
 by_cases h:i<n
 ·simp[h,Nat.mod_one]
 ·simp[h]
theorem run_append_zeros (t u ty e:TypeId) (i:TypeInfo) (z:Value) (ht:P.underlying t=some (.slice e)) (hu:P.underlying u=some (.int .i64)) (hi:P.info? e=some i) (hz:i.zero=some z) (hzc:z.cells = #[z]) (hs:i.size=1) (hb:i.bytes=1)
 (ao:Option Addr) (sLen sCap:Nat) (olds:List Value) (hnone:ao=none→sLen=0) (hlo:olds.length=sLen) (holds:∀b,ao=some b→∀j v,olds[j]?=some v→w.cell? (b.add j)=some v)
 (n:Nat) (h0:0<n) (hg:sCap<sLen+n) (hbig:sLen+n≤1000000000) :
 (Builtin.append_ #[t,u] ty #[.slice ao sLen sCap,.int .i64 n]).run P w =
  .ok (.slice (some ⟨w.heap.size,0,none⟩) (sLen+n) (grownCap w (sLen+n) sCap e))
   (w.drew.alloc (.cells (olds++List.replicate (n+(grownCap w (sLen+n) sCap e-(sLen+n))) z).toArray e)):=by
 have hn:¬(sLen+n≤sCap):=by omega
 have hfit:=growslice_fits (need:=sLen+n) (old:=sCap) (bytes:=1) hg (by omega)
 have h48':¬(281474976710656<Builtin.nextslicecap (sLen+n) sCap):=by omega
 have h63':¬(9223372036854775807<((sLen:Int)+(n:Int))):=by omega
 have hw:IntKind.i64.wrap (n:Int)=n:=by rw[IntKind.wrap_i64];omega
 have hl0:¬((n:Int)<0):=by omega
 have hl1:¬(281474976710656<(n:Int)):=by omega
 have hn0:¬n=0:=by omega
 have hfo:(Builtin.firstCells 1 sLen (.slice ao sLen sCap)).run P w.drew=.ok olds.toArray w.drew:=by
  cases ao with
  | none=>
    have:=hnone rfl
    subst this
    obtain rfl:olds=[]:=List.eq_nil_of_length_eq_zero hlo
    exact run_firstCells_none (P:=P) w.drew 1 0 0 sCap
  | some b=>exact run_firstCells_some (P:=P) w.drew 1 sLen b sLen sCap olds (by omega) (by simpa using holds b rfl)
 simp[Builtin.append_,run_underlying ht,run_underlying hu,sizeOf,typeInfo,zeroValue,hi,hz,hs,hb,asInt,asIntOf,hw,hl0,hl1,hn,hn0,h63',h48',Question.forced,hfo,newRow,grownCap,hzc,zeroCells_one]
 congr 2
 apply Array.ext'
 simp
theorem step_append_zeros {ops:Array Oper} {o:Oper} {a:Act} {K:Act→World→Prop} {Q:Exit→Act→World→Prop} {E:Prop} (hgd:o.guard=none) (s x:Operand) (t u e:TypeId)
 (ho:o.op=.call {callee:=.builtin .append,args:= #[s,x],argTypes:= #[t,u]}) (i:TypeInfo) (z:Value) (ht:P.underlying t=some (.slice e)) (hu:P.underlying u=some (.int .i64)) (hi:P.info? e=some i) (hz:i.zero=some z) (hzc:z.cells = #[z]) (hs:i.size=1) (hb:i.bytes=1)
 (ao:Option Addr) (sLen sCap:Nat) (olds:List Value) (hsv:a.eval s=.slice ao sLen sCap) (hnone:ao=none→sLen=0) (hlo:olds.length=sLen) (holds:∀b,ao=some b→∀j v,olds[j]?=some v→w.cell? (b.add j)=some v)
 (n:Nat) (hxv:a.eval x=.int .i64 n) (h0:0<n) (hg:sCap<sLen+n) (hbig:sLen+n≤1000000000)
 (h:∀w' cap k,Hid (Blk w' w.heap.size (olds++List.replicate (n+k) z) e)→Bel w w'→sLen+n≤cap→cap≤maxLen→cap=sLen+n+k→K (a.put o.dst (.slice (some ⟨w.heap.size,0,none⟩) (sLen+n) cap)) w'):if Region.wanted o (yielded ops a.tmps)=true then Oper.wp P o a w K Q else E:=by
 have hw:Region.wanted o (yielded ops a.tmps)=true:=by simp[Region.wanted,hgd]
 rw[if_pos hw]
 have hrun:=run_append_zeros (P:=P) (w:=w) t u o.type e i z ht hu hi hz hzc hs hb ao sLen sCap olds hnone hlo holds n h0 hg hbig
 have hge:=grownCap_ge w (sLen+n) sCap e
 unfold Oper.wp
 simp[execOp,ho,resolve,invoke,builtin,hsv,hxv,hrun,Result.andThen]
 exact h _ _ _ (xh (Blk.new w.drew _ _)) ((Bel.drew (Bel.refl w)).tr (Bel.start _ _)) hge (grownCap_le_maxLen w _ _ _ (by unfold maxLen;omega)) (by omega)
end
end Go.Proofs.YtjdaddmjpicflaaGreatDoor
namespace Go.Proofs.YtjdaddmjpicflaaGreatDoor
open Go.RowKit Go.Maps
def apiCells (n:Nat) (p:Pg):List Value:=.int .i64 n:: .int .u8 p.perm::p.bytes.map (Value.int .u8)
def pagesCells (m:Pages) (ns:List Nat):List Value:=ns.flatMap λn=>apiCells n ((m n).getD Pg.zero)
theorem pageInfo:(Tryz.prog.info? 175).map (λi=>(i.size,i.bytes,(i.zero.map (·.cells.size))))=some (258,272,some 258):=by kernel_rfl
theorem built_page (n:Int) (p:Pg) (hp:p.bytes.length=256) :
 Tryz.prog.built 175 [(0,.int .i64 n),(1,.int .u8 p.perm),(2,.agg (p.bytes.map (Value.int .u8)).toArray)]=some (Value.int .i64 n:: .int .u8 p.perm::p.bytes.map (Value.int .u8)).toArray:=by
 refine built_struct (places:=[(0,1),(1,1),(2,256)]) pageInfo Tryz.underlying175 (by kernel_rfl) _ _ λz hz=>?_
 obtain⟨z0,z',rfl,h0,hz'⟩:=split_at z 1 257 hz
 obtain⟨z1,z2,rfl,h1,h2⟩:=split_at z' 1 256 hz'
 rw[show z0++(z1++z2)=[]++(z0++(z1++z2))from rfl,fill_next _ _ _ _ _ _ _ rfl h0]
 rw[show[]++((Value.int .i64 n).cells.toList++(z1++z2))=[Value.int .i64 n]++(z1++z2)from rfl,fill_next _ _ _ _ _ _ _ rfl h1]
 rw[show[Value.int .i64 n]++((Value.int .u8 p.perm).cells.toList++z2)=[Value.int .i64 n,.int .u8 p.perm]++(z2++[])from by simp[Value.cells],fill_next _ _ _ _ _ _ _ (by simp[Value.cells,hp]) (by simp[Value.cells,hp,h2])]
 simp[Instr.fill,Value.cells]
theorem field_bytes (p:Pg) (hp:p.bytes.length=256) (w:World):(Instr.field 202 p.v 1).run Tryz.prog w=.ok (.agg (p.bytes.map (Value.int .u8)).toArray) w:=by
 have e1:(isAgg 146).run Tryz.prog w=.ok true w:=by kernel_rfl
 have e2:(sizeOf 146).run Tryz.prog w=.ok 256 w:=by kernel_rfl
 simp only[Instr.field,Pg.v,Pg.cells,Sem.run_bind,run_underlying Tryz.underlying202,Result.andThen_ok,asAgg]
 simp[part,e1,e2,hp]
 exact List.take_of_length_le (by simp[hp])
theorem apiCells_length (n:Nat) (p:Pg) (hp:p.bytes.length=256):(apiCells n p).length=258:=by simp[apiCells,hp]
theorem apiCells_one (n:Nat) (p:Pg):∀v∈apiCells n p,v.oneCell'=true:=by
 intro v hv
 simp only[apiCells,List.mem_cons,List.mem_map]at hv
 rcases hv with rfl|rfl|⟨x,_,rfl⟩<;>rfl
theorem pages_any (b:Nat) (m:Pages) (w:World) (hs:Sp w b m) (hm:PagesOk m) :
 Calls Tryz.prog 145 #[.map (some b)] w λe w'=>∃v,e=.returned v∧
  w'.ownsRow w.heap.size 175 258 v (pageNums m).length (pagesCells m (pageNums m))∧Bel w w':=by
 have hn1:=pageNums_length m
 obtain⟨ns,hns⟩:∃ns,ns=pageNums m:=⟨_,rfl⟩
 rw[←hns]at hn1⊢
 have hin:∀k,(h:k<ns.length)→∃p,m ns[k]=some p∧p.wf:=by
  intro k h
  have:ns[k]∈pageNums m:=by rw[←hns];exact List.getElem_mem h
  obtain⟨p,hp⟩:=Option.isSome_iff_exists.1 (List.mem_filter.1 this).2
  exact⟨p,hp,hm.wf _ p hp⟩
 have HN:=xh hns
 have HIN:=xh hin
 clear hns hin
 go_enter Tryz.func145,Tryz.ntmps145
 go_wp2_with (first
  | (go_at_call 176;refine(keys_any (some b) _).mono ?_;rintro e w1 ⟨rfl,rfl⟩)
  | (go_at_call 143;refine(sorted_any w.heap.size b m _ hm.below (hs.alloc _) (by simp) (by simp)).mono ?_;rintro e w2 ⟨v,rfl,hrow0,k2⟩
     rw[←HN.out]at hrow0
     obtain⟨ps,cap,rfl,hcap,_,hps⟩:=row_slice hrow0
     have K2:Bel w w2:=(Below.heap_alloc' w _).trans (k2.mono (by simp))
     have HPS:=xh hps
     clear hps hrow0 k2))
 go_loopw [3,10] (λl i wr=>∃(k:Nat),k≤ns.length∧i=.int .i64 k∧wr.ownsRow w2.heap.size 175 258 l k (pagesCells m (ns.take k))∧Below w2.heap.size w2 wr) (λ_ i _=>ns.length-(intOf i).toNat)
 case atStart=>exact⟨0,Nat.zero_le _,rfl,⟨rfl,.inl ⟨rfl,rfl⟩⟩,Below.refl _ _⟩
 case round=>
  obtain⟨k,hk,rfl,hrow,kr⟩:=hrel
  by_cases hlt:k<ns.length
  ·obtain⟨gs,rfl,hb0,hb1,hcells,_⟩:=HPS.out.resolve_left (by omega)
   obtain⟨p,hp,hpw⟩:=HIN.out k hlt
   have hc:wr.cell? ⟨gs,k,none⟩=some (.int .i64 (ns[k]:Nat)):=by
    rw[World.cell?_of_block (a:=⟨gs,k,none⟩) (kr.block gs hb1),hcells k (by simpa using hlt)]
    simp[hlt]
   have hsr:Sp wr b m:=(hs.bel K2).bel kr
   have hl:=hsr.lookup ns[k] (by
    have h1:ns[k]∈pageNums m:=by rw[←HN.out];exact List.getElem_mem hlt
    have:=List.mem_range.1 (List.mem_filter.1 h1).1
    omega)
   have hx:pagesCells m (ns.take (k+1))=pagesCells m (ns.take k)++apiCells ns[k] p:=by
    rw[List.take_succ_eq_append_getElem hlt,pagesCells,List.flatMap_append,List.flatMap_singleton,hp]
    rfl
   rw[hp,Option.getD_some]at hl
   have f1:=field_perm p
   have f2:=field_bytes p hpw.len
   have HX:=xh hx
   have HCL:=xh (apiCells_length ns[k] p hpw.len)
   have HB:=xh (built_page (ns[k]:Nat) p hpw.len)
   have HPS':=xh hcells
   have HROW:=xh hrow
   have HP:=xh hp
   clear hx hcells hrow hp HPS
   generalize hnk:ns[k]=nk at *
   have HNK:=xh hnk
   clear hnk
   have hbase:=kr.size
   go_wp2_with (first
    | (refine wpList_buildTo rfl 175 _ rfl (some 24) rfl (apiCells nk p).toArray (by simp only[List.map_toArray,List.map_cons,List.map_nil];exact HB.out) ?_)
    | (refine wpList_buildSlice_one rfl 169 175 (.tmp 24) rfl (apiCells nk p) rfl Tryz.underlying169 (by rw[HCL.out];exact pageInfo) (by rw[HCL.out];omega) (by rw[HCL.out];decide) ?_;intro w3 B3 K3)
    | (refine wpList_append_one rfl (.tmp 14) (.tmp 25) 169 rfl Tryz.underlying169 pageInfo (by omega) rfl (row_bel HROW.out K3) wr.heap.size (apiCells nk p) 175 rfl B3.out HCL.out (apiCells_one nk p) (by unfold maxLen;omega) (by omega) (Nat.le_trans hbase K3.size) ?_;intro v5 w5 R5 K5))
   exact⟨⟨k+1,by omega,by go_num,by rw[HX.out];exact R5,(kr.trans (K3.mono hbase)).trans (K5.below _ (Nat.le_trans hbase K3.size) λi hi=>hi)⟩,by simp only[intOf];omega⟩
  ·obtain rfl:k=ns.length:=by omega
   rw[List.take_length]at hrow
   have HROW:=xh hrow
   clear hrow
   go_wp2
   go_ret
   exact⟨_,rfl,HROW.out.mono K2.size,K2.tr kr⟩
theorem pages_none (w:World) :
 Calls Tryz.prog 145 #[.map none] w λe w'=>e=.returned (.slice none 0 0)∧Bel w w':=by
 go_enter Tryz.func145,Tryz.ntmps145
 go_wp2_with (first
  | (go_at_call 176;refine(keys_any none _).mono ?_;rintro e w1 ⟨rfl,rfl⟩)
  | (go_at_call 143;refine(sorted_none w.heap.size _ (by simp) (by simp)).mono ?_;rintro e w2 ⟨rfl,k2⟩))
 refine wp_loop_rounds 1 ?_
 rw[rounds_succ]
 go_wp2
 go_ret
 exact⟨rfl,(Below.heap_alloc' w _).trans (k2.mono (by simp))⟩
end Go.Proofs.YtjdaddmjpicflaaGreatDoor
namespace Go.Proofs.YtjdaddmjpicflaaGreatDoor
section
variable {P:Program} {t e:TypeId} {k:IntKind} {n:Nat}
theorem plainKey_int (he:P.underlying e=some (.int k)):P.plainKey e=true:=by simp[Program.plainKey,he]
theorem eqItems_ints (he:P.underlying e=some (.int k)) (d:Nat) (xs ys:List Int) (w:World):∀is:List Nat,(∀i∈is,i<xs.length∧i<ys.length)→
 (Op.eqItems (d+1) e 1 (xs.map (Value.int k)).toArray (ys.map (Value.int k)).toArray is).run P w=.ok (is.all λi=>xs[i]?==ys[i]?) w
 | [],_=>by simp[Op.eqItems]
 | i::is,h=>by
   obtain⟨h1,h2⟩:=h i (by simp)
   have ih:=eqItems_ints he d xs ys w is (λj hj=>h j (by simp[hj]))
   have p1:=run_part_plain w (plainKey_int he) (xs:=(xs.map (Value.int k)).toArray) (off:=i) (v:=.int k xs[i]) (by simp[h1])
   have p2:=run_part_plain w (plainKey_int he) (xs:=(ys.map (Value.int k)).toArray) (off:=i) (v:=.int k ys[i]) (by simp[h2])
   simp only[Op.eqItems,Nat.mul_one,Sem.run_bind,p1,p2,Result.andThen_ok,run_equalIn_int w d e k k xs[i] ys[i] he]
   by_cases hx:xs[i]=ys[i]
   ·simp[hx,ih,List.getElem?_eq_getElem h1,List.getElem?_eq_getElem h2]
   ·have hb:(xs[i]==ys[i])=false:=by simpa using hx
    simp[hb,List.getElem?_eq_getElem h1,List.getElem?_eq_getElem h2]
theorem all_range_iff (xs ys:List Int) (hx:xs.length=n) (hy:ys.length=n):((List.range n).all λi=>xs[i]?==ys[i]?)=decide (xs=ys):=by
 rw[Bool.eq_iff_iff]
 simp only[List.all_eq_true,List.mem_range,beq_iff_eq,decide_eq_true_eq]
 constructor
 ·intro h
  apply List.ext_getElem?
  intro i
  by_cases hi:i<n
  ·exact h i hi
  ·rw[List.getElem?_eq_none (by omega),List.getElem?_eq_none (by omega)]
 ·rintro rfl i _
  rfl
theorem run_equal_arr {i:TypeInfo} (ht:P.underlying t=some (.array n e)) (he:P.underlying e=some (.int k)) (hi:P.info? e=some i) (hc:P.cellsOf e=1) (xs ys:List Int) (hx:xs.length=n) (hy:ys.length=n) (d:Nat) (w:World) :
 (Op.equalIn (d+2) t (.agg (xs.map (Value.int k)).toArray) (.agg (ys.map (Value.int k)).toArray)).run P w=.ok (decide (xs=ys)) w:=by
 rw[run_equalIn_array w (d+1) _ _ ht hi,hc,eqItems_ints he d xs ys w _ (λi hi=>by simp at hi;omega),all_range_iff xs ys hx hy]
theorem run_neq_arr {i:TypeInfo} (ht:P.underlying t=some (.array n e)) (he:P.underlying e=some (.int k)) (hi:P.info? e=some i) (hc:P.cellsOf e=1) (xs ys:List Int) (hx:xs.length=n) (hy:ys.length=n) (w:World) :
 (binOp .neq t (.agg (xs.map (Value.int k)).toArray) (.agg (ys.map (Value.int k)).toArray)).run P w=.ok (.bool (!decide (xs=ys))) w:=by
 rw[run_neq_struct w,run_equal_arr ht he hi hc xs ys hx hy 9998 w];rfl
end
end Go.Proofs.YtjdaddmjpicflaaGreatDoor
namespace Go.Proofs.YtjdaddmjpicflaaGreatDoor
open Go.RowKit Go.Maps
def refCells (n:Nat) (p:Pg):List Value:=.int .i64 n:: .int .i64 p.perm::p.bytes.map (Value.int .u8)
theorem flat_at {α β:Type} (f:α→List β) (s:Nat):∀(L:List α),(∀x∈L,(f x).length=s)→∀k j,j<s→(L.flatMap f)[k*s+j]?=L[k]?.bind (λx=>(f x)[j]?)
 | [],_,k,j,_=>by simp
 | x::L,h,k,j,hj=>by
   have hx:=h x List.mem_cons_self
   cases k with
   | zero=>
     rw[List.flatMap_cons,Nat.zero_mul,Nat.zero_add,List.getElem?_append_left (by omega)]
     rfl
   | succ k=>
     rw[List.flatMap_cons,List.getElem?_append_right (by rw[hx,Nat.succ_mul];omega),hx,show(k+1)*s+j-s=k*s+j from by rw[Nat.succ_mul];omega,flat_at f s L (λy hy=>h y (List.mem_cons_of_mem _ hy)) k j hj]
     rfl
theorem flat_length {α β:Type} (f:α→List β) (s:Nat):∀(L:List α),(∀x∈L,(f x).length=s)→(L.flatMap f).length=L.length*s
 | [],_=>by simp
 | x::L,h=>by
   rw[List.flatMap_cons,List.length_append,h x List.mem_cons_self,flat_length f s L λy hy=>h y (List.mem_cons_of_mem _ hy),List.length_cons,Nat.succ_mul]
   omega
theorem quiet_load_mid {P:Program} {C:World→Prop} {a:Act} {o:Oper} {K:Act→Prop} (ty:TypeId) (x:Operand) (ho:o.op=.load ty x) (b off:Nat) (hx:a.eval x=.pointer (some ⟨b,off,none⟩)) (cs:List Value) (d:TypeDesc) (hc:∀w,C w→w.rangeAt b off cs)
 (hu:P.underlying ty=some d) (hd:d.isRow=true) (hi:(P.info? ty).map (·.size)=some cs.length) (hk:K (a.put o.dst (.agg cs.toArray))):o.quiet P a C K:=
 ⟨_,λw hw=>by
   unfold Oper.quietAt
   simp only[execOp,ho,hx,run_loadAt_mid w b off ty cs d (hc w hw) hu hd hi,Sem.run_bind,Result.andThen_ok,Sem.run_pure]
   exact⟨rfl,rfl⟩,hk⟩
theorem quiet_neq_arr {P:Program} {C:World→Prop} {a:Act} {o:Oper} {K:Act→Prop} (ty rt:TypeId) (x y:Operand) (ho:o.op=.binOp .neq ty x y rt) (xs ys:Array Value) (r:Bool) (hx:a.eval x=.agg xs) (hy:a.eval y=.agg ys) (hm:P.eqGuardType P.depth ty=false) (hr:∀w,(binOp .neq ty (.agg xs) (.agg ys)).run P w=.ok (.bool r) w) (hk:K (a.put o.dst (.bool r))):o.quiet P a C K:=
 ⟨_,λw _=>by
   unfold Oper.quietAt
   simp only[execOp,ho,hx,hy,run_eqGuard_agg w .neq ty x y xs ys hm,hr w,Sem.run_bind,Result.andThen_ok,Sem.run_pure]
   exact⟨rfl,rfl⟩,hk⟩
def Rd (w:World) (v:Value) (n:Nat) (xs:List Value):Prop:=
 ∃p cap,v=.slice p n cap∧(0<n→∃g,p=some ⟨g,0,none⟩∧g<w.heap.size∧∀j,j<xs.length→w.cell? ⟨g,j,none⟩=xs[j]?)
theorem Rd.of_row {w:World} {base:Nat} {e:TypeId} {size:Nat} {v:Value} {n:Nat} {xs:List Value} (h:w.ownsRow base e size v n xs):Rd w v n xs:=by
 obtain⟨p,cap,rfl,_,_,h|⟨g,rfl,_,h2,h3,_⟩⟩:=row_slice h
 ·exact⟨p,cap,rfl,λh0=>by omega⟩
 ·exact⟨_,cap,rfl,λ_=>⟨g,rfl,h2,h3⟩⟩
theorem Rd.bel {w w':World} {v:Value} {n:Nat} {xs:List Value} (h:Rd w v n xs) (hb:Bel w w'):Rd w' v n xs:=by
 obtain⟨p,cap,rfl,h⟩:=h
 refine⟨p,cap,rfl,λh0=>?_⟩
 obtain⟨g,rfl,h2,h3⟩:=h h0
 exact⟨g,rfl,Nat.lt_of_lt_of_le h2 hb.size,λj hj=>(World.cell?_of_block (a:=⟨g,j,none⟩) (hb.block g h2)).trans (h3 j hj)⟩
theorem same_any (va vb:Value) (L:List (Nat×Pg)) (w:World) (hl:L.length≤256) (hwf:∀q∈L,q.2.wf) (ha:Rd w va L.length (L.flatMap λq=>apiCells q.1 q.2)) (hb:Rd w vb L.length (L.flatMap λq=>refCells q.1 q.2)) :
 Calls Tryz.prog 107 #[va,vb] w λe w'=>e=.returned (.bool true)∧∃n,w'=w.drewN n:=by
 obtain⟨pa,capa,rfl,ha⟩:=ha
 obtain⟨pb,capb,rfl,hb⟩:=hb
 have HA:=xh ha
 have HB:=xh hb
 have HW:=xh hwf
 clear ha hb hwf
 go_enter Tryz.func107,Tryz.ntmps107
 go_wp2
 go_loopw [5] (λi wr=>∃k nn:Nat,k≤L.length∧i=.int .i64 k∧wr=w.drewN nn) (λi _=>L.length-(intOf i).toNat)
 case atStart=>exact⟨0,0,Nat.zero_le _,rfl,rfl⟩
 case round=>
  obtain⟨k,nn,hk,rfl,rfl⟩:=hrel
  by_cases hlt:k<L.length
  ·obtain⟨ga,rfl,hga,hca⟩:=HA.out (by omega)
   obtain⟨gb,rfl,hgb,hcb⟩:=HB.out (by omega)
   have hq:=HW.out L[k] (List.getElem_mem hlt)
   have la:∀q∈L,(apiCells q.1 q.2).length=258:=λq hq=>apiCells_length _ _ (HW.out q hq).len
   have lb:∀q∈L,(refCells q.1 q.2).length=258:=λq hq=>by simp[refCells,(HW.out q hq).len]
   have ca:∀j,j<258→w.cell? ⟨ga,k*258+j,none⟩=(apiCells L[k].1 L[k].2)[j]?:=λj hj=>by
    rw[hca _ (by rw[flat_length _ 258 L la];omega),flat_at _ 258 L la k j hj,List.getElem?_eq_getElem hlt];rfl
   have cb:∀j,j<258→w.cell? ⟨gb,k*258+j,none⟩=(refCells L[k].1 L[k].2)[j]?:=λj hj=>by
    rw[hcb _ (by rw[flat_length _ 258 L lb];omega),flat_at _ 258 L lb k j hj,List.getElem?_eq_getElem hlt];rfl
   obtain⟨n,p,hnp⟩:∃n p,L[k]=(n,p):=⟨_,_,rfl⟩
   rw[hnp]at ca cb hq
   have a0:w.cell? ⟨ga,k*258,none⟩=some (.int .i64 n):=ca 0 (by omega)
   have a1:w.cell? ⟨ga,k*258+1,none⟩=some (.int .u8 p.perm):=ca 1 (by omega)
   have b0:w.cell? ⟨gb,k*258,none⟩=some (.int .i64 n):=cb 0 (by omega)
   have b1:w.cell? ⟨gb,k*258+1,none⟩=some (.int .i64 p.perm):=cb 1 (by omega)
   have a2:w.rangeAt ga (k*258+2) (p.bytes.map (Value.int .u8)):=λj v hv=>by
    have hj:j<256:=by have:=(List.getElem?_eq_some_iff.1 hv).1;simpa [hq.len]using this
    rw[Nat.add_assoc,ca (2+j) (by omega),←hv,Nat.add_comm 2 j];rfl
   have b2:w.rangeAt gb (k*258+2) (p.bytes.map (Value.int .u8)):=λj v hv=>by
    have hj:j<256:=by have:=(List.getElem?_eq_some_iff.1 hv).1;simpa [hq.len]using this
    rw[Nat.add_assoc,cb (2+j) (by omega),←hv,Nat.add_comm 2 j];rfl
   have A2:Hid (∀w',(∃n,w'=(w.drewN nn).drewN n)→w'.rangeAt ga (k*258+2) (p.bytes.map (Value.int .u8))):=xh (by rintro w' ⟨n,rfl⟩;exact a2)
   have B2:Hid (∀w',(∃n,w'=(w.drewN nn).drewN n)→w'.rangeAt gb (k*258+2) (p.bytes.map (Value.int .u8))):=xh (by rintro w' ⟨n,rfl⟩;exact b2)
   have HL:Hid ((Tryz.prog.info? 146).map (·.size)=some (p.bytes.map (Value.int .u8)).length):=xh (by rw[List.length_map,hq.len];kernel_rfl)
   have hp0:=hq.perm.1
   have hp1:=hq.perm.2
   obtain⟨ie,hie⟩:=Option.isSome_iff_exists.1 (show(Tryz.prog.info? 5).isSome=true by kernel_rfl)
   have hne:∀w,(binOp .neq 146 (.agg (p.bytes.map (Value.int .u8)).toArray) (.agg (p.bytes.map (Value.int .u8)).toArray)).run Tryz.prog w=.ok (.bool false) w:=λw=>by
    rw[run_neq_arr Tryz.underlying146 Tryz.underlying5 hie (by kernel_rfl) p.bytes p.bytes hq.len hq.len w];simp
   have HNE:=xh hne
   clear ca cb a2 b2 hca hcb la lb HA HB hie hne
   go_wp2
   refine wp_region_quiet_lit (by kernel_rfl) (by kernel_rfl) ?_
   repeat (first
    | go_big_quiet_skip
    | (go_big_quiet_want;first
        | (refine quiet_load_mid 146 (.tmp 46) rfl ga (k*258+2) rfl _ _ A2.out Tryz.underlying146 rfl HL.out ?_;simp only[Act.put,List.setIfInBounds_toArray,List.set_cons_succ,List.set_cons_zero];go_big_quiet_on)
        | (refine quiet_load_mid 146 (.tmp 51) rfl gb (k*258+2) rfl _ _ B2.out Tryz.underlying146 rfl HL.out ?_;simp only[Act.put,List.setIfInBounds_toArray,List.set_cons_succ,List.set_cons_zero];go_big_quiet_on)
        | (refine quiet_neq_arr 146 _ (.tmp 47) (.tmp 52) rfl _ _ false rfl rfl (by kernel_rfl) HNE.out ?_;simp only[Act.put,List.setIfInBounds_toArray,List.set_cons_succ,List.set_cons_zero];go_big_quiet_on)
        | (go_big_quiet_op;go_big_quiet_on)))
   refine wpQuiet_nil ?_
   rintro _ ⟨nq,rfl⟩
   go_wp2
   go_roundw
   case rel=>exact⟨k+1,nn+nq,by omega,by go_num,by simp[World.drewN_drewN]⟩
   case measure=>simp[intOf]<;>omega
  ·obtain rfl:k=L.length:=by omega
   go_wp2
   go_ret
   exact⟨rfl,nn,rfl⟩
end Go.Proofs.YtjdaddmjpicflaaGreatDoor
namespace Go.Proofs.YtjdaddmjpicflaaGreatDoor
open Go.RowKit
theorem step_append_cells {P:Program} {w:World} {base:Nat} {e:TypeId} {size:Nat} {v:Value} {n:Nat} {xs:List Value} {ops:Array Oper} {o:Oper} {a:Act} {K:Act→World→Prop} {Q:Exit→Act→World→Prop} {E:Prop} (hgd:o.guard=none) (s x:Operand) (t:TypeId)
 (ho:o.op=.call {callee:=.builtin .append,args:= #[s,x],argTypes:= #[t,t]}) {bytes:Nat} (ht:P.underlying t=some (.slice e))
 (hi:(P.info? e).map (λi=>(i.size,i.bytes,(i.zero.map (·.cells.size))))=some (size,bytes,some size)) (hsz:0<size)
 (hs:a.eval s=v) (hown:w.ownsRow base e size v n xs) (g m c:Nat) (cs:List Value) (hx:a.eval x=.slice (some ⟨g,0,none⟩) m c) (hB:∀j u,cs[j]?=some u→w.cell? ⟨g,j,none⟩=some u) (hl:cs.length=m*size) (h1:∀u∈cs,u.oneCell'=true)
 (h63:n+m≤maxLen) (hbytes:(n+m)*bytes≤140737488355328) (hbase:base≤w.heap.size)
 (h:∀p cp w',w'.ownsRow base e size (.slice p (n+m) cp) (n+m) (xs++cs)→Keep (λq=>v.ownBlock=some q) w w'→K (a.put o.dst (.slice p (n+m) cp)) w'):if Region.wanted o (yielded ops a.tmps)=true then Oper.wp P o a w K Q else E:=by
 have hw:Region.wanted o (yielded ops a.tmps)=true:=by simp[Region.wanted,hgd]
 rw[if_pos hw]
 obtain⟨i,z,hi,hz,e1,e2,e3⟩:=info_of hi
 obtain⟨v',w',hrun,k1,k2,_⟩:=run_append_own (P:=P) w base t o.type e i z size bytes ht hi hz e1 e2 e3 hsz v n xs hown ⟨g,0,none⟩ m c cs hl (λj u hj=>by
  rw[show(⟨g,0,none⟩:Addr).add j=⟨g,j,none⟩from by unfold Addr.add;split<;>simp_all]
  exact hB j u hj) h1 h63 hbytes hbase
 obtain⟨p,cp,rfl,_⟩:=row_slice k1
 unfold Oper.wp
 simp[execOp,ho,resolve,invoke,builtin,hs,hx,hrun,Result.andThen]
 exact h p cp w' k1 ⟨k2.os,k2.tape,k2.output,k2.size,λk hk hn=>k2.block k hk λe=>hn e.symm⟩
theorem step_load_mid {P:Program} {w:World} {ops:Array Oper} {o:Oper} {a:Act} {K:Act→World→Prop} {Q:Exit→Act→World→Prop} {E:Prop} (hgd:o.guard=none) (ty:TypeId) (x:Operand) (ho:o.op=.load ty x)
 (b off:Nat) (hx:a.eval x=.pointer (some ⟨b,off,none⟩)) (cs:List Value) (d:TypeDesc) (hc:w.rangeAt b off cs) (hu:P.underlying ty=some d) (hd:d.isRow=true) (hi:(P.info? ty).map (·.size)=some cs.length)
 (h:K (a.put o.dst (.agg cs.toArray)) w):if Region.wanted o (yielded ops a.tmps)=true then Oper.wp P o a w K Q else E:=by
 have hw:Region.wanted o (yielded ops a.tmps)=true:=by simp[Region.wanted,hgd]
 rw[if_pos hw]
 exact wp_load_mid ty x ho b off hx cs d hc hu hd hi h
theorem step_buildSlice_one {P:Program} {w:World} {ops:Array Oper} {o:Oper} {a:Act} {K:Act→World→Prop} {Q:Exit→Act→World→Prop} {E:Prop} (hg:o.guard=none) (t e:TypeId) (x:Operand) (ho:o.op=.buildSlice t 1 #[(0,x)])
 (cs:List Value) {b:Nat} (hx:(a.eval x).cells=cs.toArray) (hu:P.underlying t=some (.slice e)) (h:(P.info? e).map (λi=>(i.size,i.bytes,(i.zero.map (·.cells.size))))=some (cs.length,b,some cs.length)) (hs:0<cs.length) (hb:cs.length≤2^24)
 (hk:K (a.put o.dst (.slice (some ⟨w.heap.size,0,none⟩) 1 1)) (w.alloc (.cells cs.toArray e))):if Region.wanted o (yielded ops a.tmps)=true then Oper.wp P o a w K Q else E:=by
 have hw:Region.wanted o (yielded ops a.tmps)=true:=by simp[Region.wanted,hg]
 rw[if_pos hw]
 obtain⟨i,z,hi,hz,h1,h2,h3⟩:=info_of h
 refine wp_buildSlice t e 1 #[(0,x)] ho cs.toArray i z hu hi hz (by rw[h1];omega) (by rw[h1];omega) ?_ hk
 simp only[Nat.one_mul,List.map_toArray,List.map_cons,List.map_nil]
 obtain⟨zs,hzs⟩:∃zs:List Value,(Array.range i.size).map (z.cells[·% z.cells.size]!)=zs.toArray:=⟨_,(Array.toArray_toList).symm⟩
 have hl:zs.length=cs.length:=by have:=congrArg Array.size hzs;simpa [h1]using this.symm
 rw[hzs]
 have:=fill_next (λk=>some (k*i.size,i.size)) [] zs [] 0 (a.eval x) [] (by simp[hx,h1]) (by rw[hl,hx];simp)
 simpa [hx,Instr.fill]using this
theorem run_buildSlice_one {P:Program} (t e:TypeId) (cs:List Value) {b:Nat} (hu:P.underlying t=some (.slice e)) (h:(P.info? e).map (λi=>(i.size,i.bytes,(i.zero.map (·.cells.size))))=some (cs.length,b,some cs.length)) (hs:0<cs.length) (hb:cs.length≤2^24) (w:World) :
 (Instr.buildSlice t 1 #[(0,.agg cs.toArray)]).run P w=.ok (.slice (some ⟨w.heap.size,0,none⟩) 1 1) (w.alloc (.cells cs.toArray e)):=by
 obtain⟨i,z,hi,hz,h1,h2,h3⟩:=info_of h
 refine run_buildSlice w t e 1 _ cs.toArray i z hu hi hz (by rw[h1];omega) (by rw[h1];omega) ?_
 simp only[Nat.one_mul]
 obtain⟨zs,hzs⟩:∃zs:List Value,(Array.range i.size).map (z.cells[·% z.cells.size]!)=zs.toArray:=⟨_,(Array.toArray_toList).symm⟩
 have hl:zs.length=cs.length:=by have:=congrArg Array.size hzs;simpa [h1]using this.symm
 rw[hzs]
 have:=fill_next (λk=>some (k*i.size,i.size)) [] zs [] 0 (.agg cs.toArray) [] (by simp[Value.cells,h1]) (by rw[hl];simp[Value.cells])
 simpa [Value.cells,Instr.fill]using this
end Go.Proofs.YtjdaddmjpicflaaGreatDoor
namespace Go.Proofs.YtjdaddmjpicflaaGreatDoor
open Go.RowKit Go.Maps
theorem made_one (z:Value) (n:Nat):madeCells #[z] n=(List.replicate n z).toArray:=zeroCells_one z n▸by simp[madeCells,Builtin.zeroCells]
theorem make_zs (n:Nat) (hn:n≤1000000) (x:Int) (w:World) (hx:x=n):(Instr.makeSlice 32 (.int .i64 x) (.int .i64 x)).run Tryz.prog w=.ok (.slice (some ⟨w.heap.size,0,none⟩) n n) (w.alloc (.cells (List.replicate n (Value.int .u8 0)).toArray 5)):=by
 obtain⟨i,hi,h1,h2,h3⟩:=info_parts byteInfo
 subst hx
 have:=run_makeSlice (P:=Tryz.prog) (w:=w) 32 5 i (.int .u8 0) Tryz.underlying32 hi h1 .i64 .i64 n n (by omega) (by omega) (by rw[h2];omega) (by rw[h3];omega) (by omega)
 rw[h2,Nat.mul_one,show(Value.int .u8 0).cells = #[Value.int .u8 0]from rfl,made_one]at this
 exact this
theorem rowOf_congr {f g:Nat→Int} {N:Nat} (h:∀i,i<N→f i=g i):rowOf f N=rowOf g N:=by
 unfold rowOf
 exact List.map_congr_left λi hi=>by rw[h i (List.mem_range.1 hi)]
theorem rowOf_zero (N:Nat):rowOf (λ_=>0) N=List.replicate N (Value.int .u8 0):=by
 unfold rowOf
 apply List.ext_getElem?
 intro i
 by_cases h:i<N
 ·simp[h]
 ·simp[h]
theorem peek_any (b:Nat) (perm:Nat→Option Int) (M:Nat→Int) (A n:Nat) (w:World) (hs:Sp w b (pagesOf perm M)) (hA:A+n≤65536) (hperm:∀a,A≤a→a<A+n→(perm (a/256)).isSome=true) :
 Calls Tryz.prog 206 #[.map (some b),.int .u64 A,.int .i64 n] w λe w'=>∃g,e=.returned (.slice (some ⟨g,0,none⟩) n n)∧w.heap.size≤g∧Blk w' g (rowOf (λi=>M (A+i)) n) 5∧Bel w w':=by
 have HP:=xh hperm
 clear hperm
 obtain⟨zs0,hzs0⟩:∃zs,List.replicate n (Value.int .u8 0)=zs:=⟨_,rfl⟩
 have hmk:=λW=>make_zs n (by omega) n W rfl
 rw[hzs0]at hmk
 have HZ0:=xh hzs0
 clear hzs0
 go_enter Tryz.func206,Tryz.ntmps206
 go_upto_region 2 with fail
 have k1:Bel w (w.alloc (.cells zs0.toArray 5)):=Bel.start w _
 have B1:=Blk.new w zs0 5
 generalize w.alloc (.cells zs0.toArray 5)=w1 at *
 obtain⟨g,hg⟩:∃g,w.heap.size=g:=⟨_,rfl⟩
 have hbg:b<g:=by rw[←hg];exact hs.lt
 have hs1:=hs.bel k1
 rw[hg]at B1⊢
 have HG:=xh hg
 have HB1:=xh B1
 have HK1:=xh k1
 have hgl:=B1.lt
 clear hg B1 k1 hmk hs
 go_upto_region 3 with fail
 go_loopw [15] (λi wr=>∃k:Nat,k≤n∧i=.int .i64 k∧Blk wr g (rowOf (λi=>if i<k then M (A+i)else 0) n) 5∧Keep (λq=>q=g) w1 wr) (λi _=>n-(intOf i).toNat)
 case atStart=>exact⟨0,Nat.zero_le _,rfl,by have:=HB1.out;rw[←HZ0.out,←rowOf_zero]at this;rw[rowOf_congr (g:=λ_=>0) (λi _=>by simp)];exact this,Keep.refl _ _⟩
 case round=>
  obtain⟨k,hk,rfl,hB,hK⟩:=hrel
  by_cases hlt:k<n
  ·have hsr:Sp wr b (pagesOf perm M):=hs1.keep hK (λe=>by have e:b=g:=e;omega)
   obtain⟨N,hN⟩:∃N:Nat,N=(A+k)/256:=⟨_,rfl⟩
   obtain⟨r,hr⟩:∃r:Nat,r=(A+k)%256:=⟨_,rfl⟩
   have hsum:A+k=256*N+r:=by omega
   have hr256:r<256:=by omega
   have hN256:N<256:=by omega
   have hlk:=hsr.lookup N (by omega)
   obtain⟨pm,hpm⟩:=Option.isSome_iff_exists.1 (HP.out (A+k) (by omega) (by omega))
   rw[←hN]at hpm
   have hpg:(pagesOf perm M N).getD Pg.zero=⟨pm,(List.range 256).map λi=>M (256*N+i)⟩:=by simp[pagesOf,hpm]
   rw[hpg]at hlk
   obtain⟨cs,hcs⟩:∃cs:List Value,cs=Pg.cells ⟨pm,(List.range 256).map λi=>M (256*N+i)⟩:=⟨_,rfl⟩
   rw[show Pg.v ⟨pm,(List.range 256).map λi=>M (256*N+i)⟩=.agg cs.toArray from by rw[hcs];rfl]at hlk
   have hcl:cs.length=257:=by rw[hcs];simp[Pg.cells]
   have hone:∀v∈cs,v.oneCell'=true:=by rw[hcs];exact Pg.cells_one _
   have hcr:cs[1+r]?=some (.int .u8 (M (A+k))):=by
    rw[hcs,hsum]
    simp[Pg.cells,Nat.add_comm 1 r,hr256]
   have hz:∀w,(zeroValue 202).run Tryz.prog w=.ok (.agg Pg.zero.cells.toArray) w:=zeroPage
   obtain⟨zs,hzs⟩:∃zs:List Value,zs=Pg.zero.cells:=⟨_,rfl⟩
   have hzl:zs.length=257:=by rw[hzs];simp[Pg.cells,Pg.zero]
   rw[←hzs]at hz
   have hdiv:((A:Int)+k)/256=(N:Int):=by omega
   have hmod:((A:Int)+k)%256=(r:Int):=by omega
   have hg8:g<wr.heap.size:=hB.lt
   have hgf:=hB.frozen k
   have HCL:=xh hcl
   have HZL:=xh hzl
   have HCR:=xh hcr
   have HONE:=xh hone
   have HB:=xh hB
   have HK:=xh hK
   clear hN hr hsum hcs hcl hzl hpm hzs hpg hone hcr hB hK
   obtain⟨x,hx⟩:∃x,M (A+k)=x:=⟨_,rfl⟩
   rw[hx]at HCR
   have HX:=xh hx
   clear hx
   go_upto_region 7 with(refine wpList_store_blk rfl 202 (.tmp 10) (.tmp 25) rfl rfl wr.heap.size cs zs 202 (Blk.new wr zs _) rfl rfl (by rw[HCL.out];kernel_rfl) (HZL.out.trans HCL.out.symm) HONE.out ?_;intro w2 B2 K2)
   have c7:w2.cell? ⟨wr.heap.size,1+r,none⟩=some (.int .u8 x):=by
    rw[B2.out.cell]
    exact HCR.out
   have HB2:=xh ((HB.out.bel (Bel.start wr (.cells zs.toArray 202))).keep K2 (λe=>by have e:g=wr.heap.size:=e;omega))
   have K3:=xh ((Keep.of_bel (λq=>q=g) (Bel.start wr (.cells zs.toArray 202))).tr_new K2 (λi hi=>.inr (by have e:i=wr.heap.size:=hi;omega)))
   have f7:=HB2.out.frozen k
   have l7:=HB2.out.lt
   have c8:w2.cell? ⟨g,k,none⟩=some (.int .u8 0):=by
    rw[HB2.out.cell,rowOf_get _ _ _ hlt]
    simp
   clear B2 K2
   go_wp2_with fail
   go_roundw
   case rel=>
    refine⟨k+1,by omega,by go_num,?_,(HK.out.tr K3.out).tr (Keep.setCell _ _ _ _)⟩
    have h:=HB2.out.row_set k x
    rw[rowOf_congr (g:=setF (λi=>if i<k then M (A+i)else 0) k x) (λi _=>?_)]
    ·exact h
    ·unfold setF
     by_cases e:i=k
     ·subst e
      rw[if_pos rfl,if_pos (by omega)]
      exact HX.out
     ·rw[if_neg e]
      show(if i<k+1 then M (A+i)else 0)=if i<k then M (A+i)else 0
      by_cases e2:i<k
      ·rw[if_pos e2,if_pos (by omega)]
      ·rw[if_neg e2,if_neg (by omega)]
   case measure=>simp[intOf]<;>omega
  ·obtain rfl:k=n:=by omega
   have HB:=xh hB
   have HK:=xh hK
   clear hB hK
   go_wp2_with fail
   go_ret
   refine⟨g,rfl,by rw[HG.out];exact Nat.le_refl _,?_,Below.trans HK1.out (HK.out.below _ HK1.out.size (λq hq=>by have e:q=g:=hq;rw[HG.out];omega))⟩
   have h:=HB.out
   rw[rowOf_congr (g:=λi=>M (A+i)) (λi hi=>if_pos hi)]at h
   exact h
end Go.Proofs.YtjdaddmjpicflaaGreatDoor
