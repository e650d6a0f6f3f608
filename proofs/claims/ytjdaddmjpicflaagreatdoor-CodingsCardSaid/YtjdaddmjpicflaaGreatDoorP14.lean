/- machine.Stack. -/
import Derived.Sort.CutIn
import Derived.Lib.ConvBytes
import Derived.StillTailTactics
import Derived.Laws.BitsAllLaws
import Derived.Test.YtjdaddmjpicflaaGreatDoorP04
import Derived.Test.YtjdaddmjpicflaaGreatDoorP05
import Derived.Test.YtjdaddmjpicflaaGreatDoorP06
set_option linter.unusedVariables false
set_option linter.unusedSimpArgs false
set_option maxRecDepth 100000
set_option maxHeartbeats 16000000
namespace Go.Proofs.YtjdaddmjpicflaaGreatDoor
open Go.RowKit Go.Maps Go.Shelf
attribute [local go_sem] Oper.semAt_some
theorem calls_of_wp_marks {P:Program} (n:Nat) {f:FuncId} {fn:Func} {c:Code} {args:Array Value} {w:World} {R:Ending→World→Prop} (hf:P.funcs[f]?=some fn) (hb:fn.body=some c)
 (h:c.wp P (bodyPostM Fence.wide n P fn R) {tmps:=args++Array.replicate (fn.ntmps-args.size) undef,defers:=[]} w):Calls P f args w R:=
 (callsIn_wide (n:=n)).1 (callsIn_of_wp_marks hf hb trivial (wpIn_wide.2 h) rfl)
def stPerm (n:Nat):Option Int:=if n=254∨n=255 then some 6 else none
theorem wordInfo:(Tryz.prog.info? 75).map (λi=>(i.zero,i.size,i.bytes))=some (some (.int .u64 0),1,8):=by kernel_rfl
theorem make_words (n:Nat) (hn:n≤1000):∃zs:List Value,zs.length=n∧(∀v∈zs,v=.int .u64 0)∧∀(w:World),(Instr.makeSlice 267 (.int .i64 (n:Int)) (.int .i64 (n:Int))).run Tryz.prog w=.ok (.slice (some ⟨w.heap.size,0,none⟩) n n) (w.alloc (.cells zs.toArray 75)):=by
 obtain⟨i,hi,h1,h2,h3⟩:=info_parts wordInfo
 refine⟨(madeCells (Value.int .u64 0).cells (n*i.size)).toList,by rw[h2];simp[size_madeCells],?_,λw=>?_⟩
 ·intro v hv
  simp[madeCells,Value.cells]at hv
  obtain⟨a,_,h⟩:=hv
  rw[Nat.mod_one]at h
  exact h.symm
 ·have:=run_makeSlice (P:=Tryz.prog) (w:=w) 267 75 i (.int .u64 0) Tryz.underlying267 hi h1 .i64 .i64 n n (by omega) (by omega) (by rw[h2];omega) (by rw[h3];omega) (by omega)
  simpa using this
theorem conv_bytes (s:ByteArray):∃(cf:World→Nat) (wf:World→World),(∀W,(convert 9 32 (.string s)).run Tryz.prog W=.ok (.slice (some ⟨W.heap.size,0,none⟩) s.size (cf W)) (wf W))∧
 ∀W,Bel W (wf W)∧(wf W).heap.size=W.heap.size+1∧s.size≤cf W∧Bts (wf W) W.heap.size 0 (bts s):=by
 refine⟨λW=>grownCap W s.size 0 5,λW=>Lib.bytesWorld W 5 s,λW=>Lib.run_convert_string_bytes W 9 32 5 s Tryz.underlying9 Tryz.underlying32 Tryz.underlying5,λW=>⟨⟨?_,?_,?_,?_,λk hk=>Lib.bytesWorld_at_old W _ s k hk⟩,Lib.bytesWorld_size W _ s,?_,⟨λi hi=>?_,bts_byte s⟩⟩⟩
 ·simp[Lib.bytesWorld,World.freeze,World.alloc,World.drew,-World.alloc_eq,-World.drew_eq]
 ·simp[Lib.bytesWorld,World.freeze,World.alloc,World.drew,-World.alloc_eq,-World.drew_eq]
 ·simp[Lib.bytesWorld,World.freeze,World.alloc,World.drew,-World.alloc_eq,-World.drew_eq]
 ·rw[Lib.bytesWorld_size];omega
 ·exact grownCap_ge W s.size 0 5
 ·rw[Nat.zero_add,Lib.bytesWorld_cell W _ s i (by rw[←bts_length];exact hi)]
  unfold bts
  rw[List.getElem?_map,List.getD_eq_getElem?_getD,List.getElem?_eq_getElem (by simpa [bts]using hi)]
  rfl
structure SPlaces where
 g2:Nat
 gm:Nat
 mb:Nat
 gB:Nat
def rowA (st:StS) (n:Nat):List Value:=(List.range n).map λi=>Value.int .u64 (st.A i)
theorem rowA_set (st:StS) (n i:Nat) (x:Int) (M:Nat→Int) (e:Int):(rowA st n).set i (.int .u64 x)=rowA ⟨e,M,setF st.A i x⟩ n:=by
 apply List.ext_getElem?
 intro k
 simp only[rowA,List.getElem?_set,List.getElem?_map,List.length_map,List.length_range,setF]
 by_cases hk:k<n
 ·rw[List.getElem?_range hk]
  by_cases hi:i=k
  ·subst hi;simp[hk]
  ·simp[hi,Ne.symm hi]
 ·rw[List.getElem?_eq_none (by simp;omega)]
  by_cases hi:i=k
  ·subst hi;simp[hk]
  ·simp[hi]
def stP (ss:List ByteArray) (pre:List (Ix ss.length)):StS:=stOf ss (pre.map λi:Ix ss.length=>i.1)
theorem stP_snoc (ss:List ByteArray) (pre:List (Ix ss.length)) (x:Ix ss.length):stP ss (pre++[x])=stStep ss (stP ss pre) x.1:=by simp[stP,stOf_snoc]
structure SI (q:SPlaces) (ss:List ByteArray) (w:World) (pre:List (Ix ss.length)) (W:World):Prop where
 r2:Blk W q.g2 [.map none] 113
 r3:Blk W (q.g2+1) [.int .u64 0] 75
 r4:Blk W (q.g2+1+1) [.nilIface] 41
 r5:Blk W (q.g2+1+1+1) [.int .u64 (stP ss pre).e] 75
 r6:Blk W q.gm [.map (some q.mb)] 113
 ra:Blk W (q.gm+1) (rowA (stP ss pre) ss.length) 75
 r7:Blk W (q.gm+1+1) [.slice (some ⟨q.gm+1,0,none⟩) ss.length ss.length] 267
 sp:Sp W q.mb (pagesOf stPerm (stP ss pre).M)
 good:∀i∈pre,goodA (arg ss i.1)=true
 bel:Below q.g2 w W
 sz:q.gB<W.heap.size
structure SX (q:SPlaces) (ss:List ByteArray) (w:World) (c:Code) (W:World):Prop where
 c:c=.ret
 r2:Blk W q.g2 [.map none] 113
 r3:Blk W (q.g2+1) [.int .u64 0] 75
 r4:Blk W (q.g2+1+1) [errN 6] 41
 bad:¬Good ss
 bel:Below q.g2 w W
theorem own_blk {B:Nat} {W W':World} {row:Option Nat} {b:Nat} {c:List Value} {t:TypeId} (h:Blk W b c t) (hg:W.grownBy W' row) (hr:∀r,row=some r→B≤r∧∃o:Obj,W.heap[r]?=some o∧o.isCells=false):Blk W' b c t:=
 (hg.block b h.lt λe=>by
   obtain⟨_,o,h1,h2⟩:=hr b e.symm
   unfold Blk at h
   rw[h]at h1
   cases h1
   cases h2).trans h
theorem own_sp {B:Nat} {W W':World} {row:Option Nat} {b:Nat} {m:Pages} (h:Sp W b m) (hb:b<B) (hg:W.grownBy W' row) (hr:∀r,row=some r→B≤r∧∃o:Obj,W.heap[r]?=some o∧o.isCells=false):Sp W' b m:=
 h.of_block (hg.block b h.lt λe=>by have:=(hr b e.symm).1;omega)
theorem own_below {B g:Nat} {w W W':World} {row:Option Nat} (h:Below g w W) (hb:g≤B) (hgs:g≤W.heap.size) (hg:W.grownBy W' row) (hr:∀r,row=some r→B≤r∧∃o:Obj,W.heap[r]?=some o∧o.isCells=false):Below g w W':=
 h.trans ⟨hg.os,hg.tape,hg.output,hg.size,λk hk=>hg.block k (by omega) λe=>by have:=(hr k e.symm).1;omega⟩
theorem SI.own {q:SPlaces} {ss:List ByteArray} {w:World} {B:Nat} (h1:q.mb<B) (h2:q.g2≤B):OwnFrom B (SI q ss w):=λs W W' row hs hg hr=>
 ⟨own_blk hs.r2 hg hr,own_blk hs.r3 hg hr,own_blk hs.r4 hg hr,own_blk hs.r5 hg hr,own_blk hs.r6 hg hr,own_blk hs.ra hg hr,own_blk hs.r7 hg hr,own_sp hs.sp h1 hg hr,hs.good,own_below hs.bel h2 (Nat.le_of_lt hs.r2.lt) hg hr,Nat.lt_of_lt_of_le hs.sz hg.size⟩
theorem SX.own {q:SPlaces} {ss:List ByteArray} {w:World} {B:Nat} {c:Code} (h2:q.g2≤B):OwnFrom B (λ(_:List (Ix ss.length)) W=>SX q ss w c W):=λs W W' row hs hg hr=>
 ⟨hs.c,own_blk hs.r2 hg hr,own_blk hs.r3 hg hr,own_blk hs.r4 hg hr,hs.bad,own_below hs.bel h2 (Nat.le_of_lt hs.r2.lt) hg hr⟩
theorem wordInfo3:(Tryz.prog.info? 75).map (λi=>(i.size,i.bytes,(i.zero.map (·.cells.size))))=some (1,8,some 1):=by kernel_rfl
theorem wpList_append_blk {P:Program} {w:World} {base:Nat} {e:TypeId} {size:Nat} {v:Value} {n:Nat} {xs:List Value} {ops:Array Oper} {rest:List Oper} {o:Oper} {a:Act} {Q:Exit→Act→World→Prop} (hgd:o.guard=none) (s x:Operand) (t:TypeId)
 (ho:o.op=.call {callee:=.builtin .append,args:= #[s,x],argTypes:= #[t,t]}) {bytes:Nat} (ht:P.underlying t=some (.slice e))
 (hi:(P.info? e).map (λi=>(i.size,i.bytes,(i.zero.map (·.cells.size))))=some (size,bytes,some size)) (hsz:0<size)
 (hs:a.eval s=v) (hown:w.ownsRow base e size v n xs) (g m c:Nat) (cs:List Value) (t':TypeId) (hx:a.eval x=.slice (some ⟨g,0,none⟩) m c) (hB:Blk w g cs t') (hl:cs.length=m*size) (h1:∀u∈cs,u.oneCell'=true)
 (h63:n+m≤maxLen) (hbytes:(n+m)*bytes≤140737488355328) (hbase:base≤w.heap.size)
 (h:∀v' w',w'.ownsRow base e size v' (n+m) (xs++cs)→Keep (λi=>base≤i) w w'→wpList P ops Q rest (a.put o.dst v') w'):wpList P ops Q (o::rest) a w:=by
 obtain⟨i,z,hi,hz,e1,e2,e3⟩:=info_of hi
 refine wpList_append_own w hgd s x t ho base e i z size bytes ht hi hz e1 e2 e3 hsz v n xs hs hown ⟨g,0,none⟩ m c cs hx hl (λj u hj=>?_) h1 h63 hbytes hbase λv' w' k1 k2 _=>h v' w' k1 (grown_keep k2 hown)
 rw[show(⟨g,0,none⟩:Addr).add j=⟨g,j,none⟩from by unfold Addr.add;split<;>simp_all]
 rw[hB.cell];exact hj
theorem row_of_new {w:World} {g base:Nat} {e t:TypeId} {c:Value} (h:w.heap[g]?=some (.cells [c].toArray t (0,0))) (ht:t=e) (hb:base≤g):w.ownsRow base e 1 (.slice (some ⟨g,0,none⟩) 1 1) 1 [c]:=by
 subst ht
 exact⟨rfl,.inr ⟨g,1,[c].toArray,rfl,hb,h,Nat.le_refl _,by unfold maxLen;omega,rfl,rfl⟩⟩
theorem words_eq (st:StS) (n:Nat):[Value.int .u64 n]++rowA st n++[Value.int .u64 0]=(List.range (n+2)).map λk=>Value.int .u64 (wordAt st n k):=by
 apply List.ext_getElem?
 intro i
 unfold rowA
 by_cases hi:i<n+2
 ·rw[List.getElem?_map,List.getElem?_range hi,Option.map_some]
  cases i with
  | zero=>simp[wordAt]
  | succ i=>
    rw[List.append_assoc,List.cons_append,List.nil_append,List.getElem?_cons_succ]
    by_cases h:i<n
    ·rw[List.getElem?_append_left (by simpa using h),List.getElem?_map,List.getElem?_range h,Option.map_some]
     unfold wordAt
     rw[if_neg (by omega),if_pos (by omega),Nat.add_sub_cancel]
    ·obtain rfl:i=n:=by omega
     rw[List.getElem?_append_right (by simp)]
     unfold wordAt
     rw[if_neg (by omega),if_neg (by omega)]
     simp
 ·rw[List.getElem?_eq_none (by simp;omega),List.getElem?_eq_none (by simp;omega)]
theorem row8 (x:Int):rowOf (putF (λ_=>0) 0 x) 8=(bytes8 x).map (Value.int .u8):=by
 simp[rowOf,putF,setF,bytes8,List.range_succ]
theorem and_not15 (a:Int) (h0:0≤a) (h1:a<18446744073709551616):bits .andNot .u64 a 15=a/16*16:=by
 rw[u64_andNot a 15 h0 h1 (by omega) (by omega)]
 obtain⟨n,rfl⟩:=Int.eq_ofNat_of_zero_le h0
 have hn:n<2^64:=by omega
 have:n &&& (18446744073709551615-15)=n/16*16:=by
  apply Nat.eq_of_testBit_eq
  intro i
  rw[show(18446744073709551615-15:Nat)=(2^60-1)*2^4 from by decide,show n/16*16=n/2^4*2^4 from rfl,Nat.testBit_and,Nat.testBit_mul_two_pow,Nat.testBit_mul_two_pow,Nat.testBit_two_pow_sub_one,Nat.testBit_div_two_pow]
  by_cases h4:4≤i
  ·by_cases h64:i<64
   ·simp[h4,show i-4<60 from by omega,Nat.sub_add_cancel h4]
   ·have:n.testBit i=false:=Nat.testBit_lt_two_pow (Nat.lt_of_lt_of_le hn (Nat.pow_le_pow_right (by omega) (by omega)))
    simp[this,Nat.sub_add_cancel h4]
  ·simp[h4]
 rw[Int.toNat_natCast,show(Int.toNat 15)=15 from rfl,this]
 omega
theorem others_bel {W W':World} (h:Bel W W'):KeepsOthers W W':=⟨h.size,λk o hk _=>(h.block k (Array.getElem?_eq_some_iff.1 hk).1).trans hk⟩
theorem from_keep {S:Nat→Prop} {B:Nat} {W W':World} (h:Keep S W W') (hS:∀k,S k→k<B):KeepsFrom B W W':=
 ⟨h.size,λk o hB hk _=>(h.block k (Array.getElem?_eq_some_iff.1 hk).1 λhs=>by have:=hS k hs;omega).trans hk⟩
theorem kps_keep {S:Nat→Prop} {g B:Nat} {W W':World} (h:Keep S W W') (h1:∀k,S k→g≤k∧k≠B) (h2:g≤W.heap.size) (h3:B<W.heap.size):KpS g B W W':=λb hb=>
 h.block b (by omega) λhs=>by have:=h1 b hs;omega
theorem arg_at (ss:List ByteArray) (i:Nat) (h:i<ss.length):arg ss i=bts ss[i]:=by
 unfold arg;rw[List.getD_eq_getElem?_getD,List.getElem?_eq_getElem h];rfl
theorem stackM_any (p:Option Addr) (cap:Nat) (ss:List ByteArray) (w:World) (hS:SS w.heap.size w p ss) (hn:ss.length≤8) :
 Calls Tryz.prog 70 #[.slice p ss.length cap] w λe w'=>Bel w w'∧
  (Good ss→∃mb,e=.returned (.tuple #[.map (some mb),.int .u64 (spOf (stAll ss) ss.length),.nilIface])∧Sp w' mb (pagesOf stPerm (memOf ss)))∧
  (¬Good ss→e=.returned (.tuple #[.map none,.int .u64 0,errN 6])):=by
 obtain⟨zs,hzl,hzv,hmk⟩:=make_words ss.length (by omega)
 obtain⟨ps,hps⟩:∃ps:List Value,ps=Pg.cells ⟨6,List.replicate 256 0⟩:=⟨_,rfl⟩
 have HBP:Hid (Tryz.prog.built 202 [(0,.int .u8 6)]=some ps.toArray):=xh (by rw[hps];exact built_perm 6)
 have hmm:∀w,(Instr.makeMap 113 none).run Tryz.prog w=.ok (.map (some w.heap.size)) (w.alloc (.map #[] 0)):=λw=>by kernel_rfl
 have HPS:=xh hps
 have HZL:=xh hzl
 have HZV:=xh hzv
 have HS:=xh hS
 clear hps hzl hzv hS
 refine calls_of_wp_marks 5 Tryz.func70 rfl ?_
 simp only[Tryz.ntmps70,List.size_toArray,List.length_cons,List.length_nil,Nat.reduceAdd,Nat.reduceSub,Array.replicate_succ,Array.replicate_zero,List.push_toArray,List.append_toArray,List.nil_append,List.cons_append]
 go_upto_region 4 with fail
 obtain⟨w1,hw1⟩:∃w1,w1=(((w.alloc (.cells #[.map none] 113)).alloc (.cells #[.int .u64 0] 75)).alloc (.cells #[.nilIface] 41)).alloc (.cells #[.int .u64 65536] 75):=⟨_,rfl⟩
 have k1:Bel w w1:=by rw[hw1];exact(((Bel.start w _).ac _).ac _).ac _
 have b2:Blk w1 w.heap.size [.map none] 113:=by rw[hw1];exact(((Blk.new w [_] _).alloc _).alloc _).alloc _
 have b3:Blk w1 (w.heap.size+1) [.int .u64 0] 75:=by rw[hw1];exact((Blk.new_at _ [_] _ (by simp)).alloc _).alloc _
 have b4:Blk w1 (w.heap.size+1+1) [.nilIface] 41:=by rw[hw1];exact(Blk.new_at _ [_] _ (by simp)).alloc _
 have b5:Blk w1 (w.heap.size+1+1+1) [.int .u64 65536] 75:=by rw[hw1];exact Blk.new_at _ [_] _ (by simp)
 have hsz:w1.heap.size=w.heap.size+1+1+1+1:=by rw[hw1];simp
 rw[←hw1]
 clear hw1
 have HK1:=xh k1
 have HB2:=xh b2
 have HB3:=xh b3
 have HB4:=xh b4
 have HB5:=xh b5
 have HSZ:=xh hsz
 have hg:w.heap.size+4≤w1.heap.size:=by omega
 clear k1 b2 b3 b4 b5 hsz
 have hs0:Sp (w1.alloc (.map #[] 0)) w1.heap.size (λ_=>none):=⟨[],Mp.new keyI w1,λn=>rfl,λp hp=>by cases hp⟩
 obtain⟨es1,cl1,hup1,hs1,hk1⟩:=hs0.update 254 (by omega) ⟨6,List.replicate 256 0⟩
 obtain⟨wA,hwA⟩:∃wA,wA=Go.ChangeMaps.setBlock (w1.alloc (.map #[] 0)) w1.heap.size (.map es1 cl1):=⟨_,rfl⟩
 rw[←hwA]at hup1 hs1 hk1
 obtain⟨es2,cl2,hup2,hs2,hk2⟩:=hs1.update 255 (by omega) ⟨6,List.replicate 256 0⟩
 obtain⟨wB,hwB⟩:∃wB,wB=Go.ChangeMaps.setBlock wA w1.heap.size (.map es2 cl2):=⟨_,rfl⟩
 rw[←hwB]at hup2 hs2 hk2
 rw[show Pg.v ⟨6,List.replicate 256 0⟩=.agg ps.toArray from by rw[HPS.out];rfl]at hup1 hup2
 rw[show((254:Nat):Int)=(254:Int)from rfl]at hup1
 rw[show((255:Nat):Int)=(255:Int)from rfl]at hup2
 have KB:Hid (Keep (λk=>k=w1.heap.size) (w1.alloc (.map #[] 0)) wB):=xh (hk1.tr hk2)
 have HSB:Hid (Sp wB w1.heap.size (pagesOf stPerm λ_=>0)):=xh (by
  have e:(λi=>if i=255 then some (⟨6,List.replicate 256 0⟩:Pg)else(λi=>if i=254 then some ⟨6,List.replicate 256 0⟩else none) i)=pagesOf stPerm λ_=>0:=by
   funext i
   have hr:(List.range 256).map (λ_=>(0:Int))=List.replicate 256 0:=by rw[List.map_const'];simp
   unfold pagesOf stPerm
   by_cases e1:i=255
   ·rw[if_pos e1,if_pos (.inr e1),Option.map_some,hr]
   ·rw[if_neg e1]
    by_cases e2:i=254
    ·simp only[e2,if_true,true_or,Option.map_some,hr]
    ·simp only[e2,if_false,e1,or_self,Option.map_none]
  rw[←e];exact hs2)
 clear hs0 hs1 hk1 hwA hs2 hk2 hwB
 go_upto_region 5 with(first
  | (refine wpList_buildTo rfl 202 _ rfl (some 20) rfl ps.toArray (by simp only[List.map_toArray,List.map_cons,List.map_nil];exact HBP.out) ?_)
  | (refine wpList_buildTo rfl 202 _ rfl (some 21) rfl ps.toArray (by simp only[List.map_toArray,List.map_cons,List.map_nil];exact HBP.out) ?_))
 clear hup1 hup2
 have hszB:w1.heap.size+1≤wB.heap.size:=by have:=KB.out.size;simpa using this
 have KB1:Hid (Bel w wB):=xh (Below.trans HK1.out ((Below.heap_alloc' w1 _).mono HK1.out.size |>.trans (KB.out.below _ (by simp;exact Nat.le_trans HK1.out.size (Nat.le_succ _)) (λk hk=>by rw[hk];exact HK1.out.size))))
 have hkB:∀{b:Nat} {c:List Value} {t:TypeId},b<w1.heap.size→Blk w1 b c t→Blk wB b c t:=λhb h=>(h.alloc _).keep KB.out (λe=>by omega)
 have c2:=xh (hkB (by omega) HB2.out)
 have c3:=xh (hkB (by omega) HB3.out)
 have c4:=xh (hkB (by omega) HB4.out)
 have c5:=xh (hkB (by omega) HB5.out)
 clear HB2 HB3 HB4 HB5 hkB KB HSZ
 generalize w1.heap.size=mb at *
 go_upto_region 6 with fail
 obtain⟨W0,hW0⟩:∃W0,W0=((wB.alloc (.cells #[.map (some mb)] 113)).alloc (.cells zs.toArray 75)).alloc (.cells #[.slice (some ⟨wB.heap.size+1,0,none⟩) ss.length ss.length] 267):=⟨_,rfl⟩
 have kb:Bel wB W0:=by rw[hW0];exact((Bel.start wB _).ac _).ac _
 have d6:Blk W0 wB.heap.size [.map (some mb)] 113:=by rw[hW0];exact((Blk.new wB [_] _).alloc _).alloc _
 have da:Blk W0 (wB.heap.size+1) zs 75:=by rw[hW0];exact(Blk.new_at _ _ _ (by simp)).alloc _
 have d7:Blk W0 (wB.heap.size+1+1) [.slice (some ⟨wB.heap.size+1,0,none⟩) ss.length ss.length] 267:=by rw[hW0];exact Blk.new_at _ [_] _ (by simp)
 have d2:=c2.out.bel kb
 have d3:=c3.out.bel kb
 have d4:=c4.out.bel kb
 have d5:=c5.out.bel kb
 have ds:Sp W0 mb (pagesOf stPerm λ_=>0):=HSB.out.bel kb
 have K0:Hid (Bel w W0):=xh (KB1.out.tr kb)
 have hsz0:W0.heap.size=wB.heap.size+1+1+1:=by rw[hW0];simp
 rw[←hW0]
 clear hW0 kb c2 c3 c4 c5 HSB KB1
 have D:=xh (And.intro d2 (And.intro d3 (And.intro d4 (And.intro d5 (And.intro d6 (And.intro da (And.intro d7 ds)))))))
 clear d2 d3 d4 d5 d6 da d7 ds
 have hgs:w.heap.size+1+1+1+1≤mb∧mb+1≤wB.heap.size:=⟨by omega,hszB⟩
 generalize wB.heap.size=gm at *
 generalize hg2:w.heap.size=g2 at *
 have HG2:=xh hg2
 have HSZ0:=xh hsz0
 clear hg2 hsz0
 go_wp2_with (go_at_call 115;refine Calls.mono (back_any p ss.length cap _) ?_;rintro e w' ⟨rfl,rfl⟩)
 have hcell:(W0.alloc (.cells #[.slice p ss.length cap] 31)).cell? ⟨W0.heap.size,0,none⟩=some (.slice p ss.length cap):=(Blk.new W0 [_] _).cell 0
 have KW1:Bel w (W0.alloc (.cells #[.slice p ss.length cap] 31)):=K0.out.ac _
 obtain⟨d2,d3,d4,d5,d6,da,d7,dsp⟩:=D.out
 have hz:zs=rowA (stP ss []) ss.length:=by
  apply List.ext_getElem?
  intro k
  unfold rowA
  by_cases hk:k<ss.length
  ·rw[List.getElem?_eq_getElem (by rw[HZL.out];exact hk),HZV.out _ (List.getElem_mem _),List.getElem?_map,List.getElem?_range hk]
   rfl
  ·rw[List.getElem?_eq_none (by rw[HZL.out];omega),List.getElem?_eq_none (by simp;omega)]
 rw[hz]at da
 have h0:SI ⟨g2,gm,mb,W0.heap.size⟩ ss w [] (W0.alloc (.cells #[.slice p ss.length cap] 31)):=
  ⟨d2.alloc _,d3.alloc _,d4.alloc _,d5.alloc _,d6.alloc _,da.alloc _,d7.alloc _,dsp.alloc _,λi hi=>(by cases hi),Below.mono KW1 (by rw[HG2.out];exact Nat.le_refl _),by simp⟩
 have hl7:=d7.lt
 have KWg:Below g2 w (W0.alloc (.cells #[.slice p ss.length cap] 31)):=by have:=KW1;unfold Bel at this;rw[HG2.out]at this;exact this
 have hlen:ss.length≤1000000:=by omega
 refine(wpIn_wide (n:=5)).1 ?_
 refine wpIn_rangeFunc_ownG (F:=Fence.wide) (n:=5) rfl (by omega) (gf:=153) (lb:= #[.pointer (some ⟨W0.heap.size,0,none⟩)]) rfl trivial (enters_of Tryz.func153 (by kernel_rfl) rfl)
  (back_stops Fence.wide (5-1) trivial rfl (by omega) W0.heap.size g2 p cap ss hlen (W0.alloc (.cells #[.slice p ss.length cap] 31)) (by simp) (by simp;omega) hcell (HS.out.below KWg))
  (λh k=>h.trans k) (KpS.putObj (by simp;omega) (by simp)) (Below.refl _ _) (λ_=>rfl)
  (SI ⟨g2,gm,mb,W0.heap.size⟩ ss w) (λc _ W=>SX ⟨g2,gm,mb,W0.heap.size⟩ ss w c W) (SI.own (by simp;omega) (by simp;omega)) (λc=>SX.own (by simp;omega)) h0
  (λx=>{tmps:= #[.slice p ss.length cap,undef,.pointer (some ⟨g2,0,none⟩),.pointer (some ⟨g2+1,0,none⟩),.pointer (some ⟨g2+1+1,0,none⟩),.pointer (some ⟨g2+1+1+1,0,none⟩),.pointer (some ⟨gm,0,none⟩),.pointer (some ⟨gm+1+1,0,none⟩),.int .i64 (x.1:Nat),.string (ss[x.1]'x.2),undef,undef,undef,undef,undef,.slice p ss.length cap,.int .i64 (ss.length:Nat),.bool (decide (8<(ss.length:Int))),undef,.map (some mb),.agg ps.toArray,.agg ps.toArray,.map (some mb),.slice p ss.length cap,.int .i64 (ss.length:Nat),.slice (some ⟨gm+1,0,none⟩) ss.length ss.length,.slice p ss.length cap,.func (.func 153) #[] #[.pointer (some ⟨W0.heap.size,0,none⟩)],.int .i64 (x.1:Nat),.string (ss[x.1]'x.2),undef,undef,undef,undef,undef,undef,undef,undef,undef,undef,undef,undef,undef,undef,undef,undef,undef,undef,undef,undef,undef,undef,undef,undef,undef,undef,undef,undef,undef,undef,undef,undef,undef,undef,undef,undef,undef,undef,undef,undef,undef,undef,undef,undef,undef,undef,undef,undef,undef,undef,undef,undef,undef,undef,undef,undef,undef,undef,undef,undef,undef],defers:=[]}) ?assign ?body ?done ?stop
 case assign=>
  intro l x W K hK
  gi_wp2
  exact hK
 case body=>
  rintro l pre x W hI hlt
  have hx:=x.2
  have hax:=arg_at ss x.1 hx
  obtain⟨s,hs⟩:∃s,ss[x.1]'x.2=s:=⟨_,rfl⟩
  rw[hs]at hax⊢
  obtain⟨cf,wf,hconv,hwf⟩:=conv_bytes s
  have HWF:=xh hwf
  have HI:=xh hI
  have HAX:=xh hax
  have hb:=st_bound ss (pre.map λi:Ix ss.length=>i.1) (λi hi=>by
   obtain⟨j,hj,rfl⟩:=List.mem_map.1 hi
   exact(goodA_iff.1 (hI.good j hj)).1)
  rw[List.length_map]at hb
  have he0:65288≤(stP ss pre).e-31:=by unfold stP;omega
  have he1:(stP ss pre).e≤65536:=hb.2
  have h2:=hI.r2
  have h3:=hI.r3
  have h4:=hI.r4
  have hl2:=h2.lt
  have hl3:=h3.lt
  have hl4:=h4.lt
  have HS2:=xh hs
  clear hwf hI hax hb hs
  have hbl:s.size=(bts s).length:=(bts_length s).symm
  by_cases hlen:30<s.size
  ·have HBAD:=xh (show ¬Good ss from λh=>by
    have:=(goodA_iff.1 (h x.1 hx)).1
    rw[HAX.out]at this
    omega)
   have hlen':(30:Int)<(s.size:Int):=by omega
   have c2:=h2.cell 0
   have c3:=h3.cell 0
   have c4:=h4.cell 0
   simp only[List.getElem?_cons_zero]at c2 c3 c4
   have f2:=h2.frozen 0
   have f3:=h3.frozen 0
   have f4:=h4.frozen 0
   have H2:=xh h2
   have H3:=xh h3
   have H4:=xh h4
   clear h2 h3 h4 hbl
   gi_wp2
   refine⟨trivial,?_⟩
   gi_wp2
   refine⟨(((KeepsOthers.setCell _ _ _).trans (KeepsOthers.setCell _ _ _)).trans (KeepsOthers.setCell _ _ _)).from _,⟨rfl,?_,?_,?_,HBAD.out,?_⟩⟩
   ·exact((H2.out.setCell (o:=0) (.map none)).setCell_other (a:=⟨g2+1,0,none⟩) (by simp) _).setCell_other (a:=⟨g2+1+1,0,none⟩) (by simp;omega) _
   ·exact((H3.out.setCell_other (a:=⟨g2,0,none⟩) (by simp) _).setCell (o:=0) (.int .u64 0)).setCell_other (a:=⟨g2+1+1,0,none⟩) (by simp) _
   ·exact((H4.out.setCell_other (a:=⟨g2,0,none⟩) (by simp;omega) _).setCell_other (a:=⟨g2+1,0,none⟩) (by simp) _).setCell (o:=0) (errN 6)
   ·exact((HI.out.bel.setCell (p:=⟨g2,0,none⟩) (Nat.le_refl _) _).setCell (p:=⟨g2+1,0,none⟩) (by simp) _).setCell (p:=⟨g2+1+1,0,none⟩) (by simp;omega) _
  ·have hlen':¬(30:Int)<(s.size:Int):=by omega
   have HW0:=HWF.out W
   have hbs:BS (wf W) (some ⟨W.heap.size,0,none⟩) (bts s):=⟨bts_byte s,λ_=>⟨_,_,rfl,by rw[HW0.2.1];omega,HW0.2.2.2⟩⟩
   have hcon:=contains_any (some ⟨W.heap.size,0,none⟩) (cf W) (bts s) (wf W) (by omega) hbs
   rw[bts_length]at hcon
   have kw:=HW0.1
   by_cases hz:(0:Int)∈bts s
   ·have HBAD:=xh (show ¬Good ss from λh=>by
     have:=(goodA_iff.1 (h x.1 hx)).2
     rw[HAX.out]at this
     exact this hz)
    rw[show decide ((0:Int)∈bts s)=true from decide_eq_true hz]at hcon
    have HCON:=xh hcon
    have H2:=xh (h2.bel kw)
    have H3:=xh (h3.bel kw)
    have H4:=xh (h4.bel kw)
    have HBL:=xh (HI.out.bel.trans (Below.mono kw (Nat.le_of_lt hl2)))
    have HKO:=xh (others_bel kw)
    have c2:=H2.out.cell 0
    have c3:=H3.out.cell 0
    have c4:=H4.out.cell 0
    simp only[List.getElem?_cons_zero]at c2 c3 c4
    have f2:=H2.out.frozen 0
    have f3:=H3.out.frozen 0
    have f4:=H4.out.frozen 0
    have l2:=H2.out.lt
    have l3:=H3.out.lt
    have l4:=H4.out.lt
    clear h2 h3 h4 hbl hcon HW0 hbs kw hz
    gi_wp2_with (refine⟨trivial,?_⟩;gi_at_call 116;refine(CallsIn.inRound l (callsIn_wide.2 HCON.out)).mono ?_;rintro e w1 ⟨rfl,rfl⟩)
    refine⟨(((HKO.out.trans (KeepsOthers.setCell _ _ _)).trans (KeepsOthers.setCell _ _ _)).trans (KeepsOthers.setCell _ _ _)).from _,⟨rfl,?_,?_,?_,HBAD.out,?_⟩⟩
    ·exact((H2.out.setCell (o:=0) (.map none)).setCell_other (a:=⟨g2+1,0,none⟩) (by simp) _).setCell_other (a:=⟨g2+1+1,0,none⟩) (by simp;omega) _
    ·exact((H3.out.setCell_other (a:=⟨g2,0,none⟩) (by simp) _).setCell (o:=0) (.int .u64 0)).setCell_other (a:=⟨g2+1+1,0,none⟩) (by simp) _
    ·exact((H4.out.setCell_other (a:=⟨g2,0,none⟩) (by simp;omega) _).setCell_other (a:=⟨g2+1,0,none⟩) (by simp) _).setCell (o:=0) (errN 6)
    ·exact((HBL.out.setCell (p:=⟨g2,0,none⟩) (Nat.le_refl _) _).setCell (p:=⟨g2+1,0,none⟩) (by simp) _).setCell (p:=⟨g2+1+1,0,none⟩) (by simp;omega) _
   ·rw[show decide ((0:Int)∈bts s)=false from decide_eq_false hz]at hcon
    have HCON:=xh hcon
    have HGOOD:Hid (goodA (arg ss x.1)=true):=xh (goodA_iff.2 (by rw[HAX.out];exact⟨by omega,hz⟩))
    have HI2:Hid (SI ⟨g2,gm,mb,W0.heap.size⟩ ss w pre (wf W)):=xh ⟨HI.out.r2.bel kw,HI.out.r3.bel kw,HI.out.r4.bel kw,HI.out.r5.bel kw,HI.out.r6.bel kw,HI.out.ra.bel kw,HI.out.r7.bel kw,HI.out.sp.bel kw,HI.out.good,HI.out.bel.trans (Below.mono kw (Nat.le_of_lt hl2)),Nat.lt_of_lt_of_le HI.out.sz kw.size⟩
    have HKO:=xh (others_bel kw)
    have HKP:Hid (KpS g2 W0.heap.size W (wf W)):=xh (λb hb=>kw.block b (by
     have:=HI.out.sz
     simp only at this
     omega))
    clear h2 h3 h4 hl2 hl3 hl4 hbl hcon HW0 hbs kw hz HI
    gi_upto_region 11 with(refine⟨trivial,?_⟩;gi_at_call 116;refine(CallsIn.inRound l (callsIn_wide.2 HCON.out)).mono ?_;rintro e w1 ⟨rfl,rfl⟩)
    generalize wf W=V1 at *
    have J:Hid (Blk V1 g2 [.map none] 113∧Blk V1 (g2+1) [.int .u64 0] 75∧Blk V1 (g2+1+1) [.nilIface] 41∧Blk V1 gm [.map (some mb)] 113∧Blk V1 (gm+1) (rowA (stP ss pre) ss.length) 75∧
     Blk V1 (gm+1+1) [.slice (some ⟨gm+1,0,none⟩) ss.length ss.length] 267∧Sp V1 mb (pagesOf stPerm (stP ss pre).M)∧Below g2 w V1):=xh ⟨HI2.out.r2,HI2.out.r3,HI2.out.r4,HI2.out.r6,HI2.out.ra,HI2.out.r7,HI2.out.sp,HI2.out.bel⟩
    have jsz:W0.heap.size<V1.heap.size:=HI2.out.sz
    have jgood:=xh HI2.out.good
    have j5:Blk V1 (g2+1+1+1) [.int .u64 (stP ss pre).e] 75:=HI2.out.r5
    clear HI2
    obtain⟨e0,he⟩:∃e0,(stP ss pre).e=e0:=⟨_,rfl⟩
    rw[he]at he0 he1 j5
    have HJ5:=xh j5
    have c5:V1.cell? ⟨g2+1+1+1,0,none⟩=some (.int .u64 e0):=j5.cell 0
    have f5:=j5.frozen 0
    have l5:=j5.lt
    clear j5
    have HE:=xh he
    obtain⟨A,hA⟩:∃A:Nat,e0-((s.size:Int)+1)=A:=⟨(e0-((s.size:Int)+1)).toNat,by omega⟩
    have hA1:65288≤A:=by omega
    have hA2:A+s.size+1≤65536:=by omega
    clear he
    gi_upto_region 12 with fail
    have HS5:=xh (HJ5.out.setCell (o:=0) (.int .u64 A))
    have HK2:Hid (Keep (λk=>k=g2+1+1+1) V1 (V1.setCell ⟨g2+1+1+1,0,none⟩ (.int .u64 A))):=xh (Keep.setCell _ _ _ _)
    have HO2:=xh (HKO.out.trans (KeepsOthers.setCell V1 ⟨g2+1+1+1,0,none⟩ (.int .u64 A)))
    generalize V1.setCell ⟨g2+1+1+1,0,none⟩ (.int .u64 A)=V2 at *
    have ha:=J.out.2.2.2.2.1.keep HK2.out (by omega)
    have h7:=J.out.2.2.2.2.2.1.keep HK2.out (by omega)
    have c7:V2.cell? ⟨gm+1+1,0,none⟩=some (.slice (some ⟨gm+1,0,none⟩) ss.length ss.length):=h7.cell 0
    have c5':V2.cell? ⟨g2+1+1+1,0,none⟩=some (.int .u64 A):=HS5.out.cell 0
    have ca:∃v,V2.cell? ⟨gm+1,x.1,none⟩=some v:=by
     rw[ha.cell];exact⟨_,List.getElem?_eq_getElem (by simp only[rowA,List.length_map,List.length_range];exact hx)⟩
    obtain⟨va,ca⟩:=ca
    have fa:=ha.frozen x.1
    have la:=ha.lt
    have hxi:((x.1:Nat):Int)<(ss.length:Int):=by omega
    have HA2:=xh ha
    clear c5 f5 l5 ha h7
    gi_upto_region 13 with fail
    have HSA:=xh (HA2.out.setCell (o:=x.1) (.int .u64 A))
    have HK3:Hid (Keep (λk=>k=gm+1) V2 (V2.setCell ⟨gm+1,x.1,none⟩ (.int .u64 A))):=xh (Keep.setCell _ _ _ _)
    have HO3:=xh (HO2.out.trans (KeepsOthers.setCell V2 ⟨gm+1,x.1,none⟩ (.int .u64 A)))
    generalize V2.setCell ⟨gm+1,x.1,none⟩ (.int .u64 A)=V3 at *
    have h6:=(J.out.2.2.2.1.keep HK2.out (by omega)).keep HK3.out (by omega)
    have c6:V3.cell? ⟨gm,0,none⟩=some (.map (some mb)):=h6.cell 0
    have c5:V3.cell? ⟨g2+1+1+1,0,none⟩=some (.int .u64 A):=(HS5.out.keep HK3.out (by omega)).cell 0
    have hw3:=HWF.out V3
    have hsp3:=(((J.out.2.2.2.2.2.2.1.keep HK2.out (by omega)).keep HK3.out (by omega))).bel hw3.1
    have hpk:=poke_any mb stPerm (stP ss pre).M A (bts s) (some ⟨V3.heap.size,0,none⟩) V3.heap.size 0 (cf V3) (wf V3) hsp3 (by rw[bts_length];omega) (λ_=>rfl) hw3.2.2.2 (by rw[bts_length];exact hw3.2.2.1) (λa h1 h2=>by
     rw[bts_length]at h2
     unfold stPerm
     rw[if_pos (by omega)];rfl)
    rw[bts_length]at hpk
    have HPK:=xh hpk
    have HW3:=xh hw3.1
    clear h6 hw3 hsp3 hpk ca fa la c7 c5'
    gi_wp2_with (refine⟨trivial,?_⟩;gi_at_call 117;refine(CallsIn.inRound l (callsIn_wide.2 HPK.out)).mono ?_;rintro e V4 ⟨rfl,hsp4,hk4⟩)
    have HST:stP ss (pre++[x])=⟨A,pokeM (stP ss pre).M A (bts s),setF (stP ss pre).A x.1 A⟩:=by
     rw[stP_snoc]
     unfold stStep
     rw[HAX.out,bts_length,HE.out,hA,Int.toNat_natCast]
    have z2:=HK2.out.size
    have z3:=HK3.out.size
    have z4:=HW3.out.size
    have kpB:∀{b:Nat} {c:List Value} {t:TypeId},Blk V1 b c t→b≠g2+1+1+1→b≠gm+1→b≠mb→Blk V4 b c t:=λh h1 h2 h3=>(((h.keep HK2.out h1).keep HK3.out h2).bel HW3.out).keep hk4 h3
    have kq:Keep (λk=>g2≤k) V1 V4:=((((HK2.out.mono (λk hk=>by omega)).tr (HK3.out.mono (λk hk=>by omega))).tr (Keep.of_bel _ HW3.out)).tr (hk4.mono (λk hk=>by omega)))
    refine⟨((HO3.out.trans (others_bel HW3.out)).from _).trans (from_keep hk4 (λk hk=>by simp;omega)),?_,⟨?_,?_,?_,?_,?_,?_,?_,?_,?_,?_,?_⟩⟩
    ·exact((HKP.out.trans (kps_keep HK2.out (λk hk=>by omega) (by omega) jsz)).trans (kps_keep HK3.out (λk hk=>by omega) (by omega) (by omega))).trans ((kps_keep (Keep.of_bel (λ_=>False) HW3.out) (λk hk=>hk.elim) (by omega) (by omega)).trans (kps_keep hk4 (λk hk=>by omega) (by omega) (by omega)))
    ·have:=kpB J.out.1 (by omega) (by omega) (by omega)
     exact this
    ·have:=kpB J.out.2.1 (by omega) (by omega) (by omega)
     exact this
    ·have:=kpB J.out.2.2.1 (by omega) (by omega) (by omega)
     exact this
    ·rw[HST];exact((HS5.out.keep HK3.out (by omega)).bel HW3.out).keep hk4 (by show ¬g2+1+1+1=mb;omega)
    ·have:=kpB J.out.2.2.2.1 (by omega) (by omega) (by omega)
     exact this
    ·have:=(HSA.out.bel HW3.out).keep hk4 (by show ¬gm+1=mb;omega)
     rw[rowA_set _ _ _ _ (pokeM (stP ss pre).M A (bts s)) A]at this
     rw[HST];exact this
    ·have:=kpB J.out.2.2.2.2.2.1 (by omega) (by omega) (by omega)
     exact this
    ·rw[HST];exact hsp4
    ·intro i hi
     rcases List.mem_append.1 hi with hi|hi
     ·exact jgood.out i hi
     ·obtain rfl:=List.mem_singleton.1 hi
      exact HGOOD.out
    ·exact J.out.2.2.2.2.2.2.2.trans (kq.below g2 (by omega) (λk hk=>hk))
    ·have:=hk4.size
     show W0.heap.size<V4.heap.size
     omega
 case done=>
  rintro D ys W hD rfl hI hK
  have hst:stP ss (revIx ss.length ss.length)=stAll ss:=by unfold stP stAll;rw[revIx_val _ _ (Nat.le_refl _),Nat.sub_self]
  have hgood:Good ss:=λi hi=>by
   have hm:i∈(revIx ss.length ss.length).map (λi:Ix ss.length=>i.1):=by
    rw[revIx_val _ _ (Nat.le_refl _),Nat.sub_self]
    unfold revTo
    simpa using hi
   obtain⟨j,hj,rfl⟩:=List.mem_map.1 hm
   exact hI.good j hj
  have J:Hid (Blk W g2 [.map none] 113∧Blk W (g2+1) [.int .u64 0] 75∧Blk W (g2+1+1) [.nilIface] 41∧Blk W gm [.map (some mb)] 113∧Blk W (gm+1) (rowA (stAll ss) ss.length) 75∧
   Blk W (gm+1+1) [.slice (some ⟨gm+1,0,none⟩) ss.length ss.length] 267∧Sp W mb (pagesOf stPerm (stAll ss).M)∧Below g2 w W):=xh (by rw[←hst];exact⟨hI.r2,hI.r3,hI.r4,hI.r6,hI.ra,hI.r7,hI.sp,hI.bel⟩)
  have j5:Blk W (g2+1+1+1) [.int .u64 (stAll ss).e] 75:=by rw[←hst];exact hI.r5
  have hbd:=stAll_bound ss hgood hn
  have hsb:=sp_bound ss hgood hn
  have HGOOD:=xh hgood
  have HDK:=xh hK
  have hDl:D<W.heap.size:=(Array.getElem?_eq_some_iff.1 hK).1
  have hD2:gm+1+1<D:=by simp at hD;omega
  obtain⟨e0,he⟩:∃e0,(stAll ss).e=e0:=⟨_,rfl⟩
  obtain⟨spn,hspn⟩:∃spn:Nat,spOf (stAll ss) ss.length=spn:=⟨(spOf (stAll ss) ss.length).toNat,by omega⟩
  have hand:bits .andNot .u64 (e0-8*((ss.length:Int)+2)) 15=(spn:Int):=by
   rw[and_not15 _ (by omega) (by omega),←hspn,←he];rfl
  rw[he]at hbd hsb j5
  rw[hspn]at hsb
  obtain⟨hb0,hb1⟩:=hbd
  obtain⟨hs0,hs1,hs2⟩:=hsb
  have HE:=xh he
  have HSPN:=xh hspn
  have c5:W.cell? ⟨g2+1+1+1,0,none⟩=some (.int .u64 e0):=j5.cell 0
  have c7:W.cell? ⟨gm+1+1,0,none⟩=some (.slice (some ⟨gm+1,0,none⟩) ss.length ss.length):=J.out.2.2.2.2.2.1.cell 0
  clear hst hgood he hspn hI j5 hK
  go_upto_region 15 with fail
  have HLR:Hid ((rowA (stAll ss) ss.length).length=ss.length*1):=xh (by simp[rowA])
  have HOR:Hid (∀v∈rowA (stAll ss) ss.length,v.oneCell'=true):=xh (λv hv=>by obtain⟨i,_,rfl⟩:=List.mem_map.1 hv;rfl)
  have HWE:=xh (words_eq (stAll ss) ss.length)
  generalize rowA (stAll ss) ss.length=ra at *
  go_upto_region 16 with(first
   | (refine wpList_buildSlice_one rfl 267 75 (.tmp 64) rfl [.int .u64 (ss.length:Nat)] rfl Tryz.underlying267 wordInfo3 (by show 0<1;omega) (by show 1≤2^24;omega) ?_;intro V1 B1 K1
      have J1:=xh (J.out.2.2.2.2.1.bel K1)
      have c7':V1.cell? ⟨gm+1+1,0,none⟩=some (.slice (some ⟨gm+1,0,none⟩) ss.length ss.length):=(J.out.2.2.2.2.2.1.bel K1).cell 0)
   | (refine wpList_append_blk rfl (.tmp 65) (.tmp 66) 267 rfl Tryz.underlying267 wordInfo3 (by omega) rfl (row_of_new B1.out rfl (Nat.le_refl W.heap.size)) (gm+1) ss.length ss.length ra 75 rfl J1.out HLR.out HOR.out (by unfold maxLen;omega) (by omega) K1.size ?_;intro v2 V2 R2 K2)
   | (refine wpList_buildSlice_one rfl 267 75 (.const (.int .u64 0)) rfl [.int .u64 0] rfl Tryz.underlying267 wordInfo3 (by show 0<1;omega) (by show 1≤2^24;omega) ?_;intro V3 B3 K3)
   | (refine wpList_append_one rfl (.tmp 67) (.tmp 68) 267 rfl Tryz.underlying267 wordInfo3 (by omega) rfl (row_bel R2 K3) _ [.int .u64 0] 75 rfl B3.out rfl (by intro v hv;simp at hv;rcases hv with rfl;rfl) (by unfold maxLen;omega) (by omega) (Nat.le_trans K1.size (Nat.le_trans K2.size K3.size)) ?_;intro v4 V4 R4 K4))
  have hKW:Keep (λi=>W.heap.size≤i) W V4:=((((Keep.of_bel _ K1).tr (K2)).tr (Keep.of_bel _ K3)).tr K4)
  rw[HWE.out,show 1+ss.length+1=ss.length+2 from by omega]at R4
  obtain⟨pw,cw,rfl,_,_,hpw⟩:=row_slice R4
  obtain⟨gw,rfl,hgw0,hgw1,hgw2,_⟩:=hpw.resolve_left (by omega)
  have HKW:=xh hKW
  have HCW:Hid (∀j,j<ss.length+2→V4.cell? ⟨gw,j,none⟩=some (.int .u64 (wordAt (stAll ss) ss.length j))):=xh (λj hj=>by
   rw[hgw2 j (by simpa using hj),List.getElem?_map,List.getElem?_range hj];rfl)
  clear hKW R4 hpw hgw2 B1 B3 K1 K2 K3 K4 R2 J1 c7' HLR HOR HWE c5 c7
  have hmbW:mb<W.heap.size:=J.out.2.2.2.2.2.2.1.lt
  have hgmW:gm<W.heap.size:=J.out.2.2.2.1.lt
  have HSP4:Hid (Sp V4 mb (pagesOf stPerm (finTo (stAll ss) ss.length 0))):=xh (J.out.2.2.2.2.2.2.1.keep HKW.out (by omega))
  have HM4:Hid (Blk V4 gm [.map (some mb)] 113):=xh (J.out.2.2.2.1.keep HKW.out (by omega))
  have hszV:W.heap.size≤V4.heap.size:=HKW.out.size
  have hsz8:V4.heap.size≤V4.heap.size:=Nat.le_refl _
  go_wp2
  go_loopw [72] (λi wr=>∃k:Nat,k≤ss.length+2∧i=.int .i64 k∧Sp wr mb (pagesOf stPerm (finTo (stAll ss) ss.length k))∧Keep (λq=>q=mb) V4 wr) (λi _=>ss.length+2-(intOf i).toNat)
  case atStart=>exact⟨0,Nat.zero_le _,rfl,HSP4.out,Keep.refl _ _⟩
  case round=>
   obtain⟨k,hk,rfl,hsp,hkr⟩:=hrel
   have HSP:=xh hsp
   have HKR:=xh hkr
   have hzr:=hkr.size
   clear hsp hkr
   by_cases hlt:k<ss.length+2
   ·have hcw:wr.cell? ⟨gw,k,none⟩=some (.int .u64 (wordAt (stAll ss) ss.length k)):=(HKR.out.cell ⟨gw,k,none⟩ hgw1 (by show ¬gw=mb;omega)).trans (HCW.out k hlt)
    have hwb:=word_bound ss HGOOD.out hn k
    have HFIN:Hid (finTo (stAll ss) ss.length (k+1)=pokeM (finTo (stAll ss) ss.length k) (spn+8*k) (bytes8 (wordAt (stAll ss) ss.length k))):=xh (by rw[finTo,HSPN.out,Int.toNat_natCast])
    obtain⟨hw0,hw1⟩:=hwb
    generalize wordAt (stAll ss) ss.length k=wk at *
    go_upto_region 20 with fail
    have kA:Bel wr (wr.alloc (.cells #[.int .u8 0,.int .u8 0,.int .u8 0,.int .u8 0,.int .u8 0,.int .u8 0,.int .u8 0,.int .u8 0] 273)):=Below.heap_alloc' wr _
    have BA:Blk (wr.alloc (.cells #[.int .u8 0,.int .u8 0,.int .u8 0,.int .u8 0,.int .u8 0,.int .u8 0,.int .u8 0,.int .u8 0] 273)) wr.heap.size (rowOf (λ_=>0) 8) 273:=Blk.new wr [_,_,_,_,_,_,_,_] _
    generalize wr.alloc (.cells #[.int .u8 0,.int .u8 0,.int .u8 0,.int .u8 0,.int .u8 0,.int .u8 0,.int .u8 0,.int .u8 0] 273)=VA at *
    have HPUT:=xh (put_any wr.heap.size 0 8 (λ_=>0) 273 8 wk VA BA (by omega) (by omega) (by omega) hw0 (by omega))
    have KA:=xh kA
    have hgA:wr.heap.size<VA.heap.size:=BA.lt
    clear kA BA
    go_upto_region 21 with(go_at_call 118;with_reducible refine Calls.mono HPUT.out ?_;rintro e VB ⟨rfl,BB,KB⟩)
    rw[row8]at BB
    have hcm:VB.cell? ⟨gm,0,none⟩=some (.map (some mb)):=(((HM4.out.keep HKR.out (by show ¬gm=mb;omega)).bel KA.out).keep KB (by show ¬gm=wr.heap.size;omega)).cell 0
    have hspB:Sp VB mb (pagesOf stPerm (finTo (stAll ss) ss.length k)):=((HSP.out.bel KA.out).keep KB (by have:=HSP.out.lt;show ¬mb=wr.heap.size;omega))
    have HBT:Hid (Bts VB wr.heap.size 0 (bytes8 wk)):=xh ⟨λi hi=>by rw[Nat.zero_add,BB.cell,List.getElem?_map],bytes8_byte wk hw0 (by omega)⟩
    have HPK:Hid (∀V,Bel VB V→Calls Tryz.prog 117 #[.map (some mb),.int .u64 ((spn:Int)+8*k),.slice (some ⟨wr.heap.size,0,none⟩) 8 8] V λe w'=>e=.returned (.tuple #[])∧Sp w' mb (pagesOf stPerm (finTo (stAll ss) ss.length (k+1)))∧Keep (λk=>k=mb) V w'):=xh (λV hV=>by
     have:=poke_any mb stPerm (finTo (stAll ss) ss.length k) (spn+8*k) (bytes8 wk) (some ⟨wr.heap.size,0,none⟩) wr.heap.size 0 8 V (hspB.bel hV) (by rw[bytes8_length];omega) (λ_=>rfl) (HBT.out.keep (Keep.of_bel (λ_=>False) hV) (λ_ h=>h)) (by rw[bytes8_length];omega) (λa h1 h2=>by
      rw[bytes8_length]at h2
      unfold stPerm
      rw[if_pos (by omega)];rfl)
     rw[bytes8_length,←HFIN.out,show((spn+8*k:Nat):Int)=(spn:Int)+8*k from by omega]at this
     exact this)
    have HKB:Hid (Keep (λq=>q=mb) V4 VB):=xh ((HKR.out.tr (Keep.of_bel _ KA.out)).tr_new KB (λi hi=>.inr (by omega)))
    have hk8:IntKind.u64.wrap ((spn:Int)+8*k)=(spn:Int)+8*k:=by rw[IntKind.wrap_u64];omega
    have hk9:IntKind.u64.wrap (8*(k:Int))=8*k:=by rw[IntKind.wrap_u64];omega
    clear hspB BB KB
    go_still_tail 7,(by kernel_rfl)
    change wpList _ _ _ _ _ VB.drew
    have kd:Bel VB VB.drew:=Below.drew (Below.refl _ _)
    generalize VB.drew=VC at *
    have HKD:=xh kd
    clear kd
    go_wp2_with (go_at_call 117;with_reducible refine Calls.mono (HPK.out VC HKD.out) ?_;rintro e VD ⟨rfl,hspD,hkD⟩)
    have HSD:=xh hspD
    have HKDD:=xh hkD
    clear hspD hkD
    go_roundw
    case rel=>exact⟨k+1,by omega,by go_num,HSD.out,(HKB.out.tr (Keep.of_bel _ HKD.out)).tr HKDD.out⟩
    case measure=>simp[intOf]<;>omega
   ·obtain rfl:k=ss.length+2:=by omega
    have hkk:Keep (λq=>W.heap.size≤q∨q=mb) W wr:=(HKW.out.mono (λ_ h=>.inl h)).tr (HKR.out.mono (λ_ h=>.inr h))
    have HKK:=xh hkk
    have e2:=J.out.1.keep hkk (by have:=J.out.1.lt;omega)
    have e3:=J.out.2.1.keep hkk (by have:=J.out.2.1.lt;omega)
    have e4:=J.out.2.2.1.keep hkk (by have:=J.out.2.2.1.lt;omega)
    have e6:=J.out.2.2.2.1.keep hkk (by omega)
    have HD2:Hid (wr.heap[D]?=some (.deferred (some []))):=xh ((hkk.block D hDl (by omega)).trans HDK.out)
    have x2:=e2.cell 0
    have x3:=e3.cell 0
    have x4:=e4.cell 0
    have x6:=e6.cell 0
    simp only[List.getElem?_cons_zero]at x2 x3 x4 x6
    have f2:=e2.frozen 0
    have f3:=e3.frozen 0
    have f4:=e4.frozen 0
    have l2:=e2.lt
    have l3:=e3.lt
    have l4:=e4.lt
    have E2:=xh e2
    have E3:=xh e3
    have E4:=xh e4
    clear e2 e3 e4 e6 hkk hszV hsz8
    go_wp2
    have HD3:(((wr.setCell ⟨g2,0,none⟩ (.map (some mb))).setCell ⟨g2+1,0,none⟩ (.int .u64 spn)).setCell ⟨g2+1+1,0,none⟩ .nilIface).heap[D]?=some (.deferred (some [])):=
     (((KeepsOthers.setCell _ _ _).trans (KeepsOthers.setCell _ _ _)).trans (KeepsOthers.setCell _ _ _)).same D _ HD2.out rfl
    have E2':=(((E2.out.setCell (o:=0) (.map (some mb))).setCell_other (a:=⟨g2+1,0,none⟩) (by simp) (.int .u64 spn)).setCell_other (a:=⟨g2+1+1,0,none⟩) (by simp;omega) .nilIface)
    have E3':=(((E3.out.setCell_other (a:=⟨g2,0,none⟩) (by simp) (.map (some mb))).setCell (o:=0) (.int .u64 spn)).setCell_other (a:=⟨g2+1+1,0,none⟩) (by simp) .nilIface)
    have E4':=(((E4.out.setCell_other (a:=⟨g2,0,none⟩) (by simp;omega) (.map (some mb))).setCell_other (a:=⟨g2+1,0,none⟩) (by simp) (.int .u64 spn)).setCell (o:=0) .nilIface)
    have HSPF:=((HSP.out.setCell (a:=⟨g2,0,none⟩) (.map (some mb))).setCell (a:=⟨g2+1,0,none⟩) (.int .u64 spn)).setCell (a:=⟨g2+1+1,0,none⟩) .nilIface
    have hB0:Below g2 w wr:=J.out.2.2.2.2.2.2.2.trans (HKK.out.below g2 (by omega) (λq hq=>by omega))
    have HBF:=((hB0.setCell (p:=⟨g2,0,none⟩) (Nat.le_refl _) (.map (some mb))).setCell (p:=⟨g2+1,0,none⟩) (by simp) (.int .u64 spn)).setCell (p:=⟨g2+1+1,0,none⟩) (by simp;omega) .nilIface
    generalize (((wr.setCell ⟨g2,0,none⟩ (.map (some mb))).setCell ⟨g2+1,0,none⟩ (.int .u64 spn)).setCell ⟨g2+1+1,0,none⟩ .nilIface)=WF at *
    have hg:=grownBy_putObj' WF D (.deferred none)
    have hr:∀r,some D=some r→D≤r∧∃o:Obj,WF.heap[r]?=some o∧o.isCells=false:=λr e=>by cases e;exact⟨Nat.le_refl _,_,HD3,rfl⟩
    have y2:=(own_blk E2' hg hr).cell 0
    have y3:=(own_blk E3' hg hr).cell 0
    have y4:=(own_blk E4' hg hr).cell 0
    simp only[List.set_cons_zero,List.getElem?_cons_zero]at y2 y3 y4
    have HB:=xh (own_below HBF (by omega) (Nat.le_of_lt E2'.lt) hg hr)
    have HSPO:=xh (own_sp HSPF (by omega) hg hr)
    rw[←HG2.out]at HB
    refine⟨by simp,.inl ⟨_,_,rfl,run_takeDeferred HD3,?_⟩⟩
    refine⟨.tuple #[.map (some mb),.int .u64 spn,.nilIface],by simp[results,Tryz.results70,go_sem,y2,y3,y4],HB.out,λ_=>⟨mb,by rw[HSPN.out],HSPO.out⟩,λh=>absurd HGOOD.out h⟩
 case stop=>
  rintro D c pre W hD _ hX hK
  obtain⟨rfl,h2,h3,h4,hbad,hbel⟩:=hX
  have hg:=grownBy_putObj' W D (.deferred none)
  have hr:∀r,some D=some r→D≤r∧∃o:Obj,W.heap[r]?=some o∧o.isCells=false:=λr e=>by cases e;exact⟨Nat.le_refl _,_,hK,rfl⟩
  have c2:=(own_blk h2 hg hr).cell 0
  have c3:=(own_blk h3 hg hr).cell 0
  have c4:=(own_blk h4 hg hr).cell 0
  simp only[List.getElem?_cons_zero]at c2 c3 c4
  have HB:=xh (own_below hbel (by simp only;simp at hD;omega) (Nat.le_of_lt h2.lt) hg hr)
  simp only at HB
  rw[←HG2.out]at HB
  clear h2 h3 h4 hbel
  gi_wp2
  refine⟨by simp,.inl ⟨_,_,rfl,run_takeDeferred hK,?_⟩⟩
  refine⟨.tuple #[.map none,.int .u64 0,errN 6],by simp[results,Tryz.results70,go_sem,c2,c3,c4],HB.out,λh=>absurd h hbad,λ_=>rfl⟩
end Go.Proofs.YtjdaddmjpicflaaGreatDoor
