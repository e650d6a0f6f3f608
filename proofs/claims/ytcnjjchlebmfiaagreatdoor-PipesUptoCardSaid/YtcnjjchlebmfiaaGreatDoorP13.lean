/-.-/
import Derived.Test.YtcnjjchlebmfiaaGreatDoorP09
import Derived.Test.YtcnjjchlebmfiaaGreatDoorP12
import Derived.Lib.ConvBytes
import Derived.Lib.BufferWrite
set_option linter.unusedVariables false
set_option linter.unusedSimpArgs false
set_option maxRecDepth 100000
set_option maxHeartbeats 16000000
namespace Go.Proofs.YtcnjjchlebmfiaaGreatDoor
section
open Go.Proofs.Tryz Go.RowKit Go.Maps Go.Shelf
attribute [local go_sem] Oper.semAt_some
theorem uC{P:Program}(n:Nat){f:FuncId}{fn:Func}{c:Code}{args:Array Value}{w:World}{R:Ending→World→Prop}(hf:P.funcs[f]?=some fn)(hb:fn.body=some c)
 (h:c.wp P (bodyPostM Fence.wide n P fn R) {tmps:=args++Array.replicate (fn.ntmps-args.size) undef,defers:=[]} w):Calls P f args w R:=
 (callsIn_wide (n:=n)).1 (callsIn_of_wp_marks hf hb trivial (wpIn_wide.2 h) rfl)
def dB(n:Nat):Option Int:=if n=254∨n=255 then some 6 else none
theorem Sr:(prog.info? 37).map (λi=>(i.zero,i.size,i.bytes))=some (some (.int .u64 0),1,8):=by kernel_rfl
theorem J4(n:Nat)(hn:n≤1000):∃zs:List Value,zs.length=n∧(∀v∈zs,v=.int .u64 0)∧∀(w:World),(Instr.makeSlice 323 (.int .i64 (n:Int)) (.int .i64 (n:Int))).run prog w=.ok (.slice (some ⟨w.heap.size,0,none⟩) n n) (w.alloc (.cells zs.toArray 37)):=by
 obtain⟨i,hi,h1,h2,h3⟩:=info_parts Sr;refine⟨(madeCells (Value.int .u64 0).cells (n*i.size)).toList,by rw[h2];simp[size_madeCells],?_,λw=>?_⟩
 ·intro v hv
  simp[madeCells,Value.cells]at hv
  obtain⟨a,_,h⟩:=hv;rw[Nat.mod_one]at h;exact h.symm
 ·have:=run_makeSlice (P:=prog) (w:=w) 323 37 i (.int .u64 0) underlying323 hi h1 .i64 .i64 n n (by omega) (by omega) (by rw[h2];omega) (by rw[h3];omega) (by omega)
  simpa using this
theorem J5(s:ByteArray):∃(cf:World→Nat) (wf:World→World),(∀W,(convert 9 59 (.string s)).run prog W=.ok (.slice (some ⟨W.heap.size,0,none⟩) s.size (cf W)) (wf W))∧
 ∀W,Bel W (wf W)∧(wf W).heap.size=W.heap.size+1∧s.size≤cf W∧iL (wf W) W.heap.size 0 (vw s):=by
 refine⟨λW=>grownCap W s.size 0 5,λW=>Lib.bytesWorld W 5 s,λW=>Lib.run_convert_string_bytes W 9 59 5 s underlying9 underlying59 underlying5,λW=>⟨⟨?_,?_,?_,?_,λk hk=>Lib.bytesWorld_at_old W _ s k hk⟩,Lib.bytesWorld_size W _ s,?_,⟨λi hi=>?_,yX s⟩⟩⟩
 ·simp[Lib.bytesWorld,World.freeze,World.alloc,World.drew,-World.alloc_eq,-World.drew_eq]
 ·simp[Lib.bytesWorld,World.freeze,World.alloc,World.drew,-World.alloc_eq,-World.drew_eq]
 ·simp[Lib.bytesWorld,World.freeze,World.alloc,World.drew,-World.alloc_eq,-World.drew_eq]
 ·rw[Lib.bytesWorld_size];omega
 ·exact grownCap_ge W s.size 0 5
 ·rw[Nat.zero_add,Lib.bytesWorld_cell W _ s i (by rw[←bR];exact hi)]
  unfold vw;rw[dA,List.getD_eq_getElem?_getD,bP (by simpa [vw]using hi)];rfl
structure xW where
 g2:Nat
 gm:Nat
 mb:Nat
 gB:Nat
def sF(st:LG)(n:Nat):List Value:=(List.range n).map λi=>Value.int .u64 (st.A i)
theorem Su(st:LG)(n i:Nat)(x:Int)(M:Nat→Int)(e:Int):(sF st n).set i (.int .u64 x)=sF ⟨e,M,lK st.A i x⟩ n:=by
 apply List.ext_getElem?
 intro k;simp only[sF,List.getElem?_set,dA,fJ,List.length_range,lK]
 by_cases hk:k<n
 ·rw[List.getElem?_range hk]
  by_cases hi:i=k
  ·subst hi;simp[hk]
  ·simp[hi,Ne.symm hi]
 ·rw[List.getElem?_eq_none (by simp;omega)]
  by_cases hi:i=k
  ·subst hi;simp[hk]
  ·simp[hi]
def Ak(ss:List ByteArray)(pre:List (Ix ss.length)):LG:=lI ss (pre.map λi:Ix ss.length=>i.1)
theorem Sv(ss:List ByteArray)(pre:List (Ix ss.length))(x:Ix ss.length):Ak ss (pre++[x])=mX ss (Ak ss pre) x.1:=by simp[Ak,kQ]
structure SI(q:xW)(ss:List ByteArray)(w:World)(pre:List (Ix ss.length))(W:World):Prop where
 r2:Blk W q.g2 [.map none] 113
 r3:Blk W (q.g2+1) [.int .u64 0] 37
 r4:Blk W (q.g2+1+1) [.nilIface] 46
 r5:Blk W (q.g2+1+1+1) [.int .u64 (Ak ss pre).e] 37
 r6:Blk W q.gm [.map (some q.mb)] 113
 ra:Blk W (q.gm+1) (sF (Ak ss pre) ss.length) 37
 r7:Blk W (q.gm+1+1) [.slice (some ⟨q.gm+1,0,none⟩) ss.length ss.length] 323
 sp:Sp W q.mb (aR dB (Ak ss pre).M)
 good:∀i∈pre,zM (arg ss i.1)=true
 bel:Below q.g2 w W
 sz:q.gB<W.heap.size
structure SX(q:xW)(ss:List ByteArray)(w:World)(c:Code)(W:World):Prop where
 c:c=.ret
 r2:Blk W q.g2 [.map none] 113
 r3:Blk W (q.g2+1) [.int .u64 0] 37
 r4:Blk W (q.g2+1+1) [eD 6] 46
 bad:¬Good ss
 bel:Below q.g2 w W
theorem fF{B:Nat}{W W':World}{row:Option Nat}{b:Nat}{c:List Value}{t:TypeId}(h:Blk W b c t)(hg:W.grownBy W' row)(hr:∀r,row=some r→B≤r∧∃o:Obj,W.heap[r]?=some o∧o.isCells=false):Blk W' b c t:=
 (hg.block b h.lt λe=>by
   obtain⟨_,o,h1,h2⟩:=hr b e.symm;unfold Blk at h;rw[h]at h1;cases h1
   cases h2).trans h
theorem Sw{B:Nat}{W W':World}{row:Option Nat}{b:Nat}{m:aU}(h:Sp W b m)(hb:b<B)(hg:W.grownBy W' row)(hr:∀r,row=some r→B≤r∧∃o:Obj,W.heap[r]?=some o∧o.isCells=false):Sp W' b m:=
 h.of_block (hg.block b h.lt λe=>by have:=(hr b e.symm).1;omega)
theorem own_below{B g:Nat}{w W W':World}{row:Option Nat}(h:Below g w W)(hb:g≤B)(hgs:g≤W.heap.size)(hg:W.grownBy W' row)(hr:∀r,row=some r→B≤r∧∃o:Obj,W.heap[r]?=some o∧o.isCells=false):Below g w W':=
 h.trans ⟨hg.os,hg.tape,hg.output,hg.size,λk hk=>hg.block k (by omega) λe=>by have:=(hr k e.symm).1;omega⟩
theorem SI.own{q:xW}{ss:List ByteArray}{w:World}{B:Nat}(h1:q.mb<B)(h2:q.g2≤B):OwnFrom B (SI q ss w):=λs W W' row hs hg hr=>
 ⟨fF hs.r2 hg hr,fF hs.r3 hg hr,fF hs.r4 hg hr,fF hs.r5 hg hr,fF hs.r6 hg hr,fF hs.ra hg hr,fF hs.r7 hg hr,Sw hs.sp h1 hg hr,hs.good,own_below hs.bel h2 (Nat.le_of_lt hs.r2.lt) hg hr,Nat.lt_of_lt_of_le hs.sz hg.size⟩
theorem SX.own{q:xW}{ss:List ByteArray}{w:World}{B:Nat}{c:Code}(h2:q.g2≤B):OwnFrom B (λ(_:List (Ix ss.length)) W=>SX q ss w c W):=λs W W' row hs hg hr=>
 ⟨hs.c,fF hs.r2 hg hr,fF hs.r3 hg hr,fF hs.r4 hg hr,hs.bad,own_below hs.bel h2 (Nat.le_of_lt hs.r2.lt) hg hr⟩
theorem qQ:(prog.info? 37).map (λi=>(i.size,i.bytes,(i.zero.map (·.cells.size))))=some (1,8,some 1):=by kernel_rfl
theorem uD{P:Program}{w:World}{base:Nat}{e:TypeId}{size:Nat}{v:Value}{n:Nat}{xs:List Value}{ops:Array Oper}{rest:List Oper}{o:Oper}{a:Act}{Q:Exit→Act→World→Prop}(hgd:o.guard=none)(s x:Operand)(t:TypeId)
 (ho:o.op=.call {callee:=.builtin .append,args:= #[s,x],argTypes:= #[t,t]}){bytes:Nat}(ht:P.underlying t=some (.slice e))
 (hi:(P.info? e).map (λi=>(i.size,i.bytes,(i.zero.map (·.cells.size))))=some (size,bytes,some size))(hsz:0<size)
 (hs:a.eval s=v)(hown:w.ownsRow base e size v n xs)(g m c:Nat)(cs:List Value)(t':TypeId)(hx:a.eval x=.slice (some ⟨g,0,none⟩) m c)(hB:Blk w g cs t')(hl:cs.length=m*size)(h1:∀u∈cs,u.oneCell'=true)
 (h63:n+m≤maxLen)(hbytes:(n+m)*bytes≤140737488355328)(hbase:base≤w.heap.size)
 (h:∀v' w',w'.ownsRow base e size v' (n+m) (xs++cs)→Keep (λi=>base≤i) w w'→wpList P ops Q rest (a.put o.dst v') w'):wpList P ops Q (o::rest) a w:=by
 obtain⟨i,z,hi,hz,e1,e2,e3⟩:=info_of hi;refine wpList_append_own w hgd s x t ho base e i z size bytes ht hi hz e1 e2 e3 hsz v n xs hs hown ⟨g,0,none⟩ m c cs hx hl (λj u hj=>?_) h1 h63 hbytes hbase λv' w' k1 k2 _=>h v' w' k1 (grown_keep k2 hown);rw[show(⟨g,0,none⟩:Addr).add j=⟨g,j,none⟩from by unfold Addr.add;split<;>simp_all];rw[hB.cell];exact hj
theorem J6{w:World}{g base:Nat}{e t:TypeId}{c:Value}(h:w.heap[g]?=some (.cells [c].toArray t (0,0)))(ht:t=e)(hb:base≤g):w.ownsRow base e 1 (.slice (some ⟨g,0,none⟩) 1 1) 1 [c]:=by
 subst ht;exact⟨rfl,.inr ⟨g,1,[c].toArray,rfl,hb,h,bH _,by unfold maxLen;omega,rfl,rfl⟩⟩
theorem Sy(st:LG)(n:Nat):[Value.int .u64 n]++sF st n++[Value.int .u64 0]=(List.range (n+2)).map λk=>Value.int .u64 (gI st n k):=by
 apply List.ext_getElem?
 intro i;unfold sF;by_cases hi:i<n+2
 ·rw[dA,List.getElem?_range hi,Option.map_some]
  cases i with
  | zero=>simp[gI]
  | succ i=>
    rw[List.append_assoc,List.cons_append,List.nil_append,List.getElem?_cons_succ];by_cases h:i<n
    ·rw[List.getElem?_append_left (by simpa using h),dA,List.getElem?_range h,Option.map_some]
     unfold gI;rw[if_neg (by omega),if_pos (by omega),Nat.add_sub_cancel]
    ·obtain rfl:i=n:=by omega
     rw[List.getElem?_append_right (by simp)];unfold gI;rw[if_neg (by omega),if_neg (by omega)];simp
 ·rw[List.getElem?_eq_none (by simp;omega),List.getElem?_eq_none (by simp;omega)]
theorem adQ(x:Int):rowOf (OC (λ_=>0) 0 x) 8=(eu x).map (Value.int .u8):=by
 simp[rowOf,OC,lK,eu,List.range_succ]
theorem OE(a:Int)(h0:0≤a)(h1:a<18446744073709551616):bits .andNot .u64 a 15=a/16*16:=by
 rw[u64_andNot a 15 h0 h1 (by omega) (by omega)];obtain⟨n,rfl⟩:=Int.eq_ofNat_of_zero_le h0;have hn:n<2^64:=by omega
 have:n &&& (18446744073709551615-15)=n/16*16:=by
  apply Nat.eq_of_testBit_eq
  intro i;rw[show(18446744073709551615-15:Nat)=(2^60-1)*2^4 from by decide,show n/16*16=n/2^4*2^4 from rfl,Nat.testBit_and,Nat.testBit_mul_two_pow,Nat.testBit_mul_two_pow,Nat.testBit_two_pow_sub_one,Nat.testBit_div_two_pow];by_cases h4:4≤i
  ·by_cases h64:i<64
   ·simp[h4,show i-4<60 from by omega,Nat.sub_add_cancel h4]
   ·have:n.testBit i=false:=Nat.testBit_lt_two_pow (Nat.lt_of_lt_of_le hn (Nat.pow_le_pow_right (by omega) (by omega)))
    simp[this,Nat.sub_add_cancel h4]
  ·simp[h4]
 rw[Int.toNat_natCast,show(Int.toNat 15)=15 from rfl,this];omega
theorem sG{W W':World}(h:Bel W W'):KeepsOthers W W':=⟨h.size,λk o hk _=>(h.block k (Array.getElem?_eq_some_iff.1 hk).1).trans hk⟩
theorem OG{S:Nat→Prop}{B:Nat}{W W':World}(h:Keep S W W')(hS:∀k,S k→k<B):KeepsFrom B W W':=
 ⟨h.size,λk o hB hk _=>(h.block k (Array.getElem?_eq_some_iff.1 hk).1 λhs=>by have:=hS k hs;omega).trans hk⟩
theorem uE{S:Nat→Prop}{g B:Nat}{W W':World}(h:Keep S W W')(h1:∀k,S k→g≤k∧k≠B)(h2:g≤W.heap.size)(h3:B<W.heap.size):GL g B W W':=λb hb=>
 h.block b (by omega) λhs=>by have:=h1 b hs;omega
theorem J7(ss:List ByteArray)(i:Nat)(h:i<ss.length):arg ss i=vw ss[i]:=by
 unfold arg;rw[List.getD_eq_getElem?_getD,bP h];rfl
theorem Hf(p:Option Addr)(cap:Nat)(ss:List ByteArray)(w:World)(hS:SS w.heap.size w p ss)(hn:ss.length≤8) :
 Calls prog 100 #[.slice p ss.length cap] w λe w'=>Bel w w'∧
  (Good ss→∃mb,e=.returned (.tuple #[.map (some mb),.int .u64 (jX (aJ ss) ss.length),.nilIface])∧Sp w' mb (aR dB (l7 ss)))∧
  (¬Good ss→e=.returned (.tuple #[.map none,.int .u64 0,eD 6])):=by
 obtain⟨zs,hzl,hzv,hmk⟩:=J4 ss.length (by omega);obtain⟨ps,hps⟩:∃ps:List Value,ps=Pg.cells ⟨6,List.replicate 256 0⟩:=⟨_,rfl⟩;have Dz:Hid (prog.built 187 [(0,.int .u8 6)]=some ps.toArray):=xh (by rw[hps];exact y8 6);have hmm:∀w,(Instr.makeMap 113 none).run prog w=.ok (.map (some w.heap.size)) (w.alloc (.map #[] 0)):=λw=>by kernel_rfl
 have GD:=xh hps;have oH:=xh hzl;have HZV:=xh hzv;have HS:=xh hS;clear hps hzl hzv hS;refine uC 5 func100 rfl ?_;simp only[ntmps100,List.size_toArray,List.length_cons,List.length_nil,Nat.reduceAdd,Nat.reduceSub,Array.replicate_succ,Array.replicate_zero,List.push_toArray,List.append_toArray,List.nil_append,List.cons_append]
 go_upto_region 4 with fail
 obtain⟨w1,hw1⟩:∃w1,w1=(((w.alloc (.cells #[.map none] 113)).alloc (.cells #[.int .u64 0] 37)).alloc (.cells #[.nilIface] 46)).alloc (.cells #[.int .u64 65536] 37):=⟨_,rfl⟩;have k1:Bel w w1:=by rw[hw1];exact(((Bel.start w _).ac _).ac _).ac _
 have b2:Blk w1 w.heap.size [.map none] 113:=by rw[hw1];exact(((Blk.new w [_] _).alloc _).alloc _).alloc _
 have b3:Blk w1 (w.heap.size+1) [.int .u64 0] 37:=by rw[hw1];exact((Blk.aT _ [_] _ (by simp)).alloc _).alloc _
 have b4:Blk w1 (w.heap.size+1+1) [.nilIface] 46:=by rw[hw1];exact(Blk.aT _ [_] _ (by simp)).alloc _
 have b5:Blk w1 (w.heap.size+1+1+1) [.int .u64 65536] 37:=by rw[hw1];exact Blk.aT _ [_] _ (by simp)
 have hsz:w1.heap.size=w.heap.size+1+1+1+1:=by rw[hw1];simp
 rw[←hw1];clear hw1;have bG:=xh k1;have HB2:=xh b2;have HB3:=xh b3;have iY:=xh b4;have nH:=xh b5;have Me:=xh hsz;have hg:w.heap.size+4≤w1.heap.size:=by omega
 clear k1 b2 b3 b4 b5 hsz;have hs0:Sp (w1.alloc (.map #[] 0)) w1.heap.size (λ_=>none):=⟨[],Mp.new nV w1,λn=>rfl,λp hp=>by cases hp⟩;obtain⟨es1,cl1,Vu,hs1,hk1⟩:=hs0.update 254 (by omega) ⟨6,List.replicate 256 0⟩;obtain⟨wA,hwA⟩:∃wA,wA=Go.ChangeMaps.setBlock (w1.alloc (.map #[] 0)) w1.heap.size (.map es1 cl1):=⟨_,rfl⟩;rw[←hwA]at Vu hs1 hk1;obtain⟨es2,cl2,Vv,hs2,hk2⟩:=hs1.update 255 (by omega) ⟨6,List.replicate 256 0⟩;obtain⟨wB,hwB⟩:∃wB,wB=Go.ChangeMaps.setBlock wA w1.heap.size (.map es2 cl2):=⟨_,rfl⟩;rw[←hwB]at Vv hs2 hk2;rw[show Pg.v ⟨6,List.replicate 256 0⟩=.agg ps.toArray from by rw[GD.o];rfl]at Vu Vv;rw[show((254:Nat):Int)=(254:Int)from rfl]at Vu;rw[show((255:Nat):Int)=(255:Int)from rfl]at Vv;have KB:Hid (Keep (λk=>k=w1.heap.size) (w1.alloc (.map #[] 0)) wB):=xh (hk1.tr hk2);have uO:Hid (Sp wB w1.heap.size (aR dB λ_=>0)):=xh (by
  have e:(λi=>if i=255 then some (⟨6,List.replicate 256 0⟩:Pg)else(λi=>if i=254 then some ⟨6,List.replicate 256 0⟩else none) i)=aR dB λ_=>0:=by
   funext i
   have hr:(List.range 256).map (λ_=>(0:Int))=List.replicate 256 0:=by rw[List.map_const'];simp
   unfold aR dB;by_cases e1:i=255
   ·rw[if_pos e1,if_pos (.inr e1),Option.map_some,hr]
   ·rw[if_neg e1]
    by_cases e2:i=254
    ·simp only[e2,if_true,true_or,Option.map_some,hr]
    ·simp only[e2,if_false,e1,or_self,Option.map_none]
  rw[←e];exact hs2)
 clear hs0 hs1 hk1 hwA hs2 hk2 hwB
 go_upto_region 5 with(first
  | (refine wpList_buildTo rfl 187 _ rfl (some 20) rfl ps.toArray (by simp only[List.map_toArray,List.map_cons,List.map_nil];exact Dz.o) ?_)
  | (refine wpList_buildTo rfl 187 _ rfl (some 21) rfl ps.toArray (by simp only[List.map_toArray,List.map_cons,List.map_nil];exact Dz.o) ?_))
 clear Vu Vv;have adR:w1.heap.size+1≤wB.heap.size:=by have:=KB.o.size;simpa using this
 have KB1:Hid (Bel w wB):=xh (Below.trans bG.o ((Below.aF w1 _).mono bG.o.size |>.trans (KB.o.below _ (by simp;exact aV bG.o.size (Nat.le_succ _)) (λk hk=>by rw[hk];exact bG.o.size))));have hkB:∀{b:Nat} {c:List Value} {t:TypeId},b<w1.heap.size→Blk w1 b c t→Blk wB b c t:=λhb h=>(h.alloc _).keep KB.o (λe=>by omega);have c2:=xh (hkB (by omega) HB2.o);have c3:=xh (hkB (by omega) HB3.o);have c4:=xh (hkB (by omega) iY.o);have c5:=xh (hkB (by omega) nH.o);clear HB2 HB3 iY nH hkB KB Me;generalize w1.heap.size=mb at *
 go_upto_region 6 with fail
 obtain⟨W0,hW0⟩:∃W0,W0=((wB.alloc (.cells #[.map (some mb)] 113)).alloc (.cells zs.toArray 37)).alloc (.cells #[.slice (some ⟨wB.heap.size+1,0,none⟩) ss.length ss.length] 323):=⟨_,rfl⟩;have kb:Bel wB W0:=by rw[hW0];exact((Bel.start wB _).ac _).ac _
 have d6:Blk W0 wB.heap.size [.map (some mb)] 113:=by rw[hW0];exact((Blk.new wB [_] _).alloc _).alloc _
 have da:Blk W0 (wB.heap.size+1) zs 37:=by rw[hW0];exact(Blk.aT _ _ _ (by simp)).alloc _
 have d7:Blk W0 (wB.heap.size+1+1) [.slice (some ⟨wB.heap.size+1,0,none⟩) ss.length ss.length] 323:=by rw[hW0];exact Blk.aT _ [_] _ (by simp)
 have d2:=c2.out.bel kb;have d3:=c3.out.bel kb;have d4:=c4.out.bel kb;have d5:=c5.out.bel kb;have ds:Sp W0 mb (aR dB λ_=>0):=uO.o.bel kb;have K0:Hid (Bel w W0):=xh (KB1.o.tr kb);have hsz0:W0.heap.size=wB.heap.size+1+1+1:=by rw[hW0];simp
 rw[←hW0];clear hW0 kb c2 c3 c4 c5 uO KB1;have D:=xh (And.intro d2 (And.intro d3 (And.intro d4 (And.intro d5 (And.intro d6 (And.intro da (And.intro d7 ds)))))));clear d2 d3 d4 d5 d6 da d7 ds;have hgs:w.heap.size+1+1+1+1≤mb∧mb+1≤wB.heap.size:=⟨by omega,adR⟩;generalize wB.heap.size=gm at *
 generalize hg2:w.heap.size=g2 at *
 have HG2:=xh hg2;have afr:=xh hsz0;clear hg2 hsz0;go_wp2_with (go_at_call 180;refine au (QW p ss.length cap _) ?_;rintro e w' ⟨rfl,rfl⟩)
 have hcell:(W0.alloc (.cells #[.slice p ss.length cap] 66)).cell? ⟨W0.heap.size,0,none⟩=some (.slice p ss.length cap):=(Blk.new W0 [_] _).cell 0;have KW1:Bel w (W0.alloc (.cells #[.slice p ss.length cap] 66)):=K0.o.ac _;obtain⟨d2,d3,d4,d5,d6,da,d7,dsp⟩:=D.o;have hz:zs=sF (Ak ss []) ss.length:=by
  apply List.ext_getElem?
  intro k;unfold sF;by_cases hk:k<ss.length
  ·rw[bP (by rw[oH.o];exact hk),HZV.o _ (List.getElem_mem _),dA,List.getElem?_range hk]
   rfl
  ·rw[List.getElem?_eq_none (by rw[oH.o];omega),List.getElem?_eq_none (by simp;omega)]
 rw[hz]at da;have h0:SI ⟨g2,gm,mb,W0.heap.size⟩ ss w [] (W0.alloc (.cells #[.slice p ss.length cap] 66)):=
  ⟨d2.alloc _,d3.alloc _,d4.alloc _,d5.alloc _,d6.alloc _,da.alloc _,d7.alloc _,dsp.alloc _,λi hi=>(by cases hi),Below.mono KW1 (by rw[HG2.o];exact bH _),by simp⟩
 have hl7:=d7.lt;have KWg:Below g2 w (W0.alloc (.cells #[.slice p ss.length cap] 66)):=by have:=KW1;unfold Bel at this;rw[HG2.o]at this;exact this
 have hlen:ss.length≤1000000:=by omega
 refine(wpIn_wide (n:=5)).1 ?_
 refine wpIn_rangeFunc_ownG (F:=Fence.wide) (n:=5) rfl (by omega) (gf:=256) (lb:= #[.pointer (some ⟨W0.heap.size,0,none⟩)]) rfl trivial (enters_of func256 (by kernel_rfl) rfl)
  (I6 Fence.wide (5-1) trivial rfl (by omega) W0.heap.size g2 p cap ss hlen (W0.alloc (.cells #[.slice p ss.length cap] 66)) (by simp) (by simp;omega) hcell (HS.o.below KWg))
  (λh k=>h.trans k) (GL.putObj (by simp;omega) (by simp)) (Below.refl _ _) (λ_=>rfl)
  (SI ⟨g2,gm,mb,W0.heap.size⟩ ss w) (λc _ W=>SX ⟨g2,gm,mb,W0.heap.size⟩ ss w c W) (SI.own (by simp;omega) (by simp;omega)) (λc=>SX.own (by simp;omega)) h0
  (λx=>{tmps:= #[.slice p ss.length cap,undef,.pointer (some ⟨g2,0,none⟩),.pointer (some ⟨g2+1,0,none⟩),.pointer (some ⟨g2+1+1,0,none⟩),.pointer (some ⟨g2+1+1+1,0,none⟩),.pointer (some ⟨gm,0,none⟩),.pointer (some ⟨gm+1+1,0,none⟩),.int .i64 (x.1:Nat),.string (ss[x.1]'x.2),undef,undef,undef,undef,undef,.slice p ss.length cap,.int .i64 (ss.length:Nat),.bool (decide (8<(ss.length:Int))),undef,.map (some mb),.agg ps.toArray,.agg ps.toArray,.map (some mb),.slice p ss.length cap,.int .i64 (ss.length:Nat),.slice (some ⟨gm+1,0,none⟩) ss.length ss.length,.slice p ss.length cap,.func (.func 256) #[] #[.pointer (some ⟨W0.heap.size,0,none⟩)],.int .i64 (x.1:Nat),.string (ss[x.1]'x.2),undef,undef,undef,undef,undef,undef,undef,undef,undef,undef,undef,undef,undef,undef,undef,undef,undef,undef,undef,undef,undef,undef,undef,undef,undef,undef,undef,undef,undef,undef,undef,undef,undef,undef,undef,undef,undef,undef,undef,undef,undef,undef,undef,undef,undef,undef,undef,undef,undef,undef,undef,undef,undef,undef,undef,undef,undef,undef,undef,undef,undef],defers:=[]}) ?assign ?body ?done ?stop
 case assign=>
  intro l x W K hK
  gi_wp2
  exact hK
 case body=>
  rintro l pre x W hI hlt;have hx:=x.2;have hax:=J7 ss x.1 hx;obtain⟨s,hs⟩:=e_x (ss[x.1]'x.2);rw[hs]at hax⊢;obtain⟨cf,wf,KW,hwf⟩:=J5 s;have ZB:=xh hwf;have HI:=xh hI;have WT:=xh hax;have hb:=qj ss (pre.map λi:Ix ss.length=>i.1) (λi hi=>by
   obtain⟨j,hj,rfl⟩:=List.mem_map.1 hi;exact(dQ.1 (hI.good j hj)).1)
  rw[fJ]at hb;have he0:65288≤(Ak ss pre).e-31:=by unfold Ak;omega
  have he1:(Ak ss pre).e≤65536:=hb.2;have h2:=hI.r2;have h3:=hI.r3;have h4:=hI.r4;have hl2:=h2.lt;have hl3:=h3.lt;have hl4:=h4.lt;have HS2:=xh hs;clear hwf hI hax hb hs;have hbl:s.size=(vw s).length:=(bR s).symm;by_cases hlen:30<s.size
  ·have HBAD:=xh (show ¬Good ss from λh=>by
    have:=(dQ.1 (h x.1 hx)).1;rw[WT.o]at this;omega)
   have hlen':(30:Int)<(s.size:Int):=by omega
   have c2:=h2.cell 0;have c3:=h3.cell 0;have c4:=h4.cell 0;simp only[List.getElem?_cons_zero]at c2 c3 c4
   have f2:=h2.frozen 0;have f3:=h3.frozen 0;have f4:=h4.frozen 0;have H2:=xh h2;have H3:=xh h3;have H4:=xh h4;clear h2 h3 h4 hbl
   gi_wp2
   refine⟨trivial,?_⟩
   gi_wp2
   refine⟨(((KeepsOthers.setCell _ _ _).trans (KeepsOthers.setCell _ _ _)).trans (KeepsOthers.setCell _ _ _)).from _,⟨rfl,?_,?_,?_,HBAD.o,?_⟩⟩
   ·exact((H2.o.setCell (o:=0) (.map none)).aA (a:=⟨g2+1,0,none⟩) (by simp) _).aA (a:=⟨g2+1+1,0,none⟩) (by simp;omega) _
   ·exact((H3.o.aA (a:=⟨g2,0,none⟩) (by simp) _).setCell (o:=0) (.int .u64 0)).aA (a:=⟨g2+1+1,0,none⟩) (by simp) _
   ·exact((H4.o.aA (a:=⟨g2,0,none⟩) (by simp;omega) _).aA (a:=⟨g2+1,0,none⟩) (by simp) _).setCell (o:=0) (eD 6)
   ·exact((HI.o.bel.setCell (p:=⟨g2,0,none⟩) (bH _) _).setCell (p:=⟨g2+1,0,none⟩) (by simp) _).setCell (p:=⟨g2+1+1,0,none⟩) (by simp;omega) _
  ·have hlen':¬(30:Int)<(s.size:Int):=by omega
   have HW0:=ZB.o W;have hbs:BS (wf W) (some ⟨W.heap.size,0,none⟩) (vw s):=⟨yX s,λ_=>⟨_,_,rfl,by rw[HW0.2.1];omega,HW0.2.2.2⟩⟩;have hcon:=CU (some ⟨W.heap.size,0,none⟩) (cf W) (vw s) (wf W) (by omega) hbs;rw[bR]at hcon;have kw:=HW0.1;by_cases hz:(0:Int)∈vw s
   ·have HBAD:=xh (show ¬Good ss from λh=>by
     have:=(dQ.1 (h x.1 hx)).2;rw[WT.o]at this;exact this hz)
    rw[show decide ((0:Int)∈vw s)=true from decide_eq_true hz]at hcon;have YZ:=xh hcon;have H2:=xh (h2.bel kw);have H3:=xh (h3.bel kw);have H4:=xh (h4.bel kw);have Ni:=xh (HI.o.bel.trans (Below.mono kw (Nat.le_of_lt hl2)));have Zl:=xh (sG kw);have c2:=H2.o.cell 0;have c3:=H3.o.cell 0;have c4:=H4.o.cell 0;simp only[List.getElem?_cons_zero]at c2 c3 c4
    have f2:=H2.o.frozen 0;have f3:=H3.o.frozen 0;have f4:=H4.o.frozen 0;have l2:=H2.o.lt;have l3:=H3.o.lt;have l4:=H4.o.lt;clear h2 h3 h4 hbl hcon HW0 hbs kw hz
    gi_wp2_with (refine⟨trivial,?_⟩;gi_at_call 181;refine(CallsIn.inRound l (callsIn_wide.2 YZ.o)).mono ?_;rintro e w1 ⟨rfl,rfl⟩)
    refine⟨(((Zl.o.trans (KeepsOthers.setCell _ _ _)).trans (KeepsOthers.setCell _ _ _)).trans (KeepsOthers.setCell _ _ _)).from _,⟨rfl,?_,?_,?_,HBAD.o,?_⟩⟩
    ·exact((H2.o.setCell (o:=0) (.map none)).aA (a:=⟨g2+1,0,none⟩) (by simp) _).aA (a:=⟨g2+1+1,0,none⟩) (by simp;omega) _
    ·exact((H3.o.aA (a:=⟨g2,0,none⟩) (by simp) _).setCell (o:=0) (.int .u64 0)).aA (a:=⟨g2+1+1,0,none⟩) (by simp) _
    ·exact((H4.o.aA (a:=⟨g2,0,none⟩) (by simp;omega) _).aA (a:=⟨g2+1,0,none⟩) (by simp) _).setCell (o:=0) (eD 6)
    ·exact((Ni.o.setCell (p:=⟨g2,0,none⟩) (bH _) _).setCell (p:=⟨g2+1,0,none⟩) (by simp) _).setCell (p:=⟨g2+1+1,0,none⟩) (by simp;omega) _
   ·rw[show decide ((0:Int)∈vw s)=false from decide_eq_false hz]at hcon
    have YZ:=xh hcon;have lM:Hid (zM (arg ss x.1)=true):=xh (dQ.2 (by rw[WT.o];exact⟨by omega,hz⟩));have HI2:Hid (SI ⟨g2,gm,mb,W0.heap.size⟩ ss w pre (wf W)):=xh ⟨HI.o.r2.bel kw,HI.o.r3.bel kw,HI.o.r4.bel kw,HI.o.r5.bel kw,HI.o.r6.bel kw,HI.o.ra.bel kw,HI.o.r7.bel kw,HI.o.sp.bel kw,HI.o.good,HI.o.bel.trans (Below.mono kw (Nat.le_of_lt hl2)),Nat.lt_of_lt_of_le HI.o.sz kw.size⟩;have Zl:=xh (sG kw);have VR:Hid (GL g2 W0.heap.size W (wf W)):=xh (λb hb=>kw.block b (by
     have:=HI.o.sz;simp only at this
     omega))
    clear h2 h3 h4 hl2 hl3 hl4 hbl hcon HW0 hbs kw hz HI
    gi_upto_region 11 with(refine⟨trivial,?_⟩;gi_at_call 181;refine(CallsIn.inRound l (callsIn_wide.2 YZ.o)).mono ?_;rintro e w1 ⟨rfl,rfl⟩)
    generalize wf W=V1 at *
    have J:Hid (Blk V1 g2 [.map none] 113∧Blk V1 (g2+1) [.int .u64 0] 37∧Blk V1 (g2+1+1) [.nilIface] 46∧Blk V1 gm [.map (some mb)] 113∧Blk V1 (gm+1) (sF (Ak ss pre) ss.length) 37∧
     Blk V1 (gm+1+1) [.slice (some ⟨gm+1,0,none⟩) ss.length ss.length] 323∧Sp V1 mb (aR dB (Ak ss pre).M)∧Below g2 w V1):=xh ⟨HI2.o.r2,HI2.o.r3,HI2.o.r4,HI2.o.r6,HI2.o.ra,HI2.o.r7,HI2.o.sp,HI2.o.bel⟩
    have jsz:W0.heap.size<V1.heap.size:=HI2.o.sz;have abB:=xh HI2.o.good;have j5:Blk V1 (g2+1+1+1) [.int .u64 (Ak ss pre).e] 37:=HI2.o.r5;clear HI2;obtain⟨e0,he⟩:=e_x ((Ak ss pre).e);rw[he]at he0 he1 j5;have HJ5:=xh j5;have c5:V1.cell? ⟨g2+1+1+1,0,none⟩=some (.int .u64 e0):=j5.cell 0;have f5:=j5.frozen 0;have l5:=j5.lt;clear j5;have HE:=xh he;obtain⟨A,hA⟩:∃A:Nat,e0-((s.size:Int)+1)=A:=⟨(e0-((s.size:Int)+1)).toNat,by omega⟩;have hA1:65288≤A:=by omega
    have hA2:A+s.size+1≤65536:=by omega
    clear he
    gi_upto_region 12 with fail
    have KH:=xh (HJ5.o.setCell (o:=0) (.int .u64 A));have gq:Hid (Keep (λk=>k=g2+1+1+1) V1 (V1.setCell ⟨g2+1+1+1,0,none⟩ (.int .u64 A))):=xh (Keep.setCell _ _ _ _);have GN:=xh (Zl.o.trans (KeepsOthers.setCell V1 ⟨g2+1+1+1,0,none⟩ (.int .u64 A)));generalize V1.setCell ⟨g2+1+1+1,0,none⟩ (.int .u64 A)=V2 at *
    have ha:=J.o.2.2.2.2.1.keep gq.o (by omega);have h7:=J.o.2.2.2.2.2.1.keep gq.o (by omega);have c7:V2.cell? ⟨gm+1+1,0,none⟩=some (.slice (some ⟨gm+1,0,none⟩) ss.length ss.length):=h7.cell 0;have Zh:V2.cell? ⟨g2+1+1+1,0,none⟩=some (.int .u64 A):=KH.o.cell 0;have ca:∃v,V2.cell? ⟨gm+1,x.1,none⟩=some v:=by
     rw[ha.cell];exact⟨_,bP (by simp only[sF,fJ,List.length_range];exact hx)⟩
    obtain⟨va,ca⟩:=ca;have fa:=ha.frozen x.1;have la:=ha.lt;have hxi:((x.1:Nat):Int)<(ss.length:Int):=by omega
    have HA2:=xh ha;clear c5 f5 l5 ha h7
    gi_upto_region 13 with fail
    have HSA:=xh (HA2.o.setCell (o:=x.1) (.int .u64 A));have jm:Hid (Keep (λk=>k=gm+1) V2 (V2.setCell ⟨gm+1,x.1,none⟩ (.int .u64 A))):=xh (Keep.setCell _ _ _ _);have uT:=xh (GN.o.trans (KeepsOthers.setCell V2 ⟨gm+1,x.1,none⟩ (.int .u64 A)));generalize V2.setCell ⟨gm+1,x.1,none⟩ (.int .u64 A)=V3 at *
    have h6:=(J.o.2.2.2.1.keep gq.o (by omega)).keep jm.o (by omega);have c6:V3.cell? ⟨gm,0,none⟩=some (.map (some mb)):=h6.cell 0;have c5:V3.cell? ⟨g2+1+1+1,0,none⟩=some (.int .u64 A):=(KH.o.keep jm.o (by omega)).cell 0;have hw3:=ZB.o V3;have abC:=(((J.o.2.2.2.2.2.2.1.keep gq.o (by omega)).keep jm.o (by omega))).bel hw3.1;have hpk:=FJ mb dB (Ak ss pre).M A (vw s) (some ⟨V3.heap.size,0,none⟩) V3.heap.size 0 (cf V3) (wf V3) abC (by rw[bR];omega) (λ_=>rfl) hw3.2.2.2 (by rw[bR];exact hw3.2.2.1) (λa h1 h2=>by
     rw[bR]at h2;unfold dB;rw[if_pos (by omega)];rfl)
    rw[bR]at hpk;have OL:=xh hpk;have HW3:=xh hw3.1;clear h6 hw3 abC hpk ca fa la c7 Zh
    gi_wp2_with (refine⟨trivial,?_⟩;gi_at_call 84;refine(CallsIn.inRound l (callsIn_wide.2 OL.o)).mono ?_;rintro e V4 ⟨rfl,zX,hk4⟩)
    have HST:Ak ss (pre++[x])=⟨A,bO (Ak ss pre).M A (vw s),lK (Ak ss pre).A x.1 A⟩:=by
     rw[Sv];unfold mX;rw[WT.o,bR,HE.o,hA,Int.toNat_natCast]
    have z2:=gq.o.size;have z3:=jm.o.size;have z4:=HW3.o.size;have kpB:∀{b:Nat} {c:List Value} {t:TypeId},Blk V1 b c t→b≠g2+1+1+1→b≠gm+1→b≠mb→Blk V4 b c t:=λh h1 h2 h3=>(((h.keep gq.o h1).keep jm.o h2).bel HW3.o).keep hk4 h3;have kq:Keep (λk=>g2≤k) V1 V4:=((((gq.o.mono (λk hk=>by omega)).tr (jm.o.mono (λk hk=>by omega))).tr (Keep.of_bel _ HW3.o)).tr (hk4.mono (λk hk=>by omega)));refine⟨((uT.o.trans (sG HW3.o)).from _).trans (OG hk4 (λk hk=>by simp;omega)),?_,⟨?_,?_,?_,?_,?_,?_,?_,?_,?_,?_,?_⟩⟩
    ·exact((VR.o.trans (uE gq.o (λk hk=>by omega) (by omega) jsz)).trans (uE jm.o (λk hk=>by omega) (by omega) (by omega))).trans ((uE (Keep.of_bel (λ_=>False) HW3.o) (λk hk=>hk.elim) (by omega) (by omega)).trans (uE hk4 (λk hk=>by omega) (by omega) (by omega)))
    ·have:=kpB J.o.1 (by omega) (by omega) (by omega)
     exact this
    ·have:=kpB J.o.2.1 (by omega) (by omega) (by omega)
     exact this
    ·have:=kpB J.o.2.2.1 (by omega) (by omega) (by omega)
     exact this
    ·rw[HST];exact((KH.o.keep jm.o (by omega)).bel HW3.o).keep hk4 (by show ¬g2+1+1+1=mb;omega)
    ·have:=kpB J.o.2.2.2.1 (by omega) (by omega) (by omega)
     exact this
    ·have:=(HSA.o.bel HW3.o).keep hk4 (by show ¬gm+1=mb;omega)
     rw[Su _ _ _ _ (bO (Ak ss pre).M A (vw s)) A]at this;rw[HST];exact this
    ·have:=kpB J.o.2.2.2.2.2.1 (by omega) (by omega) (by omega)
     exact this
    ·rw[HST];exact zX
    ·intro i hi
     rcases List.mem_append.1 hi with hi|hi
     ·exact abB.out i hi
     ·obtain rfl:=List.mem_singleton.1 hi
      exact lM.o
    ·exact J.o.2.2.2.2.2.2.2.trans (kq.below g2 (by omega) (λk hk=>hk))
    ·have:=hk4.size
     show W0.heap.size<V4.heap.size
     omega
 case done=>
  rintro D ys W hD rfl hI hK;have hst:Ak ss (mD ss.length ss.length)=aJ ss:=by unfold Ak aJ;rw[vB _ _ (bH _),Nat.sub_self]
  have hgood:Good ss:=λi hi=>by
   have hm:i∈(mD ss.length ss.length).map (λi:Ix ss.length=>i.1):=by
    rw[vB _ _ (bH _),Nat.sub_self];unfold dG
    simpa using hi
   obtain⟨j,hj,rfl⟩:=List.mem_map.1 hm;exact hI.good j hj
  have J:Hid (Blk W g2 [.map none] 113∧Blk W (g2+1) [.int .u64 0] 37∧Blk W (g2+1+1) [.nilIface] 46∧Blk W gm [.map (some mb)] 113∧Blk W (gm+1) (sF (aJ ss) ss.length) 37∧
   Blk W (gm+1+1) [.slice (some ⟨gm+1,0,none⟩) ss.length ss.length] 323∧Sp W mb (aR dB (aJ ss).M)∧Below g2 w W):=xh (by rw[←hst];exact⟨hI.r2,hI.r3,hI.r4,hI.r6,hI.ra,hI.r7,hI.sp,hI.bel⟩)
  have j5:Blk W (g2+1+1+1) [.int .u64 (aJ ss).e] 37:=by rw[←hst];exact hI.r5
  have hbd:=ql ss hgood hn;have hsb:=zN ss hgood hn;have lM:=xh hgood;have HDK:=xh hK;have hDl:D<W.heap.size:=(Array.getElem?_eq_some_iff.1 hK).1;have hD2:gm+1+1<D:=by simp at hD;omega
  obtain⟨e0,he⟩:=e_x ((aJ ss).e);obtain⟨uF,Al⟩:∃uF:Nat,jX (aJ ss) ss.length=uF:=⟨(jX (aJ ss) ss.length).toNat,by omega⟩;have hand:bits .andNot .u64 (e0-8*((ss.length:Int)+2)) 15=(uF:Int):=by
   rw[OE _ (by omega) (by omega),←Al,←he];rfl
  rw[he]at hbd hsb j5;rw[Al]at hsb;obtain⟨hb0,hb1⟩:=hbd;obtain⟨hs0,hs1,hs2⟩:=hsb;have HE:=xh he;have Vw:=xh Al;have c5:W.cell? ⟨g2+1+1+1,0,none⟩=some (.int .u64 e0):=j5.cell 0;have c7:W.cell? ⟨gm+1+1,0,none⟩=some (.slice (some ⟨gm+1,0,none⟩) ss.length ss.length):=J.o.2.2.2.2.2.1.cell 0;clear hst hgood he Al hI j5 hK;go_upto_region 15 with fail
  have HLR:Hid ((sF (aJ ss) ss.length).length=ss.length*1):=xh (by simp[sF]);have HOR:Hid (∀v∈sF (aJ ss) ss.length,v.oneCell'=true):=xh (λv hv=>by obtain⟨i,_,rfl⟩:=List.mem_map.1 hv;rfl);have HWE:=xh (Sy (aJ ss) ss.length);generalize sF (aJ ss) ss.length=ra at *
  go_upto_region 16 with(first
   | (refine af rfl 323 37 (.tmp 64) rfl [.int .u64 (ss.length:Nat)] rfl underlying323 qQ (by show 0<1;omega) (by show 1≤2^24;omega) ?_;intro V1 B1 K1
      have J1:=xh (J.o.2.2.2.2.1.bel K1);have Tk:V1.cell? ⟨gm+1+1,0,none⟩=some (.slice (some ⟨gm+1,0,none⟩) ss.length ss.length):=(J.o.2.2.2.2.2.1.bel K1).cell 0)
   | (refine uD rfl (.tmp 65) (.tmp 66) 323 rfl underlying323 qQ (by omega) rfl (J6 B1.out rfl (bH W.heap.size)) (gm+1) ss.length ss.length ra 37 rfl J1.o HLR.o HOR.o (by unfold maxLen;omega) (by omega) K1.size ?_;intro v2 V2 R2 K2)
   | (refine af rfl 323 37 (.const (.int .u64 0)) rfl [.int .u64 0] rfl underlying323 qQ (by show 0<1;omega) (by show 1≤2^24;omega) ?_;intro V3 B3 K3)
   | (refine aX rfl (.tmp 67) (.tmp 68) 323 rfl underlying323 qQ (by omega) rfl (aB R2 K3) _ [.int .u64 0] 37 rfl B3.out rfl (by intro v hv;simp at hv;rcases hv with rfl;rfl) (by unfold maxLen;omega) (by omega) (aV K1.size (aV K2.size K3.size)) ?_;intro v4 V4 R4 K4))
  have hKW:Keep (λi=>W.heap.size≤i) W V4:=((((Keep.of_bel _ K1).tr (K2)).tr (Keep.of_bel _ K3)).tr K4);rw[HWE.o,show 1+ss.length+1=ss.length+2 from by omega]at R4;obtain⟨pw,cw,rfl,_,_,hpw⟩:=aD R4;obtain⟨gw,rfl,afs,hgw1,abD,_⟩:=hpw.resolve_left (by omega);have vV:=xh hKW;have HCW:Hid (∀j,j<ss.length+2→V4.cell? ⟨gw,j,none⟩=some (.int .u64 (gI (aJ ss) ss.length j))):=xh (λj hj=>by
   rw[abD j (by simpa using hj),dA,List.getElem?_range hj];rfl)
  clear hKW R4 hpw abD B1 B3 K1 K2 K3 K4 R2 J1 Tk HLR HOR HWE c5 c7;have aft:mb<W.heap.size:=J.o.2.2.2.2.2.2.1.lt;have afu:gm<W.heap.size:=J.o.2.2.2.1.lt;have adS:Hid (Sp V4 mb (aR dB (gM (aJ ss) ss.length 0))):=xh (J.o.2.2.2.2.2.2.1.keep vV.o (by omega));have Ww:Hid (Blk V4 gm [.map (some mb)] 113):=xh (J.o.2.2.2.1.keep vV.o (by omega));have adT:W.heap.size≤V4.heap.size:=vV.o.size;have adU:V4.heap.size≤V4.heap.size:=bH _;go_wp2
  go_loopw [72] (λi wr=>∃k:Nat,k≤ss.length+2∧i=.int .i64 k∧Sp wr mb (aR dB (gM (aJ ss) ss.length k))∧Keep (λq=>q=mb) V4 wr) (λi _=>ss.length+2-(intOf i).toNat)
  case atStart=>exact⟨0,Nat.zero_le _,rfl,adS.o,Keep.refl _ _⟩
  case round=>
   obtain⟨k,hk,rfl,hsp,hkr⟩:=hrel;have CG:=xh hsp;have qU:=xh hkr;have hzr:=hkr.size;clear hsp hkr;by_cases hlt:k<ss.length+2
   ·have hcw:wr.cell? ⟨gw,k,none⟩=some (.int .u64 (gI (aJ ss) ss.length k)):=(qU.o.cell ⟨gw,k,none⟩ hgw1 (by show ¬gw=mb;omega)).trans (HCW.o k hlt)
    have hwb:=rV ss lM.o hn k;have xq:Hid (gM (aJ ss) ss.length (k+1)=bO (gM (aJ ss) ss.length k) (uF+8*k) (eu (gI (aJ ss) ss.length k))):=xh (by rw[gM,Vw.o,Int.toNat_natCast]);obtain⟨hw0,hw1⟩:=hwb;generalize gI (aJ ss) ss.length k=wk at *
    go_upto_region 20 with fail
    have kA:Bel wr (wr.alloc (.cells #[.int .u8 0,.int .u8 0,.int .u8 0,.int .u8 0,.int .u8 0,.int .u8 0,.int .u8 0,.int .u8 0] 291)):=Below.aF wr _;have BA:Blk (wr.alloc (.cells #[.int .u8 0,.int .u8 0,.int .u8 0,.int .u8 0,.int .u8 0,.int .u8 0,.int .u8 0,.int .u8 0] 291)) wr.heap.size (rowOf (λ_=>0) 8) 291:=Blk.new wr [_,_,_,_,_,_,_,_] _;generalize wr.alloc (.cells #[.int .u8 0,.int .u8 0,.int .u8 0,.int .u8 0,.int .u8 0,.int .u8 0,.int .u8 0,.int .u8 0] 291)=VA at *
    have Vx:=xh (Vq wr.heap.size 0 8 (λ_=>0) 291 8 wk VA BA (by omega) (by omega) (by omega) hw0 (by omega));have KA:=xh kA;have hgA:wr.heap.size<VA.heap.size:=BA.lt;clear kA BA;go_upto_region 21 with(go_at_call 146;with_reducible refine au Vx.o ?_;rintro e VB ⟨rfl,BB,KB⟩)
    rw[adQ]at BB;have hcm:VB.cell? ⟨gm,0,none⟩=some (.map (some mb)):=(((Ww.o.keep qU.o (by show ¬gm=mb;omega)).bel KA.o).keep KB (by show ¬gm=wr.heap.size;omega)).cell 0;have abE:Sp VB mb (aR dB (gM (aJ ss) ss.length k)):=((CG.o.bel KA.o).keep KB (by have:=CG.o.lt;show ¬mb=wr.heap.size;omega));have ML:Hid (iL VB wr.heap.size 0 (eu wk)):=xh ⟨λi hi=>by rw[Nat.zero_add,BB.cell,dA],wT wk hw0 (by omega)⟩;have OL:Hid (∀V,Bel VB V→Calls prog 84 #[.map (some mb),.int .u64 ((uF:Int)+8*k),.slice (some ⟨wr.heap.size,0,none⟩) 8 8] V λe w'=>e=.returned (.tuple #[])∧Sp w' mb (aR dB (gM (aJ ss) ss.length (k+1)))∧Keep (λk=>k=mb) V w'):=xh (λV hV=>by
     have:=FJ mb dB (gM (aJ ss) ss.length k) (uF+8*k) (eu wk) (some ⟨wr.heap.size,0,none⟩) wr.heap.size 0 8 V (abE.bel hV) (by rw[fD];omega) (λ_=>rfl) (ML.o.keep (Keep.of_bel (λ_=>False) hV) (λ_ h=>h)) (by rw[fD];omega) (λa h1 h2=>by
      rw[fD]at h2;unfold dB;rw[if_pos (by omega)];rfl)
     rw[fD,←xq.o,show((uF+8*k:Nat):Int)=(uF:Int)+8*k from by omega]at this;exact this)
    have OX:Hid (Keep (λq=>q=mb) V4 VB):=xh ((qU.o.tr (Keep.of_bel _ KA.o)).aY KB (λi hi=>.inr (by omega)));have hk8:IntKind.u64.wrap ((uF:Int)+8*k)=(uF:Int)+8*k:=by rw[IntKind.wrap_u64];omega
    have hk9:IntKind.u64.wrap (8*(k:Int))=8*k:=by rw[IntKind.wrap_u64];omega
    clear abE BB KB;go_still_tail 7,(by kernel_rfl)
    change wpList _ _ _ _ _ VB.drew
    have kd:Bel VB VB.drew:=Below.drew (Below.refl _ _);generalize VB.drew=VC at *
    have gJ:=xh kd;clear kd;go_wp2_with (go_at_call 84;with_reducible refine au (OL.o VC gJ.o) ?_;rintro e VD ⟨rfl,abF,hkD⟩)
    have HSD:=xh abF;have adV:=xh hkD;clear abF hkD
    go_roundw
    case rel=>exact⟨k+1,by omega,by go_num,HSD.o,(OX.o.tr (Keep.of_bel _ gJ.o)).tr adV.o⟩
    case measure=>simp[intOf]<;>omega
   ·obtain rfl:k=ss.length+2:=by omega
    have hkk:Keep (λq=>W.heap.size≤q∨q=mb) W wr:=(vV.o.mono (λ_ h=>.inl h)).tr (qU.o.mono (λ_ h=>.inr h));have HKK:=xh hkk;have e2:=J.o.1.keep hkk (by have:=J.o.1.lt;omega);have e3:=J.o.2.1.keep hkk (by have:=J.o.2.1.lt;omega);have e4:=J.o.2.2.1.keep hkk (by have:=J.o.2.2.1.lt;omega);have e6:=J.o.2.2.2.1.keep hkk (by omega);have HD2:Hid (wr.heap[D]?=some (.deferred (some []))):=xh ((hkk.block D hDl (by omega)).trans HDK.o);have x2:=e2.cell 0;have x3:=e3.cell 0;have x4:=e4.cell 0;have x6:=e6.cell 0;simp only[List.getElem?_cons_zero]at x2 x3 x4 x6
    have f2:=e2.frozen 0;have f3:=e3.frozen 0;have f4:=e4.frozen 0;have l2:=e2.lt;have l3:=e3.lt;have l4:=e4.lt;have E2:=xh e2;have E3:=xh e3;have E4:=xh e4;clear e2 e3 e4 e6 hkk adT adU;go_wp2
    have HD3:(((wr.setCell ⟨g2,0,none⟩ (.map (some mb))).setCell ⟨g2+1,0,none⟩ (.int .u64 uF)).setCell ⟨g2+1+1,0,none⟩ .nilIface).heap[D]?=some (.deferred (some [])):=
     (((KeepsOthers.setCell _ _ _).trans (KeepsOthers.setCell _ _ _)).trans (KeepsOthers.setCell _ _ _)).same D _ HD2.o rfl
    have E2':=(((E2.o.setCell (o:=0) (.map (some mb))).aA (a:=⟨g2+1,0,none⟩) (by simp) (.int .u64 uF)).aA (a:=⟨g2+1+1,0,none⟩) (by simp;omega) .nilIface);have E3':=(((E3.o.aA (a:=⟨g2,0,none⟩) (by simp) (.map (some mb))).setCell (o:=0) (.int .u64 uF)).aA (a:=⟨g2+1+1,0,none⟩) (by simp) .nilIface);have E4':=(((E4.o.aA (a:=⟨g2,0,none⟩) (by simp;omega) (.map (some mb))).aA (a:=⟨g2+1,0,none⟩) (by simp) (.int .u64 uF)).setCell (o:=0) .nilIface);have adW:=((CG.o.setCell (a:=⟨g2,0,none⟩) (.map (some mb))).setCell (a:=⟨g2+1,0,none⟩) (.int .u64 uF)).setCell (a:=⟨g2+1+1,0,none⟩) .nilIface;have hB0:Below g2 w wr:=J.o.2.2.2.2.2.2.2.trans (HKK.o.below g2 (by omega) (λq hq=>by omega));have HBF:=((hB0.setCell (p:=⟨g2,0,none⟩) (bH _) (.map (some mb))).setCell (p:=⟨g2+1,0,none⟩) (by simp) (.int .u64 uF)).setCell (p:=⟨g2+1+1,0,none⟩) (by simp;omega) .nilIface;generalize (((wr.setCell ⟨g2,0,none⟩ (.map (some mb))).setCell ⟨g2+1,0,none⟩ (.int .u64 uF)).setCell ⟨g2+1+1,0,none⟩ .nilIface)=WF at *
    have hg:=grownBy_putObj' WF D (.deferred none);have hr:∀r,some D=some r→D≤r∧∃o:Obj,WF.heap[r]?=some o∧o.isCells=false:=λr e=>by cases e;exact⟨bH _,_,HD3,rfl⟩
    have y2:=(fF E2' hg hr).cell 0;have y3:=(fF E3' hg hr).cell 0;have y4:=(fF E4' hg hr).cell 0;simp only[List.set_cons_zero,List.getElem?_cons_zero]at y2 y3 y4
    have HB:=xh (own_below HBF (by omega) (Nat.le_of_lt E2'.lt) hg hr);have adX:=xh (Sw adW (by omega) hg hr);rw[←HG2.o]at HB;refine⟨by simp,.inl ⟨_,_,rfl,run_takeDeferred HD3,?_⟩⟩;refine⟨.tuple #[.map (some mb),.int .u64 uF,.nilIface],by simp[results,results100,go_sem,y2,y3,y4],HB.o,λ_=>⟨mb,by rw[Vw.o],adX.o⟩,λh=>absurd lM.o h⟩
 case stop=>
  rintro D c pre W hD _ hX hK;obtain⟨rfl,h2,h3,h4,hbad,hbel⟩:=hX;have hg:=grownBy_putObj' W D (.deferred none);have hr:∀r,some D=some r→D≤r∧∃o:Obj,W.heap[r]?=some o∧o.isCells=false:=λr e=>by cases e;exact⟨bH _,_,hK,rfl⟩
  have c2:=(fF h2 hg hr).cell 0;have c3:=(fF h3 hg hr).cell 0;have c4:=(fF h4 hg hr).cell 0;simp only[List.getElem?_cons_zero]at c2 c3 c4
  have HB:=xh (own_below hbel (by simp only;simp at hD;omega) (Nat.le_of_lt h2.lt) hg hr);simp only at HB
  rw[←HG2.o]at HB;clear h2 h3 h4 hbel
  gi_wp2
  refine⟨by simp,.inl ⟨_,_,rfl,run_takeDeferred hK,?_⟩⟩;refine⟨.tuple #[.map none,.int .u64 0,eD 6],by simp[results,results100,go_sem,c2,c3,c4],HB.o,λh=>absurd h hbad,λ_=>rfl⟩
end
section
open Go.Proofs.Tryz Go.RowKit Go.Maps
theorem SS.at_{g:Nat}{w:World}{b o:Nat}{ss:List ByteArray}(h:∀j,(h:j<ss.length)→w.cell? ⟨b,o+j,none⟩=some (.string ss[j]))(j:Nat)(hj:j<ss.length):w.cell? ⟨b,o+j,none⟩=some (.string (ss.getD j ⟨#[]⟩)):=by
 rw[h j hj,List.getD_eq_getElem?_getD,bP hj];rfl
theorem Gm(w:World)(g:Nat):(Instr.sliceAt 55 (.pointer (g,2)) none none none).run prog w=.ok (.slice (g,2) 256 256) w:=by kernel_rfl
theorem BH(w:World)(g:Nat)(x:Int)(r:Nat)(hx:x=r)(hr:r<512) :
 (Instr.sliceAt 417 (.pointer (g,0)) (some (.int .i64 x)) none none).run prog w=.ok (.slice (g,r) (512-r) (512-r)) w:=by
 subst hx;have e1:prog.arrayLen 417=512:=by kernel_rfl
 have e2:prog.elem 417=5:=by kernel_rfl
 have e3:(sizeOf 5).run prog w=.ok 1 w:=by kernel_rfl
 rw[run_sliceAt_array_l w _ _ (by rw[e1,e2];exact underlying417) .i64 r (by omega) (by rw[e1];omega),e1,e2,e3];simp only[Result.andThen_ok,slicedAt]
 rw[if_neg (by omega),Addr.add_mid];simp
theorem oF{P:Program}{w:World}{ops:Array Oper}{rest:List Oper}{o:Oper}{a:Act}{Q:Exit→Act→World→Prop}(hgd:o.guard=none)(d s:Operand)(dT sT:TypeId)
 (ho:o.op=.call {callee:=.builtin .copy,args:= #[d,s],argTypes:= #[dT,sT]})(elem:TypeId)(hu:P.underlying dT=some (.slice elem))(hsz:(P.info? elem).map (·.size)=some 1)
 (g o1 dLen dCap:Nat)(str:ByteArray)(hd:a.eval d=.slice (g,o1) dLen dCap)(hs:a.eval s=.string str)(cur:List Value)(t:TypeId)(hB:Blk w g cur t)(hle:str.size≤dLen)(hfit:o1+str.size≤cur.length)
 (h:∀w',Hid (Blk w' g (splice cur o1 ((vw str).map (Value.int .u8))) t)→Keep (λk=>k=g) w w'→wpList P ops Q rest (a.put o.dst (goInt str.size)) w'):wpList P ops Q (o::rest) a w:=by
 refine wpList_plain hgd λK hK=>?_;have hrun:=Lib.run_copy_row_string (P:=P) w dT sT o.type elem g o1 dLen dCap str cur.toArray t hu hsz hB hle (by simpa using hfit);unfold Oper.wp;simp[execOp,ho,resolve,invoke,builtin,hd,hs,hrun,Result.andThen]
 have e:(cur.take o1++(Lib.byteCells str.data.toList++cur.drop (o1+str.size)))=splice cur o1 ((vw str).map (Value.int .u8)):=by
  unfold splice vw;rw[show((str.data.toList.map λc=>(c.toNat:Int)).map (Value.int .u8)).length=str.size from by simp,List.map_map];rfl
 refine hK _ _ (h _ (xh ?_) ?_)
 ·rw[←e]
  exact setRow_heap w g _ _ t _ hB
 ·exact Keep.setRow w g _
theorem Sz(w:World):(zeroValue 417).run prog w=.ok (.agg (rowOf (λ_=>0) 512).toArray) w:=by
 rw[show rowOf (λ_=>0) 512=List.replicate 512 (Value.int .u8 0)from by unfold rowOf;rw[List.map_const'];simp];exact(by kernel_rfl:(zeroValue 417).run prog w=.ok (.agg (List.replicate 512 (Value.int .u8 0)).toArray) w)
theorem SA(w:World)(g:Nat):(Instr.sliceAt 417 (.pointer (g,0)) none none none).run prog w=.ok (.slice (g,0) 512 512) w:=by kernel_rfl
theorem J8(n:Nat)(z:List Int)(bs:List Int)(hz:z.length=256)(hb:bs.length=256):splice (ax n ⟨6,z⟩) 2 (bs.map (Value.int .u8))=ax n ⟨6,bs⟩:=by
 unfold splice ax;simp only[List.take_succ_cons,List.take_zero,fJ]
 rw[List.drop_eq_nil_of_le (by simp[hz,hb])];simp
theorem Gn:(prog.info? 3).map (λi=>(i.size,i.bytes,(i.zero.map (·.cells.size))))=some (1,8,some 1):=by kernel_rfl
theorem Gp(n:Int):prog.built 260 [(0,.int .i64 n),(1,.int .i64 6)]=some (Value.int .i64 n:: .int .i64 6::(List.replicate 256 (0:Int)).map (Value.int .u8)).toArray:=by kernel_rfl
theorem IM(p:Option Addr)(cap:Nat)(ss:List ByteArray)(w:World)(hS:SS w.heap.size w p ss)(hn:ss.length≤8) :
 Calls prog 187 #[(p,ss.length,cap)] w λe w'=>Bel w w'∧
  (Good ss→∃v,e=.returned (.tuple #[v,.int .u64 (jX (aJ ss) ss.length),(0:Int)])∧
    w'.ownsRow w.heap.size 260 258 v 2 ([254,255].flatMap λn=>ax n ⟨6,(List.range 256).map λi=>l7 ss (256*n+i)⟩))∧
  (¬Good ss→e=.returned (.tuple #[(),.int .u64 0,(6:Int)])):=by
 have HS:=xh hS;clear hS;go_enter func187,ntmps187;go_wp2
 go_loop [5] (λi=>∃k:Nat,k≤ss.length∧i=.int .i64 k∧∀j,j<k→zM (arg ss j)=true) (λi=>ss.length-(intOf i).toNat)
 case atStart=>exact⟨0,Nat.zero_le _,rfl,λj hj=>by omega⟩
 case round=>
  obtain⟨k,hk,rfl,hall⟩:=hrel;have lS:=xh hall;clear hall;by_cases hlt:k<ss.length
  ·obtain⟨b,o,rfl,hb,hc⟩:=HS.o (by omega)
   have hcx:=hc k hlt;have hax:=J7 ss k hlt;generalize hss:ss[k]=s at *
   have HC:=xh hc;have WT:=xh hax;have HSS:=xh hss;clear hc hax hss;by_cases hlen:30<s.size
   ·have HBAD:=xh (show ¬Good ss from λh=>by
     have:=(dQ.1 (h k hlt)).1;rw[WT.o,bR]at this;omega)
    have hlen':(30:Int)<(s.size:Int):=by omega
    go_wp2
    go_ret3
    exact⟨Below.refl _ _,λh=>absurd h HBAD.o,λ_=>rfl⟩
   ·have hlen':(s.size:Int)≤30:=by omega
    go_wp2
    go_loop [6] (λi=>∃x:Nat,x≤s.size∧i=.int .i64 x∧∀j,j<x→(vw s).getD j 0≠0) (λi=>s.size-(intOf i).toNat)
    case atStart=>exact⟨0,Nat.zero_le _,rfl,λj hj=>by omega⟩
    case round=>
     obtain⟨x,hx,rfl,hno⟩:=hrel;have GM:=xh hno;clear hno;by_cases hxl:x<s.size
     ·have hgx:(vw s).getD x 0=(s[x].toNat:Int):=by
       unfold vw;rw[List.getD_eq_getElem?_getD,dA,bP (by simpa using hxl)];rfl
      have HGX:=xh hgx;clear hgx;by_cases hz:((s[x].toNat:Nat):Int)=0
      ·have hzb:(((s[x].toNat:Nat):Int)==0)=true:=by simpa using hz
       have HBAD:=xh (show ¬Good ss from λh=>by
        have:=(dQ.1 (h k hlt)).2;rw[WT.o]at this;refine this ?_;have h2:=HGX.o;rw[hz]at h2;rw[←h2,List.getD_eq_getElem?_getD,bP (by rw[bR];exact hxl)];exact List.getElem_mem _)
       clear hz;go_wp2
       go_ret3
       exact⟨Below.refl _ _,λh=>absurd h HBAD.o,λ_=>rfl⟩
      ·have hzb:(((s[x].toNat:Nat):Int)==0)=false:=by simpa using hz
       have HNZ:Hid ((vw s).getD x 0≠0):=xh (by rw[HGX.o];exact hz);clear hz;go_wp2
       go_round
       case rel=>exact⟨x+1,by omega,by go_num,gD GM.o HNZ.o⟩
       case measure=>simp[intOf]<;>omega
     ·obtain rfl:x=s.size:=by omega
      have HGK:Hid (zM (arg ss k)=true):=xh (dQ.2 (by
       rw[WT.o,bR];refine⟨by omega,λh=>?_⟩;obtain⟨j,hj,he⟩:=List.getElem_of_mem h;have:=GM.o j (by rw[←bR];exact hj);rw[List.getD_eq_getElem?_getD,bP hj]at this;exact this he))
      go_wp2
      go_round
      case rel=>exact⟨k+1,by omega,by go_num,gD lS.o HGK.o⟩
      case measure=>simp[intOf]<;>omega
  ·obtain rfl:k=ss.length:=by omega
   have lM:Hid (Good ss):=xh lS.o;obtain⟨z5,hz5⟩:∃z5,z5=rowOf (λ_=>0) 512:=⟨_,rfl⟩;have hz:∀w,(zeroValue 417).run prog w=.ok (.agg z5.toArray) w:=λw=>by rw[hz5];exact Sz w
   have HZ5:=xh hz5;clear hz5 lS;go_upto_region 18 with fail
   have afv:∀i∈(dG ss.length 0),(arg ss i).length≤30:=λi hi=>(dQ.1 (lM.o i (xX hi))).1;have k7:Bel w (w.alloc (.cells z5.toArray 417)):=Below.aF w _;have b7:Blk (w.alloc (.cells z5.toArray 417)) w.heap.size (rowOf (λj=>(lI ss (dG ss.length ss.length)).M (65024+j)) 512) 417:=by rw[lH,show(λj=>(lI ss []).M (65024+j))=(λ_=>(0:Int))from rfl,←HZ5.o];exact Blk.new w _ _
   have hs7:w.heap.size<(w.alloc (.cells z5.toArray 417)).heap.size:=b7.lt;generalize (w.alloc (.cells z5.toArray 417))=w7 at *
   have K7:=xh k7;have uW:=xh b7;obtain⟨g7,hg7⟩:=e_x w.heap.size;rw[hg7]at uW hs7 HS⊢;have Xz:=xh hg7;clear k7 b7 hg7 hz
   go_loopw [9,10,11] (λa l i wr=>∃m:Nat,m≤ss.length∧i=.int .i64 ((ss.length:Int)-1-m)∧a=.int .i64 (lI ss (dG ss.length (ss.length-m))).e∧
    Blk wr g7 (rowOf (λj=>(lI ss (dG ss.length (ss.length-m))).M (65024+j)) 512) 417∧
    wr.ownsRow w7.heap.size 3 1 l m ((dG ss.length (ss.length-m)).map λi=>Value.int .i64 ((lI ss (dG ss.length (ss.length-m))).A i))∧Keep (λq=>g7≤q) w wr∧w7.heap.size≤wr.heap.size)
    (λ_ _ i _=>(intOf i+1).toNat)
   case atStart=>exact⟨0,Nat.zero_le _,by simp,by rw[Nat.sub_zero,lH];rfl,uW.o,by rw[Nat.sub_zero,lH];exact⟨rfl,.inl ⟨rfl,rfl⟩⟩,Keep.of_bel _ K7.o,bH _⟩
   case round=>
    obtain⟨m,hm,rfl,rfl,hbm,hrow,hkw,hsw⟩:=hrel;have ZL:=xh hbm;have eZ:=xh hrow;have vV:=xh hkw;clear hbm hrow hkw;by_cases hml:m<ss.length
    ·obtain⟨b,o,rfl,hb,hc⟩:=HS.o (by omega)
     obtain⟨i,hi⟩:∃i:Nat,i=ss.length-1-m:=⟨_,rfl⟩;have hil:i<ss.length:=by omega
     have hcx:=(vV.o.cell ⟨b,o+i,none⟩ (by rw[Xz.o];exact hb) (by show ¬g7≤b;omega)).trans (hc i hil);have hax:=J7 ss i hil;have hgi:=(dQ.1 (lM.o i hil)).1;have hrev:dG ss.length (ss.length-(m+1))=dG ss.length (ss.length-m)++[i]:=by
      rw[rU _ _ (by omega),show ss.length-(m+1)+1=ss.length-m from by omega,show ss.length-(m+1)=i from by omega]
     have hbd:=qj ss (dG ss.length (ss.length-m)) (λj hj=>(dQ.1 (lM.o j (xX hj))).1);rw[jd]at hbd;have SB:∀j∈dG ss.length (ss.length-m),j≠i:=λj hj e=>by
      subst e;unfold dG at hj;have:=List.mem_reverse.1 hj;rw[List.mem_drop_iff_getElem]at this;obtain⟨q,hq,he⟩:=this;simp at he
      omega
     rw[show(ss.length:Int)-1-m=(i:Int)from by omega];rw[hax,bR]at hgi;generalize hss:ss[i]=s at *
     obtain⟨st,hst⟩:=e_x (lI ss (dG ss.length (ss.length-m)));rw[hst]at hbd ZL eZ⊢;obtain⟨A,hA⟩:∃A:Nat,st.e-(s.size:Int)-1=A:=⟨(st.e-(s.size:Int)-1).toNat,by omega⟩;have hA1:65024≤A:=by omega
     have hA2:A+s.size+1≤65536:=by omega
     obtain⟨po,hpo⟩:∃po:Nat,(A:Int)-65024=po:=⟨A-65024,by omega⟩;have adY:po+s.size<512:=by omega
     have Y0:Hid (lI ss (dG ss.length (ss.length-(m+1)))=⟨A,bO st.M A (vw s),lK st.A i A⟩):=xh (by
      rw[hrev,kQ,hst];unfold mX;rw[hax,bR,show st.e-((s.size:Int)+1)=(A:Int)from by omega,Int.toNat_natCast])
     have adZ:=xh hrev;have ad1:=xh SB;have HAP:Hid (A=65024+po):=xh (by omega);have hi0:(0:Int)≤(i:Int):=by omega
     have afw:(i:Int)<(ss.length:Int):=by omega
     have hsl:=λW=>BH W g7 (po:Int) po rfl (by omega);obtain⟨afx,afy⟩:=hbd;have HI:=xh hi;clear hi hax hst hrev SB hss hc;generalize st.e=e0 at *
     go_upto_region 21 with fail
     have hwr:IntKind.i64.wrap (po:Int)=(po:Int):=by rw[IntKind.wrap_i64];omega
     go_still_tail 8,(by kernel_rfl)
     clear hwr;change wpList _ _ _ _ _ wr.drew
     have kd:Bel wr wr.drew:=Below.drew (Below.refl _ _);generalize wr.drew=wd at *
     have uI:=xh (ZL.o.bel kd);have GJ:=xh (aB eZ.o kd);have gJ:=xh (vV.o.tr (Keep.of_bel _ kd));have hsd:w7.heap.size≤wd.heap.size:=aV hsw kd.size;clear kd;go_upto_region 22 with(refine oF rfl (.tmp 66) (.tmp 70) 59 9 rfl 5 underlying59 (by kernel_rfl) g7 po _ _ s rfl rfl _ 417 uI.o (by omega) (by rw[Dt];omega) ?_;intro w2 B2 K2)
     have HB2:Hid (Blk w2 g7 (rowOf (λj=>bO st.M A (vw s) (65024+j)) 512) 417):=xh (by
      have:=B2.out;rw[Gq _ _ _ _ _ (by rw[bR];omega),←HAP.o]at this;exact this)
     have HR2:=xh (aZ GJ.o K2 (λq hq e=>by omega));have gq:=xh (gJ.o.tr (K2.mono (λq hq=>by omega)));have hs2:w7.heap.size≤w2.heap.size:=aV hsd K2.size;have ad2:Hid ((dG ss.length (ss.length-(m+1))).map (λj=>Value.int .i64 (lK st.A i A j))=(dG ss.length (ss.length-m)).map (λj=>Value.int .i64 (st.A j))++[.int .i64 A]):=xh (by
      rw[adZ.o,List.map_append];congr 1
      ·apply List.map_congr_left
       intro j hj;simp only[lK]
       rw[if_neg (ad1.o j hj)]
      ·simp[lK])
     clear B2 K2
     go_wp2_with (first
      | (refine af rfl 60 3 (.tmp 73) rfl [.int .i64 A] rfl underlying60 Gn (by show 0<1;omega) (by show 1≤2^24;omega) ?_;intro w5 B5 K5)
      | (refine aX rfl (.tmp 72) (.tmp 74) 60 rfl underlying60 Gn (by omega) rfl (aB HR2.o K5) _ [.int .i64 A] 3 rfl B5.out rfl (by intro v hv;simp at hv;rcases hv with rfl;rfl) (by unfold maxLen;omega) (by omega) (aV hs2 K5.size) ?_;intro v6 w6 R6 K6))
     have hb6:Blk w6 g7 (rowOf (λj=>bO st.M A (vw s) (65024+j)) 512) 417:=(HB2.o.bel K5).keep K6 (by show ¬w7.heap.size≤g7;omega);exact⟨⟨m+1,by omega,by congr 1;have:=HI.o;omega,by rw[Y0.o],by rw[Y0.o];exact hb6,by rw[Y0.o,ad2.o];exact R6,(gq.o.tr (Keep.of_bel _ K5)).tr (K6.mono (λq hq=>by omega)),aV hs2 (aV K5.size K6.size)⟩,by simp only[intOf];have:=HI.o;omega⟩
    ·obtain rfl:m=ss.length:=by omega
     rw[Nat.sub_self]at ZL eZ⊢;rw[show lI ss (dG ss.length 0)=aJ ss from rfl]at ZL eZ⊢;have hbd:=ql ss lM.o hn;have hsb:=zN ss lM.o hn;have hwb:=rV ss lM.o hn;obtain⟨uF,Al⟩:∃uF:Nat,jX (aJ ss) ss.length=uF:=⟨(jX (aJ ss) ss.length).toNat,by omega⟩;obtain⟨e0,he⟩:=e_x ((aJ ss).e);have hq:(e0-8*((ss.length:Int)+2))/16*16=(uF:Int):=by rw[←Al,←he];rfl
     rw[Al,he]at hsb;rw[he]at hbd⊢;obtain⟨hb0,hb1⟩:=hbd;obtain⟨hs0,hs1,hs2⟩:=hsb;obtain⟨po,hpo⟩:∃po:Nat,(uF:Int)-65024=po:=⟨uF-65024,by omega⟩;have adY:po+8*(ss.length+2)≤512:=by omega
     have Ta:Hid (uF=65024+po):=xh (by omega);have Vw:=xh Al;have Zf:=xh hwb;have abG:Hid ((jX (aJ ss) ss.length).toNat=uF):=xh (by rw[Al];exact Int.toNat_natCast _);have Vx:=λW (hW:Blk W g7 (rowOf (λj=>(aJ ss).M (65024+j)) 512) 417)=>Gh g7 po 512 (λj=>(aJ ss).M (65024+j)) 417 512 (ss.length:Int) W hW (by omega) (by omega) (by omega) (by omega);have HP:=xh (Vx wr ZL.o);have hfull:=λW=>SA W g7;clear Al he Vx hwb;go_upto_region 25 with(go_at_call 262;with_reducible refine au HP.o ?_;rintro e w2 ⟨rfl,B2,K2⟩)
     have HB2:Hid (Blk w2 g7 (rowOf (λj=>gM (aJ ss) ss.length 1 (65024+j)) 512) 417):=xh (by
      have h2:=B2;rw[BI,←Ta.o]at h2;have e:gM (aJ ss) ss.length 1=bO (aJ ss).M uF (eu (ss.length:Int)):=by
       show bO (aJ ss).M ((jX (aJ ss) ss.length).toNat+8*0) (eu (gI (aJ ss) ss.length 0))=_
       rw[abG.o];rfl
      rw[e];exact h2)
     have HR2:=xh (aZ eZ.o K2 (λq hq e=>by omega));have gq:=xh (vV.o.tr (K2.mono (λq hq=>by omega)));have hsz2:w7.heap.size≤w2.heap.size:=aV hsw K2.size;clear B2 K2 eZ ZL vV HP;obtain⟨pa,ca,rfl,_,_,hpa⟩:=aD HR2.o;have Za:=xh hpa;clear hpa;go_wp2
     go_loopw [13] (λx wr=>∃i:Nat,i≤ss.length∧x=.int .i64 i∧Blk wr g7 (rowOf (λj=>gM (aJ ss) ss.length (i+1) (65024+j)) 512) 417∧Keep (λq=>q=g7) w2 wr) (λx _=>ss.length-(intOf x).toNat)
     case atStart=>exact⟨0,Nat.zero_le _,rfl,HB2.o,Keep.refl _ _⟩
     case round=>
      obtain⟨i,hi,rfl,hbi,hki⟩:=hrel;have HBI:=xh hbi;have HKI:=xh hki;clear hbi hki;by_cases hil:i<ss.length
      ·obtain⟨ga,rfl,afz,ad3,abH,_⟩:=Za.o.resolve_left (by omega)
       obtain⟨x,hx⟩:∃x:Nat,x=ss.length-1-i:=⟨_,rfl⟩;have OW:x<ss.length:=by omega
       have hrx:(dG ss.length 0)[x]?=some i:=by
        unfold dG;rw[List.drop_zero,List.getElem?_reverse (by simpa using OW),List.length_range,List.getElem?_range (by omega)];congr 1
        omega
       have hcx:wr.cell? ⟨ga,x,none⟩=some (.int .i64 ((aJ ss).A i)):=by
        rw[HKI.o.cell ⟨ga,x,none⟩ ad3 (by show ¬ga=g7;omega),abH x (by rw[fJ,jd];omega),dA,hrx];rfl
       have hwi:=Zf.o (i+1);have hwe:gI (aJ ss) ss.length (i+1)=(aJ ss).A i:=by unfold gI;rw[if_neg (by omega),if_pos (by omega),Nat.add_sub_cancel]
       rw[hwe]at hwi;obtain⟨ai,hai⟩:=e_x ((aJ ss).A i);rw[hai]at hcx hwi hwe;obtain⟨ad4,afA⟩:=hwi
       have HP4:Hid (∀W,Blk W g7 (rowOf (λj=>gM (aJ ss) ss.length (i+1) (65024+j)) 512) 417→Calls prog 262 #[.slice (g7,0) 512 512,.int .i64 ((po:Int)+8+8*i),.int .u64 ai] W λe w'=>e=.returned (.tuple #[])∧
        Blk w' g7 (rowOf (λj=>gM (aJ ss) ss.length (i+1+1) (65024+j)) 512) 417∧Keep (λk=>k=g7) W w'):=xh (λW hW=>by
        have h:=Gh g7 (po+8+8*i) 512 (λj=>gM (aJ ss) ss.length (i+1) (65024+j)) 417 512 ai W hW (by omega) (by omega) ad4 (by omega);rw[BI,show 65024+(po+8+8*i)=uF+8*(i+1)from by have:=Ta.o;omega,show((po+8+8*i:Nat):Int)=(po:Int)+8+8*i from by omega]at h;have e:gM (aJ ss) ss.length (i+1+1)=bO (gM (aJ ss) ss.length (i+1)) (uF+8*(i+1)) (eu ai):=by
         rw[gM,abG.o,hwe]
        rw[e];exact h)
       have hw1:IntKind.i64.wrap (po:Int)=(po:Int):=by rw[IntKind.wrap_i64];omega
       have hw2:IntKind.i64.wrap ((po:Int)+8)=(po:Int)+8:=by rw[IntKind.wrap_i64];omega
       have hw3:IntKind.i64.wrap (8*(i:Int))=8*(i:Int):=by rw[IntKind.wrap_i64];omega
       have hw4:IntKind.i64.wrap ((po:Int)+8+8*i)=(po:Int)+8+8*i:=by rw[IntKind.wrap_i64];omega
       have hw5:IntKind.i64.wrap ((ss.length:Int)-1)=(ss.length:Int)-1:=by rw[IntKind.wrap_i64];omega
       have hw6:IntKind.i64.wrap ((ss.length:Int)-1-i)=(x:Int):=by rw[IntKind.wrap_i64];omega
       have hw7:IntKind.u64.wrap ai=ai:=by rw[IntKind.wrap_u64];omega
       have hx0:(0:Int)≤(x:Int):=by omega
       have afB:(x:Int)<(ss.length:Int):=by omega
       clear hx hrx hwe hai abH;go_upto_region 28 with fail
       go_still_tail 17,(by kernel_rfl)
       change wpList _ _ _ _ _ wr.drew
       have kd:Bel wr wr.drew:=Below.drew (Below.refl _ _);generalize wr.drew=wd at *
       have gJ:=xh kd;have uI:=xh (HBI.o.bel kd);clear kd hw1 hw2 hw3 hw4 hw5 hw6 hw7;go_wp2_with (go_at_call 262;with_reducible refine au (HP4.o wd uI.o) ?_;rintro e w4 ⟨rfl,B4,K4⟩;have iY:=xh B4;have oM:=xh K4;clear B4 K4)
       go_roundw
       case rel=>exact⟨i+1,by omega,by go_num,iY.o,(HKI.o.tr (Keep.of_bel _ gJ.o)).tr oM.o⟩
       case measure=>simp[intOf]<;>omega
      ·obtain rfl:i=ss.length:=by omega
       rw[SC ss lM.o hn]at HBI;have HKT:=xh (gq.o.tr (HKI.o.mono (λq hq=>by omega)));have hb7:=HBI.o;have afC:w7.heap.size≤wr.heap.size:=aV hsz2 HKI.o.size;obtain⟨M,hM⟩:=e_x (l7 ss);rw[hM]at hb7;have HM:=xh hM;have ad5:=xh hb7;have afD:g7<wr.heap.size:=hb7.lt;clear HBI hb7 HB2 hM Za HKI gq HR2;obtain⟨w8,rfl⟩:∃w8:World,w8=wr:=⟨_,rfl⟩;obtain⟨z0,hz0⟩:∃z0:List Value,z0=ax 0 Pg.zero:=⟨_,rfl⟩;have hz:∀w,(zeroValue 260).run prog w=.ok (.agg z0.toArray) w:=λw=>by
        rw[show z0=Value.int .i64 0:: .int .i64 0::List.replicate 256 (Value.int .u8 0)from by rw[hz0];simp[ax,Pg.zero]]
        kernel_rfl
       have HZ0:Hid (z0.length=258):=xh (by rw[hz0];exact bY _ _ Pg.sZ.len);clear hz0;go_wp2
       go_loopw [14,15] (λl x wr=>∃k:Nat,k≤2∧x=.int .i64 k∧wr.ownsRow w8.heap.size 260 258 l k ((List.range k).flatMap λq=>ax (254+q) ⟨6,(List.range 256).map λi=>M (256*(254+q)+i)⟩)∧Bel w8 wr) (λ_ x _=>2-(intOf x).toNat)
       case atStart=>exact⟨0,by omega,rfl,⟨rfl,.inl ⟨rfl,rfl⟩⟩,Bel.refl _⟩
       case round=>
        obtain⟨k,hk,rfl,hrow,hbw⟩:=hrel;have eZ:=xh hrow;have oK:=xh hbw;have Te:=hbw.size;clear hrow hbw;by_cases hk2:k<2
        ·obtain⟨zs,hzs⟩:∃zs:List Value,zs=ax (254+k) ⟨6,List.replicate 256 0⟩:=⟨_,rfl⟩
         have Dz:Hid (prog.built 260 [(0,.int .i64 (254+(k:Int))),(1,.int .i64 6)]=some zs.toArray):=xh (by
          have:=Gp (254+(k:Int));rw[this,hzs];unfold ax;rw[show((254+k:Nat):Int)=254+(k:Int)from by omega])
         have oH:Hid (zs.length=258):=xh (by rw[hzs];exact bY _ _ (by simp));have HZO:Hid (∀v∈zs,v.oneCell'=true):=xh (by rw[hzs];exact jc _ _);obtain⟨bs,hbs⟩:∃bs:List Int,bs=(List.range 256).map λi=>M (256*(254+k)+i):=⟨_,rfl⟩;obtain⟨news,hnews⟩:∃news:List Value,news=bs.map (Value.int .u8):=⟨_,rfl⟩;have Oc:Hid (news.length=256):=xh (by rw[hnews,hbs];simp);have GM:Hid (∀v∈news,v.oneCell'=true):=xh (by rw[hnews];intro v hv;obtain⟨x,_,rfl⟩:=List.mem_map.1 hv;rfl);obtain⟨cs,hcs⟩:∃cs:List Value,cs=ax (254+k) ⟨6,bs⟩:=⟨_,rfl⟩;have ad6:Hid (splice zs 2 news=cs):=xh (by rw[hzs,hnews,hcs];exact J8 _ _ _ (by simp) (by rw[hbs];simp));have iV:Hid (cs.length=258):=xh (by rw[hcs];exact bY _ _ (by rw[hbs];simp));have Yh:Hid (∀v∈cs,v.oneCell'=true):=xh (by rw[hcs];exact jc _ _);have TB:Hid ((List.range (k+1)).flatMap (λq=>ax (254+q) ⟨6,(List.range 256).map λi=>M (256*(254+q)+i)⟩)=(List.range k).flatMap (λq=>ax (254+q) ⟨6,(List.range 256).map λi=>M (256*(254+q)+i)⟩)++cs):=xh (by
          rw[show List.range (k+1)=List.range k++[k]from List.range_succ,List.flatMap_append,List.flatMap_singleton,hcs,hbs])
         have yR:Hid (∀W,Bel w8 W→∀j v,news[j]?=some v→W.cell? ((⟨g7,k*256,none⟩:Addr).add j)=some v):=xh (λW hW j v hj=>by
          have hjl:=(bZ hj).1;rw[Oc.o]at hjl;rw[Addr.add_mid,(ad5.o.bel hW).cell,vS _ _ _ (by omega),←hj,hnews,hbs,dA,dA,List.getElem?_range hjl];simp only[Option.map_some]
          congr 2
          congr 1
          omega)
         clear hzs hbs hnews hcs
         go_upto_region 34 with(first
          | (refine wpList_buildTo rfl 260 _ rfl (some 122) rfl zs.toArray (by simp only[List.map_toArray,List.map_cons,List.map_nil];exact Dz.o) ?_)
          | (refine aG rfl 260 (.tmp 16) (.tmp 122) rfl rfl wr.heap.size zs z0 260 (Blk.new wr z0 _) rfl rfl (by rw[oH.o];kernel_rfl) (HZ0.o.trans oH.o.symm) HZO.o ?_;intro w3 B3 K3))
         have kc:Bel wr w3:=(Below.aF wr _).trans (K3.below _ (by simp) (λk hk=>by omega));have vW:=xh kc;have afE:=B3.out.lt;have hwm:IntKind.i64.wrap ((k:Int)*256)=(k:Int)*256:=by rw[IntKind.wrap_i64];omega
         have hsl:=λW=>BH W g7 ((k:Int)*256) (k*256) (by omega) (by omega);have hsp:=λW=>Gm W wr.heap.size;clear kc K3 hz;go_still_tail 5,(by kernel_rfl)
         change wpList _ _ _ _ _ w3.drew
         have kd:Bel w3 w3.drew:=Below.drew (Below.refl _ _);generalize w3.drew=wd at *
         have gJ:=xh kd;have uI:=xh (show Blk wd wr.heap.size zs 260 from(show Blk w3 wr.heap.size zs 260 from B3.out).bel kd);clear kd B3 hwm hsl hsp
         go_wp2_with (first
          | (refine wpList_copy_splice rfl (.tmp 124) (.tmp 127) 59 59 rfl 5 underlying59 (by kernel_rfl) _ _ _ _ _ _ rfl rfl wr.heap.size 2 zs 260 uI.o news (by rw[Oc.o];exact(Nat.min_eq_right (by omega)).symm) (λ_=>⟨rfl,⟨g7,k*256,none⟩,rfl,yR.o _ (oK.o.tr (vW.o.tr gJ.o))⟩) (by rw[Oc.o,oH.o];omega) GM.o wr.heap.size wd (Below.refl _ _) (bH _) ?_;intro w4 B4 K4
             have iY:Hid (Blk w4 wr.heap.size cs 260):=xh (by have:=B4.out;rw[ad6.o]at this;exact this);have oM:Hid (Bel wr w4):=xh (Below.trans (vW.o.tr gJ.o) K4);clear B4 K4)
          | (refine wpList_load_mid rfl 260 (.tmp 16) rfl wr.heap.size 0 rfl cs _ (by have:=iY.o.range 0;simpa using this) underlying260 rfl (by rw[iV.o];kernel_rfl) ?_)
          | (refine af rfl 164 260 (.tmp 130) rfl cs rfl underlying164 (by rw[iV.o];exact nJ) (by rw[iV.o];omega) (by rw[iV.o];decide) ?_;intro w5 B5 K5)
          | (refine aX rfl (.tmp 129) (.tmp 131) 164 rfl underlying164 nJ (by omega) rfl (aB (aB eZ.o oM.o) K5) _ cs 260 rfl B5.out iV.o Yh.o (by unfold maxLen;omega) (by omega) (aV Te (aV oM.o.size K5.size)) ?_;intro v6 w6 R6 K6))
         exact⟨⟨k+1,by omega,by go_num,by rw[TB.o];exact R6,((oK.o.tr oM.o).tr K5).trans (K6.below _ (aV Te (aV oM.o.size K5.size)) λq hq=>hq)⟩,by simp only[intOf];omega⟩
        ·obtain rfl:k=2:=by omega
         have hfin:wr.ownsRow w.heap.size 260 258 u14 2 ([254,255].flatMap λn=>ax n ⟨6,(List.range 256).map λi=>l7 ss (256*n+i)⟩):=by
          have h:=eZ.o;rw[HM.o];exact World.ownsRow.mono h (by rw[Xz.o];omega)
         have xq:=xh hfin;have Ni:Hid (Bel w wr):=xh (Below.trans (HKT.o.below w.heap.size (bH _) (λq hq=>by rw[Xz.o];exact hq)) (Below.mono oK.o (by rw[Xz.o];omega)));clear hfin;go_wp2
         go_ret3
         exact⟨Ni.o,λ_=>⟨_,by rw[Vw.o];try rfl,xq.o⟩,λh=>absurd lM.o h⟩
end
end Go.Proofs.YtcnjjchlebmfiaaGreatDoor
