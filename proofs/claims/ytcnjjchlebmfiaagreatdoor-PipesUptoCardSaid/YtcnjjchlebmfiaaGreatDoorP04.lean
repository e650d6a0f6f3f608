/-.-/
import Derived.Test.YtcnjjchlebmfiaaGreatDoorP03
import Derived.Stop.Asserts
import Derived.RowKitTokens
set_option linter.unusedVariables false
set_option linter.unusedSimpArgs false
set_option maxRecDepth 100000
set_option maxHeartbeats 16000000
namespace Go.Proofs.YtcnjjchlebmfiaaGreatDoor
section
open Go.Proofs.Tryz Go.RowKit
structure KV where
 a:Int
 b:Int
 c:Int
 d:Int
 e:Int
 pv:Value
 ov:Value
 xv:Value
 tv:Value
 uv:Value
 mv:Value
def KV.cells(s:KV)(iv:Value)(last:Nat):List Value:=[.int .i64 s.a,.int .i64 s.b,.int .i64 s.c,.int .i64 s.d,.int .i64 s.e,s.pv,s.ov,iv,s.xv,s.tv,s.uv,s.mv,.int .i64 last]
theorem nC(kb:Nat)(s:KV)(iv:Value)(n:Nat)(w:World)(hB:Blk w kb (s.cells iv n) 174)(hn:n≤1000000) :
 Calls prog 103 #[.pointer (kb,0)] w λe w'=>e=.returned (.int .i64 ((n+1:Nat):Int))∧Blk w' kb (s.cells iv (n+1)) 174∧Keep (λq=>q=kb) w w':=by
 have c12:=hB.c 12 rfl;have f12:=hB.frozen 12;have hlt:=hB.lt;have HB:=xh hB;clear hB;go_enter func103,ntmps103;go_wp2
 go_ret
 refine⟨?_,HB.o.setCell (o:=12) _,Keep.setCell w kb 12 _⟩;rfl
theorem gz:(prog.info? 252).map (λi=>(i.size,i.bytes,(i.zero.map (·.cells.size))))=some (5,64,some 5):=by kernel_rfl
def bE(i:Nat):List Nd→List Value
 | []=>[]
 | n::L=>n.cells i++bE (i+1) L
theorem wC(i:Nat):∀(L M:List Nd),bE i (L++M)=bE i L++bE (i+L.length) M:=by
 intro L
 induction L generalizing i with
 | nil=>intro M;simp[bE]
 | cons n L ih=>
   intro M;simp only[List.cons_append,bE,ih,List.length_cons,List.append_assoc]
   rw[show i+1+L.length=i+(L.length+1)from by omega]
theorem pK(i:Nat)(L:List Nd):(bE i L).length=L.length*5:=by
 induction L generalizing i with
 | nil=>rfl
 | cons n L ih=>simp only[bE,List.length_append,ih,List.length_cons,Nd.cells,List.length_nil];omega
theorem fQ{w:World}{base:Nat}{e:TypeId}{size:Nat}{v:Value}{n:Nat}{xs:List Value}(h:w.ownsRow base e size v n xs)(q:Nat)(hq:v.ownBlock=some q):base≤q:=by
 rcases h.2 with⟨rfl,_⟩|⟨g,cap,cur,rfl,h2,_⟩
 ·cases hq
 ·cases hq;exact h2
theorem aI{P:Program}{w:World}{base:Nat}{e:TypeId}{size:Nat}{v:Value}{n:Nat}{xs:List Value}{ops:Array Oper}{rest:List Oper}{o:Oper}{a:Act}{Q:Exit→Act→World→Prop}(hgd:o.guard=none)(s x:Operand)(t:TypeId)
 (ho:o.op=.call {callee:=.builtin .append,args:= #[s,x],argTypes:= #[t,t]}){bytes:Nat}(ht:P.underlying t=some (.slice e))
 (hi:(P.info? e).map (λi=>(i.size,i.bytes,(i.zero.map (·.cells.size))))=some (size,bytes,some size))(hsz:0<size)
 (hs:a.eval s=v)(hown:w.ownsRow base e size v n xs)(g m c:Nat)(cs:List Value)(t':TypeId)(hx:a.eval x=.slice (g,0) m c)(hB:Blk w g cs t')(hl:cs.length=m*size)(h1:∀u∈cs,u.oneCell'=true)
 (h63:n+m≤maxLen)(hbytes:(n+m)*bytes≤140737488355328)(hbase:base≤w.heap.size)
 (h:∀p cp w',w'.ownsRow base e size (.slice p (n+m) cp) (n+m) (xs++cs)→Keep (λq=>v.ownBlock=some q) w w'→wpList P ops Q rest (a.put o.dst (.slice p (n+m) cp)) w'):wpList P ops Q (o::rest) a w:=by
 obtain⟨i,z,hi,hz,e1,e2,e3⟩:=info_of hi;refine wpList_append_own w hgd s x t ho base e i z size bytes ht hi hz e1 e2 e3 hsz v n xs hs hown ⟨g,0,none⟩ m c cs hx hl (λj u hj=>?_) h1 h63 hbytes hbase λv' w' k1 k2 _=>?_
 ·rw[show(⟨g,0,none⟩:Addr).add j=⟨g,j,none⟩from by unfold Addr.add;split<;>simp_all]
  rw[hB.cell];exact hj
 ·obtain⟨p,cp,rfl,_⟩:=aD k1
  exact h p cp w' k1 ⟨k2.os,k2.tape,k2.output,k2.size,λk hk hn=>k2.block k hk λe=>hn e.symm⟩
def dM:Value:=.slice none 0 0
theorem Eo(kb:Nat)(s:KV)(iv:Value)(L:List Nd)(w:World)(hB:Blk w kb (s.cells iv L.length) 174)(hrow:w.ownsRow (kb+1) 252 5 iv L.length (bE 0 L))(d:Nat)(name:ByteArray)(is:Bool)(hn:L.length≤100000) :
 Calls prog 184 #[.pointer (kb,0),.int .i64 d,.string name,.bool is] w λe w'=>e=.returned (.int .i64 ((L.length+1:Nat):Int))∧∃zU,Blk w' kb (s.cells zU (L.length+1)) 174∧
  w'.ownsRow (kb+1) 252 5 zU (L.length+1) (bE 0 (L++[⟨d,name,is,[],dM⟩]))∧Keep (λq=>q=kb∨iv.ownBlock=some q) w w':=by
 have hF:=nC kb s iv L.length w hB (by omega);have HF:=xh hF;clear hF;have eZ:=xh hrow;have hlt:=hB.lt;have GX:Hid (bE 0 (L++[⟨d,name,is,[],dM⟩])=bE 0 L++[.int .i64 (L.length+1:Nat),.int .i64 d,.string name,.bool is,dM]):=xh (by
  rw[wC,Nat.zero_add];rfl)
 clear hB hrow;go_enter func184,ntmps184;go_upto_region 2 with(go_at_call 103;with_reducible refine au HF.o ?_;rintro e w1 ⟨rfl,b1,k1⟩)
 have c7:=b1.c 7 rfl;have f7:=b1.frozen 7;have hlt1:=b1.lt;have hz1:=k1.size;have HB1:=xh b1;have bG:=xh k1;have aao:=xh (aZ eZ.o k1 (λg hg e=>by omega));have Dz:Hid (prog.built 252 [(0,.int .i64 ((L.length+1:Nat):Int)),(1,.int .i64 d),(2,.string name),(3,.bool is)]=some #[.int .i64 ((L.length+1:Nat):Int),.int .i64 d,.string name,.bool is,dM]):=xh (by kernel_rfl);clear b1 k1
 go_upto_region 3 with(first
  | (refine wpList_buildTo rfl 252 _ rfl (some 21) rfl _ (by simp only[List.map_toArray,List.map_cons,List.map_nil];exact Dz.o) ?_)
  | (refine af rfl 170 252 (.tmp 21) rfl [.int .i64 ((L.length+1:Nat):Int),.int .i64 d,.string name,.bool is,dM] rfl underlying170 gz (by show 0<5;omega) (by show 5≤2^24;omega) ?_;intro w2 B2 K2)
  | (refine aI rfl (.tmp 16) (.tmp 22) 170 rfl underlying170 gz (by omega) rfl (aB aao.o K2) _ 1 1 [.int .i64 ((L.length+1:Nat):Int),.int .i64 d,.string name,.bool is,dM] 252 rfl B2.out rfl (by intro v hv;simp at hv;rcases hv with rfl|rfl|rfl|rfl|rfl<;>rfl) (by unfold maxLen;omega) (by omega) (by have:=K2.size;omega) ?_;intro p3 c3 w3 R3 K3;have B3:=(HB1.o.bel K2).keep K3 (λe=>by have:=fQ eZ.o _ e;omega);have f3:=B3.frozen 7;have q3:=B3.c 7 rfl;have l3:=B3.lt;have HB3:=xh B3;have HR3:=xh R3;clear B3 R3))
 have B4:Blk (w3.setCell (kb,7) (.slice p3 (L.length+1) c3)) kb (s.cells (.slice p3 (L.length+1) c3) (L.length+1)) 174:=HB3.o.setCell (o:=7) _;have K4:=Keep.setCell w3 kb 7 (.slice p3 (L.length+1) c3);generalize w3.setCell (kb,7) (.slice p3 (L.length+1) c3)=w4 at *
 have iY:=xh B4;have HR4:=xh (aZ HR3.o K4 (λg hg e=>by omega));have oM:Hid (Keep (λq=>q=kb∨iv.ownBlock=some q) w w4):=xh ((((bG.o.mono (λ_ h=>.inl h)).tr (Keep.of_bel _ K2)).tr (K3.mono (λ_ h=>.inr h))).tr (K4.mono (λ_ h=>.inl h)));clear B4 K4 K2 K3 B2 f3 q3 l3 c7 f7 hlt1 hz1 Dz;go_wp2
 go_ret
 exact⟨rfl,_,iY.o,by rw[GX.o];exact HR4.o,oM.o⟩
end
end Go.Proofs.YtcnjjchlebmfiaaGreatDoor
namespace Go.Proofs.YtcnjjchlebmfiaaGreatDoor
open Go.Proofs.Tryz
open Go.RowKit Go.Extern.Stop Go.Stop Go.Extern
namespace Rl
theorem SH(t:Addr)(w:World):(ReflectliteValue.unpack (.iface 85 (.pointer (some t)))).run prog w
 = .ok (.agg #[.pointer (6,85),w.heap.size,.int .u64 150]) (w.alloc (.cells #[.pointer (some t)] 85)):=by kernel_rfl
theorem abJ(a:Addr)(w:World):(ReflectliteValue.methodAny (ReflectliteValue.valueError "reflectlite.Value.Type" 0) (λt _ _ _=>ReflectliteType.toType t) #[.agg #[.pointer (6,85),.pointer (some a),.int .u64 150]]).run prog w
 = .ok (.iface 205 (.agg #[.pointer (6,85)])) w:=by kernel_rfl
theorem Kb(h:Value)(w:World):(Go.method 667 205 (.agg #[h]) "Kind").run prog w=.ok (382,h) w:=by kernel_rfl
theorem abK(w:World):((ReflectliteType.abiMethod λt=>(λa:Nat=>Value.int IntKind.u8 (a:Int)) <$> Rtype.kind t) #[.pointer (6,85)]).run prog w=.ok (.int .u8 22) w:=by kernel_rfl
theorem abL(w:World):((ReflectliteType.abiMethod λt=>(λa:Nat=>Value.int IntKind.u8 (a:Int)) <$> Rtype.kind t) #[.pointer (6,48)]).run prog w=.ok (.int .u8 2) w:=by kernel_rfl
theorem rlm(z:Sem Value)(f:TypeId→Addr→Nat→Nat→Sem Value)(v:Value) :
 ReflectliteValue.method z f #[v]=(do match ←ReflectliteValue.parts v with|none=>z|some (t,a,fl)=>f t a fl (fl%32)):=rfl
theorem SK(a:Addr)(w:World):(ReflectliteValue.parts (.agg #[.pointer (6,85),.pointer (some a),.int .u64 150])).run prog w=.ok (some (85,a,150)) w:=by kernel_rfl
theorem Y2(a p:Addr)(W:World)(ha:W.cell? a=some (.pointer (some p))) :
 (ReflectliteValue.method (ReflectliteValue.valueError "reflectlite.Value.IsNil" 0) ReflectliteValue.isNil #[.agg #[.pointer (6,85),.pointer (some a),.int .u64 150]]).run prog W=.ok (.bool false) W:=by
 rw[rlm];simp only[Sem.run_bind,SK,Result.andThen]
 simp[ReflectliteValue.isNil,loadVar,isAgg,underlying,underlying85,ha,Result.andThen]
theorem Kc(h:Value)(w:World):(Go.method 667 205 (.agg #[h]) "Elem").run prog w=.ok (405,.agg #[h]) w:=by kernel_rfl
theorem vT(h:Value)(w:World):(Go.method 667 205 (.agg #[h]) "Implements").run prog w=.ok (406,.agg #[h]) w:=by kernel_rfl
theorem lN(h:Value)(w:World):(Go.method 667 205 (.agg #[h]) "AssignableTo").run prog w=.ok (403,.agg #[h]) w:=by kernel_rfl
theorem abM(w:World):(ReflectliteType.method ReflectliteType.elem #[.agg #[.pointer (6,85)]]).run prog w=.ok (.iface 205 (.agg #[.pointer (6,48)])) w:=by kernel_rfl
theorem Gx(w:World):(ReflectliteType.relation "Implements" ReflectliteType.implements_ #[.agg #[.pointer (6,48)],.iface 205 (.agg #[.pointer (6,46)])]).run prog w=.ok (.bool true) w:=by kernel_rfl
theorem LJ(v:Value)(w:World):(ReflectliteType.typeOf #[.iface 48 v]).run prog w=.ok (.iface 205 (.agg #[.pointer (6,48)])) w:=by kernel_rfl
theorem xe(w:World):(ReflectliteType.relation "AssignableTo" ReflectliteType.assignableTo #[.agg #[.pointer (6,48)],.iface 205 (.agg #[.pointer (6,48)])]).run prog w=.ok (.bool true) w:=by kernel_rfl
theorem Gy(n:Int)(w:World):(ReflectliteValue.unpack (.iface 48 (.int .i64 n))).run prog w
 = .ok (.agg #[.pointer (6,48),w.heap.size,.int .u64 130]) (w.alloc (.cells #[n] 48)):=by kernel_rfl
theorem VE(w:World):(Rtype.elem? 85).run prog w=.ok (some 48) w:=by kernel_rfl
theorem mkE(p:Addr)(w:World):(ReflectliteValue.mk 48 p ReflectliteValue.flagAddr).run prog w=.ok (.agg #[.pointer (6,48),.pointer (some p),.int .u64 386]) w:=by kernel_rfl
theorem SL(a p:Addr)(W:World)(ha:W.cell? a=some (.pointer (some p))) :
 (ReflectliteValue.method (ReflectliteValue.valueError "reflectlite.Value.Elem" 0) ReflectliteValue.elem #[.agg #[.pointer (6,85),.pointer (some a),.int .u64 150]]).run prog W
  = .ok (.agg #[.pointer (6,48),.pointer (some p),.int .u64 386]) W:=by
 rw[rlm];simp only[Sem.run_bind,SK,Result.andThen]
 simp[ReflectliteValue.elem,loadVar,isAgg,underlying,underlying85,ha,Result.andThen,VE,mkE]
theorem rls(v x:Value):ReflectliteValue.set #[v,x]=(do
 let (some (dst,a,fl),some (src,b,_)):=(←ReflectliteValue.parts v,←ReflectliteValue.parts x)
  | unsupported (.noEntry "extern/(internal/reflectlite.Value).Set.zeroValue")
 if fl/ReflectliteValue.flagAddr%2==0 then unsupported (.noEntry "extern/(internal/reflectlite.Value).Set.unaddressable")
 let val ←loadVar src b
 if ←Rtype.directlyAssignable dst src then storeVar dst a val
 else if ←Rtype.implements dst src then
  if (←Rtype.kind src)==20 then
   match val with
   | .nilIface=>unsupported (.noEntry "extern/reflectlite: a nil value of one interface type handed on as a value of another")
   | _=>storeVar dst a val
  else storeVar dst a (.iface src val)
 else panicString ("reflectlite.Set: value of type " ++(←Rtype.spelt src)++ " is not assignable to type " ++(←Rtype.spelt dst))
 pure (.tuple #[])):=rfl
theorem VF(a:Addr)(w:World):(ReflectliteValue.parts (.agg #[.pointer (6,48),.pointer (some a),.int .u64 386])).run prog w=.ok (some (48,a,386)) w:=by kernel_rfl
theorem Y3(a:Addr)(w:World):(ReflectliteValue.parts (.agg #[.pointer (6,48),.pointer (some a),.int .u64 130])).run prog w=.ok (some (48,a,130)) w:=by kernel_rfl
theorem VG(w:World):(Rtype.directlyAssignable 48 48).run prog w=.ok true w:=by kernel_rfl
theorem abN(ta b:Addr)(n:Int)(old:Value)(W:World)(hb:W.cell? b=some (.int .i64 n))(ht:W.cell? ta=some old)(hf:W.frozen? ta=false) :
 (ReflectliteValue.set #[.agg #[.pointer (6,48),.pointer (some ta),.int .u64 386],.agg #[.pointer (6,48),.pointer (some b),.int .u64 130]]).run prog W
  = .ok (.tuple #[]) (W.setCell ta (.int .i64 n)):=by
 rw[rls];simp only[Sem.run_bind,VF,Y3,Result.andThen]
 simp[ReflectliteValue.flagAddr,loadVar,isAgg,underlying,underlying48,hb,Result.andThen,VG,storeVar,Value.cells,storeCells,Addr.add]
 rw[run_store prog W ta _ _ (by rfl)];simp[ht,hf]
end Rl
def ErrVar(w:World):Prop:=w.cell? (0,0)=some (.iface 205 (.agg #[.pointer (6,46)]))
theorem ErrVar.lt{w:World}(h:ErrVar w):0<w.heap.size:=by
 have:=World.block_lt_of_cell? _ _ h
 simpa using this
theorem ErrVar.bel{w w':World}(h:ErrVar w)(hb:Bel w w'):ErrVar w':=(hb.cell (p:=⟨0,0,none⟩) h.lt).trans h
theorem ErrVar.below{B:Nat}{w w':World}(h:ErrVar w)(hB:0<B)(hb:Below B w w'):ErrVar w':=(hb.cell (p:=⟨0,0,none⟩) hB).trans h
theorem y7(w:World):Calls prog 14 #[.nilIface] w (Z.b (.int .i64 0) w):=by
 go_enter func14,ntmps14;go_wp2
 go_ret
 exact⟨rfl,(Below.refl _ _).alloc (bH _) _⟩
theorem SN(n:Int)(t a:Addr)(old:Value)(w:World)(ha:w.cell? a=some (.pointer (some t)))(ht0:w.cell? t=some old)(hf0:w.frozen? t=false) :
 Calls prog 48 #[.iface 48 (.int .i64 n),.iface 85 (.pointer (some t)),.agg #[.pointer (6,85),.pointer (some a),.int .u64 150],.iface 205 (.agg #[.pointer (6,48)])] w
  λev w'=>ev=.returned (.bool true)∧∃W1,Below w.heap.size w W1∧w'=W1.setCell t (.int .i64 n):=by
 have h76:=@run_callFunc_extern prog 45 _ (λargs=>ReflectliteValue.unpack (args.getD 0 (.tuple #[]))) func45 (by kernel_rfl) (by kernel_rfl) (by kernel_rfl) (by kernel_rfl);have aed:=@run_callFunc_extern prog 85 _ ReflectliteType.typeOf func85 (by kernel_rfl) (by kernel_rfl) (by kernel_rfl) (by kernel_rfl);have aee:=@run_callFunc_extern prog 403 _ (ReflectliteType.relation "AssignableTo" ReflectliteType.assignableTo) func403 (by kernel_rfl) (by kernel_rfl) (by kernel_rfl) (by kernel_rfl);have aef:=@run_callFunc_extern prog 86 _ (ReflectliteValue.method (ReflectliteValue.valueError "reflectlite.Value.Elem" 0) ReflectliteValue.elem) func86 (by kernel_rfl) (by kernel_rfl) (by kernel_rfl) (by kernel_rfl);have h116:=@run_callFunc_extern prog 87 _ ReflectliteValue.set func87 (by kernel_rfl) (by kernel_rfl) (by kernel_rfl) (by kernel_rfl);have tO:=Rl.LJ;have mA:=Rl.lN;have aE:=Rl.xe;have vE:=Rl.Gy;have htl:t.block<w.heap.size:=World.block_lt_of_cell? _ _ ht0;have hal:a.block<w.heap.size:=World.block_lt_of_cell? _ _ ha;have el:=Rl.SL a t (w.alloc (.cells #[.pointer (6,85),.pointer (some a),.int .u64 150] 133)) (by rw[World.cell?_alloc_lt _ _ a hal];exact ha)
 have st:=Rl.abN t ⟨w.heap.size+1,0,none⟩ n old ((w.alloc (.cells #[.pointer (6,85),.pointer (some a),.int .u64 150] 133)).alloc (.cells #[n] 48))
  (by rw[World.cell?_alloc_at _ _ _ _ (by simp)];rfl)
  (by rw[World.cell?_alloc_lt _ _ t (by simp;omega),World.cell?_alloc_lt _ _ t htl];exact ht0)
  (by rw[World.frozen?_alloc_old _ _ t (by simp;omega),World.frozen?_alloc_old _ _ t (Nat.ne_of_lt htl)];exact hf0)
 go_enter func48,ntmps48;go_wp2
 refine wp_loop_rounds 1 ?_;rw[rounds_succ];go_wp2
 go_ret
 exact⟨rfl,_,((Below.refl _ _).alloc (bH _) _).alloc (by simp) _,rfl⟩
def LK(x:Value)(n:Int)(w0:World):Prop:=∀(w:World) (t a:Addr) (old:Value),Below w0.heap.size w0 w→w.cell? a=some (.pointer (some t))→w.cell? t=some old→w.frozen? t=false→
 Calls prog 48 #[x,.iface 85 (.pointer (some t)),.agg #[.pointer (6,85),.pointer (some a),.int .u64 150],.iface 205 (.agg #[.pointer (6,48)])] w
  λev w'=>ev=.returned (.bool true)∧∃W1,Below w.heap.size w W1∧w'=W1.setCell t (.int .i64 n)
theorem Y4(u:TypeId)(v:Value)(n:Int)(t:Addr)(old:Value)(w:World)(hx:LK (.iface u v) n w)(hg:ErrVar w)(ht0:w.cell? t=some old)(hf0:w.frozen? t=false) :
 Calls prog 28 #[.iface u v,.iface 85 (.pointer (some t))] w
  λev w'=>ev=.returned (.bool true)∧∃W1,Below w.heap.size w W1∧w'=W1.setCell t (.int .i64 n):=by
 have h76:=@run_callFunc_extern prog 45 _ (λargs=>ReflectliteValue.unpack (args.getD 0 (.tuple #[]))) func45 (by kernel_rfl) (by kernel_rfl) (by kernel_rfl) (by kernel_rfl);have h77:=@run_callFunc_extern prog 46 _ (ReflectliteValue.methodAny (ReflectliteValue.valueError "reflectlite.Value.Type" 0) (λt _ _ _=>ReflectliteType.toType t)) func46 (by kernel_rfl) (by kernel_rfl) (by kernel_rfl) (by kernel_rfl);have h78:=@run_callFunc_extern prog 47 _ (ReflectliteValue.method (ReflectliteValue.valueError "reflectlite.Value.IsNil" 0) ReflectliteValue.isNil) func47 (by kernel_rfl) (by kernel_rfl) (by kernel_rfl) (by kernel_rfl);have afG:=@run_callFunc_extern prog 382 _ (ReflectliteType.abiMethod λt=>do pure (.int .u8 (←Rtype.kind t))) func382 (by kernel_rfl) (by kernel_rfl) (by kernel_rfl) (by kernel_rfl);have afH:=@run_callFunc_extern prog 405 _ (ReflectliteType.method ReflectliteType.elem) func405 (by kernel_rfl) (by kernel_rfl) (by kernel_rfl) (by kernel_rfl);have afI:=@run_callFunc_extern prog 406 _ (ReflectliteType.relation "Implements" ReflectliteType.implements_) func406 (by kernel_rfl) (by kernel_rfl) (by kernel_rfl) (by kernel_rfl);have f6:=Rl.SH;have f7:=Rl.abJ;have mK:=Rl.Kb;have mE:=Rl.Kc;have mI:=Rl.vT;have kP:=Rl.abK;have kE:=Rl.abL;have eP:=Rl.abM;have iE:=Rl.Gx;have n8:=Rl.Y2 ⟨w.heap.size,0,none⟩ t ((w.alloc (.cells #[.pointer (some t)] 85)).alloc (.cells #[.pointer (6,85),w.heap.size,.int .u64 150] 133)) (by simp);have hlt:=hg.lt;have htl:t.block<w.heap.size:=World.block_lt_of_cell? _ _ ht0;have hg2:((w.alloc (.cells #[.pointer (some t)] 85)).alloc (.cells #[.pointer (6,85),w.heap.size,.int .u64 150] 133)).cell? (0,0)=some (.iface 205 (.agg #[.pointer (6,46)])):=by
  rw[World.cell?_alloc_lt _ _ ⟨0,0,none⟩ (by simp<;>omega),World.cell?_alloc_lt _ _ ⟨0,0,none⟩ hlt];exact hg
 have hc:=hx ((w.alloc (.cells #[.pointer (some t)] 85)).alloc (.cells #[.pointer (6,85),w.heap.size,.int .u64 150] 133)) t ⟨w.heap.size,0,none⟩ old
  (((Below.refl _ _).alloc (bH _) _).alloc (by simp) _) (by rw[World.cell?_alloc_lt _ _ ⟨w.heap.size,0,none⟩ (by simp)];simp)
  (by rw[World.cell?_alloc_lt _ _ t (by simp;omega),World.cell?_alloc_lt _ _ t htl];exact ht0)
  (by rw[World.frozen?_alloc_old _ _ t (by simp;omega),World.frozen?_alloc_old _ _ t (Nat.ne_of_lt htl)];exact hf0)
 have HC:=xh hc;clear hc hx;go_enter func28,ntmps28;go_wp2_with (go_at_call 48;refine HC.o.mono ?_;rintro e w' ⟨rfl,W1,hb,rfl⟩)
 go_ret
 exact⟨rfl,W1,(((Below.refl _ _).alloc (bH _) _).alloc (by simp) _).trans (hb.mono (by simp;omega)),rfl⟩
theorem wY(n:Int)(w:World):LK (.iface 48 (.int .i64 n)) n w:=λw' t a old _ ha ht hf=>SN n t a old w' ha ht hf
theorem zJ(u:TypeId)(v:Value)(n:Int)(w:World)(hx:LK (.iface u v) n w)(hg:ErrVar w) :
 Calls prog 14 #[.iface u v] w (Z.b (.int .i64 n) w):=by
 have hlt:=hg.lt
 have hc:=Y4 u v n ⟨w.heap.size,0,none⟩ (.int .i64 0) (w.alloc (.cells #[(0:Int)] 48)) (λw' t a old hb=>hx w' t a old (((Below.refl _ _).alloc (bH _) _).trans (hb.mono (by simp))))
  (hg.below hlt ((Below.refl _ _).alloc (bH _) _)) (by simp) (by simp)
 have HC:=xh hc;clear hc hx;go_enter func14,ntmps14;go_wp2_with fail
 refine HC.o.mono ?_;rintro e w' ⟨rfl,W1,hb,rfl⟩;have hs:(W1.setCell (w.heap.size,0) (.int .i64 n)).cell? (w.heap.size,0)=some (.int .i64 n):=World.cell?_setCell_same W1 _ _ ((hb.cell (p:=⟨w.heap.size,0,none⟩) (by simp)).trans (by simp;rfl));go_wp2
 go_ret
 exact⟨rfl,(((Below.refl _ _).alloc (bH _) _).trans (hb.mono (by simp))).setCell (bH _) _⟩
end Go.Proofs.YtcnjjchlebmfiaaGreatDoor
namespace Go.Proofs.YtcnjjchlebmfiaaGreatDoor
section
open Go.Proofs.Tryz Go.RowKit Go.MapKept Go.Maps
def Y5{P:Program}{k:TypeId}(hk:P.underlying k=some .string):jY P k ByteArray:=
 ⟨.string,λa=>.string a.data.toList,λa=>a.size≤maxLen,λ_ h=>WideMaps.keyOf_string_mk hk h,λa b h=>by injection h⟩
noncomputable def uM:jY prog 9 ByteArray:=Y5 underlying9
theorem I4:Keyed prog 9:=string_keyed underlying9
def Rw(w:World)(v:Value)(L:List Int):Prop:=(∀x∈L,0≤x∧x≤255)∧
 (v=.slice none 0 0∧L=[]∨∃g cap cur,v=.slice (g,0) L.length cap∧Blk w g cur 5∧L.length≤cap∧cap≤cur.length∧cap≤maxLen∧cur.take L.length=L.map (Value.int .u8))
theorem Rw.keep{S:Nat→Prop}{w w':World}{v:Value}{L:List Int}(h:Rw w v L)(k:Keep S w w')(hs:∀g,v.ownBlock=some g→¬S g):Rw w' v L:=by
 refine⟨h.1,?_⟩;rcases h.2 with h2|⟨g,cap,cur,rfl,hb,h3⟩
 ·exact .inl h2
 ·exact .inr ⟨g,cap,cur,rfl,hb.keep k (hs g rfl),h3⟩
theorem Rw.bel{w w':World}{v:Value}{L:List Int}(h:Rw w v L)(k:Bel w w'):Rw w' v L:=h.keep (Keep.of_bel (λ_=>False) k) (λ_ _ h=>h)
theorem Rw.lt{w:World}{v:Value}{L:List Int}(h:Rw w v L){g:Nat}(hg:v.ownBlock=some g):g<w.heap.size∧∃cur,Blk w g cur 5:=by
 rcases h.2 with⟨rfl,_⟩|⟨g',cap,cur,rfl,hb,_⟩
 ·cases hg
 ·cases hg;exact⟨hb.lt,cur,hb⟩
theorem Rw.slice{w:World}{v:Value}{L:List Int}(h:Rw w v L):∃p cap,v=.slice p L.length cap∧L.length≤cap∧cap≤maxLen∧(p=none→L=[]∧cap=0):=by
 rcases h.2 with⟨rfl,rfl⟩|⟨g,cap,cur,rfl,hb,h1,_,h2,_⟩
 ·exact⟨none,0,rfl,bH _,Nat.zero_le _,λ_=>⟨rfl,rfl⟩⟩
 ·exact⟨_,cap,rfl,h1,h2,λe=>by cases e⟩
theorem Rw.cells{w:World}{v:Value}{L:List Int}(h:Rw w v L){a:Addr}{n cap:Nat}(hv:v=.slice (some a) n cap):∃g,a=⟨g,0,none⟩∧∀j u,(L.map (Value.int .u8))[j]?=some u→w.cell? ⟨g,j,none⟩=some u:=by
 rcases h.2 with⟨rfl,_⟩|⟨g,cap',cur,rfl,hb,h1,h2,_,h3⟩
 ·cases hv
 ·cases hv
  refine⟨g,rfl,λj u hj=>?_⟩;rw[hb.cell,←hj,←h3,List.getElem?_take];have:=(bZ hj).1;rw[if_pos (by simpa using this)]
theorem Blk.ne{w:World}{a b:Nat}{c d:List Value}{t u:TypeId}(h:Blk w a c t)(k:Blk w b d u)(hn:t≠u):a≠b:=by
 rintro rfl;unfold Blk at h k;rw[h]at k
 injection k with k
 injection k with _ k
 exact hn k
theorem Blk.dJ{P:Program}{k:TypeId}{α:Type}{E:jY P k α}{w:World}{a b:Nat}{c:List Value}{t:TypeId}{kv:List (α×Value)}(h:Blk w a c t)(m:Mp E w b kv):a≠b:=by
 rintro rfl;obtain⟨es,clock,hb,_⟩:=m;unfold Blk at h;rw[h]at hb
 injection hb with hb
 cases hb
structure Pn where
 par:Nat
 name:ByteArray
 dir:Bool
 byt:List Int
 bv:Value
 obj:Int
 gone:Bool
structure bB where
 nb:Nat→Nat
 mb:Nat→Nat
def bB.at_(A:bB)(n:Nat):Option Addr:=if n=0 then none else some ⟨A.nb n,0,none⟩
def bB.ptr(A:bB)(n:Nat):Value:=.pointer (A.at_ n)
def Pn.map(A:bB)(i:Nat)(n:Pn):Option Nat:=if n.dir then some (A.mb i)else none
def Pn.cells(A:bB)(i:Nat)(n:Pn):List Value:=[.string n.name,A.ptr n.par,.map (n.map A i),n.bv,.int .i64 n.obj,.bool n.gone]
def Pn.nd(n:Pn):Nd:=⟨if n.gone then 0 else n.par,n.name,n.dir,n.byt,dM⟩
def aH(T:List Pn):List Nd:=T.map Pn.nd
def eY(A:bB)(d:Nat):Nat→List Pn→List (ByteArray×Value)
 | _,[]=>[]
 | i,n::T=>if n.nd.par=d then(n.name,A.ptr (i+1))::eY A d (i+1) T else eY A d (i+1) T
def kids(A:bB)(d:Nat)(T:List Pn):List (ByteArray×Value):=eY A d 0 T
theorem Kh{α:Type}[DecidableEq α](p:α×Value)(l:List (α×Value))(a:α):dD (p::l) a=if p.1=a then some p.2 else dD l a:=by
 unfold dD;rw[List.find?_cons];by_cases h:p.1=a<;>simp[h]
theorem uN(A:bB)(d:Nat)(s:ByteArray):∀(i:Nat) (T:List Pn),dD (eY A d i T) s=if fT d s i (aH T)=0 then none else some (A.ptr (fT d s i (aH T)))
 | _,[]=>by simp[eY,dD,aH,fT]
 | i,n::T=>by
   have ih:=uN A d s (i+1) T;unfold eY;simp only[aH,List.map_cons,fT]
   by_cases hp:n.nd.par=d
   ·rw[if_pos hp,Kh]
    by_cases hn:n.name=s
    ·have hc:n.nd.par=d∧n.nd.name=s:=⟨hp,hn⟩
     rw[if_pos hn,if_pos hc,if_neg (by omega)]
    ·have hc:¬(n.nd.par=d∧n.nd.name=s):=λh=>hn h.2
     rw[if_neg hn,if_neg hc];exact ih
   ·have hc:¬(n.nd.par=d∧n.nd.name=s):=λh=>hp h.1
    rw[if_neg hp,if_neg hc];exact ih
theorem Fb(A:bB)(d:Nat)(T:List Pn)(s:ByteArray):(dD (kids A d T) s).getD (.pointer none)=A.ptr (child (aH T) d s):=by
 unfold kids child;rw[uN];by_cases h:fT d s 0 (aH T)=0
 ·rw[if_pos h,h];rfl
 ·rw[if_neg h];rfl
structure bT(w:World)(A:bB)(T:List Pn):Prop where
 node:∀(i:Nat) (n:Pn),T[i]?=some n→Blk w (A.nb (i+1)) (n.cells A (i+1)) 234
 kids:∀(i:Nat) (n:Pn),T[i]?=some n→n.dir=true→Mp uM w (A.mb (i+1)) (kids A (i+1) T)
 aN:∀(i:Nat) (n:Pn),T[i]?=some n→Rw w n.bv n.byt
 inj:∀(i j:Nat),i<T.length→j<T.length→A.nb (i+1)=A.nb (j+1)→i=j
 O0:∀(i j:Nat) (m n:Pn),T[i]?=some m→T[j]?=some n→m.dir=true→n.dir=true→A.mb (i+1)=A.mb (j+1)→i=j
 sep:∀(i j:Nat) (m n:Pn) (g:Nat),T[i]?=some m→T[j]?=some n→m.bv.ownBlock=some g→n.bv.ownBlock=some g→i=j
 par:∀(i:Nat) (n:Pn),T[i]?=some n→n.par≤i
 GQ:∀(i:Nat) (n:Pn),T[i]?=some n→n.par≠0→∃p:Pn,T[n.par-1]?=some p∧p.dir=true
 root:∃r:Pn,T[0]?=some r∧r.par=0∧r.dir=true∧r.gone=false
 top:∀(i:Nat) (n:Pn),T[i]?=some n→n.par=0→i≠0→n.gone=true
 name:∀(i:Nat) (n:Pn),T[i]?=some n→n.gone=false→i≠0→aS n.name.data.toList=true∧(47:UInt8)∉n.name.data.toList
 few:T.length≤100000
def qY(A:bB)(T:List Pn)(q:Nat):Prop:=∃(i:Nat) (n:Pn),T[i]?=some n∧(q=A.nb (i+1)∨n.dir=true∧q=A.mb (i+1)∨n.bv.ownBlock=some q)
theorem bT.fE{w:World}{A:bB}{T:List Pn}(h:bT w A T){q:Nat}(hq:qY A T q):q<w.heap.size:=by
 obtain⟨i,n,hi,rfl|⟨hd,rfl⟩|hb⟩:=hq
 ·exact(h.node i n hi).lt
 ·exact(h.kids i n hi hd).lt
 ·exact((h.aN i n hi).lt hb).1
theorem bT.keep{S:Nat→Prop}{w w':World}{A:bB}{T:List Pn}(h:bT w A T)(k:Keep S w w')(hs:∀q,qY A T q→¬S q):bT w' A T where
 node i n hi:=(h.node i n hi).keep k (hs _ ⟨i,n,hi,.inl rfl⟩)
 kids i n hi hd:=(h.kids i n hi hd).of_block (k.block _ (h.kids i n hi hd).lt (hs _ ⟨i,n,hi,.inr (.inl ⟨hd,rfl⟩)⟩))
 aN i n hi:=(h.aN i n hi).keep k λg hg=>hs _ ⟨i,n,hi,.inr (.inr hg)⟩
 inj:=h.inj
 O0:=h.O0
 sep:=h.sep
 par:=h.par
 GQ:=h.GQ
 root:=h.root
 top:=h.top
 name:=h.name
 few:=h.few
theorem bT.bel{w w':World}{A:bB}{T:List Pn}(h:bT w A T)(k:Bel w w'):bT w' A T:=h.keep (Keep.of_bel (λ_=>False) k) (λ_ _ h=>h)
theorem jM(T:List Pn):(aH T).length=T.length:=by simp[aH]
theorem Nw(T:List Pn)(n:Nat):isDir (aH T) n=(T[n-1]?.map Pn.dir).getD false:=by
 unfold isDir aH;rw[dA];cases T[n-1]?<;>rfl
end
end Go.Proofs.YtcnjjchlebmfiaaGreatDoor
