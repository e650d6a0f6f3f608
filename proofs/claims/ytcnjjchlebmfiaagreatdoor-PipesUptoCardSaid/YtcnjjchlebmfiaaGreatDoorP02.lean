/-.-/
import Derived.Test.YtcnjjchlebmfiaaGreatDoorP01
import Derived.Great.BuildSlice
import Derived.Deep.Onto
import Derived.Deep.AppendSrc
set_option linter.unusedVariables false
set_option linter.unusedSimpArgs false
set_option maxRecDepth 100000
set_option maxHeartbeats 16000000
namespace Go.Proofs.YtcnjjchlebmfiaaGreatDoor
section
theorem kN(place:Nat→Option (Nat×Nat))(pre mid post:List Value)(i:Nat)(v:Value)(rest:List (Nat×Value))(hp:place i=some (pre.length,v.cells.size))(hm:mid.length=v.cells.size) :
 Instr.fill place (pre++(mid++post)).toArray ((i,v)::rest)=Instr.fill place (pre++(v.cells.toList++post)).toArray rest:=by
 rw[Instr.fill,hp];simp only
 rw[if_neg (by simp;omega)];congr 1
 rw[←Array.foldl_toList,Array.toList_zipIdx];obtain⟨h1,h2⟩:=Great.foldl_set pre.length v.cells.toList 0 (pre++(mid++post)).toArray;apply Array.ext_getElem?
 intro k;have:=h2 k;rw[this];simp only[Nat.add_zero,Array.length_toList,List.size_toArray,List.length_append,List.getElem?_toArray]
 by_cases hk:pre.length≤k
 ·rw[List.getElem?_append_right hk,List.getElem?_append_right hk]
  by_cases hk2:k-pre.length<v.cells.size
  ·rw[if_pos (by omega),List.getElem?_append_left (by simpa using hk2)]
  ·rw[if_neg (by omega),List.getElem?_append_right (by omega),List.getElem?_append_right (by simp;omega)]
   simp[hm]
 ·rw[if_neg (by omega),List.getElem?_append_left (by omega),List.getElem?_append_left (by omega)]
theorem info_of{P:Program}{t:TypeId}{n b:Nat}(h:(P.info? t).map (λi=>(i.size,i.bytes,(i.zero.map (·.cells.size))))=some (n,b,some n)) :
 ∃i z,P.info? t=some i∧i.zero=some z∧i.size=n∧i.bytes=b∧z.cells.size=n:=by
 cases hi:P.info? t with
 | none=>rw[hi]at h;cases h
 | some i=>
   rw[hi]at h;simp only[Option.map_some,Option.some.injEq,Prod.mk.injEq]at h
   cases hz:i.zero with
   | none=>rw[hz]at h;simp at h
   | some z=>
     rw[hz]at h;simp only[Option.map_some,Option.some.injEq]at h
     exact⟨i,z,rfl,hz,h.1,h.2.1,h.2.2⟩
theorem CS{P:Program}{t:TypeId}{n b:Nat}(h:(P.info? t).map (λi=>(i.size,i.bytes,(i.zero.map (·.cells.size))))=some (n,b,some n)){fs:List Field}(hu:P.underlying t=some (.struct fs.toArray)){places:List (Nat×Nat)}
 (hp:fs.mapM (λf=>(P.info? f.type).map λi=>(f.offset,i.size))=some places)(parts:List (Nat×Value))(r:Array Value)(hr:∀z:List Value,z.length=n→Instr.fill (places.toArray[·]?) z.toArray parts=some r):P.built t parts=some r:=by
 obtain⟨i,z,hi,hz,h1,h2,h3⟩:=info_of h;unfold Program.built;rw[hi,hu];simp only[hz,hp]
 have:=hr z.cells.toList (by simpa using h3)
 simpa using this
theorem yT{α:Type}(z:List α)(n m:Nat)(h:z.length=n+m):∃a b,z=a++b∧a.length=n∧b.length=m:=
 ⟨z.take n,z.drop n,(List.take_append_drop n z).symm,by simp;omega,by simp;omega⟩
theorem af{P:Program}{w:World}{ops:Array Oper}{rest:List Oper}{o:Oper}{a:Act}{Q:Exit→Act→World→Prop}(hg:o.guard=none)(t e:TypeId)(x:Operand)(ho:o.op=.buildSlice t 1 #[(0,x)])
 (cs:List Value){b:Nat}(hx:(a.eval x).cells=cs.toArray)(hu:P.underlying t=some (.slice e))(h:(P.info? e).map (λi=>(i.size,i.bytes,(i.zero.map (·.cells.size))))=some (cs.length,b,some cs.length))(hs:0<cs.length)(hb:cs.length≤2^24)
 (hk:∀w',Hid (w'.heap[w.heap.size]?=some (.cells cs.toArray e (0,0)))→Go.RowKit.Below w.heap.size w w'→wpList P ops Q rest (a.put o.dst (.slice (w.heap.size,0) 1 1)) w'):wpList P ops Q (o::rest) a w:=by
 obtain⟨i,z,hi,hz,h1,h2,h3⟩:=info_of h;refine wpList_buildSlice hg t e 1 #[(0,x)] ho cs.toArray i z hu hi hz (by rw[h1];omega) (by rw[h1];omega) ?_ ?_
 ·simp only[Nat.one_mul,List.map_toArray,List.map_cons,List.map_nil]
  obtain⟨zs,hzs⟩:∃zs:List Value,(Array.range i.size).map (z.cells[·% z.cells.size]!)=zs.toArray:=⟨_,(Array.toArray_toList).symm⟩;have hl:zs.length=cs.length:=by have:=congrArg Array.size hzs;simpa [h1]using this.symm
  rw[hzs];have:=kN (λk=>some (k*i.size,i.size)) [] zs [] 0 (a.eval x) [] (by simp[hx,h1]) (by rw[hl,hx];simp)
  simpa [hx,Instr.fill]using this
 ·exact hk _ (xh (heap_alloc_new w _)) ((Go.RowKit.Below.refl _ w).alloc (bH _) _)
end
section
open Go.RowKit
variable {w w':World} {base:Nat} {e:TypeId} {size:Nat} {v:Value} {n:Nat} {xs:List Value}
theorem aB(h:w.ownsRow base e size v n xs)(hb:Bel w w'):w'.ownsRow base e size v n xs:=by
 refine⟨h.1,?_⟩;rcases h.2 with h|⟨g,cap,cur,h1,h2,h3,h4⟩
 ·exact .inl h
 ·exact .inr ⟨g,cap,cur,h1,h2,(hb.block g (Array.getElem?_eq_some_iff.1 h3).1).trans h3,h4⟩
theorem aZ{S:Nat→Prop}(h:w.ownsRow base e size v n xs)(hb:Keep S w w')(hs:∀g,base≤g→¬S g):w'.ownsRow base e size v n xs:=by
 refine⟨h.1,?_⟩;rcases h.2 with h|⟨g,cap,cur,h1,h2,h3,h4⟩
 ·exact .inl h
 ·exact .inr ⟨g,cap,cur,h1,h2,(hb.block g (Array.getElem?_eq_some_iff.1 h3).1 (hs g h2)).trans h3,h4⟩
theorem aD(h:w.ownsRow base e size v n xs):∃p cap,v=.slice p n cap∧n≤cap∧cap≤maxLen∧(n=0∧p=none∧cap=0∨∃g,p=some ⟨g,0,none⟩∧base≤g∧g<w.heap.size∧(∀j,j<xs.length→w.cell? ⟨g,j,none⟩=xs[j]?)∧(∀j,w.frozen? ⟨g,j,none⟩=false)):=by
 rcases h.2 with⟨rfl,rfl⟩|⟨g,cap,cur,rfl,hg,hb,hn,hc,_,ht⟩
 ·exact⟨none,0,rfl,bH _,Nat.zero_le _,.inl ⟨rfl,rfl,rfl⟩⟩
 ·refine⟨_,cap,rfl,hn,hc,.inr ⟨g,rfl,hg,(Array.getElem?_eq_some_iff.1 hb).1,λj hj=>?_,λj=>?_⟩⟩
  ·have hj':j<n*size:=by
    rw[←ht,List.length_take]at hj;exact(Nat.lt_min.1 hj).1
   simp only[World.cell?,hb]
   rw[←ht,List.getElem?_take,if_pos hj'];simp
  ·simp only[World.frozen?,hb]
   simp
theorem grown_keep(hg:w.grownBy w' v.ownBlock)(h:w.ownsRow base e size v n xs):Keep (λi=>base≤i) w w':=
 ⟨hg.os,hg.tape,hg.output,hg.size,λk hk hn=>hg.block k hk λe=>hn (by
   rcases h.2 with⟨rfl,_⟩|⟨g,cap,cur,rfl,h2,_⟩
   ·cases e
   ·cases e;exact h2)⟩
theorem aX{P:Program}{ops:Array Oper}{rest:List Oper}{o:Oper}{a:Act}{Q:Exit→Act→World→Prop}(hgd:o.guard=none)(s x:Operand)(t:TypeId)
 (ho:o.op=.call {callee:=.builtin .append,args:= #[s,x],argTypes:= #[t,t]}){bytes:Nat}(ht:P.underlying t=some (.slice e))
 (hi:(P.info? e).map (λi=>(i.size,i.bytes,(i.zero.map (·.cells.size))))=some (size,bytes,some size))(hsz:0<size)
 (hs:a.eval s=v)(hown:w.ownsRow base e size v n xs)(g:Nat)(cs:List Value)(t':TypeId)(hx:a.eval x=.slice (g,0) 1 1)(hB:w.heap[g]?=some (.cells cs.toArray t' (0,0)))(hl:cs.length=size)(h1:∀u∈cs,u.oneCell'=true)
 (h63:n+1≤maxLen)(hbytes:(n+1)*bytes≤140737488355328)(hbase:base≤w.heap.size)
 (h:∀v' w',w'.ownsRow base e size v' (n+1) (xs++cs)→Keep (λi=>base≤i) w w'→wpList P ops Q rest (a.put o.dst v') w'):wpList P ops Q (o::rest) a w:=by
 obtain⟨i,z,hi,hz,e1,e2,e3⟩:=info_of hi;refine wpList_append_own w hgd s x t ho base e i z size bytes ht hi hz e1 e2 e3 hsz v n xs hs hown ⟨g,0,none⟩ 1 1 cs hx (by omega) (λj u hj=>?_) h1 h63 hbytes hbase λv' w' k1 k2 _=>h v' w' k1 (grown_keep k2 hown);rw[show(⟨g,0,none⟩:Addr).add j=⟨g,j,none⟩from by unfold Addr.add;split<;>simp_all];simp only[World.cell?,hB]
 simpa using hj
end
section
open Go.RowKit
section
variable {P:Program} {w:World}
theorem jN(z:Value)(n:Nat):Builtin.zeroCells #[z] n=(List.replicate n z).toArray:=by
 apply Array.ext'
 simp[Builtin.zeroCells]
 apply List.ext_getElem?
 intro i;simp[List.getElem?_replicate,dA,List.getElem?_range]
 by_cases h:i<n
 ·simp[h,Nat.mod_one]
 ·simp[h]
theorem vU(t u ty e:TypeId)(i:TypeInfo)(z:Value)(ht:P.underlying t=some (.slice e))(hu:P.underlying u=some (.int .i64))(hi:P.info? e=some i)(hz:i.zero=some z)(hzc:z.cells = #[z])(hs:i.size=1)(hb:i.bytes=1)
 (ao:Option Addr)(sLen sCap:Nat)(olds:List Value)(hnone:ao=none→sLen=0)(hlo:olds.length=sLen)(holds:∀b,ao=some b→∀j v,olds[j]?=some v→w.cell? (b.add j)=some v)
 (n:Nat)(h0:0<n)(hg:sCap<sLen+n)(hbig:sLen+n≤1000000000) :
 (Builtin.append_ #[t,u] ty #[(ao,sLen,sCap),.int .i64 n]).run P w =
  .ok (.slice (w.heap.size,0) (sLen+n) (grownCap w (sLen+n) sCap e))
   (w.drew.alloc (.cells (olds++List.replicate (n+(grownCap w (sLen+n) sCap e-(sLen+n))) z).toArray e)):=by
 have hn:¬(sLen+n≤sCap):=by omega
 have hfit:=growslice_fits (need:=sLen+n) (old:=sCap) (bytes:=1) hg (by omega);have h48':¬(281474976710656<Builtin.nextslicecap (sLen+n) sCap):=by omega
 have h63':¬(9223372036854775807<((sLen:Int)+(n:Int))):=by omega
 have hw:IntKind.i64.wrap (n:Int)=n:=by rw[IntKind.wrap_i64];omega
 have hl0:¬((n:Int)<0):=by omega
 have hl1:¬(281474976710656<(n:Int)):=by omega
 have hn0:¬n=0:=by omega
 have hfo:(Builtin.firstCells 1 sLen (.slice ao sLen sCap)).run P w.drew=.ok olds.toArray w.drew:=by
  cases ao with
  | none=>
    have:=hnone rfl;subst this;obtain rfl:olds=[]:=List.eq_nil_of_length_eq_zero hlo;exact run_firstCells_none (P:=P) w.drew 1 0 0 sCap
  | some b=>exact run_firstCells_some (P:=P) w.drew 1 sLen b sLen sCap olds (by omega) (by simpa using holds b rfl)
 simp[Builtin.append_,run_underlying ht,run_underlying hu,sizeOf,typeInfo,zeroValue,hi,hz,hs,hb,asInt,asIntOf,hw,hl0,hl1,hn,hn0,h63',h48',Question.forced,hfo,newRow,grownCap,hzc,jN]
 congr 2
 apply Array.ext'
 simp
theorem uh{ops:Array Oper}{o:Oper}{a:Act}{K:Act→World→Prop}{Q:Exit→Act→World→Prop}{E:Prop}(hgd:o.guard=none)(s x:Operand)(t u e:TypeId)
 (ho:o.op=.call {callee:=.builtin .append,args:= #[s,x],argTypes:= #[t,u]})(i:TypeInfo)(z:Value)(ht:P.underlying t=some (.slice e))(hu:P.underlying u=some (.int .i64))(hi:P.info? e=some i)(hz:i.zero=some z)(hzc:z.cells = #[z])(hs:i.size=1)(hb:i.bytes=1)
 (ao:Option Addr)(sLen sCap:Nat)(olds:List Value)(hsv:a.eval s=.slice ao sLen sCap)(hnone:ao=none→sLen=0)(hlo:olds.length=sLen)(holds:∀b,ao=some b→∀j v,olds[j]?=some v→w.cell? (b.add j)=some v)
 (n:Nat)(hxv:a.eval x=.int .i64 n)(h0:0<n)(hg:sCap<sLen+n)(hbig:sLen+n≤1000000000)
 (h:∀w' cap k,Hid (Blk w' w.heap.size (olds++List.replicate (n+k) z) e)→Bel w w'→sLen+n≤cap→cap≤maxLen→cap=sLen+n+k→K (a.put o.dst (.slice (w.heap.size,0) (sLen+n) cap)) w'):if Region.wanted o (yielded ops a.tmps)=true then Oper.wp P o a w K Q else E:=by
 have hw:Region.wanted o (yielded ops a.tmps)=true:=by simp[Region.wanted,hgd]
 rw[if_pos hw];have hrun:=vU (P:=P) (w:=w) t u o.type e i z ht hu hi hz hzc hs hb ao sLen sCap olds hnone hlo holds n h0 hg hbig;have hge:=grownCap_ge w (sLen+n) sCap e;unfold Oper.wp;simp[execOp,ho,resolve,invoke,builtin,hsv,hxv,hrun,Result.andThen]
 exact h _ _ _ (xh (Blk.new w.drew _ _)) ((Bel.drew (Bel.refl w)).tr (Bel.start _ _)) hge (grownCap_le_maxLen w _ _ _ (by unfold maxLen;omega)) (by omega)
end
theorem gK{P:Program}{w:World}{base:Nat}{e:TypeId}{size:Nat}{v:Value}{n:Nat}{xs:List Value}{ops:Array Oper}{o:Oper}{a:Act}{K:Act→World→Prop}{Q:Exit→Act→World→Prop}{E:Prop}(hgd:o.guard=none)(s x:Operand)(t:TypeId)
 (ho:o.op=.call {callee:=.builtin .append,args:= #[s,x],argTypes:= #[t,t]}){bytes:Nat}(ht:P.underlying t=some (.slice e))
 (hi:(P.info? e).map (λi=>(i.size,i.bytes,(i.zero.map (·.cells.size))))=some (size,bytes,some size))(hsz:0<size)
 (hs:a.eval s=v)(hown:w.ownsRow base e size v n xs)(g m c:Nat)(cs:List Value)(hx:a.eval x=.slice (g,0) m c)(hB:∀j u,cs[j]?=some u→w.cell? ⟨g,j,none⟩=some u)(hl:cs.length=m*size)(h1:∀u∈cs,u.oneCell'=true)
 (h63:n+m≤maxLen)(hbytes:(n+m)*bytes≤140737488355328)(hbase:base≤w.heap.size)
 (h:∀p cp w',w'.ownsRow base e size (.slice p (n+m) cp) (n+m) (xs++cs)→Keep (λq=>v.ownBlock=some q) w w'→K (a.put o.dst (.slice p (n+m) cp)) w'):if Region.wanted o (yielded ops a.tmps)=true then Oper.wp P o a w K Q else E:=by
 have hw:Region.wanted o (yielded ops a.tmps)=true:=by simp[Region.wanted,hgd]
 rw[if_pos hw];obtain⟨i,z,hi,hz,e1,e2,e3⟩:=info_of hi;obtain⟨v',w',hrun,k1,k2,_⟩:=run_append_own (P:=P) w base t o.type e i z size bytes ht hi hz e1 e2 e3 hsz v n xs hown ⟨g,0,none⟩ m c cs hl (λj u hj=>by
  rw[show(⟨g,0,none⟩:Addr).add j=⟨g,j,none⟩from by unfold Addr.add;split<;>simp_all];exact hB j u hj) h1 h63 hbytes hbase
 obtain⟨p,cp,rfl,_⟩:=aD k1;unfold Oper.wp;simp[execOp,ho,resolve,invoke,builtin,hs,hx,hrun,Result.andThen]
 exact h p cp w' k1 ⟨k2.os,k2.tape,k2.output,k2.size,λk hk hn=>k2.block k hk λe=>hn e.symm⟩
theorem ru{P:Program}{w:World}{ops:Array Oper}{o:Oper}{a:Act}{K:Act→World→Prop}{Q:Exit→Act→World→Prop}{E:Prop}(hgd:o.guard=none)(ty:TypeId)(x:Operand)(ho:o.op=.load ty x)
 (b off:Nat)(hx:a.eval x=.pointer (b,off))(cs:List Value)(d:TypeDesc)(hc:w.rangeAt b off cs)(hu:P.underlying ty=some d)(hd:d.isRow=true)(hi:(P.info? ty).map (·.size)=some cs.length)
 (h:K (a.put o.dst (.agg cs.toArray)) w):if Region.wanted o (yielded ops a.tmps)=true then Oper.wp P o a w K Q else E:=by
 have hw:Region.wanted o (yielded ops a.tmps)=true:=by simp[Region.wanted,hgd]
 rw[if_pos hw];exact wp_load_mid ty x ho b off hx cs d hc hu hd hi h
theorem iB{P:Program}{w:World}{ops:Array Oper}{o:Oper}{a:Act}{K:Act→World→Prop}{Q:Exit→Act→World→Prop}{E:Prop}(hg:o.guard=none)(t e:TypeId)(x:Operand)(ho:o.op=.buildSlice t 1 #[(0,x)])
 (cs:List Value){b:Nat}(hx:(a.eval x).cells=cs.toArray)(hu:P.underlying t=some (.slice e))(h:(P.info? e).map (λi=>(i.size,i.bytes,(i.zero.map (·.cells.size))))=some (cs.length,b,some cs.length))(hs:0<cs.length)(hb:cs.length≤2^24)
 (hk:K (a.put o.dst (.slice (w.heap.size,0) 1 1)) (w.alloc (.cells cs.toArray e))):if Region.wanted o (yielded ops a.tmps)=true then Oper.wp P o a w K Q else E:=by
 have hw:Region.wanted o (yielded ops a.tmps)=true:=by simp[Region.wanted,hg]
 rw[if_pos hw];obtain⟨i,z,hi,hz,h1,h2,h3⟩:=info_of h;refine wp_buildSlice t e 1 #[(0,x)] ho cs.toArray i z hu hi hz (by rw[h1];omega) (by rw[h1];omega) ?_ hk;simp only[Nat.one_mul,List.map_toArray,List.map_cons,List.map_nil]
 obtain⟨zs,hzs⟩:∃zs:List Value,(Array.range i.size).map (z.cells[·% z.cells.size]!)=zs.toArray:=⟨_,(Array.toArray_toList).symm⟩;have hl:zs.length=cs.length:=by have:=congrArg Array.size hzs;simpa [h1]using this.symm
 rw[hzs];have:=kN (λk=>some (k*i.size,i.size)) [] zs [] 0 (a.eval x) [] (by simp[hx,h1]) (by rw[hl,hx];simp)
 simpa [hx,Instr.fill]using this
theorem rD{P:Program}(t e:TypeId)(cs:List Value){b:Nat}(hu:P.underlying t=some (.slice e))(h:(P.info? e).map (λi=>(i.size,i.bytes,(i.zero.map (·.cells.size))))=some (cs.length,b,some cs.length))(hs:0<cs.length)(hb:cs.length≤2^24)(w:World) :
 (Instr.buildSlice t 1 #[(0,.agg cs.toArray)]).run P w=.ok (.slice (w.heap.size,0) 1 1) (w.alloc (.cells cs.toArray e)):=by
 obtain⟨i,z,hi,hz,h1,h2,h3⟩:=info_of h;refine run_buildSlice w t e 1 _ cs.toArray i z hu hi hz (by rw[h1];omega) (by rw[h1];omega) ?_;simp only[Nat.one_mul]
 obtain⟨zs,hzs⟩:∃zs:List Value,(Array.range i.size).map (z.cells[·% z.cells.size]!)=zs.toArray:=⟨_,(Array.toArray_toList).symm⟩;have hl:zs.length=cs.length:=by have:=congrArg Array.size hzs;simpa [h1]using this.symm
 rw[hzs];have:=kN (λk=>some (k*i.size,i.size)) [] zs [] 0 (.agg cs.toArray) [] (by simp[Value.cells,h1]) (by rw[hl];simp[Value.cells])
 simpa [Value.cells,Instr.fill]using this
end
section
open Go.Proofs.Tryz Go.RowKit Go.Maps
def ag:Value→Option Nat
 | .slice (some a) _ _=>some a.block
 | _=>none
def Buf(w:World)(v:Value)(L:List Int):Prop:=
 ∃p cap,v=.slice p L.length cap∧L.length≤cap∧cap≤maxLen∧(∀x∈L,fP x)∧(p=none∧cap=0∨∃g o cs,p=some ⟨g,o,none⟩∧Blk w g cs 5∧o+cap≤cs.length∧∀i x,L[i]?=some x→cs[o+i]?=some (.int .u8 x))
theorem Buf.nil(w:World):Buf w (.slice none 0 0) []:=⟨none,0,rfl,bH _,by unfold maxLen;omega,λ_ h=>(by cases h),.inl ⟨rfl,rfl⟩⟩
theorem Buf.byte{w:World}{v:Value}{L:List Int}(h:Buf w v L):∀x∈L,fP x:=by
 obtain⟨_,_,_,_,_,h,_⟩:=h;exact h
theorem Buf.slice{w:World}{v:Value}{L:List Int}(h:Buf w v L):∃p cap,v=.slice p L.length cap∧L.length≤cap∧cap≤maxLen:=by
 obtain⟨p,cap,e,h1,h2,_⟩:=h;exact⟨p,cap,e,h1,h2⟩
theorem Buf.blk{w:World}{v:Value}{L:List Int}(h:Buf w v L){g:Nat}(hg:ag v=some g):∃cs,Blk w g cs 5:=by
 obtain⟨p,cap,rfl,_,_,_,⟨rfl,_⟩|⟨g',o,cs,rfl,hb,_⟩⟩:=h
 ·cases hg
 ·cases hg
  exact⟨cs,hb⟩
theorem Buf.keep{S:Nat→Prop}{w w':World}{v:Value}{L:List Int}(h:Buf w v L)(k:Keep S w w')(hs:∀g,ag v=some g→¬S g):Buf w' v L:=by
 obtain⟨p,cap,rfl,h1,h2,h3,h4⟩:=h;refine⟨p,cap,rfl,h1,h2,h3,?_⟩;rcases h4 with h4|⟨g,o,cs,rfl,hb,h5,h6⟩
 ·exact .inl h4
 ·exact .inr ⟨g,o,cs,rfl,hb.keep k (hs g rfl),h5,h6⟩
theorem Buf.bel{w w':World}{v:Value}{L:List Int}(h:Buf w v L)(k:Bel w w'):Buf w' v L:=h.keep (Keep.of_bel (λ_=>False) k) λ_ _ h=>h
theorem Buf.byt{w:World}{p:Option Addr}{n cap:Nat}{L:List Int}(h:Buf w (.slice p n cap) L):kY w p L:=by
 obtain⟨p',cap',e,h1,h2,h3,h4⟩:=h;cases e
 refine⟨h3,λh0=>?_⟩;rcases h4 with⟨rfl,rfl⟩|⟨g,o,cs,rfl,hb,_,h6⟩
 ·omega
 ·exact⟨g,o,rfl,cs,hb,h6⟩
structure jl(w w':World)(v:Value)(e:Nat→Prop):Prop where
 keep:Keep (λq=>ag v=some q) w w'
 own:∀g,ag v=some g→∀cs t,Blk w g cs t→∃cs',Blk w' g cs' t∧cs'.length=cs.length∧∀j,e j→cs'[j]?=cs[j]?
theorem jl.bel{w w':World}{v:Value}{e:Nat→Prop}(h:Bel w w'):jl w w' v e:=⟨Keep.of_bel _ h,λ_ _ cs _ hb=>⟨cs,hb.bel h,rfl,λ_ _=>rfl⟩⟩
theorem jl.VS{w w' w'':World}{v:Value}{e:Nat→Prop}(k:Bel w w')(h:jl w' w'' v e):jl w w'' v e:=⟨(Keep.of_bel _ k).tr h.keep,λg hg cs t hb=>h.own g hg cs t (hb.bel k)⟩
def dV:Value→Nat→Prop
 | .slice (some a) n c=>λj=>c=0∨j<a.off+n
 | _=>λ_=>False
theorem jl.byt{w w':World}{v:Value}{p:Option Addr}{M:List Int}(h:jl w w' v (dV v))(hb:kY w p M)(hp:∀g o,p=some ⟨g,o,none⟩→ag v=some g→∀i,i<M.length→dV v (o+i)):kY w' p M:=by
 refine⟨hb.1,λh0=>?_⟩;obtain⟨g,o,e,cs,hc,hx⟩:=hb.2 h0;by_cases hg:ag v=some g
 ·obtain⟨cs',h1,h2,h3⟩:=h.own g hg cs _ hc
  refine⟨g,o,e,cs',h1,λi x hi=>?_⟩;have hlt:=(bZ hi).1;rw[h3 _ (hp g o e hg i hlt)];exact hx i x hi
 ·exact⟨g,o,e,cs,hc.keep h.keep hg,hx⟩
theorem nT{α:Type}(L:List α)(o:Nat)(vs:List α)(j:Nat)(hl:o+vs.length≤L.length)(h:j<o∨o+vs.length≤j):(splice L o vs)[j]?=L[j]?:=by
 unfold splice;rcases h with h|h
 ·rw[List.getElem?_append_left (by rw[List.length_take];omega),List.getElem?_take_of_lt h]
 ·rw[List.getElem?_append_right (by rw[List.length_take];omega),List.length_take,Nat.min_eq_left (by omega),List.getElem?_append_right (by omega),List.getElem?_drop]
  congr 1
  omega
section
variable {P:Program} {w:World}
theorem pq(t tx ty:TypeId)(i:TypeInfo)(z:Value)(ht:P.underlying t=some (.slice 5))(hi:P.info? 5=some i)(hz:i.zero=some z)(hs:i.size=1)(hb:i.bytes=1)(hzc:z.cells = #[.int .u8 0])
 (v x:Value)(L M:List Int)(hv:Buf w v L)(hM:∀y∈M,fP y)(hx:Src P 1 tx x M.length (M.map (Value.int .u8)) w)(hlen:L.length+M.length≤100000000) :
 ∃v' w',(Builtin.append_ #[t,tx] ty #[v,x]).run P w=.ok v' w'∧Buf w' v' (L++M)∧jl w w' v (dV v)∧(∀g,ag v'=some g→ag v=some g∨w.heap.size≤g)∧(∀p,v=.slice p L.length L.length→Bel w w'):=by
 obtain⟨p,cap,rfl,h1,h2,h3,h4⟩:=hv;have hby:∀y∈L++M,fP y:=λy hy=>(List.mem_append.1 hy).elim (h3 y) (hM y);by_cases hroom:L.length+M.length≤cap
 ·rcases h4 with⟨rfl,rfl⟩|⟨g,o,cs,rfl,hbk,h5,h6⟩
  ·have hL:L=[]:=List.eq_nil_of_length_eq_zero (by omega)
   have hM0:M=[]:=List.eq_nil_of_length_eq_zero (by omega);subst hL hM0;have hcl:=hx.cells;rw[List.length_nil]at hcl;have hk:=hx.kind;have hle:=hx.len;simp only[List.length_nil]at hle
   refine⟨.slice none 0 0,w,?_,Buf.nil w,jl.bel (Bel.refl w),λg hg=>(by cases hg),λ_ _=>Bel.refl w⟩;rcases hk with⟨e',hk⟩|hk<;>simp[Builtin.append_,run_underlying ht,run_underlying hk,sizeOf,typeInfo,hi,hs,hle,hcl]
  ·have hr:=run_append_room_src (P:=P) w t tx ty 5 i ht hi g o L.length cap x M.length (M.map (Value.int .u8)) (by rw[hs];exact hx) hroom (λj hj=>by
    rw[fJ]at hj;rw[hs,Nat.mul_one,hbk.cell,bP (by omega)];rfl) (λj hj=>hbk.frozen _)
   rw[hs,Nat.mul_one]at hr;have hfit:(o+L.length)+(M.map (Value.int .u8)).length≤cs.length:=by rw[fJ];omega
   refine⟨_,_,hr,⟨some ⟨g,o,none⟩,cap,by rw[List.length_append],by rw[List.length_append];exact hroom,h2,hby,.inr ⟨g,o,_,rfl,hbk.setCells (o+L.length) _ hfit,by rw[length_splice _ _ _ hfit];exact h5,λi' y hy=>?_⟩⟩,⟨Keep.mono (Keep.setCells w g _ _) λq hq=>by rw[show q=g from hq];rfl,λg' hg' cs' t' hb'=>?_⟩,λg' hg'=>.inl hg',λp' hp'=>?_⟩
   rotate_right
   ·have hM0:M=[]:=List.eq_nil_of_length_eq_zero (by cases hp';omega)
    subst hM0;exact Bel.refl w
   ·by_cases hlt:i'<L.length
    ·rw[nT _ _ _ _ hfit (.inl (by omega))]
     rw[List.getElem?_append_left hlt]at hy;exact h6 i' y hy
    ·rw[List.getElem?_append_right (by omega)]at hy
     have hlt2:=(bZ hy).1;rw[show o+i'=(o+L.length)+(i'-L.length)from by omega];unfold splice;rw[List.getElem?_append_right (by rw[List.length_take];omega),List.length_take,Nat.min_eq_left (by omega),List.getElem?_append_left (by rw[fJ];omega),show o+L.length+(i'-L.length)-(o+L.length)=i'-L.length from by omega,dA,hy];rfl
   ·cases hg'
    unfold Blk at hbk hb';rw[hbk]at hb'
    injection hb' with hb'
    injection hb' with e1 e2
    have e1:cs=cs':=by simpa using e1
    subst e1 e2;exact⟨_,(show Blk w g cs 5 from hbk).setCells (o+L.length) _ hfit,length_splice _ _ _ hfit,λj hj=>nT _ _ _ _ hfit (by
     have hj:cap=0∨j<o+L.length:=hj;rcases hj with hj|hj
     ·rw[fJ];omega
     ·exact .inl hj)⟩
 ·have hold:(Builtin.firstCells i.size L.length (.slice p L.length cap)).run P w.drew=.ok (L.map (Value.int .u8)).toArray w.drew:=by
   rw[hs];rcases h4 with⟨rfl,rfl⟩|⟨g,o,cs,rfl,hbk,h5,h6⟩
   ·have hL:L=[]:=List.eq_nil_of_length_eq_zero (by omega)
    subst hL;exact run_firstCells_none (P:=P) w.drew 1 0 0 0
   ·refine run_firstCells_some (P:=P) w.drew 1 L.length ⟨g,o,none⟩ L.length cap (L.map (Value.int .u8)) (by simp) λj u hj=>?_
    rw[dA]at hj;obtain⟨y,hy,rfl⟩:=Option.map_eq_some_iff.1 hj;rw[Addr.add_lit];show w.cell? _=_
    rw[hbk.cell];exact h6 j y hy
  have hg:cap<L.length+M.length:=by omega
  have hr:=run_append_grow_src (P:=P) w t tx ty 5 i z ht hi hz p L.length cap (L.map (Value.int .u8)) hold x M.length (M.map (Value.int .u8)) (by rw[hs];exact hx) hg (by omega) (by rw[hb];exact growslice_fits (bytes:=1) hg (by omega));rw[hzc,jN]at hr;have hge:=grownCap_ge w (L.length+M.length) cap 5;have hb2:Bel w (w.drew.alloc (.cells ((L.map (Value.int .u8)++M.map (Value.int .u8)).toArray++(List.replicate (grownCap w (L.length+M.length) cap 5-(L.length+M.length)) (Value.int .u8 0)).toArray) 5)):=(Bel.drew (Bel.refl w)).tr (Bel.start _ _);refine⟨_,_,hr,⟨_,grownCap w (L.length+M.length) cap 5,by rw[List.length_append],by rw[List.length_append];exact hge,grownCap_le_maxLen w _ _ _ (by unfold maxLen;omega),hby,.inr ⟨w.heap.size,0,(L.map (Value.int .u8)++M.map (Value.int .u8))++List.replicate (grownCap w (L.length+M.length) cap 5-(L.length+M.length)) (Value.int .u8 0),rfl,?_,by simp;omega,λi' y hy=>?_⟩⟩,jl.bel hb2,λg' hg'=>.inr (by cases hg';exact bH _),λ_ _=>hb2⟩
  ·have h:=Blk.new w.drew ((L.map (Value.int .u8)++M.map (Value.int .u8))++List.replicate (grownCap w (L.length+M.length) cap 5-(L.length+M.length)) (Value.int .u8 0)) 5
   rw[←List.append_toArray]at h;exact h
  ·rw[Nat.zero_add,←List.map_append,List.getElem?_append_left (by rw[fJ];exact(bZ hy).1),dA,hy]
   rfl
theorem lV{ops:Array Oper}{rest:List Oper}{o:Oper}{a:Act}{Q:Exit→Act→World→Prop}(hgd:o.guard=none)(s x:Operand)(t tx:TypeId)
 (ho:o.op=.call {callee:=.builtin .append,args:= #[s,x],argTypes:= #[t,tx]})(i:TypeInfo)(z:Value)(ht:P.underlying t=some (.slice 5))(hi:P.info? 5=some i)(hz:i.zero=some z)(hs:i.size=1)(hb:i.bytes=1)(hzc:z.cells = #[.int .u8 0])
 (v xv:Value)(L M:List Int)(hsv:a.eval s=v)(hxv:a.eval x=xv)(hv:Buf w v L)(hM:∀y∈M,fP y)(hx:Src P 1 tx xv M.length (M.map (Value.int .u8)) w)(hlen:L.length+M.length≤100000000)
 (h:∀v' w',Buf w' v' (L++M)→jl w w' v (dV v)→(∀g,ag v'=some g→ag v=some g∨w.heap.size≤g)→(∀p,v=.slice p L.length L.length→Bel w w')→wpList P ops Q rest (a.put o.dst v') w'):wpList P ops Q (o::rest) a w:=by
 refine wpList_plain hgd λK hK'=>?_;obtain⟨v',w',hrun,h1,h2,h3,h4⟩:=pq (P:=P) (w:=w) t tx o.type i z ht hi hz hs hb hzc v xv L M hv hM hx hlen;unfold Oper.wp;simp[execOp,ho,resolve,invoke,builtin,hsv,hxv,hrun,Result.andThen]
 exact hK' _ _ (h v' w' h1 h2 h3 h4)
theorem oC{ops:Array Oper}{o:Oper}{a:Act}{K:Act→World→Prop}{Q:Exit→Act→World→Prop}{E:Prop}(hgd:o.guard=none)(s x:Operand)(t tx:TypeId)
 (ho:o.op=.call {callee:=.builtin .append,args:= #[s,x],argTypes:= #[t,tx]})(i:TypeInfo)(z:Value)(ht:P.underlying t=some (.slice 5))(hi:P.info? 5=some i)(hz:i.zero=some z)(hs:i.size=1)(hb:i.bytes=1)(hzc:z.cells = #[.int .u8 0])
 (v xv:Value)(L M:List Int)(hsv:a.eval s=v)(hxv:a.eval x=xv)(hv:Buf w v L)(hM:∀y∈M,fP y)(hx:Src P 1 tx xv M.length (M.map (Value.int .u8)) w)(hlen:L.length+M.length≤100000000)
 (h:∀v' w',Buf w' v' (L++M)→jl w w' v (dV v)→(∀g,ag v'=some g→ag v=some g∨w.heap.size≤g)→(∀p,v=.slice p L.length L.length→Bel w w')→K (a.put o.dst v') w'):if Region.wanted o (yielded ops a.tmps)=true then Oper.wp P o a w K Q else E:=by
 have hw:Region.wanted o (yielded ops a.tmps)=true:=by simp[Region.wanted,hgd]
 rw[if_pos hw];obtain⟨v',w',hrun,h1,h2,h3,h4⟩:=pq (P:=P) (w:=w) t tx o.type i z ht hi hz hs hb hzc v xv L M hv hM hx hlen;unfold Oper.wp;simp[execOp,ho,resolve,invoke,builtin,hsv,hxv,hrun,Result.andThen]
 exact h v' w' h1 h2 h3 h4
theorem Ce{tx:TypeId}(hk:P.underlying tx=some (.slice 5)){p:Option Addr}{M:List Int}{cap:Nat}(h:kY w p M):Src P 1 tx (.slice p M.length cap) M.length (M.map (Value.int .u8)) w:=by
 by_cases h0:0<M.length
 ·obtain⟨g,o,rfl,cs,hb,hc⟩:=h.2 h0
  refine Src.ofSlice w hk ⟨g,o,none⟩ M.length cap _ (by simp) (λj u hj=>?_) λu hu=>?_
  ·rw[dA]at hj
   obtain⟨y,hy,rfl⟩:=Option.map_eq_some_iff.1 hj;rw[Addr.add_lit,hb.cell];exact hc j y hy
  ·obtain⟨y,_,rfl⟩:=List.mem_map.1 hu
   rfl
 ·have hM:M=[]:=List.eq_nil_of_length_eq_zero (by omega)
  subst hM;refine⟨.inl ⟨_,hk⟩,λ_=>rfl,?_,?_,by simp,λ_ h=>(by cases h)⟩
  ·cases p with
   | none=>exact run_firstCells_none (P:=P) w 1 0 0 cap
   | some a=>exact run_firstCells_some (P:=P) w 1 0 a 0 cap [] (by simp) λ_ _ h=>(by simp at h)
  ·cases p with
   | none=>exact run_firstCells_none (P:=P) w.drew 1 0 0 cap
   | some a=>exact run_firstCells_some (P:=P) w.drew 1 0 a 0 cap [] (by simp) λ_ _ h=>(by simp at h)
end
theorem Mc:(prog.info? 5).map (λi=>(i.size,i.bytes,i.zero))=some (1,1,some (.int .u8 0)):=by kernel_rfl
theorem sV:∃i,prog.info? 5=some i∧i.size=1∧i.bytes=1∧i.zero=some (.int .u8 0):=by
 have h:=Mc;cases hi:prog.info? 5 with
 | none=>rw[hi]at h;cases h
 | some i=>
   rw[hi]at h;simp only[Option.map_some,Option.some.injEq,Prod.mk.injEq]at h
   exact⟨i,rfl,h.1,h.2.1,h.2.2⟩
theorem nU{w:World}{ops:Array Oper}{rest:List Oper}{o:Oper}{a:Act}{Q:Exit→Act→World→Prop}(hgd:o.guard=none)(s x:Operand)(ho:o.op=.call {callee:=.builtin .append,args:= #[s,x],argTypes:= #[59,59]})
 (v:Value)(p:Option Addr)(cap:Nat)(L M:List Int)(hsv:a.eval s=v)(hxv:a.eval x=.slice p M.length cap)(hv:Buf w v L)(hx:kY w p M)(hlen:L.length+M.length≤100000000)
 (h:∀v' w',Buf w' v' (L++M)→jl w w' v (dV v)→(∀g,ag v'=some g→ag v=some g∨w.heap.size≤g)→(∀p,v=.slice p L.length L.length→Bel w w')→wpList prog ops Q rest (a.put o.dst v') w'):wpList prog ops Q (o::rest) a w:=by
 obtain⟨i,hi,h1,h2,h3⟩:=sV;exact lV hgd s x _ _ ho i _ underlying59 hi h3 h1 h2 rfl v _ L M hsv hxv hv hx.1 (Ce underlying59 hx) hlen h
theorem ic{w:World}{ops:Array Oper}{o:Oper}{a:Act}{K:Act→World→Prop}{Q:Exit→Act→World→Prop}{E:Prop}(hgd:o.guard=none)(s x:Operand)(ho:o.op=.call {callee:=.builtin .append,args:= #[s,x],argTypes:= #[59,59]})
 (v:Value)(p:Option Addr)(cap:Nat)(L M:List Int)(hsv:a.eval s=v)(hxv:a.eval x=.slice p M.length cap)(hv:Buf w v L)(hx:kY w p M)(hlen:L.length+M.length≤100000000)
 (h:∀v' w',Buf w' v' (L++M)→jl w w' v (dV v)→(∀g,ag v'=some g→ag v=some g∨w.heap.size≤g)→(∀p,v=.slice p L.length L.length→Bel w w')→K (a.put o.dst v') w'):if Region.wanted o (yielded ops a.tmps)=true then Oper.wp prog o a w K Q else E:=by
 obtain⟨i,hi,h1,h2,h3⟩:=sV;exact oC hgd s x _ _ ho i _ underlying59 hi h3 h1 h2 rfl v _ L M hsv hxv hv hx.1 (Ce underlying59 hx) hlen h
end
end Go.Proofs.YtcnjjchlebmfiaaGreatDoor
