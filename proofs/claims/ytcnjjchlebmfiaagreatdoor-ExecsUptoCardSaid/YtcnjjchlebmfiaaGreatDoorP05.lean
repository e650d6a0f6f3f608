/-.-/
import Derived.Test.YtcnjjchlebmfiaaGreatDoorP04
import Derived.Test.YtcnjjchlebmfiaaGreatDoorP03
import Derived.Shelf.SlIterI.Nil
import Derived.Shelf.SortM.Plain
import Derived.Shelf.SortM.SortNone
import Derived.Shelf.Small.Wraps
import Derived.Shelf.Strings.SplitShaped
import Derived.StillTailTactics
set_option linter.all false
set_option maxRecDepth 100000
set_option maxHeartbeats 16000000
namespace Go.Proofs.YtcnjjchlebmfiaaGreatDoor
section
open Go.Proofs.Tryz Go.RowKit
structure KV where
 a:Int
 b:Int
 c:Int
 d:Int
 e:Int
 pv:Value
 ov:Value
 xv:Value
 tv:Value
 uv:Value
 mv:Value
def KV.cells(s:KV)(iv:Value)(last:Nat):List Value:=[.int .i64 s.a,.int .i64 s.b,.int .i64 s.c,.int .i64 s.d,.int .i64 s.e,s.pv,s.ov,iv,s.xv,s.tv,s.uv,s.mv,.int .i64 last]
theorem Ei(kb:Nat)(s:KV)(iv:Value)(n:Nat)(w:World)(hB:Blk w kb (s.cells iv n) 174)(hn:n≤1000000) :
 Calls prog 103 #[.pointer (kb,0)] w λe w'=>e=.returned (.int .i64 ((n+1:Nat):Int))∧Blk w' kb (s.cells iv (n+1)) 174∧Keep (λq=>q=kb) w w':=by
 have c12:=hB.c 12 rfl;have f12:=hB.frozen 12;have hlt:=hB.lt;have HB:=xh hB;clear hB;go_enter func103,ntmps103;go_wp2
 go_ret
 refine⟨?_,HB.o.setCell (o:=12) _,Keep.setCell w kb 12 _⟩;rfl
theorem iO:(prog.info? 252).map (λi=>(i.size,i.bytes,(i.zero.map (·.cells.size))))=some (5,64,some 5):=by kernel_rfl
def bY(i:Nat):List Nd→List Value
 | []=>[]
 | n::L=>n.cells i++bY (i+1) L
theorem yR(i:Nat):∀(L M:List Nd),bY i (L++M)=bY i L++bY (i+L.length) M:=by
 intro L
 induction L generalizing i with
 | nil=>intro M;simp[bY]
 | cons n L ih=>
   intro M;simp only[List.cons_append,bY,ih,List.length_cons,List.append_assoc]
   rw[show i+1+L.length=i+(L.length+1)from by omega]
theorem yS(i:Nat)(L:List Nd):(bY i L).length=L.length*5:=by
 induction L generalizing i with
 | nil=>rfl
 | cons n L ih=>simp only[bY,List.length_append,ih,List.length_cons,Nd.cells,List.length_nil];omega
theorem xP{w:World}{base:Nat}{e:TypeId}{size:Nat}{v:Value}{n:Nat}{xs:List Value}(h:w.ownsRow base e size v n xs)(q:Nat)(hq:v.ownBlock=some q):base≤q:=by
 rcases h.2 with⟨rfl,_⟩|⟨g,cap,cur,rfl,h2,_⟩
 ·cases hq
 ·cases hq;exact h2
theorem fG{P:Program}{w:World}{base:Nat}{e:TypeId}{size:Nat}{v:Value}{n:Nat}{xs:List Value}{ops:Array Oper}{rest:List Oper}{o:Oper}{a:Act}{Q:Exit→Act→World→Prop}(hgd:o.guard=none)(s x:Operand)(t:TypeId)
 (ho:o.op=.call {callee:=.builtin .append,args:= #[s,x],argTypes:= #[t,t]}){bytes:Nat}(ht:P.underlying t=some (.slice e))
 (hi:(P.info? e).map (λi=>(i.size,i.bytes,(i.zero.map (·.cells.size))))=some (size,bytes,some size))(hsz:0<size)
 (hs:a.eval s=v)(hown:w.ownsRow base e size v n xs)(g m c:Nat)(cs:List Value)(t':TypeId)(hx:a.eval x=.slice (g,0) m c)(hB:Blk w g cs t')(hl:cs.length=m*size)(h1:∀u∈cs,u.oneCell'=true)
 (h63:n+m≤maxLen)(hbytes:(n+m)*bytes≤140737488355328)(hbase:base≤w.heap.size)
 (h:∀p cp w',w'.ownsRow base e size (.slice p (n+m) cp) (n+m) (xs++cs)→Keep (λq=>v.ownBlock=some q) w w'→wpList P ops Q rest (a.put o.dst (.slice p (n+m) cp)) w'):wpList P ops Q (o::rest) a w:=by
 obtain⟨i,z,hi,hz,e1,e2,e3⟩:=info_of hi;refine wpList_append_own w hgd s x t ho base e i z size bytes ht hi hz e1 e2 e3 hsz v n xs hs hown ⟨g,0,none⟩ m c cs hx hl (λj u hj=>?_) h1 h63 hbytes hbase λv' w' k1 k2 _=>?_
 ·rw[show(⟨g,0,none⟩:Addr).add j=⟨g,j,none⟩from by unfold Addr.add;split<;>simp_all]
  rw[hB.cell];exact hj
 ·obtain⟨p,cp,rfl,_⟩:=aG k1
  exact h p cp w' k1 ⟨k2.os,k2.tape,k2.output,k2.size,λk hk hn=>k2.block k hk λe=>hn e.symm⟩
def eU:Value:=.slice none 0 0
theorem IQ(kb:Nat)(s:KV)(iv:Value)(L:List Nd)(w:World)(hB:Blk w kb (s.cells iv L.length) 174)(hrow:w.ownsRow (kb+1) 252 5 iv L.length (bY 0 L))(d:Nat)(name:ByteArray)(is:Bool)(hn:L.length≤100000) :
 Calls prog 184 #[.pointer (kb,0),.int .i64 d,.string name,.bool is] w λe w'=>e=.returned (.int .i64 ((L.length+1:Nat):Int))∧∃Ak,Blk w' kb (s.cells Ak (L.length+1)) 174∧
  w'.ownsRow (kb+1) 252 5 Ak (L.length+1) (bY 0 (L++[⟨d,name,is,[],eU⟩]))∧Keep (λq=>q=kb∨iv.ownBlock=some q) w w':=by
 have hF:=Ei kb s iv L.length w hB (by omega);have HF:=xh hF;clear hF;have gU:=xh hrow;have hlt:=hB.lt;have KZ:Hid (bY 0 (L++[⟨d,name,is,[],eU⟩])=bY 0 L++[.int .i64 (L.length+1:Nat),.int .i64 d,.string name,.bool is,eU]):=xh (by
  rw[yR,Nat.zero_add];rfl)
 clear hB hrow;go_enter func184,ntmps184;go_upto_region 2 with(go_at_call 103;with_reducible refine aH HF.o ?_;rintro e w1 ⟨rfl,b1,k1⟩)
 have c7:=b1.c 7 rfl;have f7:=b1.frozen 7;have hlt1:=b1.lt;have hz1:=k1.size;have HB1:=xh b1;have bP:=xh k1;have adT:=xh (dG gU.o k1 (λg hg e=>by omega));have Dl:Hid (prog.built 252 [(0,.int .i64 ((L.length+1:Nat):Int)),(1,.int .i64 d),(2,.string name),(3,.bool is)]=some #[.int .i64 ((L.length+1:Nat):Int),.int .i64 d,.string name,.bool is,eU]):=xh (by kernel_rfl);clear b1 k1
 go_upto_region 3 with(first
  | (refine wpList_buildTo rfl 252 _ rfl (some 21) rfl _ (by simp only[List.map_toArray,List.map_cons,List.map_nil];exact Dl.o) ?_)
  | (refine au rfl 170 252 (.tmp 21) rfl [.int .i64 ((L.length+1:Nat):Int),.int .i64 d,.string name,.bool is,eU] rfl underlying170 iO (by show 0<5;omega) (by show 5≤2^24;omega) ?_;intro w2 B2 K2)
  | (refine fG rfl (.tmp 16) (.tmp 22) 170 rfl underlying170 iO (by omega) rfl (aO adT.o K2) _ 1 1 [.int .i64 ((L.length+1:Nat):Int),.int .i64 d,.string name,.bool is,eU] 252 rfl B2.out rfl (by intro v hv;simp at hv;rcases hv with rfl|rfl|rfl|rfl|rfl<;>rfl) (by unfold maxLen;omega) (by omega) (by have:=K2.size;omega) ?_;intro p3 c3 w3 R3 K3;have B3:=(HB1.o.bel K2).keep K3 (λe=>by have:=xP gU.o _ e;omega);have f3:=B3.frozen 7;have q3:=B3.c 7 rfl;have l3:=B3.lt;have HB3:=xh B3;have HR3:=xh R3;clear B3 R3))
 have B4:Blk (w3.setCell (kb,7) (.slice p3 (L.length+1) c3)) kb (s.cells (.slice p3 (L.length+1) c3) (L.length+1)) 174:=HB3.o.setCell (o:=7) _;have K4:=Keep.setCell w3 kb 7 (.slice p3 (L.length+1) c3);generalize w3.setCell (kb,7) (.slice p3 (L.length+1) c3)=w4 at *
 have HB4:=xh B4;have HR4:=xh (dG HR3.o K4 (λg hg e=>by omega));have qh:Hid (Keep (λq=>q=kb∨iv.ownBlock=some q) w w4):=xh ((((bP.o.mono (λ_ h=>.inl h)).tr (Keep.of_bel _ K2)).tr (K3.mono (λ_ h=>.inr h))).tr (K4.mono (λ_ h=>.inl h)));clear B4 K4 K2 K3 B2 f3 q3 l3 c7 f7 hlt1 hz1 Dl;go_wp2
 go_ret
 exact⟨rfl,_,HB4.o,by rw[KZ.o];exact HR4.o,qh.o⟩
end
section
open Go.Proofs.Tryz Go.RowKit Go.MapKept Go.Maps
def adp{P:Program}{k:TypeId}(hk:P.underlying k=some .string):kZ P k ByteArray:=
 ⟨.string,λa=>.string a.data.toList,λa=>a.size≤maxLen,λ_ h=>WideMaps.keyOf_string_mk hk h,λa b h=>by injection h⟩
noncomputable def keyS:kZ prog 9 ByteArray:=adp underlying9
theorem NU:Keyed prog 9:=string_keyed underlying9
def Rw(w:World)(v:Value)(L:List Int):Prop:=(∀x∈L,0≤x∧x≤255)∧
 (v=.slice none 0 0∧L=[]∨∃g cap cur,v=.slice (g,0) L.length cap∧Blk w g cur 5∧L.length≤cap∧cap≤cur.length∧cap≤maxLen∧cur.take L.length=L.map (Value.int .u8))
theorem Rw.keep{S:Nat→Prop}{w w':World}{v:Value}{L:List Int}(h:Rw w v L)(k:Keep S w w')(hs:∀g,v.ownBlock=some g→¬S g):Rw w' v L:=by
 refine⟨h.1,?_⟩;rcases h.2 with h2|⟨g,cap,cur,rfl,hb,h3⟩
 ·exact .inl h2
 ·exact .inr ⟨g,cap,cur,rfl,hb.keep k (hs g rfl),h3⟩
theorem Rw.bel{w w':World}{v:Value}{L:List Int}(h:Rw w v L)(k:Bel w w'):Rw w' v L:=h.keep (Keep.of_bel (λ_=>False) k) (λ_ _ h=>h)
theorem Rw.lt{w:World}{v:Value}{L:List Int}(h:Rw w v L){g:Nat}(hg:v.ownBlock=some g):g<w.heap.size∧∃cur,Blk w g cur 5:=by
 rcases h.2 with⟨rfl,_⟩|⟨g',cap,cur,rfl,hb,_⟩
 ·cases hg
 ·cases hg;exact⟨hb.lt,cur,hb⟩
theorem Rw.slice{w:World}{v:Value}{L:List Int}(h:Rw w v L):∃p cap,v=.slice p L.length cap∧L.length≤cap∧cap≤maxLen∧(p=none→L=[]∧cap=0):=by
 rcases h.2 with⟨rfl,rfl⟩|⟨g,cap,cur,rfl,hb,h1,_,h2,_⟩
 ·exact⟨none,0,rfl,bM _,Nat.zero_le _,λ_=>⟨rfl,rfl⟩⟩
 ·exact⟨_,cap,rfl,h1,h2,λe=>by cases e⟩
theorem Rw.cells{w:World}{v:Value}{L:List Int}(h:Rw w v L){a:Addr}{n cap:Nat}(hv:v=.slice (some a) n cap):∃g,a=⟨g,0,none⟩∧∀j u,(L.map (Value.int .u8))[j]?=some u→w.cell? ⟨g,j,none⟩=some u:=by
 rcases h.2 with⟨rfl,_⟩|⟨g,cap',cur,rfl,hb,h1,h2,_,h3⟩
 ·cases hv
 ·cases hv
  refine⟨g,rfl,λj u hj=>?_⟩;rw[hb.cell,←hj,←h3,List.getElem?_take];have:=(bV hj).1;rw[if_pos (by simpa using this)]
theorem Blk.ne{w:World}{a b:Nat}{c d:List Value}{t u:TypeId}(h:Blk w a c t)(k:Blk w b d u)(hn:t≠u):a≠b:=by
 rintro rfl;unfold Blk at h k;rw[h]at k
 injection k with k
 injection k with _ k
 exact hn k
theorem Blk.aP{P:Program}{k:TypeId}{α:Type}{E:kZ P k α}{w:World}{a b:Nat}{c:List Value}{t:TypeId}{kv:List (α×Value)}(h:Blk w a c t)(m:Mp E w b kv):a≠b:=by
 rintro rfl;obtain⟨es,clock,hb,_⟩:=m;unfold Blk at h;rw[h]at hb
 injection hb with hb
 cases hb
structure Pn where
 par:Nat
 name:ByteArray
 dir:Bool
 byt:List Int
 bv:Value
 obj:Int
 gone:Bool
structure bJ where
 nb:Nat→Nat
 mb:Nat→Nat
def bJ.at_(A:bJ)(n:Nat):Option Addr:=if n=0 then none else some ⟨A.nb n,0,none⟩
def bJ.ptr(A:bJ)(n:Nat):Value:=.pointer (A.at_ n)
def Pn.map(A:bJ)(i:Nat)(n:Pn):Option Nat:=if n.dir then some (A.mb i)else none
def Pn.cells(A:bJ)(i:Nat)(n:Pn):List Value:=[.string n.name,A.ptr n.par,.map (n.map A i),n.bv,.int .i64 n.obj,.bool n.gone]
def Pn.nd(n:Pn):Nd:=⟨if n.gone then 0 else n.par,n.name,n.dir,n.byt,eU⟩
def aJ(T:List Pn):List Nd:=T.map Pn.nd
def gQ(A:bJ)(d:Nat):Nat→List Pn→List (ByteArray×Value)
 | _,[]=>[]
 | i,n::T=>if n.nd.par=d then(n.name,A.ptr (i+1))::gQ A d (i+1) T else gQ A d (i+1) T
def kids(A:bJ)(d:Nat)(T:List Pn):List (ByteArray×Value):=gQ A d 0 T
theorem AU{α:Type}[DecidableEq α](p:α×Value)(l:List (α×Value))(a:α):bQ (p::l) a=if p.1=a then some p.2 else bQ l a:=by
 unfold bQ;rw[List.find?_cons];by_cases h:p.1=a<;>simp[h]
theorem xG(A:bJ)(d:Nat)(s:ByteArray):∀(i:Nat) (T:List Pn),bQ (gQ A d i T) s=if iL d s i (aJ T)=0 then none else some (A.ptr (iL d s i (aJ T)))
 | _,[]=>by simp[gQ,bQ,aJ,iL]
 | i,n::T=>by
   have ih:=xG A d s (i+1) T;unfold gQ;simp only[aJ,List.map_cons,iL]
   by_cases hp:n.nd.par=d
   ·rw[if_pos hp,AU]
    by_cases hn:n.name=s
    ·have hc:n.nd.par=d∧n.nd.name=s:=⟨hp,hn⟩
     rw[if_pos hn,if_pos hc,if_neg (by omega)]
    ·have hc:¬(n.nd.par=d∧n.nd.name=s):=λh=>hn h.2
     rw[if_neg hn,if_neg hc];exact ih
   ·have hc:¬(n.nd.par=d∧n.nd.name=s):=λh=>hp h.1
    rw[if_neg hp,if_neg hc];exact ih
theorem JQ(A:bJ)(d:Nat)(T:List Pn)(s:ByteArray):(bQ (kids A d T) s).getD (.pointer none)=A.ptr (child (aJ T) d s):=by
 unfold kids child;rw[xG];by_cases h:iL d s 0 (aJ T)=0
 ·rw[if_pos h,h];rfl
 ·rw[if_neg h];rfl
structure dV(w:World)(A:bJ)(T:List Pn):Prop where
 node:∀(i:Nat) (n:Pn),T[i]?=some n→Blk w (A.nb (i+1)) (n.cells A (i+1)) 234
 kids:∀(i:Nat) (n:Pn),T[i]?=some n→n.dir=true→Mp keyS w (A.mb (i+1)) (kids A (i+1) T)
 aS:∀(i:Nat) (n:Pn),T[i]?=some n→Rw w n.bv n.byt
 inj:∀(i j:Nat),i<T.length→j<T.length→A.nb (i+1)=A.nb (j+1)→i=j
 U2:∀(i j:Nat) (m n:Pn),T[i]?=some m→T[j]?=some n→m.dir=true→n.dir=true→A.mb (i+1)=A.mb (j+1)→i=j
 sep:∀(i j:Nat) (m n:Pn) (g:Nat),T[i]?=some m→T[j]?=some n→m.bv.ownBlock=some g→n.bv.ownBlock=some g→i=j
 par:∀(i:Nat) (n:Pn),T[i]?=some n→n.par≤i
 KW:∀(i:Nat) (n:Pn),T[i]?=some n→n.par≠0→∃p:Pn,T[n.par-1]?=some p∧p.dir=true
 root:∃r:Pn,T[0]?=some r∧r.par=0∧r.dir=true∧r.gone=false
 top:∀(i:Nat) (n:Pn),T[i]?=some n→n.par=0→i≠0→n.gone=true
 name:∀(i:Nat) (n:Pn),T[i]?=some n→n.gone=false→i≠0→bC n.name.data.toList=true∧(47:UInt8)∉n.name.data.toList
 few:T.length≤100000
def uu(A:bJ)(T:List Pn)(q:Nat):Prop:=∃(i:Nat) (n:Pn),T[i]?=some n∧(q=A.nb (i+1)∨n.dir=true∧q=A.mb (i+1)∨n.bv.ownBlock=some q)
theorem dV.iy{w:World}{A:bJ}{T:List Pn}(h:dV w A T){q:Nat}(hq:uu A T q):q<w.heap.size:=by
 obtain⟨i,n,hi,rfl|⟨hd,rfl⟩|hb⟩:=hq
 ·exact(h.node i n hi).lt
 ·exact(h.kids i n hi hd).lt
 ·exact((h.aS i n hi).lt hb).1
theorem dV.keep{S:Nat→Prop}{w w':World}{A:bJ}{T:List Pn}(h:dV w A T)(k:Keep S w w')(hs:∀q,uu A T q→¬S q):dV w' A T where
 node i n hi:=(h.node i n hi).keep k (hs _ ⟨i,n,hi,.inl rfl⟩)
 kids i n hi hd:=(h.kids i n hi hd).of_block (k.block _ (h.kids i n hi hd).lt (hs _ ⟨i,n,hi,.inr (.inl ⟨hd,rfl⟩)⟩))
 aS i n hi:=(h.aS i n hi).keep k λg hg=>hs _ ⟨i,n,hi,.inr (.inr hg)⟩
 inj:=h.inj
 U2:=h.U2
 sep:=h.sep
 par:=h.par
 KW:=h.KW
 root:=h.root
 top:=h.top
 name:=h.name
 few:=h.few
theorem dV.bel{w w':World}{A:bJ}{T:List Pn}(h:dV w A T)(k:Bel w w'):dV w' A T:=h.keep (Keep.of_bel (λ_=>False) k) (λ_ _ h=>h)
theorem lJ(T:List Pn):(aJ T).length=T.length:=by simp[aJ]
theorem TY(T:List Pn)(n:Nat):isDir (aJ T) n=(T[n-1]?.map Pn.dir).getD false:=by
 unfold isDir aJ;rw[fA];cases T[n-1]?<;>rfl
end
end Go.Proofs.YtcnjjchlebmfiaaGreatDoor
namespace Go.Proofs
open Go.Shelf
def Tryz.Yb:Go.Shelf.Ren:=⟨λ|103=>252|210=>316|206=>349|n=>n,λ|9=>9|4=>4|24=>235|3=>3|n=>n,λ|n=>n⟩
theorem Tryz.aft:Go.Proofs.Lays.n103 prog Tryz.Yb:={
 mixed:=by kernel_rfl
 f103:=fe func252 (by kernel_rfl)
 f206:=fe func349 (by kernel_rfl)
 f210:=fe func316 (by kernel_rfl)
 t3:=underlying3
 a3:=isAgg3
 z3:=sizeOf3
 v3:=zeroValue3
 t4:=underlying4
 a4:=isAgg4
 z4:=sizeOf4
 v4:=zeroValue4
 t9:=underlying9
 a9:=isAgg9
 z9:=sizeOf9
 v9:=zeroValue9
 t24:=underlying235
 a24:=isAgg235
 z24:=sizeOf235
 v24:=zeroValue235}
def Tryz.N8:Go.Shelf.Ren:=⟨λ|146=>253|221=>317|268=>350|138=>351|143=>318|195=>357|197=>358|218=>359|219=>352|260=>365|217=>360|225=>361|224=>362|267=>363|266=>366|314=>367|n=>n,λ|9=>9|31=>66|3=>3|4=>4|0=>0|105=>530|21=>21|5=>5|46=>33|119=>55|139=>538|138=>537|146=>534|51=>367|n=>n,λ|1=>3|3=>4|4=>5|n=>n⟩
theorem Tryz.acS:Go.Proofs.Lays.n146 prog Tryz.N8:={
 mixed:=by kernel_rfl
 f138:=fe func351 (by kernel_rfl)
 f143:=fe func318 (by kernel_rfl)
 f146:=fe func253 (by kernel_rfl)
 f195:=fe func357 (by kernel_rfl)
 f197:=fe func358 (by kernel_rfl)
 f217:=fe func360 (by kernel_rfl)
 f218:=fe func359 (by kernel_rfl)
 f219:=fe func352 (by kernel_rfl)
 f221:=fe func317 (by kernel_rfl)
 f224:=fe func362 (by kernel_rfl)
 f225:=fe func361 (by kernel_rfl)
 f260:=fe func365 (by kernel_rfl)
 f266:=fe func366 (by kernel_rfl)
 f267:=fe func363 (by kernel_rfl)
 f268:=fe func350 (by kernel_rfl)
 f314:=fe func367 (by kernel_rfl)
 t0:=underlying0
 a0:=isAgg0
 z0:=sizeOf0
 v0:=zeroValue0
 t3:=underlying3
 a3:=isAgg3
 z3:=sizeOf3
 v3:=zeroValue3
 t4:=underlying4
 a4:=isAgg4
 z4:=sizeOf4
 v4:=zeroValue4
 t5:=underlying5
 a5:=isAgg5
 z5:=sizeOf5
 v5:=zeroValue5
 t9:=underlying9
 a9:=isAgg9
 z9:=sizeOf9
 v9:=zeroValue9
 t21:=underlying21
 a21:=isAgg21
 z21:=sizeOf21
 v21:=zeroValue21
 t31:=underlying66
 a31:=isAgg66
 z31:=sizeOf66
 v31:=zeroValue66
 t46:=underlying33
 a46:=isAgg33
 z46:=sizeOf33
 v46:=zeroValue33
 t51:=underlying367
 a51:=isAgg367
 z51:=sizeOf367
 v51:=zeroValue367
 t105:=underlying530
 a105:=isAgg530
 z105:=sizeOf530
 v105:=zeroValue530
 t119:=underlying55
 a119:=isAgg55
 z119:=sizeOf55
 t138:=underlying537
 a138:=isAgg537
 z138:=sizeOf537
 v138:=zeroValue537
 t139:=underlying538
 a139:=isAgg538
 z139:=sizeOf538
 v139:=zeroValue538
 t146:=underlying534
 a146:=isAgg534
 z146:=sizeOf534
 v146:=zeroValue534
 g1:=by kernel_rfl
 g3:=by kernel_rfl
 g4:=by kernel_rfl}
def Tryz.Ug:Go.Shelf.Ren:=⟨λ|144=>254|143=>318|219=>352|217=>360|225=>361|224=>362|267=>363|266=>366|314=>367|n=>n,λ|9=>9|4=>4|3=>3|5=>5|46=>33|146=>534|51=>367|n=>n,λ|1=>3|n=>n⟩
theorem Tryz.afu:Go.Proofs.Lays.n144 prog Tryz.Ug:={
 mixed:=by kernel_rfl
 f143:=fe func318 (by kernel_rfl)
 f144:=fe func254 (by kernel_rfl)
 f217:=fe func360 (by kernel_rfl)
 f219:=fe func352 (by kernel_rfl)
 f224:=fe func362 (by kernel_rfl)
 f225:=fe func361 (by kernel_rfl)
 f266:=fe func366 (by kernel_rfl)
 f267:=fe func363 (by kernel_rfl)
 f314:=fe func367 (by kernel_rfl)
 t3:=underlying3
 a3:=isAgg3
 z3:=sizeOf3
 v3:=zeroValue3
 t4:=underlying4
 a4:=isAgg4
 z4:=sizeOf4
 v4:=zeroValue4
 t5:=underlying5
 a5:=isAgg5
 z5:=sizeOf5
 v5:=zeroValue5
 t9:=underlying9
 a9:=isAgg9
 z9:=sizeOf9
 v9:=zeroValue9
 t46:=underlying33
 a46:=isAgg33
 z46:=sizeOf33
 v46:=zeroValue33
 t51:=underlying367
 a51:=isAgg367
 z51:=sizeOf367
 v51:=zeroValue367
 t146:=underlying534
 a146:=isAgg534
 z146:=sizeOf534
 v146:=zeroValue534
 g1:=by kernel_rfl}
def Tryz.Fj:Go.Shelf.Ren:=⟨λ|7=>39|10=>74|n=>n,λ|23=>103|26=>3|3=>104|28=>101|0=>0|27=>100|33=>179|4=>4|n=>n,λ|n=>n⟩
theorem Tryz.abu:Go.Proofs.SlLaysZI.n7 prog Tryz.Fj:={
 mixed:=by kernel_rfl
 f7:=⟨Tryz.f39.name,by decide,fe func39 (by kernel_rfl)⟩
 f10:=⟨Tryz.f74.name,by decide,fe func74 (by kernel_rfl)⟩
 t0:=underlying0
 a0:=isAgg0
 z0:=sizeOf0
 v0:=zeroValue0
 t4:=underlying4
 a4:=isAgg4
 z4:=sizeOf4
 v4:=zeroValue4
 t23:=underlying103
 a23:=isAgg103
 z23:=sizeOf103
 v23:=zeroValue103
 t26:=underlying3
 a26:=isAgg3
 z26:=sizeOf3
 v26:=zeroValue3
 t27:=underlying100
 a27:=isAgg100
 z27:=sizeOf100
 v27:=zeroValue100
 t28:=underlying101
 a28:=isAgg101
 z28:=sizeOf101
 v28:=zeroValue101
 t33:=underlying179
 a33:=isAgg179
 z33:=sizeOf179
 v33:=zeroValue179}
def Tryz.yD:Go.Shelf.Ren:=⟨λ|7=>173|10=>249|n=>n,λ|23=>232|26=>9|3=>218|28=>311|0=>0|27=>310|33=>396|4=>4|n=>n,λ|n=>n⟩
theorem Tryz.Yc:Go.Proofs.SlLaysZ.n7 prog Tryz.yD:={
 mixed:=by kernel_rfl
 f7:=⟨Tryz.f173.name,by decide,fe func173 (by kernel_rfl)⟩
 f10:=⟨Tryz.f249.name,by decide,fe func249 (by kernel_rfl)⟩
 t0:=underlying0
 a0:=isAgg0
 z0:=sizeOf0
 v0:=zeroValue0
 t4:=underlying4
 a4:=isAgg4
 z4:=sizeOf4
 v4:=zeroValue4
 t23:=underlying232
 a23:=isAgg232
 z23:=sizeOf232
 v23:=zeroValue232
 t26:=underlying9
 a26:=isAgg9
 z26:=sizeOf9
 v26:=zeroValue9
 t27:=underlying310
 a27:=isAgg310
 z27:=sizeOf310
 v27:=zeroValue310
 t28:=underlying311
 a28:=isAgg311
 z28:=sizeOf311
 v28:=zeroValue311
 t33:=underlying396
 a33:=isAgg396
 z33:=sizeOf396
 v33:=zeroValue396}
def Tryz.zn:Go.Shelf.Ren:=⟨λ|6=>172|8=>247|9=>248|11=>306|13=>122|12=>307|23=>219|24=>220|14=>337|15=>338|16=>339|17=>340|18=>341|19=>342|20=>343|21=>344|22=>345|25=>353|26=>277|27=>278|28=>354|29=>355|30=>251|31=>364|n=>n,λ|26=>9|28=>311|24=>66|0=>0|3=>3|37=>33|48=>367|50=>37|4=>4|40=>360|39=>359|45=>364|5=>5|9=>9|51=>430|55=>434|57=>507|58=>142|33=>396|n=>n,λ|n=>n⟩
theorem Tryz.Qc:Go.Proofs.SlLaysZ.n6 prog Tryz.zn:={
 mixed:=by kernel_rfl
 f6:=⟨Tryz.f172.name,by decide,fe func172 (by kernel_rfl)⟩
 f8:=⟨Tryz.f247.name,by decide,fe func247 (by kernel_rfl)⟩
 f11:=⟨Tryz.f306.name,by decide,fe func306 (by kernel_rfl)⟩
 t0:=underlying0
 a0:=isAgg0
 z0:=sizeOf0
 v0:=zeroValue0
 t24:=underlying66
 a24:=isAgg66
 z24:=sizeOf66
 v24:=zeroValue66
 t26:=underlying9
 a26:=isAgg9
 z26:=sizeOf9
 v26:=zeroValue9
 t28:=underlying311
 a28:=isAgg311
 z28:=sizeOf311
 v28:=zeroValue311
 i26:=by kernel_rfl}
def Tryz.Uh:Go.Shelf.Ren:=⟨λ|6=>248|8=>122|9=>307|19=>219|20=>220|21=>337|22=>338|23=>339|24=>340|25=>341|26=>342|27=>343|28=>344|29=>345|36=>353|31=>277|32=>278|37=>354|38=>355|39=>251|41=>364|n=>n,λ|27=>66|29=>9|3=>3|32=>33|26=>66|0=>0|44=>367|46=>37|4=>4|36=>360|35=>359|41=>364|5=>5|9=>9|53=>430|57=>434|63=>507|64=>142|n=>n,λ|n=>n⟩
theorem Tryz.abv:Go.Proofs.SlLaysM.n6 prog Tryz.Uh:={
 mixed:=by kernel_rfl
 f6:=⟨Tryz.f248.name,by decide,fe func248 (by kernel_rfl)⟩
 f8:=fe func122 (by kernel_rfl)
 f9:=⟨Tryz.f307.name,by decide,fe func307 (by kernel_rfl)⟩
 f19:=fe func219 (by kernel_rfl)
 f20:=fe func220 (by kernel_rfl)
 f21:=⟨Tryz.f337.name,by decide,fe func337 (by kernel_rfl)⟩
 f22:=⟨Tryz.f338.name,by decide,fe func338 (by kernel_rfl)⟩
 f23:=⟨Tryz.f339.name,by decide,fe func339 (by kernel_rfl)⟩
 f24:=⟨Tryz.f340.name,by decide,fe func340 (by kernel_rfl)⟩
 f25:=⟨Tryz.f341.name,by decide,fe func341 (by kernel_rfl)⟩
 f26:=⟨Tryz.f342.name,by decide,fe func342 (by kernel_rfl)⟩
 f27:=⟨Tryz.f343.name,by decide,fe func343 (by kernel_rfl)⟩
 f28:=⟨Tryz.f344.name,by decide,fe func344 (by kernel_rfl)⟩
 f29:=⟨Tryz.f345.name,by decide,fe func345 (by kernel_rfl)⟩
 f31:=fe func277 (by kernel_rfl)
 f32:=fe func278 (by kernel_rfl)
 f36:=⟨Tryz.f353.name,by decide,fe func353 (by kernel_rfl)⟩
 f37:=⟨Tryz.f354.name,by decide,fe func354 (by kernel_rfl)⟩
 f38:=⟨Tryz.f355.name,by decide,fe func355 (by kernel_rfl)⟩
 f39:=⟨Tryz.f251.name,by decide,fe func251 (by kernel_rfl)⟩
 f41:=⟨Tryz.f364.name,by decide,fe func364 (by kernel_rfl)⟩
 t0:=underlying0
 a0:=isAgg0
 z0:=sizeOf0
 v0:=zeroValue0
 t3:=underlying3
 a3:=isAgg3
 z3:=sizeOf3
 v3:=zeroValue3
 t4:=underlying4
 a4:=isAgg4
 z4:=sizeOf4
 v4:=zeroValue4
 t5:=underlying5
 a5:=isAgg5
 z5:=sizeOf5
 v5:=zeroValue5
 t9:=underlying9
 a9:=isAgg9
 z9:=sizeOf9
 v9:=zeroValue9
 t26:=underlying66
 a26:=isAgg66
 z26:=sizeOf66
 v26:=zeroValue66
 t27:=underlying66
 a27:=isAgg66
 z27:=sizeOf66
 v27:=zeroValue66
 t29:=underlying9
 a29:=isAgg9
 z29:=sizeOf9
 v29:=zeroValue9
 t32:=underlying33
 a32:=isAgg33
 z32:=sizeOf33
 v32:=zeroValue33
 t35:=underlying359
 a35:=isAgg359
 z35:=sizeOf359
 v35:=zeroValue359
 t36:=underlying360
 a36:=isAgg360
 z36:=sizeOf360
 v36:=zeroValue360
 t41:=underlying364
 a41:=isAgg364
 z41:=sizeOf364
 v41:=zeroValue364
 t44:=underlying367
 a44:=isAgg367
 z44:=sizeOf367
 v44:=zeroValue367
 t46:=underlying37
 a46:=isAgg37
 z46:=sizeOf37
 v46:=zeroValue37
 t53:=underlying430
 a53:=isAgg430
 z53:=sizeOf430
 v53:=zeroValue430
 t57:=underlying434
 a57:=isAgg434
 z57:=sizeOf434
 v57:=zeroValue434
 t63:=underlying507
 a63:=isAgg507
 z63:=sizeOf507
 v63:=zeroValue507
 t64:=underlying142
 a64:=isAgg142
 z64:=sizeOf142
 v64:=zeroValue142}
end Go.Proofs
namespace Go.Proofs.YtcnjjchlebmfiaaGreatDoor
section
open Go.Proofs.Tryz Go.RowKit Go.Shelf
theorem FD(s:ByteArray):Lib.splitB ⟨#[47]⟩ 0 (Lib.countB s ⟨#[47]⟩) s=(splitOn 47 s.data.toList).map λx=>⟨x.toArray⟩:=by
 have h:=Lib.splitB_data ⟨#[47]⟩ 0 (Lib.countB s ⟨#[47]⟩) s;rw[←Fv,Lib.split,←(show Lib.countB s ⟨#[47]⟩=Lib.count s.data.toList [47]from rfl),←(show Lib.splitK (ByteArray.mk #[47]).data.toList 0 _ _=_ from rfl),←h,List.map_map]
 conv=>lhs;rw[←List.map_id (Lib.splitB _ _ _ _)]
 exact List.map_congr_left λx _=>rfl
theorem OH(s:ByteArray):Lib.countB s ⟨#[47]⟩+1=(splitOn 47 s.data.toList).length:=by
 rw[←Lib.splitB_all ⟨#[47]⟩ (by decide) 0 _ s rfl,FD,jE]
def eX(w:World):Prop:=∃m,w.cell? (3,0)=some (.int .i64 m)
theorem eX.lt{w:World}(h:eX w):3<w.heap.size:=by
 obtain⟨m,h⟩:=h;have:=World.block_lt_of_cell? _ _ h
 simpa using this
theorem eX.keep{S:Nat→Prop}{w w':World}(h:eX w)(k:Keep S w w')(hs:¬S 3):eX w':=by
 have hlt:=h.lt;obtain⟨m,h⟩:=h;exact⟨m,(k.cell _ hlt hs).trans h⟩
theorem eX.bel{w w':World}(h:eX w)(k:Bel w w'):eX w':=h.keep (Keep.of_bel (λ_=>False) k) (λh=>h)
theorem ade(s:ByteArray)(w:World)(h:∀r,s.data.toList≠47::r) :
 Calls prog 252 #[s,.string ⟨#[47]⟩] w (Z.e (.tuple #[s,false]) w):=by
 have hp:Lib.hasPrefix s.data.toList [47]=false:=by
  unfold Lib.hasPrefix;cases hs:s.data.toList with
  | nil=>rfl
  | cons b r=>
    rw[List.isPrefixOf_cons_cons,show(47==b)=false from dK (λe=>h r (by rw[hs,←e]))];rfl
 refine(Any.strings_CutPrefix Tryz.aft s ⟨#[47]⟩ w).mono ?_;rintro e w' ⟨rfl,rfl⟩;refine⟨?_,rfl⟩;rw[show(ByteArray.mk #[47]).data.toList=[47]from rfl,Lib.trimPrefix,hp];rfl
theorem Ie(s:ByteArray)(r:List UInt8)(w:World)(h:s.data.toList=47::r) :
 Calls prog 252 #[s,.string ⟨#[47]⟩] w (Z.e (.tuple #[.string ⟨r.toArray⟩,true]) w):=by
 have hp:Lib.hasPrefix s.data.toList [47]=true:=by
  unfold Lib.hasPrefix;rw[h,List.isPrefixOf_cons_cons];rfl
 refine(Any.strings_CutPrefix Tryz.aft s ⟨#[47]⟩ w).mono ?_;rintro e w' ⟨rfl,rfl⟩;refine⟨?_,rfl⟩;rw[show(ByteArray.mk #[47]).data.toList=[47]from rfl,Lib.trimPrefix,hp,h];rfl
theorem OI(s:ByteArray)(w:World)(hm:eX w)(hs:s.size≤1000000) :
 Calls prog 253 #[s,.string ⟨#[47]⟩] w λe w'=>e=.returned (.slice (w.heap.size,0) (splitOn 47 s.data.toList).length (splitOn 47 s.data.toList).length)∧
  Blk w' w.heap.size ((splitOn 47 s.data.toList).map λx=>Value.string ⟨x.toArray⟩) 9∧Bel w w':=by
 obtain⟨m,hm⟩:=hm;refine(Any.strings_Split Tryz.acS (by kernel_rfl) s ⟨#[47]⟩ m w (by omega) hm (by decide)).mono ?_;rintro e w' ⟨rfl,rfl⟩;rw[OH,FD,List.map_map];exact⟨rfl,Blk.new _ _ _,Bel.start _ _⟩
theorem uJ(c:UInt8):∀l:List UInt8,(0≤Lib.indexByte l c↔c∈l)∧ -1≤Lib.indexByte l c
 | []=>by simp[Lib.indexByte]
 | b::l=>by
   have ih:=uJ c l;unfold Lib.indexByte;by_cases h:b=c
   ·subst h;simp
   ·rw[if_neg (by simpa using h)]
    by_cases h2:Lib.indexByte l c = -1
    ·rw[if_pos (by simpa using h2)]
     have hn:c∉l:=λhm=>by have:=ih.1.2 hm;omega
     simp[hn,Ne.symm h]
    ·rw[if_neg (by simpa using h2)]
     have hm:c∈l:=ih.1.1 (by omega);simp[hm]
     omega
theorem YB(s:ByteArray)(b:Bool)(w:World)(hb:decide ((0:UInt8)∈s.data.toList)=b) :
 Calls prog 254 #[s,.string ⟨#[0]⟩] w (Z.e (.bool b) w):=by
 refine(Any.strings_Contains_one Tryz.afu s 0 w).mono ?_;rintro e w' ⟨rfl,rfl⟩;refine⟨?_,rfl⟩;rw[←hb,show decide (0≤Lib.indexByte s.data.toList 0)=decide ((0:UInt8)∈s.data.toList)from by
  rw[Bool.eq_iff_iff];simp only[decide_eq_true_eq];exact(uJ 0 _).1]
theorem XZ(s:ByteArray)(w:World)(hn:∀r,s.data.toList=47::r→60<s.size) :
 Calls prog 177 #[s] w (Z.b (.tuple #[(),fH 8]) w):=by
 by_cases h:∃r,s.data.toList=47::r
 ·obtain⟨r,hr⟩:=h
  have h60:=hn r hr;have HC:=xh (Ie s r w hr);have aiq:(60:Int)<(s.size:Int):=by omega
  clear hr hn h60;go_enter func177,ntmps177;go_wp2_with (go_at_call 252;with_reducible refine aH HC.o ?_;rintro e w1 ⟨rfl,rfl⟩)
  go_ret2
  exact⟨rfl,Bel.refl _⟩
 ·have HC:=xh (ade s w (λr e=>h ⟨r,e⟩))
  clear h hn;go_enter func177,ntmps177;go_wp2_with (go_at_call 252;with_reducible refine aH HC.o ?_;rintro e w1 ⟨rfl,rfl⟩)
  go_ret2
  exact⟨rfl,Bel.refl _⟩
theorem NV(s:ByteArray)(w:World)(h:s.data.toList=[47]) :
 Calls prog 177 #[s] w (Z.b (.tuple #[(),.nilIface]) w):=by
 have HC:=xh (Ie s [] w h);have hz:s.size=1:=by have:=congrArg List.length h;simpa using this
 have h60:¬(60:Int)<(s.size:Int):=by omega
 clear h hz;go_enter func177,ntmps177;go_wp2_with (go_at_call 252;with_reducible refine aH HC.o ?_;rintro e w1 ⟨rfl,rfl⟩)
 go_ret2
 exact⟨rfl,Bel.refl _⟩
def YC(g:Nat)(l:List (List UInt8))(e:Ending)(w':World):Prop:=(l.all bC=false→e=.returned (.tuple #[(),fH 8]))∧
 (l.all bC=true→e=.returned (.tuple #[.slice (g,0) l.length l.length,.nilIface])∧Blk w' g (l.map λx=>Value.string ⟨x.toArray⟩) 9)
theorem Cf(s:ByteArray)(r:List UInt8)(w:World)(hm:eX w)(h:s.data.toList=47::r)(hr:r≠[])(h60:s.size≤60) :
 Calls prog 177 #[s] w λe w'=>Bel w w'∧YC w.heap.size (splitOn 47 r) e w':=by
 have HC:=xh (Ie s r w h);have hsz:r.length+1=s.size:=by have:=congrArg List.length h;simpa using this.symm
 have hs:=OI ⟨r.toArray⟩ w hm (by show r.toArray.size≤1000000;simp;omega);obtain⟨g,hg⟩:=e_x w.heap.size;rw[hg]at hs⊢;have HS:=xh hs;clear hs hg;have hl:=oJ 47 r;have hrr:((⟨r.toArray⟩:ByteArray).toList==[])=false:=by
  rw[ByteArray.toList_eq];exact dK (by simpa using hr)
 have aiq:¬(60:Int)<(s.size:Int):=by omega
 have hne:=lH 47 r;simp only[List.toList_toArray]at HS
 generalize splitOn 47 r=l at *
 generalize (⟨r.toArray⟩:ByteArray)=rs at *
 clear h hr hm;have hpos:0<l.length:=List.length_pos_iff.2 hne;have aj9:l.length≤60:=by omega
 clear hl hne hsz;go_enter func177,ntmps177
 go_wp2_with (first
  | (go_at_call 252;with_reducible refine aH HC.o ?_;rintro e w1 ⟨rfl,rfl⟩)
  | (go_at_call 253;with_reducible refine aH HS.o ?_;rintro e w1 ⟨rfl,B1,k1⟩))
 have HB1:=xh B1;have bP:=xh k1;have hg:=B1.lt;clear B1 k1
 go_loop [28] (λi=>∃k:Nat,k≤l.length∧i=.int .i64 k∧∀j x,j<k→l[j]?=some x→bC x=true) (λi=>l.length-(intOf i).toNat)
 case atStart=>exact⟨0,Nat.zero_le _,rfl,λj x hj=>by omega⟩
 case round=>
  obtain⟨k,hk,rfl,hall⟩:=hrel;have nX:=xh hall;clear hall;by_cases hlt:k<l.length
  ·have hx:=bT hlt
   generalize l[k]=x at *
   have c0:w1.cell? ⟨g,k,none⟩=some (.string ⟨x.toArray⟩):=by rw[HB1.o.cell,fA,hx];rfl
   have HX:=xh hx;have HBAD:Hid (bC x=false→l.all bC=false):=xh λhb=>by
    rw[List.all_eq_false];exact⟨x,List.mem_of_getElem? hx,by simp[hb]⟩
   have hsz:((⟨x.toArray⟩:ByteArray).size:Nat)=x.length:=by show x.toArray.size=_;simp
   have hdt:(⟨x.toArray⟩:ByteArray).data.toList=x:=by simp
   have htl:(⟨x.toArray⟩:ByteArray).toList=x:=by rw[ByteArray.toList_eq]
   have HCN:=xh λb W hb=>YB ⟨x.toArray⟩ b W hb;rw[hdt]at HCN;generalize (⟨x.toArray⟩:ByteArray)=xs at *
   clear hx hdt;by_cases q1:x.length<1
   ·have HN:Hid (bC x=false):=xh (by unfold bC;simp[show ¬1≤x.length from by omega])
    have q1':(xs.size:Int)<1:=by omega
    clear q1 htl;go_wp2_with fail
    go_ret2
    exact⟨bP.o,λ_=>rfl,λh=>by rw[HBAD.o HN.o]at h;cases h⟩
   have q1':¬(xs.size:Int)<1:=by omega
   by_cases q2:14<x.length
   ·have HN:Hid (bC x=false):=xh (by unfold bC;simp[show ¬x.length≤14 from by omega])
    have q2':(14:Int)<(xs.size:Int):=by omega
    clear q1 q2 htl;go_wp2_with fail
    go_ret2
    exact⟨bP.o,λ_=>rfl,λh=>by rw[HBAD.o HN.o]at h;cases h⟩
   have q2':¬(14:Int)<(xs.size:Int):=by omega
   cases h3:(xs.toList==[46])with
   | true=>
     have HN:Hid (bC x=false):=xh (by rw[htl]at h3;unfold bC;rw[h3];simp);clear q1 q2 htl;go_wp2_with fail
     go_ret2
     exact⟨bP.o,λ_=>rfl,λh=>by rw[HBAD.o HN.o]at h;cases h⟩
   | false=>
     cases h4:(xs.toList==[46,46])with
     | true=>
       have HN:Hid (bC x=false):=xh (by rw[htl]at h4;unfold bC;rw[h4];simp);clear q1 q2 htl;go_wp2_with fail
       go_ret2
       exact⟨bP.o,λ_=>rfl,λh=>by rw[HBAD.o HN.o]at h;cases h⟩
     | false=>
       have HB:Hid (bC x=!decide ((0:UInt8)∈x)):=xh (by
        rw[htl]at h3 h4;unfold bC;rw[h3,h4];simp[show 1≤x.length from by omega,show x.length≤14 from by omega])
       clear q1 q2 htl;by_cases hz:(0:UInt8)∈x
       ·have HN:Hid (bC x=false):=xh (by rw[HB.o];simp[hz])
        have HC0:=xh λW=>HCN.o true W (by simpa using hz);clear hz;go_wp2_with (go_at_call 254;with_reducible refine aH (HC0.o _) ?_;rintro e w2 ⟨rfl,rfl⟩)
        go_ret2
        exact⟨bP.o,λ_=>rfl,λh=>by rw[HBAD.o HN.o]at h;cases h⟩
       ·have HN:Hid (bC x=true):=xh (by rw[HB.o];simp[hz])
        have HC0:=xh λW=>HCN.o false W (by simpa using hz);clear hz;go_wp2_with (go_at_call 254;with_reducible refine aH (HC0.o _) ?_;rintro e w2 ⟨rfl,rfl⟩)
        go_round
        case rel=>exact⟨k+1,by omega,by go_num,λj y hj hy=>by
         by_cases e:j=k
         ·subst e
          rw[HX.o]at hy;cases hy
          exact HN.o
         ·exact nX.o j y (by omega) hy⟩
        case measure=>simp[intOf]<;>omega
  ·obtain rfl:k=l.length:=by omega
   have HT:Hid (l.all bC=true):=xh (List.all_eq_true.2 λx hx=>by
    obtain⟨j,hj,he⟩:=List.getElem_of_mem hx;exact nX.o j x hj (by rw[bT hj,he]))
   go_wp2_with fail
   go_ret2
   exact⟨bP.o,(λh=>by rw[HT.o]at h;cases h),λ_=>⟨rfl,HB1.o⟩⟩
end
section
open Go.Proofs.Tryz Go.RowKit Go.MapKept Go.Maps
def uI(L:List Nd):Nat×ByteArray×Nat→List (List UInt8)→Nat×ByteArray×Nat×Nat
 | (d,nm,n),[]=>(d,nm,n,0)
 | (_,_,n),x::t=>if n=0 then(0,⟨#[]⟩,0,9)else if isDir L n then uI L (n,⟨x.toArray⟩,child L n ⟨x.toArray⟩) t else(0,⟨#[]⟩,0,11)
theorem Ce(L:List Nd):∀(t:List (List UInt8)) (d:Nat) (x:List UInt8),eu L d (x::t)=uI L (d,⟨x.toArray⟩,child L d ⟨x.toArray⟩) t
 | [],d,x=>rfl
 | y::t,d,x=>by
   have ih:=Ce L t (child L d ⟨x.toArray⟩) y;simp only[eu,uI,ih]
theorem TW(L:List Nd)(h:isDir L 1=true):∀l,eu L 1 l=uI L (0,⟨#[]⟩,1) l
 | []=>rfl
 | x::t=>by rw[Ce];simp[uI,h]
def zg(A:bJ)(r:Nat×ByteArray×Nat×Nat):Value:=
 if r.2.2.2=0 then .tuple #[.agg #[A.ptr r.1,.string r.2.1,A.ptr r.2.2.1],.nilIface]else .tuple #[.agg #[.pointer none,.string ⟨#[]⟩,.pointer none],fH r.2.2.2]
def wV(A:bJ)(d:Nat)(nm:ByteArray)(n:Nat):List Value:=[A.ptr d,.string nm,A.ptr n]
structure TN where
 di:Nat
 bytes:Nat
 most:Int
 jT:Int
def TN.cells(A:bJ)(t:TN):List Value:=[A.ptr 1,.int .i64 t.di,.int .i64 t.bytes,.int .i64 t.most,.int .i64 t.jT]
theorem aaA(w:World):(zeroValue 218).run prog w=.ok (.pointer none) w:=by kernel_rfl
theorem dV.lookup{w:World}{A:bJ}{T:List Pn}(h:dV w A T)(d:Nat)(n:Pn)(hd:T[d]?=some n)(oW:n.dir=true)(s:ByteArray)(hs:s.size≤maxLen) :
 (Instr.lookup 232 (.map (some (A.mb (d+1)))) (.string s) false).run prog w=.ok (A.ptr (child (aJ T) (d+1) s)) w:=by
 have:=(h.kids d n hd oW).lookup NU underlying232 s hs false (aaA w);simp only[Bool.false_eq_true,if_false]at this
 rw[JQ]at this;exact this
theorem sJ(g:Nat)(m:Option Nat)(w:World)(hc:w.cell? (g,2)=some (.map m)) :
 Calls prog 92 #[g] w (Z.e (.bool m.isSome) w):=by
 have h0:∀w,(binOp .neq 232 (.map none) (.map none)).run prog w=.ok (.bool false) w:=λw=>by kernel_rfl
 have h1:∀m w,(binOp .neq 232 (.map (some m)) (.map none)).run prog w=.ok (.bool true) w:=λm w=>by kernel_rfl
 cases m with
 | none=>
   go_enter func92,ntmps92;go_wp2
   go_ret
   exact⟨rfl,rfl⟩
 | some m=>
   go_enter func92,ntmps92;go_wp2
   go_ret
   exact⟨rfl,rfl⟩
theorem JR(tb:Nat)(s:ByteArray)(w:World)(hn:∀W,Bel w W→Calls prog 177 #[s] W (Z.b (.tuple #[(),fH 8]) W)) :
 Calls prog 95 #[tb,s] w (Z.b (.tuple #[.agg #[.pointer none,.string ⟨#[]⟩,.pointer none],fH 8]) w):=by
 have HN:=xh hn;clear hn;go_enter func95,ntmps95;go_upto_region 1 with fail
 have k1:Bel w (w.alloc (.cells #[.pointer none,.string ⟨#[]⟩,.pointer none] 240)):=Bel.start w _;have B1:=Blk.new w [.pointer none,.string ⟨#[]⟩,.pointer none] 240;generalize w.alloc (.cells #[.pointer none,.string ⟨#[]⟩,.pointer none] 240)=w1 at *
 have HB1:=xh B1;have K1:=xh k1;have HM:=xh (HN.o w1 k1);obtain⟨g,hg⟩:=e_x w.heap.size;rw[hg]at HB1⊢;have HG:=xh hg;clear k1 B1 hg;go_upto_region 3 with(go_at_call 177;with_reducible refine aH HM.o ?_;rintro e w2 ⟨rfl,k2⟩)
 have B2:=HB1.o.bel k2;have c:=B2.cell;have f:=B2.frozen;have hl:=B2.lt;have K2:=xh (K1.o.tr k2);clear k2;have hgw:w.heap.size≤g:=by rw[HG.o];exact bM _
 clear B2;go_wp2
 refine bodyPost_ret (v:=.tuple #[.agg #[.pointer none,.string ⟨#[]⟩,.pointer none],fH 8]) (by simp[results,results95,go_sem,c]) rfl ⟨rfl,?_⟩
 first
  | exact K2.o
  | exact((K2.o.store (p:=⟨g,0,none⟩) hgw _).store (p:=⟨g,1,none⟩) hgw _).store (p:=⟨g,2,none⟩) hgw _
def acL(W:World)(v:Value)(l:List (List UInt8)):Prop:=∃p,v=.slice p l.length l.length∧∀j x,l[j]?=some x→∃g,p=some ⟨g,0,none⟩∧W.cell? ⟨g,j,none⟩=some (.string ⟨x.toArray⟩)
def wZ(A:bJ)(r:Nat×ByteArray×Nat×Nat)(e:Ending):Prop:=e=.returned (zg A r)
theorem NS(T:List Pn)(n:Nat)(x:Pn)(hx:T[n]?=some x):isDir (aJ T) (n+1)=x.dir:=by
 rw[TY,Nat.add_sub_cancel,hx];rfl
theorem find_ok(tb:Nat)(A:bJ)(T:List Pn)(t:TN)(s:ByteArray)(l:List (List UInt8))(w:World)(hT:Blk w tb (t.cells A) 220)(ht:dV w A T)(hsm:∀x∈l,x.length≤1000)(hll:l.length≤1000)
 (hn:∀W,Bel w W→Calls prog 177 #[s] W λe w'=>(∃v,e=.returned (.tuple #[v,.nilIface])∧acL w' v l)∧Bel W w') :
 Calls prog 95 #[tb,s] w λe w'=>wZ A (eu (aJ T) 1 l) e∧Bel w w':=by
 have HN:=xh hn;have HT:=xh hT;have HP:=xh ht;have uB:=xh hsm;have HW:Hid (eu (aJ T) 1 l=uI (aJ T) (0,⟨#[]⟩,1) l):=xh (by
  obtain⟨r,h0,_,h1,_⟩:=ht.root;exact TW _ (by rw[NS T 0 r h0];exact h1) l)
 clear hn hT ht hsm;go_enter func95,ntmps95;go_upto_region 1 with fail
 have k1:Bel w (w.alloc (.cells #[.pointer none,.string ⟨#[]⟩,.pointer none] 240)):=Bel.start w _;have B1:=Blk.new w [.pointer none,.string ⟨#[]⟩,.pointer none] 240;generalize w.alloc (.cells #[.pointer none,.string ⟨#[]⟩,.pointer none] 240)=w1 at *
 have HB1:=xh B1;have K1:=xh k1;have HM:=xh (HN.o w1 k1);obtain⟨g,hg⟩:=e_x w.heap.size;rw[hg]at HB1⊢;have HG:=xh hg;clear k1 B1 hg;go_upto_region 4 with(go_at_call 177;(with_reducible refine aH HM.o ?_);rintro e w2 ⟨⟨v,rfl,p,rfl,hcl⟩,k2⟩)
 have c0:w2.cell? (tb,0)=some (.pointer (A.at_ 1)):=(HT.o.bel (K1.o.tr k2)).cell 0;have B2:=HB1.o.bel k2;have K2:=xh (K1.o.tr k2);have HB2:=xh B2;have jK:=xh hcl;have hl:=B2.lt;clear k2 B2 hcl HM HB1;obtain⟨q1,hq1⟩:=e_x (A.at_ 1);rw[hq1]at c0;have HQ1:=xh hq1;clear hq1;go_upto_region 5 with fail
 have k3:Bel w2 (w2.alloc (.cells #[.pointer none,.string ⟨#[]⟩,.pointer q1] 240)):=Bel.start w2 _;have B3:=Blk.new w2 [.pointer none,.string ⟨#[]⟩,.pointer q1] 240;generalize w2.alloc (.cells #[.pointer none,.string ⟨#[]⟩,.pointer q1] 240)=w3 at *
 obtain⟨g8,hg8⟩:=e_x w2.heap.size;rw[hg8]at B3⊢;have HG8:=xh hg8;have hgg:g<g8:=by rw[←hg8];exact hl
 have HB3:Hid (Blk w3 g8 (wV A 0 ⟨#[]⟩ 1) 240):=xh (by have:=B3;rw[←HQ1.o]at this;exact this);have hl3:=B3.lt;have K3:=xh (K2.o.tr k3);have HBG:=xh (HB2.o.bel k3);have jP:=xh k3;clear hg8 B3 k3 c0 HB2;go_wp2
 go_loopw [27] (λi wr=>∃(k d n:Nat) (nm:ByteArray),k≤l.length∧i=.int .i64 k∧n≤T.length∧Blk wr g8 (wV A d nm n) 240∧eu (aJ T) 1 l=uI (aJ T) (d,nm,n) (l.drop k)∧Keep (λq=>q=g8) w3 wr) (λi _=>l.length-(intOf i).toNat)
 case atStart=>exact⟨0,0,1,⟨#[]⟩,Nat.zero_le _,rfl,by
  obtain⟨r,h0,_⟩:=HP.o.root;have:=(bV h0).1;omega,HB3.o,HW.o,Keep.refl _ _⟩
 case round=>
  obtain⟨k,d,n,nm,hk,rfl,hnT,hB,hw,hkr⟩:=hrel;have Dp:=xh hB;have uf:=xh hkr;have HWR:=xh hw;have hlr:=hB.lt;have c2:wr.cell? (g8,2)=some (.pointer (A.at_ n)):=hB.cell 2;have f8:=hB.frozen;have pV:Hid (Bel w wr):=xh (Below.trans K3.o (uf.o.below _ K3.o.size (λq hq=>by have:=HG.o;omega)));have uk:Hid (dV wr A T):=xh (((HP.o.bel K2.o).bel jP.o).keep uf.o (λq hq e=>by have:=(HP.o.bel K2.o).iy hq;have:=HG8.o;omega));have BG:=(HBG.o.keep uf.o (by omega));have cg:=BG.cell;have fg:=BG.frozen;have hlg:=BG.lt;have hgw:w.heap.size≤g:=by rw[HG.o];exact bM _
  have ahK:=xh BG;clear hB hkr hw BG;by_cases hlt:k<l.length
  ·obtain⟨gs,rfl,hcs⟩:=jK.o k l[k] (bT hlt)
   have cs:wr.cell? ⟨gs,k,none⟩=some (.string ⟨l[k].toArray⟩):=by
    have hb:=World.block_lt_of_cell? _ _ hcs;rw[uf.o.cell ⟨gs,k,none⟩ (Nat.lt_of_lt_of_le hb jP.o.size) (by simp at hb;have:=HG8.o;simp;omega),jP.o.cell (p:=⟨gs,k,none⟩) hb];exact hcs
   have hd:l.drop k=l[k]::l.drop (k+1):=List.drop_eq_getElem_cons hlt;have hxs:=uB.o l[k] (List.getElem_mem hlt);have HHD:=xh hd;generalize l[k]=x at *
   clear hd hcs;by_cases hn0:n=0
   ·subst hn0
    have HE:Hid (eu (aJ T) 1 l=(0,⟨#[]⟩,0,9)):=xh (by rw[HWR.o,HHD.o];rfl);have hat:A.at_ 0=none:=rfl;rw[hat]at c2;clear hat;go_wp2
    refine bodyPost_ret (v:=.tuple #[.agg #[.pointer none,.string ⟨#[]⟩,.pointer none],fH 9]) (by simp[results,results95,go_sem,cg]) rfl ⟨?_,?_⟩
    ·unfold wZ;rw[HE.o];rfl
    ·first
      | exact pV.o
      | exact((pV.o.store (p:=⟨g,0,none⟩) hgw _).store (p:=⟨g,1,none⟩) hgw _).store (p:=⟨g,2,none⟩) hgw _
   ·have hat:A.at_ n=some ⟨A.nb n,0,none⟩:=by simp[bJ.at_,hn0]
    rw[hat]at c2;have hlt1:n-1<T.length:=by omega
    have hx1:=bT hlt1;have hnd:=uk.o.node (n-1) T[n-1] hx1;have hdi:=NS T (n-1) T[n-1] hx1;have hlk:=dV.lookup (w:=wr.drew) (uk.o.bel (Bel.drew (Bel.refl wr))) (n-1) T[n-1] hx1;rw[show n-1+1=n from by omega]at hnd hdi hlk;generalize T[n-1]=X at *
    have cM:wr.cell? (A.nb n,2)=some (.map (X.map A n)):=hnd.cell 2;have nZ:Hid (n≠0):=xh hn0;cases hxd:X.dir with
    | false=>
      have HE:Hid (eu (aJ T) 1 l=(0,⟨#[]⟩,0,11)):=xh (by rw[HWR.o,HHD.o,uI,if_neg hn0,hdi,hxd];rfl);have hm:X.map A n=none:=by unfold Pn.map;rw[hxd];rfl
      rw[hm]at cM;have HD:=xh (sJ (A.nb n) none wr cM);clear hnd hdi hlk hx1 hat hxd hm hn0 cM;go_wp2_with (go_at_call 92;with_reducible refine aH HD.o ?_;rintro e wx ⟨rfl,h⟩;subst h)
      refine bodyPost_ret (v:=.tuple #[.agg #[.pointer none,.string ⟨#[]⟩,.pointer none],fH 11]) (by simp[results,results95,go_sem,cg]) rfl ⟨?_,?_⟩
      ·unfold wZ;rw[HE.o];rfl
      ·first
        | exact pV.o
        | exact((pV.o.store (p:=⟨g,0,none⟩) hgw _).store (p:=⟨g,1,none⟩) hgw _).store (p:=⟨g,2,none⟩) hgw _
    | true=>
      have HE:Hid (eu (aJ T) 1 l=uI (aJ T) (n,⟨x.toArray⟩,child (aJ T) n ⟨x.toArray⟩) (l.drop (k+1))):=xh (by
       rw[HWR.o,HHD.o,uI,if_neg hn0,hdi,hxd];rfl)
      have hm:X.map A n=some (A.mb n):=by unfold Pn.map;rw[hxd];rfl
      rw[hm]at cM;have HD:=xh (sJ (A.nb n) (some (A.mb n)) wr cM);have hlk2:=hlk hxd ⟨x.toArray⟩ (by show x.toArray.size≤_;simp;unfold maxLen;omega);have ahL:=wY (aJ T) n ⟨x.toArray⟩;rw[lJ]at ahL;generalize (⟨x.toArray⟩:ByteArray)=xs at *
      generalize child (aJ T) n xs=n2 at *
      have ae9:A.ptr n2=.pointer (A.at_ n2):=rfl;rw[ae9]at hlk2;clear hnd hdi hlk hx1 hat hxd hm hn0 ae9;go_upto_region 12 with(go_at_call 92;with_reducible refine aH HD.o ?_;rintro e wx ⟨rfl,h⟩;subst h)
      go_still_tail 11,(by kernel_rfl)
      change wpList _ _ _ _ _ wr.drew
      have BD:Blk wr.drew g8 (wV A d nm n) 240:=Dp.o;have kd:Bel wr wr.drew:=Bel.drew (Bel.refl _);have jY:=xh (uf.o.tr (Keep.of_bel _ kd));generalize wr.drew=wd at *
      have Il:=xh BD;clear BD kd hlk2 c2 f8 cg fg hlg hlr;have hpn:Value.pointer (A.nb n,0)=A.ptr n:=by simp[bJ.ptr,bJ.at_,nZ.o]
      have XF:=xh hpn;clear hpn;go_wp2_with (refine aA rfl 240 (.tmp 8) (.tmp 54) rfl rfl g8 [.pointer (A.nb n,0),.string xs,.pointer (A.at_ n2)] (wV A d nm n) 240 Il.o rfl rfl (by kernel_rfl) rfl (by intro v hv;simp at hv;rcases hv with rfl|rfl|rfl<;>rfl) ?_;intro w5 B5 K5)
      go_roundw
      case rel=>exact⟨k+1,n,n2,xs,by omega,by go_num,by omega,by have:=B5.out;rw[XF.o]at this;exact this,HE.o,jY.o.tr K5⟩
      case measure=>simp[intOf]<;>omega
  ·obtain rfl:k=l.length:=by omega
   have HE:Hid (eu (aJ T) 1 l=(d,nm,n,0)):=xh (by rw[HWR.o,List.drop_length];rfl);clear c2 cg fg hlg f8 hlr
   go_wp2_with (first
    | (refine wpList_load_mid rfl 240 (.tmp 8) rfl g8 0 rfl (wV A d nm n) _ (by have:=Dp.o.range 0;simpa using this) underlying240 rfl (by kernel_rfl) ?_)
    | (refine aA rfl 240 (.tmp 4) (.tmp 56) rfl rfl g (wV A d nm n) _ 240 ahK.o rfl rfl (by kernel_rfl) rfl (by intro v hv;simp[wV]at hv;rcases hv with rfl|rfl|rfl<;>rfl) ?_;intro w5 B5 K5))
   have c0:w5.cell? (g,0)=some (A.ptr d):=B5.out.cell 0;have c1:w5.cell? (g,1)=some (.string nm):=B5.out.cell 1;have c2:w5.cell? (g,2)=some (A.ptr n):=B5.out.cell 2;refine bodyPost_ret (v:=.tuple #[.agg #[A.ptr d,.string nm,A.ptr n],.nilIface]) (by simp[results,results95,go_sem,c0,c1,c2]) rfl ⟨?_,?_⟩
   ·unfold wZ;rw[HE.o];rfl
   ·exact Below.trans pV.o (K5.below _ pV.o.size (λq hq=>by omega))
theorem BV(tb:Nat)(A:bJ)(T:List Pn)(t:TN)(s:ByteArray)(w:World)(hT:Blk w tb (t.cells A) 220)(ht:dV w A T)(hs:s.size≤1000000)(hmx:eX w) :
 Calls prog 95 #[tb,s] w λe w'=>wZ A (az (aJ T) s.data.toList) e∧Bel w w':=by
 have hno:∀(h:∀r,s.data.toList=47::r→60<s.size),az (aJ T) s.data.toList=(0,⟨#[]⟩,0,8):=λh=>by
  unfold az;cases hd:s.data.toList with
  | nil=>rfl
  | cons b r=>
    rw[ji,if_neg];rintro⟨rfl,h2⟩;have:=h r hd;have e:s.size=r.length+1:=by have:=congrArg List.length hd;simpa using this
    omega
 by_cases h:∃r,s.data.toList=47::r∧s.size≤60
 ·obtain⟨r,hr,h60⟩:=h
  have e:s.size=r.length+1:=by have:=congrArg List.length hr;simpa using this
  by_cases hr0:r=[]
  ·subst hr0
   have hd:az (aJ T) s.data.toList=eu (aJ T) 1 []:=by unfold az;rw[hr];rfl
   rw[hd];refine find_ok tb A T t s [] w hT ht (λx hx=>by cases hx) (by simp) λW hW=>(NV s W hr).mono ?_;rintro e w' ⟨rfl,k⟩;exact⟨⟨_,rfl,none,rfl,λj x hx=>by cases hx⟩,k⟩
  ·have hp:pathOf s.data.toList=if (splitOn 47 r).all bC then some (splitOn 47 r)else none:=by
    rw[hr,ji,if_pos ⟨rfl,by omega⟩,if_neg hr0]
   cases ha:(splitOn 47 r).all bC with
   | false=>
     have hd:az (aJ T) s.data.toList=(0,⟨#[]⟩,0,8):=by unfold az;rw[hp,ha];rfl
     rw[hd];refine(JR tb s w λW hW=>(Cf s r W (hmx.bel hW) hr hr0 h60).mono ?_).mono ?_
     ·rintro e w' ⟨k,h1,_⟩
      exact⟨h1 ha,k⟩
     ·rintro e w' ⟨rfl,k⟩
      exact⟨rfl,k⟩
   | true=>
     have hd:az (aJ T) s.data.toList=eu (aJ T) 1 (splitOn 47 r):=by unfold az;rw[hp,ha];rfl
     rw[hd];refine find_ok tb A T t s _ w hT ht (λx hx=>?_) (by have:=oJ 47 r;omega) λW hW=>(Cf s r W (hmx.bel hW) hr hr0 h60).mono ?_
     ·have:=List.all_eq_true.1 ha x hx
      simp only[bC,Bool.and_eq_true,decide_eq_true_eq]at this
      omega
     ·rintro e w' ⟨k,_,h2⟩
      obtain⟨rfl,hB⟩:=h2 ha;refine⟨⟨_,rfl,_,rfl,λj x hx=>⟨_,rfl,?_⟩⟩,k⟩;rw[hB.cell,fA,hx];rfl
 ·have h2:∀r,s.data.toList=47::r→60<s.size:=λr hr=>Classical.byContradiction λhc=>h ⟨r,hr,by omega⟩
  rw[hno h2];refine(JR tb s w λW hW=>XZ s W h2).mono ?_;rintro e w' ⟨rfl,k⟩;exact⟨rfl,k⟩
end
section
open Go.Proofs.Tryz Go.RowKit
def fM(a b c d e:Nat):List Value:=[.int .i64 a,.int .i64 b,.int .i64 c,.int .i64 d,.int .i64 e]
def aS(L:List Nd):List Nat:=L.map λn=>n.byt.length
theorem Dk:∀(l:List Nat) (k:Nat) (h:k<l.length),(l.take (k+1)).sum=(l.take k).sum+l[k]
 | x::l,0,_=>by simp
 | x::l,k+1,h=>by
   have:=Dk l k (by simpa using h);simp only[List.take_succ_cons,List.sum_cons,List.getElem_cons_succ]at this⊢
   omega
theorem sG:∀(l:List Nat) (k:Nat),(l.take k).sum≤l.sum
 | [],k=>by simp
 | x::l,0=>by simp
 | x::l,k+1=>by have:=sG l k;simp;omega
theorem Bf(kb g cap:Nat)(L:List Nd)(w:World)(ht:oO w kb g cap L)(PL:List Nat)(pp po:Option Addr)(pc no oc:Nat)
 (hp:w.cell? (kb,5)=some (.slice pp PL.length pc))(hpc:PL.length≤pc)(hP:∀i n,PL[i]?=some n→∃gp q c,pp=some ⟨gp,0,none⟩∧w.cell? (gp,i*31+22)=some (.slice q n c))
 (ho:w.cell? (kb,6)=some (.slice po no oc))(hby:∀n∈L,∃q c,n.bv=.slice q n.byt.length c)(h1:PL.sum≤1000000)(h2:(aS L).sum≤1000000)(h3:PL.length≤1000000)(h4:L.length≤1000000)(h5:no≤1000000) :
 Calls prog 118 #[kb] w (Z.b (.agg (fM PL.length PL.sum no L.length (aS L).sum).toArray) w):=by
 have HT:=xh ht;have HP:=xh hP;have zT:=xh hby;have ht7:=ht.1;clear ht hP hby;go_enter func118,ntmps118;go_upto_region 1 with fail
 have k1:Bel w (w.alloc (.cells (fM 0 0 0 0 0).toArray 159)):=Bel.start w _;have B1:=Blk.new w (fM 0 0 0 0 0) 159;change Code.wp _ _ _ _ (w.alloc (.cells (fM 0 0 0 0 0).toArray 159))
 generalize w.alloc (.cells (fM 0 0 0 0 0).toArray 159)=w1 at *
 have c5:=af k1 hp;have c6:=af k1 ho;have c7:=af k1 ht7;have HB1:=xh B1;have bP:=xh k1;have hz1:=k1.size;have hr1:=B1.lt;clear k1 B1;generalize hre:w.heap.size=r at *
 have HRE:=xh hre;clear hre
 go_cut [3] (λs3 wx=>∃g3:Nat,s3=.pointer (g3,0)∧Hid (Blk wx g3 (fM PL.length 0 no L.length 0) 159)∧Hid (Bel w1 wx)∧Hid (r<g3))
 case first=>
  have l5:=World.block_lt_of_cell? _ _ c5;go_region_held3 (λw'=>w'.cell? ⟨kb,5,none⟩=some (.slice pp PL.length pc)∧w'.cell? ⟨kb,6,none⟩=some (.slice po no oc)∧w'.cell? ⟨kb,7,none⟩=some (.slice (g,0) L.length cap)) (first|(go_keep;done)) (fail)
  go_wp2_with fail
  go_meet
  exact⟨w1.heap.size,rfl,xh (Blk.new w1 _ _),xh ((Bel.start w1 _).drew),xh hr1⟩
 case rest=>
  obtain⟨g3,rfl,B3,k3,hrg⟩:=hcut;have jP:=xh (bP.o.tr k3.out);have HB3:=xh B3.out;have Dp:=xh (HB1.o.bel k3.out);have hl3:=B3.out.lt;have c5c:=af k3.out c5;have c7c:=af k3.out c7;clear c5 c6 c7 B3 k3 hr1;have hk5:kb<w.heap.size:=World.block_lt_of_cell? _ _ hp;have hne:∀W,Keep (λq=>q=g3) wc W→W.cell? (kb,5)=some (.slice pp PL.length pc)∧W.cell? (kb,7)=some (.slice (g,0) L.length cap):=λW hW=>by
   have hz:=HRE.o;have hgg:=hrg.out;have hz2:=jP.o.size;constructor
   ·rw[hW.cell ⟨kb,5,none⟩ (by show kb<_;omega) (by show kb≠g3;omega)];exact c5c
   ·rw[hW.cell ⟨kb,7,none⟩ (by show kb<_;omega) (by show kb≠g3;omega)];exact c7c
  have nZ:=xh hne;clear hne c5c c7c;go_wp2_with fail
  go_loopw [4] (λi wr=>∃k:Nat,k≤PL.length∧i=.int .i64 k∧Blk wr g3 (fM PL.length (PL.take k).sum no L.length 0) 159∧Keep (λq=>q=g3) wc wr) (λi _=>PL.length-(intOf i).toNat)
  case atStart=>exact⟨0,Nat.zero_le _,rfl,HB3.o,Keep.refl _ _⟩
  case round=>
   obtain⟨k,hk,rfl,hB,hkr⟩:=hrel;obtain⟨c5,c7⟩:=nZ.o wr hkr;have UY:=xh hB;have uf:=xh hkr;have hlr:=hB.lt;clear hB hkr;by_cases hlt:k<PL.length
   ·obtain⟨gp,q,c,rfl,hcp⟩:=HP.o k PL[k] (bT hlt)
    have hts:=Dk PL k hlt;have hle:=sG PL (k+1);have NI:=World.block_lt_of_cell? _ _ hcp;have jB:wr.cell? (gp,k*31+22)=some (.slice q PL[k] c):=by
     have hz:=HRE.o;have hgg:=hrg.out;have hz2:=jP.o.size;simp at NI
     rw[uf.o.cell ⟨gp,k*31+22,none⟩ (by show gp<_;omega) (by show gp≠g3;omega)];exact af jP.o hcp
    have HTS:Hid ((PL.take (k+1)).sum=(PL.take k).sum+PL[k]):=xh hts;have hbn:(PL.take k).sum+PL[k]≤1000000:=by omega
    generalize PL[k]=n at *
    have c31:=UY.o.c 1 rfl;have f3:=UY.o.frozen;generalize (PL.take k).sum=sm at *
    have hwr:IntKind.i64.wrap ((sm:Int)+(n:Int))=(sm:Int)+(n:Int):=by rw[IntKind.wrap_i64];omega
    clear hts hle hcp NI hbn;go_upto_region 5 with fail
    go_still_tail 13,(by kernel_rfl)
    change wpList _ _ _ _ _ wr.drew
    have BD:=UY.o.bel (Bel.drew (Bel.refl wr));have kd:Bel wr wr.drew:=Bel.drew (Bel.refl _);generalize wr.drew=wd at *
    have jY:=xh (uf.o.tr (Keep.of_bel _ kd));have Il:=xh BD;have c31:=BD.c 1 rfl;have f3:=BD.frozen;have hld:=BD.lt;clear kd BD jB c5 c7 hwr;go_wp2
    go_roundw
    case rel=>exact⟨k+1,by omega,by go_num,by
     have:=Il.o.setCell (o:=1) (.int .i64 ((sm:Int)+(n:Int)));rw[HTS.o]
     simpa [fM]using this,jY.o.tr (Keep.setCell _ _ _ _)⟩
    case measure=>simp[intOf]<;>omega
   ·obtain rfl:k=PL.length:=by omega
    rw[List.take_length]at UY;go_wp2_with fail
    clear c5 c7 hlr
    go_loopw [5] (λi wr=>∃k:Nat,k≤L.length∧i=.int .i64 k∧Blk wr g3 (fM PL.length PL.sum no L.length ((aS L).take k).sum) 159∧Keep (λq=>q=g3) wc wr) (λi _=>L.length-(intOf i).toNat)
    case atStart=>exact⟨0,Nat.zero_le _,rfl,UY.o,uf.o⟩
    case round=>
     obtain⟨k,hk,rfl,hB,hkr⟩:=hrel;obtain⟨c5,c7⟩:=nZ.o wr hkr;have yt:=xh hB;have qE:=xh hkr;have hlq:=hB.lt;clear hB hkr c5;by_cases hlt:k<L.length
     ·obtain⟨q,c,hbv⟩:=zT.o L[k] (List.getElem_mem hlt)
      have hcp:w.cell? (g,k*5+4)=some (.slice q L[k].byt.length c):=by
       rw[←hbv];exact HT.o.2.2 k L[k] (bT hlt) 4 _ rfl
      have hkb:k<(aS L).length:=by simpa [aS]using hlt
      have hts:=Dk (aS L) k hkb;have hle:=sG (aS L) (k+1);have hbe:(aS L)[k]=L[k].byt.length:=by simp[aS]
      have NI:=World.block_lt_of_cell? _ _ hcp;have agh:=HT.o.2.1;have c4:wr.cell? (g,k*5+4)=some (.slice q L[k].byt.length c):=by
       have hz:=HRE.o;have hgg:=hrg.out;have hz2:=jP.o.size;simp at NI
       rw[qE.o.cell ⟨g,k*5+4,none⟩ (by show g<_;omega) (by show g≠g3;omega)];exact af jP.o hcp
      rw[hbe]at hts;have HTS:Hid (((aS L).take (k+1)).sum=((aS L).take k).sum+L[k].byt.length):=xh hts;have hbn:((aS L).take k).sum+L[k].byt.length≤1000000:=by omega
      generalize L[k].byt.length=n at *
      have c34:=yt.o.c 4 rfl;have f3:=yt.o.frozen;generalize ((aS L).take k).sum=sm at *
      have hwr:IntKind.i64.wrap ((sm:Int)+(n:Int))=(sm:Int)+(n:Int):=by rw[IntKind.wrap_i64];omega
      clear hts hle hcp NI hbn hbe hkb hbv;go_upto_region 9 with fail
      go_still_tail 13,(by kernel_rfl)
      change wpList _ _ _ _ _ wr.drew
      have BD:=yt.o.bel (Bel.drew (Bel.refl wr));have kd:Bel wr wr.drew:=Bel.drew (Bel.refl _);generalize wr.drew=wd at *
      have jY:=xh (qE.o.tr (Keep.of_bel _ kd));have Il:=xh BD;have c34:=BD.c 4 rfl;have f3:=BD.frozen;have hld:=BD.lt;clear kd BD c4 c7 hwr agh;go_wp2
      go_roundw
      case rel=>exact⟨k+1,by omega,by go_num,by
       have:=Il.o.setCell (o:=4) (.int .i64 ((sm:Int)+(n:Int)));rw[HTS.o]
       simpa [fM]using this,jY.o.tr (Keep.setCell _ _ _ _)⟩
      case measure=>simp[intOf]<;>omega
     ·obtain rfl:k=L.length:=by omega
      have hbl:(aS L).length=L.length:=by simp[aS]
      have hbt:(aS L).take L.length=aS L:=by rw[←hbl,List.take_length]
      rw[hbt]at yt;have hne2:r≠g3:=by have:=hrg.out;omega
      have HB2:Hid (Blk wr r (fM 0 0 0 0 0) 159):=xh (Dp.o.keep qE.o hne2);clear hbt hbl hlq
      go_wp2_with (first
       | (refine wpList_load_mid rfl 159 (.tmp 3) rfl g3 0 rfl (fM PL.length PL.sum no L.length (aS L).sum) _ (by have:=yt.o.range 0;simpa using this) underlying159 rfl (by kernel_rfl) ?_)
       | (refine aA rfl 159 (.tmp 2) (.tmp 66) rfl rfl r (fM PL.length PL.sum no L.length (aS L).sum) _ 159 HB2.o rfl rfl (by kernel_rfl) rfl (by intro v hv;simp[fM]at hv;rcases hv with rfl|rfl|rfl|rfl|rfl<;>rfl) ?_;intro w5 B5 K5))
      have e0:=B5.out.c 0 rfl;have e1:=B5.out.c 1 rfl;have e2:=B5.out.c 2 rfl;have e3:=B5.out.c 3 rfl;have e4:=B5.out.c 4 rfl;refine bodyPost_ret (v:=.agg (fM PL.length PL.sum no L.length (aS L).sum).toArray) (by simp[results,results118,go_sem,e0,e1,e2,e3,e4,fM]) rfl ⟨rfl,?_⟩;exact Below.trans jP.o ((qE.o.below _ jP.o.size (λq hq=>by have:=HRE.o;have:=hrg.out;omega)).trans (K5.below _ (bU jP.o.size qE.o.size) (λq hq=>by have:=HRE.o;omega)))
end
end Go.Proofs.YtcnjjchlebmfiaaGreatDoor
