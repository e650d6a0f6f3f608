/- The document's kernel: numbers, nodes made. -/
import Derived.Laws.AppendOwn
import Derived.Test.YtjdaddmjpicflaaGreatDoorP07
import Derived.Test.YtjdaddmjpicflaaGreatDoorP04
import Derived.Test.YtjdaddmjpicflaaGreatDoorP02
import Derived.Test.YtjdaddmjpicflaaGreatDoorP01
import Derived.Test.YtjdaddmjpicflaaGreatDoorP05
import Derived.Shelf.SlIterI.Nil
import Derived.Shelf.SlIter.Nil
import Derived.Shelf.SortM.Plain
import Derived.Shelf.SortM.SortNone
import Derived.Ground.GgzProg
import Derived.Ground.SlgmProg
import Derived.Shelf.Small.Wraps
import Derived.Shelf.Strings.SplitShaped
import Derived.Shelf.Strings.Search3
import Derived.Test.YtjdaddmjpicflaaGreatDoorProg
import Derived.Test.YtjdaddmjpicflaaGreatDoorP00
import Derived.Lib.SplitLaws
import Derived.Test.YtjdaddmjpicflaaGreatDoorP06
import Derived.StillTailTactics
import Derived.Test.YtjdaddmjpicflaaGreatDoorP03
set_option linter.unusedVariables false
set_option linter.unusedSimpArgs false
set_option maxRecDepth 100000
set_option maxHeartbeats 16000000
namespace Go.Proofs.YtjdaddmjpicflaaGreatDoor
open Go.RowKit
structure KV where
 a:Int
 b:Int
 c:Int
 d:Int
 e:Int
 pv:Value
 ov:Value
 xv:Value
 tv:Value
 uv:Value
 mv:Value
def KV.cells (s:KV) (iv:Value) (last:Nat):List Value:=[.int .i64 s.a,.int .i64 s.b,.int .i64 s.c,.int .i64 s.d,.int .i64 s.e,s.pv,s.ov,iv,s.xv,s.tv,s.uv,s.mv,.int .i64 last]
theorem fresh_any (kb:Nat) (s:KV) (iv:Value) (n:Nat) (w:World) (hB:Blk w kb (s.cells iv n) 87) (hn:n≤1000000) :
 Calls Tryz.prog 40 #[.pointer (some ⟨kb,0,none⟩)] w λe w'=>e=.returned (.int .i64 ((n+1:Nat):Int))∧Blk w' kb (s.cells iv (n+1)) 87∧Keep (λq=>q=kb) w w':=by
 have c12:w.cell? ⟨kb,12,none⟩=some (.int .i64 n):=hB.cell 12
 have f12:=hB.frozen 12
 have hlt:=hB.lt
 have HB:=xh hB
 clear hB
 go_enter Tryz.func40,Tryz.ntmps40
 go_wp2
 go_ret
 refine⟨?_,HB.out.setCell (o:=12) _,Keep.setCell w kb 12 _⟩
 rfl
theorem inodeInfo:(Tryz.prog.info? 138).map (λi=>(i.size,i.bytes,(i.zero.map (·.cells.size))))=some (5,64,some 5):=by kernel_rfl
def ndCells (i:Nat):List Nd→List Value
 | []=>[]
 | n::L=>n.cells i++ndCells (i+1) L
theorem ndCells_app (i:Nat):∀(L M:List Nd),ndCells i (L++M)=ndCells i L++ndCells (i+L.length) M:=by
 intro L
 induction L generalizing i with
 | nil=>intro M;simp[ndCells]
 | cons n L ih=>
   intro M
   simp only[List.cons_append,ndCells,ih,List.length_cons,List.append_assoc]
   rw[show i+1+L.length=i+(L.length+1)from by omega]
theorem ndCells_len (i:Nat) (L:List Nd):(ndCells i L).length=L.length*5:=by
 induction L generalizing i with
 | nil=>rfl
 | cons n L ih=>simp only[ndCells,List.length_append,ih,List.length_cons,Nd.cells,List.length_nil];omega
theorem own_ge {w:World} {base:Nat} {e:TypeId} {size:Nat} {v:Value} {n:Nat} {xs:List Value} (h:w.ownsRow base e size v n xs) (q:Nat) (hq:v.ownBlock=some q):base≤q:=by
 rcases h.2 with⟨rfl,_⟩|⟨g,cap,cur,rfl,h2,_⟩
 ·cases hq
 ·cases hq;exact h2
theorem wpList_append_grown {P:Program} {w:World} {base:Nat} {e:TypeId} {size:Nat} {v:Value} {n:Nat} {xs:List Value} {ops:Array Oper} {rest:List Oper} {o:Oper} {a:Act} {Q:Exit→Act→World→Prop} (hgd:o.guard=none) (s x:Operand) (t:TypeId)
 (ho:o.op=.call {callee:=.builtin .append,args:= #[s,x],argTypes:= #[t,t]}) {bytes:Nat} (ht:P.underlying t=some (.slice e))
 (hi:(P.info? e).map (λi=>(i.size,i.bytes,(i.zero.map (·.cells.size))))=some (size,bytes,some size)) (hsz:0<size)
 (hs:a.eval s=v) (hown:w.ownsRow base e size v n xs) (g m c:Nat) (cs:List Value) (t':TypeId) (hx:a.eval x=.slice (some ⟨g,0,none⟩) m c) (hB:Blk w g cs t') (hl:cs.length=m*size) (h1:∀u∈cs,u.oneCell'=true)
 (h63:n+m≤maxLen) (hbytes:(n+m)*bytes≤140737488355328) (hbase:base≤w.heap.size)
 (h:∀p cp w',w'.ownsRow base e size (.slice p (n+m) cp) (n+m) (xs++cs)→Keep (λq=>v.ownBlock=some q) w w'→wpList P ops Q rest (a.put o.dst (.slice p (n+m) cp)) w'):wpList P ops Q (o::rest) a w:=by
 obtain⟨i,z,hi,hz,e1,e2,e3⟩:=info_of hi
 refine wpList_append_own w hgd s x t ho base e i z size bytes ht hi hz e1 e2 e3 hsz v n xs hs hown ⟨g,0,none⟩ m c cs hx hl (λj u hj=>?_) h1 h63 hbytes hbase λv' w' k1 k2 _=>?_
 ·rw[show(⟨g,0,none⟩:Addr).add j=⟨g,j,none⟩from by unfold Addr.add;split<;>simp_all]
  rw[hB.cell];exact hj
 ·obtain⟨p,cp,rfl,_⟩:=row_slice k1
  exact h p cp w' k1 ⟨k2.os,k2.tape,k2.output,k2.size,λk hk hn=>k2.block k hk λe=>hn e.symm⟩
def emptyB:Value:=.slice none 0 0
theorem make_any (kb:Nat) (s:KV) (iv:Value) (L:List Nd) (w:World) (hB:Blk w kb (s.cells iv L.length) 87) (hrow:w.ownsRow (kb+1) 138 5 iv L.length (ndCells 0 L)) (d:Nat) (name:ByteArray) (is:Bool) (hn:L.length≤100000) :
 Calls Tryz.prog 78 #[.pointer (some ⟨kb,0,none⟩),.int .i64 d,.string name,.bool is] w λe w'=>e=.returned (.int .i64 ((L.length+1:Nat):Int))∧∃iv',Blk w' kb (s.cells iv' (L.length+1)) 87∧
  w'.ownsRow (kb+1) 138 5 iv' (L.length+1) (ndCells 0 (L++[⟨d,name,is,[],emptyB⟩]))∧Keep (λq=>q=kb∨iv.ownBlock=some q) w w':=by
 have hF:=fresh_any kb s iv L.length w hB (by omega)
 have HF:=xh hF
 clear hF
 have HROW:=xh hrow
 have hlt:=hB.lt
 have HAPP:Hid (ndCells 0 (L++[⟨d,name,is,[],emptyB⟩])=ndCells 0 L++[.int .i64 (L.length+1:Nat),.int .i64 d,.string name,.bool is,emptyB]):=xh (by
  rw[ndCells_app,Nat.zero_add];rfl)
 clear hB hrow
 go_enter Tryz.func78,Tryz.ntmps78
 go_upto_region 2 with(go_at_call 40;with_reducible refine Calls.mono HF.out ?_;rintro e w1 ⟨rfl,b1,k1⟩)
 have c7:w1.cell? ⟨kb,7,none⟩=some iv:=b1.cell 7
 have f7:=b1.frozen 7
 have hlt1:=b1.lt
 have hz1:=k1.size
 have HB1:=xh b1
 have HK1:=xh k1
 have HROW1:=xh (row_keep HROW.out k1 (λg hg e=>by omega))
 have HBP:Hid (Tryz.prog.built 138 [(0,.int .i64 ((L.length+1:Nat):Int)),(1,.int .i64 d),(2,.string name),(3,.bool is)]=some #[.int .i64 ((L.length+1:Nat):Int),.int .i64 d,.string name,.bool is,emptyB]):=xh (by kernel_rfl)
 clear b1 k1
 go_upto_region 3 with(first
  | (refine wpList_buildTo rfl 138 _ rfl (some 21) rfl _ (by simp only[List.map_toArray,List.map_cons,List.map_nil];exact HBP.out) ?_)
  | (refine wpList_buildSlice_one rfl 83 138 (.tmp 21) rfl [.int .i64 ((L.length+1:Nat):Int),.int .i64 d,.string name,.bool is,emptyB] rfl Tryz.underlying83 inodeInfo (by show 0<5;omega) (by show 5≤2^24;omega) ?_;intro w2 B2 K2)
  | (refine wpList_append_grown rfl (.tmp 16) (.tmp 22) 83 rfl Tryz.underlying83 inodeInfo (by omega) rfl (row_bel HROW1.out K2) _ 1 1 [.int .i64 ((L.length+1:Nat):Int),.int .i64 d,.string name,.bool is,emptyB] 138 rfl B2.out rfl (by intro v hv;simp at hv;rcases hv with rfl|rfl|rfl|rfl|rfl<;>rfl) (by unfold maxLen;omega) (by omega) (by have:=K2.size;omega) ?_;intro p3 c3 w3 R3 K3;have B3:=(HB1.out.bel K2).keep K3 (λe=>by have:=own_ge HROW.out _ e;omega);have f3:=B3.frozen 7;have q3:w3.cell? ⟨kb,7,none⟩=some iv:=B3.cell 7;have l3:=B3.lt;have HB3:=xh B3;have HR3:=xh R3;clear B3 R3))
 have B4:Blk (w3.setCell ⟨kb,7,none⟩ (.slice p3 (L.length+1) c3)) kb (s.cells (.slice p3 (L.length+1) c3) (L.length+1)) 87:=HB3.out.setCell (o:=7) _
 have K4:=Keep.setCell w3 kb 7 (.slice p3 (L.length+1) c3)
 generalize w3.setCell ⟨kb,7,none⟩ (.slice p3 (L.length+1) c3)=w4 at *
 have HB4:=xh B4
 have HR4:=xh (row_keep HR3.out K4 (λg hg e=>by omega))
 have HK4:Hid (Keep (λq=>q=kb∨iv.ownBlock=some q) w w4):=xh ((((HK1.out.mono (λ_ h=>.inl h)).tr (Keep.of_bel _ K2)).tr (K3.mono (λ_ h=>.inr h))).tr (K4.mono (λ_ h=>.inl h)))
 clear B4 K4 K2 K3 B2 f3 q3 l3 c7 f7 hlt1 hz1 HBP
 go_wp2
 go_ret
 exact⟨rfl,_,HB4.out,by rw[HAPP.out];exact HR4.out,HK4.out⟩
end Go.Proofs.YtjdaddmjpicflaaGreatDoor
namespace Go.Proofs.YtjdaddmjpicflaaGreatDoor
open Go.RowKit Go.MapKept Go.Maps
def strEnc {P:Program} {k:TypeId} (hk:P.underlying k=some .string):KeyEnc P k ByteArray:=
 ⟨.string,λa=>.string a.data.toList,λa=>a.size≤maxLen,λ_ h=>WideMaps.keyOf_string_mk hk h,λa b h=>by injection h⟩
noncomputable def keyS:KeyEnc Tryz.prog 9 ByteArray:=strEnc Tryz.underlying9
theorem keyedS:Keyed Tryz.prog 9:=string_keyed Tryz.underlying9
def Rw (w:World) (v:Value) (L:List Int):Prop:=(∀x∈L,0≤x∧x≤255)∧
 (v=.slice none 0 0∧L=[]∨∃g cap cur,v=.slice (some ⟨g,0,none⟩) L.length cap∧Blk w g cur 5∧L.length≤cap∧cap≤cur.length∧cap≤maxLen∧cur.take L.length=L.map (Value.int .u8))
theorem Rw.keep {S:Nat→Prop} {w w':World} {v:Value} {L:List Int} (h:Rw w v L) (k:Keep S w w') (hs:∀g,v.ownBlock=some g→¬S g):Rw w' v L:=by
 refine⟨h.1,?_⟩
 rcases h.2 with h2|⟨g,cap,cur,rfl,hb,h3⟩
 ·exact .inl h2
 ·exact .inr ⟨g,cap,cur,rfl,hb.keep k (hs g rfl),h3⟩
theorem Rw.bel {w w':World} {v:Value} {L:List Int} (h:Rw w v L) (k:Bel w w'):Rw w' v L:=h.keep (Keep.of_bel (λ_=>False) k) (λ_ _ h=>h)
theorem Rw.lt {w:World} {v:Value} {L:List Int} (h:Rw w v L) {g:Nat} (hg:v.ownBlock=some g):g<w.heap.size∧∃cur,Blk w g cur 5:=by
 rcases h.2 with⟨rfl,_⟩|⟨g',cap,cur,rfl,hb,_⟩
 ·cases hg
 ·cases hg;exact⟨hb.lt,cur,hb⟩
theorem Rw.slice {w:World} {v:Value} {L:List Int} (h:Rw w v L):∃p cap,v=.slice p L.length cap∧L.length≤cap∧cap≤maxLen∧(p=none→L=[]∧cap=0):=by
 rcases h.2 with⟨rfl,rfl⟩|⟨g,cap,cur,rfl,hb,h1,_,h2,_⟩
 ·exact⟨none,0,rfl,Nat.le_refl _,Nat.zero_le _,λ_=>⟨rfl,rfl⟩⟩
 ·exact⟨_,cap,rfl,h1,h2,λe=>by cases e⟩
theorem Rw.cells {w:World} {v:Value} {L:List Int} (h:Rw w v L) {a:Addr} {n cap:Nat} (hv:v=.slice (some a) n cap):∃g,a=⟨g,0,none⟩∧∀j u,(L.map (Value.int .u8))[j]?=some u→w.cell? ⟨g,j,none⟩=some u:=by
 rcases h.2 with⟨rfl,_⟩|⟨g,cap',cur,rfl,hb,h1,h2,_,h3⟩
 ·cases hv
 ·cases hv
  refine⟨g,rfl,λj u hj=>?_⟩
  rw[hb.cell,←hj,←h3,List.getElem?_take]
  have:=(List.getElem?_eq_some_iff.1 hj).1
  rw[if_pos (by simpa using this)]
theorem Blk.ne {w:World} {a b:Nat} {c d:List Value} {t u:TypeId} (h:Blk w a c t) (k:Blk w b d u) (hn:t≠u):a≠b:=by
 rintro rfl
 unfold Blk at h k
 rw[h]at k
 injection k with k
 injection k with _ k
 exact hn k
theorem Blk.ne_map {P:Program} {k:TypeId} {α:Type} {E:KeyEnc P k α} {w:World} {a b:Nat} {c:List Value} {t:TypeId} {kv:List (α×Value)} (h:Blk w a c t) (m:Mp E w b kv):a≠b:=by
 rintro rfl
 obtain⟨es,clock,hb,_⟩:=m
 unfold Blk at h
 rw[h]at hb
 injection hb with hb
 cases hb
structure Pn where
 par:Nat
 name:ByteArray
 dir:Bool
 byt:List Int
 bv:Value
 obj:Int
 gone:Bool
structure Adr where
 nb:Nat→Nat
 mb:Nat→Nat
def Adr.at_ (A:Adr) (n:Nat):Option Addr:=if n=0 then none else some ⟨A.nb n,0,none⟩
def Adr.ptr (A:Adr) (n:Nat):Value:=.pointer (A.at_ n)
def Pn.map (A:Adr) (i:Nat) (n:Pn):Option Nat:=if n.dir then some (A.mb i)else none
def Pn.cells (A:Adr) (i:Nat) (n:Pn):List Value:=[.string n.name,A.ptr n.par,.map (n.map A i),n.bv,.int .i64 n.obj,.bool n.gone]
def Pn.nd (n:Pn):Nd:=⟨if n.gone then 0 else n.par,n.name,n.dir,n.byt,emptyB⟩
def nds (T:List Pn):List Nd:=T.map Pn.nd
def kidsF (A:Adr) (d:Nat):Nat→List Pn→List (ByteArray×Value)
 | _,[]=>[]
 | i,n::T=>if n.nd.par=d then(n.name,A.ptr (i+1))::kidsF A d (i+1) T else kidsF A d (i+1) T
def kids (A:Adr) (d:Nat) (T:List Pn):List (ByteArray×Value):=kidsF A d 0 T
theorem getKv_cons {α:Type} [DecidableEq α] (p:α×Value) (l:List (α×Value)) (a:α):getKv (p::l) a=if p.1=a then some p.2 else getKv l a:=by
 unfold getKv
 rw[List.find?_cons]
 by_cases h:p.1=a<;>simp[h]
theorem kidsF_get (A:Adr) (d:Nat) (s:ByteArray):∀(i:Nat) (T:List Pn),getKv (kidsF A d i T) s=if childF d s i (nds T)=0 then none else some (A.ptr (childF d s i (nds T)))
 | _,[]=>by simp[kidsF,getKv,nds,childF]
 | i,n::T=>by
   have ih:=kidsF_get A d s (i+1) T
   unfold kidsF
   simp only[nds,List.map_cons,childF]
   by_cases hp:n.nd.par=d
   ·rw[if_pos hp,getKv_cons]
    by_cases hn:n.name=s
    ·have hc:n.nd.par=d∧n.nd.name=s:=⟨hp,hn⟩
     rw[if_pos hn,if_pos hc,if_neg (by omega)]
    ·have hc:¬(n.nd.par=d∧n.nd.name=s):=λh=>hn h.2
     rw[if_neg hn,if_neg hc]
     exact ih
   ·have hc:¬(n.nd.par=d∧n.nd.name=s):=λh=>hp h.1
    rw[if_neg hp,if_neg hc]
    exact ih
theorem kids_get (A:Adr) (d:Nat) (T:List Pn) (s:ByteArray):(getKv (kids A d T) s).getD (.pointer none)=A.ptr (child (nds T) d s):=by
 unfold kids child
 rw[kidsF_get]
 by_cases h:childF d s 0 (nds T)=0
 ·rw[if_pos h,h];rfl
 ·rw[if_neg h];rfl
structure PTree (w:World) (A:Adr) (T:List Pn):Prop where
 node:∀(i:Nat) (n:Pn),T[i]?=some n→Blk w (A.nb (i+1)) (n.cells A (i+1)) 183
 kids:∀(i:Nat) (n:Pn),T[i]?=some n→n.dir=true→Mp keyS w (A.mb (i+1)) (kids A (i+1) T)
 byts:∀(i:Nat) (n:Pn),T[i]?=some n→Rw w n.bv n.byt
 inj:∀(i j:Nat),i<T.length→j<T.length→A.nb (i+1)=A.nb (j+1)→i=j
 minj:∀(i j:Nat) (m n:Pn),T[i]?=some m→T[j]?=some n→m.dir=true→n.dir=true→A.mb (i+1)=A.mb (j+1)→i=j
 sep:∀(i j:Nat) (m n:Pn) (g:Nat),T[i]?=some m→T[j]?=some n→m.bv.ownBlock=some g→n.bv.ownBlock=some g→i=j
 par:∀(i:Nat) (n:Pn),T[i]?=some n→n.par≤i
 pdir:∀(i:Nat) (n:Pn),T[i]?=some n→n.par≠0→∃p:Pn,T[n.par-1]?=some p∧p.dir=true
 root:∃r:Pn,T[0]?=some r∧r.par=0∧r.dir=true∧r.gone=false
 top:∀(i:Nat) (n:Pn),T[i]?=some n→n.par=0→i≠0→n.gone=true
 name:∀(i:Nat) (n:Pn),T[i]?=some n→n.gone=false→i≠0→nameOk n.name.data.toList=true∧(47:UInt8)∉n.name.data.toList
 few:T.length≤100000
def TFoot (A:Adr) (T:List Pn) (q:Nat):Prop:=∃(i:Nat) (n:Pn),T[i]?=some n∧(q=A.nb (i+1)∨n.dir=true∧q=A.mb (i+1)∨n.bv.ownBlock=some q)
theorem PTree.foot_lt {w:World} {A:Adr} {T:List Pn} (h:PTree w A T) {q:Nat} (hq:TFoot A T q):q<w.heap.size:=by
 obtain⟨i,n,hi,rfl|⟨hd,rfl⟩|hb⟩:=hq
 ·exact(h.node i n hi).lt
 ·exact(h.kids i n hi hd).lt
 ·exact((h.byts i n hi).lt hb).1
theorem PTree.keep {S:Nat→Prop} {w w':World} {A:Adr} {T:List Pn} (h:PTree w A T) (k:Keep S w w') (hs:∀q,TFoot A T q→¬S q):PTree w' A T where
 node i n hi:=(h.node i n hi).keep k (hs _ ⟨i,n,hi,.inl rfl⟩)
 kids i n hi hd:=(h.kids i n hi hd).of_block (k.block _ (h.kids i n hi hd).lt (hs _ ⟨i,n,hi,.inr (.inl ⟨hd,rfl⟩)⟩))
 byts i n hi:=(h.byts i n hi).keep k λg hg=>hs _ ⟨i,n,hi,.inr (.inr hg)⟩
 inj:=h.inj
 minj:=h.minj
 sep:=h.sep
 par:=h.par
 pdir:=h.pdir
 root:=h.root
 top:=h.top
 name:=h.name
 few:=h.few
theorem PTree.bel {w w':World} {A:Adr} {T:List Pn} (h:PTree w A T) (k:Bel w w'):PTree w' A T:=h.keep (Keep.of_bel (λ_=>False) k) (λ_ _ h=>h)
theorem nds_len (T:List Pn):(nds T).length=T.length:=by simp[nds]
theorem isDir_nds (T:List Pn) (n:Nat):isDir (nds T) n=(T[n-1]?.map Pn.dir).getD false:=by
 unfold isDir nds
 rw[List.getElem?_map]
 cases T[n-1]?<;>rfl
end Go.Proofs.YtjdaddmjpicflaaGreatDoor
namespace Go.Proofs
open Go.Shelf
def Tryz.cutL_ren:Go.Shelf.Ren:=⟨λ|103=>149|210=>181|206=>238|n=>n,λ|9=>9|4=>4|24=>239|3=>3|n=>n,λ|n=>n⟩
theorem Tryz.cutL:Go.Proofs.Lays.n103 Tryz.prog Tryz.cutL_ren:={
 mixed:=by kernel_rfl
 f103:=Tryz.func149.trans (congrArg some (by kernel_rfl))
 f206:=Tryz.func238.trans (congrArg some (by kernel_rfl))
 f210:=Tryz.func181.trans (congrArg some (by kernel_rfl))
 t3:=Tryz.underlying3
 a3:=Tryz.isAgg3
 z3:=Tryz.sizeOf3
 v3:=Tryz.zeroValue3
 t4:=Tryz.underlying4
 a4:=Tryz.isAgg4
 z4:=Tryz.sizeOf4
 v4:=Tryz.zeroValue4
 t9:=Tryz.underlying9
 a9:=Tryz.isAgg9
 z9:=Tryz.sizeOf9
 v9:=Tryz.zeroValue9
 t24:=Tryz.underlying239
 a24:=Tryz.isAgg239
 z24:=Tryz.sizeOf239
 v24:=Tryz.zeroValue239}
def Tryz.splitL_ren:Go.Shelf.Ren:=⟨λ|146=>150|221=>182|268=>239|138=>240|143=>183|195=>284|197=>285|218=>286|219=>241|260=>331|217=>287|225=>288|224=>289|267=>290|266=>332|314=>333|n=>n,λ|9=>9|31=>31|3=>3|4=>4|0=>0|105=>431|21=>21|5=>5|46=>29|119=>146|139=>527|138=>526|146=>504|51=>427|n=>n,λ|1=>3|3=>4|4=>5|n=>n⟩
theorem Tryz.splitL:Go.Proofs.Lays.n146 Tryz.prog Tryz.splitL_ren:={
 mixed:=by kernel_rfl
 f138:=Tryz.func240.trans (congrArg some (by kernel_rfl))
 f143:=Tryz.func183.trans (congrArg some (by kernel_rfl))
 f146:=Tryz.func150.trans (congrArg some (by kernel_rfl))
 f195:=Tryz.func284.trans (congrArg some (by kernel_rfl))
 f197:=Tryz.func285.trans (congrArg some (by kernel_rfl))
 f217:=Tryz.func287.trans (congrArg some (by kernel_rfl))
 f218:=Tryz.func286.trans (congrArg some (by kernel_rfl))
 f219:=Tryz.func241.trans (congrArg some (by kernel_rfl))
 f221:=Tryz.func182.trans (congrArg some (by kernel_rfl))
 f224:=Tryz.func289.trans (congrArg some (by kernel_rfl))
 f225:=Tryz.func288.trans (congrArg some (by kernel_rfl))
 f260:=Tryz.func331.trans (congrArg some (by kernel_rfl))
 f266:=Tryz.func332.trans (congrArg some (by kernel_rfl))
 f267:=Tryz.func290.trans (congrArg some (by kernel_rfl))
 f268:=Tryz.func239.trans (congrArg some (by kernel_rfl))
 f314:=Tryz.func333.trans (congrArg some (by kernel_rfl))
 t0:=Tryz.underlying0
 a0:=Tryz.isAgg0
 z0:=Tryz.sizeOf0
 v0:=Tryz.zeroValue0
 t3:=Tryz.underlying3
 a3:=Tryz.isAgg3
 z3:=Tryz.sizeOf3
 v3:=Tryz.zeroValue3
 t4:=Tryz.underlying4
 a4:=Tryz.isAgg4
 z4:=Tryz.sizeOf4
 v4:=Tryz.zeroValue4
 t5:=Tryz.underlying5
 a5:=Tryz.isAgg5
 z5:=Tryz.sizeOf5
 v5:=Tryz.zeroValue5
 t9:=Tryz.underlying9
 a9:=Tryz.isAgg9
 z9:=Tryz.sizeOf9
 v9:=Tryz.zeroValue9
 t21:=Tryz.underlying21
 a21:=Tryz.isAgg21
 z21:=Tryz.sizeOf21
 v21:=Tryz.zeroValue21
 t31:=Tryz.underlying31
 a31:=Tryz.isAgg31
 z31:=Tryz.sizeOf31
 v31:=Tryz.zeroValue31
 t46:=Tryz.underlying29
 a46:=Tryz.isAgg29
 z46:=Tryz.sizeOf29
 v46:=Tryz.zeroValue29
 t51:=Tryz.underlying427
 a51:=Tryz.isAgg427
 z51:=Tryz.sizeOf427
 v51:=Tryz.zeroValue427
 t105:=Tryz.underlying431
 a105:=Tryz.isAgg431
 z105:=Tryz.sizeOf431
 v105:=Tryz.zeroValue431
 t119:=Tryz.underlying146
 a119:=Tryz.isAgg146
 z119:=Tryz.sizeOf146
 t138:=Tryz.underlying526
 a138:=Tryz.isAgg526
 z138:=Tryz.sizeOf526
 v138:=Tryz.zeroValue526
 t139:=Tryz.underlying527
 a139:=Tryz.isAgg527
 z139:=Tryz.sizeOf527
 v139:=Tryz.zeroValue527
 t146:=Tryz.underlying504
 a146:=Tryz.isAgg504
 z146:=Tryz.sizeOf504
 v146:=Tryz.zeroValue504
 g1:=by kernel_rfl
 g3:=by kernel_rfl
 g4:=by kernel_rfl}
def Tryz.contL_ren:Go.Shelf.Ren:=⟨λ|144=>151|143=>183|219=>241|217=>287|225=>288|224=>289|267=>290|266=>332|314=>333|n=>n,λ|9=>9|4=>4|3=>3|5=>5|46=>29|146=>504|51=>427|n=>n,λ|1=>3|n=>n⟩
theorem Tryz.contL:Go.Proofs.Lays.n144 Tryz.prog Tryz.contL_ren:={
 mixed:=by kernel_rfl
 f143:=Tryz.func183.trans (congrArg some (by kernel_rfl))
 f144:=Tryz.func151.trans (congrArg some (by kernel_rfl))
 f217:=Tryz.func287.trans (congrArg some (by kernel_rfl))
 f219:=Tryz.func241.trans (congrArg some (by kernel_rfl))
 f224:=Tryz.func289.trans (congrArg some (by kernel_rfl))
 f225:=Tryz.func288.trans (congrArg some (by kernel_rfl))
 f266:=Tryz.func332.trans (congrArg some (by kernel_rfl))
 f267:=Tryz.func290.trans (congrArg some (by kernel_rfl))
 f314:=Tryz.func333.trans (congrArg some (by kernel_rfl))
 t3:=Tryz.underlying3
 a3:=Tryz.isAgg3
 z3:=Tryz.sizeOf3
 v3:=Tryz.zeroValue3
 t4:=Tryz.underlying4
 a4:=Tryz.isAgg4
 z4:=Tryz.sizeOf4
 v4:=Tryz.zeroValue4
 t5:=Tryz.underlying5
 a5:=Tryz.isAgg5
 z5:=Tryz.sizeOf5
 v5:=Tryz.zeroValue5
 t9:=Tryz.underlying9
 a9:=Tryz.isAgg9
 z9:=Tryz.sizeOf9
 v9:=Tryz.zeroValue9
 t46:=Tryz.underlying29
 a46:=Tryz.isAgg29
 z46:=Tryz.sizeOf29
 v46:=Tryz.zeroValue29
 t51:=Tryz.underlying427
 a51:=Tryz.isAgg427
 z51:=Tryz.sizeOf427
 v51:=Tryz.zeroValue427
 t146:=Tryz.underlying504
 a146:=Tryz.isAgg504
 z146:=Tryz.sizeOf504
 v146:=Tryz.zeroValue504
 g1:=by kernel_rfl}
def Tryz.keysP_ren:Go.Shelf.Ren:=⟨λ|7=>144|10=>175|n=>n,λ|23=>98|26=>3|3=>111|28=>311|0=>0|27=>310|33=>92|4=>4|n=>n,λ|n=>n⟩
theorem Tryz.keysP:Go.Proofs.SlLaysZI.n7 Tryz.prog Tryz.keysP_ren:={
 mixed:=by kernel_rfl
 f7:=⟨Tryz.f144.name,by decide,Tryz.func144.trans (congrArg some (by kernel_rfl))⟩
 f10:=⟨Tryz.f175.name,by decide,Tryz.func175.trans (congrArg some (by kernel_rfl))⟩
 t0:=Tryz.underlying0
 a0:=Tryz.isAgg0
 z0:=Tryz.sizeOf0
 v0:=Tryz.zeroValue0
 t4:=Tryz.underlying4
 a4:=Tryz.isAgg4
 z4:=Tryz.sizeOf4
 v4:=Tryz.zeroValue4
 t23:=Tryz.underlying98
 a23:=Tryz.isAgg98
 z23:=Tryz.sizeOf98
 v23:=Tryz.zeroValue98
 t26:=Tryz.underlying3
 a26:=Tryz.isAgg3
 z26:=Tryz.sizeOf3
 v26:=Tryz.zeroValue3
 t27:=Tryz.underlying310
 a27:=Tryz.isAgg310
 z27:=Tryz.sizeOf310
 v27:=Tryz.zeroValue310
 t28:=Tryz.underlying311
 a28:=Tryz.isAgg311
 z28:=Tryz.sizeOf311
 v28:=Tryz.zeroValue311
 t33:=Tryz.underlying92
 a33:=Tryz.isAgg92
 z33:=Tryz.sizeOf92
 v33:=Tryz.zeroValue92}
def Tryz.keysN_ren:Go.Shelf.Ren:=⟨λ|7=>234|10=>281|n=>n,λ|23=>181|26=>9|3=>180|28=>388|0=>0|27=>387|33=>326|4=>4|n=>n,λ|n=>n⟩
theorem Tryz.keysN:Go.Proofs.SlLaysZ.n7 Tryz.prog Tryz.keysN_ren:={
 mixed:=by kernel_rfl
 f7:=⟨Tryz.f234.name,by decide,Tryz.func234.trans (congrArg some (by kernel_rfl))⟩
 f10:=⟨Tryz.f281.name,by decide,Tryz.func281.trans (congrArg some (by kernel_rfl))⟩
 t0:=Tryz.underlying0
 a0:=Tryz.isAgg0
 z0:=Tryz.sizeOf0
 v0:=Tryz.zeroValue0
 t4:=Tryz.underlying4
 a4:=Tryz.isAgg4
 z4:=Tryz.sizeOf4
 v4:=Tryz.zeroValue4
 t23:=Tryz.underlying181
 a23:=Tryz.isAgg181
 z23:=Tryz.sizeOf181
 v23:=Tryz.zeroValue181
 t26:=Tryz.underlying9
 a26:=Tryz.isAgg9
 z26:=Tryz.sizeOf9
 v26:=Tryz.zeroValue9
 t27:=Tryz.underlying387
 a27:=Tryz.isAgg387
 z27:=Tryz.sizeOf387
 v27:=Tryz.zeroValue387
 t28:=Tryz.underlying388
 a28:=Tryz.isAgg388
 z28:=Tryz.sizeOf388
 v28:=Tryz.zeroValue388
 t33:=Tryz.underlying326
 a33:=Tryz.isAgg326
 z33:=Tryz.sizeOf326
 v33:=Tryz.zeroValue326}
def Tryz.sortedN_ren:Go.Shelf.Ren:=⟨λ|6=>233|8=>279|9=>280|11=>321|13=>231|12=>322|23=>277|24=>278|14=>343|15=>344|16=>345|17=>346|18=>347|19=>348|20=>349|21=>350|22=>351|25=>355|26=>316|27=>317|28=>356|29=>357|30=>283|31=>359|n=>n,λ|26=>9|28=>388|24=>31|0=>0|3=>3|37=>29|48=>427|50=>75|4=>4|40=>421|39=>420|45=>278|5=>5|9=>9|51=>491|55=>495|57=>516|58=>140|33=>326|n=>n,λ|n=>n⟩
theorem Tryz.sortedN:Go.Proofs.SlLaysZ.n6 Tryz.prog Tryz.sortedN_ren:={
 mixed:=by kernel_rfl
 f6:=⟨Tryz.f233.name,by decide,Tryz.func233.trans (congrArg some (by kernel_rfl))⟩
 f8:=⟨Tryz.f279.name,by decide,Tryz.func279.trans (congrArg some (by kernel_rfl))⟩
 f11:=⟨Tryz.f321.name,by decide,Tryz.func321.trans (congrArg some (by kernel_rfl))⟩
 t0:=Tryz.underlying0
 a0:=Tryz.isAgg0
 z0:=Tryz.sizeOf0
 v0:=Tryz.zeroValue0
 t24:=Tryz.underlying31
 a24:=Tryz.isAgg31
 z24:=Tryz.sizeOf31
 v24:=Tryz.zeroValue31
 t26:=Tryz.underlying9
 a26:=Tryz.isAgg9
 z26:=Tryz.sizeOf9
 v26:=Tryz.zeroValue9
 t28:=Tryz.underlying388
 a28:=Tryz.isAgg388
 z28:=Tryz.sizeOf388
 v28:=Tryz.zeroValue388
 i26:=by kernel_rfl}
def Tryz.sortN_ren:Go.Shelf.Ren:=⟨λ|6=>280|8=>231|9=>322|19=>277|20=>278|21=>343|22=>344|23=>345|24=>346|25=>347|26=>348|27=>349|28=>350|29=>351|36=>355|31=>316|32=>317|37=>356|38=>357|39=>283|41=>359|n=>n,λ|27=>31|29=>9|3=>3|32=>29|26=>31|0=>0|44=>427|46=>75|4=>4|36=>421|35=>420|41=>278|5=>5|9=>9|53=>491|57=>495|63=>516|64=>140|n=>n,λ|n=>n⟩
theorem Tryz.sortN:Go.Proofs.SlLaysM.n6 Tryz.prog Tryz.sortN_ren:={
 mixed:=by kernel_rfl
 f6:=⟨Tryz.f280.name,by decide,Tryz.func280.trans (congrArg some (by kernel_rfl))⟩
 f8:=Tryz.func231.trans (congrArg some (by kernel_rfl))
 f9:=⟨Tryz.f322.name,by decide,Tryz.func322.trans (congrArg some (by kernel_rfl))⟩
 f19:=Tryz.func277.trans (congrArg some (by kernel_rfl))
 f20:=Tryz.func278.trans (congrArg some (by kernel_rfl))
 f21:=⟨Tryz.f343.name,by decide,Tryz.func343.trans (congrArg some (by kernel_rfl))⟩
 f22:=⟨Tryz.f344.name,by decide,Tryz.func344.trans (congrArg some (by kernel_rfl))⟩
 f23:=⟨Tryz.f345.name,by decide,Tryz.func345.trans (congrArg some (by kernel_rfl))⟩
 f24:=⟨Tryz.f346.name,by decide,Tryz.func346.trans (congrArg some (by kernel_rfl))⟩
 f25:=⟨Tryz.f347.name,by decide,Tryz.func347.trans (congrArg some (by kernel_rfl))⟩
 f26:=⟨Tryz.f348.name,by decide,Tryz.func348.trans (congrArg some (by kernel_rfl))⟩
 f27:=⟨Tryz.f349.name,by decide,Tryz.func349.trans (congrArg some (by kernel_rfl))⟩
 f28:=⟨Tryz.f350.name,by decide,Tryz.func350.trans (congrArg some (by kernel_rfl))⟩
 f29:=⟨Tryz.f351.name,by decide,Tryz.func351.trans (congrArg some (by kernel_rfl))⟩
 f31:=Tryz.func316.trans (congrArg some (by kernel_rfl))
 f32:=Tryz.func317.trans (congrArg some (by kernel_rfl))
 f36:=⟨Tryz.f355.name,by decide,Tryz.func355.trans (congrArg some (by kernel_rfl))⟩
 f37:=⟨Tryz.f356.name,by decide,Tryz.func356.trans (congrArg some (by kernel_rfl))⟩
 f38:=⟨Tryz.f357.name,by decide,Tryz.func357.trans (congrArg some (by kernel_rfl))⟩
 f39:=⟨Tryz.f283.name,by decide,Tryz.func283.trans (congrArg some (by kernel_rfl))⟩
 f41:=⟨Tryz.f359.name,by decide,Tryz.func359.trans (congrArg some (by kernel_rfl))⟩
 t0:=Tryz.underlying0
 a0:=Tryz.isAgg0
 z0:=Tryz.sizeOf0
 v0:=Tryz.zeroValue0
 t3:=Tryz.underlying3
 a3:=Tryz.isAgg3
 z3:=Tryz.sizeOf3
 v3:=Tryz.zeroValue3
 t4:=Tryz.underlying4
 a4:=Tryz.isAgg4
 z4:=Tryz.sizeOf4
 v4:=Tryz.zeroValue4
 t5:=Tryz.underlying5
 a5:=Tryz.isAgg5
 z5:=Tryz.sizeOf5
 v5:=Tryz.zeroValue5
 t9:=Tryz.underlying9
 a9:=Tryz.isAgg9
 z9:=Tryz.sizeOf9
 v9:=Tryz.zeroValue9
 t26:=Tryz.underlying31
 a26:=Tryz.isAgg31
 z26:=Tryz.sizeOf31
 v26:=Tryz.zeroValue31
 t27:=Tryz.underlying31
 a27:=Tryz.isAgg31
 z27:=Tryz.sizeOf31
 v27:=Tryz.zeroValue31
 t29:=Tryz.underlying9
 a29:=Tryz.isAgg9
 z29:=Tryz.sizeOf9
 v29:=Tryz.zeroValue9
 t32:=Tryz.underlying29
 a32:=Tryz.isAgg29
 z32:=Tryz.sizeOf29
 v32:=Tryz.zeroValue29
 t35:=Tryz.underlying420
 a35:=Tryz.isAgg420
 z35:=Tryz.sizeOf420
 v35:=Tryz.zeroValue420
 t36:=Tryz.underlying421
 a36:=Tryz.isAgg421
 z36:=Tryz.sizeOf421
 v36:=Tryz.zeroValue421
 t41:=Tryz.underlying278
 a41:=Tryz.isAgg278
 z41:=Tryz.sizeOf278
 v41:=Tryz.zeroValue278
 t44:=Tryz.underlying427
 a44:=Tryz.isAgg427
 z44:=Tryz.sizeOf427
 v44:=Tryz.zeroValue427
 t46:=Tryz.underlying75
 a46:=Tryz.isAgg75
 z46:=Tryz.sizeOf75
 v46:=Tryz.zeroValue75
 t53:=Tryz.underlying491
 a53:=Tryz.isAgg491
 z53:=Tryz.sizeOf491
 v53:=Tryz.zeroValue491
 t57:=Tryz.underlying495
 a57:=Tryz.isAgg495
 z57:=Tryz.sizeOf495
 v57:=Tryz.zeroValue495
 t63:=Tryz.underlying516
 a63:=Tryz.isAgg516
 z63:=Tryz.sizeOf516
 v63:=Tryz.zeroValue516
 t64:=Tryz.underlying140
 a64:=Tryz.isAgg140
 z64:=Tryz.sizeOf140
 v64:=Tryz.zeroValue140}
end Go.Proofs
namespace Go.Proofs.YtjdaddmjpicflaaGreatDoor
open Go.RowKit Go.Shelf
theorem splitB_eq (s:ByteArray):Lib.splitB ⟨#[47]⟩ 0 (Lib.countB s ⟨#[47]⟩) s=(splitOn 47 s.data.toList).map λx=>⟨x.toArray⟩:=by
 have h:=Lib.splitB_data ⟨#[47]⟩ 0 (Lib.countB s ⟨#[47]⟩) s
 rw[←split_one,Lib.split,←(show Lib.countB s ⟨#[47]⟩=Lib.count s.data.toList [47]from rfl),←(show Lib.splitK (ByteArray.mk #[47]).data.toList 0 _ _=_ from rfl),←h,List.map_map]
 conv=>lhs;rw[←List.map_id (Lib.splitB _ _ _ _)]
 exact List.map_congr_left λx _=>rfl
theorem splitB_len (s:ByteArray):Lib.countB s ⟨#[47]⟩+1=(splitOn 47 s.data.toList).length:=by
 rw[←Lib.splitB_all ⟨#[47]⟩ (by decide) 0 _ s rfl,splitB_eq,List.length_map]
def MaxVar (w:World):Prop:=∃m,w.cell? ⟨3,0,none⟩=some (.int .i64 m)
theorem MaxVar.lt {w:World} (h:MaxVar w):3<w.heap.size:=by
 obtain⟨m,h⟩:=h
 have:=World.block_lt_of_cell? _ _ h
 simpa using this
theorem MaxVar.keep {S:Nat→Prop} {w w':World} (h:MaxVar w) (k:Keep S w w') (hs:¬S 3):MaxVar w':=by
 have hlt:=h.lt
 obtain⟨m,h⟩:=h
 exact⟨m,(k.cell _ hlt hs).trans h⟩
theorem MaxVar.bel {w w':World} (h:MaxVar w) (k:Bel w w'):MaxVar w':=h.keep (Keep.of_bel (λ_=>False) k) (λh=>h)
theorem cut_no (s:ByteArray) (w:World) (h:∀r,s.data.toList≠47::r) :
 Calls Tryz.prog 149 #[.string s,.string ⟨#[47]⟩] w λe w'=>e=.returned (.tuple #[.string s,.bool false])∧w=w':=by
 have hp:Lib.hasPrefix s.data.toList [47]=false:=by
  unfold Lib.hasPrefix
  cases hs:s.data.toList with
  | nil=>rfl
  | cons b r=>
    rw[List.isPrefixOf_cons_cons,show(47==b)=false from beq_eq_false_iff_ne.2 (λe=>h r (by rw[hs,←e]))]
    rfl
 refine(Any.strings_CutPrefix Tryz.cutL s ⟨#[47]⟩ w).mono ?_
 rintro e w' ⟨rfl,rfl⟩
 refine⟨?_,rfl⟩
 rw[show(ByteArray.mk #[47]).data.toList=[47]from rfl,Lib.trimPrefix,hp]
 rfl
theorem cut_yes (s:ByteArray) (r:List UInt8) (w:World) (h:s.data.toList=47::r) :
 Calls Tryz.prog 149 #[.string s,.string ⟨#[47]⟩] w λe w'=>e=.returned (.tuple #[.string ⟨r.toArray⟩,.bool true])∧w=w':=by
 have hp:Lib.hasPrefix s.data.toList [47]=true:=by
  unfold Lib.hasPrefix
  rw[h,List.isPrefixOf_cons_cons]
  rfl
 refine(Any.strings_CutPrefix Tryz.cutL s ⟨#[47]⟩ w).mono ?_
 rintro e w' ⟨rfl,rfl⟩
 refine⟨?_,rfl⟩
 rw[show(ByteArray.mk #[47]).data.toList=[47]from rfl,Lib.trimPrefix,hp,h]
 rfl
theorem splits_any (s:ByteArray) (w:World) (hm:MaxVar w) (hs:s.size≤1000000) :
 Calls Tryz.prog 150 #[.string s,.string ⟨#[47]⟩] w λe w'=>e=.returned (.slice (some ⟨w.heap.size,0,none⟩) (splitOn 47 s.data.toList).length (splitOn 47 s.data.toList).length)∧
  Blk w' w.heap.size ((splitOn 47 s.data.toList).map λx=>Value.string ⟨x.toArray⟩) 9∧Bel w w':=by
 obtain⟨m,hm⟩:=hm
 refine(Any.strings_Split Tryz.splitL (by kernel_rfl) s ⟨#[47]⟩ m w (by omega) hm (by decide)).mono ?_
 rintro e w' ⟨rfl,rfl⟩
 rw[splitB_len,splitB_eq,List.map_map]
 exact⟨rfl,Blk.new _ _ _,Bel.start _ _⟩
theorem indexByte_iff (c:UInt8):∀l:List UInt8,(0≤Lib.indexByte l c↔c∈l)∧ -1≤Lib.indexByte l c
 | []=>by simp[Lib.indexByte]
 | b::l=>by
   have ih:=indexByte_iff c l
   unfold Lib.indexByte
   by_cases h:b=c
   ·subst h;simp
   ·rw[if_neg (by simpa using h)]
    by_cases h2:Lib.indexByte l c = -1
    ·rw[if_pos (by simpa using h2)]
     have hn:c∉l:=λhm=>by have:=ih.1.2 hm;omega
     simp[hn,Ne.symm h]
    ·rw[if_neg (by simpa using h2)]
     have hm:c∈l:=ih.1.1 (by omega)
     simp[hm]
     omega
theorem cont_any (s:ByteArray) (b:Bool) (w:World) (hb:decide ((0:UInt8)∈s.data.toList)=b) :
 Calls Tryz.prog 151 #[.string s,.string ⟨#[0]⟩] w λe w'=>e=.returned (.bool b)∧w=w':=by
 refine(Any.strings_Contains_one Tryz.contL s 0 w).mono ?_
 rintro e w' ⟨rfl,rfl⟩
 refine⟨?_,rfl⟩
 rw[←hb,show decide (0≤Lib.indexByte s.data.toList 0)=decide ((0:UInt8)∈s.data.toList)from by
  rw[Bool.eq_iff_iff];simp only[decide_eq_true_eq];exact(indexByte_iff 0 _).1]
theorem split_no (s:ByteArray) (w:World) (hn:∀r,s.data.toList=47::r→60<s.size) :
 Calls Tryz.prog 110 #[.string s] w λe w'=>e=.returned (.tuple #[.slice none 0 0,errN 8])∧Bel w w':=by
 by_cases h:∃r,s.data.toList=47::r
 ·obtain⟨r,hr⟩:=h
  have h60:=hn r hr
  have HC:=xh (cut_yes s r w hr)
  have h60':(60:Int)<(s.size:Int):=by omega
  clear hr hn h60
  go_enter Tryz.func110,Tryz.ntmps110
  go_wp2_with (go_at_call 149;with_reducible refine Calls.mono HC.out ?_;rintro e w1 ⟨rfl,rfl⟩)
  go_ret2
  exact⟨rfl,Bel.refl _⟩
 ·have HC:=xh (cut_no s w (λr e=>h ⟨r,e⟩))
  clear h hn
  go_enter Tryz.func110,Tryz.ntmps110
  go_wp2_with (go_at_call 149;with_reducible refine Calls.mono HC.out ?_;rintro e w1 ⟨rfl,rfl⟩)
  go_ret2
  exact⟨rfl,Bel.refl _⟩
theorem split_root (s:ByteArray) (w:World) (h:s.data.toList=[47]) :
 Calls Tryz.prog 110 #[.string s] w λe w'=>e=.returned (.tuple #[.slice none 0 0,.nilIface])∧Bel w w':=by
 have HC:=xh (cut_yes s [] w h)
 have hz:s.size=1:=by have:=congrArg List.length h;simpa using this
 have h60:¬(60:Int)<(s.size:Int):=by omega
 clear h hz
 go_enter Tryz.func110,Tryz.ntmps110
 go_wp2_with (go_at_call 149;with_reducible refine Calls.mono HC.out ?_;rintro e w1 ⟨rfl,rfl⟩)
 go_ret2
 exact⟨rfl,Bel.refl _⟩
def SplitRes (g:Nat) (l:List (List UInt8)) (e:Ending) (w':World):Prop:=(l.all nameOk=false→e=.returned (.tuple #[.slice none 0 0,errN 8]))∧
 (l.all nameOk=true→e=.returned (.tuple #[.slice (some ⟨g,0,none⟩) l.length l.length,.nilIface])∧Blk w' g (l.map λx=>Value.string ⟨x.toArray⟩) 9)
theorem split_some (s:ByteArray) (r:List UInt8) (w:World) (hm:MaxVar w) (h:s.data.toList=47::r) (hr:r≠[]) (h60:s.size≤60) :
 Calls Tryz.prog 110 #[.string s] w λe w'=>Bel w w'∧SplitRes w.heap.size (splitOn 47 r) e w':=by
 have HC:=xh (cut_yes s r w h)
 have hsz:r.length+1=s.size:=by have:=congrArg List.length h;simpa using this.symm
 have hs:=splits_any ⟨r.toArray⟩ w hm (by show r.toArray.size≤1000000;simp;omega)
 obtain⟨g,hg⟩:∃g,w.heap.size=g:=⟨_,rfl⟩
 rw[hg]at hs⊢
 have HS:=xh hs
 clear hs hg
 have hl:=splitOn_len 47 r
 have hrr:((⟨r.toArray⟩:ByteArray).toList==[])=false:=by
  rw[ByteArray.toList_eq]
  exact beq_eq_false_iff_ne.2 (by simpa using hr)
 have h60':¬(60:Int)<(s.size:Int):=by omega
 have hne:=splitOn_ne 47 r
 simp only[List.toList_toArray]at HS
 generalize splitOn 47 r=l at *
 generalize (⟨r.toArray⟩:ByteArray)=rs at *
 clear h hr hm
 have hpos:0<l.length:=List.length_pos_iff.2 hne
 have hl60:l.length≤60:=by omega
 clear hl hne hsz
 go_enter Tryz.func110,Tryz.ntmps110
 go_wp2_with (first
  | (go_at_call 149;with_reducible refine Calls.mono HC.out ?_;rintro e w1 ⟨rfl,rfl⟩)
  | (go_at_call 150;with_reducible refine Calls.mono HS.out ?_;rintro e w1 ⟨rfl,B1,k1⟩))
 have HB1:=xh B1
 have HK1:=xh k1
 have hg:=B1.lt
 clear B1 k1
 go_loop [28] (λi=>∃k:Nat,k≤l.length∧i=.int .i64 k∧∀j x,j<k→l[j]?=some x→nameOk x=true) (λi=>l.length-(intOf i).toNat)
 case atStart=>exact⟨0,Nat.zero_le _,rfl,λj x hj=>by omega⟩
 case round=>
  obtain⟨k,hk,rfl,hall⟩:=hrel
  have HALL:=xh hall
  clear hall
  by_cases hlt:k<l.length
  ·have hx:=List.getElem?_eq_getElem hlt
   generalize l[k]=x at *
   have c0:w1.cell? ⟨g,k,none⟩=some (.string ⟨x.toArray⟩):=by rw[HB1.out.cell,List.getElem?_map,hx];rfl
   have HX:=xh hx
   have HBAD:Hid (nameOk x=false→l.all nameOk=false):=xh λhb=>by
    rw[List.all_eq_false];exact⟨x,List.mem_of_getElem? hx,by simp[hb]⟩
   have hsz:((⟨x.toArray⟩:ByteArray).size:Nat)=x.length:=by show x.toArray.size=_;simp
   have hdt:(⟨x.toArray⟩:ByteArray).data.toList=x:=by simp
   have htl:(⟨x.toArray⟩:ByteArray).toList=x:=by rw[ByteArray.toList_eq]
   have HCN:=xh λb W hb=>cont_any ⟨x.toArray⟩ b W hb
   rw[hdt]at HCN
   generalize (⟨x.toArray⟩:ByteArray)=xs at *
   clear hx hdt
   by_cases q1:x.length<1
   ·have HN:Hid (nameOk x=false):=xh (by unfold nameOk;simp[show ¬1≤x.length from by omega])
    have q1':(xs.size:Int)<1:=by omega
    clear q1 htl
    go_wp2_with fail
    go_ret2
    exact⟨HK1.out,λ_=>rfl,λh=>by rw[HBAD.out HN.out]at h;cases h⟩
   have q1':¬(xs.size:Int)<1:=by omega
   by_cases q2:14<x.length
   ·have HN:Hid (nameOk x=false):=xh (by unfold nameOk;simp[show ¬x.length≤14 from by omega])
    have q2':(14:Int)<(xs.size:Int):=by omega
    clear q1 q2 htl
    go_wp2_with fail
    go_ret2
    exact⟨HK1.out,λ_=>rfl,λh=>by rw[HBAD.out HN.out]at h;cases h⟩
   have q2':¬(14:Int)<(xs.size:Int):=by omega
   cases h3:(xs.toList==[46])with
   | true=>
     have HN:Hid (nameOk x=false):=xh (by rw[htl]at h3;unfold nameOk;rw[h3];simp)
     clear q1 q2 htl
     go_wp2_with fail
     go_ret2
     exact⟨HK1.out,λ_=>rfl,λh=>by rw[HBAD.out HN.out]at h;cases h⟩
   | false=>
     cases h4:(xs.toList==[46,46])with
     | true=>
       have HN:Hid (nameOk x=false):=xh (by rw[htl]at h4;unfold nameOk;rw[h4];simp)
       clear q1 q2 htl
       go_wp2_with fail
       go_ret2
       exact⟨HK1.out,λ_=>rfl,λh=>by rw[HBAD.out HN.out]at h;cases h⟩
     | false=>
       have HB:Hid (nameOk x=!decide ((0:UInt8)∈x)):=xh (by
        rw[htl]at h3 h4
        unfold nameOk
        rw[h3,h4]
        simp[show 1≤x.length from by omega,show x.length≤14 from by omega])
       clear q1 q2 htl
       by_cases hz:(0:UInt8)∈x
       ·have HN:Hid (nameOk x=false):=xh (by rw[HB.out];simp[hz])
        have HC0:=xh λW=>HCN.out true W (by simpa using hz)
        clear hz
        go_wp2_with (go_at_call 151;with_reducible refine Calls.mono (HC0.out _) ?_;rintro e w2 ⟨rfl,rfl⟩)
        go_ret2
        exact⟨HK1.out,λ_=>rfl,λh=>by rw[HBAD.out HN.out]at h;cases h⟩
       ·have HN:Hid (nameOk x=true):=xh (by rw[HB.out];simp[hz])
        have HC0:=xh λW=>HCN.out false W (by simpa using hz)
        clear hz
        go_wp2_with (go_at_call 151;with_reducible refine Calls.mono (HC0.out _) ?_;rintro e w2 ⟨rfl,rfl⟩)
        go_round
        case rel=>exact⟨k+1,by omega,by go_num,λj y hj hy=>by
         by_cases e:j=k
         ·subst e
          rw[HX.out]at hy
          cases hy
          exact HN.out
         ·exact HALL.out j y (by omega) hy⟩
        case measure=>simp[intOf]<;>omega
  ·obtain rfl:k=l.length:=by omega
   have HT:Hid (l.all nameOk=true):=xh (List.all_eq_true.2 λx hx=>by
    obtain⟨j,hj,he⟩:=List.getElem_of_mem hx
    exact HALL.out j x hj (by rw[List.getElem?_eq_getElem hj,he]))
   go_wp2_with fail
   go_ret2
   exact⟨HK1.out,(λh=>by rw[HT.out]at h;cases h),λ_=>⟨rfl,HB1.out⟩⟩
end Go.Proofs.YtjdaddmjpicflaaGreatDoor
namespace Go.Proofs.YtjdaddmjpicflaaGreatDoor
open Go.RowKit Go.MapKept Go.Maps
def contF (L:List Nd):Nat×ByteArray×Nat→List (List UInt8)→Nat×ByteArray×Nat×Nat
 | (d,nm,n),[]=>(d,nm,n,0)
 | (_,_,n),x::t=>if n=0 then(0,⟨#[]⟩,0,9)else if isDir L n then contF L (n,⟨x.toArray⟩,child L n ⟨x.toArray⟩) t else(0,⟨#[]⟩,0,11)
theorem walkF_cont (L:List Nd):∀(t:List (List UInt8)) (d:Nat) (x:List UInt8),walkF L d (x::t)=contF L (d,⟨x.toArray⟩,child L d ⟨x.toArray⟩) t
 | [],d,x=>rfl
 | y::t,d,x=>by
   have ih:=walkF_cont L t (child L d ⟨x.toArray⟩) y
   simp only[walkF,contF,ih]
theorem walk_cont (L:List Nd) (h:isDir L 1=true):∀l,walkF L 1 l=contF L (0,⟨#[]⟩,1) l
 | []=>rfl
 | x::t=>by rw[walkF_cont];simp[contF,h]
def spotV (A:Adr) (r:Nat×ByteArray×Nat×Nat):Value:=
 if r.2.2.2=0 then .tuple #[.agg #[A.ptr r.1,.string r.2.1,A.ptr r.2.2.1],.nilIface]else .tuple #[.agg #[.pointer none,.string ⟨#[]⟩,.pointer none],errN r.2.2.2]
def spotC (A:Adr) (d:Nat) (nm:ByteArray) (n:Nat):List Value:=[A.ptr d,.string nm,A.ptr n]
structure TN where
 inodes:Nat
 bytes:Nat
 most:Int
 mostBytes:Int
def TN.cells (A:Adr) (t:TN):List Value:=[A.ptr 1,.int .i64 t.inodes,.int .i64 t.bytes,.int .i64 t.most,.int .i64 t.mostBytes]
theorem zeroPtr (w:World):(zeroValue 180).run Tryz.prog w=.ok (.pointer none) w:=by kernel_rfl
theorem PTree.lookup {w:World} {A:Adr} {T:List Pn} (h:PTree w A T) (d:Nat) (n:Pn) (hd:T[d]?=some n) (hdir:n.dir=true) (s:ByteArray) (hs:s.size≤maxLen) :
 (Instr.lookup 181 (.map (some (A.mb (d+1)))) (.string s) false).run Tryz.prog w=.ok (A.ptr (child (nds T) (d+1) s)) w:=by
 have:=(h.kids d n hd hdir).lookup keyedS Tryz.underlying181 s hs false (zeroPtr w)
 simp only[Bool.false_eq_true,if_false]at this
 rw[kids_get]at this
 exact this
theorem dir_any (g:Nat) (m:Option Nat) (w:World) (hc:w.cell? ⟨g,2,none⟩=some (.map m)) :
 Calls Tryz.prog 66 #[.pointer (some ⟨g,0,none⟩)] w λe w'=>e=.returned (.bool m.isSome)∧w=w':=by
 have h0:∀w,(binOp .neq 181 (.map none) (.map none)).run Tryz.prog w=.ok (.bool false) w:=λw=>by kernel_rfl
 have h1:∀m w,(binOp .neq 181 (.map (some m)) (.map none)).run Tryz.prog w=.ok (.bool true) w:=λm w=>by kernel_rfl
 cases m with
 | none=>
   go_enter Tryz.func66,Tryz.ntmps66
   go_wp2
   go_ret
   exact⟨rfl,rfl⟩
 | some m=>
   go_enter Tryz.func66,Tryz.ntmps66
   go_wp2
   go_ret
   exact⟨rfl,rfl⟩
theorem find_err (tb:Nat) (s:ByteArray) (w:World) (hn:∀W,Bel w W→Calls Tryz.prog 110 #[.string s] W λe w'=>e=.returned (.tuple #[.slice none 0 0,errN 8])∧Bel W w') :
 Calls Tryz.prog 64 #[.pointer (some ⟨tb,0,none⟩),.string s] w λe w'=>e=.returned (.tuple #[.agg #[.pointer none,.string ⟨#[]⟩,.pointer none],errN 8])∧Bel w w':=by
 have HN:=xh hn
 clear hn
 go_enter Tryz.func64,Tryz.ntmps64
 go_upto_region 1 with fail
 have k1:Bel w (w.alloc (.cells #[.pointer none,.string ⟨#[]⟩,.pointer none] 190)):=Bel.start w _
 have B1:=Blk.new w [.pointer none,.string ⟨#[]⟩,.pointer none] 190
 generalize w.alloc (.cells #[.pointer none,.string ⟨#[]⟩,.pointer none] 190)=w1 at *
 have HB1:=xh B1
 have K1:=xh k1
 have HM:=xh (HN.out w1 k1)
 obtain⟨g,hg⟩:∃g,w.heap.size=g:=⟨_,rfl⟩
 rw[hg]at HB1⊢
 have HG:=xh hg
 clear k1 B1 hg
 go_upto_region 3 with(go_at_call 110;with_reducible refine Calls.mono HM.out ?_;rintro e w2 ⟨rfl,k2⟩)
 have B2:=HB1.out.bel k2
 have c:=B2.cell
 have f:=B2.frozen
 have hl:=B2.lt
 have K2:=xh (K1.out.tr k2)
 clear k2
 have hgw:w.heap.size≤g:=by rw[HG.out];exact Nat.le_refl _
 clear B2
 go_wp2
 refine bodyPost_ret (v:=.tuple #[.agg #[.pointer none,.string ⟨#[]⟩,.pointer none],errN 8]) (by simp[results,Tryz.results64,go_sem,c]) rfl ⟨rfl,?_⟩
 first
  | exact K2.out
  | exact((K2.out.store (p:=⟨g,0,none⟩) hgw _).store (p:=⟨g,1,none⟩) hgw _).store (p:=⟨g,2,none⟩) hgw _
def SplitV (W:World) (v:Value) (l:List (List UInt8)):Prop:=∃p,v=.slice p l.length l.length∧∀j x,l[j]?=some x→∃g,p=some ⟨g,0,none⟩∧W.cell? ⟨g,j,none⟩=some (.string ⟨x.toArray⟩)
def FindRes (A:Adr) (r:Nat×ByteArray×Nat×Nat) (e:Ending):Prop:=e=.returned (spotV A r)
theorem nd_dir (T:List Pn) (n:Nat) (x:Pn) (hx:T[n]?=some x):isDir (nds T) (n+1)=x.dir:=by
 rw[isDir_nds,Nat.add_sub_cancel,hx];rfl
theorem find_ok (tb:Nat) (A:Adr) (T:List Pn) (t:TN) (s:ByteArray) (l:List (List UInt8)) (w:World) (hT:Blk w tb (t.cells A) 185) (ht:PTree w A T) (hsm:∀x∈l,x.length≤1000) (hll:l.length≤1000)
 (hn:∀W,Bel w W→Calls Tryz.prog 110 #[.string s] W λe w'=>(∃v,e=.returned (.tuple #[v,.nilIface])∧SplitV w' v l)∧Bel W w') :
 Calls Tryz.prog 64 #[.pointer (some ⟨tb,0,none⟩),.string s] w λe w'=>FindRes A (walkF (nds T) 1 l) e∧Bel w w':=by
 have HN:=xh hn
 have HT:=xh hT
 have HP:=xh ht
 have HSM:=xh hsm
 have HW:Hid (walkF (nds T) 1 l=contF (nds T) (0,⟨#[]⟩,1) l):=xh (by
  obtain⟨r,h0,_,h1,_⟩:=ht.root
  exact walk_cont _ (by rw[nd_dir T 0 r h0];exact h1) l)
 clear hn hT ht hsm
 go_enter Tryz.func64,Tryz.ntmps64
 go_upto_region 1 with fail
 have k1:Bel w (w.alloc (.cells #[.pointer none,.string ⟨#[]⟩,.pointer none] 190)):=Bel.start w _
 have B1:=Blk.new w [.pointer none,.string ⟨#[]⟩,.pointer none] 190
 generalize w.alloc (.cells #[.pointer none,.string ⟨#[]⟩,.pointer none] 190)=w1 at *
 have HB1:=xh B1
 have K1:=xh k1
 have HM:=xh (HN.out w1 k1)
 obtain⟨g,hg⟩:∃g,w.heap.size=g:=⟨_,rfl⟩
 rw[hg]at HB1⊢
 have HG:=xh hg
 clear k1 B1 hg
 go_upto_region 4 with(go_at_call 110;(with_reducible refine Calls.mono HM.out ?_);rintro e w2 ⟨⟨v,rfl,p,rfl,hcl⟩,k2⟩)
 have c0:w2.cell? ⟨tb,0,none⟩=some (.pointer (A.at_ 1)):=(HT.out.bel (K1.out.tr k2)).cell 0
 have B2:=HB1.out.bel k2
 have K2:=xh (K1.out.tr k2)
 have HB2:=xh B2
 have HCL:=xh hcl
 have hl:=B2.lt
 clear k2 B2 hcl HM HB1
 obtain⟨q1,hq1⟩:∃q,A.at_ 1=q:=⟨_,rfl⟩
 rw[hq1]at c0
 have HQ1:=xh hq1
 clear hq1
 go_upto_region 5 with fail
 have k3:Bel w2 (w2.alloc (.cells #[.pointer none,.string ⟨#[]⟩,.pointer q1] 190)):=Bel.start w2 _
 have B3:=Blk.new w2 [.pointer none,.string ⟨#[]⟩,.pointer q1] 190
 generalize w2.alloc (.cells #[.pointer none,.string ⟨#[]⟩,.pointer q1] 190)=w3 at *
 obtain⟨g8,hg8⟩:∃g,w2.heap.size=g:=⟨_,rfl⟩
 rw[hg8]at B3⊢
 have HG8:=xh hg8
 have hgg:g<g8:=by rw[←hg8];exact hl
 have HB3:Hid (Blk w3 g8 (spotC A 0 ⟨#[]⟩ 1) 190):=xh (by have:=B3;rw[←HQ1.out]at this;exact this)
 have hl3:=B3.lt
 have K3:=xh (K2.out.tr k3)
 have HBG:=xh (HB2.out.bel k3)
 have HK3:=xh k3
 clear hg8 B3 k3 c0 HB2
 go_wp2
 go_loopw [27] (λi wr=>∃(k d n:Nat) (nm:ByteArray),k≤l.length∧i=.int .i64 k∧n≤T.length∧Blk wr g8 (spotC A d nm n) 190∧walkF (nds T) 1 l=contF (nds T) (d,nm,n) (l.drop k)∧Keep (λq=>q=g8) w3 wr) (λi _=>l.length-(intOf i).toNat)
 case atStart=>exact⟨0,0,1,⟨#[]⟩,Nat.zero_le _,rfl,by
  obtain⟨r,h0,_⟩:=HP.out.root
  have:=(List.getElem?_eq_some_iff.1 h0).1
  omega,HB3.out,HW.out,Keep.refl _ _⟩
 case round=>
  obtain⟨k,d,n,nm,hk,rfl,hnT,hB,hw,hkr⟩:=hrel
  have HBR:=xh hB
  have HKR:=xh hkr
  have HWR:=xh hw
  have hlr:=hB.lt
  have c2:wr.cell? ⟨g8,2,none⟩=some (.pointer (A.at_ n)):=hB.cell 2
  have f8:=hB.frozen
  have HBW:Hid (Bel w wr):=xh (Below.trans K3.out (HKR.out.below _ K3.out.size (λq hq=>by have:=HG.out;omega)))
  have HPR:Hid (PTree wr A T):=xh (((HP.out.bel K2.out).bel HK3.out).keep HKR.out (λq hq e=>by have:=(HP.out.bel K2.out).foot_lt hq;have:=HG8.out;omega))
  have BG:=(HBG.out.keep HKR.out (by omega))
  have cg:=BG.cell
  have fg:=BG.frozen
  have hlg:=BG.lt
  have hgw:w.heap.size≤g:=by rw[HG.out];exact Nat.le_refl _
  have HBG4:=xh BG
  clear hB hkr hw BG
  by_cases hlt:k<l.length
  ·obtain⟨gs,rfl,hcs⟩:=HCL.out k l[k] (List.getElem?_eq_getElem hlt)
   have cs:wr.cell? ⟨gs,k,none⟩=some (.string ⟨l[k].toArray⟩):=by
    have hb:=World.block_lt_of_cell? _ _ hcs
    rw[HKR.out.cell ⟨gs,k,none⟩ (Nat.lt_of_lt_of_le hb HK3.out.size) (by simp at hb;have:=HG8.out;simp;omega),HK3.out.cell (p:=⟨gs,k,none⟩) hb]
    exact hcs
   have hd:l.drop k=l[k]::l.drop (k+1):=List.drop_eq_getElem_cons hlt
   have hxs:=HSM.out l[k] (List.getElem_mem hlt)
   have HHD:=xh hd
   generalize l[k]=x at *
   clear hd hcs
   by_cases hn0:n=0
   ·subst hn0
    have HE:Hid (walkF (nds T) 1 l=(0,⟨#[]⟩,0,9)):=xh (by rw[HWR.out,HHD.out];rfl)
    have hat:A.at_ 0=none:=rfl
    rw[hat]at c2
    clear hat
    go_wp2
    refine bodyPost_ret (v:=.tuple #[.agg #[.pointer none,.string ⟨#[]⟩,.pointer none],errN 9]) (by simp[results,Tryz.results64,go_sem,cg]) rfl ⟨?_,?_⟩
    ·unfold FindRes;rw[HE.out];rfl
    ·first
      | exact HBW.out
      | exact((HBW.out.store (p:=⟨g,0,none⟩) hgw _).store (p:=⟨g,1,none⟩) hgw _).store (p:=⟨g,2,none⟩) hgw _
   ·have hat:A.at_ n=some ⟨A.nb n,0,none⟩:=by simp[Adr.at_,hn0]
    rw[hat]at c2
    have hlt1:n-1<T.length:=by omega
    have hx1:=List.getElem?_eq_getElem hlt1
    have hnd:=HPR.out.node (n-1) T[n-1] hx1
    have hdi:=nd_dir T (n-1) T[n-1] hx1
    have hlk:=PTree.lookup (w:=wr.drew) (HPR.out.bel (Bel.drew (Bel.refl wr))) (n-1) T[n-1] hx1
    rw[show n-1+1=n from by omega]at hnd hdi hlk
    generalize T[n-1]=X at *
    have cM:wr.cell? ⟨A.nb n,2,none⟩=some (.map (X.map A n)):=hnd.cell 2
    have HNE:Hid (n≠0):=xh hn0
    cases hxd:X.dir with
    | false=>
      have HE:Hid (walkF (nds T) 1 l=(0,⟨#[]⟩,0,11)):=xh (by rw[HWR.out,HHD.out,contF,if_neg hn0,hdi,hxd];rfl)
      have hm:X.map A n=none:=by unfold Pn.map;rw[hxd];rfl
      rw[hm]at cM
      have HD:=xh (dir_any (A.nb n) none wr cM)
      clear hnd hdi hlk hx1 hat hxd hm hn0 cM
      go_wp2_with (go_at_call 66;with_reducible refine Calls.mono HD.out ?_;rintro e wx ⟨rfl,h⟩;subst h)
      refine bodyPost_ret (v:=.tuple #[.agg #[.pointer none,.string ⟨#[]⟩,.pointer none],errN 11]) (by simp[results,Tryz.results64,go_sem,cg]) rfl ⟨?_,?_⟩
      ·unfold FindRes;rw[HE.out];rfl
      ·first
        | exact HBW.out
        | exact((HBW.out.store (p:=⟨g,0,none⟩) hgw _).store (p:=⟨g,1,none⟩) hgw _).store (p:=⟨g,2,none⟩) hgw _
    | true=>
      have HE:Hid (walkF (nds T) 1 l=contF (nds T) (n,⟨x.toArray⟩,child (nds T) n ⟨x.toArray⟩) (l.drop (k+1))):=xh (by
       rw[HWR.out,HHD.out,contF,if_neg hn0,hdi,hxd];rfl)
      have hm:X.map A n=some (A.mb n):=by unfold Pn.map;rw[hxd];rfl
      rw[hm]at cM
      have HD:=xh (dir_any (A.nb n) (some (A.mb n)) wr cM)
      have hlk2:=hlk hxd ⟨x.toArray⟩ (by show x.toArray.size≤_;simp;unfold maxLen;omega)
      have HCL2:=child_le (nds T) n ⟨x.toArray⟩
      rw[nds_len]at HCL2
      generalize (⟨x.toArray⟩:ByteArray)=xs at *
      generalize child (nds T) n xs=n2 at *
      have hat2:A.ptr n2=.pointer (A.at_ n2):=rfl
      rw[hat2]at hlk2
      clear hnd hdi hlk hx1 hat hxd hm hn0 hat2
      go_upto_region 12 with(go_at_call 66;with_reducible refine Calls.mono HD.out ?_;rintro e wx ⟨rfl,h⟩;subst h)
      go_still_tail 11,(by kernel_rfl)
      change wpList _ _ _ _ _ wr.drew
      have BD:Blk wr.drew g8 (spotC A d nm n) 190:=HBR.out
      have kd:Bel wr wr.drew:=Bel.drew (Bel.refl _)
      have HKD:=xh (HKR.out.tr (Keep.of_bel _ kd))
      generalize wr.drew=wd at *
      have HBD:=xh BD
      clear BD kd hlk2 c2 f8 cg fg hlg hlr
      have hpn:Value.pointer (some ⟨A.nb n,0,none⟩)=A.ptr n:=by simp[Adr.ptr,Adr.at_,HNE.out]
      have HPN:=xh hpn
      clear hpn
      go_wp2_with (refine wpList_store_blk rfl 190 (.tmp 8) (.tmp 54) rfl rfl g8 [.pointer (some ⟨A.nb n,0,none⟩),.string xs,.pointer (A.at_ n2)] (spotC A d nm n) 190 HBD.out rfl rfl (by kernel_rfl) rfl (by intro v hv;simp at hv;rcases hv with rfl|rfl|rfl<;>rfl) ?_;intro w5 B5 K5)
      go_roundw
      case rel=>exact⟨k+1,n,n2,xs,by omega,by go_num,by omega,by have:=B5.out;rw[HPN.out]at this;exact this,HE.out,HKD.out.tr K5⟩
      case measure=>simp[intOf]<;>omega
  ·obtain rfl:k=l.length:=by omega
   have HE:Hid (walkF (nds T) 1 l=(d,nm,n,0)):=xh (by rw[HWR.out,List.drop_length];rfl)
   clear c2 cg fg hlg f8 hlr
   go_wp2_with (first
    | (refine wpList_load_mid rfl 190 (.tmp 8) rfl g8 0 rfl (spotC A d nm n) _ (by have:=HBR.out.range 0;simpa using this) Tryz.underlying190 rfl (by kernel_rfl) ?_)
    | (refine wpList_store_blk rfl 190 (.tmp 4) (.tmp 56) rfl rfl g (spotC A d nm n) _ 190 HBG4.out rfl rfl (by kernel_rfl) rfl (by intro v hv;simp[spotC]at hv;rcases hv with rfl|rfl|rfl<;>rfl) ?_;intro w5 B5 K5))
   have c0:w5.cell? ⟨g,0,none⟩=some (A.ptr d):=B5.out.cell 0
   have c1:w5.cell? ⟨g,1,none⟩=some (.string nm):=B5.out.cell 1
   have c2:w5.cell? ⟨g,2,none⟩=some (A.ptr n):=B5.out.cell 2
   refine bodyPost_ret (v:=.tuple #[.agg #[A.ptr d,.string nm,A.ptr n],.nilIface]) (by simp[results,Tryz.results64,go_sem,c0,c1,c2]) rfl ⟨?_,?_⟩
   ·unfold FindRes;rw[HE.out];rfl
   ·exact Below.trans HBW.out (K5.below _ HBW.out.size (λq hq=>by omega))
theorem find_any (tb:Nat) (A:Adr) (T:List Pn) (t:TN) (s:ByteArray) (w:World) (hT:Blk w tb (t.cells A) 185) (ht:PTree w A T) (hs:s.size≤1000000) (hmx:MaxVar w) :
 Calls Tryz.prog 64 #[.pointer (some ⟨tb,0,none⟩),.string s] w λe w'=>FindRes A (docWalk (nds T) s.data.toList) e∧Bel w w':=by
 have hno:∀(h:∀r,s.data.toList=47::r→60<s.size),docWalk (nds T) s.data.toList=(0,⟨#[]⟩,0,8):=λh=>by
  unfold docWalk
  cases hd:s.data.toList with
  | nil=>rfl
  | cons b r=>
    rw[pathOf_cons,if_neg]
    rintro⟨rfl,h2⟩
    have:=h r hd
    have e:s.size=r.length+1:=by have:=congrArg List.length hd;simpa using this
    omega
 by_cases h:∃r,s.data.toList=47::r∧s.size≤60
 ·obtain⟨r,hr,h60⟩:=h
  have e:s.size=r.length+1:=by have:=congrArg List.length hr;simpa using this
  by_cases hr0:r=[]
  ·subst hr0
   have hd:docWalk (nds T) s.data.toList=walkF (nds T) 1 []:=by unfold docWalk;rw[hr];rfl
   rw[hd]
   refine find_ok tb A T t s [] w hT ht (λx hx=>by cases hx) (by simp) λW hW=>(split_root s W hr).mono ?_
   rintro e w' ⟨rfl,k⟩
   exact⟨⟨_,rfl,none,rfl,λj x hx=>by cases hx⟩,k⟩
  ·have hp:pathOf s.data.toList=if (splitOn 47 r).all nameOk then some (splitOn 47 r)else none:=by
    rw[hr,pathOf_cons,if_pos ⟨rfl,by omega⟩,if_neg hr0]
   cases ha:(splitOn 47 r).all nameOk with
   | false=>
     have hd:docWalk (nds T) s.data.toList=(0,⟨#[]⟩,0,8):=by unfold docWalk;rw[hp,ha];rfl
     rw[hd]
     refine(find_err tb s w λW hW=>(split_some s r W (hmx.bel hW) hr hr0 h60).mono ?_).mono ?_
     ·rintro e w' ⟨k,h1,_⟩
      exact⟨h1 ha,k⟩
     ·rintro e w' ⟨rfl,k⟩
      exact⟨rfl,k⟩
   | true=>
     have hd:docWalk (nds T) s.data.toList=walkF (nds T) 1 (splitOn 47 r):=by unfold docWalk;rw[hp,ha];rfl
     rw[hd]
     refine find_ok tb A T t s _ w hT ht (λx hx=>?_) (by have:=splitOn_len 47 r;omega) λW hW=>(split_some s r W (hmx.bel hW) hr hr0 h60).mono ?_
     ·have:=List.all_eq_true.1 ha x hx
      simp only[nameOk,Bool.and_eq_true,decide_eq_true_eq]at this
      omega
     ·rintro e w' ⟨k,_,h2⟩
      obtain⟨rfl,hB⟩:=h2 ha
      refine⟨⟨_,rfl,_,rfl,λj x hx=>⟨_,rfl,?_⟩⟩,k⟩
      rw[hB.cell,List.getElem?_map,hx]
      rfl
 ·have h2:∀r,s.data.toList=47::r→60<s.size:=λr hr=>Classical.byContradiction λhc=>h ⟨r,hr,by omega⟩
  rw[hno h2]
  refine(find_err tb s w λW hW=>split_no s W h2).mono ?_
  rintro e w' ⟨rfl,k⟩
  exact⟨rfl,k⟩
end Go.Proofs.YtjdaddmjpicflaaGreatDoor
