/-.-/
import Derived.Test.YtcnjjchlebmfiaaGreatDoorP00
import Derived.WalkKit
import Derived.Maps.Own
import Derived.Deep.Draws
import Derived.Great.BuildSlice
import Derived.Deep.Onto
import Derived.Test.YtcnjjchlebmfiaaGreatDoorProg
import Derived.Stop.Asserts
import Derived.RowKitTokens
set_option linter.all false
set_option maxRecDepth 100000
set_option maxHeartbeats 16000000
namespace Go.Proofs.YtcnjjchlebmfiaaGreatDoor
section
open Go.RowKit
def Blk(w:World)(b:Nat)(c:List Value)(t:TypeId):Prop:=w.heap[b]?=some (.cells c.toArray t (0,0))
theorem Blk.lt{w:World}{b:Nat}{c:List Value}{t:TypeId}(h:Blk w b c t):b<w.heap.size:=(Array.getElem?_eq_some_iff.1 h).1
theorem Blk.cell{w:World}{b:Nat}{c:List Value}{t:TypeId}(h:Blk w b c t)(o:Nat):w.cell? (b,o)=c[o]?:=by
 unfold Blk at h;simp[World.cell?,h]
theorem Blk.c{w:World}{b:Nat}{c:List Value}{t:TypeId}(h:Blk w b c t)(o:Nat){v:Value}(e:c[o]?=some v):w.cell? ⟨b,o,none⟩=some v:=(h.cell o).trans e
theorem Blk.frozen{w:World}{b:Nat}{c:List Value}{t:TypeId}(h:Blk w b c t)(o:Nat):w.frozen? (b,o)=false:=by
 unfold Blk at h;simp only[World.frozen?,h]
 simp
theorem Blk.below{w w':World}{B b:Nat}{c:List Value}{t:TypeId}(h:Blk w b c t)(hb:Below B w w')(hB:b<B):Blk w' b c t:=(hb.block b hB).trans h
theorem Blk.new(w:World)(c:List Value)(t:TypeId):Blk (w.alloc (.cells c.toArray t)) w.heap.size c t:=by
 show(w.heap.push _)[w.heap.size]?=_
 simp
theorem Blk.dF(w:World)(c:List Value)(t:TypeId){n:Nat}(hn:w.heap.size=n):Blk (w.alloc (.cells c.toArray t)) n c t:=hn▸Blk.new w c t
theorem Blk.alloc{w:World}{b:Nat}{c:List Value}{t:TypeId}(h:Blk w b c t)(o:Obj):Blk (w.alloc o) b c t:=
 (Below.heap_alloc w o b h.lt).trans h
theorem Blk.setCell{w:World}{b o:Nat}{c:List Value}{t:TypeId}(h:Blk w b c t)(v:Value):Blk (w.setCell (b,o) v) b (c.set o v) t:=by
 unfold Blk at *
 simp only[World.setCell,Array.getElem?_modify,h]
 simp
theorem Blk.aB{w:World}{b:Nat}{a:Addr}{c:List Value}{t:TypeId}(h:Blk w b c t)(hne:b≠a.block)(v:Value):Blk (w.setCell a v) b c t:=
 (Below.heap_setCell w a v b hne).trans h
theorem Blk.drew{w:World}{b:Nat}{c:List Value}{t:TypeId}(h:Blk w b c t):Blk w.drew b c t:=h
def Bel(w w1:World):Prop:=Below w.heap.size w w1
instance (v w):CoeDep Z (.b v w) (Ending→World→Prop):=⟨λe w'=>e=.returned v∧Bel w w'⟩
theorem Bel.refl(w:World):Bel w w:=Below.refl _ _
theorem Bel.tr{w w1 w2:World}(h:Bel w w1)(k:Bel w1 w2):Bel w w2:=Below.trans h (Below.mono k h.size)
theorem Bel.ac{w w1:World}(h:Bel w w1)(o:Obj):Bel w (w1.alloc o):=Below.alloc h h.size o
theorem Bel.start(w:World)(o:Obj):Bel w (w.alloc o):=(Below.refl _ _).alloc (bM _) o
theorem Bel.le{w w1:World}(h:Bel w w1):w.heap.size≤w1.heap.size:=h.size
theorem Bel.store{w w1:World}(h:Bel w w1){p:Addr}(hp:w.heap.size≤p.block)(u:Value):Bel w (w1.setCell p u):=Below.setCell h hp u
theorem Bel.drew{w w1:World}(h:Bel w w1):Bel w w1.drew:=Below.drew h
theorem Blk.bel{w w':World}{b:Nat}{c:List Value}{t:TypeId}(h:Blk w b c t)(hb:Bel w w'):Blk w' b c t:=h.below hb h.lt
end
section
open Go.RowKit Go.MapKept Go.Maps
open Go.ChangeMaps (setBlock heap_setBlock_same heap_setBlock_other)
structure kZ(P:Program)(k:TypeId)(α:Type) where
 kf:α→Value
 kl:α→Lit
 ok:α→Prop
 read:∀a,ok a→keyOf P k (kf a)=some (kl a)
 inj:∀a b,kf a=kf b→a=b
def Vh{P:Program}{k:TypeId}(hk:P.underlying k=some (.int .i64)):kZ P k Int:=
 ⟨.int .i64,.int .i64,λa=>(Lit.int .i64 a).wf=true,λ_ h=>keyOf_int_mk hk h,λa b h=>by injection h⟩
section
variable {P:Program} {k:TypeId} {α:Type}
def Mp(E:kZ P k α)(w:World)(b:Nat)(kv:List (α×Value)):Prop:=
 ∃es clock,w.heap[b]?=some (.map es clock)∧Stamped es clock∧es.toList.map (λe=>(e.key,e.val))=kv.map (λp=>(E.kf p.1,p.2))∧∀p∈kv,E.ok p.1
variable {E:kZ P k α} {w:World} {b:Nat} {kv:List (α×Value)}
theorem Mp.lt(h:Mp E w b kv):b<w.heap.size:=by
 obtain⟨es,clock,hb,_⟩:=h;exact(Array.getElem?_eq_some_iff.1 hb).1
theorem Mp.of_block{w':World}(h:Mp E w b kv)(hb:w'.heap[b]?=w.heap[b]?):Mp E w' b kv:=by
 obtain⟨es,clock,h1,h2⟩:=h;exact⟨es,clock,hb.trans h1,h2⟩
theorem Mp.bel{w':World}(h:Mp E w b kv)(hb:Bel w w'):Mp E w' b kv:=h.of_block (hb.block b h.lt)
theorem Mp.alloc(h:Mp E w b kv)(o:Obj):Mp E (w.alloc o) b kv:=h.bel (Bel.start w o)
theorem Mp.setCell{a:Addr}(h:Mp E w b kv)(v:Value):Mp E (w.setCell a v) b kv:=by
 obtain⟨es,clock,h1,h2⟩:=h;refine⟨es,clock,?_,h2⟩;by_cases e:b=a.block
 ·subst e
  simp only[World.setCell,Array.getElem?_modify,h1]
  simp
 ·exact(Below.heap_setCell w a v b e).trans h1
theorem Mp.new(E:kZ P k α)(w:World):Mp E (w.alloc (.map #[] 0)) w.heap.size []:=
 ⟨#[],0,(heap_alloc w _).1,stamped_empty 0,rfl,λ_ h=>by cases h⟩
theorem Mp.nodup(h:Mp E w b kv):(kv.map Prod.fst).Nodup:=by
 obtain⟨es,clock,h1,⟨_,_,h2⟩,h3,_⟩:=h;have e:es.toList.map (·.key)=(kv.map Prod.fst).map E.kf:=by
  have:=congrArg (List.map Prod.fst) h3
  simpa [List.map_map,Function.comp_def]using this
 rw[e]at h2;exact List.Pairwise.of_map E.kf (λa b hab e=>hab (congrArg E.kf e)) h2
theorem Mp.Xw(h:Mp E w b kv):∀p∈kv,E.ok p.1:=by
 obtain⟨es,clock,_,_,_,h⟩:=h;exact h
theorem Ur{es:Array MapEntry}(h3:es.toList.map (λe=>(e.key,e.val))=kv.map (λp=>(E.kf p.1,p.2)))(h4:∀p∈kv,E.ok p.1):∀e∈es.toList,∃l,keyOf P k e.key=some l:=by
 intro e he;have hm:(e.key,e.val)∈kv.map (λp=>(E.kf p.1,p.2)):=by rw[←h3];exact List.mem_map.2 ⟨e,he,rfl⟩
 obtain⟨p,hp,hpe⟩:=List.mem_map.1 hm;have:e.key=E.kf p.1:=by injection hpe with h1 _;exact h1.symm
 exact⟨_,by rw[this];exact E.read _ (h4 p hp)⟩
theorem Mp.find(K:Keyed P k)(h:Mp E w b kv)(a:α)(ha:E.ok a):∃es clock,w.heap[b]?=some (.map es clock)∧Stamped es clock∧es.toList.map (λe=>(e.key,e.val))=kv.map (λp=>(E.kf p.1,p.2))∧
 ((a∉kv.map Prod.fst∧(∀e∈es.toList,e.key≠E.kf a)∧∀w,(Instr.findKey k (E.kf a) es.toList).run P w=.ok none w)∨
  ∃j v,(kv.map Prod.fst)[j]?=some a∧kv[j]?=some (a,v)∧(∃e,es[j]?=some e∧e.key=E.kf a)∧∀w,(Instr.findKey k (E.kf a) es.toList).run P w=.ok (some (j,v)) w):=by
 have Nv:=h.nodup;obtain⟨es,clock,h1,h2,h3,h4⟩:=h;refine⟨es,clock,h1,h2,h3,?_⟩;have hk:=Ur h3 h4;have Yj:∀(j:Nat) (e:MapEntry),es[j]?=some e→∃p,kv[j]?=some p∧e.key=E.kf p.1∧e.val=p.2:=by
  intro j e he;have h5:(es.toList.map (λe=>(e.key,e.val)))[j]?=some (e.key,e.val):=by
   rw[fA,Array.getElem?_toList,he];rfl
  rw[h3,fA]at h5;obtain⟨p,hp,hpe⟩:=Option.map_eq_some_iff.1 h5
  injection hpe with e1 e2
  exact⟨p,hp,e1.symm,e2.symm⟩
 rcases K.find w (E.read a ha) es.toList hk with⟨h5,h6⟩|⟨j,e,h5,h6,h7⟩
 ·left
  refine⟨?_,h6,λw'=>?_⟩
  ·intro hm
   obtain⟨p,hp,rfl⟩:=List.mem_map.1 hm;have hm:(E.kf p.1,p.2)∈es.toList.map (λe=>(e.key,e.val)):=by rw[h3];exact List.mem_map.2 ⟨p,hp,rfl⟩
   obtain⟨e,he,hee⟩:=List.mem_map.1 hm
   injection hee with e1 _
   exact h6 e he e1
  ·rcases K.find w' (E.read a ha) es.toList hk with⟨h5',_⟩|⟨j,e,_,h6',h7'⟩
   ·exact h5'
   ·exact absurd h7' (h6 e (List.mem_of_getElem? h6'))
 ·right
  rw[Array.getElem?_toList]at h6;obtain⟨p,hp,hpk,hpv⟩:=Yj j e h6;have hpa:p.1=a:=E.inj _ _ (hpk.symm.trans h7);refine⟨j,e.val,by rw[fA,hp];simp[hpa],by rw[hp,hpv,←hpa],⟨e,h6,h7⟩,λw'=>?_⟩;rcases K.find w' (E.read a ha) es.toList hk with⟨_,h6'⟩|⟨j',e',h5',h6',h7'⟩
  ·exact absurd h7 (h6' e (by rw[←Array.getElem?_toList]at h6;exact List.mem_of_getElem? h6))
  ·rw[Array.getElem?_toList]at h6'
   obtain⟨p',hp',hpk',_⟩:=Yj j' e' h6';have ah9:p'.1=a:=E.inj _ _ (hpk'.symm.trans h7');have hj:j'=j:=by
    have g1:(kv.map Prod.fst)[j']?=some a:=by rw[fA,hp'];simp[ah9]
    have g2:(kv.map Prod.fst)[j]?=some a:=by rw[fA,hp];simp[hpa]
    have l1:=(bV g1).1;exact(List.getElem?_inj l1 Nv).1 (g1.trans g2.symm)
   subst hj;rw[h6]at h6';cases h6'
   exact h5'
variable [DecidableEq α]
def mQ(kv:List (α×Value))(a:α)(v:Value):List (α×Value):=
 if a∈kv.map Prod.fst then kv.map (λp=>if p.1=a then(a,v)else p)else kv++[(a,v)]
def bQ(kv:List (α×Value))(a:α):Option Value:=(kv.find? λp=>decide (p.1=a)).map Prod.snd
theorem AV{a:α}(h:a∉kv.map Prod.fst):bQ kv a=none:=by
 unfold bQ;rw[Option.map_eq_none_iff,List.find?_eq_none];intro p hp;simp only[decide_eq_true_eq]
 rintro rfl;exact h (List.mem_map.2 ⟨p,hp,rfl⟩)
theorem jL{a:α}{v:Value}(hn:(kv.map Prod.fst).Nodup)(h:(a,v)∈kv):bQ kv a=some v:=by
 induction kv with
 | nil=>cases h
 | cons p r ih=>
   simp only[List.map_cons,List.nodup_cons]at hn
   unfold bQ;rw[List.find?_cons];by_cases hp:p.1=a
   ·simp only[hp,decide_true,Option.map_some]
    rcases List.mem_cons.1 h with rfl|h
    ·rfl
    ·exact absurd (List.mem_map.2 ⟨(a,v),h,hp.symm⟩) hn.1
   ·simp only[hp,decide_false]
    rcases List.mem_cons.1 h with rfl|h
    ·exact absurd rfl hp
    ·exact ih hn.2 h
variable {t e:TypeId}
theorem Mp.lookup(K:Keyed P k)(ht:P.underlying t=some (.map k e))(h:Mp E w b kv)(a:α)(ha:E.ok a)(c:Bool){z:Value}(hz:(zeroValue e).run P w=.ok z w) :
 (Instr.lookup t (.map (some b)) (E.kf a) c).run P w=.ok (if c then .tuple #[(bQ kv a).getD z,.bool (bQ kv a).isSome]else(bQ kv a).getD z) w:=by
 have Nv:=h.nodup;obtain⟨es,clock,h1,h2,h3,h4⟩:=h.find K a ha;rcases h4 with⟨hn,_,hr⟩|⟨j,v,hj,hjv,_,hr⟩
 ·rw[AV hn]
  simp[Instr.lookup,run_underlying ht,MapKept.run_getObj_map h1,K.check w _ (E.read a ha),hr,hz,Result.andThen]
 ·rw[jL Nv (List.mem_of_getElem? hjv)]
  simp[Instr.lookup,run_underlying ht,MapKept.run_getObj_map h1,K.check w _ (E.read a ha),hr,Result.andThen]
theorem Mp.update(K:Keyed P k)(ht:P.underlying t=some (.map k e))(h:Mp E w b kv)(a:α)(ha:E.ok a)(v:Value) :
 ∃es' clock',(Instr.mapUpdate t (.map (some b)) (E.kf a) v).run P w=.ok () (setBlock w b (.map es' clock'))∧Mp E (setBlock w b (.map es' clock')) b (mQ kv a v):=by
 have Nv:=h.nodup;have hok:=h.Xw;obtain⟨es,clock,h1,h2,h3,h4⟩:=h.find K a ha;rcases h4 with⟨hn,hne,hr⟩|⟨j,v0,hj,hjv,⟨e0,he0,hek⟩,hr⟩
 ·refine⟨es.push ⟨E.kf a,v,clock⟩,clock+1,?_,_,_,heap_setBlock_same h1 _,stamped_push h2 hne,?_,?_⟩
  ·simp[Instr.mapUpdate,run_underlying ht,MapKept.run_getObj_map h1,K.check w false (E.read a ha),hr,MapKept.run_setObj_map _ h1,Result.andThen,setBlock]
  ·simp[mQ,hn,h3]
  ·intro p hp
   simp only[mQ,hn,if_false,List.mem_append,List.mem_singleton]at hp
   rcases hp with hp|rfl
   ·exact hok p hp
   ·exact ha
 ·have hm:a∈kv.map Prod.fst:=List.mem_of_getElem? hj
  refine⟨es.modify j λx=>{x with key:=E.kf a,val:=v},clock,?_,_,_,heap_setBlock_same h1 _,stamped_modify h2 j _ (λ_ _=>rfl) (λx _ hx=>by rw[he0]at hx;cases hx;exact hek.symm),?_,?_⟩
  ·simp[Instr.mapUpdate,run_underlying ht,MapKept.run_getObj_map h1,K.check w false (E.read a ha),hr,he0,hek,K.stays w (E.read a ha),MapKept.run_setObj_map _ h1,Result.andThen,setBlock]
  ·have hj':j<kv.length:=(bV hjv).1
   apply List.ext_getElem?
   intro i;have qP:(es.toList.map (λe=>(e.key,e.val)))[i]?=(kv.map (λp=>(E.kf p.1,p.2)))[i]?:=by rw[h3]
   simp only[fA,Array.getElem?_toList]at qP
   simp only[mQ,hm,if_true,fA,Array.getElem?_toList,Array.getElem?_modify,Option.map_map]
   by_cases hij:j=i
   ·subst hij
    simp only[if_true,he0,hjv,Option.map_some,Function.comp_def]
   ·simp only[hij,if_false]
    rw[qP];cases hki:kv[i]? with
    | none=>rfl
    | some p=>
      have hpa:¬p.1=a:=by
       intro e;have g1:(kv.map Prod.fst)[i]?=some a:=by rw[fA,hki];simp[e]
       have l1:=(bV hj).1;exact hij ((List.getElem?_inj l1 Nv).1 (hj.trans g1.symm))
      simp[hpa]
  ·intro p hp
   simp only[mQ,hm,if_true,List.mem_map]at hp
   obtain⟨q,hq,rfl⟩:=hp;by_cases hqa:q.1=a
   ·simpa [hqa]using ha
   ·simpa [hqa]using hok q hq
theorem yH(kv:List (α×Value))(a:α)(v:Value):bQ (mQ kv a v) a=some v:=by
 unfold mQ;split
 ·rename_i hm
  unfold bQ
  induction kv with
  | nil=>cases hm
  | cons p r ih=>
    by_cases hp:p.1=a
    ·simp[List.find?_cons,hp]
    ·simp only[List.map_cons,List.mem_cons]at hm
     rcases hm with e|hm
     ·exact absurd e.symm hp
     ·simp only[List.map_cons,hp,if_false,List.find?_cons,decide_false]
      exact ih hm
 ·rename_i hm
  unfold bQ;rw[List.find?_append];have:(kv.find? λp=>decide (p.1=a))=none:=by
   rw[List.find?_eq_none];intro p hp;simp only[decide_eq_true_eq]
   rintro rfl;exact hm (List.mem_map.2 ⟨p,hp,rfl⟩)
  simp[this]
theorem xq(kv:List (α×Value)){a c:α}(h:c≠a)(v:Value):bQ (mQ kv a v) c=bQ kv c:=by
 unfold mQ;split
 ·unfold bQ
  induction kv with
  | nil=>rfl
  | cons p r ih=>
    by_cases hp:p.1=a
    ·have h1:¬a=c:=λe=>h e.symm
     by_cases hm:a∈r.map Prod.fst
     ·simp only[List.map_cons,hp,if_true,List.find?_cons,h1,decide_false];exact ih hm
     ·simp only[List.map_cons,hp,if_true,List.find?_cons,h1,decide_false]
      congr 1
      have:r.map (λp=>if p.1=a then(a,v)else p)=r:=by
       conv=>rhs;rw[←List.map_id r]
       apply List.map_congr_left
       intro q hq;have:¬q.1=a:=λe=>hm (List.mem_map.2 ⟨q,hq,e⟩);simp[this]
      rw[this]
    ·by_cases hc:p.1=c
     ·have h1:¬c=a:=h
      simp[List.find?_cons,hc,h1]
     ·rename_i hm
      simp only[List.map_cons,List.mem_cons]at hm
      rcases hm with e|hm
      ·exact absurd e.symm hp
      ·simp only[List.map_cons,hp,if_false,List.find?_cons,hc,decide_false]
       exact ih hm
 ·unfold bQ
  rw[List.find?_append];have h1:¬a=c:=λe=>h e.symm;simp[h1]
end
end
section
open Go.RowKit
open Go.ChangeMaps (setBlock heap_setBlock_same heap_setBlock_other)
structure Keep(S:Nat→Prop)(w w':World):Prop where
 os:w'.os=w.os
 tape:w'.tape=w.tape
 output:w'.output=w.output
 size:w.heap.size≤w'.heap.size
 block:∀k,k<w.heap.size→¬S k→w'.heap[k]?=w.heap[k]?
variable {S:Nat→Prop} {w w' w'':World}
theorem Keep.refl(S:Nat→Prop)(w:World):Keep S w w:=⟨rfl,rfl,rfl,bM _,λ_ _ _=>rfl⟩
theorem Keep.tr(h:Keep S w w')(k:Keep S w' w''):Keep S w w'':=
 ⟨k.os.trans h.os,k.tape.trans h.tape,k.output.trans h.output,bU h.size k.size,λi hi hs=>(k.block i (Nat.lt_of_lt_of_le hi h.size) hs).trans (h.block i hi hs)⟩
theorem Keep.of_bel(S:Nat→Prop)(h:Bel w w'):Keep S w w':=⟨h.os,h.tape,h.output,h.size,λk hk _=>h.block k hk⟩
theorem Keep.dY(h:Keep S w w'){S':Nat→Prop}(k:Keep S' w' w'')(hs:∀i,S' i→S i∨w.heap.size≤i):Keep S w w'':=
 ⟨k.os.trans h.os,k.tape.trans h.tape,k.output.trans h.output,bU h.size k.size,λi hi hs'=>(k.block i (Nat.lt_of_lt_of_le hi h.size) (λh1=>by rcases hs i h1 with h2|h2;exact hs' h2;omega)).trans (h.block i hi hs')⟩
theorem Keep.below(h:Keep S w w')(B:Nat)(hB:B≤w.heap.size)(hs:∀k,S k→B≤k):Below B w w':=
 ⟨h.os,h.tape,h.output,h.size,λk hk=>h.block k (Nat.lt_of_lt_of_le hk hB) λh1=>by have:=hs k h1;omega⟩
theorem Keep.setBlock{b:Nat}{es:Array MapEntry}{clock:Nat}(hb:w.heap[b]?=some (.map es clock))(o:Obj):Keep (λk=>k=b) w (setBlock w b o):=
 ⟨rfl,rfl,rfl,by simp[Go.ChangeMaps.setBlock],λk _ hk=>heap_setBlock_other hb o (λe=>hk e)⟩
theorem Keep.mono(h:Keep S w w'){S':Nat→Prop}(hs:∀k,S k→S' k):Keep S' w w':=⟨h.os,h.tape,h.output,h.size,λk hk hn=>h.block k hk λh1=>hn (hs k h1)⟩
theorem Keep.cell(h:Keep S w w')(a:Addr)(ha:a.block<w.heap.size)(hs:¬S a.block):w'.cell? a=w.cell? a:=by
 simp only[World.cell?,h.block a.block ha hs]
theorem Blk.keep{b:Nat}{c:List Value}{t:TypeId}(hb:Blk w b c t)(h:Keep S w w')(hs:¬S b):Blk w' b c t:=(h.block b hb.lt hs).trans hb
theorem aj(h:Bel w w')(n:Nat):Bel w (w'.drewN n):=⟨h.os,h.tape,h.output,h.size,h.block⟩
theorem iQ{p:Nat→Prop}{k:Nat}(h:∀j,j<k→p j)(hk:p k):∀j,j<k+1→p j:=λj hj=>by
 by_cases e:j=k
 ·exact e▸hk
 ·exact h j (by omega)
end
section
theorem nC(place:Nat→Option (Nat×Nat))(pre mid post:List Value)(i:Nat)(v:Value)(rest:List (Nat×Value))(hp:place i=some (pre.length,v.cells.size))(hm:mid.length=v.cells.size) :
 Instr.fill place (pre++(mid++post)).toArray ((i,v)::rest)=Instr.fill place (pre++(v.cells.toList++post)).toArray rest:=by
 rw[Instr.fill,hp];simp only
 rw[if_neg (by simp;omega)];congr 1
 rw[←Array.foldl_toList,Array.toList_zipIdx];obtain⟨h1,h2⟩:=Great.foldl_set pre.length v.cells.toList 0 (pre++(mid++post)).toArray;apply Array.ext_getElem?
 intro k;have:=h2 k;rw[this];simp only[Nat.add_zero,Array.length_toList,List.size_toArray,List.length_append,List.getElem?_toArray]
 by_cases hk:pre.length≤k
 ·rw[List.getElem?_append_right hk,List.getElem?_append_right hk]
  by_cases hk2:k-pre.length<v.cells.size
  ·rw[if_pos (by omega),List.getElem?_append_left (by simpa using hk2)]
  ·rw[if_neg (by omega),List.getElem?_append_right (by omega),List.getElem?_append_right (by simp;omega)]
   simp[hm]
 ·rw[if_neg (by omega),List.getElem?_append_left (by omega),List.getElem?_append_left (by omega)]
theorem info_of{P:Program}{t:TypeId}{n b:Nat}(h:(P.info? t).map (λi=>(i.size,i.bytes,(i.zero.map (·.cells.size))))=some (n,b,some n)) :
 ∃i z,P.info? t=some i∧i.zero=some z∧i.size=n∧i.bytes=b∧z.cells.size=n:=by
 cases hi:P.info? t with
 | none=>rw[hi]at h;cases h
 | some i=>
   rw[hi]at h;simp only[Option.map_some,Option.some.injEq,Prod.mk.injEq]at h
   cases hz:i.zero with
   | none=>rw[hz]at h;simp at h
   | some z=>
     rw[hz]at h;simp only[Option.map_some,Option.some.injEq]at h
     exact⟨i,z,rfl,hz,h.1,h.2.1,h.2.2⟩
theorem Hu{P:Program}{t:TypeId}{n b:Nat}(h:(P.info? t).map (λi=>(i.size,i.bytes,(i.zero.map (·.cells.size))))=some (n,b,some n)){fs:List Field}(hu:P.underlying t=some (.struct fs.toArray)){places:List (Nat×Nat)}
 (hp:fs.mapM (λf=>(P.info? f.type).map λi=>(f.offset,i.size))=some places)(parts:List (Nat×Value))(r:Array Value)(hr:∀z:List Value,z.length=n→Instr.fill (places.toArray[·]?) z.toArray parts=some r):P.built t parts=some r:=by
 obtain⟨i,z,hi,hz,h1,h2,h3⟩:=info_of h;unfold Program.built;rw[hi,hu];simp only[hz,hp]
 have:=hr z.cells.toList (by simpa using h3)
 simpa using this
theorem Cc{α:Type}(z:List α)(n m:Nat)(h:z.length=n+m):∃a b,z=a++b∧a.length=n∧b.length=m:=
 ⟨z.take n,z.drop n,(List.take_append_drop n z).symm,by simp;omega,by simp;omega⟩
theorem au{P:Program}{w:World}{ops:Array Oper}{rest:List Oper}{o:Oper}{a:Act}{Q:Exit→Act→World→Prop}(hg:o.guard=none)(t e:TypeId)(x:Operand)(ho:o.op=.buildSlice t 1 #[(0,x)])
 (cs:List Value){b:Nat}(hx:(a.eval x).cells=cs.toArray)(hu:P.underlying t=some (.slice e))(h:(P.info? e).map (λi=>(i.size,i.bytes,(i.zero.map (·.cells.size))))=some (cs.length,b,some cs.length))(hs:0<cs.length)(hb:cs.length≤2^24)
 (hk:∀w',Hid (w'.heap[w.heap.size]?=some (.cells cs.toArray e (0,0)))→Go.RowKit.Below w.heap.size w w'→wpList P ops Q rest (a.put o.dst (.slice (w.heap.size,0) 1 1)) w'):wpList P ops Q (o::rest) a w:=by
 obtain⟨i,z,hi,hz,h1,h2,h3⟩:=info_of h;refine wpList_buildSlice hg t e 1 #[(0,x)] ho cs.toArray i z hu hi hz (by rw[h1];omega) (by rw[h1];omega) ?_ ?_
 ·simp only[Nat.one_mul,List.map_toArray,List.map_cons,List.map_nil]
  obtain⟨zs,hzs⟩:∃zs:List Value,(Array.range i.size).map (z.cells[·% z.cells.size]!)=zs.toArray:=⟨_,(Array.toArray_toList).symm⟩;have hl:zs.length=cs.length:=by have:=congrArg Array.size hzs;simpa [h1]using this.symm
  rw[hzs];have:=nC (λk=>some (k*i.size,i.size)) [] zs [] 0 (a.eval x) [] (by simp[hx,h1]) (by rw[hl,hx];simp)
  simpa [hx,Instr.fill]using this
 ·exact hk _ (xh (heap_alloc_new w _)) ((Go.RowKit.Below.refl _ w).alloc (bM _) _)
end
section
open Go.RowKit
variable {w w':World} {base:Nat} {e:TypeId} {size:Nat} {v:Value} {n:Nat} {xs:List Value}
theorem aO(h:w.ownsRow base e size v n xs)(hb:Bel w w'):w'.ownsRow base e size v n xs:=by
 refine⟨h.1,?_⟩;rcases h.2 with h|⟨g,cap,cur,h1,h2,h3,h4⟩
 ·exact .inl h
 ·exact .inr ⟨g,cap,cur,h1,h2,(hb.block g (Array.getElem?_eq_some_iff.1 h3).1).trans h3,h4⟩
theorem dG{S:Nat→Prop}(h:w.ownsRow base e size v n xs)(hb:Keep S w w')(hs:∀g,base≤g→¬S g):w'.ownsRow base e size v n xs:=by
 refine⟨h.1,?_⟩;rcases h.2 with h|⟨g,cap,cur,h1,h2,h3,h4⟩
 ·exact .inl h
 ·exact .inr ⟨g,cap,cur,h1,h2,(hb.block g (Array.getElem?_eq_some_iff.1 h3).1 (hs g h2)).trans h3,h4⟩
theorem aG(h:w.ownsRow base e size v n xs):∃p cap,v=.slice p n cap∧n≤cap∧cap≤maxLen∧(n=0∧p=none∧cap=0∨∃g,p=some ⟨g,0,none⟩∧base≤g∧g<w.heap.size∧(∀j,j<xs.length→w.cell? ⟨g,j,none⟩=xs[j]?)∧(∀j,w.frozen? ⟨g,j,none⟩=false)):=by
 rcases h.2 with⟨rfl,rfl⟩|⟨g,cap,cur,rfl,hg,hb,hn,hc,_,ht⟩
 ·exact⟨none,0,rfl,bM _,Nat.zero_le _,.inl ⟨rfl,rfl,rfl⟩⟩
 ·refine⟨_,cap,rfl,hn,hc,.inr ⟨g,rfl,hg,(Array.getElem?_eq_some_iff.1 hb).1,λj hj=>?_,λj=>?_⟩⟩
  ·have hj':j<n*size:=by
    rw[←ht,List.length_take]at hj;exact(Nat.lt_min.1 hj).1
   simp only[World.cell?,hb]
   rw[←ht,List.getElem?_take,if_pos hj'];simp
  ·simp only[World.frozen?,hb]
   simp
theorem grown_keep(hg:w.grownBy w' v.ownBlock)(h:w.ownsRow base e size v n xs):Keep (λi=>base≤i) w w':=
 ⟨hg.os,hg.tape,hg.output,hg.size,λk hk hn=>hg.block k hk λe=>hn (by
   rcases h.2 with⟨rfl,_⟩|⟨g,cap,cur,rfl,h2,_⟩
   ·cases e
   ·cases e;exact h2)⟩
theorem bu{P:Program}{ops:Array Oper}{rest:List Oper}{o:Oper}{a:Act}{Q:Exit→Act→World→Prop}(hgd:o.guard=none)(s x:Operand)(t:TypeId)
 (ho:o.op=.call {callee:=.builtin .append,args:= #[s,x],argTypes:= #[t,t]}){bytes:Nat}(ht:P.underlying t=some (.slice e))
 (hi:(P.info? e).map (λi=>(i.size,i.bytes,(i.zero.map (·.cells.size))))=some (size,bytes,some size))(hsz:0<size)
 (hs:a.eval s=v)(hown:w.ownsRow base e size v n xs)(g:Nat)(cs:List Value)(t':TypeId)(hx:a.eval x=.slice (g,0) 1 1)(hB:w.heap[g]?=some (.cells cs.toArray t' (0,0)))(hl:cs.length=size)(h1:∀u∈cs,u.oneCell'=true)
 (h63:n+1≤maxLen)(hbytes:(n+1)*bytes≤140737488355328)(hbase:base≤w.heap.size)
 (h:∀v' w',w'.ownsRow base e size v' (n+1) (xs++cs)→Keep (λi=>base≤i) w w'→wpList P ops Q rest (a.put o.dst v') w'):wpList P ops Q (o::rest) a w:=by
 obtain⟨i,z,hi,hz,e1,e2,e3⟩:=info_of hi;refine wpList_append_own w hgd s x t ho base e i z size bytes ht hi hz e1 e2 e3 hsz v n xs hs hown ⟨g,0,none⟩ 1 1 cs hx (by omega) (λj u hj=>?_) h1 h63 hbytes hbase λv' w' k1 k2 _=>h v' w' k1 (grown_keep k2 hown);rw[show(⟨g,0,none⟩:Addr).add j=⟨g,j,none⟩from by unfold Addr.add;split<;>simp_all];simp only[World.cell?,hB]
 simpa using hj
end
section
open Go.RowKit
section
variable {P:Program} {w:World}
theorem lK(z:Value)(n:Nat):Builtin.zeroCells #[z] n=(List.replicate n z).toArray:=by
 apply Array.ext'
 simp[Builtin.zeroCells]
 apply List.ext_getElem?
 intro i;simp[List.getElem?_replicate,fA,List.getElem?_range]
 by_cases h:i<n
 ·simp[h,Nat.mod_one]
 ·simp[h]
theorem yK(t u ty e:TypeId)(i:TypeInfo)(z:Value)(ht:P.underlying t=some (.slice e))(hu:P.underlying u=some (.int .i64))(hi:P.info? e=some i)(hz:i.zero=some z)(hzc:z.cells = #[z])(hs:i.size=1)(hb:i.bytes=1)
 (ao:Option Addr)(sLen sCap:Nat)(olds:List Value)(hnone:ao=none→sLen=0)(hlo:olds.length=sLen)(holds:∀b,ao=some b→∀j v,olds[j]?=some v→w.cell? (b.add j)=some v)
 (n:Nat)(h0:0<n)(hg:sCap<sLen+n)(hbig:sLen+n≤1000000000) :
 (Builtin.append_ #[t,u] ty #[(ao,sLen,sCap),.int .i64 n]).run P w =
  .ok (.slice (w.heap.size,0) (sLen+n) (grownCap w (sLen+n) sCap e))
   (w.drew.alloc (.cells (olds++List.replicate (n+(grownCap w (sLen+n) sCap e-(sLen+n))) z).toArray e)):=by
 have hn:¬(sLen+n≤sCap):=by omega
 have hfit:=growslice_fits (need:=sLen+n) (old:=sCap) (bytes:=1) hg (by omega);have h48':¬(281474976710656<Builtin.nextslicecap (sLen+n) sCap):=by omega
 have h63':¬(9223372036854775807<((sLen:Int)+(n:Int))):=by omega
 have hw:IntKind.i64.wrap (n:Int)=n:=by rw[IntKind.wrap_i64];omega
 have hl0:¬((n:Int)<0):=by omega
 have hl1:¬(281474976710656<(n:Int)):=by omega
 have hn0:¬n=0:=by omega
 have hfo:(Builtin.firstCells 1 sLen (.slice ao sLen sCap)).run P w.drew=.ok olds.toArray w.drew:=by
  cases ao with
  | none=>
    have:=hnone rfl;subst this;obtain rfl:olds=[]:=List.eq_nil_of_length_eq_zero hlo;exact run_firstCells_none (P:=P) w.drew 1 0 0 sCap
  | some b=>exact run_firstCells_some (P:=P) w.drew 1 sLen b sLen sCap olds (by omega) (by simpa using holds b rfl)
 simp[Builtin.append_,run_underlying ht,run_underlying hu,sizeOf,typeInfo,zeroValue,hi,hz,hs,hb,asInt,asIntOf,hw,hl0,hl1,hn,hn0,h63',h48',Question.forced,hfo,newRow,grownCap,hzc,lK]
 congr 2
 apply Array.ext'
 simp
theorem xe{ops:Array Oper}{o:Oper}{a:Act}{K:Act→World→Prop}{Q:Exit→Act→World→Prop}{E:Prop}(hgd:o.guard=none)(s x:Operand)(t u e:TypeId)
 (ho:o.op=.call {callee:=.builtin .append,args:= #[s,x],argTypes:= #[t,u]})(i:TypeInfo)(z:Value)(ht:P.underlying t=some (.slice e))(hu:P.underlying u=some (.int .i64))(hi:P.info? e=some i)(hz:i.zero=some z)(hzc:z.cells = #[z])(hs:i.size=1)(hb:i.bytes=1)
 (ao:Option Addr)(sLen sCap:Nat)(olds:List Value)(hsv:a.eval s=.slice ao sLen sCap)(hnone:ao=none→sLen=0)(hlo:olds.length=sLen)(holds:∀b,ao=some b→∀j v,olds[j]?=some v→w.cell? (b.add j)=some v)
 (n:Nat)(hxv:a.eval x=.int .i64 n)(h0:0<n)(hg:sCap<sLen+n)(hbig:sLen+n≤1000000000)
 (h:∀w' cap k,Hid (Blk w' w.heap.size (olds++List.replicate (n+k) z) e)→Bel w w'→sLen+n≤cap→cap≤maxLen→cap=sLen+n+k→K (a.put o.dst (.slice (w.heap.size,0) (sLen+n) cap)) w'):if Region.wanted o (yielded ops a.tmps)=true then Oper.wp P o a w K Q else E:=by
 have hw:Region.wanted o (yielded ops a.tmps)=true:=by simp[Region.wanted,hgd]
 rw[if_pos hw];have hrun:=yK (P:=P) (w:=w) t u o.type e i z ht hu hi hz hzc hs hb ao sLen sCap olds hnone hlo holds n h0 hg hbig;have hge:=grownCap_ge w (sLen+n) sCap e;unfold Oper.wp;simp[execOp,ho,resolve,invoke,builtin,hsv,hxv,hrun,Result.andThen]
 exact h _ _ _ (xh (Blk.new w.drew _ _)) ((Bel.drew (Bel.refl w)).tr (Bel.start _ _)) hge (grownCap_le_maxLen w _ _ _ (by unfold maxLen;omega)) (by omega)
end
end
end Go.Proofs.YtcnjjchlebmfiaaGreatDoor
namespace Go.Proofs.YtcnjjchlebmfiaaGreatDoor
open Go.Proofs.Tryz
open Go.RowKit Go.Extern.Stop Go.Stop Go.Extern
namespace Rl
theorem YN(t:Addr)(w:World):(ReflectliteValue.unpack (.iface 85 (.pointer (some t)))).run prog w
 = .ok (.agg #[.pointer (6,85),w.heap.size,.int .u64 150]) (w.alloc (.cells #[.pointer (some t)] 85)):=by kernel_rfl
theorem af9(a:Addr)(w:World):(ReflectliteValue.methodAny (ReflectliteValue.valueError "reflectlite.Value.Type" 0) (λt _ _ _=>ReflectliteType.toType t) #[.agg #[.pointer (6,85),.pointer (some a),.int .u64 150]]).run prog w
 = .ok (.iface 205 (.agg #[.pointer (6,85)])) w:=by kernel_rfl
theorem methodKind(h:Value)(w:World):(Go.method 667 205 (.agg #[h]) "Kind").run prog w=.ok (382,h) w:=by kernel_rfl
theorem aga(w:World):((ReflectliteType.abiMethod λt=>(λa:Nat=>Value.int IntKind.u8 (a:Int)) <$> Rtype.kind t) #[.pointer (6,85)]).run prog w=.ok (.int .u8 22) w:=by kernel_rfl
theorem agb(w:World):((ReflectliteType.abiMethod λt=>(λa:Nat=>Value.int IntKind.u8 (a:Int)) <$> Rtype.kind t) #[.pointer (6,48)]).run prog w=.ok (.int .u8 2) w:=by kernel_rfl
theorem rlm(z:Sem Value)(f:TypeId→Addr→Nat→Nat→Sem Value)(v:Value) :
 ReflectliteValue.method z f #[v]=(do match ←ReflectliteValue.parts v with|none=>z|some (t,a,fl)=>f t a fl (fl%32)):=rfl
theorem YO(a:Addr)(w:World):(ReflectliteValue.parts (.agg #[.pointer (6,85),.pointer (some a),.int .u64 150])).run prog w=.ok (some (85,a,150)) w:=by kernel_rfl
theorem adm(a p:Addr)(W:World)(ha:W.cell? a=some (.pointer (some p))) :
 (ReflectliteValue.method (ReflectliteValue.valueError "reflectlite.Value.IsNil" 0) ReflectliteValue.isNil #[.agg #[.pointer (6,85),.pointer (some a),.int .u64 150]]).run prog W=.ok (.bool false) W:=by
 rw[rlm];simp only[Sem.run_bind,YO,Result.andThen]
 simp[ReflectliteValue.isNil,loadVar,isAgg,underlying,underlying85,ha,Result.andThen]
theorem methodElem(h:Value)(w:World):(Go.method 667 205 (.agg #[h]) "Elem").run prog w=.ok (405,.agg #[h]) w:=by kernel_rfl
theorem methodImplements(h:Value)(w:World):(Go.method 667 205 (.agg #[h]) "Implements").run prog w=.ok (406,.agg #[h]) w:=by kernel_rfl
theorem methodAssignableTo(h:Value)(w:World):(Go.method 667 205 (.agg #[h]) "AssignableTo").run prog w=.ok (403,.agg #[h]) w:=by kernel_rfl
theorem agc(w:World):(ReflectliteType.method ReflectliteType.elem #[.agg #[.pointer (6,85)]]).run prog w=.ok (.iface 205 (.agg #[.pointer (6,48)])) w:=by kernel_rfl
theorem KL(w:World):(ReflectliteType.relation "Implements" ReflectliteType.implements_ #[.agg #[.pointer (6,48)],.iface 205 (.agg #[.pointer (6,46)])]).run prog w=.ok (.bool true) w:=by kernel_rfl
theorem Qn(v:Value)(w:World):(ReflectliteType.typeOf #[.iface 48 v]).run prog w=.ok (.iface 205 (.agg #[.pointer (6,48)])) w:=by kernel_rfl
theorem zB(w:World):(ReflectliteType.relation "AssignableTo" ReflectliteType.assignableTo #[.agg #[.pointer (6,48)],.iface 205 (.agg #[.pointer (6,48)])]).run prog w=.ok (.bool true) w:=by kernel_rfl
theorem KN(n:Int)(w:World):(ReflectliteValue.unpack (.iface 48 (.int .i64 n))).run prog w
 = .ok (.agg #[.pointer (6,48),w.heap.size,.int .u64 130]) (w.alloc (.cells #[n] 48)):=by kernel_rfl
theorem aaV(w:World):(Rtype.elem? 85).run prog w=.ok (some 48) w:=by kernel_rfl
theorem mkE(p:Addr)(w:World):(ReflectliteValue.mk 48 p ReflectliteValue.flagAddr).run prog w=.ok (.agg #[.pointer (6,48),.pointer (some p),.int .u64 386]) w:=by kernel_rfl
theorem YP(a p:Addr)(W:World)(ha:W.cell? a=some (.pointer (some p))) :
 (ReflectliteValue.method (ReflectliteValue.valueError "reflectlite.Value.Elem" 0) ReflectliteValue.elem #[.agg #[.pointer (6,85),.pointer (some a),.int .u64 150]]).run prog W
  = .ok (.agg #[.pointer (6,48),.pointer (some p),.int .u64 386]) W:=by
 rw[rlm];simp only[Sem.run_bind,YO,Result.andThen]
 simp[ReflectliteValue.elem,loadVar,isAgg,underlying,underlying85,ha,Result.andThen,aaV,mkE]
theorem rls(v x:Value):ReflectliteValue.set #[v,x]=(do
 let (some (dst,a,fl),some (src,b,_)):=(←ReflectliteValue.parts v,←ReflectliteValue.parts x)
  | unsupported (.noEntry "extern/(internal/reflectlite.Value).Set.zeroValue")
 if fl/ReflectliteValue.flagAddr%2==0 then unsupported (.noEntry "extern/(internal/reflectlite.Value).Set.unaddressable")
 let val ←loadVar src b
 if ←Rtype.directlyAssignable dst src then storeVar dst a val
 else if ←Rtype.implements dst src then
  if (←Rtype.kind src)==20 then
   match val with
   | .nilIface=>unsupported (.noEntry "extern/reflectlite: a nil value of one interface type handed on as a value of another")
   | _=>storeVar dst a val
  else storeVar dst a (.iface src val)
 else panicString ("reflectlite.Set: value of type " ++(←Rtype.spelt src)++ " is not assignable to type " ++(←Rtype.spelt dst))
 pure (.tuple #[])):=rfl
theorem aaW(a:Addr)(w:World):(ReflectliteValue.parts (.agg #[.pointer (6,48),.pointer (some a),.int .u64 386])).run prog w=.ok (some (48,a,386)) w:=by kernel_rfl
theorem adn(a:Addr)(w:World):(ReflectliteValue.parts (.agg #[.pointer (6,48),.pointer (some a),.int .u64 130])).run prog w=.ok (some (48,a,130)) w:=by kernel_rfl
theorem aaX(w:World):(Rtype.directlyAssignable 48 48).run prog w=.ok true w:=by kernel_rfl
theorem agd(ta b:Addr)(n:Int)(old:Value)(W:World)(hb:W.cell? b=some (.int .i64 n))(ht:W.cell? ta=some old)(hf:W.frozen? ta=false) :
 (ReflectliteValue.set #[.agg #[.pointer (6,48),.pointer (some ta),.int .u64 386],.agg #[.pointer (6,48),.pointer (some b),.int .u64 130]]).run prog W
  = .ok (.tuple #[]) (W.setCell ta (.int .i64 n)):=by
 rw[rls];simp only[Sem.run_bind,aaW,adn,Result.andThen]
 simp[ReflectliteValue.flagAddr,loadVar,isAgg,underlying,underlying48,hb,Result.andThen,aaX,storeVar,Value.cells,storeCells,Addr.add]
 rw[run_store prog W ta _ _ (by rfl)];simp[ht,hf]
end Rl
def ErrVar(w:World):Prop:=w.cell? (0,0)=some (.iface 205 (.agg #[.pointer (6,46)]))
theorem ErrVar.lt{w:World}(h:ErrVar w):0<w.heap.size:=by
 have:=World.block_lt_of_cell? _ _ h
 simpa using this
theorem ErrVar.bel{w w':World}(h:ErrVar w)(hb:Bel w w'):ErrVar w':=(hb.cell (p:=⟨0,0,none⟩) h.lt).trans h
theorem ErrVar.below{B:Nat}{w w':World}(h:ErrVar w)(hB:0<B)(hb:Below B w w'):ErrVar w':=(hb.cell (p:=⟨0,0,none⟩) hB).trans h
theorem Bq(w:World):Calls prog 14 #[.nilIface] w (Z.b (.int .i64 0) w):=by
 go_enter func14,ntmps14;go_wp2
 go_ret
 exact⟨rfl,(Below.refl _ _).alloc (bM _) _⟩
theorem YQ(n:Int)(t a:Addr)(old:Value)(w:World)(ha:w.cell? a=some (.pointer (some t)))(ht0:w.cell? t=some old)(hf0:w.frozen? t=false) :
 Calls prog 48 #[.iface 48 (.int .i64 n),.iface 85 (.pointer (some t)),.agg #[.pointer (6,85),.pointer (some a),.int .u64 150],.iface 205 (.agg #[.pointer (6,48)])] w
  λev w'=>ev=.returned (.bool true)∧∃W1,Below w.heap.size w W1∧w'=W1.setCell t (.int .i64 n):=by
 have h76:=@run_callFunc_extern prog 45 _ (λargs=>ReflectliteValue.unpack (args.getD 0 (.tuple #[]))) func45 (by kernel_rfl) (by kernel_rfl) (by kernel_rfl) (by kernel_rfl);have aiK:=@run_callFunc_extern prog 85 _ ReflectliteType.typeOf func85 (by kernel_rfl) (by kernel_rfl) (by kernel_rfl) (by kernel_rfl);have aiL:=@run_callFunc_extern prog 403 _ (ReflectliteType.relation "AssignableTo" ReflectliteType.assignableTo) func403 (by kernel_rfl) (by kernel_rfl) (by kernel_rfl) (by kernel_rfl);have aiM:=@run_callFunc_extern prog 86 _ (ReflectliteValue.method (ReflectliteValue.valueError "reflectlite.Value.Elem" 0) ReflectliteValue.elem) func86 (by kernel_rfl) (by kernel_rfl) (by kernel_rfl) (by kernel_rfl);have h116:=@run_callFunc_extern prog 87 _ ReflectliteValue.set func87 (by kernel_rfl) (by kernel_rfl) (by kernel_rfl) (by kernel_rfl);have tO:=Rl.Qn;have mA:=Rl.methodAssignableTo;have aE:=Rl.zB;have vE:=Rl.KN;have htl:t.block<w.heap.size:=World.block_lt_of_cell? _ _ ht0;have hal:a.block<w.heap.size:=World.block_lt_of_cell? _ _ ha;have el:=Rl.YP a t (w.alloc (.cells #[.pointer (6,85),.pointer (some a),.int .u64 150] 133)) (by rw[World.cell?_alloc_lt _ _ a hal];exact ha)
 have st:=Rl.agd t ⟨w.heap.size+1,0,none⟩ n old ((w.alloc (.cells #[.pointer (6,85),.pointer (some a),.int .u64 150] 133)).alloc (.cells #[n] 48))
  (by rw[World.cell?_alloc_at _ _ _ _ (by simp)];rfl)
  (by rw[World.cell?_alloc_lt _ _ t (by simp;omega),World.cell?_alloc_lt _ _ t htl];exact ht0)
  (by rw[World.frozen?_alloc_old _ _ t (by simp;omega),World.frozen?_alloc_old _ _ t (Nat.ne_of_lt htl)];exact hf0)
 go_enter func48,ntmps48;go_wp2
 refine wp_loop_rounds 1 ?_;rw[rounds_succ];go_wp2
 go_ret
 exact⟨rfl,_,((Below.refl _ _).alloc (bM _) _).alloc (by simp) _,rfl⟩
def Qo(x:Value)(n:Int)(w0:World):Prop:=∀(w:World) (t a:Addr) (old:Value),Below w0.heap.size w0 w→w.cell? a=some (.pointer (some t))→w.cell? t=some old→w.frozen? t=false→
 Calls prog 48 #[x,.iface 85 (.pointer (some t)),.agg #[.pointer (6,85),.pointer (some a),.int .u64 150],.iface 205 (.agg #[.pointer (6,48)])] w
  λev w'=>ev=.returned (.bool true)∧∃W1,Below w.heap.size w W1∧w'=W1.setCell t (.int .i64 n)
theorem ado(u:TypeId)(v:Value)(n:Int)(t:Addr)(old:Value)(w:World)(hx:Qo (.iface u v) n w)(hg:ErrVar w)(ht0:w.cell? t=some old)(hf0:w.frozen? t=false) :
 Calls prog 28 #[.iface u v,.iface 85 (.pointer (some t))] w
  λev w'=>ev=.returned (.bool true)∧∃W1,Below w.heap.size w W1∧w'=W1.setCell t (.int .i64 n):=by
 have h76:=@run_callFunc_extern prog 45 _ (λargs=>ReflectliteValue.unpack (args.getD 0 (.tuple #[]))) func45 (by kernel_rfl) (by kernel_rfl) (by kernel_rfl) (by kernel_rfl);have h77:=@run_callFunc_extern prog 46 _ (ReflectliteValue.methodAny (ReflectliteValue.valueError "reflectlite.Value.Type" 0) (λt _ _ _=>ReflectliteType.toType t)) func46 (by kernel_rfl) (by kernel_rfl) (by kernel_rfl) (by kernel_rfl);have h78:=@run_callFunc_extern prog 47 _ (ReflectliteValue.method (ReflectliteValue.valueError "reflectlite.Value.IsNil" 0) ReflectliteValue.isNil) func47 (by kernel_rfl) (by kernel_rfl) (by kernel_rfl) (by kernel_rfl);have akn:=@run_callFunc_extern prog 382 _ (ReflectliteType.abiMethod λt=>do pure (.int .u8 (←Rtype.kind t))) func382 (by kernel_rfl) (by kernel_rfl) (by kernel_rfl) (by kernel_rfl);have ako:=@run_callFunc_extern prog 405 _ (ReflectliteType.method ReflectliteType.elem) func405 (by kernel_rfl) (by kernel_rfl) (by kernel_rfl) (by kernel_rfl);have akp:=@run_callFunc_extern prog 406 _ (ReflectliteType.relation "Implements" ReflectliteType.implements_) func406 (by kernel_rfl) (by kernel_rfl) (by kernel_rfl) (by kernel_rfl);have f6:=Rl.YN;have f7:=Rl.af9;have mK:=Rl.methodKind;have mE:=Rl.methodElem;have mI:=Rl.methodImplements;have kP:=Rl.aga;have kE:=Rl.agb;have eP:=Rl.agc;have iE:=Rl.KL;have n8:=Rl.adm ⟨w.heap.size,0,none⟩ t ((w.alloc (.cells #[.pointer (some t)] 85)).alloc (.cells #[.pointer (6,85),w.heap.size,.int .u64 150] 133)) (by simp);have hlt:=hg.lt;have htl:t.block<w.heap.size:=World.block_lt_of_cell? _ _ ht0;have hg2:((w.alloc (.cells #[.pointer (some t)] 85)).alloc (.cells #[.pointer (6,85),w.heap.size,.int .u64 150] 133)).cell? (0,0)=some (.iface 205 (.agg #[.pointer (6,46)])):=by
  rw[World.cell?_alloc_lt _ _ ⟨0,0,none⟩ (by simp<;>omega),World.cell?_alloc_lt _ _ ⟨0,0,none⟩ hlt];exact hg
 have hc:=hx ((w.alloc (.cells #[.pointer (some t)] 85)).alloc (.cells #[.pointer (6,85),w.heap.size,.int .u64 150] 133)) t ⟨w.heap.size,0,none⟩ old
  (((Below.refl _ _).alloc (bM _) _).alloc (by simp) _) (by rw[World.cell?_alloc_lt _ _ ⟨w.heap.size,0,none⟩ (by simp)];simp)
  (by rw[World.cell?_alloc_lt _ _ t (by simp;omega),World.cell?_alloc_lt _ _ t htl];exact ht0)
  (by rw[World.frozen?_alloc_old _ _ t (by simp;omega),World.frozen?_alloc_old _ _ t (Nat.ne_of_lt htl)];exact hf0)
 have HC:=xh hc;clear hc hx;go_enter func28,ntmps28;go_wp2_with (go_at_call 48;refine HC.o.mono ?_;rintro e w' ⟨rfl,W1,hb,rfl⟩)
 go_ret
 exact⟨rfl,W1,(((Below.refl _ _).alloc (bM _) _).alloc (by simp) _).trans (hb.mono (by simp;omega)),rfl⟩
theorem yZ(n:Int)(w:World):Qo (.iface 48 (.int .i64 n)) n w:=λw' t a old _ ha ht hf=>YQ n t a old w' ha ht hf
theorem Bv(u:TypeId)(v:Value)(n:Int)(w:World)(hx:Qo (.iface u v) n w)(hg:ErrVar w) :
 Calls prog 14 #[.iface u v] w (Z.b (.int .i64 n) w):=by
 have hlt:=hg.lt
 have hc:=ado u v n ⟨w.heap.size,0,none⟩ (.int .i64 0) (w.alloc (.cells #[(0:Int)] 48)) (λw' t a old hb=>hx w' t a old (((Below.refl _ _).alloc (bM _) _).trans (hb.mono (by simp))))
  (hg.below hlt ((Below.refl _ _).alloc (bM _) _)) (by simp) (by simp)
 have HC:=xh hc;clear hc hx;go_enter func14,ntmps14;go_wp2_with fail
 refine HC.o.mono ?_;rintro e w' ⟨rfl,W1,hb,rfl⟩;have hs:(W1.setCell (w.heap.size,0) (.int .i64 n)).cell? (w.heap.size,0)=some (.int .i64 n):=World.cell?_setCell_same W1 _ _ ((hb.cell (p:=⟨w.heap.size,0,none⟩) (by simp)).trans (by simp;rfl));go_wp2
 go_ret
 exact⟨rfl,(((Below.refl _ _).alloc (bM _) _).trans (hb.mono (by simp))).setCell (bM _) _⟩
end Go.Proofs.YtcnjjchlebmfiaaGreatDoor
namespace Go.Proofs.YtcnjjchlebmfiaaGreatDoor
section
open Go.RowKit
theorem iV{P:Program}{w:World}{base:Nat}{e:TypeId}{size:Nat}{v:Value}{n:Nat}{xs:List Value}{ops:Array Oper}{o:Oper}{a:Act}{K:Act→World→Prop}{Q:Exit→Act→World→Prop}{E:Prop}(hgd:o.guard=none)(s x:Operand)(t:TypeId)
 (ho:o.op=.call {callee:=.builtin .append,args:= #[s,x],argTypes:= #[t,t]}){bytes:Nat}(ht:P.underlying t=some (.slice e))
 (hi:(P.info? e).map (λi=>(i.size,i.bytes,(i.zero.map (·.cells.size))))=some (size,bytes,some size))(hsz:0<size)
 (hs:a.eval s=v)(hown:w.ownsRow base e size v n xs)(g m c:Nat)(cs:List Value)(hx:a.eval x=.slice (g,0) m c)(hB:∀j u,cs[j]?=some u→w.cell? ⟨g,j,none⟩=some u)(hl:cs.length=m*size)(h1:∀u∈cs,u.oneCell'=true)
 (h63:n+m≤maxLen)(hbytes:(n+m)*bytes≤140737488355328)(hbase:base≤w.heap.size)
 (h:∀p cp w',w'.ownsRow base e size (.slice p (n+m) cp) (n+m) (xs++cs)→Keep (λq=>v.ownBlock=some q) w w'→K (a.put o.dst (.slice p (n+m) cp)) w'):if Region.wanted o (yielded ops a.tmps)=true then Oper.wp P o a w K Q else E:=by
 have hw:Region.wanted o (yielded ops a.tmps)=true:=by simp[Region.wanted,hgd]
 rw[if_pos hw];obtain⟨i,z,hi,hz,e1,e2,e3⟩:=info_of hi;obtain⟨v',w',hrun,k1,k2,_⟩:=run_append_own (P:=P) w base t o.type e i z size bytes ht hi hz e1 e2 e3 hsz v n xs hown ⟨g,0,none⟩ m c cs hl (λj u hj=>by
  rw[show(⟨g,0,none⟩:Addr).add j=⟨g,j,none⟩from by unfold Addr.add;split<;>simp_all];exact hB j u hj) h1 h63 hbytes hbase
 obtain⟨p,cp,rfl,_⟩:=aG k1;unfold Oper.wp;simp[execOp,ho,resolve,invoke,builtin,hs,hx,hrun,Result.andThen]
 exact h p cp w' k1 ⟨k2.os,k2.tape,k2.output,k2.size,λk hk hn=>k2.block k hk λe=>hn e.symm⟩
theorem uC{P:Program}{w:World}{ops:Array Oper}{o:Oper}{a:Act}{K:Act→World→Prop}{Q:Exit→Act→World→Prop}{E:Prop}(hgd:o.guard=none)(ty:TypeId)(x:Operand)(ho:o.op=.load ty x)
 (b off:Nat)(hx:a.eval x=.pointer (b,off))(cs:List Value)(d:TypeDesc)(hc:w.rangeAt b off cs)(hu:P.underlying ty=some d)(hd:d.isRow=true)(hi:(P.info? ty).map (·.size)=some cs.length)
 (h:K (a.put o.dst (.agg cs.toArray)) w):if Region.wanted o (yielded ops a.tmps)=true then Oper.wp P o a w K Q else E:=by
 have hw:Region.wanted o (yielded ops a.tmps)=true:=by simp[Region.wanted,hgd]
 rw[if_pos hw];exact wp_load_mid ty x ho b off hx cs d hc hu hd hi h
theorem jC{P:Program}{w:World}{ops:Array Oper}{o:Oper}{a:Act}{K:Act→World→Prop}{Q:Exit→Act→World→Prop}{E:Prop}(hg:o.guard=none)(t e:TypeId)(x:Operand)(ho:o.op=.buildSlice t 1 #[(0,x)])
 (cs:List Value){b:Nat}(hx:(a.eval x).cells=cs.toArray)(hu:P.underlying t=some (.slice e))(h:(P.info? e).map (λi=>(i.size,i.bytes,(i.zero.map (·.cells.size))))=some (cs.length,b,some cs.length))(hs:0<cs.length)(hb:cs.length≤2^24)
 (hk:K (a.put o.dst (.slice (w.heap.size,0) 1 1)) (w.alloc (.cells cs.toArray e))):if Region.wanted o (yielded ops a.tmps)=true then Oper.wp P o a w K Q else E:=by
 have hw:Region.wanted o (yielded ops a.tmps)=true:=by simp[Region.wanted,hg]
 rw[if_pos hw];obtain⟨i,z,hi,hz,h1,h2,h3⟩:=info_of h;refine wp_buildSlice t e 1 #[(0,x)] ho cs.toArray i z hu hi hz (by rw[h1];omega) (by rw[h1];omega) ?_ hk;simp only[Nat.one_mul,List.map_toArray,List.map_cons,List.map_nil]
 obtain⟨zs,hzs⟩:∃zs:List Value,(Array.range i.size).map (z.cells[·% z.cells.size]!)=zs.toArray:=⟨_,(Array.toArray_toList).symm⟩;have hl:zs.length=cs.length:=by have:=congrArg Array.size hzs;simpa [h1]using this.symm
 rw[hzs];have:=nC (λk=>some (k*i.size,i.size)) [] zs [] 0 (a.eval x) [] (by simp[hx,h1]) (by rw[hl,hx];simp)
 simpa [hx,Instr.fill]using this
theorem uO{P:Program}(t e:TypeId)(cs:List Value){b:Nat}(hu:P.underlying t=some (.slice e))(h:(P.info? e).map (λi=>(i.size,i.bytes,(i.zero.map (·.cells.size))))=some (cs.length,b,some cs.length))(hs:0<cs.length)(hb:cs.length≤2^24)(w:World) :
 (Instr.buildSlice t 1 #[(0,.agg cs.toArray)]).run P w=.ok (.slice (w.heap.size,0) 1 1) (w.alloc (.cells cs.toArray e)):=by
 obtain⟨i,z,hi,hz,h1,h2,h3⟩:=info_of h;refine run_buildSlice w t e 1 _ cs.toArray i z hu hi hz (by rw[h1];omega) (by rw[h1];omega) ?_;simp only[Nat.one_mul]
 obtain⟨zs,hzs⟩:∃zs:List Value,(Array.range i.size).map (z.cells[·% z.cells.size]!)=zs.toArray:=⟨_,(Array.toArray_toList).symm⟩;have hl:zs.length=cs.length:=by have:=congrArg Array.size hzs;simpa [h1]using this.symm
 rw[hzs];have:=nC (λk=>some (k*i.size,i.size)) [] zs [] 0 (.agg cs.toArray) [] (by simp[Value.cells,h1]) (by rw[hl];simp[Value.cells])
 simpa [Value.cells,Instr.fill]using this
end
end Go.Proofs.YtcnjjchlebmfiaaGreatDoor
