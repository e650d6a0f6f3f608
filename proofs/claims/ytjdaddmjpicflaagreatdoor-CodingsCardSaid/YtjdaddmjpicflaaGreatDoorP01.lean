/- Small laws on memory: a block that is known whole. No program. -/
import Derived.WalkKit
import Derived.Test.YtjdaddmjpicflaaGreatDoorP00
import Derived.ChangeMaps5
import Derived.Deep.Draws
import Derived.Maps.Keyed
import Derived.Maps.Own
import Derived.Laws.Entries
import Derived.Test.YtjdaddmjpicflaaGreatDoorProg
import Derived.LaidEql
import Derived.Stop.Asserts
import Derived.RowKitTokens
import Derived.Lib.Hide
set_option linter.unusedVariables false
set_option linter.unusedSimpArgs false
set_option maxRecDepth 100000
set_option maxHeartbeats 16000000
namespace Go.Proofs.YtjdaddmjpicflaaGreatDoor
open Go.RowKit
def Blk (w:World) (b:Nat) (c:List Value) (t:TypeId):Prop:=w.heap[b]?=some (.cells c.toArray t (0,0))
theorem Blk.lt {w:World} {b:Nat} {c:List Value} {t:TypeId} (h:Blk w b c t):b<w.heap.size:=(Array.getElem?_eq_some_iff.1 h).1
theorem Blk.cell {w:World} {b:Nat} {c:List Value} {t:TypeId} (h:Blk w b c t) (o:Nat):w.cell? ⟨b,o,none⟩=c[o]?:=by
 unfold Blk at h
 simp[World.cell?,h]
theorem Blk.frozen {w:World} {b:Nat} {c:List Value} {t:TypeId} (h:Blk w b c t) (o:Nat):w.frozen? ⟨b,o,none⟩=false:=by
 unfold Blk at h
 simp only[World.frozen?,h]
 simp
theorem Blk.below {w w':World} {B b:Nat} {c:List Value} {t:TypeId} (h:Blk w b c t) (hb:Below B w w') (hB:b<B):Blk w' b c t:=(hb.block b hB).trans h
theorem Blk.new (w:World) (c:List Value) (t:TypeId):Blk (w.alloc (.cells c.toArray t)) w.heap.size c t:=by
 show(w.heap.push _)[w.heap.size]?=_
 simp
theorem Blk.new_at (w:World) (c:List Value) (t:TypeId) {n:Nat} (hn:w.heap.size=n):Blk (w.alloc (.cells c.toArray t)) n c t:=hn▸Blk.new w c t
theorem Blk.alloc {w:World} {b:Nat} {c:List Value} {t:TypeId} (h:Blk w b c t) (o:Obj):Blk (w.alloc o) b c t:=
 (Below.heap_alloc w o b h.lt).trans h
theorem Blk.setCell {w:World} {b o:Nat} {c:List Value} {t:TypeId} (h:Blk w b c t) (v:Value):Blk (w.setCell ⟨b,o,none⟩ v) b (c.set o v) t:=by
 unfold Blk at *
 simp only[World.setCell,Array.getElem?_modify,h]
 simp
theorem Blk.setCell_other {w:World} {b:Nat} {a:Addr} {c:List Value} {t:TypeId} (h:Blk w b c t) (hne:b≠a.block) (v:Value):Blk (w.setCell a v) b c t:=
 (Below.heap_setCell w a v b hne).trans h
theorem Blk.drew {w:World} {b:Nat} {c:List Value} {t:TypeId} (h:Blk w b c t):Blk w.drew b c t:=h
def Bel (w w1:World):Prop:=Below w.heap.size w w1
theorem Bel.refl (w:World):Bel w w:=Below.refl _ _
theorem Bel.tr {w w1 w2:World} (h:Bel w w1) (k:Bel w1 w2):Bel w w2:=Below.trans h (Below.mono k h.size)
theorem Bel.ac {w w1:World} (h:Bel w w1) (o:Obj):Bel w (w1.alloc o):=Below.alloc h h.size o
theorem Bel.start (w:World) (o:Obj):Bel w (w.alloc o):=(Below.refl _ _).alloc (Nat.le_refl _) o
theorem Bel.le {w w1:World} (h:Bel w w1):w.heap.size≤w1.heap.size:=h.size
theorem Bel.store {w w1:World} (h:Bel w w1) {p:Addr} (hp:w.heap.size≤p.block) (u:Value):Bel w (w1.setCell p u):=Below.setCell h hp u
theorem Bel.drew {w w1:World} (h:Bel w w1):Bel w w1.drew:=Below.drew h
theorem Blk.bel {w w':World} {b:Nat} {c:List Value} {t:TypeId} (h:Blk w b c t) (hb:Bel w w'):Blk w' b c t:=h.below hb h.lt
end Go.Proofs.YtjdaddmjpicflaaGreatDoor
namespace Go.Proofs.YtjdaddmjpicflaaGreatDoor
open Go.RowKit
open Go.ChangeMaps (setBlock heap_setBlock_same heap_setBlock_other)
structure Keep (S:Nat→Prop) (w w':World):Prop where
 os:w'.os=w.os
 tape:w'.tape=w.tape
 output:w'.output=w.output
 size:w.heap.size≤w'.heap.size
 block:∀k,k<w.heap.size→¬S k→w'.heap[k]?=w.heap[k]?
variable {S:Nat→Prop} {w w' w'':World}
theorem Keep.refl (S:Nat→Prop) (w:World):Keep S w w:=⟨rfl,rfl,rfl,Nat.le_refl _,λ_ _ _=>rfl⟩
theorem Keep.tr (h:Keep S w w') (k:Keep S w' w''):Keep S w w'':=
 ⟨k.os.trans h.os,k.tape.trans h.tape,k.output.trans h.output,Nat.le_trans h.size k.size,λi hi hs=>(k.block i (Nat.lt_of_lt_of_le hi h.size) hs).trans (h.block i hi hs)⟩
theorem Keep.of_bel (S:Nat→Prop) (h:Bel w w'):Keep S w w':=⟨h.os,h.tape,h.output,h.size,λk hk _=>h.block k hk⟩
theorem Keep.tr_new (h:Keep S w w') {S':Nat→Prop} (k:Keep S' w' w'') (hs:∀i,S' i→S i∨w.heap.size≤i):Keep S w w'':=
 ⟨k.os.trans h.os,k.tape.trans h.tape,k.output.trans h.output,Nat.le_trans h.size k.size,λi hi hs'=>(k.block i (Nat.lt_of_lt_of_le hi h.size) (λh1=>by rcases hs i h1 with h2|h2;exact hs' h2;omega)).trans (h.block i hi hs')⟩
theorem Keep.below (h:Keep S w w') (B:Nat) (hB:B≤w.heap.size) (hs:∀k,S k→B≤k):Below B w w':=
 ⟨h.os,h.tape,h.output,h.size,λk hk=>h.block k (Nat.lt_of_lt_of_le hk hB) λh1=>by have:=hs k h1;omega⟩
theorem Keep.setBlock {b:Nat} {es:Array MapEntry} {clock:Nat} (hb:w.heap[b]?=some (.map es clock)) (o:Obj):Keep (λk=>k=b) w (setBlock w b o):=
 ⟨rfl,rfl,rfl,by simp[Go.ChangeMaps.setBlock],λk _ hk=>heap_setBlock_other hb o (λe=>hk e)⟩
theorem Keep.mono (h:Keep S w w') {S':Nat→Prop} (hs:∀k,S k→S' k):Keep S' w w':=⟨h.os,h.tape,h.output,h.size,λk hk hn=>h.block k hk λh1=>hn (hs k h1)⟩
theorem Keep.cell (h:Keep S w w') (a:Addr) (ha:a.block<w.heap.size) (hs:¬S a.block):w'.cell? a=w.cell? a:=by
 simp only[World.cell?,h.block a.block ha hs]
theorem Blk.keep {b:Nat} {c:List Value} {t:TypeId} (hb:Blk w b c t) (h:Keep S w w') (hs:¬S b):Blk w' b c t:=(h.block b hb.lt hs).trans hb
theorem bel_drewN (h:Bel w w') (n:Nat):Bel w (w'.drewN n):=⟨h.os,h.tape,h.output,h.size,h.block⟩
theorem upTo_snoc {p:Nat→Prop} {k:Nat} (h:∀j,j<k→p j) (hk:p k):∀j,j<k+1→p j:=λj hj=>by
 by_cases e:j=k
 ·exact e▸hk
 ·exact h j (by omega)
end Go.Proofs.YtjdaddmjpicflaaGreatDoor
namespace Go.Proofs.YtjdaddmjpicflaaGreatDoor
open Go.RowKit Go.MapKept Go.Maps
open Go.ChangeMaps (setBlock heap_setBlock_same heap_setBlock_other)
structure KeyEnc (P:Program) (k:TypeId) (α:Type) where
 kf:α→Value
 kl:α→Lit
 ok:α→Prop
 read:∀a,ok a→keyOf P k (kf a)=some (kl a)
 inj:∀a b,kf a=kf b→a=b
def intEnc {P:Program} {k:TypeId} (hk:P.underlying k=some (.int .i64)):KeyEnc P k Int:=
 ⟨.int .i64,.int .i64,λa=>(Lit.int .i64 a).wf=true,λ_ h=>keyOf_int_mk hk h,λa b h=>by injection h⟩
section
variable {P:Program} {k:TypeId} {α:Type}
def Mp (E:KeyEnc P k α) (w:World) (b:Nat) (kv:List (α×Value)):Prop:=
 ∃es clock,w.heap[b]?=some (.map es clock)∧Stamped es clock∧es.toList.map (λe=>(e.key,e.val))=kv.map (λp=>(E.kf p.1,p.2))∧∀p∈kv,E.ok p.1
variable {E:KeyEnc P k α} {w:World} {b:Nat} {kv:List (α×Value)}
theorem Mp.lt (h:Mp E w b kv):b<w.heap.size:=by
 obtain⟨es,clock,hb,_⟩:=h
 exact(Array.getElem?_eq_some_iff.1 hb).1
theorem Mp.of_block {w':World} (h:Mp E w b kv) (hb:w'.heap[b]?=w.heap[b]?):Mp E w' b kv:=by
 obtain⟨es,clock,h1,h2⟩:=h
 exact⟨es,clock,hb.trans h1,h2⟩
theorem Mp.bel {w':World} (h:Mp E w b kv) (hb:Bel w w'):Mp E w' b kv:=h.of_block (hb.block b h.lt)
theorem Mp.alloc (h:Mp E w b kv) (o:Obj):Mp E (w.alloc o) b kv:=h.bel (Bel.start w o)
theorem Mp.setCell {a:Addr} (h:Mp E w b kv) (v:Value):Mp E (w.setCell a v) b kv:=by
 obtain⟨es,clock,h1,h2⟩:=h
 refine⟨es,clock,?_,h2⟩
 by_cases e:b=a.block
 ·subst e
  simp only[World.setCell,Array.getElem?_modify,h1]
  simp
 ·exact(Below.heap_setCell w a v b e).trans h1
theorem Mp.new (E:KeyEnc P k α) (w:World):Mp E (w.alloc (.map #[] 0)) w.heap.size []:=
 ⟨#[],0,(heap_alloc w _).1,stamped_empty 0,rfl,λ_ h=>by cases h⟩
theorem Mp.nodup (h:Mp E w b kv):(kv.map Prod.fst).Nodup:=by
 obtain⟨es,clock,h1,⟨_,_,h2⟩,h3,_⟩:=h
 have e:es.toList.map (·.key)=(kv.map Prod.fst).map E.kf:=by
  have:=congrArg (List.map Prod.fst) h3
  simpa [List.map_map,Function.comp_def]using this
 rw[e]at h2
 exact List.Pairwise.of_map E.kf (λa b hab e=>hab (congrArg E.kf e)) h2
theorem Mp.okKeys (h:Mp E w b kv):∀p∈kv,E.ok p.1:=by
 obtain⟨es,clock,_,_,_,h⟩:=h
 exact h
theorem keys_read {es:Array MapEntry} (h3:es.toList.map (λe=>(e.key,e.val))=kv.map (λp=>(E.kf p.1,p.2))) (h4:∀p∈kv,E.ok p.1):∀e∈es.toList,∃l,keyOf P k e.key=some l:=by
 intro e he
 have hm:(e.key,e.val)∈kv.map (λp=>(E.kf p.1,p.2)):=by rw[←h3];exact List.mem_map.2 ⟨e,he,rfl⟩
 obtain⟨p,hp,hpe⟩:=List.mem_map.1 hm
 have:e.key=E.kf p.1:=by injection hpe with h1 _;exact h1.symm
 exact⟨_,by rw[this];exact E.read _ (h4 p hp)⟩
theorem Mp.find (K:Keyed P k) (h:Mp E w b kv) (a:α) (ha:E.ok a):∃es clock,w.heap[b]?=some (.map es clock)∧Stamped es clock∧es.toList.map (λe=>(e.key,e.val))=kv.map (λp=>(E.kf p.1,p.2))∧
 ((a∉kv.map Prod.fst∧(∀e∈es.toList,e.key≠E.kf a)∧∀w,(Instr.findKey k (E.kf a) es.toList).run P w=.ok none w)∨
  ∃j v,(kv.map Prod.fst)[j]?=some a∧kv[j]?=some (a,v)∧(∃e,es[j]?=some e∧e.key=E.kf a)∧∀w,(Instr.findKey k (E.kf a) es.toList).run P w=.ok (some (j,v)) w):=by
 have hnod:=h.nodup
 obtain⟨es,clock,h1,h2,h3,h4⟩:=h
 refine⟨es,clock,h1,h2,h3,?_⟩
 have hk:=keys_read h3 h4
 have key_of:∀(j:Nat) (e:MapEntry),es[j]?=some e→∃p,kv[j]?=some p∧e.key=E.kf p.1∧e.val=p.2:=by
  intro j e he
  have h5:(es.toList.map (λe=>(e.key,e.val)))[j]?=some (e.key,e.val):=by
   rw[List.getElem?_map,Array.getElem?_toList,he];rfl
  rw[h3,List.getElem?_map]at h5
  obtain⟨p,hp,hpe⟩:=Option.map_eq_some_iff.1 h5
  injection hpe with e1 e2
  exact⟨p,hp,e1.symm,e2.symm⟩
 rcases K.find w (E.read a ha) es.toList hk with⟨h5,h6⟩|⟨j,e,h5,h6,h7⟩
 ·left
  refine⟨?_,h6,λw'=>?_⟩
  ·intro hm
   obtain⟨p,hp,rfl⟩:=List.mem_map.1 hm
   have hm:(E.kf p.1,p.2)∈es.toList.map (λe=>(e.key,e.val)):=by rw[h3];exact List.mem_map.2 ⟨p,hp,rfl⟩
   obtain⟨e,he,hee⟩:=List.mem_map.1 hm
   injection hee with e1 _
   exact h6 e he e1
  ·rcases K.find w' (E.read a ha) es.toList hk with⟨h5',_⟩|⟨j,e,_,h6',h7'⟩
   ·exact h5'
   ·exact absurd h7' (h6 e (List.mem_of_getElem? h6'))
 ·right
  rw[Array.getElem?_toList]at h6
  obtain⟨p,hp,hpk,hpv⟩:=key_of j e h6
  have hpa:p.1=a:=E.inj _ _ (hpk.symm.trans h7)
  refine⟨j,e.val,by rw[List.getElem?_map,hp];simp[hpa],by rw[hp,hpv,←hpa],⟨e,h6,h7⟩,λw'=>?_⟩
  rcases K.find w' (E.read a ha) es.toList hk with⟨_,h6'⟩|⟨j',e',h5',h6',h7'⟩
  ·exact absurd h7 (h6' e (by rw[←Array.getElem?_toList]at h6;exact List.mem_of_getElem? h6))
  ·rw[Array.getElem?_toList]at h6'
   obtain⟨p',hp',hpk',_⟩:=key_of j' e' h6'
   have hpa':p'.1=a:=E.inj _ _ (hpk'.symm.trans h7')
   have hj:j'=j:=by
    have g1:(kv.map Prod.fst)[j']?=some a:=by rw[List.getElem?_map,hp'];simp[hpa']
    have g2:(kv.map Prod.fst)[j]?=some a:=by rw[List.getElem?_map,hp];simp[hpa]
    have l1:=(List.getElem?_eq_some_iff.1 g1).1
    exact(List.getElem?_inj l1 hnod).1 (g1.trans g2.symm)
   subst hj
   rw[h6]at h6'
   cases h6'
   exact h5'
variable [DecidableEq α]
def putKv (kv:List (α×Value)) (a:α) (v:Value):List (α×Value):=
 if a∈kv.map Prod.fst then kv.map (λp=>if p.1=a then(a,v)else p)else kv++[(a,v)]
def getKv (kv:List (α×Value)) (a:α):Option Value:=(kv.find? λp=>decide (p.1=a)).map Prod.snd
theorem getKv_none {a:α} (h:a∉kv.map Prod.fst):getKv kv a=none:=by
 unfold getKv
 rw[Option.map_eq_none_iff,List.find?_eq_none]
 intro p hp
 simp only[decide_eq_true_eq]
 rintro rfl
 exact h (List.mem_map.2 ⟨p,hp,rfl⟩)
theorem getKv_some {a:α} {v:Value} (hn:(kv.map Prod.fst).Nodup) (h:(a,v)∈kv):getKv kv a=some v:=by
 induction kv with
 | nil=>cases h
 | cons p r ih=>
   simp only[List.map_cons,List.nodup_cons]at hn
   unfold getKv
   rw[List.find?_cons]
   by_cases hp:p.1=a
   ·simp only[hp,decide_true,Option.map_some]
    rcases List.mem_cons.1 h with rfl|h
    ·rfl
    ·exact absurd (List.mem_map.2 ⟨(a,v),h,hp.symm⟩) hn.1
   ·simp only[hp,decide_false]
    rcases List.mem_cons.1 h with rfl|h
    ·exact absurd rfl hp
    ·exact ih hn.2 h
variable {t e:TypeId}
theorem Mp.lookup (K:Keyed P k) (ht:P.underlying t=some (.map k e)) (h:Mp E w b kv) (a:α) (ha:E.ok a) (c:Bool) {z:Value} (hz:(zeroValue e).run P w=.ok z w) :
 (Instr.lookup t (.map (some b)) (E.kf a) c).run P w=.ok (if c then .tuple #[(getKv kv a).getD z,.bool (getKv kv a).isSome]else(getKv kv a).getD z) w:=by
 have hnod:=h.nodup
 obtain⟨es,clock,h1,h2,h3,h4⟩:=h.find K a ha
 rcases h4 with⟨hn,_,hr⟩|⟨j,v,hj,hjv,_,hr⟩
 ·rw[getKv_none hn]
  simp[Instr.lookup,run_underlying ht,MapKept.run_getObj_map h1,K.check w _ (E.read a ha),hr,hz,Result.andThen]
 ·rw[getKv_some hnod (List.mem_of_getElem? hjv)]
  simp[Instr.lookup,run_underlying ht,MapKept.run_getObj_map h1,K.check w _ (E.read a ha),hr,Result.andThen]
theorem Mp.update (K:Keyed P k) (ht:P.underlying t=some (.map k e)) (h:Mp E w b kv) (a:α) (ha:E.ok a) (v:Value) :
 ∃es' clock',(Instr.mapUpdate t (.map (some b)) (E.kf a) v).run P w=.ok () (setBlock w b (.map es' clock'))∧Mp E (setBlock w b (.map es' clock')) b (putKv kv a v):=by
 have hnod:=h.nodup
 have hok:=h.okKeys
 obtain⟨es,clock,h1,h2,h3,h4⟩:=h.find K a ha
 rcases h4 with⟨hn,hne,hr⟩|⟨j,v0,hj,hjv,⟨e0,he0,hek⟩,hr⟩
 ·refine⟨es.push ⟨E.kf a,v,clock⟩,clock+1,?_,_,_,heap_setBlock_same h1 _,stamped_push h2 hne,?_,?_⟩
  ·simp[Instr.mapUpdate,run_underlying ht,MapKept.run_getObj_map h1,K.check w false (E.read a ha),hr,MapKept.run_setObj_map _ h1,Result.andThen,setBlock]
  ·simp[putKv,hn,h3]
  ·intro p hp
   simp only[putKv,hn,if_false,List.mem_append,List.mem_singleton]at hp
   rcases hp with hp|rfl
   ·exact hok p hp
   ·exact ha
 ·have hm:a∈kv.map Prod.fst:=List.mem_of_getElem? hj
  refine⟨es.modify j λx=>{x with key:=E.kf a,val:=v},clock,?_,_,_,heap_setBlock_same h1 _,stamped_modify h2 j _ (λ_ _=>rfl) (λx _ hx=>by rw[he0]at hx;cases hx;exact hek.symm),?_,?_⟩
  ·simp[Instr.mapUpdate,run_underlying ht,MapKept.run_getObj_map h1,K.check w false (E.read a ha),hr,he0,hek,K.stays w (E.read a ha),MapKept.run_setObj_map _ h1,Result.andThen,setBlock]
  ·have hj':j<kv.length:=(List.getElem?_eq_some_iff.1 hjv).1
   apply List.ext_getElem?
   intro i
   have h3i:(es.toList.map (λe=>(e.key,e.val)))[i]?=(kv.map (λp=>(E.kf p.1,p.2)))[i]?:=by rw[h3]
   simp only[List.getElem?_map,Array.getElem?_toList]at h3i
   simp only[putKv,hm,if_true,List.getElem?_map,Array.getElem?_toList,Array.getElem?_modify,Option.map_map]
   by_cases hij:j=i
   ·subst hij
    simp only[if_true,he0,hjv,Option.map_some,Function.comp_def]
   ·simp only[hij,if_false]
    rw[h3i]
    cases hki:kv[i]? with
    | none=>rfl
    | some p=>
      have hpa:¬p.1=a:=by
       intro e
       have g1:(kv.map Prod.fst)[i]?=some a:=by rw[List.getElem?_map,hki];simp[e]
       have l1:=(List.getElem?_eq_some_iff.1 hj).1
       exact hij ((List.getElem?_inj l1 hnod).1 (hj.trans g1.symm))
      simp[hpa]
  ·intro p hp
   simp only[putKv,hm,if_true,List.mem_map]at hp
   obtain⟨q,hq,rfl⟩:=hp
   by_cases hqa:q.1=a
   ·simpa [hqa]using ha
   ·simpa [hqa]using hok q hq
theorem getKv_putKv_same (kv:List (α×Value)) (a:α) (v:Value):getKv (putKv kv a v) a=some v:=by
 unfold putKv
 split
 ·rename_i hm
  unfold getKv
  induction kv with
  | nil=>cases hm
  | cons p r ih=>
    by_cases hp:p.1=a
    ·simp[List.find?_cons,hp]
    ·simp only[List.map_cons,List.mem_cons]at hm
     rcases hm with e|hm
     ·exact absurd e.symm hp
     ·simp only[List.map_cons,hp,if_false,List.find?_cons,decide_false]
      exact ih hm
 ·rename_i hm
  unfold getKv
  rw[List.find?_append]
  have:(kv.find? λp=>decide (p.1=a))=none:=by
   rw[List.find?_eq_none]
   intro p hp
   simp only[decide_eq_true_eq]
   rintro rfl
   exact hm (List.mem_map.2 ⟨p,hp,rfl⟩)
  simp[this]
theorem getKv_putKv_other (kv:List (α×Value)) {a c:α} (h:c≠a) (v:Value):getKv (putKv kv a v) c=getKv kv c:=by
 unfold putKv
 split
 ·unfold getKv
  induction kv with
  | nil=>rfl
  | cons p r ih=>
    by_cases hp:p.1=a
    ·have h1:¬a=c:=λe=>h e.symm
     by_cases hm:a∈r.map Prod.fst
     ·simp only[List.map_cons,hp,if_true,List.find?_cons,h1,decide_false];exact ih hm
     ·simp only[List.map_cons,hp,if_true,List.find?_cons,h1,decide_false]
      congr 1
      have:r.map (λp=>if p.1=a then(a,v)else p)=r:=by
       conv=>rhs;rw[←List.map_id r]
       apply List.map_congr_left
       intro q hq
       have:¬q.1=a:=λe=>hm (List.mem_map.2 ⟨q,hq,e⟩)
       simp[this]
      rw[this]
    ·by_cases hc:p.1=c
     ·have h1:¬c=a:=h
      simp[List.find?_cons,hc,h1]
     ·rename_i hm
      simp only[List.map_cons,List.mem_cons]at hm
      rcases hm with e|hm
      ·exact absurd e.symm hp
      ·simp only[List.map_cons,hp,if_false,List.find?_cons,hc,decide_false]
       exact ih hm
 ·unfold getKv
  rw[List.find?_append]
  have h1:¬a=c:=λe=>h e.symm
  simp[h1]
end
end Go.Proofs.YtjdaddmjpicflaaGreatDoor
namespace Go.Proofs.YtjdaddmjpicflaaGreatDoor
open Go.RowKit Go.Extern.Stop Go.Stop Go.Extern
set_option maxRecDepth 100000
namespace Rl
theorem valueOfP (t:Addr) (w:World):(ReflectliteValue.unpack (.iface 64 (.pointer (some t)))).run Tryz.prog w
 = .ok (.agg #[.pointer (some ⟨6,64,none⟩),.pointer (some ⟨w.heap.size,0,none⟩),.int .u64 150]) (w.alloc (.cells #[.pointer (some t)] 64)):=by kernel_rfl
theorem typeP (a:Addr) (w:World):(ReflectliteValue.methodAny (ReflectliteValue.valueError "reflectlite.Value.Type" 0) (λt _ _ _=>ReflectliteType.toType t) #[.agg #[.pointer (some ⟨6,64,none⟩),.pointer (some a),.int .u64 150]]).run Tryz.prog w
 = .ok (.iface 204 (.agg #[.pointer (some ⟨6,64,none⟩)])) w:=by kernel_rfl
theorem methodKind (h:Value) (w:World):(Go.method 660 204 (.agg #[h]) "Kind").run Tryz.prog w=.ok (374,h) w:=by kernel_rfl
theorem kindP (w:World):((ReflectliteType.abiMethod λt=>(λa:Nat=>Value.int IntKind.u8 (a:Int)) <$> Rtype.kind t) #[.pointer (some ⟨6,64,none⟩)]).run Tryz.prog w=.ok (.int .u8 22) w:=by kernel_rfl
theorem kindE (w:World):((ReflectliteType.abiMethod λt=>(λa:Nat=>Value.int IntKind.u8 (a:Int)) <$> Rtype.kind t) #[.pointer (some ⟨6,47,none⟩)]).run Tryz.prog w=.ok (.int .u8 2) w:=by kernel_rfl
theorem rlm (z:Sem Value) (f:TypeId→Addr→Nat→Nat→Sem Value) (v:Value) :
 ReflectliteValue.method z f #[v]=(do match ←ReflectliteValue.parts v with|none=>z|some (t,a,fl)=>f t a fl (fl%32)):=rfl
theorem partsP (a:Addr) (w:World):(ReflectliteValue.parts (.agg #[.pointer (some ⟨6,64,none⟩),.pointer (some a),.int .u64 150])).run Tryz.prog w=.ok (some (64,a,150)) w:=by kernel_rfl
theorem isNilP (a p:Addr) (W:World) (ha:W.cell? a=some (.pointer (some p))) :
 (ReflectliteValue.method (ReflectliteValue.valueError "reflectlite.Value.IsNil" 0) ReflectliteValue.isNil #[.agg #[.pointer (some ⟨6,64,none⟩),.pointer (some a),.int .u64 150]]).run Tryz.prog W=.ok (.bool false) W:=by
 rw[rlm]
 simp only[Sem.run_bind,partsP,Result.andThen]
 simp[ReflectliteValue.isNil,loadVar,isAgg,underlying,Tryz.underlying64,ha,Result.andThen]
theorem methodElem (h:Value) (w:World):(Go.method 660 204 (.agg #[h]) "Elem").run Tryz.prog w=.ok (395,.agg #[h]) w:=by kernel_rfl
theorem methodImplements (h:Value) (w:World):(Go.method 660 204 (.agg #[h]) "Implements").run Tryz.prog w=.ok (396,.agg #[h]) w:=by kernel_rfl
theorem methodAssignableTo (h:Value) (w:World):(Go.method 660 204 (.agg #[h]) "AssignableTo").run Tryz.prog w=.ok (393,.agg #[h]) w:=by kernel_rfl
theorem elemP (w:World):(ReflectliteType.method ReflectliteType.elem #[.agg #[.pointer (some ⟨6,64,none⟩)]]).run Tryz.prog w=.ok (.iface 204 (.agg #[.pointer (some ⟨6,47,none⟩)])) w:=by kernel_rfl
theorem implementsE (w:World):(ReflectliteType.relation "Implements" ReflectliteType.implements_ #[.agg #[.pointer (some ⟨6,47,none⟩)],.iface 204 (.agg #[.pointer (some ⟨6,41,none⟩)])]).run Tryz.prog w=.ok (.bool true) w:=by kernel_rfl
theorem typeOfE (v:Value) (w:World):(ReflectliteType.typeOf #[.iface 47 v]).run Tryz.prog w=.ok (.iface 204 (.agg #[.pointer (some ⟨6,47,none⟩)])) w:=by kernel_rfl
theorem assignableE (w:World):(ReflectliteType.relation "AssignableTo" ReflectliteType.assignableTo #[.agg #[.pointer (some ⟨6,47,none⟩)],.iface 204 (.agg #[.pointer (some ⟨6,47,none⟩)])]).run Tryz.prog w=.ok (.bool true) w:=by kernel_rfl
theorem valueOfE (n:Int) (w:World):(ReflectliteValue.unpack (.iface 47 (.int .i64 n))).run Tryz.prog w
 = .ok (.agg #[.pointer (some ⟨6,47,none⟩),.pointer (some ⟨w.heap.size,0,none⟩),.int .u64 130]) (w.alloc (.cells #[.int .i64 n] 47)):=by kernel_rfl
theorem elemOfP (w:World):(Rtype.elem? 64).run Tryz.prog w=.ok (some 47) w:=by kernel_rfl
theorem mkE (p:Addr) (w:World):(ReflectliteValue.mk 47 p ReflectliteValue.flagAddr).run Tryz.prog w=.ok (.agg #[.pointer (some ⟨6,47,none⟩),.pointer (some p),.int .u64 386]) w:=by kernel_rfl
theorem elemVP (a p:Addr) (W:World) (ha:W.cell? a=some (.pointer (some p))) :
 (ReflectliteValue.method (ReflectliteValue.valueError "reflectlite.Value.Elem" 0) ReflectliteValue.elem #[.agg #[.pointer (some ⟨6,64,none⟩),.pointer (some a),.int .u64 150]]).run Tryz.prog W
  = .ok (.agg #[.pointer (some ⟨6,47,none⟩),.pointer (some p),.int .u64 386]) W:=by
 rw[rlm]
 simp only[Sem.run_bind,partsP,Result.andThen]
 simp[ReflectliteValue.elem,loadVar,isAgg,underlying,Tryz.underlying64,ha,Result.andThen,elemOfP,mkE]
theorem rls (v x:Value):ReflectliteValue.set #[v,x]=(do
 let (some (dst,a,fl),some (src,b,_)):=(←ReflectliteValue.parts v,←ReflectliteValue.parts x)
  | unsupported (.noEntry "extern/(internal/reflectlite.Value).Set.zeroValue")
 if fl/ReflectliteValue.flagAddr%2==0 then unsupported (.noEntry "extern/(internal/reflectlite.Value).Set.unaddressable")
 let val ←loadVar src b
 if ←Rtype.directlyAssignable dst src then storeVar dst a val
 else if ←Rtype.implements dst src then
  if (←Rtype.kind src)==20 then
   match val with
   | .nilIface=>unsupported (.noEntry "extern/reflectlite: a nil value of one interface type handed on as a value of another")
   | _=>storeVar dst a val
  else storeVar dst a (.iface src val)
 else panicString ("reflectlite.Set: value of type " ++(←Rtype.spelt src)++ " is not assignable to type " ++(←Rtype.spelt dst))
 pure (.tuple #[])):=rfl
theorem partsEa (a:Addr) (w:World):(ReflectliteValue.parts (.agg #[.pointer (some ⟨6,47,none⟩),.pointer (some a),.int .u64 386])).run Tryz.prog w=.ok (some (47,a,386)) w:=by kernel_rfl
theorem partsE (a:Addr) (w:World):(ReflectliteValue.parts (.agg #[.pointer (some ⟨6,47,none⟩),.pointer (some a),.int .u64 130])).run Tryz.prog w=.ok (some (47,a,130)) w:=by kernel_rfl
theorem directE (w:World):(Rtype.directlyAssignable 47 47).run Tryz.prog w=.ok true w:=by kernel_rfl
theorem setE (ta b:Addr) (n:Int) (old:Value) (W:World) (hb:W.cell? b=some (.int .i64 n)) (ht:W.cell? ta=some old) (hf:W.frozen? ta=false) :
 (ReflectliteValue.set #[.agg #[.pointer (some ⟨6,47,none⟩),.pointer (some ta),.int .u64 386],.agg #[.pointer (some ⟨6,47,none⟩),.pointer (some b),.int .u64 130]]).run Tryz.prog W
  = .ok (.tuple #[]) (W.setCell ta (.int .i64 n)):=by
 rw[rls]
 simp only[Sem.run_bind,partsEa,partsE,Result.andThen]
 simp[ReflectliteValue.flagAddr,loadVar,isAgg,underlying,Tryz.underlying47,hb,Result.andThen,directE,storeVar,Value.cells,storeCells,Addr.add]
 rw[run_store Tryz.prog W ta _ _ (by rfl)]
 simp[ht,hf]
end Rl
def ErrVar (w:World):Prop:=w.cell? ⟨0,0,none⟩=some (.iface 204 (.agg #[.pointer (some ⟨6,41,none⟩)]))
theorem ErrVar.lt {w:World} (h:ErrVar w):0<w.heap.size:=by
 have:=World.block_lt_of_cell? _ _ h
 simpa using this
theorem ErrVar.bel {w w':World} (h:ErrVar w) (hb:Bel w w'):ErrVar w':=(hb.cell (p:=⟨0,0,none⟩) h.lt).trans h
theorem ErrVar.below {B:Nat} {w w':World} (h:ErrVar w) (hB:0<B) (hb:Below B w w'):ErrVar w':=(hb.cell (p:=⟨0,0,none⟩) hB).trans h
theorem tell_nil (w:World):Calls Tryz.prog 8 #[.nilIface] w λe w'=>e=.returned (.int .i64 0)∧Bel w w':=by
 go_enter Tryz.func8,Tryz.ntmps8
 go_wp2
 go_ret
 exact⟨rfl,(Below.refl _ _).alloc (Nat.le_refl _) _⟩
theorem as_errno (n:Int) (t a:Addr) (old:Value) (w:World) (ha:w.cell? a=some (.pointer (some t))) (ht0:w.cell? t=some old) (hf0:w.frozen? t=false) :
 Calls Tryz.prog 39 #[.iface 47 (.int .i64 n),.iface 64 (.pointer (some t)),.agg #[.pointer (some ⟨6,64,none⟩),.pointer (some a),.int .u64 150],.iface 204 (.agg #[.pointer (some ⟨6,47,none⟩)])] w
  λev w'=>ev=.returned (.bool true)∧∃W1,Below w.heap.size w W1∧w'=W1.setCell t (.int .i64 n):=by
 have h76:=@run_callFunc_extern Tryz.prog 36 _ (λargs=>ReflectliteValue.unpack (args.getD 0 (.tuple #[]))) Tryz.func36 (by kernel_rfl) (by kernel_rfl) (by kernel_rfl) (by kernel_rfl)
 have h114:=@run_callFunc_extern Tryz.prog 73 _ ReflectliteType.typeOf Tryz.func73 (by kernel_rfl) (by kernel_rfl) (by kernel_rfl) (by kernel_rfl)
 have h411:=@run_callFunc_extern Tryz.prog 393 _ (ReflectliteType.relation "AssignableTo" ReflectliteType.assignableTo) Tryz.func393 (by kernel_rfl) (by kernel_rfl) (by kernel_rfl) (by kernel_rfl)
 have h115:=@run_callFunc_extern Tryz.prog 74 _ (ReflectliteValue.method (ReflectliteValue.valueError "reflectlite.Value.Elem" 0) ReflectliteValue.elem) Tryz.func74 (by kernel_rfl) (by kernel_rfl) (by kernel_rfl) (by kernel_rfl)
 have h116:=@run_callFunc_extern Tryz.prog 75 _ ReflectliteValue.set Tryz.func75 (by kernel_rfl) (by kernel_rfl) (by kernel_rfl) (by kernel_rfl)
 have tO:=Rl.typeOfE
 have mA:=Rl.methodAssignableTo
 have aE:=Rl.assignableE
 have vE:=Rl.valueOfE
 have htl:t.block<w.heap.size:=World.block_lt_of_cell? _ _ ht0
 have hal:a.block<w.heap.size:=World.block_lt_of_cell? _ _ ha
 have el:=Rl.elemVP a t (w.alloc (.cells #[.pointer (some ⟨6,64,none⟩),.pointer (some a),.int .u64 150] 127)) (by rw[World.cell?_alloc_lt _ _ a hal];exact ha)
 have st:=Rl.setE t ⟨w.heap.size+1,0,none⟩ n old ((w.alloc (.cells #[.pointer (some ⟨6,64,none⟩),.pointer (some a),.int .u64 150] 127)).alloc (.cells #[.int .i64 n] 47))
  (by rw[World.cell?_alloc_at _ _ _ _ (by simp)];rfl)
  (by rw[World.cell?_alloc_lt _ _ t (by simp;omega),World.cell?_alloc_lt _ _ t htl];exact ht0)
  (by rw[World.frozen?_alloc_old _ _ t (by simp;omega),World.frozen?_alloc_old _ _ t (Nat.ne_of_lt htl)];exact hf0)
 go_enter Tryz.func39,Tryz.ntmps39
 go_wp2
 refine wp_loop_rounds 1 ?_
 rw[rounds_succ]
 go_wp2
 go_ret
 exact⟨rfl,_,((Below.refl _ _).alloc (Nat.le_refl _) _).alloc (by simp) _,rfl⟩
def AsHit (x:Value) (n:Int) (w0:World):Prop:=∀(w:World) (t a:Addr) (old:Value),Below w0.heap.size w0 w→w.cell? a=some (.pointer (some t))→w.cell? t=some old→w.frozen? t=false→
 Calls Tryz.prog 39 #[x,.iface 64 (.pointer (some t)),.agg #[.pointer (some ⟨6,64,none⟩),.pointer (some a),.int .u64 150],.iface 204 (.agg #[.pointer (some ⟨6,47,none⟩)])] w
  λev w'=>ev=.returned (.bool true)∧∃W1,Below w.heap.size w W1∧w'=W1.setCell t (.int .i64 n)
theorem As_hit (u:TypeId) (v:Value) (n:Int) (t:Addr) (old:Value) (w:World) (hx:AsHit (.iface u v) n w) (hg:ErrVar w) (ht0:w.cell? t=some old) (hf0:w.frozen? t=false) :
 Calls Tryz.prog 14 #[.iface u v,.iface 64 (.pointer (some t))] w
  λev w'=>ev=.returned (.bool true)∧∃W1,Below w.heap.size w W1∧w'=W1.setCell t (.int .i64 n):=by
 have h76:=@run_callFunc_extern Tryz.prog 36 _ (λargs=>ReflectliteValue.unpack (args.getD 0 (.tuple #[]))) Tryz.func36 (by kernel_rfl) (by kernel_rfl) (by kernel_rfl) (by kernel_rfl)
 have h77:=@run_callFunc_extern Tryz.prog 37 _ (ReflectliteValue.methodAny (ReflectliteValue.valueError "reflectlite.Value.Type" 0) (λt _ _ _=>ReflectliteType.toType t)) Tryz.func37 (by kernel_rfl) (by kernel_rfl) (by kernel_rfl) (by kernel_rfl)
 have h78:=@run_callFunc_extern Tryz.prog 38 _ (ReflectliteValue.method (ReflectliteValue.valueError "reflectlite.Value.IsNil" 0) ReflectliteValue.isNil) Tryz.func38 (by kernel_rfl) (by kernel_rfl) (by kernel_rfl) (by kernel_rfl)
 have h388:=@run_callFunc_extern Tryz.prog 374 _ (ReflectliteType.abiMethod λt=>do pure (.int .u8 (←Rtype.kind t))) Tryz.func374 (by kernel_rfl) (by kernel_rfl) (by kernel_rfl) (by kernel_rfl)
 have h413:=@run_callFunc_extern Tryz.prog 395 _ (ReflectliteType.method ReflectliteType.elem) Tryz.func395 (by kernel_rfl) (by kernel_rfl) (by kernel_rfl) (by kernel_rfl)
 have h414:=@run_callFunc_extern Tryz.prog 396 _ (ReflectliteType.relation "Implements" ReflectliteType.implements_) Tryz.func396 (by kernel_rfl) (by kernel_rfl) (by kernel_rfl) (by kernel_rfl)
 have f6:=Rl.valueOfP
 have f7:=Rl.typeP
 have mK:=Rl.methodKind
 have mE:=Rl.methodElem
 have mI:=Rl.methodImplements
 have kP:=Rl.kindP
 have kE:=Rl.kindE
 have eP:=Rl.elemP
 have iE:=Rl.implementsE
 have n8:=Rl.isNilP ⟨w.heap.size,0,none⟩ t ((w.alloc (.cells #[.pointer (some t)] 64)).alloc (.cells #[.pointer (some ⟨6,64,none⟩),.pointer (some ⟨w.heap.size,0,none⟩),.int .u64 150] 127)) (by simp)
 have hlt:=hg.lt
 have htl:t.block<w.heap.size:=World.block_lt_of_cell? _ _ ht0
 have hg2:((w.alloc (.cells #[.pointer (some t)] 64)).alloc (.cells #[.pointer (some ⟨6,64,none⟩),.pointer (some ⟨w.heap.size,0,none⟩),.int .u64 150] 127)).cell? ⟨0,0,none⟩=some (.iface 204 (.agg #[.pointer (some ⟨6,41,none⟩)])):=by
  rw[World.cell?_alloc_lt _ _ ⟨0,0,none⟩ (by simp<;>omega),World.cell?_alloc_lt _ _ ⟨0,0,none⟩ hlt];exact hg
 have hc:=hx ((w.alloc (.cells #[.pointer (some t)] 64)).alloc (.cells #[.pointer (some ⟨6,64,none⟩),.pointer (some ⟨w.heap.size,0,none⟩),.int .u64 150] 127)) t ⟨w.heap.size,0,none⟩ old
  (((Below.refl _ _).alloc (Nat.le_refl _) _).alloc (by simp) _) (by rw[World.cell?_alloc_lt _ _ ⟨w.heap.size,0,none⟩ (by simp)];simp)
  (by rw[World.cell?_alloc_lt _ _ t (by simp;omega),World.cell?_alloc_lt _ _ t htl];exact ht0)
  (by rw[World.frozen?_alloc_old _ _ t (by simp;omega),World.frozen?_alloc_old _ _ t (Nat.ne_of_lt htl)];exact hf0)
 have HC:=xh hc
 clear hc hx
 go_enter Tryz.func14,Tryz.ntmps14
 go_wp2_with (go_at_call 39;refine HC.out.mono ?_;rintro e w' ⟨rfl,W1,hb,rfl⟩)
 go_ret
 exact⟨rfl,W1,(((Below.refl _ _).alloc (Nat.le_refl _) _).alloc (by simp) _).trans (hb.mono (by simp;omega)),rfl⟩
theorem asHit_errno (n:Int) (w:World):AsHit (.iface 47 (.int .i64 n)) n w:=λw' t a old _ ha ht hf=>as_errno n t a old w' ha ht hf
theorem tell_hit (u:TypeId) (v:Value) (n:Int) (w:World) (hx:AsHit (.iface u v) n w) (hg:ErrVar w) :
 Calls Tryz.prog 8 #[.iface u v] w λe w'=>e=.returned (.int .i64 n)∧Bel w w':=by
 have hlt:=hg.lt
 have hc:=As_hit u v n ⟨w.heap.size,0,none⟩ (.int .i64 0) (w.alloc (.cells #[.int .i64 0] 47)) (λw' t a old hb=>hx w' t a old (((Below.refl _ _).alloc (Nat.le_refl _) _).trans (hb.mono (by simp))))
  (hg.below hlt ((Below.refl _ _).alloc (Nat.le_refl _) _)) (by simp) (by simp)
 have HC:=xh hc
 clear hc hx
 go_enter Tryz.func8,Tryz.ntmps8
 go_wp2_with fail
 refine HC.out.mono ?_
 rintro e w' ⟨rfl,W1,hb,rfl⟩
 have hs:(W1.setCell ⟨w.heap.size,0,none⟩ (.int .i64 n)).cell? ⟨w.heap.size,0,none⟩=some (.int .i64 n):=World.cell?_setCell_same W1 _ _ ((hb.cell (p:=⟨w.heap.size,0,none⟩) (by simp)).trans (by simp;rfl))
 go_wp2
 go_ret
 exact⟨rfl,(((Below.refl _ _).alloc (Nat.le_refl _) _).trans (hb.mono (by simp))).setCell (Nat.le_refl _) _⟩
end Go.Proofs.YtjdaddmjpicflaaGreatDoor
