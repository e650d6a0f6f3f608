/-.-/
import Derived.Test.YtcnjjchlebmfiaaGreatDoorP00
import Derived.WalkKit
import Derived.Maps.Own
import Derived.Lib.EndianBits
import Derived.Test.YtcnjjchlebmfiaaGreatDoorProg
import Derived.BigQuiet
import Derived.Laws.CopyOwn
set_option linter.unusedVariables false
set_option linter.unusedSimpArgs false
set_option maxRecDepth 100000
set_option maxHeartbeats 16000000
namespace Go.Proofs.YtcnjjchlebmfiaaGreatDoor
section
open Go.RowKit
def Blk(w:World)(b:Nat)(c:List Value)(t:TypeId):Prop:=w.heap[b]?=some (.cells c.toArray t (0,0))
theorem Blk.lt{w:World}{b:Nat}{c:List Value}{t:TypeId}(h:Blk w b c t):b<w.heap.size:=(Array.getElem?_eq_some_iff.1 h).1
theorem Blk.cell{w:World}{b:Nat}{c:List Value}{t:TypeId}(h:Blk w b c t)(o:Nat):w.cell? (b,o)=c[o]?:=by
 unfold Blk at h;simp[World.cell?,h]
theorem Blk.c{w:World}{b:Nat}{c:List Value}{t:TypeId}(h:Blk w b c t)(o:Nat){v:Value}(e:c[o]?=some v):w.cell? ⟨b,o,none⟩=some v:=(h.cell o).trans e
theorem Blk.frozen{w:World}{b:Nat}{c:List Value}{t:TypeId}(h:Blk w b c t)(o:Nat):w.frozen? (b,o)=false:=by
 unfold Blk at h;simp only[World.frozen?,h]
 simp
theorem Blk.below{w w':World}{B b:Nat}{c:List Value}{t:TypeId}(h:Blk w b c t)(hb:Below B w w')(hB:b<B):Blk w' b c t:=(hb.block b hB).trans h
theorem Blk.new(w:World)(c:List Value)(t:TypeId):Blk (w.alloc (.cells c.toArray t)) w.heap.size c t:=by
 show(w.heap.push _)[w.heap.size]?=_
 simp
theorem Blk.aT(w:World)(c:List Value)(t:TypeId){n:Nat}(hn:w.heap.size=n):Blk (w.alloc (.cells c.toArray t)) n c t:=hn▸Blk.new w c t
theorem Blk.alloc{w:World}{b:Nat}{c:List Value}{t:TypeId}(h:Blk w b c t)(o:Obj):Blk (w.alloc o) b c t:=
 (Below.heap_alloc w o b h.lt).trans h
theorem Blk.setCell{w:World}{b o:Nat}{c:List Value}{t:TypeId}(h:Blk w b c t)(v:Value):Blk (w.setCell (b,o) v) b (c.set o v) t:=by
 unfold Blk at *
 simp only[World.setCell,Array.getElem?_modify,h]
 simp
theorem Blk.aA{w:World}{b:Nat}{a:Addr}{c:List Value}{t:TypeId}(h:Blk w b c t)(hne:b≠a.block)(v:Value):Blk (w.setCell a v) b c t:=
 (Below.heap_setCell w a v b hne).trans h
theorem Blk.drew{w:World}{b:Nat}{c:List Value}{t:TypeId}(h:Blk w b c t):Blk w.drew b c t:=h
def Bel(w w1:World):Prop:=Below w.heap.size w w1
instance (v w):CoeDep Z (.b v w) (Ending→World→Prop):=⟨λe w'=>e=.returned v∧Bel w w'⟩
theorem Bel.refl(w:World):Bel w w:=Below.refl _ _
theorem Bel.tr{w w1 w2:World}(h:Bel w w1)(k:Bel w1 w2):Bel w w2:=Below.trans h (Below.mono k h.size)
theorem Bel.ac{w w1:World}(h:Bel w w1)(o:Obj):Bel w (w1.alloc o):=Below.alloc h h.size o
theorem Bel.start(w:World)(o:Obj):Bel w (w.alloc o):=(Below.refl _ _).alloc (bH _) o
theorem Bel.le{w w1:World}(h:Bel w w1):w.heap.size≤w1.heap.size:=h.size
theorem Bel.store{w w1:World}(h:Bel w w1){p:Addr}(hp:w.heap.size≤p.block)(u:Value):Bel w (w1.setCell p u):=Below.setCell h hp u
theorem Bel.drew{w w1:World}(h:Bel w w1):Bel w w1.drew:=Below.drew h
theorem Blk.bel{w w':World}{b:Nat}{c:List Value}{t:TypeId}(h:Blk w b c t)(hb:Bel w w'):Blk w' b c t:=h.below hb h.lt
end
section
open Go.RowKit Go.MapKept Go.Maps
open Go.ChangeMaps (setBlock heap_setBlock_same heap_setBlock_other)
structure jY(P:Program)(k:TypeId)(α:Type) where
 kf:α→Value
 kl:α→Lit
 ok:α→Prop
 read:∀a,ok a→keyOf P k (kf a)=some (kl a)
 inj:∀a b,kf a=kf b→a=b
def Pj{P:Program}{k:TypeId}(hk:P.underlying k=some (.int .i64)):jY P k Int:=
 ⟨.int .i64,.int .i64,λa=>(Lit.int .i64 a).wf=true,λ_ h=>keyOf_int_mk hk h,λa b h=>by injection h⟩
section
variable {P:Program} {k:TypeId} {α:Type}
def Mp(E:jY P k α)(w:World)(b:Nat)(kv:List (α×Value)):Prop:=
 ∃es clock,w.heap[b]?=some (.map es clock)∧Stamped es clock∧es.toList.map (λe=>(e.key,e.val))=kv.map (λp=>(E.kf p.1,p.2))∧∀p∈kv,E.ok p.1
variable {E:jY P k α} {w:World} {b:Nat} {kv:List (α×Value)}
theorem Mp.lt(h:Mp E w b kv):b<w.heap.size:=by
 obtain⟨es,clock,hb,_⟩:=h;exact(Array.getElem?_eq_some_iff.1 hb).1
theorem Mp.of_block{w':World}(h:Mp E w b kv)(hb:w'.heap[b]?=w.heap[b]?):Mp E w' b kv:=by
 obtain⟨es,clock,h1,h2⟩:=h;exact⟨es,clock,hb.trans h1,h2⟩
theorem Mp.bel{w':World}(h:Mp E w b kv)(hb:Bel w w'):Mp E w' b kv:=h.of_block (hb.block b h.lt)
theorem Mp.alloc(h:Mp E w b kv)(o:Obj):Mp E (w.alloc o) b kv:=h.bel (Bel.start w o)
theorem Mp.setCell{a:Addr}(h:Mp E w b kv)(v:Value):Mp E (w.setCell a v) b kv:=by
 obtain⟨es,clock,h1,h2⟩:=h;refine⟨es,clock,?_,h2⟩;by_cases e:b=a.block
 ·subst e
  simp only[World.setCell,Array.getElem?_modify,h1]
  simp
 ·exact(Below.heap_setCell w a v b e).trans h1
theorem Mp.new(E:jY P k α)(w:World):Mp E (w.alloc (.map #[] 0)) w.heap.size []:=
 ⟨#[],0,(heap_alloc w _).1,stamped_empty 0,rfl,λ_ h=>by cases h⟩
theorem Mp.nodup(h:Mp E w b kv):(kv.map Prod.fst).Nodup:=by
 obtain⟨es,clock,h1,⟨_,_,h2⟩,h3,_⟩:=h;have e:es.toList.map (·.key)=(kv.map Prod.fst).map E.kf:=by
  have:=congrArg (List.map Prod.fst) h3
  simpa [List.map_map,Function.comp_def]using this
 rw[e]at h2;exact List.Pairwise.of_map E.kf (λa b hab e=>hab (congrArg E.kf e)) h2
theorem Mp.Ym(h:Mp E w b kv):∀p∈kv,E.ok p.1:=by
 obtain⟨es,clock,_,_,_,h⟩:=h;exact h
theorem NR{es:Array MapEntry}(h3:es.toList.map (λe=>(e.key,e.val))=kv.map (λp=>(E.kf p.1,p.2)))(h4:∀p∈kv,E.ok p.1):∀e∈es.toList,∃l,keyOf P k e.key=some l:=by
 intro e he;have hm:(e.key,e.val)∈kv.map (λp=>(E.kf p.1,p.2)):=by rw[←h3];exact List.mem_map.2 ⟨e,he,rfl⟩
 obtain⟨p,hp,hpe⟩:=List.mem_map.1 hm;have:e.key=E.kf p.1:=by injection hpe with h1 _;exact h1.symm
 exact⟨_,by rw[this];exact E.read _ (h4 p hp)⟩
theorem Mp.find(K:Keyed P k)(h:Mp E w b kv)(a:α)(ha:E.ok a):∃es clock,w.heap[b]?=some (.map es clock)∧Stamped es clock∧es.toList.map (λe=>(e.key,e.val))=kv.map (λp=>(E.kf p.1,p.2))∧
 ((a∉kv.map Prod.fst∧(∀e∈es.toList,e.key≠E.kf a)∧∀w,(Instr.findKey k (E.kf a) es.toList).run P w=.ok none w)∨
  ∃j v,(kv.map Prod.fst)[j]?=some a∧kv[j]?=some (a,v)∧(∃e,es[j]?=some e∧e.key=E.kf a)∧∀w,(Instr.findKey k (E.kf a) es.toList).run P w=.ok (some (j,v)) w):=by
 have Rk:=h.nodup;obtain⟨es,clock,h1,h2,h3,h4⟩:=h;refine⟨es,clock,h1,h2,h3,?_⟩;have hk:=NR h3 h4;have Rm:∀(j:Nat) (e:MapEntry),es[j]?=some e→∃p,kv[j]?=some p∧e.key=E.kf p.1∧e.val=p.2:=by
  intro j e he;have h5:(es.toList.map (λe=>(e.key,e.val)))[j]?=some (e.key,e.val):=by
   rw[dA,Array.getElem?_toList,he];rfl
  rw[h3,dA]at h5;obtain⟨p,hp,hpe⟩:=Option.map_eq_some_iff.1 h5
  injection hpe with e1 e2
  exact⟨p,hp,e1.symm,e2.symm⟩
 rcases K.find w (E.read a ha) es.toList hk with⟨h5,h6⟩|⟨j,e,h5,h6,h7⟩
 ·left
  refine⟨?_,h6,λw'=>?_⟩
  ·intro hm
   obtain⟨p,hp,rfl⟩:=List.mem_map.1 hm;have hm:(E.kf p.1,p.2)∈es.toList.map (λe=>(e.key,e.val)):=by rw[h3];exact List.mem_map.2 ⟨p,hp,rfl⟩
   obtain⟨e,he,hee⟩:=List.mem_map.1 hm
   injection hee with e1 _
   exact h6 e he e1
  ·rcases K.find w' (E.read a ha) es.toList hk with⟨h5',_⟩|⟨j,e,_,h6',h7'⟩
   ·exact h5'
   ·exact absurd h7' (h6 e (List.mem_of_getElem? h6'))
 ·right
  rw[Array.getElem?_toList]at h6;obtain⟨p,hp,hpk,hpv⟩:=Rm j e h6;have hpa:p.1=a:=E.inj _ _ (hpk.symm.trans h7);refine⟨j,e.val,by rw[dA,hp];simp[hpa],by rw[hp,hpv,←hpa],⟨e,h6,h7⟩,λw'=>?_⟩;rcases K.find w' (E.read a ha) es.toList hk with⟨_,h6'⟩|⟨j',e',h5',h6',h7'⟩
  ·exact absurd h7 (h6' e (by rw[←Array.getElem?_toList]at h6;exact List.mem_of_getElem? h6))
  ·rw[Array.getElem?_toList]at h6'
   obtain⟨p',hp',hpk',_⟩:=Rm j' e' h6';have adj:p'.1=a:=E.inj _ _ (hpk'.symm.trans h7');have hj:j'=j:=by
    have g1:(kv.map Prod.fst)[j']?=some a:=by rw[dA,hp'];simp[adj]
    have g2:(kv.map Prod.fst)[j]?=some a:=by rw[dA,hp];simp[hpa]
    have l1:=(bZ g1).1;exact(List.getElem?_inj l1 Rk).1 (g1.trans g2.symm)
   subst hj;rw[h6]at h6';cases h6'
   exact h5'
variable [DecidableEq α]
def ni(kv:List (α×Value))(a:α)(v:Value):List (α×Value):=
 if a∈kv.map Prod.fst then kv.map (λp=>if p.1=a then(a,v)else p)else kv++[(a,v)]
def dD(kv:List (α×Value))(a:α):Option Value:=(kv.find? λp=>decide (p.1=a)).map Prod.snd
theorem Jo{a:α}(h:a∉kv.map Prod.fst):dD kv a=none:=by
 unfold dD;rw[Option.map_eq_none_iff,List.find?_eq_none];intro p hp;simp only[decide_eq_true_eq]
 rintro rfl;exact h (List.mem_map.2 ⟨p,hp,rfl⟩)
theorem nW{a:α}{v:Value}(hn:(kv.map Prod.fst).Nodup)(h:(a,v)∈kv):dD kv a=some v:=by
 induction kv with
 | nil=>cases h
 | cons p r ih=>
   simp only[List.map_cons,List.nodup_cons]at hn
   unfold dD;rw[List.find?_cons];by_cases hp:p.1=a
   ·simp only[hp,decide_true,Option.map_some]
    rcases List.mem_cons.1 h with rfl|h
    ·rfl
    ·exact absurd (List.mem_map.2 ⟨(a,v),h,hp.symm⟩) hn.1
   ·simp only[hp,decide_false]
    rcases List.mem_cons.1 h with rfl|h
    ·exact absurd rfl hp
    ·exact ih hn.2 h
variable {t e:TypeId}
theorem Mp.lookup(K:Keyed P k)(ht:P.underlying t=some (.map k e))(h:Mp E w b kv)(a:α)(ha:E.ok a)(c:Bool){z:Value}(hz:(zeroValue e).run P w=.ok z w) :
 (Instr.lookup t (.map (some b)) (E.kf a) c).run P w=.ok (if c then .tuple #[(dD kv a).getD z,.bool (dD kv a).isSome]else(dD kv a).getD z) w:=by
 have Rk:=h.nodup;obtain⟨es,clock,h1,h2,h3,h4⟩:=h.find K a ha;rcases h4 with⟨hn,_,hr⟩|⟨j,v,hj,hjv,_,hr⟩
 ·rw[Jo hn]
  simp[Instr.lookup,run_underlying ht,MapKept.run_getObj_map h1,K.check w _ (E.read a ha),hr,hz,Result.andThen]
 ·rw[nW Rk (List.mem_of_getElem? hjv)]
  simp[Instr.lookup,run_underlying ht,MapKept.run_getObj_map h1,K.check w _ (E.read a ha),hr,Result.andThen]
theorem Mp.update(K:Keyed P k)(ht:P.underlying t=some (.map k e))(h:Mp E w b kv)(a:α)(ha:E.ok a)(v:Value) :
 ∃es' clock',(Instr.mapUpdate t (.map (some b)) (E.kf a) v).run P w=.ok () (setBlock w b (.map es' clock'))∧Mp E (setBlock w b (.map es' clock')) b (ni kv a v):=by
 have Rk:=h.nodup;have hok:=h.Ym;obtain⟨es,clock,h1,h2,h3,h4⟩:=h.find K a ha;rcases h4 with⟨hn,hne,hr⟩|⟨j,v0,hj,hjv,⟨e0,he0,hek⟩,hr⟩
 ·refine⟨es.push ⟨E.kf a,v,clock⟩,clock+1,?_,_,_,heap_setBlock_same h1 _,stamped_push h2 hne,?_,?_⟩
  ·simp[Instr.mapUpdate,run_underlying ht,MapKept.run_getObj_map h1,K.check w false (E.read a ha),hr,MapKept.run_setObj_map _ h1,Result.andThen,setBlock]
  ·simp[ni,hn,h3]
  ·intro p hp
   simp only[ni,hn,if_false,List.mem_append,List.mem_singleton]at hp
   rcases hp with hp|rfl
   ·exact hok p hp
   ·exact ha
 ·have hm:a∈kv.map Prod.fst:=List.mem_of_getElem? hj
  refine⟨es.modify j λx=>{x with key:=E.kf a,val:=v},clock,?_,_,_,heap_setBlock_same h1 _,stamped_modify h2 j _ (λ_ _=>rfl) (λx _ hx=>by rw[he0]at hx;cases hx;exact hek.symm),?_,?_⟩
  ·simp[Instr.mapUpdate,run_underlying ht,MapKept.run_getObj_map h1,K.check w false (E.read a ha),hr,he0,hek,K.stays w (E.read a ha),MapKept.run_setObj_map _ h1,Result.andThen,setBlock]
  ·have hj':j<kv.length:=(bZ hjv).1
   apply List.ext_getElem?
   intro i;have oL:(es.toList.map (λe=>(e.key,e.val)))[i]?=(kv.map (λp=>(E.kf p.1,p.2)))[i]?:=by rw[h3]
   simp only[dA,Array.getElem?_toList]at oL
   simp only[ni,hm,if_true,dA,Array.getElem?_toList,Array.getElem?_modify,Option.map_map]
   by_cases hij:j=i
   ·subst hij
    simp only[if_true,he0,hjv,Option.map_some,Function.comp_def]
   ·simp only[hij,if_false]
    rw[oL];cases hki:kv[i]? with
    | none=>rfl
    | some p=>
      have hpa:¬p.1=a:=by
       intro e;have g1:(kv.map Prod.fst)[i]?=some a:=by rw[dA,hki];simp[e]
       have l1:=(bZ hj).1;exact hij ((List.getElem?_inj l1 Rk).1 (hj.trans g1.symm))
      simp[hpa]
  ·intro p hp
   simp only[ni,hm,if_true,List.mem_map]at hp
   obtain⟨q,hq,rfl⟩:=hp;by_cases hqa:q.1=a
   ·simpa [hqa]using ha
   ·simpa [hqa]using hok q hq
theorem vJ(kv:List (α×Value))(a:α)(v:Value):dD (ni kv a v) a=some v:=by
 unfold ni;split
 ·rename_i hm
  unfold dD
  induction kv with
  | nil=>cases hm
  | cons p r ih=>
    by_cases hp:p.1=a
    ·simp[List.find?_cons,hp]
    ·simp only[List.map_cons,List.mem_cons]at hm
     rcases hm with e|hm
     ·exact absurd e.symm hp
     ·simp only[List.map_cons,hp,if_false,List.find?_cons,decide_false]
      exact ih hm
 ·rename_i hm
  unfold dD;rw[List.find?_append];have:(kv.find? λp=>decide (p.1=a))=none:=by
   rw[List.find?_eq_none];intro p hp;simp only[decide_eq_true_eq]
   rintro rfl;exact hm (List.mem_map.2 ⟨p,hp,rfl⟩)
  simp[this]
theorem uo(kv:List (α×Value)){a c:α}(h:c≠a)(v:Value):dD (ni kv a v) c=dD kv c:=by
 unfold ni;split
 ·unfold dD
  induction kv with
  | nil=>rfl
  | cons p r ih=>
    by_cases hp:p.1=a
    ·have h1:¬a=c:=λe=>h e.symm
     by_cases hm:a∈r.map Prod.fst
     ·simp only[List.map_cons,hp,if_true,List.find?_cons,h1,decide_false];exact ih hm
     ·simp only[List.map_cons,hp,if_true,List.find?_cons,h1,decide_false]
      congr 1
      have:r.map (λp=>if p.1=a then(a,v)else p)=r:=by
       conv=>rhs;rw[←List.map_id r]
       apply List.map_congr_left
       intro q hq;have:¬q.1=a:=λe=>hm (List.mem_map.2 ⟨q,hq,e⟩);simp[this]
      rw[this]
    ·by_cases hc:p.1=c
     ·have h1:¬c=a:=h
      simp[List.find?_cons,hc,h1]
     ·rename_i hm
      simp only[List.map_cons,List.mem_cons]at hm
      rcases hm with e|hm
      ·exact absurd e.symm hp
      ·simp only[List.map_cons,hp,if_false,List.find?_cons,hc,decide_false]
       exact ih hm
 ·unfold dD
  rw[List.find?_append];have h1:¬a=c:=λe=>h e.symm;simp[h1]
end
end
section
open Go.RowKit
end
section
open Go.Proofs.Tryz Go.RowKit Go.Maps
def fP(b:Int):Prop:=0≤b∧b≤255
structure Pg where
 perm:Int
 bytes:List Int
structure Pg.wf(p:Pg):Prop where
 len:p.bytes.length=256
 byte:∀x∈p.bytes,fP x
 perm:0≤p.perm∧p.perm≤7
def Pg.cells(p:Pg):List Value:=.int .u8 p.perm::p.bytes.map (Value.int .u8)
def Pg.v(p:Pg):Value:=.agg p.cells.toArray
def Pg.zero:Pg:=⟨0,List.replicate 256 0⟩
theorem Pg.sZ:Pg.zero.wf:=⟨by simp[Pg.zero],by simp[Pg.zero,fP],by simp[Pg.zero]⟩
noncomputable def nV:jY prog 3 Int:=Pj underlying3
theorem mM:Keyed prog 3:=int_keyed underlying3
abbrev aU:=Nat→Option Pg
structure l9(m:aU):Prop where
 below:∀n,256≤n→m n=none
 wf:∀n p,m n=some p→p.wf
def Sp(w:World)(b:Nat)(m:aU):Prop:=
 ∃kv,Mp nV w b kv∧(∀n:Nat,dD kv (n:Int)=(m n).map Pg.v)∧∀p∈kv,0≤p.1
theorem Sp.lt{w:World}{b:Nat}{m:aU}(h:Sp w b m):b<w.heap.size:=by
 obtain⟨kv,h,_⟩:=h;exact h.lt
theorem Sp.of_block{w w':World}{b:Nat}{m:aU}(h:Sp w b m)(hb:w'.heap[b]?=w.heap[b]?):Sp w' b m:=by
 obtain⟨kv,h1,h2⟩:=h;exact⟨kv,h1.of_block hb,h2⟩
theorem Sp.bel{w w':World}{b:Nat}{m:aU}(h:Sp w b m)(hb:Bel w w'):Sp w' b m:=h.of_block (hb.block b h.lt)
theorem Sp.alloc{w:World}{b:Nat}{m:aU}(h:Sp w b m)(o:Obj):Sp (w.alloc o) b m:=h.bel (Bel.start w o)
theorem Sp.setCell{w:World}{b:Nat}{m:aU}{a:Addr}(h:Sp w b m)(v:Value):Sp (w.setCell a v) b m:=by
 obtain⟨kv,h1,h2⟩:=h;exact⟨kv,h1.setCell v,h2⟩
theorem pE(w:World):(zeroValue 187).run prog w=.ok Pg.zero.v w:=by
 have:Pg.zero.v=.agg (.int .u8 0::(List.replicate 256 (Value.int .u8 0))).toArray:=by simp[Pg.v,Pg.cells,Pg.zero]
 rw[this];exact(by kernel_rfl:(zeroValue 187).run prog w=.ok (.agg (.int .u8 0::(List.replicate 256 (Value.int .u8 0))).toArray) w)
theorem Sp.lookup{w:World}{b:Nat}{m:aU}(h:Sp w b m)(n:Nat)(hn:n<9223372036854775808) :
 (Instr.lookup 113 (.map (some b)) (.int .i64 n) false).run prog w=.ok ((m n).getD Pg.zero).v w:=by
 obtain⟨kv,h1,h2,_⟩:=h;have:=h1.lookup mM underlying113 (n:Int) (WalkArith.wf_i64 (by omega)) false (pE w);simp only[Bool.false_eq_true,if_false]at this
 rw[h2 n]at this;rw[show Value.int .i64 (n:Int)=(nV).kf (n:Int)from rfl,this];cases m n<;>rfl
theorem zn(p:Pg)(w:World):(Instr.field 187 p.v 0).run prog w=.ok (.int .u8 p.perm) w:=by
 kernel_rfl
def Pg.can(p:Pg)(perm:Int):Bool:=!(bits .and .u8 p.perm perm==0)
def pG(m:aU)(n:Nat)(perm:Int):Bool:=((m n).getD Pg.zero).can perm
def mP(m:aU)(perm:Int)(first last:Nat):Bool:=(List.range (last-first)).all λi=>pG m (first+i) perm
def lastOf(a n:Int):Nat:=((a+n+255)/256).toNat
def tu(m:aU)(a n perm:Int):Bool:=
 if n=0 then true else if n<0∨65536≤a∨65536-a<n then false else mP m perm (a/256).toNat (lastOf a n)
theorem wm(m:aU)(perm:Int)(f l:Nat)(h:f≤l):mP m perm f (l+1)=(mP m perm f l&&pG m l perm):=by
 unfold mP;rw[show l+1-f=(l-f)+1 from by omega,List.range_succ,List.all_append];simp[show f+(l-f)=l from by omega]
theorem Du(m:aU)(perm:Int)(f l k:Nat)(h1:f≤k)(h2:k<l)(hk:pG m k perm=false):mP m perm f l=false:=by
 unfold mP;rw[List.all_eq_false];refine⟨k-f,by simp;omega,?_⟩;simp[show f+(k-f)=k from by omega,hk]
theorem UO(b:Nat)(m:aU)(a n perm:Int)(w:World)(hs:Sp w b m)(ha:0≤a)(ha1:a<18446744073709551616)(hn : -9223372036854775808≤n)(hn1:n<9223372036854775808) :
 Calls prog 124 #[.map (some b),.int .u64 a,n,.int .u8 perm] w (Z.e (.bool (tu m a n perm)) w):=by
 by_cases h0:n=0
 ·subst h0
  go_enter func124,ntmps124;go_wp2
  go_ret
  exact⟨by simp[tu],rfl⟩
 have g0:(n==0)=false:=by simpa using h0
 by_cases h1:n<0∨65536≤a∨65536-a<n
 ·have hr:tu m a n perm=false:=by simp[tu,h0,h1]
  have HR:=xh hr;clear hr;by_cases h2:n<0
  ·clear h1 h0
   go_enter func124,ntmps124;go_wp2
   go_ret
   exact⟨by rw[HR.o];try rfl,rfl⟩
  ·have h3:0≤n:=by omega
   by_cases h4:65536≤a
   ·clear h1 h0 h2
    go_enter func124,ntmps124;go_wp2
    go_ret
    exact⟨by rw[HR.o];try rfl,rfl⟩
   ·have h5:a<65536:=by omega
    have h6:65536-a<n:=by omega
    clear h1 h0 h2 h4;go_enter func124,ntmps124;go_wp2
    go_ret
    exact⟨by rw[HR.o];try rfl,rfl⟩
 ·have h2:0<n:=by omega
  have h3:a<65536:=by omega
  have h4:n≤65536-a:=by omega
  have hr:tu m a n perm=mP m perm (a/256).toNat (lastOf a n):=by simp[tu,h0,h1]
  have HR:=xh hr;clear hr h1 h0 hn hn1 ha1;go_enter func124,ntmps124;go_wp2
  go_loop [9] (λp=>∃k:Nat,(a/256).toNat≤k∧k≤lastOf a n∧p=.int .i64 k∧mP m perm (a/256).toNat k=true) (λp=>lastOf a n-(intOf p).toNat)
  case atStart=>exact⟨(a/256).toNat,bH _,by simp only[lastOf];omega,by congr 1;omega,by simp[mP]⟩
  case round=>
   obtain⟨k,hk,hk1,rfl,hall⟩:=hrel;have hl:=hs.lookup k (by simp only[lastOf]at hk1;omega);have hf:=zn ((m k).getD Pg.zero);have HA:=xh hall;clear hall;have hkb:(k:Int)≤256:=by simp only[lastOf]at hk1;omega
   by_cases hlt:(k:Int)*256<a+n
   ·have hlast:k<lastOf a n:=by simp only[lastOf];omega
    cases hc:pG m k perm with
    | false=>
      have hres:=xh (HR.o.trans (Du m perm _ _ k hk hlast hc));have hb:(bits .and .u8 ((m k).getD Pg.zero).perm perm==0)=true:=by simpa [pG,Pg.can]using hc
      clear hc;go_wp2
      go_ret
      exact⟨by rw[hres.out];try rfl,rfl⟩
    | true=>
      have hnext:=xh ((wm m perm _ k hk).trans (by rw[HA.o,hc]));have hb:(bits .and .u8 ((m k).getD Pg.zero).perm perm==0)=false:=by simpa [pG,Pg.can]using hc
      clear hc;go_wp2
      go_round
      case rel=>exact⟨k+1,by omega,by omega,by go_num,hnext.out⟩
      case measure=>simp[intOf]<;>omega
   ·have hlast:lastOf a n=k:=by simp only[lastOf]at hk1⊢;omega
    have hres:=xh (HR.o.trans (by rw[hlast];exact HA.o):tu m a n perm=true);clear hlast;go_wp2
    go_ret
    exact⟨by rw[hres.out];try rfl,rfl⟩
end
section
open Go.RowKit
open Go.ChangeMaps (setBlock heap_setBlock_same heap_setBlock_other)
structure Keep(S:Nat→Prop)(w w':World):Prop where
 os:w'.os=w.os
 tape:w'.tape=w.tape
 output:w'.output=w.output
 size:w.heap.size≤w'.heap.size
 block:∀k,k<w.heap.size→¬S k→w'.heap[k]?=w.heap[k]?
variable {S:Nat→Prop} {w w' w'':World}
theorem Keep.refl(S:Nat→Prop)(w:World):Keep S w w:=⟨rfl,rfl,rfl,bH _,λ_ _ _=>rfl⟩
theorem Keep.tr(h:Keep S w w')(k:Keep S w' w''):Keep S w w'':=
 ⟨k.os.trans h.os,k.tape.trans h.tape,k.output.trans h.output,aV h.size k.size,λi hi hs=>(k.block i (Nat.lt_of_lt_of_le hi h.size) hs).trans (h.block i hi hs)⟩
theorem Keep.of_bel(S:Nat→Prop)(h:Bel w w'):Keep S w w':=⟨h.os,h.tape,h.output,h.size,λk hk _=>h.block k hk⟩
theorem Keep.aY(h:Keep S w w'){S':Nat→Prop}(k:Keep S' w' w'')(hs:∀i,S' i→S i∨w.heap.size≤i):Keep S w w'':=
 ⟨k.os.trans h.os,k.tape.trans h.tape,k.output.trans h.output,aV h.size k.size,λi hi hs'=>(k.block i (Nat.lt_of_lt_of_le hi h.size) (λh1=>by rcases hs i h1 with h2|h2;exact hs' h2;omega)).trans (h.block i hi hs')⟩
theorem Keep.below(h:Keep S w w')(B:Nat)(hB:B≤w.heap.size)(hs:∀k,S k→B≤k):Below B w w':=
 ⟨h.os,h.tape,h.output,h.size,λk hk=>h.block k (Nat.lt_of_lt_of_le hk hB) λh1=>by have:=hs k h1;omega⟩
theorem Keep.setBlock{b:Nat}{es:Array MapEntry}{clock:Nat}(hb:w.heap[b]?=some (.map es clock))(o:Obj):Keep (λk=>k=b) w (setBlock w b o):=
 ⟨rfl,rfl,rfl,by simp[Go.ChangeMaps.setBlock],λk _ hk=>heap_setBlock_other hb o (λe=>hk e)⟩
theorem Keep.mono(h:Keep S w w'){S':Nat→Prop}(hs:∀k,S k→S' k):Keep S' w w':=⟨h.os,h.tape,h.output,h.size,λk hk hn=>h.block k hk λh1=>hn (hs k h1)⟩
theorem Keep.cell(h:Keep S w w')(a:Addr)(ha:a.block<w.heap.size)(hs:¬S a.block):w'.cell? a=w.cell? a:=by
 simp only[World.cell?,h.block a.block ha hs]
theorem Blk.keep{b:Nat}{c:List Value}{t:TypeId}(hb:Blk w b c t)(h:Keep S w w')(hs:¬S b):Blk w' b c t:=(h.block b hb.lt hs).trans hb
theorem ah(h:Bel w w')(n:Nat):Bel w (w'.drewN n):=⟨h.os,h.tape,h.output,h.size,h.block⟩
theorem gD{p:Nat→Prop}{k:Nat}(h:∀j,j<k→p j)(hk:p k):∀j,j<k+1→p j:=λj hj=>by
 by_cases e:j=k
 ·exact e▸hk
 ·exact h j (by omega)
end
section
open Go.Proofs.Tryz Go.RowKit
structure iL(w:World)(b o:Nat)(l:List Int):Prop where
 cell:∀i,i<l.length→w.cell? ⟨b,o+i,none⟩=(l[i]?).map (Value.int .u8)
 byte:∀x∈l,0≤x∧x≤255
theorem iL.at_{w:World}{b o:Nat}{l:List Int}(h:iL w b o l)(i:Nat)(hi:i<l.length):w.cell? ⟨b,o+i,none⟩=some (.int .u8 (l.getD i 0)):=by
 rw[h.cell i hi,bP hi,List.getD_eq_getElem?_getD,bP hi];rfl
theorem iL.Jp{w:World}{b o:Nat}{l:List Int}(h:iL w b o l)(i:Nat)(hi:i<l.length):0≤l.getD i 0∧l.getD i 0≤255:=by
 rw[List.getD_eq_getElem?_getD,bP hi];exact h.byte _ (List.getElem_mem hi)
theorem iL.part{w:World}{b o:Nat}{l:List Int}(h:iL w b o l)(k n:Nat)(hn:k+n≤l.length):iL w b (o+k) ((l.drop k).take n) where
 cell i hi:=by
  simp only[List.length_take,List.length_drop]at hi
  rw[show o+k+i=o+(k+i)from by omega,h.cell (k+i) (by omega),List.getElem?_take,List.getElem?_drop];simp[show i<n from by omega]
 byte x hx:=h.byte x (List.mem_of_mem_drop (List.mem_of_mem_take hx))
theorem iL.of_cell{w w':World}{b o:Nat}{l:List Int}(h:iL w b o l)(hc:∀a,a.block=b→w'.cell? a=w.cell? a):iL w' b o l:=
 ⟨λi hi=>(hc _ rfl).trans (h.cell i hi),h.byte⟩
def jR:List Int→Int
 | []=>0
 | x::r=>x+256*jR r
theorem Bj(l:List Int)(i:Nat)(hi:i<l.length):jR (l.drop i)=l.getD i 0+256*jR (l.drop (i+1)):=by
 rw[List.drop_eq_getElem_cons hi,jR,List.getD_eq_getElem?_getD,bP hi];rfl
theorem iO:∀(l:List Int),(∀x∈l,0≤x∧x≤255)→0≤jR l∧jR l<256^l.length
 | [],_=>by simp[jR]
 | x::r,h=>by
   have h1:=iO r λy hy=>h y (List.mem_cons_of_mem _ hy);have h2:=h x List.mem_cons_self;simp only[jR,List.length_cons,Int.pow_succ]
   omega
theorem FE:∀(n:Nat),n≤7→(256:Int)^n≤72057594037927936
 | 0,_=>by decide
 | 1,_=>by decide
 | 2,_=>by decide
 | 3,_=>by decide
 | 4,_=>by decide
 | 5,_=>by decide
 | 6,_=>by decide
 | 7,_=>by decide
 | n+8,h=>by omega
theorem zi(l:List Int)(h:∀x∈l,0≤x∧x≤255)(hl:l.length≤7):0≤jR l∧jR l<72057594037927936:=by
 have:=iO l h;have:=FE l.length hl;omega
theorem Qg(l:List Int)(h:∀x∈l,0≤x∧x≤255)(hl:l.length≤8):0≤jR l∧jR l<18446744073709551616:=by
 have h1:=iO l h;by_cases h8:l.length=8
 ·rw[h8]at h1
  omega
 ·have:=FE l.length (by omega)
  omega
theorem UW(n x:Int)(hn:0≤n)(hn1:n<72057594037927936)(hx:0≤x)(hx1:x≤255):bits .or .u64 (n*256) x=n*256+x:=
 bits_join .u64 64 (by decide) (λn h0 h1=>by rw[IntKind.wrap_u64];omega) 8 (n*256) x (by omega) (by omega) (by omega) hx (by omega) (by omega)
theorem Iz(b o c:Nat)(l:List Int)(w:World)(hl:l.length≤8)(h:iL w b o l) :
 Calls prog 145 #[.slice (b,o) l.length c] w (Z.e (.int .u64 (jR l)) w):=by
 go_enter func145,ntmps145;go_wp2
 go_loop [3,4] (λn i=>∃k:Nat,k≤l.length∧i=.int .i64 k∧n=.int .u64 (jR (l.drop k))) (λ_ i=>(intOf i).toNat)
 case atStart=>exact⟨l.length,bH _,rfl,by simp[jR]⟩
 case round=>
  obtain⟨k,hk,rfl,rfl⟩:=hrel;cases k with
  | zero=>
    go_wp2
    go_ret
    exact⟨rfl,rfl⟩
  | succ k=>
    have hs:=xh (Bj l k hk);have hc:=h.at_ k hk;have hx:=h.Jp k hk;have hn:=zi (l.drop (k+1)) (λx hx=>h.byte x (List.mem_of_mem_drop hx)) (by simp;omega);have hor:=UW _ _ hn.1 hn.2 hx.1 hx.2;have hx0:=hx.1;have hx1:=hx.2;have hn0:=hn.1;have hn1:=hn.2;clear hx hn;generalize l.getD k 0=x at *
    generalize hy:jR (l.drop (k+1))=y at *
    have HY:=xh hy;clear hy;go_wp2
    go_round
    case rel=>exact⟨k,by omega,by go_num,by rw[hs.out];congr 1;omega⟩
    case measure=>simp[intOf]<;>omega
theorem Ez(b o c:Nat)(l:List Int)(w:World)(hl:l.length≤8)(h:iL w b o l) :
 Calls prog 203 #[.slice (b,o) l.length c] w (Z.e (.int .u64 (jR l)) w):=by
 go_enter func203,ntmps203;go_wp2
 go_loop [3,4] (λn i=>∃k:Nat,k≤l.length∧i=.int .i64 ((k:Int)-1)∧n=.int .u64 (jR (l.drop k))) (λ_ i=>(intOf i+1).toNat)
 case atStart=>exact⟨l.length,bH _,rfl,by simp[jR]⟩
 case round=>
  obtain⟨k,hk,rfl,rfl⟩:=hrel;cases k with
  | zero=>
    go_wp2
    go_ret
    exact⟨rfl,rfl⟩
  | succ k=>
    have hs:=xh (Bj l k hk);have hc:=h.at_ k hk;have hx:=h.Jp k hk;have hn:=zi (l.drop (k+1)) (λx hx=>h.byte x (List.mem_of_mem_drop hx)) (by simp;omega);have hx0:=hx.1;have hx1:=hx.2;have hn0:=hn.1;have hn1:=hn.2;clear hx hn;generalize l.getD k 0=x at *
    rw[show(((k+1:Nat):Int)-1)=(k:Int)from by omega];generalize hy:jR (l.drop (k+1))=y at *
    have HY:=xh hy;clear hy;go_wp2
    go_round
    case rel=>exact⟨k,by omega,by go_num,by rw[hs.out];congr 1;omega⟩
    case measure=>simp[intOf]<;>omega
def eu(n:Int):List Int:=[n%256,n/256%256,n/65536%256,n/16777216%256,n/4294967296%256,n/1099511627776%256,n/281474976710656%256,n/72057594037927936]
def rowOf(f:Nat→Int)(N:Nat):List Value:=(List.range N).map λi=>Value.int .u8 (f i)
def lK(f:Nat→Int)(i:Nat)(x:Int):Nat→Int:=λj=>if j=i then x else f j
def OC(f:Nat→Int)(o:Nat)(n:Int):Nat→Int:=
 lK (lK (lK (lK (lK (lK (lK (lK f o (n%256)) (o+1) (n/256%256)) (o+2) (n/65536%256)) (o+3) (n/16777216%256)) (o+4) (n/4294967296%256)) (o+5) (n/1099511627776%256)) (o+6) (n/281474976710656%256)) (o+7) (n/72057594037927936)
theorem OD(f:Nat→Int)(N i:Nat)(x:Int):(rowOf f N).set i (.int .u8 x)=rowOf (lK f i x) N:=by
 apply List.ext_getElem?
 intro k;simp only[rowOf,List.getElem?_set,dA,fJ,List.length_range,lK]
 by_cases hk:k<N
 ·rw[List.getElem?_range hk]
  by_cases hi:i=k
  ·subst hi;simp[hk]
  ·simp[hi,Ne.symm hi]
 ·rw[List.getElem?_eq_none (by simp;omega)]
  by_cases hi:i=k
  ·subst hi;simp[hk]
  ·simp[hi]
theorem Dt(f:Nat→Int)(N:Nat):(rowOf f N).length=N:=by simp[rowOf]
theorem vS(f:Nat→Int)(N i:Nat)(h:i<N):(rowOf f N)[i]?=some (.int .u8 (f i)):=by simp[rowOf,h]
theorem Blk.eB{w:World}{g N:Nat}{f:Nat→Int}{t:TypeId}(h:Blk w g (rowOf f N) t)(i:Nat)(x:Int):Blk (w.setCell (g,i) (.int .u8 x)) g (rowOf (lK f i x) N) t:=by
 rw[←OD];exact h.setCell _
theorem Keep.setCell(w:World)(g i:Nat)(v:Value):Keep (λk=>k=g) w (w.setCell (g,i) v):=
 ⟨rfl,rfl,rfl,by simp,λk _ hk=>Below.heap_setCell w ⟨g,i,none⟩ v k hk⟩
theorem Vq(g o N:Nat)(f:Nat→Int)(t:TypeId)(cap:Nat)(n:Int)(w:World)(hB:Blk w g (rowOf f N) t)(ho:o+8≤N)(hN:N<100000)(hcap:8≤cap)(hn:0≤n)(hn1:n<18446744073709551616) :
 Calls prog 146 #[.slice (g,o) 8 cap,.int .u64 n] w λe w'=>e=.returned (.tuple #[])∧Blk w' g (rowOf (OC f o n) N) t∧Keep (λk=>k=g) w w':=by
 have hc:∀i,i<8→w.cell? ⟨g,o+i,none⟩=some (.int .u8 (f (o+i))):=λi hi=>(hB.cell _).trans (vS f N _ (by omega));have c0:w.cell? (g,o)=some (.int .u8 (f o)):=hc 0 (by omega);have c1:=hc 1 (by omega);have c2:=hc 2 (by omega);have c3:=hc 3 (by omega);have c4:=hc 4 (by omega);have c5:=hc 5 (by omega);have c6:=hc 6 (by omega);have c7:=hc 7 (by omega);have hf:=hB.frozen;have hg:=hB.lt;clear hc;go_enter func146,ntmps146;go_wp2
 refine wp_loop_rounds 9 ?_
 iterate 9 (rw[rounds_succ];go_wp2)
 go_end0
 exact⟨rfl,(((((((hB.eB _ _).eB _ _).eB _ _).eB _ _).eB _ _).eB _ _).eB _ _).eB _ _,
  (((((((Keep.setCell _ _ _ _).tr (Keep.setCell _ _ _ _)).tr (Keep.setCell _ _ _ _)).tr (Keep.setCell _ _ _ _)).tr (Keep.setCell _ _ _ _)).tr (Keep.setCell _ _ _ _)).tr (Keep.setCell _ _ _ _)).tr (Keep.setCell _ _ _ _)⟩
theorem Gh(g o N:Nat)(f:Nat→Int)(t:TypeId)(cap:Nat)(n:Int)(w:World)(hB:Blk w g (rowOf f N) t)(ho:o+8≤N)(hN:N<100000)(hn:0≤n)(hn1:n<18446744073709551616) :
 Calls prog 262 #[.slice (g,0) N cap,.int .i64 o,.int .u64 n] w λe w'=>e=.returned (.tuple #[])∧Blk w' g (rowOf (OC f o n) N) t∧Keep (λk=>k=g) w w':=by
 have hc:∀i,i<8→w.cell? ⟨g,o+i,none⟩=some (.int .u8 (f (o+i))):=λi hi=>(hB.cell _).trans (vS f N _ (by omega));have c0:w.cell? (g,o)=some (.int .u8 (f o)):=hc 0 (by omega);have c1:=hc 1 (by omega);have c2:=hc 2 (by omega);have c3:=hc 3 (by omega);have c4:=hc 4 (by omega);have c5:=hc 5 (by omega);have c6:=hc 6 (by omega);have c7:=hc 7 (by omega);have hf:=hB.frozen;have hg:=hB.lt;clear hc;go_enter func262,ntmps262;go_wp2
 refine wp_loop_rounds 9 ?_
 iterate 9 (rw[rounds_succ];go_wp2)
 go_end0
 exact⟨rfl,(((((((hB.eB _ _).eB _ _).eB _ _).eB _ _).eB _ _).eB _ _).eB _ _).eB _ _,
  (((((((Keep.setCell _ _ _ _).tr (Keep.setCell _ _ _ _)).tr (Keep.setCell _ _ _ _)).tr (Keep.setCell _ _ _ _)).tr (Keep.setCell _ _ _ _)).tr (Keep.setCell _ _ _ _)).tr (Keep.setCell _ _ _ _)).tr (Keep.setCell _ _ _ _)⟩
end
section
open Go.RowKit Go.Maps
def Tc(w:World)(p:Option Addr)(l:List ByteArray):Prop:=0<l.length→∃g o,p=some ⟨g,o,none⟩∧∃cs t,Blk w g cs t∧t=9∧∀i s,l[i]?=some s→cs[o+i]?=some (.string s)
theorem Tc.keep{S:Nat→Prop}{w w':World}{p:Option Addr}{l:List ByteArray}(h:Tc w p l)(k:Keep S w w')(hs:∀q cs,Blk w q cs 9→¬S q):Tc w' p l:=λh0=>by
 obtain⟨g,o,e,cs,t,hb,ht,hc⟩:=h h0;subst ht;exact⟨g,o,e,cs,_,hb.keep k (hs g cs hb),rfl,hc⟩
theorem Tc.bel{w w':World}{p:Option Addr}{l:List ByteArray}(h:Tc w p l)(k:Bel w w'):Tc w' p l:=h.keep (Keep.of_bel (λ_=>False) k) λ_ _ _ h=>h
theorem Tc.cell{w:World}{p:Option Addr}{l:List ByteArray}(h:Tc w p l){i:Nat}{s:ByteArray}(hi:l[i]?=some s):∃g o,p=some ⟨g,o,none⟩∧w.cell? ⟨g,o+i,none⟩=some (.string s):=by
 obtain⟨g,o,e,cs,t,hb,_,hc⟩:=h (by have:=(bZ hi).1;omega);exact⟨g,o,e,by rw[hb.cell];exact hc i s hi⟩
def kY(w:World)(p:Option Addr)(l:List Int):Prop:=(∀x∈l,fP x)∧(0<l.length→∃g o,p=some ⟨g,o,none⟩∧∃cs,Blk w g cs 5∧∀i x,l[i]?=some x→cs[o+i]?=some (.int .u8 x))
theorem kY.keep{S:Nat→Prop}{w w':World}{p:Option Addr}{l:List Int}(h:kY w p l)(k:Keep S w w')(hs:∀q cs,Blk w q cs 5→¬S q):kY w' p l:=⟨h.1,λh0=>by
 obtain⟨g,o,e,cs,hb,hc⟩:=h.2 h0;exact⟨g,o,e,cs,hb.keep k (hs g cs hb),hc⟩⟩
theorem kY.bel{w w':World}{p:Option Addr}{l:List Int}(h:kY w p l)(k:Bel w w'):kY w' p l:=h.keep (Keep.of_bel (λ_=>False) k) λ_ _ _ h=>h
theorem dP{w w3:World}{q o:Nat}{v:Value}(k:Bel w w3)(hq:w.heap.size≤q):Bel w (w3.setCell (q,o) v):=by
 have k2:=(Keep.of_bel (λx=>x=q) k).tr (Keep.setCell w3 q o v);exact⟨k2.os,k2.tape,k2.output,k2.size,λx hx=>k2.block x hx (by omega)⟩
theorem Blk.setCells{w:World}{b:Nat}{c:List Value}{t:TypeId}(h:Blk w b c t):∀(o:Nat) (vs:List Value),o+vs.length≤c.length→Blk (w.setCells b o vs) b (splice c o vs) t:=by
 intro o vs
 induction vs generalizing w c o with
 | nil=>intro _;simpa [World.setCells,splice]using h
 | cons v vs ih=>
   intro hl;simp only[List.length_cons]at hl
   have:=ih (h.setCell (o:=o) v) (o+1) (by simp;omega);rw[World.setCells];have e:splice (c.set o v) (o+1) vs=splice c o (v::vs):=by
    have h1:(c.set o v).take (o+1)=c.take o++[v]:=by
     rw[List.take_succ_eq_append_getElem (by simp;omega),List.take_set_of_le (bH _)];simp
    have h2:(c.set o v).drop (o+1+vs.length)=c.drop (o+(vs.length+1)):=by
     rw[List.drop_set_of_lt (by omega),show o+1+vs.length=o+(vs.length+1)from by omega]
    unfold splice;rw[h1,h2];simp
   rw[←e];exact this
theorem Keep.setCells(w:World)(b:Nat):∀(o:Nat) (vs:List Value),Keep (λq=>q=b) w (w.setCells b o vs):=by
 intro o vs
 induction vs generalizing w o with
 | nil=>exact Keep.refl _ _
 | cons v vs ih=>exact(Keep.setCell w b o v).tr (ih (w.setCell ⟨b,o,none⟩ v) (o+1))
end
end Go.Proofs.YtcnjjchlebmfiaaGreatDoor
