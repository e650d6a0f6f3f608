/- The document's Boot. -/
import Derived.Test.YtjdaddmjpicflaaGreatDoorP17
import Derived.Deep.DrawnRows
import Derived.Test.YtjdaddmjpicflaaGreatDoorP03
import Derived.Test.YtjdaddmjpicflaaGreatDoorP19
set_option linter.unusedVariables false
set_option linter.unusedSimpArgs false
set_option maxRecDepth 100000
set_option maxHeartbeats 16000000
namespace Go.Proofs.YtjdaddmjpicflaaGreatDoor
open Go.RowKit
def limC (l:Lims):List Value:=[.int .i64 l.a,.int .i64 l.b,.int .i64 l.c,.int .i64 l.d,.int .i64 l.e]
theorem bootD_a (l:Lims) (v1 v2 v3:Value) (w:World) (h:l.okA=false) :
 Calls Tryz.prog 18 #[.agg (limC l).toArray,v1,v2,v3] w λe w'=>e=.returned (.tuple #[.pointer none,.int .i64 6])∧Bel w w':=by
 obtain⟨a,b,c,d,e⟩:=l
 have h':a<1∨(¬a<1∧16<a)∨(¬a<1∧¬16<a∧b<1)∨(¬a<1∧¬16<a∧¬b<1∧1000<b):=by
  simp only[Lims.okA,decide_eq_false_iff_not]at h
  omega
 clear h
 simp only[limC]
 rcases h' with h1|⟨h1,h2⟩|⟨h1,h2,h3⟩|⟨h1,h2,h3,h4⟩
 all_goals
  go_enter Tryz.func18,Tryz.ntmps18
  go_wp2
  go_ret2
  exact⟨rfl,(Bel.start w _).ac _⟩
theorem bootD_b (l:Lims) (v1 v2 v3:Value) (w:World) (h:l.okA=true) (hb:l.okB=false) :
 Calls Tryz.prog 18 #[.agg (limC l).toArray,v1,v2,v3] w λe w'=>e=.returned (.tuple #[.pointer none,.int .i64 6])∧Bel w w':=by
 obtain⟨a,b,c,d,e⟩:=l
 have h':¬a<1∧¬16<a∧¬b<1∧¬1000<b:=by
  simp only[Lims.okA,decide_eq_true_eq]at h
  omega
 have hb':c<0∨(¬c<0∧100000<c)∨(¬c<0∧¬100000<c∧d<0)∨(¬c<0∧¬100000<c∧¬d<0∧100000<d)∨(¬c<0∧¬100000<c∧¬d<0∧¬100000<d∧e<0)∨(¬c<0∧¬100000<c∧¬d<0∧¬100000<d∧¬e<0∧100000<e):=by
  simp only[Lims.okB,decide_eq_false_iff_not]at hb
  omega
 clear h hb
 simp only[limC]
 obtain⟨h1,h2,h3,h4⟩:=h'
 rcases hb' with g1|⟨g1,g2⟩|⟨g1,g2,g3⟩|⟨g1,g2,g3,g4⟩|⟨g1,g2,g3,g4,g5⟩|⟨g1,g2,g3,g4,g5,g6⟩
 all_goals
  go_enter Tryz.func18,Tryz.ntmps18
  go_wp2
  go_ret2
  exact⟨rfl,(Bel.start w _).ac _⟩
theorem bootD_c (l:Lims) (v1 v2 v3:Value) (w:World) (h:l.okA=true) (hb:l.okB=true) (hd:l.d=0) :
 Calls Tryz.prog 18 #[.agg (limC l).toArray,v1,v2,v3] w λe w'=>e=.returned (.tuple #[.pointer none,.int .i64 12])∧Bel w w':=by
 obtain⟨a,b,c,d,e⟩:=l
 obtain⟨h1,h2,h3,h4⟩:¬a<1∧¬16<a∧¬b<1∧¬1000<b:=by
  simp only[Lims.okA,decide_eq_true_eq]at h
  omega
 obtain⟨g1,g2,g3,g4,g5,g6⟩:¬c<0∧¬100000<c∧¬d<0∧¬100000<d∧¬e<0∧¬100000<e:=by
  simp only[Lims.okB,decide_eq_true_eq]at hb
  omega
 clear h hb
 simp only at hd
 subst hd
 simp only[limC]
 go_enter Tryz.func18,Tryz.ntmps18
 go_wp2
 go_ret2
 exact⟨rfl,(Bel.start w _).ac _⟩
structure FLists (w:World) (F:List FileA) (v1 v2 v3:Value):Prop where
 n:F.length≤1000
 paths:∃p c,v1=.slice p F.length c∧∀(i:Nat) (f:FileA),F[i]?=some f→∃g,p=some ⟨g,0,none⟩∧w.cell? ⟨g,i,none⟩=some (.string f.path)
 dirs:∃p c,v2=.slice p F.length c∧∀(i:Nat) (f:FileA),F[i]?=some f→∃g,p=some ⟨g,0,none⟩∧w.cell? ⟨g,i,none⟩=some (.bool f.dir)
 bytes:∃p c,v3=.slice p F.length c∧∀(i:Nat) (f:FileA),F[i]?=some f→∃g,p=some ⟨g,0,none⟩∧w.cell? ⟨g,i,none⟩=some (.slice f.p f.byt.length f.cap)
 byt:∀f∈F,BS w f.p f.byt∧f.byt.length≤f.cap∧f.byt.length≤200000∧f.path.size≤1000000∧(0<f.byt.length→∀b o,f.p=some ⟨b,o,none⟩→b<w.heap.size)
def proc0:List Value:=[.int .i64 1,.int .i64 0,.int .i64 0,.int .i64 0,.int .i64 0,.int .u64 0,.int .u64 0,.int .u64 0,.int .u64 0,.int .u64 0,.int .u64 0,.int .u64 0,.int .u64 0,.int .u64 0,.int .u64 0,.int .u64 0,.int .u64 0,.int .u64 0,.int .u64 0,.int .u64 0,.int .u64 0,.int .u64 0,.slice none 0 0,.int .i64 (-1),.int .i64 (-1),.int .i64 (-1),.int .i64 0,.int .i64 0,.int .i64 0,.int .i64 0,.int .i64 0]
def initSS:List ByteArray:=[⟨#[105,110,105,116]⟩]
theorem initSS_good:Good initSS:=by
 intro i hi
 have:i=0:=by simp[initSS]at hi;omega
 subst this
 decide
theorem byts_sk (L:List Nd):(byts L).sum=sumB (sks L):=by
 unfold byts sumB sks
 rw[List.map_map]
 rfl
def stackCells (ss:List ByteArray):List Value:=[254,255].flatMap λn=>refCells n (stackPg ss n)
theorem execE_sk (L:List Nd) (path:List UInt8) (sok:Bool) (own used mf:Nat):execE (sks L) path sok own used mf=execE L path sok own used mf:=by
 unfold execE
 rw[docWalk_sk]
 unfold sks
 rw[List.getElem?_map]
 cases L[(docWalk L path).2.2.1-1]?<;>rfl
theorem execD_init (kb:Nat) (s:KV) (iv:Value) (L:List Nd) (g8 c8 mf gs:Nat) (cells:List Value) (W:World) (h:DK W kb {s with pv:=.slice (some ⟨g8,0,none⟩) 1 c8} iv L) (hB:Blk W g8 cells 80) (ht:cells.take 31=proc0) (hl:31≤cells.length) (h1c:1≤c8) (hov:s.ov=.slice none 0 0) (hb:s.b=mf) (hmf:mf≤1000) (hsum:sumB (sks L)≤100000) (hroot:isDir L 1=true) (hg8:kb<g8)
 (hgs:Blk W gs [.string ⟨#[105,110,105,116]⟩] 9) :
 Calls Tryz.prog 42 #[.pointer (some ⟨kb,0,none⟩),.pointer (some ⟨g8,0,none⟩),.string ⟨#[47,105,110,105,116]⟩,.slice (some ⟨gs,0,none⟩) 1 1] W λe w'=>ExecDRes W g8 0 cells (execE L initP true 0 0 mf) (execB L initP) (stackCells initSS) (spOf (stAll initSS) 1) e w':=by
 have h22:cells[22]?=some (.slice none 0 0):=by
  have:=congrArg (·[22]?) ht
  simpa [List.getElem?_take,proc0]using this
 obtain⟨g,cap,hiv,htr,hg⟩:=h.tree
 have hfew:=h.few
 have hU:∀W',Bel W W'→Calls Tryz.prog 62 #[.pointer (some ⟨kb,0,none⟩)] W' λe w'=>e=.returned (.agg (usedC 1 0 0 L.length (byts L).sum).toArray)∧Bel W' w':=λW' hW=>
  used_any kb g cap L W' (htr.bel hW) [0] (some ⟨g8,0,none⟩) none c8 0 0 (cell_bel hW (h.blk.cell 5)) h1c (λi n hi=>by
   cases i with
   | zero=>
     simp at hi
     subst hi
     exact⟨g8,none,0,rfl,cell_bel hW (by rw[hB.cell];exact h22)⟩
   | succ i=>simp at hi) (cell_bel hW (by rw[h.blk.cell];show some s.ov=_;rw[hov])) (λn hn=>by
   obtain⟨p,c,hv,_⟩:=(h.byts n hn).1.slice
   exact⟨p,c,hv⟩) (by simp) (by rw[byts_sk];omega) (by simp) (by omega) (by omega)
 have hst:∀W',Bel W W'→Calls Tryz.prog 81 #[.slice (some ⟨gs,0,none⟩) 1 1] W' λe w'=>Bel W' w'∧(true=true→∃g c,e=.returned (.tuple #[.slice (some ⟨g,0,none⟩) 2 c,.int .u64 (spOf (stAll initSS) 1),.int .i64 0])∧(∀j u,(stackCells initSS)[j]?=some u→w'.cell? ⟨g,j,none⟩=some u)∧(stackCells initSS).length=516∧(∀u∈stackCells initSS,u.oneCell'=true))∧(true=false→e=.returned (.tuple #[.slice none 0 0,.int .u64 0,.int .i64 6])):=λW' hW=>by
  refine(stackR_any (some ⟨gs,0,none⟩) 1 initSS W' (λ_=>⟨gs,0,rfl,(hgs.bel hW).lt,λj hj=>?_⟩) (by simp[initSS])).mono ?_
  ·have:j=0:=by simp[initSS]at hj;omega
   subst this
   exact(hgs.bel hW).cell 0
  ·rintro e w' ⟨h1,h2,_⟩
   refine⟨h1,λ_=>?_,λh=>by cases h⟩
   obtain⟨v,rfl,hrow⟩:=h2 initSS_good
   obtain⟨p,c,rfl,_,_,hp⟩:=row_slice hrow
   obtain⟨g2,rfl,_,_,hc,_⟩:=hp.resolve_left (by omega)
   have hlen:(stackCells initSS).length=516:=by simp[stackCells,refCells,stackPg]
   refine⟨g2,c,rfl,λj u hj=>?_,hlen,λu hu=>?_⟩
   ·have hjl:=(List.getElem?_eq_some_iff.1 hj).1
    exact(hc j hjl).trans hj
   ·obtain⟨n,_,hn⟩:=List.mem_flatMap.1 hu
    exact refCells_one _ _ u hn
 exact execD_any kb _ iv L ⟨#[47,105,110,105,116]⟩ g8 0 0 0 mf 1 0 L.length (byts L).sum cells none 0 (.slice (some ⟨gs,0,none⟩) 1 1) true (spOf (stAll initSS) 1) (stackCells initSS) W h hb hmf (by decide) hsum hB (by omega) h22 (Nat.le_refl _) (Nat.zero_le _) (by omega) hroot hU hst
theorem spaceTo_low (L:List Int) (N:Nat) (hN:∀i,i<N→SegFits L (segAt L i)):∀k,k≤N→∀n,254≤n→spaceTo L k n=none
 | 0,_,_,_=>rfl
 | k+1,hk,n,hn=>by
   have ih:=spaceTo_low L N hN k (by omega) n hn
   have hf:=hN k (by omega)
   have hl:(segAt L k).last<254:=by
    unfold Seg.last
    have h1:=hf.top
    have h2:=hf.mem
    have h3:=hf.addr
    omega
   show(if (segAt L k).first≤n∧n<(segAt L k).last+1 then _ else spaceTo L k n)=none
   rw[if_neg (by omega),ih]
theorem spaceL_ok {B:List Int} (hb:∀x∈B,0≤x∧x≤255) (h:loadE B=0):PagesOk (spaceL B)∧∀n,254≤n→spaceL B n=none:=by
 obtain⟨hh,hs,_,_⟩:=loadE_ok h
 have hhead:segN B≤8∧64+56*segN B≤B.length:=by
  have:=hh
  simp only[headerOk,Bool.and_eq_true,decide_eq_true_eq]at this
  exact⟨this.1.2,this.2⟩
 have hfit:∀i,i<(segN B).toNat→SegFits B (segAt B i):=λi hi=>segFits B hb i (by omega) (List.all_eq_true.1 hs i (List.mem_range.2 hi))
 exact⟨spaceTo_wf B hb (segN B).toNat hfit (segN B).toNat (Nat.le_refl _),spaceTo_low B (segN B).toNat hfit (segN B).toNat (Nat.le_refl _)⟩
theorem execE_load {L:List Nd} {path:List UInt8} {sok:Bool} {own used mf:Nat} (h:execE L path sok own used mf=0):loadE (execB L path)=0∧∃x∈L,execB L path=x.byt:=by
 unfold execE at h
 unfold execB
 split at h
 ·rename_i h1;exact absurd h h1
 ·split at h
  ·cases h
  ·cases hx:L[(docWalk L path).2.2.1-1]? with
   | none=>rw[hx]at h;cases h
   | some x=>
     rw[hx]at h
     simp only at h
     split at h
     ·cases h
     ·split at h
      ·rename_i h3;exact absurd h h3
      ·rename_i h3
       exact⟨by simpa using h3,x,List.mem_of_getElem? hx,rfl⟩
theorem splice_app (a b:List Value) (o:Nat) (vs:List Value) (h:o+vs.length≤a.length):splice (a++b) o vs=splice a o vs++b:=by
 unfold splice
 rw[List.take_append_of_le_length (by omega),List.drop_append_of_le_length (by omega)]
 simp only[List.append_assoc]
theorem execC_app (a b:List Value) (v:Value) (E sp:Int) (ha:a.length=31):execC (a++b) 0 v E sp=execC a 0 v E sp++b:=by
 unfold execC
 rw[show(a++b).set (0+22) v=a.set (0+22) v++b from List.set_append_left _ _ (by omega)]
 rw[show(a.set (0+22) v++b).set (0+5) (.int .u64 E)=(a.set (0+22) v).set (0+5) (.int .u64 E)++b from List.set_append_left _ _ (by simp;omega)]
 rw[splice_app _ _ _ _ (by simp;omega)]
 exact List.set_append_left _ _ (by rw[length_splice _ _ _ (by simp;omega)];simp;omega)
theorem execC_len (a:List Value) (v:Value) (E sp:Int) (ha:a.length=31):(execC a 0 v E sp).length=31:=by
 unfold execC
 rw[List.length_set,length_splice _ _ _ (by simp;omega)]
 simp[ha]
theorem execC_take (cells:List Value) (v:Value) (E sp:Int) (h:cells.take 31=proc0):(execC cells 0 v E sp).take 31=execC proc0 0 v E sp:=by
 have e:cells=proc0++cells.drop 31:=by rw[←h,List.take_append_drop]
 rw[e,execC_app _ _ _ _ _ rfl,List.take_append_of_le_length (by rw[execC_len _ _ _ _ rfl];exact Nat.le_refl _),List.take_of_length_le (by rw[execC_len _ _ _ _ rfl];exact Nat.le_refl _)]
theorem DK.keepBlk {w w':World} {kb g:Nat} {s:KV} {iv:Value} {L:List Nd} {cells:List Value} (h:DK w kb s iv L) (hB:Blk w g cells 80) (k:Keep (λq=>q=g) w w'):DK w' kb s iv L:=by
 refine⟨h.blk.keep k λe=>?_,?_,λn hn=>⟨(h.byts n hn).1.keep k λq hq e=>?_,(h.byts n hn).2⟩,h.few,h.one⟩
 ·have e:kb=g:=e
  subst e
  exact h.blk.ne hB (by decide) rfl
 ·refine⟨h.row.1,?_⟩
  rcases h.row.2 with h1|⟨q,cap,cur,h1,h2,h3,h4⟩
  ·exact .inl h1
  ·refine .inr ⟨q,cap,cur,h1,h2,(k.block q (Array.getElem?_eq_some_iff.1 h3).1 λe=>?_).trans h3,h4⟩
   have e:q=g:=e
   subst e
   have h3':Blk w q cur.toList 138:=h3
   exact h3'.ne hB (by decide) rfl
 ·obtain⟨_,cur,hb⟩:=(h.byts n hn).1.lt hq
  have e:q=g:=e
  subst e
  exact hb.ne hB (by decide) rfl
end Go.Proofs.YtjdaddmjpicflaaGreatDoor
namespace Go.Proofs.YtjdaddmjpicflaaGreatDoor
open Go.RowKit Go.Maps
theorem segments_nil (w:World):Calls Tryz.prog 111 #[.slice none 0 0] w λe w'=>e=.returned (.tuple #[.slice none 0 0,errN 2])∧w=w':=by
 go_enter Tryz.func111,Tryz.ntmps111
 go_wp2
 go_ret2
 exact⟨rfl,rfl⟩
theorem loadM_nil (w:World):Calls Tryz.prog 69 #[.slice none 0 0] w λe w'=>e=.returned (.tuple #[.map none,.int .u64 0,errN 2])∧w=w':=by
 go_enter Tryz.func69,Tryz.ntmps69
 go_wp2_with (go_at_call 111;((with_reducible refine Calls.mono (segments_nil _) ?_);rintro e w1 ⟨rfl,hh⟩;subst hh))
 go_ret3
 exact⟨rfl,rfl⟩
theorem loadE_nil:loadE []=2:=by
 unfold loadE
 rw[if_pos (by rfl)]
theorem loadM_rw (w:World) (bv:Value) (L:List Int) (h:Rw w bv L) (hl:L.length≤200000) (hfix:FixVar w) :
 Calls Tryz.prog 69 #[bv] w λe w'=>Bel w w'∧(loadE L≠0→e=.returned (.tuple #[.map none,.int .u64 0,errN (loadE L:Nat)]))∧(loadE L=0→∃mb,e=.returned (.tuple #[.map (some mb),.int .u64 (numAt L 24 8),.nilIface])∧w.heap.size≤mb∧Sp w' mb (spaceL L)):=by
 rcases h.2 with⟨rfl,rfl⟩|⟨g,cap,cur,rfl,hb,h1,h2,h3,h4⟩
 ·refine(loadM_nil w).mono ?_
  rintro e w' ⟨rfl,rfl⟩
  rw[loadE_nil]
  exact⟨Bel.refl _,λ_=>rfl,λh=>by cases h⟩
 ·have hbt:Bts w g 0 L:=⟨λi hi=>by
   rw[Nat.zero_add,hb.cell]
   have:=congrArg (·[i]?) h4
   simp only[List.getElem?_take,if_pos hi,List.getElem?_map]at this
   exact this,h.1⟩
  refine(loadM_any g cap L w hbt h1 hl hfix).mono ?_
  rintro e w' ⟨k,hr⟩
  refine⟨k,λh0=>hr.err h0,λh0=>?_⟩
  obtain⟨l1,l2,l3,l4⟩:=loadE_ok h0
  exact hr.ok l1 l2 l3 l4
theorem Sp.heap {w:World} {b:Nat} {m:Pages} (h:Sp w b m) (hm:∀n,256≤n→m n=none):∃es clock,w.heap[b]?=some (.map es clock)∧es.size=(pageNums m).length:=by
 obtain⟨kv,h1,h2,h3⟩:=h
 have hk:=(Sp.keys hm h1 h2 h3).length_eq
 obtain⟨es,clock,hb,_,he,_⟩:=h1
 have:=congrArg List.length he
 simp only[List.length_map,Array.length_toList]at this hk
 exact⟨es,clock,hb,by omega⟩
theorem Sp.ne_of {w:World} {a b n:Nat} {m s:Pages} (h:Sp w a m) (k:Sp w b s) (h1:m n=none) (h2:(s n).isSome=true):a≠b:=by
 rintro rfl
 obtain⟨kv,⟨es,c,hb,_,he,_⟩,hg,_⟩:=h
 obtain⟨kv2,⟨es2,c2,hb2,_,he2,_⟩,hg2,_⟩:=k
 rw[hb]at hb2
 cases hb2
 rw[he]at he2
 have e:kv=kv2:=by
  refine(List.map_inj_right λp q hpq=>?_).1 he2
  simp only[Prod.mk.injEq]at hpq
  exact Prod.ext (keyI.inj _ _ hpq.1) hpq.2
 have h3:=hg n
 rw[e,hg2 n,h1]at h3
 cases hs:s n with
 | none=>rw[hs]at h2;cases h2
 | some p=>rw[hs]at h3;cases h3
theorem run_len_map {P:Program} {t k e ty:TypeId} (ht:P.underlying t=some (.map k e)) {b:Nat} {es:Array MapEntry} {clock:Nat} {w:World} (hb:w.heap[b]?=some (.map es clock)) :
 (Builtin.len_ #[t] ty #[.map (some b)]).run P w=.ok (.int .i64 es.size) w:=by
 simp[Builtin.len_,run_underlying ht,MapKept.run_getObj_map hb,goInt]
theorem run_len_nil {P:Program} {t k e ty:TypeId} (ht:P.underlying t=some (.map k e)) {w:World}:(Builtin.len_ #[t] ty #[.map none]).run P w=.ok (.int .i64 0) w:=by
 simp[Builtin.len_,run_underlying ht,goInt]
def SpO (w:World) (mo:Option Nat) (m:Pages):Prop:=match mo with
 | none=>m=λ_=>none
 | some b=>Sp w b m
theorem over_stack (m:Pages) (ss:List ByteArray):over m (pagesOf stPerm (memOf ss))=withStack m ss:=by
 funext n
 unfold over withStack pagesOf stPerm
 by_cases h:n=254∨n=255
 ·rw[if_pos h,if_pos h];rfl
 ·rw[if_neg h,if_neg h];rfl
def cpuC (E sp:Int) (mb:Nat):List Value:=.int .u64 E::(List.replicate 15 (Value.int .u64 0)++[.int .u64 sp,.map (some mb)])
def cpu0 (E:Int) (mb:Nat):List Value:=.int .u64 E::(List.replicate 16 (Value.int .u64 0)++[.map (some mb)])
theorem cpu0_one (E:Int) (mb:Nat):∀v∈cpu0 E mb,v.oneCell'=true:=by
 intro v hv
 simp[cpu0]at hv
 rcases hv with rfl|rfl|rfl<;>rfl
theorem built_cpu (E:Int) (mb:Nat):Tryz.prog.built 115 [(0,.int .u64 E),(2,.map (some mb))]=some (cpu0 E mb).toArray:=by kernel_rfl
def ExecPRes (w:World) (kb pb:Nat) (kc pc:List Value) (c:Nat) (B:List Int) (ss:List ByteArray) (sp:Int) (used own:Nat) (e:Ending) (w':World):Prop:=
 (c≠0→e=.returned (errN (c:Nat))∧Bel w w')∧(c=0→e=.returned .nilIface∧∃mb,w.heap.size≤mb∧Sp w' mb (withStack (spaceL B) ss)∧Keep (λq=>q=kb∨q=pb) w w'∧
  Blk w' kb (kc.set 9 (.int .i64 (used-own+((pageNums (spaceL B)).length+2):Nat))) 109∧Blk w' pb (cpuC (numAt B 24 8) sp mb++pc.drop 18) 121)
theorem execP_any (kb tb pb:Nat) (A:Adr) (T:List Pn) (mi mb mf own used:Nat) (kc pc:List Value) (nm:ByteArray) (sv:Value) (sok:Bool) (sp:Int) (ss:List ByteArray) (mo:Option Nat) (ms:Pages) (w:World) (h:PT w tb A T mi mb) (hk:Blk w kb kc 109) (hkl:10≤kc.length) (h6:kc[6]?=some (.pointer (some ⟨tb,0,none⟩))) (h9:kc[9]?=some (.int .i64 used)) (h1:kc[1]?=some (.int .i64 mf)) (hmf:mf≤1000) (hus:used≤100000) (hown:own≤used)
 (hp:Blk w pb pc 121) (hpl:pc.length=31) (h17:pc[17]?=some (.map mo)) (hms:SpO w mo ms) (hmo:(pageNums ms).length=own) (hmb:∀n,256≤n→ms n=none) (hs:nm.size≤1000000) (hmx:MaxVar w) (hfix:FixVar w)
 (hst:∀W,Bel w W→Calls Tryz.prog 70 #[sv] W λe w'=>Bel W w'∧(sok=true→∃mb,e=.returned (.tuple #[.map (some mb),.int .u64 sp,.nilIface])∧Sp w' mb (pagesOf stPerm (memOf ss)))∧(sok=false→∃v,e=.returned (.tuple #[v,.int .u64 0,errN 6]))) :
 Calls Tryz.prog 35 #[.pointer (some ⟨kb,0,none⟩),.pointer (some ⟨pb,0,none⟩),.string nm,sv] w λe w'=>ExecPRes w kb pb kc pc (execE (nds T) nm.data.toList sok own used mf) (execB (nds T) nm.data.toList) ss sp used own e w':=by
 have hf:=λW (hW:Bel w W)=>find_any tb A T _ nm W (h.bel hW).block (h.bel hW).tree hs (hmx.bel hW)
 have hold:=docWalk_old (L:=nds T) (s:=nm.data.toList) h.tree.isRoot
 have c6:w.cell? ⟨kb,6,none⟩=some (.pointer (some ⟨tb,0,none⟩)):=(hk.cell 6).trans h6
 unfold execE execB
 obtain⟨d,x,n,c,hr⟩:∃d x n c,docWalk (nds T) nm.data.toList=(d,x,n,c):=⟨_,_,_,_,rfl⟩
 simp only[hr]at hf hold⊢
 have HT:=xh h
 have HK:=xh (And.intro hk (And.intro h9 h1))
 have HP:=xh (And.intro hp h17)
 have HMS:=xh (And.intro hms (And.intro hmo hmb))
 have HST:=xh hst
 have HFX:=xh hfix
 clear h hk h9 h1 hp h17 hms hmo hmb hst hr hfix hmx h6
 by_cases hc:c=0
 ·subst hc
  rw[if_neg (by simp)]
  have hle:=hold rfl
  rw[nds_len]at hle
  have hf2:=λW hW=>(hf W hW).mono λe w' k=>And.intro (k.1.trans (by rw[spotV,if_pos rfl];rfl):e=.returned (.tuple #[.agg (spotC A d x n).toArray,.nilIface])) k.2
  have HF:=xh hf2
  clear hf hf2 hold
  simp only[spotC]at HF
  rw[show A.ptr d=.pointer (A.at_ d)from rfl]at HF
  generalize A.at_ d=ad at *
  by_cases hn:n=0
  ·subst hn
   rw[if_pos rfl]
   rw[show A.ptr 0=.pointer none from rfl]at HF
   go_enter Tryz.func35,Tryz.ntmps35
   go_wp2_with (go_at_call 64;((with_reducible refine Calls.mono (HF.out _ (Bel.refl _)) ?_);rintro e w1 ⟨rfl,k1⟩;have HK1:=xh k1;clear k1))
   go_ret
   exact⟨λ_=>⟨rfl,HK1.out.ac _⟩,λh=>by cases h⟩
  ·rw[if_neg hn]
   obtain⟨i,hi⟩:∃i,n=i+1:=⟨n-1,by omega⟩
   subst hi
   have hx:=List.getElem?_eq_getElem (l:=T) (i:=i) (by omega)
   generalize T[i]'(by omega)=y at *
   have hny:(nds T)[i]?=some y.nd:=nds_at hx
   rw[Nat.add_sub_cancel,hny]
   simp only[Option.map_some,Option.getD_some]
   rw[show y.nd.dir=y.dir from rfl,show y.nd.byt=y.byt from rfl]
   rw[show A.ptr (i+1)=.pointer (some ⟨A.nb (i+1),0,none⟩)from rfl]at HF
   have HB:=xh (HT.out.tree.node i y hx)
   have HRW:=xh (HT.out.tree.byts i y hx)
   have hbl:y.byt.length≤200000:=by
    have h1:y.nd.byt.length≤sumB (nds T):=by
     unfold sumB
     exact le_sum_mem (List.mem_map.2 ⟨y.nd,List.mem_of_getElem? hny,rfl⟩)
    have h2:=HT.out.small
    have h3:=HT.out.mb
    have h4:y.nd.byt.length=y.byt.length:=rfl
    omega
   have HDR:=xh λW (hW:Bel w W)=>dir_any (A.nb (i+1)) (y.map A (i+1)) W ((HB.out.bel hW).cell 2)
   have HC3:=xh λW (hW:Bel w W)=>(show W.cell? ⟨A.nb (i+1),3,none⟩=some y.bv from(HB.out.bel hW).cell 3)
   have hmd:(y.map A (i+1)).isSome=y.dir:=by unfold Pn.map;cases y.dir<;>rfl
   rw[hmd]at HDR
   obtain⟨nb,hnb⟩:∃nb,A.nb (i+1)=nb:=⟨_,rfl⟩
   rw[hnb]at HF HDR HC3
   have HNB:=xh hnb
   clear hx hny hmd hnb hle hn
   cases hdir:y.dir with
   | true=>
     rw[hdir]at HDR
     clear hdir
     rw[if_pos rfl]
     go_enter Tryz.func35,Tryz.ntmps35
     go_wp2_with (first
      | (go_at_call 64;((with_reducible refine Calls.mono (HF.out _ (Bel.refl _)) ?_);rintro e w1 ⟨rfl,k1⟩;have HK1:=xh k1;clear k1))
      | (go_at_call 66;((with_reducible refine Calls.mono (HDR.out _ (HK1.out.ac _)) ?_);rintro e w2 ⟨rfl,hh⟩;subst hh)))
     go_ret
     exact⟨λ_=>⟨rfl,HK1.out.ac _⟩,λh=>by cases h⟩
   | false=>
     rw[hdir]at HDR
     clear hdir
     rw[if_neg (by simp)]
     have HLD:=xh λW (hW:Bel w W)=>loadM_rw W y.bv y.byt (HRW.out.bel hW) hbl (HFX.out.bel hW)
     by_cases hl:loadE y.byt=0
     ·rw[if_neg (by simpa using hl)]
      have HLD2:=xh λW (hW:Bel w W)=>(HLD.out W hW).mono λe w' k=>And.intro k.1 (k.2.2 hl)
      have hok:=spaceL_ok HRW.out.1 hl
      have HOK:=xh hok
      clear hl hok HLD
      cases sok with
      | false=>
        rw[if_pos rfl]
        have HSF:=xh λW (hW:Bel w W)=>(HST.out W hW).mono λe w' k=>And.intro k.1 (k.2.2 rfl)
        go_enter Tryz.func35,Tryz.ntmps35
        go_wp2_with (first
         | (go_at_call 64;((with_reducible refine Calls.mono (HF.out _ (Bel.refl _)) ?_);rintro e w1 ⟨rfl,k1⟩;have c3:=HC3.out _ (k1.ac (.cells #[.pointer ad,.string x,.pointer (some ⟨nb,0,none⟩)] 190));have HK1:=xh k1;clear k1))
         | (go_at_call 66;((with_reducible refine Calls.mono (HDR.out _ (HK1.out.ac _)) ?_);rintro e w2 ⟨rfl,hh⟩;subst hh))
         | (go_at_call 69;((with_reducible refine Calls.mono (HLD2.out _ (HK1.out.ac _)) ?_);rintro e w2 ⟨k2,db,rfl,hdb,hsp⟩;have HK2:=xh ((HK1.out.ac _).tr k2);have HSP:=xh (And.intro (Nat.le_trans (HK1.out.ac _).size hdb) hsp);clear k2 hdb hsp))
         | (go_at_call 70;((with_reducible refine Calls.mono (HSF.out _ HK2.out) ?_);rintro e w3 ⟨k3,v,rfl⟩;have HK3:=xh (HK2.out.tr k3);clear k3)))
        go_ret
        exact⟨λ_=>⟨rfl,HK3.out⟩,λh=>by cases h⟩
      | true=>
        rw[if_neg (by simp)]
        have HSG:=xh λW (hW:Bel w W)=>(HST.out W hW).mono λe w' k=>And.intro k.1 (k.2.1 rfl)
        obtain⟨B,hB⟩:∃B,y.byt=B:=⟨_,rfl⟩
        rw[hB]at HLD2 HOK⊢
        obtain⟨m,hm⟩:∃m,spaceL B=m:=⟨_,rfl⟩
        rw[hm]at HLD2 HOK⊢
        have HM:=xh hm
        obtain⟨Ev,hEv⟩:∃E,numAt B 24 8=E:=⟨_,rfl⟩
        rw[hEv]at HLD2
        have HEV:=xh hEv
        have hpl2:=pageNums_stack m ss HOK.out.2
        have hN:(pageNums (withStack m ss)).length=(pageNums m).length+2:=by rw[hpl2];simp
        have hN0:=pageNums_length m
        obtain⟨N,hNN⟩:∃N,(pageNums m).length+2=N:=⟨_,rfl⟩
        have HN:=xh (And.intro (hN.trans hNN) hNN)
        have HCP:=xh λ(W:World) (db sb:Nat) (h1:Sp W db m) (h2:Sp W sb (pagesOf stPerm (memOf ss)))=>copy_any db sb m (pagesOf stPerm (memOf ss)) W h1 h2 (h1.ne_of h2 (HOK.out.2 254 (by omega)) (by simp[pagesOf,stPerm])) (λn hn=>by simp[pagesOf,stPerm];omega) (λn p hp=>by
         obtain⟨q,_,rfl⟩:=Option.map_eq_some_iff.1 hp
         simp)
        have hN258:N≤258:=by omega
        have HX:Hid ((if mf<used-own+(pageNums m).length+2 then 7 else 0)=if mf<used-own+N then 7 else 0):=xh (by rw[←hNN,Nat.add_assoc])
        rw[HX.out]
        obtain⟨ec,hec⟩:∃ec:Nat,(if mf<used-own+N then 7 else 0)=ec:=⟨_,rfl⟩
        rw[hec]
        have HEC:=xh hec
        clear hec hB hm hEv hpl2 hN hN0 hNN
        go_enter Tryz.func35,Tryz.ntmps35
        go_upto_region 15 with(first
         | (go_at_call 64;((with_reducible refine Calls.mono (HF.out _ (Bel.refl _)) ?_);rintro e w1 ⟨rfl,k1⟩;have c3:=HC3.out _ (k1.ac (.cells #[.pointer ad,.string x,.pointer (some ⟨nb,0,none⟩)] 190));have HK1:=xh k1;clear k1))
         | (go_at_call 66;((with_reducible refine Calls.mono (HDR.out _ (HK1.out.ac _)) ?_);rintro e w2 ⟨rfl,hh⟩;subst hh))
         | (go_at_call 69;((with_reducible refine Calls.mono (HLD2.out _ (HK1.out.ac _)) ?_);rintro e w2 ⟨k2,db,rfl,hdb,hsp⟩;have HK2:=xh ((HK1.out.ac _).tr k2);have HSP:=xh (And.intro (Nat.le_trans (HK1.out.ac _).size hdb) hsp);clear k2 hdb hsp))
         | (go_at_call 70;((with_reducible refine Calls.mono (HSG.out _ HK2.out) ?_);rintro e w3 ⟨k3,sb,rfl,hsb⟩;have HK3:=xh (HK2.out.tr k3);have HSB:=xh (And.intro hsb (HSP.out.2.bel k3));clear k3 hsb))
         | (go_at_call 71;((with_reducible refine Calls.mono (HCP.out _ _ _ HSB.out.2 HSB.out.1) ?_);rintro e w4 ⟨rfl,hs4,k4⟩;have H4:=xh (And.intro hs4 k4);clear hs4 k4)))
        have hkb:=HK.out.1.lt
        have hpb:=HP.out.1.lt
        have hdb:=HSP.out.1
        have HKK:=xh ((HK.out.1.bel HK3.out).keep H4.out.2 (λe=>by have e:kb=db:=e;omega))
        have HPP:=xh ((HP.out.1.bel HK3.out).keep H4.out.2 (λe=>by have e:pb=db:=e;omega))
        have hs4:Sp w4 db (withStack m ss):=by rw[←over_stack];exact H4.out.1
        have hlow:∀n,256≤n→withStack m ss n=none:=λn hn=>by
         unfold withStack
         rw[if_neg (by omega)]
         exact HOK.out.2 n (by omega)
        obtain⟨es,clock,hes,hesl⟩:=hs4.heap hlow
        rw[HN.out.1]at hesl
        have HS4:=xh hs4
        have hl1:∀n,(Builtin.len_ #[113] 3 #[.map (some db)]).run Tryz.prog (w4.drewN n)=.ok (.int .i64 (N:Nat)) (w4.drewN n):=λn=>by
         have:=run_len_map (ty:=3) Tryz.underlying113 (w:=w4.drewN n) hes
         rw[hesl]at this
         exact this
        have hl2:∀n,(Builtin.len_ #[113] 3 #[.map mo]).run Tryz.prog (w4.drewN n)=.ok (.int .i64 (own:Nat)) (w4.drewN n):=λn=>by
         cases mo with
         | none=>
           have e:ms=λ_=>none:=HMS.out.1
           have e2:own=0:=by rw[←HMS.out.2.1,e];rfl
           rw[e2]
           exact run_len_nil (ty:=3) Tryz.underlying113
         | some b=>
           have e:Sp w b ms:=HMS.out.1
           have hb:=e.lt
           obtain⟨es,clock,hes,hesl⟩:=((e.bel HK3.out).keep H4.out.2 (λh=>by have h:b=db:=h;omega)).heap HMS.out.2.2
           have:=run_len_map (ty:=3) Tryz.underlying113 (w:=w4.drewN n) hes
           rw[hesl,HMS.out.2.1]at this
           exact this
        have c9:w4.cell? ⟨kb,9,none⟩=some (.int .i64 used):=(HKK.out.cell 9).trans HK.out.2.1
        have c1:w4.cell? ⟨kb,1,none⟩=some (.int .i64 mf):=(HKK.out.cell 1).trans HK.out.2.2
        have c17:w4.cell? ⟨pb,17,none⟩=some (.map mo):=(HPP.out.cell 17).trans HP.out.2
        have HRM:=xh λk=>(kroom_any kb used mf ((N:Int)-own) (w4.drewN k) c9 c1 (by omega) (by omega) (by omega))
        have hw1:IntKind.i64.wrap ((N:Int)-(own:Int))=(N:Int)-(own:Int):=by rw[IntKind.wrap_i64];omega
        clear hes hesl hs4 hlow
        by_cases hroom:(used:Int)+((N:Int)-own)≤mf
        ·go_quiet ((go_at_call 72;exact Calls.quiet_of (HRM.out _)))
         have k5:Bel w4 (w4.drewN nq):=bel_drewN (Bel.refl _) nq
         go_upto_region 17 with fail
         have hl1:=hl1 (nq+1)
         have hl2:=hl2 (nq+1)
         rw[show w4.drewN (nq+1)=(w4.drewN nq).drew from rfl]at hl1 hl2
         generalize w4.drewN nq=w5 at *
         have kd:Bel w4 w5.drew:=k5.tr (Bel.drew (Bel.refl _))
         have hl1':(Builtin.len_ #[113] 3 #[.map (some db)]).run Tryz.prog {heap:=w5.heap,tape:=w5.tape,drawn:=w5.drawn+1,os:=w5.os,output:=w5.output}=.ok (.int .i64 (N:Nat)) {heap:=w5.heap,tape:=w5.tape,drawn:=w5.drawn+1,os:=w5.os,output:=w5.output}:=hl1
         have hl2':(Builtin.len_ #[113] 3 #[.map mo]).run Tryz.prog {heap:=w5.heap,tape:=w5.tape,drawn:=w5.drawn+1,os:=w5.os,output:=w5.output}=.ok (.int .i64 (own:Nat)) {heap:=w5.heap,tape:=w5.tape,drawn:=w5.drawn+1,os:=w5.os,output:=w5.output}:=hl2
         have c9:=cell_bel k5 c9
         have c17:=cell_bel k5 c17
         go_still_tail 16,(by kernel_rfl)
         change wpList _ _ _ _ _ w5.drew
         generalize w5.drew=w6 at *
         have c9:w6.cell? ⟨kb,9,none⟩=some (.int .i64 used):=((HKK.out.bel kd).cell 9).trans HK.out.2.1
         have c17:w6.cell? ⟨pb,17,none⟩=some (.map mo):=((HPP.out.bel kd).cell 17).trans HP.out.2
         have f9:=(HKK.out.bel kd).frozen
         have hl6:=(HKK.out.bel kd).lt
         have HKD:=xh kd
         have HBL:Hid (Tryz.prog.built 115 [(0,.int .u64 Ev),(2,.map (some db))]=some (cpu0 Ev db).toArray):=xh (built_cpu Ev db)
         clear hl1 hl2 hl1' hl2' kd k5 HRM c1 c3
         go_upto_region 18 with fail
         have K7:=Keep.setCell w6 kb 9 (.int .i64 ((used:Int)+((N:Int)-(own:Int))))
         have B7:=(HKK.out.bel HKD.out).setCell (o:=9) (.int .i64 ((used:Int)+((N:Int)-(own:Int))))
         have P7:=(HPP.out.bel HKD.out).keep K7 (λe=>by have e:pb=kb:=e;subst e;exact HPP.out.ne HKK.out (by decide) rfl)
         have HB7:=xh (And.intro B7 (And.intro P7 K7))
         clear c9 c17 f9 hl6 B7 P7 K7 hw1
         generalize w6.setCell ⟨kb,9,none⟩ (.int .i64 ((used:Int)+((N:Int)-(own:Int))))=w7 at *
         have hth:w7.there pb 0 18:=λj hj=>⟨by rw[HB7.out.2.1.cell,List.getElem?_eq_getElem (by omega)];rfl,HB7.out.2.1.frozen _⟩
         have HTH:=xh hth
         clear hth
         go_upto_region 19 with(first
          | (refine wpList_buildTo rfl 115 _ rfl (some 95) rfl _ (by simp only[List.map_toArray,List.map_cons,List.map_nil];exact HBL.out) ?_)
          | (refine wpList_store_mid rfl 115 (.tmp 97) (.tmp 95) rfl pb 0 (cpu0 Ev db).toArray rfl rfl HTH.out (by kernel_rfl) (all_oneCell_toArray (cpu0_one Ev db)) ?_))
         have P8:=HB7.out.2.1.setCells 0 (cpu0 Ev db) (by simp[cpu0];omega)
         have k8:=Keep.setCells w7 pb 0 (cpu0 Ev db)
         have B8:=HB7.out.1.keep k8 (λe=>by have e:kb=pb:=e;subst e;exact HPP.out.ne HKK.out (by decide) rfl)
         generalize w7.setCells pb 0 (cpu0 Ev db)=w8 at *
         have c16:w8.cell? ⟨pb,1+15,none⟩=some (.int .u64 0):=by rw[P8.cell];rfl
         have c16':w8.cell? ⟨pb,16,none⟩=some (.int .u64 0):=c16
         have f16:=P8.frozen
         have hp8:=P8.lt
         have H8:=xh (And.intro B8 (And.intro P8 k8))
         clear B8 P8 k8
         go_wp2_with fail
         go_ret
         have he0:ec=0:=by rw[←HEC.out,if_neg (by omega)]
         refine⟨λh=>absurd he0 h,λ_=>⟨rfl,db,hdb,?_,?_,?_,?_⟩⟩
         ·rw[HM.out]
          have e1:=(HS4.out.bel HKD.out).keep HB7.out.2.2 (λe=>by have e:db=kb:=e;omega)
          have e2:=e1.keep H8.out.2.2 (λe=>by have e:db=pb:=e;omega)
          exact e2.keep (Keep.setCell w8 pb 16 (.int .u64 sp)) (λe=>by have e:db=pb:=e;omega)
         ·have e1:Keep (λq=>q=kb∨q=pb) w w4:=(Keep.of_bel _ HK3.out).tr_new H4.out.2 (λq h=>.inr (by have h:q=db:=h;omega))
          exact(((e1.tr (Keep.of_bel _ HKD.out)).tr (HB7.out.2.2.mono λq h=>.inl h)).tr (H8.out.2.2.mono λq h=>.inr h)).tr ((Keep.setCell w8 pb 16 (.int .u64 sp)).mono λq h=>.inr h)
         ·have e1:=H8.out.1.keep (Keep.setCell w8 pb 16 (.int .u64 sp)) (λe=>by have e:kb=pb:=e;subst e;exact HPP.out.ne HKK.out (by decide) rfl)
          rw[HM.out,HN.out.2]
          rw[show((used-own+N:Nat):Int)=(used:Int)+((N:Int)-(own:Int))from by omega]
          exact e1
         ·have e1:=H8.out.2.1.setCell (o:=16) (.int .u64 sp)
          have e2:(splice pc 0 (cpu0 Ev db)).set 16 (.int .u64 sp)=cpuC (numAt B 24 8) sp db++pc.drop 18:=by
           rw[HEV.out]
           rfl
          rw[←e2]
          exact e1
        ·go_quiet ((go_at_call 72;exact Calls.quiet_of (HRM.out _)))
         have hb4:Bel w w4:=((Keep.of_bel (λ_=>False) HK3.out).tr_new H4.out.2 (λq h=>.inr (by have h:q=db:=h;omega))).below _ (Nat.le_refl _) (λq h=>h.elim)
         have HK5:=xh (bel_drewN hb4 nq)
         go_wp2_with fail
         go_ret
         have he7:ec=7:=by rw[←HEC.out,if_pos (by omega)]
         exact⟨λ_=>⟨by rw[he7];rfl,HK5.out⟩,λh=>by rw[he7]at h;cases h⟩
     ·rw[if_pos hl]
      obtain⟨ec,hec⟩:∃ec,loadE y.byt=ec:=⟨_,rfl⟩
      rw[hec]at hl HLD⊢
      have hcb:((ec:Int)==0)=false:=beq_eq_false_iff_ne.2 (by omega)
      have HEC:=xh hl
      clear hl hec
      go_enter Tryz.func35,Tryz.ntmps35
      go_wp2_with (first
       | (go_at_call 64;((with_reducible refine Calls.mono (HF.out _ (Bel.refl _)) ?_);rintro e w1 ⟨rfl,k1⟩;have c3:=HC3.out _ (k1.ac (.cells #[.pointer ad,.string x,.pointer (some ⟨nb,0,none⟩)] 190));have HK1:=xh k1;clear k1))
       | (go_at_call 66;((with_reducible refine Calls.mono (HDR.out _ (HK1.out.ac _)) ?_);rintro e w2 ⟨rfl,hh⟩;subst hh))
       | (go_at_call 69;((with_reducible refine Calls.mono (HLD.out _ (HK1.out.ac _)) ?_);rintro e w2 ⟨k2,h2,_⟩;obtain rfl:=h2 HEC.out;have HK2:=xh ((HK1.out.ac _).tr k2);clear k2 h2)))
      go_ret
      exact⟨λ_=>⟨rfl,HK2.out⟩,λh=>absurd h HEC.out⟩
 ·rw[if_pos hc]
  have hcb:((c:Int)==0)=false:=beq_eq_false_iff_ne.2 (by omega)
  have hf2:=λW hW=>(hf W hW).mono λe w' k=>And.intro (k.1.trans (by rw[spotV,if_neg hc]):e=.returned (.tuple #[.agg #[.pointer none,.string ⟨#[]⟩,.pointer none],errN c])) k.2
  have HF:=xh hf2
  have HC:=xh hc
  clear hf hf2 hold hc
  go_enter Tryz.func35,Tryz.ntmps35
  go_wp2_with (go_at_call 64;((with_reducible refine Calls.mono (HF.out _ (Bel.refl _)) ?_);rintro e w1 ⟨rfl,k1⟩;have HK1:=xh k1;clear k1))
  go_ret
  exact⟨λ_=>⟨rfl,HK1.out.ac _⟩,λh=>absurd h HC.out⟩
end Go.Proofs.YtjdaddmjpicflaaGreatDoor
namespace Go.Proofs.YtjdaddmjpicflaaGreatDoor
open Go.RowKit
theorem bootP_a (l:Lims) (v:Value) (w:World) (h:l.okA=false) :
 Calls Tryz.prog 13 #[.agg (limC l).toArray,v] w λe w'=>e=.returned (.tuple #[.pointer none,errN 6])∧Bel w w':=by
 obtain⟨a,b,c,d,e⟩:=l
 have h':a<1∨(¬a<1∧16<a)∨(¬a<1∧¬16<a∧b<1)∨(¬a<1∧¬16<a∧¬b<1∧1000<b):=by
  simp only[Lims.okA,decide_eq_false_iff_not]at h
  omega
 clear h
 simp only[limC]
 rcases h' with h1|⟨h1,h2⟩|⟨h1,h2,h3⟩|⟨h1,h2,h3,h4⟩
 all_goals
  go_enter Tryz.func13,Tryz.ntmps13
  go_wp2
  go_ret2
  exact⟨rfl,Bel.start w _⟩
theorem bootP_b (l:Lims) (v:Value) (w:World) (h:l.okA=true) (hb:l.okB=false) :
 Calls Tryz.prog 13 #[.agg (limC l).toArray,v] w λe w'=>e=.returned (.tuple #[.pointer none,errN 6])∧Bel w w':=by
 obtain⟨a,b,c,d,e⟩:=l
 obtain⟨h1,h2,h3,h4⟩:¬a<1∧¬16<a∧¬b<1∧¬1000<b:=by
  simp only[Lims.okA,decide_eq_true_eq]at h
  omega
 have hb':c<0∨(¬c<0∧100000<c)∨(¬c<0∧¬100000<c∧d<0)∨(¬c<0∧¬100000<c∧¬d<0∧100000<d)∨(¬c<0∧¬100000<c∧¬d<0∧¬100000<d∧e<0)∨(¬c<0∧¬100000<c∧¬d<0∧¬100000<d∧¬e<0∧100000<e):=by
  simp only[Lims.okB,decide_eq_false_iff_not]at hb
  omega
 clear h hb
 simp only[limC]
 rcases hb' with g1|⟨g1,g2⟩|⟨g1,g2,g3⟩|⟨g1,g2,g3,g4⟩|⟨g1,g2,g3,g4,g5⟩|⟨g1,g2,g3,g4,g5,g6⟩
 ·go_enter Tryz.func13,Tryz.ntmps13
  go_wp2
  refine wp_loop_rounds 4 ?_
  rw[rounds_succ]
  go_wp2
  go_ret2
  exact⟨rfl,(Bel.start w _).ac _⟩
 ·go_enter Tryz.func13,Tryz.ntmps13
  go_wp2
  refine wp_loop_rounds 4 ?_
  rw[rounds_succ]
  go_wp2
  go_ret2
  exact⟨rfl,(Bel.start w _).ac _⟩
 ·go_enter Tryz.func13,Tryz.ntmps13
  go_wp2
  refine wp_loop_rounds 4 ?_
  rw[rounds_succ]
  go_wp2
  rw[rounds_succ]
  go_wp2
  go_ret2
  exact⟨rfl,(Bel.start w _).ac _⟩
 ·go_enter Tryz.func13,Tryz.ntmps13
  go_wp2
  refine wp_loop_rounds 4 ?_
  rw[rounds_succ]
  go_wp2
  rw[rounds_succ]
  go_wp2
  go_ret2
  exact⟨rfl,(Bel.start w _).ac _⟩
 ·go_enter Tryz.func13,Tryz.ntmps13
  go_wp2
  refine wp_loop_rounds 4 ?_
  rw[rounds_succ]
  go_wp2
  rw[rounds_succ]
  go_wp2
  rw[rounds_succ]
  go_wp2
  go_ret2
  exact⟨rfl,(Bel.start w _).ac _⟩
 ·go_enter Tryz.func13,Tryz.ntmps13
  go_wp2
  refine wp_loop_rounds 4 ?_
  rw[rounds_succ]
  go_wp2
  rw[rounds_succ]
  go_wp2
  rw[rounds_succ]
  go_wp2
  go_ret2
  exact⟨rfl,(Bel.start w _).ac _⟩
theorem newtree_zero (a b:Int) (w:World) (h:a<1):Calls Tryz.prog 31 #[.int .i64 a,.int .i64 b] w λe w'=>e=.returned (.tuple #[.pointer none,errN 12])∧w=w':=by
 go_enter Tryz.func31,Tryz.ntmps31
 go_wp2
 go_ret2
 exact⟨rfl,rfl⟩
theorem bootP_c (l:Lims) (v:Value) (w:World) (h:l.okA=true) (hb:l.okB=true) (hd:l.d=0) :
 Calls Tryz.prog 13 #[.agg (limC l).toArray,v] w λe w'=>e=.returned (.tuple #[.pointer none,errN 12])∧Bel w w':=by
 obtain⟨a,b,c,d,e⟩:=l
 obtain⟨h1,h2,h3,h4⟩:¬a<1∧¬16<a∧¬b<1∧¬1000<b:=by
  simp only[Lims.okA,decide_eq_true_eq]at h
  omega
 obtain⟨g1,g2,g3,g4,g5,g6⟩:¬c<0∧¬100000<c∧¬d<0∧¬100000<d∧¬e<0∧¬100000<e:=by
  simp only[Lims.okB,decide_eq_true_eq]at hb
  omega
 have hd1:d<1:=by show d<1;simp only at hd;omega
 clear h hb hd
 simp only[limC]
 go_enter Tryz.func13,Tryz.ntmps13
 go_wp2_with fail
 refine wp_loop_rounds 4 ?_
 rw[rounds_succ]
 go_wp2_with fail
 rw[rounds_succ]
 go_wp2_with fail
 rw[rounds_succ]
 go_wp2_with fail
 rw[rounds_succ]
 go_wp2_with (go_at_call 31;((with_reducible refine Calls.mono (newtree_zero _ _ _ hd1) ?_);rintro e2 w1 ⟨rfl,hh⟩;subst hh))
 go_ret2
 exact⟨rfl,(Bel.start w _).ac _⟩
end Go.Proofs.YtjdaddmjpicflaaGreatDoor
