/- Poke, Peek over a space: memory as a function from addresses to bytes. -/
import Derived.Laws.CopyOwn
import Derived.Laws.Tables
import Derived.Great.BuildSlice
import Derived.OwnWalk
import Derived.Test.YtjdaddmjpicflaaGreatDoorP02
import Derived.Test.YtjdaddmjpicflaaGreatDoorP01
import Derived.Maps.RangeWalk
import Derived.Deep.DeepCutAuto
set_option linter.unusedVariables false
set_option linter.unusedSimpArgs false
set_option maxRecDepth 100000
set_option maxHeartbeats 16000000
namespace Go.Proofs.YtjdaddmjpicflaaGreatDoor
open Go.RowKit Go.Maps
open Go.ChangeMaps (setBlock heap_setBlock_same heap_setBlock_other)
set_option maxRecDepth 100000
variable {S:Nat→Prop} {w w' w'':World}
theorem Sp.keep {b:Nat} {m:Pages} (hb:Sp w b m) (h:Keep S w w') (hs:¬S b):Sp w' b m:=hb.of_block (h.block b hb.lt hs)
def pagesOf (perm:Nat→Option Int) (M:Nat→Int):Pages:=λn=>(perm n).map λp=>⟨p,(List.range 256).map λi=>M (256*n+i)⟩
def pokeM (M:Nat→Int) (A:Nat) (bs:List Int):Nat→Int:=λa=>if A≤a∧a<A+bs.length then bs.getD (a-A) 0 else M a
theorem Sp.ne {b b1 o:Nat} {m:Pages} {l:List Int} (h:Sp w b m) (hb:Bts w b1 o l) (h0:0<l.length):b1≠b:=by
 rintro rfl
 obtain⟨kv,⟨es,clock,h1,_⟩,_⟩:=h
 have:=hb.at_ 0 h0
 simp[World.cell?,h1]at this
theorem Below.heap_alloc' (w:World) (o:Obj):Below w.heap.size w (w.alloc o):=(Below.refl _ _).alloc (Nat.le_refl _) _
theorem Bts.lt {b o:Nat} {l:List Int} (h:Bts w b o l) (h0:0<l.length):b<w.heap.size:=by
 have:=h.at_ 0 h0
 by_cases hb:b<w.heap.size
 ·exact hb
 ·simp[World.cell?,Array.getElem?_eq_none (Nat.le_of_not_lt hb)]at this
theorem Bts.keep {b o:Nat} {l:List Int} (h:Bts w b o l) (k:Keep S w w') (hs:0<l.length→¬S b):Bts w' b o l:=by
 by_cases h0:0<l.length
 ·exact⟨λi hi=>(k.cell _ (h.lt h0) (hs h0)).trans (h.cell i hi),h.byte⟩
 ·exact⟨λi hi=>by omega,h.byte⟩
theorem Sp.update {b:Nat} {m:Pages} (h:Sp w b m) (n:Nat) (hn:n<9223372036854775808) (p:Pg) :
 ∃es clock,(Instr.mapUpdate 113 (.map (some b)) (.int .i64 n) p.v).run Tryz.prog w=.ok () (Go.ChangeMaps.setBlock w b (.map es clock))∧Sp (Go.ChangeMaps.setBlock w b (.map es clock)) b (λi=>if i=n then some p else m i)∧Keep (λk=>k=b) w (Go.ChangeMaps.setBlock w b (.map es clock)):=by
 obtain⟨kv,h1,h2,h3⟩:=h
 obtain⟨es,clock,hr,hm⟩:=h1.update keyedI Tryz.underlying113 (n:Int) (WalkArith.wf_i64 (by omega)) p.v
 obtain⟨es0,cl0,h0,_⟩:=h1
 refine⟨es,clock,hr,⟨_,hm,λi=>?_,λq hq=>?_⟩,Keep.setBlock h0 _⟩
 ·by_cases hi:i=n
  ·subst hi
   rw[getKv_putKv_same]
   simp
  ·rw[getKv_putKv_other _ (by omega),h2 i]
   simp[hi]
 ·unfold putKv at hq
  split at hq
  ·obtain⟨q',hq',rfl⟩:=List.mem_map.1 hq
   split
   ·exact Int.natCast_nonneg n
   ·exact h3 q' hq'
  ·rcases List.mem_append.1 hq with hq|hq
   ·exact h3 q hq
   ·obtain rfl:=List.mem_singleton.1 hq
    exact Int.natCast_nonneg n
theorem page_poke (M:Nat→Int) (A:Nat) (bs:List Int) (k n r:Nat) (h:A+k=256*n+r) (hr:r<256) (hk:k<bs.length) (p:Int) :
 splice (Pg.cells ⟨p,(List.range 256).map λi=>pokeM M A (bs.take k) (256*n+i)⟩) (1+r) (((bs.drop k).take (256-r)).map (Value.int .u8)) =
  Pg.cells ⟨p,(List.range 256).map λi=>pokeM M A (bs.take (k+Nat.min (bs.length-k) (256-r))) (256*n+i)⟩:=by
 have hm:Nat.min (bs.length-k) (256-r)=min (bs.length-k) (256-r):=rfl
 apply List.ext_getElem?
 intro i
 simp only[splice,Pg.cells]
 cases i with
 | zero=>simp[Nat.add_comm 1 r]
 | succ i=>
   by_cases hi:i<256
   ·rw[List.getElem?_append]
    simp only[List.length_take,List.length_cons,List.length_map,List.length_range]
    rw[Nat.min_eq_left (by omega)]
    by_cases h1:i<r
    ·rw[if_pos (by omega),List.getElem?_take,if_pos (by omega)]
     simp only[List.getElem?_cons_succ,List.getElem?_map,List.getElem?_range hi,Option.map_some]
     congr 2
     simp only[pokeM,List.length_take]
     have e1:(A≤256*n+i∧256*n+i<A+min k bs.length)↔(A≤256*n+i∧256*n+i<A+min (k+Nat.min (bs.length-k) (256-r)) bs.length):=by omega
     by_cases e2:A≤256*n+i∧256*n+i<A+min k bs.length
     ·rw[if_pos e2,if_pos (e1.1 e2)]
      simp only[List.getD_eq_getElem?_getD,List.getElem?_take]
      rw[if_pos (by omega),if_pos (by omega)]
     ·rw[if_neg e2,if_neg λe3=>e2 (e1.2 e3)]
    ·rw[if_neg (by omega),List.getElem?_append]
     simp only[List.length_map,List.length_take,List.length_drop]
     by_cases h2:i+1-(1+r)<min (256-r) (bs.length-k)
     ·rw[if_pos h2]
      simp only[List.getElem?_cons_succ,List.getElem?_map,List.getElem?_range hi,Option.map_some,List.getElem?_take,List.getElem?_drop]
      rw[if_pos (by omega),List.getElem?_eq_getElem (by omega)]
      simp only[Option.map_some]
      congr 2
      simp only[pokeM,List.length_take]
      rw[if_pos (by omega),List.getD_eq_getElem?_getD,List.getElem?_take,if_pos (by omega),show 256*n+i-A=k+(i+1-(1+r))from by omega,List.getElem?_eq_getElem (by omega)]
      rfl
     ·rw[if_neg h2,List.getElem?_drop,show 1+r+min (256-r) (bs.length-k)+(i+1-(1+r)-min (256-r) (bs.length-k))=i+1 from by omega]
      simp only[List.getElem?_cons_succ,List.getElem?_map,List.getElem?_range hi,Option.map_some]
      congr 2
      simp only[pokeM,List.length_take]
      rw[if_neg (by omega),if_neg (by omega)]
   ·rw[List.getElem?_eq_none (by simp;omega),List.getElem?_eq_none (by simp;omega)]
theorem pages_poke (perm:Nat→Option Int) (M:Nat→Int) (A:Nat) (bs:List Int) (k n r:Nat) (h:A+k=256*n+r) (hr:r<256) (hk:k<bs.length) (p:Int) (hp:perm n=some p) :
 (λi=>if i=n then some ⟨p,(List.range 256).map λi=>pokeM M A (bs.take (k+Nat.min (bs.length-k) (256-r))) (256*n+i)⟩else pagesOf perm (pokeM M A (bs.take k)) i)=pagesOf perm (pokeM M A (bs.take (k+Nat.min (bs.length-k) (256-r)))):=by
 have hm:Nat.min (bs.length-k) (256-r)=min (bs.length-k) (256-r):=rfl
 funext i
 by_cases hi:i=n
 ·subst hi
  simp[pagesOf,hp]
 ·simp only[hi,if_false,pagesOf]
  congr 1
  funext p'
  congr 1
  apply List.map_congr_left
  intro j hj
  have hj:=List.mem_range.1 hj
  simp only[pokeM,List.length_take]
  by_cases e2:A≤256*i+j∧256*i+j<A+min k bs.length
  ·rw[if_pos e2,if_pos (by omega)]
   simp only[List.getD_eq_getElem?_getD,List.getElem?_take]
   rw[if_pos (by omega),if_pos (by omega)]
  ·rw[if_neg e2,if_neg (by omega)]
theorem Blk.setRow {g:Nat} {old:List Value} {t:TypeId} (h:Blk w g old t) (cs:List Value):Blk (w.setRow g cs.toArray) g cs t:=setRow_heap w g old.toArray cs.toArray t (0,0) h
theorem Keep.setRow (w:World) (g:Nat) (cs:Array Value):Keep (λk=>k=g) w (w.setRow g cs):=⟨rfl,rfl,rfl,by simp,λk _ hk=>setRow_other w g k cs hk⟩
theorem Blk.range {g:Nat} {cs:List Value} {t:TypeId} (h:Blk w g cs t) (o:Nat):w.rangeAt g o (cs.drop o):=λj v hv=>by
 rw[h.cell (o+j),←List.getElem?_drop,hv]
theorem wpList_store_blk {P:Program} {ops:Array Oper} {rest:List Oper} {o:Oper} {a:Act} {Q:Exit→Act→World→Prop} (hgd:o.guard=none) (ty:TypeId) (x y:Operand) (ho:o.op=.store ty x y)
 (hd:o.dst=none) (g:Nat) (cells old:List Value) (t:TypeId) (hB:Blk w g old t) (hx:a.eval x=.pointer (some ⟨g,0,none⟩)) (hy:a.eval y=.agg cells.toArray)
 (hi:(P.info? ty).map (·.size)=some cells.length) (hold:old.length=cells.length) (h1:∀v∈cells,v.oneCell'=true)
 (h:∀w',Hid (Blk w' g cells t)→Keep (λk=>k=g) w w'→wpList P ops Q rest a w'):wpList P ops Q (o::rest) a w:=
 wpList_store_rowTo hgd ty x y ho hd g cells.toArray hx hy t old.toArray hB (by simpa using hi) (by simpa using hold) (all_oneCell_toArray h1) (h _ (xh (hB.setRow cells)) (Keep.setRow w g _))
theorem Pg.cells_one (p:Pg):∀v∈p.cells,v.oneCell'=true:=by
 intro v hv
 simp only[Pg.cells,List.mem_cons,List.mem_map]at hv
 rcases hv with rfl|⟨x,_,rfl⟩<;>rfl
theorem slice_page (w:World) (g:Nat) (x:Int) (r:Nat) (hx:x=r) (hr:r<256) :
 (Instr.sliceAt 146 (.pointer (some ⟨g,1,none⟩)) (some (.int .i64 x)) none none).run Tryz.prog w=.ok (.slice (some ⟨g,1+r,none⟩) (256-r) (256-r)) w:=by
 subst hx
 have e1:Tryz.prog.arrayLen 146=256:=by kernel_rfl
 have e2:Tryz.prog.elem 146=5:=by kernel_rfl
 have e3:(sizeOf 5).run Tryz.prog w=.ok 1 w:=by kernel_rfl
 rw[run_sliceAt_array_l w _ _ (by rw[e1,e2];exact Tryz.underlying146) .i64 r (by omega) (by rw[e1];omega),e1,e2,e3]
 simp only[Result.andThen_ok,slicedAt]
 rw[if_neg (by omega),Addr.add_mid]
 simp
theorem poke_any (b:Nat) (perm:Nat→Option Int) (M:Nat→Int) (A:Nat) (bs:List Int) (p1:Option Addr) (b1 o1 c1:Nat) (w:World) (hs:Sp w b (pagesOf perm M)) (hA:A+bs.length≤65536)
 (hp1:0<bs.length→p1=some ⟨b1,o1,none⟩) (hb:Bts w b1 o1 bs) (hc1:bs.length≤c1) (hperm:∀a,A≤a→a<A+bs.length→(perm (a/256)).isSome=true) :
 Calls Tryz.prog 117 #[.map (some b),.int .u64 A,.slice p1 bs.length c1] w λe w'=>e=.returned (.tuple #[])∧Sp w' b (pagesOf perm (pokeM M A bs))∧Keep (λk=>k=b) w w':=by
 go_enter Tryz.func117,Tryz.ntmps117
 have HP:=xh hperm
 have H1:=xh hp1
 clear hperm hp1
 go_wp2
 go_loopw [1,2] (λa s wr=>∃(k:Nat) (p:Option Addr) (c:Nat),k≤bs.length∧bs.length-k≤c∧a=.int .u64 (A+k)∧s=.slice p (bs.length-k) c∧(k<bs.length→p=some ⟨b1,o1+k,none⟩)∧Sp wr b (pagesOf perm (pokeM M A (bs.take k)))∧Keep (λk=>k=b) w wr)
  (λ_ s _=>match s with | .slice _ n _=>n|_=>0)
 case atStart=>exact⟨0,p1,c1,Nat.zero_le _,by simpa using hc1,by simp,rfl,λh=>by simpa using H1.out h,by rw[show pokeM M A (bs.take 0)=M from by funext a;simp[pokeM];intros;omega];exact hs,Keep.refl _ _⟩
 case round=>
  obtain⟨k,p,c,hk,hkc,rfl,rfl,hp,hsr,hkr⟩:=hrel
  by_cases hlt:k<bs.length
  ·obtain rfl:=hp hlt
   clear hp
   obtain⟨n,hn⟩:∃n:Nat,n=(A+k)/256:=⟨_,rfl⟩
   obtain⟨r,hr⟩:∃r:Nat,r=(A+k)%256:=⟨_,rfl⟩
   have hsum:A+k=256*n+r:=by omega
   have hr256:r<256:=by omega
   have hn256:n<256:=by omega
   have hlk:=hsr.lookup n (by omega)
   obtain⟨pm,hpm⟩:=Option.isSome_iff_exists.1 (HP.out (A+k) (by omega) (by omega))
   rw[←hn]at hpm
   have hpg:(pagesOf perm (pokeM M A (bs.take k)) n).getD Pg.zero=⟨pm,(List.range 256).map λi=>pokeM M A (bs.take k) (256*n+i)⟩:=by simp[pagesOf,hpm]
   rw[hpg]at hlk
   obtain⟨cs,hcs⟩:∃cs:List Value,cs=Pg.cells ⟨pm,(List.range 256).map λi=>pokeM M A (bs.take k) (256*n+i)⟩:=⟨_,rfl⟩
   obtain⟨news,hnews⟩:∃news:List Value,news=((bs.drop k).take (256-r)).map (Value.int .u8):=⟨_,rfl⟩
   rw[show Pg.v ⟨pm,(List.range 256).map λi=>pokeM M A (bs.take k) (256*n+i)⟩=.agg cs.toArray from by rw[hcs];rfl]at hlk
   have hcl:cs.length=257:=by rw[hcs];simp[Pg.cells]
   have hone:∀v∈cs,v.oneCell'=true:=by rw[hcs];exact Pg.cells_one _
   have hz:∀w,(zeroValue 202).run Tryz.prog w=.ok (.agg Pg.zero.cells.toArray) w:=zeroPage
   obtain⟨zs,hzs⟩:∃zs:List Value,zs=Pg.zero.cells:=⟨_,rfl⟩
   have hzl:zs.length=257:=by rw[hzs];simp[Pg.cells,Pg.zero]
   rw[←hzs]at hz
   have hdiv:((A:Int)+k)/256=(n:Int):=by omega
   have hmod:((A:Int)+k)%256=(r:Int):=by omega
   rw[←hdiv]at hlk
   have HD:=xh hdiv
   have HM:=xh hmod
   have HN:=xh hn
   have HR:=xh hr
   have HS:=xh hsum
   have HC:=xh hcs
   have HCL:=xh hcl
   have HZL:=xh hzl
   have HNW:=xh hnews
   have HPM:=xh hpm
   clear hdiv hn hmod hr hsum hcs hcl hzl hnews hpm hzs hpg
   have HONE:=xh hone
   clear hone
   have hsl:=λw=>slice_page w wr.heap.size _ r HM.out hr256
   have hnl:news.length=Nat.min (bs.length-k) (256-r):=by rw[HNW.out];simp only[List.length_map,List.length_take,List.length_drop];exact Nat.min_comm _ _
   have hnl1:news.length≤bs.length-k:=by rw[hnl];exact Nat.min_le_left _ _
   have hnl2:news.length≤256-r:=by rw[hnl];exact Nat.min_le_right _ _
   have hnl3:0<news.length:=by rw[hnl];exact Nat.lt_min.2 ⟨by omega,by omega⟩
   have HNL:=xh hnl
   clear hnl
   have HSRC:∀w2,Below wr.heap.size wr w2→∀j v,news[j]?=some v→w2.cell? ((⟨b1,o1+k,none⟩:Addr).add j)=some v:=by
    intro w2 h2 j v hj
    have hne:=hs.ne hb (by omega)
    have hb2:=(hb.keep hkr λ_=>hne).keep (Keep.of_bel (λ_=>False) h2) (λ_ h=>h)
    have hjl:j<news.length:=(List.getElem?_eq_some_iff.1 hj).1
    rw[Addr.add_mid,show o1+k+j=o1+(k+j)from by omega,hb2.cell (k+j) (by omega),←hj,HNW.out,List.getElem?_map,List.getElem?_take,if_pos (by omega),List.getElem?_drop]
   obtain⟨p',hp'⟩:∃p':Pg,p'=⟨pm,(List.range 256).map λi=>pokeM M A (bs.take (k+Nat.min (bs.length-k) (256-r))) (256*n+i)⟩:=⟨_,rfl⟩
   have HSP:Hid (splice cs (1+r) news=p'.cells):=xh (by rw[HC.out,HNW.out,hp'];exact page_poke M A bs k n r HS.out hr256 hlt pm)
   have HSRC:=xh HSRC
   have HP':=xh hp'
   have HPL:Hid (p'.cells.length=257):=xh (by rw[hp'];simp[Pg.cells])
   have HNO:Hid (∀v∈news,v.oneCell'=true):=xh (by rw[HNW.out];intro v hv;obtain⟨x,_,rfl⟩:=List.mem_map.1 hv;rfl)
   clear hp'
   go_wp2_with (first
    | (refine wpList_store_blk rfl 202 (.tmp 7) (.tmp 17) rfl rfl wr.heap.size cs zs 202 (Blk.new wr zs _) rfl rfl (by rw[HCL.out];kernel_rfl) (HZL.out.trans HCL.out.symm) HONE.out ?_;intro w2 B2 K2)
    | (refine wpList_copy_splice rfl (.tmp 22) (.tmp 23) 32 32 rfl 5 Tryz.underlying32 (by kernel_rfl) _ _ _ _ _ _ rfl rfl wr.heap.size (1+r) cs 202 B2.out news HNL.out (λ_=>⟨rfl,⟨b1,o1+k,none⟩,rfl,HSRC.out _ ((Below.heap_alloc' wr _).trans (K2.below _ (by simp) (λk hk=>by omega)))⟩) (by rw[HCL.out];omega) HNO.out wr.heap.size wr ((Below.heap_alloc' wr _).trans (K2.below _ (by simp) (λk hk=>by omega))) (Nat.le_refl _) ?_;intro w3 B3 K3)
    | (refine wpList_load_mid rfl 202 (.tmp 7) rfl wr.heap.size 0 rfl p'.cells _ (by have:=(show Blk w3 wr.heap.size p'.cells 202 by rw[←HSP.out];exact B3.out).range 0;simpa using this) Tryz.underlying202 rfl (by rw[HPL.out];kernel_rfl) ?_
       obtain⟨es,clock,hup,hsp4,hk4⟩:=(hsr.bel K3).update n (by omega) p'
       rw[←HD.out,show p'.v=.agg p'.cells.toArray from rfl]at hup
       have HS4:=xh hsp4
       have HK4:=xh hk4
       clear hsp4 hk4
       generalize hw4:Go.ChangeMaps.setBlock w3 b (.map es clock)=w4 at *
       clear hw4))
   have hq:pagesOf perm (pokeM M A (bs.take (k+news.length)))=λi=>if i=n then some p' else pagesOf perm (pokeM M A (bs.take k)) i:=by
    rw[HNL.out,HP'.out];exact(pages_poke perm M A bs k n r HS.out hr256 hlt pm HPM.out).symm
   refine⟨⟨k+news.length,_,c-news.length,by omega,by omega,by congr 1;omega,by rw[Nat.sub_sub],λh=>by rw[if_neg (by omega),Nat.add_assoc],by rw[hq];exact HS4.out,?_⟩,by simp only[];omega⟩
   exact hkr.tr_new ((Keep.of_bel (λk=>k=b) K3).tr HK4.out) (λi hi=>.inl hi)
  ·obtain rfl:k=bs.length:=by omega
   have HSR:=xh hsr
   clear hsr
   go_wp2
   go_end0
   exact⟨rfl,by have:=HSR.out;rwa [List.take_length]at this,hkr⟩
end Go.Proofs.YtjdaddmjpicflaaGreatDoor
namespace Go.Proofs.YtjdaddmjpicflaaGreatDoor
open Go.RowKit Go.Maps Go.WideShapes
def RV:Value→Option (DataW Value×List MemPlace):=λv=>some (.held v,[])
def entV (kv:List (Int×Value)):List (Lit×DataW Value):=kv.map λp=>(Lit.int .i64 p.1,.held p.2)
def DV (kv:List (Int×Value)):DataW Value:=.map ((entV kv).foldr DataW.insert [])
theorem Mp.fitV {w:World} {b:Nat} {kv:List (Int×Value)} (h:Mp keyI w b kv) (hl:kv.length≤maxLen):∃es clock,w.heap[b]?=some (.map es clock)∧Go.WideElems.Fit Tryz.prog 3 RV es clock∧es.size=kv.length∧es.toList.map (Go.WideElems.rg Tryz.prog 3 RV)=entV kv:=by
 obtain⟨es,clock,h1,h2,h3,h4⟩:=h
 have hlen:es.size=kv.length:=by have:=congrArg List.length h3;simpa using this
 have hrd:∀a v,keyI.ok a→∀c,Go.WideElems.rd Tryz.prog 3 RV ⟨.int .i64 a,v,c⟩=some (Lit.int .i64 a,.held v):=by
  intro a v ha c
  have:keyOf Tryz.prog 3 (.int .i64 a)=some (.int .i64 a):=keyI.read a ha
  simp[Go.WideElems.rd,this,RV]
 have hent:∀x∈es.toList,∃p∈kv,x.key=.int .i64 p.1:=by
  intro x hx
  have hm:(x.key,x.val)∈kv.map (λp=>(keyI.kf p.1,p.2)):=by rw[←h3];exact List.mem_map.2 ⟨x,hx,rfl⟩
  obtain⟨p,hp,e⟩:=List.mem_map.1 hm
  injection e with e1 _
  exact⟨p,hp,e1.symm⟩
 have hone:∀x∈es.toList,∀a,x.key=.int .i64 a→keyI.ok a→Go.WideElems.rd Tryz.prog 3 RV x=some (Lit.int .i64 a,.held x.val):=by
  rintro⟨k,v,c⟩ _ a rfl ha
  exact hrd a v ha c
 refine⟨es,clock,h1,⟨by omega,h2,λx hx=>?_⟩,hlen,?_⟩
 ·obtain⟨p,hp,e⟩:=hent x hx
  exact⟨_,hone x hx p.1 e (h4 p hp)⟩
 ·unfold entV
  apply List.ext_getElem?
  intro i
  have h3i:=congrArg (·[i]?) h3
  simp only[List.getElem?_map]at h3i⊢
  cases he:es.toList[i]? with
  | none=>
    rw[he]at h3i
    cases hk:kv[i]? with
    | none=>rfl
    | some p=>rw[hk]at h3i;cases h3i
  | some x=>
    rw[he]at h3i
    cases hk:kv[i]? with
    | none=>rw[hk]at h3i;cases h3i
    | some p=>
      rw[hk]at h3i
      simp only[Option.map_some,Option.some.injEq,Prod.mk.injEq]at h3i
      have:=hone x (List.mem_of_getElem? he) p.1 h3i.1 (h4 p (List.mem_of_getElem? hk))
      simp only[Option.map_some,Go.WideElems.rg,this,Option.getD_some,h3i.2]
theorem Mp.ownsV {w:World} {b:Nat} {kv:List (Int×Value)} (h:Mp keyI w b kv) (hl:kv.length≤maxLen):w.ownsMap Tryz.prog 3 RV b kv.length (DV kv):=by
 obtain⟨es,clock,h1,h2,h3,h4⟩:=h.fitV hl
 exact⟨es,clock,h1,h2,by omega,by rw[h4];rfl⟩
theorem DV_at {w:World} {b:Nat} {kv:List (Int×Value)} (h:Mp keyI w b kv) (hl:kv.length≤maxLen) {x:Int} {c:Value} (hx:(Lit.int .i64 x).wf=true) (hat:∀zd,(DV kv).atKey (.int .i64 x) zd=.held c):getKv kv x=some c:=by
 obtain⟨es,clock,h1,h2,h3,h4⟩:=h.fitV hl
 have hr:=Go.Maps.fit_rising keyedI h2
 rw[h4]at hr
 obtain⟨k1,k2⟩:=atKey_sorted (entV kv) hr (.int .i64 x) trivial
 by_cases hm:∃p∈entV kv,p.1=.int .i64 x
 ·obtain⟨p,hp,e⟩:=hm
  have:=(k2 p hp e .nil).symm.trans (hat .nil)
  obtain⟨q,hq,rfl⟩:=List.mem_map.1 hp
  simp only at e this
  injection e with _ e
  injection this with this
  subst e
  rw[←this]
  exact getKv_some h.nodup hq
 ·have hn:∀p∈entV kv,p.1≠ .int .i64 x:=λp hp e=>hm ⟨p,hp,e⟩
  have:=(k1 hn .nil).symm.trans (hat .nil)
  cases this
theorem DV_has {kv:List (Int×Value)} {x:Int} (hx:(getKv kv x).isSome=true):Maps.has (DV kv) (.int .i64 x)=true:=by
 obtain⟨p,hp,e⟩:=List.mem_map.1 (getKv_isSome.1 hx)
 refine List.any_eq_true.2 ⟨(.int .i64 p.1,.held p.2),mem_sorted.2 (List.mem_map.2 ⟨p,hp,rfl⟩),?_⟩
 rw[e]
 exact WideAt.sameKey_self (a:=.int .i64 x) trivial
theorem sameKey_int (a b:Int):(Lit.int .i64 a).sameKey (.int .i64 b)=decide (a=b):=by
 by_cases h:a=b
 ·subst h
  rw[WideAt.sameKey_self (a:=.int .i64 a) trivial]
  simp
 ·have:(Lit.int .i64 a).sameKey (.int .i64 b)=false:=by
   cases hs:(Lit.int .i64 a).sameKey (.int .i64 b)
   ·rfl
   ·have:=WideAt.sameKey_eq hs
    injection this with _ this
    exact absurd this h
  rw[this]
  simp[h]
def over (m s:Pages):Pages:=λn=>if (s n).isSome=true then s n else m n
def overL (m s:Pages) (left:Lit→Bool):Pages:=λn=>if (s n).isSome=true∧left (.int .i64 n)=false then s n else m n
theorem invI {key:Value} {kl:Lit} (h:keyOf Tryz.prog 3 key=some kl):∃x,key=.int .i64 x:=by
 obtain⟨x,h,_⟩:=Maps.keyOf_int_inv Tryz.underlying3 h
 exact⟨x,h⟩
theorem copy_any (db sb:Nat) (m s:Pages) (w:World) (hd:Sp w db m) (hs:Sp w sb s) (hne:db≠sb) (hb:∀n,256≤n→s n=none) (hwf:∀n p,s n=some p→p.bytes.length=256) :
 Calls Tryz.prog 71 #[.map (some db),.map (some sb)] w λe w'=>e=.returned (.tuple #[])∧Sp w' db (over m s)∧Keep (λq=>q=db) w w':=by
 obtain⟨kv,hmp,hget,hpos⟩:=hs
 have hl:kv.length≤maxLen:=by
  have h1:=(Sp.keys hb hmp hget hpos).length_eq
  have h2:=pageNums_length s
  simp only[List.length_map]at h1
  unfold maxLen
  omega
 have hown:=hmp.ownsV hl
 have hdl:=hd.lt
 have hsl:=hmp.lt
 have HG:=xh hget
 have HM:=xh hmp
 have HP:=xh hpos
 have HB:=xh hb
 have HW:=xh hwf
 have HL:=xh hl
 clear hget hmp hpos hb hwf hl
 have hz:∀w,(zeroValue 202).run Tryz.prog w=.ok (.agg Pg.zero.cells.toArray) w:=zeroPage
 obtain⟨zs,hzs⟩:∃zs:List Value,zs=Pg.zero.cells:=⟨_,rfl⟩
 have hzl:zs.length=257:=by rw[hzs];simp[Pg.cells,Pg.zero]
 rw[←hzs]at hz
 have HZL:=xh hzl
 clear hzs hzl
 go_enter Tryz.func71,Tryz.ntmps71
 go_wp2_with (first
  | (at_range;refine wpList_range_own _ rfl _ 113 rfl 3 202 keyedI Tryz.underlying113 _ sb kv.length _ rfl hown ?_;intro w0 hrg0 hg0 hs0)
  | go_in)
 go_frame
 go_loopw [4] (λ_ wr=>∃(left:Lit→Bool) (cnt:Nat),wr.ranges Tryz.prog 3 RV sb w.heap.size kv.length (DV kv) left cnt∧Sp wr db (overL m s left)∧Keep (λq=>q=db) w wr)
  (λ_ wr=>wr.rangeLeft sb w.heap.size)
 case atStart=>
  refine⟨_,_,hrg0,?_,⟨hg0.os,hg0.tape,hg0.output,hg0.size,λi hi _=>hg0.block i hi (by simp)⟩⟩
  have e:overL m s (Maps.has (DV kv))=m:=by
   funext n
   refine if_neg ?_
   rintro⟨h1,h2⟩
   rw[DV_has (by rw[HG.out n,Option.isSome_map];exact h1)]at h2
   cases h2
  rw[e]
  exact hd.of_block (hg0.block db hdl (by simp))
 case round=>
  obtain⟨left,cnt,hrg,hsp,hkr⟩:=hrel
  go_wp2_with (first
   | (at_next;refine wpList_next_ranges _ rfl _ rfl 3 keyedI RV (Value.int .i64) id (λkey kl h=>invI h) (λv y h=>⟨v,rfl⟩) sb w.heap.size kv.length _ _ _ rfl hrg ?_ ?_)
   | go_in)
  ·intro _ hl0
   go_wp2
   go_end0
   have e:overL m s left=over m s:=by
    funext n
    unfold overL over
    simp[hl0]
   exact⟨rfl,by rw[←e];exact hsp,hkr⟩
  ·intro x c kl y yp w1 cnt1 hkey hlx hR hat hrg1 hlt hg1 hs1 hen
   obtain⟨x',ex,rfl,hwx⟩:=Maps.keyOf_int_inv Tryz.underlying3 hkey
   cases ex
   have hy:y=.held c:=by
    have:=congrArg (Option.map Prod.fst) hR
    simpa [RV]using this.symm
   subst hy
   have hgk:=DV_at HM.out HL.out hwx hat
   obtain⟨n,rfl⟩:∃n:Nat,x=n:=by
    have hm:=getKv_isSome.1 (by rw[hgk];rfl:(getKv kv x).isSome=true)
    obtain⟨q,hq,rfl⟩:=List.mem_map.1 hm
    exact Int.eq_ofNat_of_zero_le (HP.out q hq)
   rw[HG.out n]at hgk
   obtain⟨p,hp,rfl⟩:=Option.map_eq_some_iff.1 hgk
   have hpw:=HW.out n p hp
   have hn256:n<256:=by
    refine Classical.byContradiction λhc=>?_
    rw[HB.out n (by omega)]at hp
    cases hp
   have HX:=xh (And.intro hlx hp)
   have HRG0:=xh hrg
   have HRG:=xh hrg1
   have HLT:=xh hlt
   have kr1:Keep (λq=>q=db) w w1:=hkr.tr_new (S:=λq=>q=db) (S':=λq=>q=w.heap.size) ⟨hg1.os,hg1.tape,hg1.output,hg1.size,λi hi hn=>hg1.block i hi (by simpa using λe=>hn e)⟩ (λi hi=>.inr (by omega))
   have sp1:Sp w1 db (overL m s left):=hsp.of_block (hg1.block db hsp.lt (by simp;omega))
   obtain⟨cs,hcs⟩:∃cs,p.cells=cs:=⟨_,rfl⟩
   have hpv:p.v=.agg cs.toArray:=by rw[←hcs];rfl
   have hcl:cs.length=257:=by rw[←hcs];simp[Pg.cells,hpw]
   have hone:∀v∈cs,v.oneCell'=true:=by rw[←hcs];exact Pg.cells_one _
   have HPV:=xh hpv
   have HK1:=xh kr1
   have HS1:=xh sp1
   rw[hpv]at hen⊢
   have HCL:=xh hcl
   have HONE:=xh hone
   clear hs1 hgk hp hpw hlx hR hat hrg1 hlt hg1 kr1 sp1 hcs hcl hone hpv hsp hkey hrg
   go_wp2_with (first
    | (refine wpList_store_blk rfl 202 (.tmp 5) (.tmp 12) rfl rfl w1.heap.size cs zs 202 (Blk.new w1 zs _) rfl rfl (by rw[HCL.out];kernel_rfl) (HZL.out.trans HCL.out.symm) HONE.out ?_;intro w2 B2 K2;have k12:Bel w1 w2:=(Below.heap_alloc' w1 _).trans (K2.below _ (by simp) (λk hk=>by omega));have HK12:=xh k12;clear k12 K2)
    | (refine wpList_load_mid rfl 202 (.tmp 5) rfl w1.heap.size 0 rfl cs _ (by have:=B2.out.range 0;simpa using this) Tryz.underlying202 rfl (by rw[HCL.out];kernel_rfl) ?_
       obtain⟨es,clock,hup,hsp4,hk4⟩:=(HS1.out.bel HK12.out).update n (by omega) p
       rw[HPV.out]at hup
       have HS4:=xh hsp4
       have HK4:=xh hk4
       clear hsp4 hk4
       generalize hw4:Go.ChangeMaps.setBlock w2 db (.map es clock)=w4 at *
       clear hw4))
   have hrg4:=(HRG.out.kept (w':=w2) (row:=none) ⟨HK12.out.os,HK12.out.tape,HK12.out.output,HK12.out.size,λi hi _=>HK12.out.block i hi⟩ (by simp) (by simp)).kept (w':=w4) (row:=some db) ⟨HK4.out.os,HK4.out.tape,HK4.out.output,HK4.out.size,λi hi hn=>HK4.out.block i hi (by simpa using hn)⟩ (by simpa using λe=>hne e.symm) (by simp;omega)
   have HRG4:=xh hrg4
   clear hrg4
   go_roundw
   case rel=>
    refine⟨_,cnt1,HRG4.out,?_,HK1.out.tr ((Keep.of_bel _ HK12.out).tr HK4.out)⟩
    have e:overL m s (λz=>left z&&!z.sameKey (.int .i64 n))=λi=>if i=n then some p else overL m s left i:=by
     funext i
     unfold overL
     simp only[sameKey_int]
     by_cases hi:i=n
     ·subst hi
      simp[HX.out.2]
     ·rw[if_neg hi]
      have:decide ((i:Int)=n)=false:=by simp;omega
      rw[this]
      simp
    rw[e]
    exact HS4.out
   case measure=>rw[HRG4.out.left_eq,HRG0.out.left_eq];exact HLT.out
end Go.Proofs.YtjdaddmjpicflaaGreatDoor
namespace Go.Proofs.YtjdaddmjpicflaaGreatDoor
open Go.RowKit
def u64 (n:Int):Int:=n%18446744073709551616
structure Cpu where
 pc:Int
 regs:List Int
 M:Nat→Int
def aluF (op:Nat) (a b imm:Int):Int:=
 match op with
 | 1=>imm
 | 2=>b
 | 3=>u64 (b+imm)
 | 4=>u64 (a+b)
 | 5=>u64 (a-b)
 | 6=>u64 (a*b)
 | 7=>if b=0 then 18446744073709551615 else a/b
 | 8=>if b=0 then a else a%b
 | 9=>bits .and .u64 a b
 | 10=>bits .or .u64 a b
 | 11=>bits .xor .u64 a b
 | 12=>u64 (a*2^(b%64).toNat)
 | _=>a/2^(b%64).toNat
def brF (op:Nat) (a b:Int):Bool:=
 match op with
 | 18=>a==b
 | 19=>a != b
 | 20=>decide (wrap64 a<wrap64 b)
 | 21=>decide (a<b)
 | _=>true
def bytes8F (n:Int):List Int:=[n%256,n/256%256,n/65536%256,n/16777216%256,n/4294967296%256,n/1099511627776%256,n/281474976710656%256,n/72057594037927936]
def U (n:Int):Prop:=0≤n∧n<18446744073709551616
theorem U.u64 (n:Int):U (u64 n):=by unfold Go.Proofs.YtjdaddmjpicflaaGreatDoor.u64 U;omega
theorem and63 (b:Int) (h:U b):bits .and .u64 b 63=b%64:=by
 obtain⟨h0,h1⟩:=h
 obtain⟨n,rfl⟩:=Int.eq_ofNat_of_zero_le h0
 show IntKind.u64.wrap (((BitVec.ofInt IntKind.u64.bits (n:Int) &&& BitVec.ofInt IntKind.u64.bits ((63:Nat):Int)).toNat:Nat):Int)=_
 have hb:2^IntKind.u64.bits=18446744073709551616:=rfl
 rw[BitVec.ofInt_natCast,BitVec.ofInt_natCast,BitVec.toNat_and,BitVec.toNat_ofNat,BitVec.toNat_ofNat,hb,Nat.mod_eq_of_lt (by omega:n<18446744073709551616),Nat.mod_eq_of_lt (by omega:63<18446744073709551616)]
 rw[show(63:Nat)=2^6-1 from rfl,Nat.and_two_pow_sub_one_eq_mod]
 show(((n%2^6:Nat):Int))%18446744073709551616=_
 omega
theorem shl_run (a b:Int) (w:World):(Op.shift .shl .u64 a .u64 (b%64)).run Tryz.prog w=.ok (.int .u64 (u64 (a*2^(b%64).toNat))) w:=by
 unfold Op.shift
 have h:min (b%64).toNat IntKind.u64.bits=(b%64).toNat:=Nat.min_eq_left (by show _≤64;omega)
 rw[if_neg (by omega)]
 simp only[h]
 rfl
theorem shr_run (a b:Int) (ha:0≤a) (w:World):(Op.shift .shr .u64 a .u64 (b%64)).run Tryz.prog w=.ok (.int .u64 (a/2^(b%64).toNat)) w:=by
 unfold Op.shift
 have h:min (b%64).toNat IntKind.u64.bits=(b%64).toNat:=Nat.min_eq_left (by show _≤64;omega)
 rw[if_neg (by omega)]
 simp only[h]
 rw[Int.fdiv_eq_ediv_of_nonneg _ (by exact Int.pow_nonneg (by decide))]
 rfl
theorem alu1_any (a b i:Int) (w:World) (ha:U a) (hb:U b) (hi:U i):Calls Tryz.prog 207 #[.int .u64 a,.int .u64 b,.int .u64 i] w λe w'=>e=.returned (.int .u64 (aluF 1 a b i))∧w=w':=by
 go_enter Tryz.func207,Tryz.ntmps207
 go_wp2
 go_ret
 exact⟨rfl,rfl⟩
theorem alu2_any (a b i:Int) (w:World) (ha:U a) (hb:U b) (hi:U i):Calls Tryz.prog 208 #[.int .u64 a,.int .u64 b,.int .u64 i] w λe w'=>e=.returned (.int .u64 (aluF 2 a b i))∧w=w':=by
 go_enter Tryz.func208,Tryz.ntmps208
 go_wp2
 go_ret
 exact⟨rfl,rfl⟩
theorem alu3_any (a b i:Int) (w:World) (ha:U a) (hb:U b) (hi:U i):Calls Tryz.prog 209 #[.int .u64 a,.int .u64 b,.int .u64 i] w λe w'=>e=.returned (.int .u64 (aluF 3 a b i))∧w=w':=by
 go_enter Tryz.func209,Tryz.ntmps209
 go_wp2
 go_ret
 exact⟨rfl,rfl⟩
theorem alu4_any (a b i:Int) (w:World) (ha:U a) (hb:U b) (hi:U i):Calls Tryz.prog 210 #[.int .u64 a,.int .u64 b,.int .u64 i] w λe w'=>e=.returned (.int .u64 (aluF 4 a b i))∧w=w':=by
 go_enter Tryz.func210,Tryz.ntmps210
 go_wp2
 go_ret
 exact⟨rfl,rfl⟩
theorem alu5_any (a b i:Int) (w:World) (ha:U a) (hb:U b) (hi:U i):Calls Tryz.prog 211 #[.int .u64 a,.int .u64 b,.int .u64 i] w λe w'=>e=.returned (.int .u64 (aluF 5 a b i))∧w=w':=by
 go_enter Tryz.func211,Tryz.ntmps211
 go_wp2
 go_ret
 exact⟨rfl,rfl⟩
theorem alu6_any (a b i:Int) (w:World) (ha:U a) (hb:U b) (hi:U i):Calls Tryz.prog 212 #[.int .u64 a,.int .u64 b,.int .u64 i] w λe w'=>e=.returned (.int .u64 (aluF 6 a b i))∧w=w':=by
 go_enter Tryz.func212,Tryz.ntmps212
 go_wp2
 go_ret
 exact⟨rfl,rfl⟩
theorem alu7_any (a b i:Int) (w:World) (ha:U a) (hb:U b) (hi:U i):Calls Tryz.prog 213 #[.int .u64 a,.int .u64 b,.int .u64 i] w λe w'=>e=.returned (.int .u64 (aluF 7 a b i))∧w=w':=by
 obtain⟨ha0,ha1⟩:=ha
 obtain⟨hb0,hb1⟩:=hb
 by_cases h:b=0
 ·subst h
  go_enter Tryz.func213,Tryz.ntmps213
  go_wp2
  go_ret
  exact⟨rfl,rfl⟩
 ·have h2:(b==0)=false:=by simpa using h
  have hf:aluF 7 a b i=a/b:=if_neg h
  have HF:=xh hf
  clear hf
  go_enter Tryz.func213,Tryz.ntmps213
  go_wp2
  go_ret
  exact⟨by rw[HF.out];rfl,rfl⟩
theorem alu8_any (a b i:Int) (w:World) (ha:U a) (hb:U b) (hi:U i):Calls Tryz.prog 214 #[.int .u64 a,.int .u64 b,.int .u64 i] w λe w'=>e=.returned (.int .u64 (aluF 8 a b i))∧w=w':=by
 obtain⟨ha0,ha1⟩:=ha
 obtain⟨hb0,hb1⟩:=hb
 by_cases h:b=0
 ·subst h
  go_enter Tryz.func214,Tryz.ntmps214
  go_wp2
  go_ret
  exact⟨rfl,rfl⟩
 ·have h2:(b==0)=false:=by simpa using h
  have hf:aluF 8 a b i=a%b:=if_neg h
  have HF:=xh hf
  clear hf
  go_enter Tryz.func214,Tryz.ntmps214
  go_wp2
  go_ret
  exact⟨by rw[HF.out];rfl,rfl⟩
theorem alu9_any (a b i:Int) (w:World) (ha:U a) (hb:U b) (hi:U i):Calls Tryz.prog 215 #[.int .u64 a,.int .u64 b,.int .u64 i] w λe w'=>e=.returned (.int .u64 (aluF 9 a b i))∧w=w':=by
 go_enter Tryz.func215,Tryz.ntmps215
 go_wp2
 go_ret
 exact⟨rfl,rfl⟩
theorem alu10_any (a b i:Int) (w:World) (ha:U a) (hb:U b) (hi:U i):Calls Tryz.prog 216 #[.int .u64 a,.int .u64 b,.int .u64 i] w λe w'=>e=.returned (.int .u64 (aluF 10 a b i))∧w=w':=by
 go_enter Tryz.func216,Tryz.ntmps216
 go_wp2
 go_ret
 exact⟨rfl,rfl⟩
theorem alu11_any (a b i:Int) (w:World) (ha:U a) (hb:U b) (hi:U i):Calls Tryz.prog 217 #[.int .u64 a,.int .u64 b,.int .u64 i] w λe w'=>e=.returned (.int .u64 (aluF 11 a b i))∧w=w':=by
 go_enter Tryz.func217,Tryz.ntmps217
 go_wp2
 go_ret
 exact⟨rfl,rfl⟩
theorem alu12_any (a b i:Int) (w:World) (ha:U a) (hb:U b) (hi:U i):Calls Tryz.prog 218 #[.int .u64 a,.int .u64 b,.int .u64 i] w λe w'=>e=.returned (.int .u64 (aluF 12 a b i))∧w=w':=by
 have h63:=and63 b hb
 have hs:=shl_run a b
 go_enter Tryz.func218,Tryz.ntmps218
 go_wp2
 go_ret
 exact⟨rfl,rfl⟩
theorem alu13_any (a b i:Int) (w:World) (ha:U a) (hb:U b) (hi:U i):Calls Tryz.prog 219 #[.int .u64 a,.int .u64 b,.int .u64 i] w λe w'=>e=.returned (.int .u64 (aluF 13 a b i))∧w=w':=by
 have h63:=and63 b hb
 have hs:=shr_run a b ha.1
 go_enter Tryz.func219,Tryz.ntmps219
 go_wp2
 go_ret
 exact⟨rfl,rfl⟩
theorem br1_any (a b:Int) (w:World) (ha:U a) (hb:U b):Calls Tryz.prog 220 #[.int .u64 a,.int .u64 b] w λe w'=>e=.returned (.bool (brF 18 a b))∧w=w':=by
 obtain⟨ha0,ha1⟩:=ha
 obtain⟨hb0,hb1⟩:=hb
 go_enter Tryz.func220,Tryz.ntmps220
 go_wp2
 go_ret
 exact⟨rfl,rfl⟩
theorem br2_any (a b:Int) (w:World) (ha:U a) (hb:U b):Calls Tryz.prog 221 #[.int .u64 a,.int .u64 b] w λe w'=>e=.returned (.bool (brF 19 a b))∧w=w':=by
 obtain⟨ha0,ha1⟩:=ha
 obtain⟨hb0,hb1⟩:=hb
 go_enter Tryz.func221,Tryz.ntmps221
 go_wp2
 go_ret
 exact⟨rfl,rfl⟩
theorem br3_any (a b:Int) (w:World) (ha:U a) (hb:U b):Calls Tryz.prog 222 #[.int .u64 a,.int .u64 b] w λe w'=>e=.returned (.bool (brF 20 a b))∧w=w':=by
 obtain⟨ha0,ha1⟩:=ha
 obtain⟨hb0,hb1⟩:=hb
 go_enter Tryz.func222,Tryz.ntmps222
 go_wp2
 go_ret
 exact⟨rfl,rfl⟩
theorem br4_any (a b:Int) (w:World) (ha:U a) (hb:U b):Calls Tryz.prog 223 #[.int .u64 a,.int .u64 b] w λe w'=>e=.returned (.bool (brF 21 a b))∧w=w':=by
 obtain⟨ha0,ha1⟩:=ha
 obtain⟨hb0,hb1⟩:=hb
 go_enter Tryz.func223,Tryz.ntmps223
 go_wp2
 go_ret
 exact⟨rfl,rfl⟩
theorem br5_any (a b:Int) (w:World) (ha:U a) (hb:U b):Calls Tryz.prog 224 #[.int .u64 a,.int .u64 b] w λe w'=>e=.returned (.bool (brF 22 a b))∧w=w':=by
 obtain⟨ha0,ha1⟩:=ha
 obtain⟨hb0,hb1⟩:=hb
 go_enter Tryz.func224,Tryz.ntmps224
 go_wp2
 go_ret
 exact⟨rfl,rfl⟩
def aluV (op:Nat):Value:=([.nilFunc,.func (.func 207) #[] #[],.func (.func 208) #[] #[],.func (.func 209) #[] #[],.func (.func 210) #[] #[],.func (.func 211) #[] #[],.func (.func 212) #[] #[],.func (.func 213) #[] #[],.func (.func 214) #[] #[],.func (.func 215) #[] #[],.func (.func 216) #[] #[],.func (.func 217) #[] #[],.func (.func 218) #[] #[],.func (.func 219) #[] #[],.nilFunc,.nilFunc,.nilFunc,.nilFunc,.nilFunc,.nilFunc,.nilFunc,.nilFunc,.nilFunc,.nilFunc,.nilFunc]:List Value).getD op .nilFunc
def brV (op:Nat):Value:=([.nilFunc,.nilFunc,.nilFunc,.nilFunc,.nilFunc,.nilFunc,.nilFunc,.nilFunc,.nilFunc,.nilFunc,.nilFunc,.nilFunc,.nilFunc,.nilFunc,.nilFunc,.nilFunc,.nilFunc,.nilFunc,.func (.func 220) #[] #[],.func (.func 221) #[] #[],.func (.func 222) #[] #[],.func (.func 223) #[] #[],.func (.func 224) #[] #[],.nilFunc,.nilFunc]:List Value).getD op .nilFunc
def opIn (op:Nat):Prop:=op=0∨op=1∨op=2∨op=3∨op=4∨op=5∨op=6∨op=7∨op=8∨op=9∨op=10∨op=11∨op=12∨op=13∨op=14∨op=15∨op=16∨op=17∨op=18∨op=19∨op=20∨op=21∨op=22∨op=23∨op=24
theorem opIn_of {op:Nat} (h:op≤24):opIn op:=by unfold opIn;omega
theorem alu_any (op:Nat) (h:op≤24) (w:World):Calls Tryz.prog 167 #[.int .u8 op] w λe w'=>e=.returned (aluV op)∧w=w':=by
 have hx:∀W,(Instr.index 376 (.agg #[.nilFunc,.func (.func 207) #[] #[],.func (.func 208) #[] #[],.func (.func 209) #[] #[],.func (.func 210) #[] #[],.func (.func 211) #[] #[],.func (.func 212) #[] #[],.func (.func 213) #[] #[],.func (.func 214) #[] #[],.func (.func 215) #[] #[],.func (.func 216) #[] #[],.func (.func 217) #[] #[],.func (.func 218) #[] #[],.func (.func 219) #[] #[],.nilFunc,.nilFunc,.nilFunc,.nilFunc,.nilFunc,.nilFunc,.nilFunc,.nilFunc,.nilFunc,.nilFunc,.nilFunc]) (.int .u8 (op:Int))).run Tryz.prog W=.ok (aluV op) W:=λW=>by
  rcases opIn_of h with rfl|rfl|rfl|rfl|rfl|rfl|rfl|rfl|rfl|rfl|rfl|rfl|rfl|rfl|rfl|rfl|rfl|rfl|rfl|rfl|rfl|rfl|rfl|rfl|rfl
  all_goals kernel_rfl
 go_enter Tryz.func167,Tryz.ntmps167
 go_wp2
 go_ret
 exact⟨rfl,rfl⟩
theorem branch_any (op:Nat) (h:op≤24) (w:World):Calls Tryz.prog 168 #[.int .u8 op] w λe w'=>e=.returned (brV op)∧w=w':=by
 have hx:∀W,(Instr.index 377 (.agg #[.nilFunc,.nilFunc,.nilFunc,.nilFunc,.nilFunc,.nilFunc,.nilFunc,.nilFunc,.nilFunc,.nilFunc,.nilFunc,.nilFunc,.nilFunc,.nilFunc,.nilFunc,.nilFunc,.nilFunc,.nilFunc,.func (.func 220) #[] #[],.func (.func 221) #[] #[],.func (.func 222) #[] #[],.func (.func 223) #[] #[],.func (.func 224) #[] #[],.nilFunc,.nilFunc]) (.int .u8 (op:Int))).run Tryz.prog W=.ok (brV op) W:=λW=>by
  rcases opIn_of h with rfl|rfl|rfl|rfl|rfl|rfl|rfl|rfl|rfl|rfl|rfl|rfl|rfl|rfl|rfl|rfl|rfl|rfl|rfl|rfl|rfl|rfl|rfl|rfl|rfl
  all_goals kernel_rfl
 go_enter Tryz.func168,Tryz.ntmps168
 go_wp2
 go_ret
 exact⟨rfl,rfl⟩
end Go.Proofs.YtjdaddmjpicflaaGreatDoor
