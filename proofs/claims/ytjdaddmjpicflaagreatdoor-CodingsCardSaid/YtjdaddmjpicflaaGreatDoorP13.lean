/- Which segments cover a page: the document's count against the program's pages, in plain words. -/
import Derived.Test.YtjdaddmjpicflaaGreatDoorP12
import Derived.Test.YtjdaddmjpicflaaGreatDoorP06
set_option linter.unusedVariables false
set_option linter.unusedSimpArgs false
set_option maxRecDepth 100000
set_option maxHeartbeats 16000000
namespace Go.Proofs.YtjdaddmjpicflaaGreatDoor
open Go.RowKit Go.Maps
def Seg.cov (s:Seg) (i:Nat):Bool:=decide (s.first≤i)&&decide (i≤s.last)
theorem Seg.cov_iff {s:Seg} {i:Nat}:s.cov i=true↔s.first≤i∧i≤s.last:=by simp[Seg.cov]
def cnt (L:List Int):Nat→Nat→Nat
 | 0,_=>0
 | k+1,i=>cnt L k i+if (segAt L k).cov i then 1 else 0
def ovB (L:List Int) (s:Seg) (i:Nat) (old:List Int) (j:Nat):Int:=
 if s.addr≤(i:Int)*256+j∧(i:Int)*256+j-s.addr<s.file then L.getD (s.off+((i:Int)*256+j)-s.addr).toNat 0 else old.getD j 0
def pgTo (L:List Int) (i:Nat):Nat→Pg
 | 0=>Pg.zero
 | k+1=>if (segAt L k).cov i then⟨(segAt L k).perm,(List.range 256).map (ovB L (segAt L k) i (pgTo L i k).bytes)⟩else pgTo L i k
theorem cnt_mono (L:List Int) (i:Nat):∀k n,k≤n→cnt L k i≤cnt L n i:=by
 intro k n h
 induction n with
 | zero=>obtain rfl:k=0:=by omega
         exact Nat.le_refl _
 | succ n ih=>
   by_cases e:k=n+1
   ·subst e;exact Nat.le_refl _
   ·exact Nat.le_trans (ih (by omega)) (Nat.le_add_right _ _)
theorem cnt_le (L:List Int) (i:Nat):∀k,cnt L k i≤k
 | 0=>Nat.le_refl _
 | k+1=>by have:=cnt_le L i k;simp only[cnt];split<;>omega
theorem spaceTo_none (L:List Int) (i:Nat):∀k,spaceTo L k i=none↔cnt L k i=0
 | 0=>by simp[spaceTo,cnt]
 | k+1=>by
   have ih:=spaceTo_none L i k
   simp only[spaceTo,layTo,cnt]
   by_cases c:(segAt L k).cov i=true
   ·have:=Seg.cov_iff.1 c
    rw[if_pos ⟨this.1,by omega⟩,if_pos c]
    simp
   ·have:¬((segAt L k).first≤i∧i<(segAt L k).last+1):=λh=>c (Seg.cov_iff.2 ⟨h.1,by omega⟩)
    rw[if_neg this,if_neg c,ih]
    omega
theorem pgTo_zero (L:List Int) (i:Nat):∀k,cnt L k i=0→pgTo L i k=Pg.zero
 | 0,_=>rfl
 | k+1,h=>by
   simp only[cnt]at h
   by_cases c:(segAt L k).cov i=true
   ·rw[if_pos c]at h;omega
   ·rw[if_neg c]at h
    simp only[pgTo,if_neg c]
    exact pgTo_zero L i k (by omega)
theorem spaceTo_one (L:List Int) (i:Nat):∀k,cnt L k i=1→spaceTo L k i=some (pgTo L i k)
 | 0,h=>by simp[cnt]at h
 | k+1,h=>by
   simp only[cnt]at h
   by_cases c:(segAt L k).cov i=true
   ·have hc:=Seg.cov_iff.1 c
    rw[if_pos c]at h
    have hz:=pgTo_zero L i k (by omega)
    simp only[spaceTo,layTo,pgTo,if_pos c]
    rw[if_pos ⟨hc.1,by omega⟩,hz]
    congr 1
    unfold segPage
    congr 1
    apply List.map_congr_left
    intro j hj
    have hj:=List.mem_range.1 hj
    unfold segByte ovB
    have e1:(256*(i:Int)+j)=(i:Int)*256+j:=by omega
    rw[e1]
    by_cases q:(segAt L k).addr≤(i:Int)*256+j∧(i:Int)*256+j<(segAt L k).addr+(segAt L k).file
    ·rw[if_pos q,if_pos ⟨q.1,by omega⟩]
     congr 2
     omega
    ·rw[if_neg q,if_neg (by omega)]
     rw[List.getD_eq_getElem?_getD,show Pg.zero.bytes=List.replicate 256 (0:Int)from rfl,List.getElem?_replicate,if_pos hj]
     rfl
   ·have:¬((segAt L k).first≤i∧i<(segAt L k).last+1):=λh=>c (Seg.cov_iff.2 ⟨h.1,by omega⟩)
    rw[if_neg c]at h
    simp only[spaceTo,layTo,pgTo,if_neg c,if_neg this]
    exact spaceTo_one L i k (by omega)
theorem free_iff (L:List Int) (N:Nat):(∀k,k<N→FreeAt L k)↔∀i,cnt L N i≤1:=by
 constructor
 ·intro h i
  have:∀k,k≤N→cnt L k i≤1:=by
   intro k
   induction k with
   | zero=>intro _;simp[cnt]
   | succ k ih=>
     intro hk
     have ih:=ih (by omega)
     simp only[cnt]
     by_cases c:(segAt L k).cov i=true
     ·have hc:=Seg.cov_iff.1 c
      have:=(spaceTo_none L i k).1 (h k (by omega) i hc.1 hc.2)
      rw[if_pos c];omega
     ·rw[if_neg c];omega
  exact this N (Nat.le_refl _)
 ·intro h k hk n h1 h2
  refine(spaceTo_none L n k).2 ?_
  have h3:=cnt_mono L n (k+1) N (by omega)
  have h4:=h n
  simp only[cnt,if_pos (Seg.cov_iff.2 ⟨h1,h2⟩)]at h3
  omega
theorem pgTo_wf (L:List Int) (hb:∀x∈L,0≤x∧x≤255) (i:Nat):∀k,(∀j,j<k→SegFits L (segAt L j))→(pgTo L i k).wf
 | 0,_=>Pg.zero_wf
 | k+1,h=>by
   have ih:=pgTo_wf L hb i k λj hj=>h j (by omega)
   have hf:=h k (by omega)
   simp only[pgTo]
   by_cases c:(segAt L k).cov i=true
   ·rw[if_pos c]
    refine⟨by simp,λx hx=>?_,hf.perm⟩
    obtain⟨j,hj,rfl⟩:=List.mem_map.1 hx
    have hj:=List.mem_range.1 hj
    unfold ovB
    split
    ·rename_i q
     have h1:=hf.off
     have h2:=hf.fits
     have:(segAt L k).off+((i:Int)*256+j)-(segAt L k).addr<L.length:=by omega
     rw[List.getD_eq_getElem?_getD,List.getElem?_eq_getElem (by omega)]
     exact hb _ (List.getElem_mem _)
    ·rw[List.getD_eq_getElem?_getD,List.getElem?_eq_getElem (by rw[ih.len];exact hj)]
     exact ih.byte _ (List.getElem_mem _)
   ·rw[if_neg c];exact ih
theorem cnt_out (L:List Int) (i:Nat) (hi:254≤i):∀k,(∀j,j<k→SegFits L (segAt L j))→cnt L k i=0
 | 0,_=>rfl
 | k+1,h=>by
   have ih:=cnt_out L i hi k λj hj=>h j (by omega)
   have hf:=h k (by omega)
   have h1:=hf.top
   have c:¬(segAt L k).cov i=true:=λc=>by
    have:=(Seg.cov_iff.1 c).2
    unfold Seg.last at this
    omega
   simp only[cnt,ih,if_neg c]
theorem row_keep_ne {w0 w w':World} {base G:Nat} {e:TypeId} {size:Nat} {v:Value} {n:Nat} {xs:List Value} (h:w0.ownsRow base e size v n xs) (hb:Bel w0 w) (hk:Keep (λq=>q=G) w w') (hG:w0.heap.size≤G):w'.ownsRow base e size v n xs:=by
 have h1:=row_bel h hb
 refine⟨h1.1,?_⟩
 rcases h.2 with h2|⟨g,cap,cur,rfl,h3,h4,h5⟩
 ·exact .inl h2
 ·have hg:=(Array.getElem?_eq_some_iff.1 h4).1
  exact .inr ⟨g,cap,cur,rfl,h3,((hk.block g (Nat.lt_of_lt_of_le hg hb.size) (by omega)).trans (hb.block g hg)).trans h4,h5⟩
def docNums (L:List Int) (N i:Nat):List Nat:=(List.range i).filter λn=>cnt L N n==1
theorem docNums_succ (L:List Int) (N i:Nat):docNums L N (i+1)=docNums L N i++if cnt L N i=1 then[i]else[]:=by
 unfold docNums
 rw[List.range_succ,List.filter_append]
 by_cases h:cnt L N i=1<;>simp[List.filter_cons,h]
theorem docNums_length (L:List Int) (N i:Nat):(docNums L N i).length≤i:=by
 have:=List.length_filter_le (λn=>cnt L N n==1) (List.range i)
 simpa [docNums]using this
theorem docNums_all (L:List Int) (N:Nat) (h:∀i,cnt L N i≤1):docNums L N 256=pageNums (spaceTo L N):=by
 unfold docNums pageNums
 apply List.filter_congr
 intro n _
 by_cases c:cnt L N n=1
 ·rw[spaceTo_one L n N c];simp[c]
 ·rw[(spaceTo_none L n N).2 (by have:=h n;omega)];simp[c]
def docCells (L:List Int) (N:Nat) (ns:List Nat):List Value:=ns.flatMap λn=>refCells n (pgTo L n N)
theorem docCells_all (L:List Int) (N:Nat):docCells L N (docNums L N 256)=(docNums L N 256).flatMap λn=>refCells n ((spaceTo L N n).getD Pg.zero):=by
 unfold docCells
 rw[List.flatMap_eq_foldl,List.flatMap_eq_foldl]
 have:∀(ns:List Nat) (acc:List Value),(∀n∈ns,cnt L N n=1)→ns.foldl (λacc n=>acc++refCells n (pgTo L n N)) acc=ns.foldl (λacc n=>acc++refCells n ((spaceTo L N n).getD Pg.zero)) acc:=by
  intro ns
  induction ns with
  | nil=>intro _ _;rfl
  | cons n ns ih=>
    intro acc h
    simp only[List.foldl_cons]
    rw[spaceTo_one L n N (h n (by simp))]
    exact ih _ λm hm=>h m (by simp[hm])
 exact this _ _ λn hn=>by have:=(List.mem_filter.1 hn).2;simpa using this
def docFind (L:List Int) (N:Nat) (E:Int) (n:Nat):Bool:=((n:Int)==E/256)&&(bits .and .i64 (pgTo L n N).perm 1==1)
theorem and1 (p:Int) (h0:0≤p) (h1:p≤7):(bits .and .i64 p 1==1)=!(bits .and .u8 p 1==0):=by
 have:p=0∨p=1∨p=2∨p=3∨p=4∨p=5∨p=6∨p=7:=by omega
 rcases this with rfl|rfl|rfl|rfl|rfl|rfl|rfl|rfl<;>decide
theorem entry_doc (L:List Int) (N:Nat) (hN:(segN L).toNat=N) (hf:∀j,j<N→SegFits L (segAt L j)) (hb:∀x∈L,0≤x∧x≤255) (h:∀i,cnt L N i≤1) (E:Int) (hE:numAt L 24 8=E) (h0:0≤E) :
 entryOk L=(decide (E%4=0)&&decide (E<65536)&&(docNums L N 256).any (docFind L N E)):=by
 unfold entryOk
 rw[hN,hE]
 by_cases q:E%4=0
 ·by_cases q2:E<65536
  ·have hm:mayB (spaceTo L N) E 1 1=canAt (spaceTo L N) (E/256).toNat 1:=by
    unfold mayB
    rw[if_neg (by omega),if_neg (by omega)]
    have:lastOf E 1=(E/256).toNat+1:=by unfold lastOf;omega
    rw[this,mayAll_snoc _ _ _ _ (Nat.le_refl _)]
    simp[mayAll]
   rw[hm]
   simp only[q,q2,decide_true,Bool.true_and,beq_self_eq_true]
   obtain⟨n,hn⟩:∃n,n=(E/256).toNat:=⟨_,rfl⟩
   have hnE:(n:Int)=E/256:=by omega
   rw[←hn]
   by_cases c:cnt L N n=1
   ·have hw:=pgTo_wf L hb n N hf
    have e1:canAt (spaceTo L N) n 1=(bits .and .i64 (pgTo L n N).perm 1==1):=by
     unfold canAt Pg.can
     rw[spaceTo_one L n N c,and1 _ hw.perm.1 hw.perm.2]
     rfl
    rw[e1,Bool.eq_iff_iff,List.any_eq_true]
    constructor
    ·intro h1
     exact⟨n,List.mem_filter.2 ⟨List.mem_range.2 (by omega),by simp[c]⟩,by unfold docFind;rw[h1];simp[hnE]⟩
    ·rintro⟨k,_,h2⟩
     unfold docFind at h2
     rw[Bool.and_eq_true]at h2
     have:k=n:=by have:=h2.1;simp at this;omega
     subst this
     exact h2.2
   ·have e1:canAt (spaceTo L N) n 1=false:=by
     unfold canAt Pg.can
     rw[(spaceTo_none L n N).2 (by have:=h n;omega)]
     decide
    rw[e1]
    symm
    rw[List.any_eq_false]
    intro k hk h2
    unfold docFind at h2
    rw[Bool.and_eq_true]at h2
    have:k=n:=by have:=h2.1;simp at this;omega
    subst this
    have:=(List.mem_filter.1 hk).2
    simp at this
    exact c this
  ·have hm:mayB (spaceTo L N) E 1 1=false:=by
    unfold mayB
    rw[if_neg (by omega),if_pos (by omega)]
   rw[hm]
   simp[q2]
 ·simp[q]
def Seg.rcells (s:Seg):List Value:=[.int .i64 s.perm,.int .u64 s.off,.int .u64 s.addr,.int .u64 s.file,.int .u64 s.mem]
theorem segInfoR:(Tryz.prog.info? 282).map (λi=>(i.size,i.bytes,(i.zero.map (·.cells.size))))=some (5,40,some 5):=by kernel_rfl
theorem pageInfoR:(Tryz.prog.info? 148).map (λi=>(i.size,i.bytes,(i.zero.map (·.cells.size))))=some (258,272,some 258):=by kernel_rfl
structure LoadResR (L:List Int) (base:Nat) (e:Ending) (w':World):Prop where
 header:headerOk L=false→e=.returned (.tuple #[.slice none 0 0,.int .u64 0,.int .i64 2])
 segs:headerOk L=true→segsOk L=false→e=.returned (.tuple #[.slice none 0 0,.int .u64 0,.int .i64 3])
 overlap:headerOk L=true→segsOk L=true→(¬∀k,k<(segN L).toNat→FreeAt L k)→e=.returned (.tuple #[.slice none 0 0,.int .u64 0,.int .i64 4])
 entry:headerOk L=true→segsOk L=true→(∀k,k<(segN L).toNat→FreeAt L k)→entryOk L=false→e=.returned (.tuple #[.slice none 0 0,.int .u64 0,.int .i64 5])
 ok:headerOk L=true→segsOk L=true→(∀k,k<(segN L).toNat→FreeAt L k)→entryOk L=true→∃v,e=.returned (.tuple #[v,.int .u64 (numAt L 24 8),.int .i64 0])∧
  w'.ownsRow base 148 258 v (pageNums (spaceTo L (segN L).toNat)).length ((pageNums (spaceTo L (segN L).toNat)).flatMap λn=>refCells n ((spaceTo L (segN L).toNat n).getD Pg.zero))
def rowMix (f:Nat→Int) (old:List Int) (j:Nat):List Int:=(List.range 256).map λx=>if x<j then f x else old.getD x 0
theorem rowMix_zero (f:Nat→Int) (old:List Int) (h:old.length=256):rowMix f old 0=old:=by
 apply List.ext_getElem?
 intro i
 unfold rowMix
 by_cases hi:i<256
 ·simp[List.getElem?_range hi,List.getD_eq_getElem?_getD,List.getElem?_eq_getElem (show i<old.length by omega)]
 ·rw[List.getElem?_eq_none (by simp;omega),List.getElem?_eq_none (by omega)]
theorem rowMix_all (f:Nat→Int) (old:List Int):rowMix f old 256=(List.range 256).map f:=by
 unfold rowMix
 apply List.map_congr_left
 intro j hj
 simp[List.mem_range.1 hj]
theorem rowMix_length (f:Nat→Int) (old:List Int) (j:Nat):(rowMix f old j).length=256:=by simp[rowMix]
theorem rowMix_set (f:Nat→Int) (old:List Int) (k:Nat) (hk:k<256):((rowMix f old k).map (Value.int .u8)).set k (.int .u8 (f k))=(rowMix f old (k+1)).map (Value.int .u8):=by
 unfold rowMix
 apply List.ext_getElem?
 intro i
 simp only[List.getElem?_set,List.getElem?_map,List.length_map,List.length_range]
 by_cases hi:i<256
 ·rw[List.getElem?_range hi]
  by_cases e:k=i
  ·subst e;simp[hk]
  ·rw[if_neg e]
   simp only[Option.map_some,Option.some.injEq,Value.int.injEq,true_and]
   by_cases h1:i<k
   ·rw[if_pos h1,if_pos (by omega)]
   ·rw[if_neg h1,if_neg (by omega)]
 ·rw[List.getElem?_eq_none (by simp;omega)]
  by_cases e:k=i
  ·omega
  ·rw[if_neg e];rfl
theorem Blk.mix_set {w:World} {g i:Nat} {perm:Int} {f:Nat→Int} {old:List Int} {k:Nat} {t:TypeId} (h:Blk w g (refCells i ⟨perm,rowMix f old k⟩) t) (hk:k<256) :
 Blk (w.setCell ⟨g,2+k,none⟩ (.int .u8 (f k))) g (refCells i ⟨perm,rowMix f old (k+1)⟩) t:=by
 have:=h.setCell (o:=2+k) (.int .u8 (f k))
 have e:(refCells i ⟨perm,rowMix f old k⟩).set (2+k) (.int .u8 (f k))=refCells i ⟨perm,rowMix f old (k+1)⟩:=by
  unfold refCells
  rw[show 2+k=k+1+1 from by omega,List.set_cons_succ,List.set_cons_succ,rowMix_set f old k hk]
 rwa [e]at this
theorem Blk.mix_no {w:World} {g i:Nat} {perm:Int} {f:Nat→Int} {old:List Int} {k:Nat} {t:TypeId} (h:Blk w g (refCells i ⟨perm,rowMix f old k⟩) t) (hk:f k=old.getD k 0) :
 Blk w g (refCells i ⟨perm,rowMix f old (k+1)⟩) t:=by
 have e:rowMix f old k=rowMix f old (k+1):=by
  unfold rowMix
  apply List.map_congr_left
  intro j _
  by_cases h1:j<k
  ·rw[if_pos h1,if_pos (by omega)]
  ·by_cases h2:j=k
   ·subst h2;rw[if_neg h1,if_pos (by omega),hk]
   ·rw[if_neg h1,if_neg (by omega)]
 rwa [e]at h
theorem Blk.ref_perm {w:World} {g i:Nat} {p:Pg} {t:TypeId} (h:Blk w g (refCells i p) t) (q:Int) :
 Blk (w.setCell ⟨g,1,none⟩ (.int .i64 q)) g (refCells i ⟨q,p.bytes⟩) t:=by
 have:=h.setCell (o:=1) (.int .i64 q)
 exact this
theorem built_pageR (n:Int):Tryz.prog.built 148 [(0,.int .i64 n)]=some (Value.int .i64 n:: .int .i64 0::(List.replicate 256 (0:Int)).map (Value.int .u8)).toArray:=by kernel_rfl
theorem refCells_one (n:Nat) (p:Pg):∀v∈refCells n p,v.oneCell'=true:=by
 intro v hv
 simp only[refCells,List.mem_cons,List.mem_map]at hv
 rcases hv with rfl|rfl|⟨x,_,rfl⟩<;>rfl
theorem refCells_length (n:Nat) (p:Pg) (hp:p.bytes.length=256):(refCells n p).length=258:=by simp[refCells,hp]
theorem loadR_any (b o cap:Nat) (L:List Int) (w:World) (hb:Bts w b o L) (hcap:L.length≤cap) (hlen:L.length≤200000) :
 Calls Tryz.prog 80 #[.slice (some ⟨b,o,none⟩) L.length cap] w λe w'=>Bel w w'∧LoadResR L w.heap.size e w':=by
 have hhd:=headerR_any b o cap L w hb hcap hlen
 cases hh:headerOk L with
 | false=>
   have hs2:=hhd.mono (λe w' h=>(⟨h.1.elim λn hn=>⟨n,by rw[hn.1,hh]⟩,h.2.symm⟩:(∃n,e=.returned (.tuple #[.int .i64 n,.bool false]))∧w=w'))
   have HS:=xh hs2
   have HH:=xh hh
   clear hhd hs2 hh
   go_enter Tryz.func80,Tryz.ntmps80
   go_wp2_with (go_at_call 121;with_reducible refine Calls.mono HS.out ?_;rintro e w1 ⟨⟨n,rfl⟩,rfl⟩)
   go_ret3
   have hx:headerOk L≠true:=by rw[HH.out];decide
   exact⟨Below.refl _ _,⟨λ_=>rfl,λh=>absurd h hx,λh=>absurd h hx,λh=>absurd h hx,λh=>absurd h hx⟩⟩
 | true=>
   obtain⟨N,hN⟩:∃N,(segN L).toNat=N:=⟨_,rfl⟩
   have hhead:1≤segN L∧segN L≤8∧64+56*segN L≤L.length:=by
    have:=hh
    simp only[headerOk,Bool.and_eq_true,decide_eq_true_eq]at this
    exact⟨this.1.1.2,this.1.2,this.2⟩
   have hs2:=hhd.mono (λe w' h=>(⟨h.1.elim λn hn=>by rw[hn.1,hh,hn.2 hh,show segN L=(N:Int)from by omega],h.2.symm⟩:(e=.returned (.tuple #[.int .i64 (N:Int),.bool true]))∧w=w'))
   have HS:=xh hs2
   have HH:=xh hh
   have hN8:N≤8:=by omega
   have hN1:1≤N:=by omega
   have hNL:64+56*N≤L.length:=by omega
   have HN:=xh hN
   have hsk:∀k W,k<N→Bts W b o L→_:=λk W hk hW=>readSeg_any b o cap k L W hW hcap hlen (by omega)
   have HSK:=xh hsk
   have hy:headerOk L≠false:=by rw[hh];decide
   have HY:=xh hy
   clear hhd hs2 hh hN hhead hsk hy
   go_enter Tryz.func80,Tryz.ntmps80
   go_wp2_with (go_at_call 121;with_reducible refine Calls.mono HS.out ?_;rintro e w1 ⟨rfl,rfl⟩)
   go_loopw [7,8] (λl i wr=>∃k:Nat,k≤N∧i=.int .i64 k∧(∀j,j<k→segOk L j=true)∧wr.ownsRow w.heap.size 282 5 l k ((List.range k).flatMap λi=>(segAt L i).rcells)∧Bel w wr) (λ_ i _=>N-(intOf i).toNat)
   case atStart=>exact⟨0,Nat.zero_le _,rfl,λj hj=>by omega,⟨rfl,.inl ⟨rfl,rfl⟩⟩,Below.refl _ _⟩
   case round=>
    obtain⟨k,hk,rfl,hall,hrow,kr⟩:=hrel
    have HALL:=xh hall
    have HROW:=xh hrow
    have hbr:=xh (hb.keep (Keep.of_bel (λ_=>False) kr) (λ_ h=>h))
    clear hall hrow
    by_cases hlt:k<N
    ·cases hok:segOk L k with
     | false=>
       have hc:=xh ((HSK.out k wr hlt hbr.out).mono (λe w' h=>(⟨h.2.elim λp hp=>hp.elim λo ho=>ho.elim λa ha=>ha.elim λf hf=>hf.elim λm hm=>⟨p,o,a,f,m,by rw[hm.1,hok]⟩,h.1⟩:(∃p o a f m,e=.returned (.tuple #[.agg #[.int .i64 p,.int .u64 o,.int .u64 a,.int .u64 f,.int .u64 m],.bool false]))∧Bel wr w')))
       have HOK:=xh hok
       clear hok
       go_wp2_with (go_at_call 122;with_reducible refine Calls.mono hc.out ?_;rintro e w1 ⟨⟨p,o,a,f,m,rfl⟩,k1⟩)
       go_ret3
       have hz:segsOk L≠true:=λh=>by have:=List.all_eq_true.1 h k (List.mem_range.2 (by rw[HN.out];exact hlt));rw[HOK.out]at this;cases this
       exact⟨(kr.tr k1).ac _,⟨λh=>absurd h HY.out,λ_ _=>rfl,λ_ h=>absurd h hz,λ_ h=>absurd h hz,λ_ h=>absurd h hz⟩⟩
     | true=>
       have hc:=xh ((HSK.out k wr hlt hbr.out).mono (λe w' h=>(⟨h.2.elim λp hp=>hp.elim λo ho=>ho.elim λa ha=>ha.elim λf hf=>hf.elim λm hm=>by rw[hm.1,hok,hm.2 hok],h.1⟩:(e=.returned (.tuple #[.agg #[.int .i64 (segAt L k).perm,.int .u64 (segAt L k).off,.int .u64 (segAt L k).addr,.int .u64 (segAt L k).file,.int .u64 (segAt L k).mem],.bool true]))∧Bel wr w')))
       have HOK:=xh hok
       have HSL:Hid ((List.range (k+1)).flatMap (λi=>(segAt L i).rcells)=(List.range k).flatMap (λi=>(segAt L i).rcells)++(segAt L k).rcells):=xh (by
        rw[List.range_succ,List.flatMap_append,List.flatMap_singleton])
       clear hok
       obtain⟨⟨pb,so,sa,sf,sm⟩,hseg⟩:∃s,segAt L k=s:=⟨_,rfl⟩
       rw[hseg]at hc HSL
       have HSEG:=xh hseg
       clear hseg
       have hz:=kr.size
       go_wp2_with (first
        | (go_at_call 122;with_reducible refine Calls.mono hc.out ?_;rintro e w1 ⟨rfl,k1⟩)
        | (refine wpList_buildSlice_one rfl 280 282 (.tmp 44) rfl [.int .i64 pb,.int .u64 so,.int .u64 sa,.int .u64 sf,.int .u64 sm] rfl Tryz.underlying280 segInfoR (by show 0<5;omega) (by show 5≤2^24;omega) ?_;intro w5 B5 K5)
        | (refine wpList_append_one rfl (.tmp 43) (.tmp 45) 280 rfl Tryz.underlying280 segInfoR (by omega) rfl (row_bel (row_bel HROW.out k1) ((Below.heap_alloc' w1 _).trans (K5.mono (by simp)))) _ [.int .i64 pb,.int .u64 so,.int .u64 sa,.int .u64 sf,.int .u64 sm] 282 rfl B5.out rfl (by intro v hv;simp at hv;rcases hv with rfl|rfl|rfl|rfl|rfl<;>rfl) (by unfold maxLen;omega) (by omega) (Nat.le_trans (Nat.le_trans hz k1.size) (Nat.le_trans (by simp) K5.size)) ?_;intro v6 w6 R6 K6))
       have KB:=(((kr.tr k1).tr (Below.heap_alloc' w1 _)).tr K5)
       exact⟨⟨k+1,by omega,by go_num,upTo_snoc HALL.out HOK.out,by rw[HSL.out];exact R6,KB.trans (K6.below _ KB.size λi hi=>hi)⟩,by simp only[intOf];omega⟩
    ·obtain rfl:k=N:=by omega
     obtain⟨ps,cp,rfl,hcp,hcm,hps⟩:=row_slice HROW.out
     obtain⟨gs,rfl,hb0,hb1,hcl,_⟩:=hps.resolve_left (by omega)
     have hcl':∀j,j<k→wr.rangeAt gs (j*5) (segAt L j).rcells:=λj hj i v hv=>by
      have hi:i<5:=by have:=(List.getElem?_eq_some_iff.1 hv).1;simpa [Seg.rcells]using this
      rw[hcl _ (by rw[flat_length _ 5 _ (λ_ _=>rfl)];simp;omega),flat_at _ 5 _ (λ_ _=>rfl) j i hi,List.getElem?_range hj]
      exact hv
     have HCL:=xh hcl'
     have HFIT:Hid (∀j,j<k→SegFits L (segAt L j)):=xh λj hj=>segFits L hb.byte j (by omega) (HALL.out j hj)
     have HSO:Hid (segsOk L=true):=xh (List.all_eq_true.2 λj hj=>HALL.out j (by have:=List.mem_range.1 hj;rw[HN.out]at this;exact this))
     have HKR:=xh kr
     have hww:=kr.size
     obtain⟨w2,rfl⟩:∃w2:World,w2=wr:=⟨_,rfl⟩
     clear hps hcl hcl' HROW kr
     go_wp2
     go_loopw [11,12] (λl i wr=>∃i0:Nat,i0≤256∧i=.int .i64 i0∧(∀n,n<i0→cnt L k n≤1)∧wr.ownsRow w2.heap.size 148 258 l (docNums L k i0).length (docCells L k (docNums L k i0))∧Bel w2 wr) (λ_ i _=>256-(intOf i).toNat)
     case atStart=>exact⟨0,Nat.zero_le _,rfl,λn hn=>by omega,⟨rfl,.inl ⟨rfl,rfl⟩⟩,Below.refl _ _⟩
     case round=>
      obtain⟨i,hi,rfl,hone,hprow,kr⟩:=hrel
      have HONE:=xh hone
      have HPROW:=xh hprow
      have HKR2:=xh kr
      clear hone hprow kr
      by_cases hilt:i<256
      ·obtain⟨zs,hzs⟩:∃zs:List Value,zs=refCells i (pgTo L i 0):=⟨_,rfl⟩
       have HBP:Hid (Tryz.prog.built 148 [(0,.int .i64 (i:Int))]=some zs.toArray):=xh (by rw[hzs];exact built_pageR i)
       have HZL:Hid (zs.length=258):=xh (by rw[hzs];exact refCells_length _ _ Pg.zero_wf.len)
       have HZO:Hid (∀v∈zs,v.oneCell'=true):=xh (by rw[hzs];exact refCells_one _ _)
       obtain⟨z0,hz0⟩:∃z0:List Value,z0=refCells 0 Pg.zero:=⟨_,rfl⟩
       have hz:∀w,(zeroValue 148).run Tryz.prog w=.ok (.agg z0.toArray) w:=λw=>by
        rw[show z0=Value.int .i64 0:: .int .i64 0::List.replicate 256 (Value.int .u8 0)from by rw[hz0];simp[refCells,Pg.zero]]
        kernel_rfl
       have HZ0:Hid (z0.length=258):=xh (by rw[hz0];exact refCells_length _ _ Pg.zero_wf.len)
       have HZS:=xh hzs
       clear hzs hz0
       go_upto_region 17 with(first
        | (refine wpList_buildTo rfl 148 _ rfl (some 52) rfl zs.toArray (by simp only[List.map_toArray,List.map_cons,List.map_nil];exact HBP.out) ?_)
        | (refine wpList_store_blk rfl 148 (.tmp 13) (.tmp 52) rfl rfl wr.heap.size zs z0 148 (Blk.new wr z0 _) rfl rfl (by rw[HZL.out];kernel_rfl) (HZ0.out.trans HZL.out.symm) HZO.out ?_;intro w3 B3 K3))
       have kc:Bel wr w3:=(Below.heap_alloc' wr _).trans (K3.below _ (by simp) (λk hk=>by omega))
       have K23:=xh (HKR2.out.tr kc)
       have hg13:w2.heap.size≤wr.heap.size:=HKR2.out.size
       have HPROW3:Hid (∀w',Keep (λq=>q=wr.heap.size) w3 w'→w'.ownsRow w2.heap.size 148 258 u11 (docNums L k i).length (docCells L k (docNums L k i))):=xh λw' hk'=>row_keep_ne HPROW.out kc hk' (Nat.le_refl _)
       have HB3:Hid (Blk w3 wr.heap.size (refCells i (pgTo L i 0)) 148):=xh (by rw[←HZS.out];exact B3.out)
       clear kc K3 B3 HBP HZL HZO HPROW
       generalize wr.heap.size=g13 at *
       have hb13:b<g13:=Nat.lt_of_lt_of_le (hb.lt (by omega)) (Nat.le_trans hww hg13)
       have hs13:gs≠g13:=by omega
       go_wp2
       go_loopw [14,15] (λc x wx=>∃j:Nat,j≤k∧x=.int .i64 j∧c=.int .i64 (cnt L j i:Nat)∧Blk wx g13 (refCells i (pgTo L i j)) 148∧Keep (λy=>y=g13) w3 wx) (λ_ x _=>k-(intOf x).toNat)
       case atStart=>exact⟨0,Nat.zero_le _,rfl,rfl,HB3.out,Keep.refl _ _⟩
       case round=>
        obtain⟨j,hj,rfl,rfl,hbj,hkj⟩:=hrel
        have hcj:=cnt_le L i j
        by_cases hjlt:j<k
        ·have hf:=HFIT.out j hjlt
         have hr:=HCL.out j hjlt
         have hwfj:=xh (pgTo_wf L hb.byte i j (λx hx=>HFIT.out x (by omega)))
         obtain⟨⟨pb,so,sa,sf,sm⟩,hseg⟩:∃s,segAt L j=s:=⟨_,rfl⟩
         have HC1:Hid (cnt L (j+1) i=cnt L j i+if Seg.cov ⟨pb,so,sa,sf,sm⟩ i then 1 else 0):=xh (by rw[←hseg];rfl)
         have HP1:Hid (pgTo L i (j+1)=if Seg.cov ⟨pb,so,sa,sf,sm⟩ i then⟨pb,(List.range 256).map (ovB L ⟨pb,so,sa,sf,sm⟩ i (pgTo L i j).bytes)⟩else pgTo L i j):=xh (by simp only[pgTo];rw[hseg])
         rw[hseg]at hf hr
         obtain⟨⟨hp0,hp1⟩,ho,ha,hfi,hfit,hm1,hfm,htop⟩:=hf
         simp only at hp0 hp1 ho ha hfi hfit hm1 hfm htop
         have HR:Hid (wr.rangeAt gs (j*5) [.int .i64 pb,.int .u64 so,.int .u64 sa,.int .u64 sf,.int .u64 sm]):=xh (λx v hv=>by
          rw[hkj.cell ⟨gs,j*5+x,none⟩ (Nat.lt_of_lt_of_le hb1 K23.out.size) hs13,World.cell?_of_block (a:=⟨gs,j*5+x,none⟩) (K23.out.block gs hb1)]
          exact hr x v hv)
         have HBJ:=xh hbj
         have HKJ:=xh hkj
         clear hseg hr hbj hkj
         go_upto_region 22 with(refine wpList_load_mid rfl 282 (.tmp 60) rfl gs (j*5) rfl [.int .i64 pb,.int .u64 so,.int .u64 sa,.int .u64 sf,.int .u64 sm] _ HR.out Tryz.underlying282 rfl (by kernel_rfl) ?_)
         have k4:Bel wr (wr.alloc (.cells #[.int .i64 pb,.int .u64 so,.int .u64 sa,.int .u64 sf,.int .u64 sm] 282)):=Below.heap_alloc' wr _
         have b16:=Blk.new wr [.int .i64 pb,.int .u64 so,.int .u64 sa,.int .u64 sf,.int .u64 sm] 282
         have hne16:g13≠wr.heap.size:=by have:=HBJ.out.lt;omega
         generalize (wr.alloc (.cells #[.int .i64 pb,.int .u64 so,.int .u64 sa,.int .u64 sf,.int .u64 sm] 282))=w4 at *
         have HK4:=xh (HKJ.out.tr (Keep.of_bel _ k4))
         have HBJ4:=xh (HBJ.out.bel k4)
         clear k4
         generalize wr.heap.size=g16 at *
         have e0:=b16.cell 0
         have e2:=b16.cell 2
         have e4:=b16.cell 4
         simp only[List.getElem?_cons_zero,List.getElem?_cons_succ]at e0 e2 e4
         have HB16:=xh b16
         clear b16
         have hc8:cnt L j i<100:=by omega
         by_cases c1:(i:Int)<sa/256
         ·have hcov:Seg.cov ⟨pb,so,sa,sf,sm⟩ i=false:=by
           rw[Bool.eq_false_iff];intro h;have h2:=(Seg.cov_iff.1 h).1;unfold Seg.first at h2;dsimp only at h2;omega
          rw[hcov]at HC1 HP1
          have HC2:Hid (cnt L (j+1) i=cnt L j i):=xh (by rw[HC1.out];simp)
          have HP2:Hid (pgTo L i (j+1)=pgTo L i j):=xh (by rw[HP1.out];simp)
          clear hcov HC1 HP1
          go_wp2
          go_roundw
          case rel=>exact⟨j+1,by omega,by go_num,by rw[HC2.out],by rw[HP2.out];exact HBJ4.out,HK4.out⟩
          case measure=>simp[intOf]<;>omega
         ·by_cases c2:(sa+sm-1)/256<(i:Int)
          ·have hcov:Seg.cov ⟨pb,so,sa,sf,sm⟩ i=false:=by
            rw[Bool.eq_false_iff];intro h;have h2:=(Seg.cov_iff.1 h).2;unfold Seg.last at h2;dsimp only at h2;omega
           rw[hcov]at HC1 HP1
           have HC2:Hid (cnt L (j+1) i=cnt L j i):=xh (by rw[HC1.out];simp)
           have HP2:Hid (pgTo L i (j+1)=pgTo L i j):=xh (by rw[HP1.out];simp)
           clear hcov HC1 HP1
           go_wp2
           go_roundw
           case rel=>exact⟨j+1,by omega,by go_num,by rw[HC2.out],by rw[HP2.out];exact HBJ4.out,HK4.out⟩
           case measure=>simp[intOf]<;>omega
          ·have hcov:Seg.cov ⟨pb,so,sa,sf,sm⟩ i=true:=by
            refine Seg.cov_iff.2 ?_;unfold Seg.first Seg.last;dsimp only;omega
           rw[hcov]at HC1 HP1
           have HC2:Hid (cnt L (j+1) i=cnt L j i+1):=xh (by rw[HC1.out];simp)
           have HP2:Hid (pgTo L i (j+1)=⟨pb,(List.range 256).map (ovB L ⟨pb,so,sa,sf,sm⟩ i (pgTo L i j).bytes)⟩):=xh (by rw[HP1.out];simp)
           clear hcov HC1 HP1
           obtain⟨old,hold⟩:∃old,(pgTo L i j).bytes=old:=⟨_,rfl⟩
           have hol:old.length=256:=by rw[←hold];exact hwfj.out.len
           have hcp:w4.cell? ⟨g13,1,none⟩=some (.int .i64 (pgTo L i j).perm):=HBJ4.out.cell 1
           have hfp:=HBJ4.out.frozen 1
           have hl13:=HBJ4.out.lt
           go_upto_region 27 with fail
           have B5:=HBJ4.out.ref_perm pb
           have K5:=HK4.out.tr (Keep.setCell w4 g13 1 (.int .i64 pb))
           have B165:=HB16.out.setCell_other (a:=⟨g13,1,none⟩) hne16.symm (.int .i64 pb)
           rw[hold,←rowMix_zero (ovB L ⟨pb,so,sa,sf,sm⟩ i old) old hol]at B5
           rw[hold]at HP2
           clear hcp hfp hold
           generalize w4.setCell ⟨g13,1,none⟩ (.int .i64 pb)=w5 at *
           have HB5:=xh B5
           have HK5:=xh K5
           have HB165:=xh B165
           have HBT5:=xh ((hbr.out.keep (Keep.of_bel (λ_=>False) K23.out) (λ_ h=>h)).keep K5 (λ_=>by omega))
           clear B5 K5 B165 e0 e2 e4
           go_wp2
           go_loopw [19] (λx wx=>∃y:Nat,y≤256∧x=.int .i64 y∧Blk wx g13 (refCells i ⟨pb,rowMix (ovB L ⟨pb,so,sa,sf,sm⟩ i old) old y⟩) 148∧Keep (λq=>q=g13) w5 wx) (λx _=>256-(intOf x).toNat)
           case atStart=>exact⟨0,Nat.zero_le _,rfl,HB5.out,Keep.refl _ _⟩
           case round=>
            obtain⟨y,hy,rfl,hby,hky⟩:=hrel
            by_cases hylt:y<256
            ·have b16:=HB165.out.keep hky hne16.symm
             have e1:=b16.cell 1
             have e2:=b16.cell 2
             have e3:=b16.cell 3
             simp only[List.getElem?_cons_zero,List.getElem?_cons_succ]at e1 e2 e3
             have HOV:Hid (ovB L ⟨pb,so,sa,sf,sm⟩ i old y=if sa≤(i:Int)*256+y∧(i:Int)*256+y-sa<sf then L.getD (so+((i:Int)*256+y)-sa).toNat 0 else old.getD y 0):=xh rfl
             have HBTR:=xh (HBT5.out.keep hky (λ_=>by omega))
             have fz:=hby.frozen (2+y)
             have cz:∃v,wr.cell? ⟨g13,2+y,none⟩=some v:=by
              rw[hby.cell]
              exact⟨_,List.getElem?_eq_getElem (by rw[refCells_length _ _ (rowMix_length _ _ _)];omega)⟩
             obtain⟨vz,cz⟩:=cz
             have hl13:=hby.lt
             have HBY:=xh hby
             have HKY:=xh hky
             clear b16 hby hky
             by_cases d1:sa≤(i:Int)*256+y
             ·by_cases d2:(i:Int)*256+y-sa<sf
              ·have hbt:=HBTR.out.at_ (so+((i:Int)*256+y)-sa).toNat (by omega)
               have HSE:=xh (HOV.out.trans (if_pos ⟨d1,d2⟩))
               generalize hx:L.getD (so+((i:Int)*256+y)-sa).toNat 0=x at *
               have HX:=xh hx
               clear hx
               go_wp2
               go_roundw
               case rel=>exact⟨y+1,by omega,by go_num,by have:=HBY.out.mix_set hylt;rw[HSE.out]at this;exact this,HKY.out.tr (Keep.setCell _ _ _ _)⟩
               case measure=>simp[intOf]<;>omega
              ·have HSE:=xh (HOV.out.trans (if_neg λh=>d2 h.2))
               go_wp2
               go_roundw
               case rel=>exact⟨y+1,by omega,by go_num,HBY.out.mix_no HSE.out,HKY.out⟩
               case measure=>simp[intOf]<;>omega
             ·have HSE:=xh (HOV.out.trans (if_neg λh=>d1 h.1))
              go_wp2
              go_roundw
              case rel=>exact⟨y+1,by omega,by go_num,HBY.out.mix_no HSE.out,HKY.out⟩
              case measure=>simp[intOf]<;>omega
            ·obtain rfl:y=256:=by omega
             rw[rowMix_all]at hby
             have HBY:=xh hby
             have HKY:=xh hky
             clear hby hky
             go_wp2
             go_roundw
             case rel=>exact⟨j+1,by omega,by go_num,by rw[HC2.out];go_num,by rw[HP2.out];exact HBY.out,HK5.out.tr HKY.out⟩
             case measure=>simp[intOf]<;>omega
        ·obtain rfl:j=k:=by omega
         have HBJ:=xh hbj
         have HKJ:=xh hkj
         have HBW:Hid (Bel w2 wr):=xh (Below.trans K23.out (hkj.below _ (K23.out.size) (λq hq=>by omega)))
         have HPROWJ:=xh (HPROW3.out wr hkj)
         have hwfj:=xh (pgTo_wf L hb.byte i j (λx hx=>HFIT.out x (by omega)))
         have hdl:=docNums_length L j i
         clear hbj hkj
         by_cases q1:1<cnt L j i
         ·have q1':(1:Int)<((cnt L j i:Nat):Int):=by omega
          have hno:=xh (show ¬∀q,q<(segN L).toNat→FreeAt L q by rw[HN.out,free_iff];intro h;have:=h i;omega)
          go_wp2
          go_ret3
          exact⟨HKR.out.tr HBW.out,⟨λh=>absurd h HY.out,λ_ h=>absurd HSO.out (by rw[h];decide),λ_ _ _=>rfl,λ_ _ h=>absurd h hno.out,λ_ _ h=>absurd h hno.out⟩⟩
         ·have hle1:=xh (show cnt L j i≤1 by omega)
          by_cases q2:cnt L j i=1
          ·have HDN:=docNums_succ L j i
           rw[if_pos q2]at HDN
           have HDC:Hid (docCells L j (docNums L j (i+1))=docCells L j (docNums L j i)++refCells i (pgTo L i j)):=xh (by
            rw[HDN];unfold docCells;rw[List.flatMap_append,List.flatMap_singleton])
           have HDL:Hid ((docNums L j (i+1)).length=(docNums L j i).length+1):=xh (by rw[HDN];simp)
           obtain⟨cs,hcs⟩:∃cs,cs=refCells i (pgTo L i j):=⟨_,rfl⟩
           have HCL:Hid (cs.length=258):=xh (by rw[hcs];exact refCells_length _ _ hwfj.out.len)
           have HCO:Hid (∀v∈cs,v.oneCell'=true):=xh (by rw[hcs];exact refCells_one _ _)
           rw[←hcs]at HDC HBJ
           have q1':((cnt L j i:Nat):Int)≤1:=by omega
           have q2':(((cnt L j i:Nat):Int)==1)=true:=by rw[q2];rfl
           have hwb:=HBW.out.size
           clear hcs q2 q1 HDN
           go_wp2_with (first
            | (refine wpList_load_mid rfl 148 (.tmp 13) rfl g13 0 rfl cs _ (by have:=HBJ.out.range 0;simpa using this) Tryz.underlying148 rfl (by rw[HCL.out];kernel_rfl) ?_)
            | (refine wpList_buildSlice_one rfl 77 148 (.tmp 127) rfl cs rfl Tryz.underlying77 (by rw[HCL.out];exact pageInfoR) (by rw[HCL.out];omega) (by rw[HCL.out];decide) ?_;intro w5 B5 K5)
            | (refine wpList_append_one rfl (.tmp 126) (.tmp 128) 77 rfl Tryz.underlying77 pageInfoR (by omega) rfl (row_bel HPROWJ.out K5) _ cs 148 rfl B5.out HCL.out HCO.out (by unfold maxLen;omega) (by omega) (Nat.le_trans hwb K5.size) ?_;intro v6 w6 R6 K6))
           exact⟨⟨i+1,by omega,by go_num,upTo_snoc HONE.out hle1.out,by rw[HDC.out,HDL.out];exact R6,(HBW.out.tr K5).trans (K6.below _ (Nat.le_trans hwb K5.size) λq hq=>hq)⟩,by simp only[intOf];omega⟩
          ·have HDN:=docNums_succ L j i
           rw[if_neg q2,List.append_nil]at HDN
           have HDN2:=xh HDN
           have q1':((cnt L j i:Nat):Int)≤1:=by omega
           have q2':(((cnt L j i:Nat):Int)==1)=false:=by simp;omega
           clear q2 q1 HDN
           go_wp2
           go_roundw
           case rel=>exact⟨i+1,by omega,by go_num,upTo_snoc HONE.out hle1.out,by rw[HDN2.out];exact HPROWJ.out,HBW.out⟩
           case measure=>simp[intOf]<;>omega
      ·obtain rfl:i=256:=by omega
       have hall1:∀n,cnt L k n≤1:=λn=>by
        by_cases hn:n<256
        ·exact HONE.out n hn
        ·rw[cnt_out L n (by omega) k HFIT.out];omega
       have HFREE:Hid (∀q,q<(segN L).toNat→FreeAt L q):=xh (by rw[HN.out,free_iff];exact hall1)
       have HBW:Hid (Bel w wr):=xh (HKR.out.tr HKR2.out)
       have hbr2:=hb.keep (Keep.of_bel (λ_=>False) HBW.out) (λ_ h=>h)
       obtain⟨E,hE⟩:∃E,numAt L 24 8=E:=⟨_,rfl⟩
       have hEb:=numAt_u64 L hb.byte 24 8 (by omega)
       rw[hE]at hEb
       obtain⟨hE0,hE1⟩:=hEb
       have hnum:=numberR_at b o 24 8 (cap-24) L wr hbr2 (by omega) (by omega)
       rw[hE]at hnum
       have HNUM:=xh (hnum.mono λe w' h=>And.intro h.1 h.2.symm)
       have hent:=xh (entry_doc L k HN.out HFIT.out hb.byte hall1 E hE hE0)
       have HALLN:=xh (docNums_all L k hall1)
       have HALLC:=xh (docCells_all L k)
       have HE:=xh hE
       have HCAP:64≤cap:=by omega
       obtain⟨ns,hns⟩:∃ns,docNums L k 256=ns:=⟨_,rfl⟩
       have hnl:=docNums_length L k 256
       have HNIN:Hid (∀n∈ns,n<256):=xh (λn hn=>by rw[←hns]at hn;exact List.mem_range.1 (List.mem_filter.1 hn).1)
       rw[hns]at HPROW hent HALLN HALLC hnl
       clear hE hall1 hnum hns hbr2
       by_cases q:E%4=0
       ·by_cases r:E<65536
        ·have HO2:Hid (entryOk L=ns.any (docFind L k E)):=xh (by rw[hent.out];simp[q,r])
         have q1:(E%4 != 0)=false:=by simp[q]
         obtain⟨ps,cp,rfl,hcp,hcm,hps⟩:=row_slice HPROW.out
         have HPS:=xh hps
         clear hent q hps
         go_wp2_with (go_at_call 98;with_reducible refine Calls.mono HNUM.out ?_;rintro e wx ⟨rfl,rfl⟩)
         go_loop [22] (λx=>∃y:Nat,y≤ns.length∧x=.int .i64 y∧∀z,z<y→docFind L k E (ns.getD z 0)=false) (λx=>ns.length-(intOf x).toNat)
         case atStart=>exact⟨0,Nat.zero_le _,rfl,λz hz=>by omega⟩
         case round=>
          obtain⟨y,hy,rfl,hno⟩:=hrel
          have HNF:=xh hno
          clear hno
          by_cases hylt:y<ns.length
          ·obtain⟨gp,rfl,hb0,hb1x,hcl,_⟩:=HPS.out.resolve_left (by omega)
           have lr:∀n∈ns,(refCells n (pgTo L n k)).length=258:=λn _=>refCells_length _ _ (pgTo_wf L hb.byte n k HFIT.out).len
           have hg:ns.getD y 0=ns[y]:=by rw[List.getD_eq_getElem?_getD,List.getElem?_eq_getElem hylt];rfl
           have ca:∀j,j<258→wr.cell? ⟨gp,y*258+j,none⟩=(refCells ns[y] (pgTo L ns[y] k))[j]?:=λj hj=>by
            rw[hcl _ (by unfold docCells;rw[flat_length _ 258 ns lr];omega)]
            unfold docCells
            rw[flat_at _ 258 ns lr y j hj,List.getElem?_eq_getElem hylt];rfl
           have a0:wr.cell? ⟨gp,y*258,none⟩=some (.int .i64 (ns[y]:Nat)):=ca 0 (by omega)
           have a1:wr.cell? ⟨gp,y*258+1,none⟩=some (.int .i64 (pgTo L ns[y] k).perm):=ca 1 (by omega)
           have hwf:=pgTo_wf L hb.byte ns[y] k HFIT.out
           have hp0:=hwf.perm.1
           have hp1:=hwf.perm.2
           have hn256:=HNIN.out _ (List.getElem_mem hylt)
           have HDF:Hid (docFind L k E (ns.getD y 0)=(((ns[y]:Nat):Int)==E/256&&(bits .and .i64 (pgTo L ns[y] k).perm 1==1))):=xh (by rw[hg];rfl)
           have HMEM:Hid (ns[y]∈ns):=xh (List.getElem_mem hylt)
           have HG:=xh hg
           clear ca lr hcl hwf hg
           generalize hpp:(pgTo L ns[y] k).perm=pp at *
           generalize hnn:ns[y]=nn at *
           have HNN:=xh hnn
           have HPP:=xh hpp
           clear hnn hpp
           by_cases f1:((nn:Nat):Int)=E/256
           ·have f1':(((nn:Nat):Int)==E/256)=true:=by simpa using f1
            by_cases f2:bits .and .i64 pp 1=1
            ·have f2':(bits .and .i64 pp 1==1)=true:=by simpa using f2
             have HFOUND:Hid (entryOk L=true):=xh (by
              rw[HO2.out,List.any_eq_true]
              exact⟨nn,HMEM.out,by have:=HDF.out;rw[HG.out]at this;rw[this,f1',f2'];rfl⟩)
             clear f1 f2
             go_wp2
             go_ret3
             exact⟨HBW.out,⟨λh=>absurd h HY.out,λ_ h=>absurd HSO.out (by rw[h];decide),λ_ _ h=>absurd HFREE.out h,λ_ _ _ h=>absurd HFOUND.out (by rw[h];decide),λ_ _ _ _=>⟨_,by rw[HE.out];try rfl,by rw[HN.out,←HALLN.out,←HALLC.out];exact HPROW.out.mono hww⟩⟩⟩
            ·have f2':(bits .and .i64 pp 1==1)=false:=by simpa using f2
             have HNO:Hid (docFind L k E (ns.getD y 0)=false):=xh (by rw[HDF.out,f2',Bool.and_false])
             clear f1 f2
             go_wp2
             go_round
             case rel=>exact⟨y+1,by omega,by go_num,upTo_snoc HNF.out HNO.out⟩
             case measure=>simp[intOf]<;>omega
           ·have f1':(((nn:Nat):Int)==E/256)=false:=by simpa using f1
            have HNO:Hid (docFind L k E (ns.getD y 0)=false):=xh (by rw[HDF.out,f1',Bool.false_and])
            clear f1
            go_wp2
            go_round
            case rel=>exact⟨y+1,by omega,by go_num,upTo_snoc HNF.out HNO.out⟩
            case measure=>simp[intOf]<;>omega
          ·obtain rfl:y=ns.length:=by omega
           have HO3:Hid (entryOk L=false):=xh (by
            rw[HO2.out,List.any_eq_false]
            intro n hn
            obtain⟨z,hz,rfl⟩:=List.getElem_of_mem hn
            have:=HNF.out z hz
            rw[List.getD_eq_getElem?_getD,List.getElem?_eq_getElem hz]at this
            simpa using this)
           clear HNF
           go_wp2
           go_ret3
           exact⟨HBW.out,⟨λh=>absurd h HY.out,λ_ h=>absurd HSO.out (by rw[h];decide),λ_ _ h=>absurd HFREE.out h,λ_ _ _ _=>rfl,λ_ _ _ h=>absurd HO3.out (by rw[h];decide)⟩⟩
        ·have HO2:Hid (entryOk L=false):=xh (by rw[hent.out];simp[r])
         have q1:(E%4 != 0)=false:=by simp[q]
         have r1:65536≤E:=by omega
         clear hent q r
         go_wp2_with (go_at_call 98;with_reducible refine Calls.mono HNUM.out ?_;rintro e wx ⟨rfl,rfl⟩)
         go_ret3
         exact⟨HBW.out,⟨λh=>absurd h HY.out,λ_ h=>absurd HSO.out (by rw[h];decide),λ_ _ h=>absurd HFREE.out h,λ_ _ _ _=>rfl,λ_ _ _ h=>absurd HO2.out (by rw[h];decide)⟩⟩
       ·have HO2:Hid (entryOk L=false):=xh (by rw[hent.out];simp[q])
        have q1:(E%4 != 0)=true:=by simp[q]
        clear hent q
        go_wp2_with (go_at_call 98;with_reducible refine Calls.mono HNUM.out ?_;rintro e wx ⟨rfl,rfl⟩)
        go_ret3
        exact⟨HBW.out,⟨λh=>absurd h HY.out,λ_ h=>absurd HSO.out (by rw[h];decide),λ_ _ h=>absurd HFREE.out h,λ_ _ _ _=>rfl,λ_ _ _ h=>absurd HO2.out (by rw[h];decide)⟩⟩
theorem headerR_short (p:Option Addr) (n cap:Nat) (w:World) (hn:n<64) :
 Calls Tryz.prog 121 #[.slice p n cap] w λe w'=>e=.returned (.tuple #[.int .i64 0,.bool false])∧w=w':=by
 go_enter Tryz.func121,Tryz.ntmps121
 go_wp2
 go_ret2
 exact⟨rfl,rfl⟩
theorem loadR_short (p:Option Addr) (n cap:Nat) (w:World) (hn:n<64) :
 Calls Tryz.prog 80 #[.slice p n cap] w λe w'=>e=.returned (.tuple #[.slice none 0 0,.int .u64 0,.int .i64 2])∧w=w':=by
 go_enter Tryz.func80,Tryz.ntmps80
 go_wp2_with (go_at_call 121;refine Calls.mono (headerR_short p n cap _ hn) ?_;rintro e w1 ⟨rfl,rfl⟩)
 go_ret3
 exact⟨rfl,rfl⟩
end Go.Proofs.YtjdaddmjpicflaaGreatDoor
