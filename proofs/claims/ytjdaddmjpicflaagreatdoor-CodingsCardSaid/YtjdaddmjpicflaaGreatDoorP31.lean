/- The document's peek, poke: walked. -/
import Derived.StillTailTactics
import Derived.Test.YtjdaddmjpicflaaGreatDoorP30
import Derived.Test.YtjdaddmjpicflaaGreatDoorP05
import Derived.Deep.RegionHeld3
import Derived.Test.YtjdaddmjpicflaaGreatDoorP04
import Derived.Test.YtjdaddmjpicflaaGreatDoorP28
set_option linter.unusedVariables false
set_option linter.unusedSimpArgs false
set_option maxRecDepth 100000
set_option maxHeartbeats 16000000
namespace Go.Proofs.YtjdaddmjpicflaaGreatDoor
open Go.RowKit Go.Maps
theorem byteInfo1:(Tryz.prog.info? 5).map (λi=>(i.size,i.bytes,(i.zero.map (·.cells.size))))=some (1,1,some 1):=by kernel_rfl
theorem pgs_byte {w:World} {pv:Value} {perm:Nat→Option Int} {M:Nat→Int} (h:PgsD w pv (pagesOf perm M)) (hm:PagesOk (pagesOf perm M)) (a:Nat) (ha:a<65536) (hp:(perm (a/256)).isSome=true) :
 ∃k g cap,findF (pagesOf perm M) (a/256)=(k:Nat)∧k<(pageNums (pagesOf perm M)).length∧pv=.slice (some ⟨g,0,none⟩) (pageNums (pagesOf perm M)).length cap∧w.cell? ⟨g,k*258+2+a%256,none⟩=some (.int .u8 (M a)):=by
 obtain⟨p,hpp⟩:=Option.isSome_iff_exists.1 hp
 obtain⟨k,hk,hkn⟩:=findF_some (m:=pagesOf perm M) (N:=a/256) (by omega) (by unfold pagesOf;rw[hpp];rfl)
 obtain⟨g,cap,hpv,_,hc⟩:=h.page hm hkn
 refine⟨k,g,cap,hk,(List.getElem?_eq_some_iff.1 hkn).1,hpv,?_⟩
 rw[Nat.add_assoc,hc _ (by omega),pageAt perm M a p hpp (a%256) (by omega)]
 congr 3
 omega
theorem peekD_any (pv:Value) (perm:Nat→Option Int) (M:Nat→Int) (A n:Nat) (w:World) (h:PgsD w pv (pagesOf perm M)) (hm:PagesOk (pagesOf perm M)) (hA:A+n≤65536) (hperm:∀a,A≤a→a<A+n→(perm (a/256)).isSome=true) :
 Calls Tryz.prog 97 #[pv,.int .u64 A,.int .i64 n] w λe w'=>∃v,e=.returned v∧w'.ownsRow w.heap.size 5 1 v n ((List.range n).map λi=>.int .u8 (M (A+i)))∧Bel w w':=by
 have HBY:=xh λW (hW:Bel w W) i (hi:i<n)=>pgs_byte (h.bel hW) hm (A+i) (by omega) (hperm (A+i) (by omega) (by omega))
 have HFD:=xh λW (hW:Bel w W) N (hN:N≤1000000)=>findD_any pv (pagesOf perm M) N W (h.bel hW) hm hN
 have hpl:=pageNums_length (pagesOf perm M)
 clear h hm hperm
 go_enter Tryz.func97,Tryz.ntmps97
 go_wp2_with fail
 go_loopw [7,8] (λv i wr=>∃k:Nat,k≤n∧i=.int .i64 k∧wr.ownsRow w.heap.size 5 1 v k ((List.range k).map λi=>.int .u8 (M (A+i)))∧Bel w wr) (λ_ i _=>n-(intOf i).toNat)
 case atStart=>exact⟨0,Nat.zero_le _,rfl,World.ownsRow_nil _ _ _ _,Bel.refl _⟩
 case round=>
  obtain⟨k,hk,rfl,hr,hb⟩:=hrel
  by_cases hlt:k<n
  ·obtain⟨kk,g,cap,hfk,hkl,hpv,hcell⟩:=HBY.out wr hb k hlt
   have hfd:=HFD.out wr hb ((A+k)/256) (by omega)
   rw[hfk]at hfd
   subst hpv
   obtain⟨N,hN⟩:∃N:Nat,(A+k)/256=N:=⟨_,rfl⟩
   obtain⟨r,hr2⟩:∃r:Nat,(A+k)%256=r:=⟨_,rfl⟩
   rw[hN]at hfd
   rw[hr2]at hcell
   have hsum:IntKind.i64.wrap ((A:Int)+(k:Int))=(A:Int)+(k:Int):=by rw[IntKind.wrap_i64];omega
   have hdv:((A:Int)+k)/256=(N:Int):=by omega
   have hmd:((A:Int)+k)%256=(r:Int):=by omega
   have hr256:r<256:=by omega
   have hk0:(0:Int)≤kk:=by omega
   have hk1:(kk:Int)<((pageNums (pagesOf perm M)).length:Nat):=by omega
   obtain⟨x,hx⟩:∃x,M (A+k)=x:=⟨_,rfl⟩
   rw[hx]at hcell
   have HX:=xh hx
   have HF:=xh hfd
   have HR:=xh hr
   have HB:=xh hb
   generalize (pageNums (pagesOf perm M)).length=pl at *
   clear hfd hr hb hfk hN hr2 hx hkl
   go_wp2_with (first
    | (go_at_call 44;((with_reducible refine Calls.mono HF.out ?_);rintro e2 w2 ⟨rfl,rfl⟩))
    | (refine wpList_append_one rfl (.tmp 24) (.tmp 33) 32 rfl Tryz.underlying32 byteInfo1 (by omega) rfl (row_bel HR.out (Bel.start wr (.cells #[.int .u8 x] 5))) wr.heap.size [.int .u8 x] 5 rfl (Blk.new wr [.int .u8 x] 5) rfl (by intro v hv;simp at hv;rcases hv with rfl;rfl) (by unfold maxLen;omega) (by omega) (Nat.le_trans HB.out.size (by simp)) ?_;intro v6 w6 R6 K6))
   go_roundw
   case rel=>exact⟨k+1,by omega,by go_num,by rw[List.range_succ,List.map_append];rw[List.map_singleton,HX.out];exact R6,Below.trans (HB.out.ac _) (K6.below _ (HB.out.ac _).size λq hq=>hq)⟩
   case measure=>simp[intOf]<;>omega
  ·obtain rfl:k=n:=by omega
   have HR:=xh hr
   have HB:=xh hb
   clear hr hb
   go_wp2_with fail
   go_ret
   exact⟨_,rfl,HR.out,HB.out⟩
def PgW (w:World) (pv:Value) (m:Pages):Prop:=
 ∃p cap,pv=.slice p (pageNums m).length cap∧(0<(pageNums m).length→∃g cs,p=some ⟨g,0,none⟩∧Blk w g cs 148∧∀j,j<(refRow m).length→cs[j]?=(refRow m)[j]?)
theorem PgW.rd {w:World} {pv:Value} {m:Pages} (h:PgW w pv m):PgsD w pv m:=by
 obtain⟨p,cap,rfl,h⟩:=h
 refine⟨p,cap,rfl,λh0=>?_⟩
 obtain⟨g,cs,rfl,hb,hc⟩:=h h0
 exact⟨g,rfl,hb.lt,λj hj=>by rw[hb.cell];exact hc j hj⟩
theorem PgW.keep {S:Nat→Prop} {w w':World} {pv:Value} {m:Pages} (h:PgW w pv m) (k:Keep S w w') (hs:∀g,pv.ownBlock=some g→¬S g):PgW w' pv m:=by
 obtain⟨p,cap,rfl,h⟩:=h
 refine⟨p,cap,rfl,λh0=>?_⟩
 obtain⟨g,cs,rfl,hb,hc⟩:=h h0
 exact⟨g,cs,rfl,hb.keep k (hs g rfl),hc⟩
theorem PgW.bel {w w':World} {pv:Value} {m:Pages} (h:PgW w pv m) (k:Bel w w'):PgW w' pv m:=h.keep (Keep.of_bel (λ_=>False) k) (λ_ _ h=>h)
theorem pageNums_perm (perm:Nat→Option Int) (M M':Nat→Int):pageNums (pagesOf perm M)=pageNums (pagesOf perm M'):=by
 unfold pageNums pagesOf
 apply List.filter_congr
 intro n _
 cases perm n<;>rfl
theorem refCells_len (n:Nat) (perm:Nat→Option Int) (M:Nat→Int):(refCells n ((pagesOf perm M n).getD Pg.zero)).length=258:=by
 unfold refCells pagesOf
 cases perm n<;>simp[Pg.zero]
theorem refRow_set (perm:Nat→Option Int) (M:Nat→Int) (a k:Nat) (x:Int) (hk:(pageNums (pagesOf perm M))[k]?=some (a/256)) (hp:(perm (a/256)).isSome=true) (j:Nat) :
 (refRow (pagesOf perm (setF M a x)))[j]?=if j=k*258+2+a%256 then some (.int .u8 x)else(refRow (pagesOf perm M))[j]?:=by
 have hlen:∀(M:Nat→Int),∀n∈pageNums (pagesOf perm M),(refCells n ((pagesOf perm M n).getD Pg.zero)).length=258:=λM n _=>refCells_len n perm M
 have hj:j=(j/258)*258+j%258:=by omega
 have hm:j%258<258:=by omega
 have hget:∀M',(refRow (pagesOf perm M'))[j]?=(pageNums (pagesOf perm M))[j/258]?.bind λn=>(refCells n ((pagesOf perm M' n).getD Pg.zero))[j%258]?:=λM'=>by
  unfold refRow
  have h1:=flat_at (λn=>refCells n ((pagesOf perm M' n).getD Pg.zero)) 258 (pageNums (pagesOf perm M')) (λn _=>refCells_len n perm M') (j/258) (j%258) hm
  rw[←hj,pageNums_perm perm M' M]at h1
  rw[pageNums_perm perm M' M]
  exact h1
 rw[hget (setF M a x),hget M]
 have hsorted:=pageNums_sorted (pagesOf perm M)
 obtain⟨p,hpp⟩:=Option.isSome_iff_exists.1 hp
 by_cases e:j/258=k
 ·rw[e,hk]
  simp only[Option.bind_some]
  unfold pagesOf refCells
  rw[hpp]
  simp only[Option.map_some,Option.getD_some]
  by_cases e2:j%258=2+a%256
  ·rw[if_pos (by omega),e2,Nat.add_comm]
   have h256:a%256<256:=by omega
   have ha:256*(a/256)+a%256=a:=by omega
   simp[h256,setF,ha]
  ·rw[if_neg (by omega)]
   rcases hjm:j%258 with _|_|q
   ·simp
   ·simp
   ·have hq:q<256:=by omega
    simp only[List.getElem?_cons_succ,List.getElem?_map,List.map_map]
    rw[List.getElem?_range hq]
    have hne:256*(a/256)+q≠a:=by omega
    simp[setF,hne]
 ·have hne:j≠k*258+2+a%256:=λh=>e (by omega)
  rw[if_neg hne]
  cases hn:(pageNums (pagesOf perm M))[j/258]? with
  | none=>rfl
  | some n=>
    have hna:n≠a/256:=λh=>by
     subst h
     have h1:=(List.getElem?_eq_some_iff.1 hn)
     have h2:=(List.getElem?_eq_some_iff.1 hk)
     obtain⟨l1,g1⟩:=h1
     obtain⟨l2,g2⟩:=h2
     rcases Nat.lt_or_gt_of_ne e with h|h
     ·have:=List.pairwise_iff_getElem.1 hsorted _ _ l1 l2 h
      omega
     ·have:=List.pairwise_iff_getElem.1 hsorted _ _ l2 l1 h
      omega
    simp only[Option.bind_some]
    unfold pagesOf refCells
    cases hpn:perm n with
    | none=>rfl
    | some q=>
      simp only[Option.map_some,Option.getD_some]
      congr 2
      congr 1
      congr 1
      apply List.map_congr_left
      intro i hi
      have hi:=List.mem_range.1 hi
      have:256*n+i≠a:=by omega
      simp[setF,this]
theorem PgW.set {w:World} {pv:Value} {perm:Nat→Option Int} {M:Nat→Int} (h:PgW w pv (pagesOf perm M)) (a k g cap:Nat) (x:Int) (hpv:pv=.slice (some ⟨g,0,none⟩) (pageNums (pagesOf perm M)).length cap) (hk:(pageNums (pagesOf perm M))[k]?=some (a/256)) (hp:(perm (a/256)).isSome=true) :
 PgW (w.setCell ⟨g,k*258+2+a%256,none⟩ (.int .u8 x)) pv (pagesOf perm (setF M a x)):=by
 obtain⟨p,cap',e,h⟩:=h
 rw[hpv]at e
 cases e
 have hkl:k<(pageNums (pagesOf perm M)).length:=(List.getElem?_eq_some_iff.1 hk).1
 have hln:=pageNums_perm perm (setF M a x) M
 refine⟨_,_,by rw[hln];exact hpv,λ_=>?_⟩
 obtain⟨g',cs,e,hb,hc⟩:=h (by omega)
 cases e
 refine⟨g,_,rfl,hb.setCell _,λj hj=>?_⟩
 rw[refRow_set perm M a k x hk hp]
 have hll:(refRow (pagesOf perm (setF M a x))).length=(refRow (pagesOf perm M)).length:=by
  unfold refRow
  rw[flat_length _ 258 _ λn _=>refCells_len n perm _,flat_length _ 258 _ λn _=>refCells_len n perm _,hln]
 have hcl:k*258+2+a%256<cs.length:=by
  have hrl:k*258+2+a%256<(refRow (pagesOf perm M)).length:=by unfold refRow;rw[flat_length _ 258 _ λn _=>refCells_len n perm _];omega
  have h1:=hc (k*258+2+a%256) hrl
  rw[List.getElem?_eq_getElem hrl]at h1
  exact(List.getElem?_eq_some_iff.1 h1).1
 by_cases e:j=k*258+2+a%256
 ·subst e
  rw[if_pos rfl,List.getElem?_set_self hcl]
 ·rw[if_neg e,List.getElem?_set_ne (λh=>e h.symm)]
  exact hc j (by omega)
theorem pokeM_step (M:Nat→Int) (A k:Nat) (bs:List Int) (x:Int) (hx:bs[k]?=some x):setF (pokeM M A (bs.take k)) (A+k) x=pokeM M A (bs.take (k+1)):=by
 have hk:k<bs.length:=(List.getElem?_eq_some_iff.1 hx).1
 funext a
 unfold setF pokeM
 simp only[List.length_take,List.getD_eq_getElem?_getD,List.getElem?_take]
 by_cases e:a=A+k
 ·subst e
  rw[if_pos rfl,if_pos (by omega),if_pos (by omega),show A+k-A=k from by omega,hx]
  rfl
 ·rw[if_neg e]
  by_cases e2:A≤a∧a<A+min k bs.length
  ·rw[if_pos e2,if_pos (by omega),if_pos (by omega),if_pos (by omega)]
  ·rw[if_neg e2,if_neg (by omega)]
theorem pokeD_any (pv:Value) (perm:Nat→Option Int) (M:Nat→Int) (A:Nat) (bs:List Int) (b1 c1:Nat) (w:World) (h:PgW w pv (pagesOf perm M)) (hM:∀a,0≤M a∧M a≤255) (hq:∀n,256≤n→perm n=none) (hq2:∀n p,perm n=some p→0≤p∧p≤7) (hA:A+bs.length≤65536) (hB:Bts w b1 0 bs) (hne:pv.ownBlock≠some b1) (hperm:∀a,A≤a→a<A+bs.length→(perm (a/256)).isSome=true) :
 Calls Tryz.prog 131 #[pv,.int .u64 A,.slice (some ⟨b1,0,none⟩) bs.length c1] w λe w'=>e=.returned (.tuple #[])∧PgW w' pv (pagesOf perm (pokeM M A bs))∧Keep (λq=>pv.ownBlock=some q) w w':=by
 have hok:∀M',(∀a,0≤M' a∧M' a≤255)→PagesOk (pagesOf perm M'):=λM' hM'=>⟨λn hn=>by unfold pagesOf;rw[hq n hn];rfl,λn p hp=>by
  unfold pagesOf at hp
  obtain⟨q,hq3,rfl⟩:=Option.map_eq_some_iff.1 hp
  refine⟨by simp,λx hx=>?_,hq2 n q hq3⟩
  obtain⟨i,_,rfl⟩:=List.mem_map.1 hx
  exact hM' _⟩
 have hby:=hB.byte
 have hMk:∀k a,0≤pokeM M A (bs.take k) a∧pokeM M A (bs.take k) a≤255:=λk a=>pokeM_byte hM (λx hx=>hby x (List.mem_of_mem_take hx)) a
 have HBY:=xh λW k (hW:PgW W pv (pagesOf perm (pokeM M A (bs.take k)))) (hk:k<bs.length)=>pgs_byte hW.rd (hok _ (hMk k)) (A+k) (by omega) (hperm (A+k) (by omega) (by omega))
 have HFD:=xh λW k (hW:PgW W pv (pagesOf perm (pokeM M A (bs.take k)))) N (hN:N≤1000000)=>findD_any pv _ N W hW.rd (hok _ (hMk k)) hN
 have HFN:=xh λk (hk:k<bs.length)=>findF_some (m:=pagesOf perm (pokeM M A (bs.take k))) (N:=(A+k)/256) (by omega) (by
  obtain⟨p,hp⟩:=Option.isSome_iff_exists.1 (hperm (A+k) (by omega) (by omega))
  unfold pagesOf;rw[hp];rfl)
 have HPM:=xh hperm
 have hpl:=pageNums_length (pagesOf perm M)
 have HB:=xh hB
 have HNE:=xh hne
 have HH:=xh h
 clear h hM hq hq2 hok hby hMk hB hne hperm
 go_enter Tryz.func131,Tryz.ntmps131
 go_wp2_with fail
 go_loopw [6] (λi wr=>∃k:Nat,k≤bs.length∧i=.int .i64 k∧PgW wr pv (pagesOf perm (pokeM M A (bs.take k)))∧Keep (λq=>pv.ownBlock=some q) w wr) (λi _=>bs.length-(intOf i).toNat)
 case atStart=>exact⟨0,Nat.zero_le _,rfl,by
  have:=HH.out
  rwa [show pokeM M A (bs.take 0)=M from by funext a;unfold pokeM;rw[if_neg (by simp)]],Keep.refl _ _⟩
 case round=>
  obtain⟨k,hk,rfl,hP,hK⟩:=hrel
  by_cases hlt:k<bs.length
  ·obtain⟨kk,g,cap,hfk,hkl,hpv,hcell⟩:=HBY.out wr k hP hlt
   obtain⟨k2,hf2,hkn⟩:=HFN.out k hlt
   have e2:k2=kk:=by rw[hfk]at hf2;omega
   subst e2
   have hfd:=HFD.out wr k hP ((A+k)/256) (by omega)
   rw[hfk]at hfd
   have hx:=List.getElem?_eq_getElem hlt
   obtain⟨x,hxx⟩:∃x,bs[k]=x:=⟨_,rfl⟩
   rw[hxx]at hx
   have bx:wr.cell? ⟨b1,k,none⟩=some (.int .u8 x):=by
    have h1:=HB.out.cell k hlt
    rw[Nat.zero_add,hx]at h1
    exact(hK.cell ⟨b1,k,none⟩ (World.block_lt_of_cell? _ _ h1) HNE.out).trans h1
   obtain⟨N,hN⟩:∃N:Nat,(A+k)/256=N:=⟨_,rfl⟩
   obtain⟨r,hr2⟩:∃r:Nat,(A+k)%256=r:=⟨_,rfl⟩
   have HS:=xh (hP.set (A+k) k2 g cap x hpv hkn (HPM.out _ (by omega) (by omega)))
   rw[pokeM_step M A k bs x hx,hr2]at HS
   have hgf:∀o,wr.frozen? ⟨g,o,none⟩=false:=λo=>by
    obtain⟨p',cap',e,hh⟩:=hP
    rw[hpv]at e
    cases e
    obtain⟨g',cs,e,hb,_⟩:=hh (by omega)
    cases e
    exact hb.frozen o
   rw[hN]at hfd
   rw[hr2]at hcell
   have hsum:IntKind.i64.wrap ((A:Int)+(k:Int))=(A:Int)+(k:Int):=by rw[IntKind.wrap_i64];omega
   have hdv:((A:Int)+k)/256=(N:Int):=by omega
   have hmd:((A:Int)+k)%256=(r:Int):=by omega
   have hr256:r<256:=by omega
   have hk0:(0:Int)≤k2:=by omega
   have hpn:=pageNums_perm perm (pokeM M A (bs.take k)) M
   have hk1:(k2:Int)<((pageNums (pagesOf perm M)).length:Nat):=by rw[←hpn];omega
   rw[hpn]at hpv
   obtain⟨y,hy⟩:∃y,pokeM M A (bs.take k) (A+k)=y:=⟨_,rfl⟩
   rw[hy]at hcell
   have HF:=xh hfd
   have HK:=xh hK
   have HPV:=xh hpv
   clear hfd hfk hf2 hN hr2 hkl hP hK hx hxx hkn hpn hy
   rw[HPV.out]at HF⊢
   generalize (pageNums (pagesOf perm M)).length=pl at *
   go_upto_region 5 with(go_at_call 44;((with_reducible refine Calls.mono HF.out ?_);rintro e2 w2 ⟨rfl,rfl⟩))
   have hr0:(0:Int)≤r:=by omega
   have hr1:(r:Int)<256:=by omega
   have htm:((A:Int)+(k:Int)).tmod 256=(r:Int):=by rw[Int.tmod_eq_emod_of_nonneg (by omega)];exact hmd
   go_still_tail 11,(by kernel_rfl)
   change wpList _ _ _ _ _ wr.drew
   go_wp2_with fail
   go_roundw
   case rel=>exact⟨k+1,by omega,by go_num,by
    have h1:=HS.out
    rw[HPV.out]at h1
    exact h1.keep (Keep.of_bel (λ_=>False) (Bel.drew (Bel.refl _))) (λ_ _ h=>h),by
    have h2:=HK.out
    rw[HPV.out]at h2
    exact h2.tr (((Keep.setCell wr g _ _).mono λq hq=>by subst hq;rfl).tr (Keep.of_bel _ (Bel.drew (Bel.refl _))))⟩
   case measure=>simp[intOf]<;>omega
  ·obtain rfl:k=bs.length:=by omega
   rw[List.take_length]at hP
   have HP:=xh hP
   have HK:=xh hK
   clear hP hK
   go_wp2_with fail
   go_end0
   exact⟨rfl,HP.out,HK.out⟩
structure DCpu (w:World) (b o:Nat) (cs:List Value) (perm:Nat→Option Int) (c:Cpu) (pv:Value):Prop where
 blk:Blk w b cs 80
 len:o+31≤cs.length
 c5:cs[o+5]?=some (.int .u64 c.pc)
 reg:∀i,i<16→cs[o+6+i]?=some (.int .u64 (c.regs.getD i 0))
 c22:cs[o+22]?=some pv
 pgs:PgW w pv (pagesOf perm c.M)
 pc:U c.pc
 regs:RegsOk c.regs
 mem:∀a,0≤c.M a∧c.M a≤255
 lo:∀n,256≤n→perm n=none
 pr:∀n p,perm n=some p→0≤p∧p≤7
theorem pagesOf_ok {perm:Nat→Option Int} {M:Nat→Int} (hM:∀a,0≤M a∧M a≤255) (hq:∀n,256≤n→perm n=none) (hq2:∀n p,perm n=some p→0≤p∧p≤7):PagesOk (pagesOf perm M):=⟨λn hn=>by unfold pagesOf;rw[hq n hn];rfl,λn p hp=>by
 unfold pagesOf at hp
 obtain⟨q,hq3,rfl⟩:=Option.map_eq_some_iff.1 hp
 refine⟨by simp,λx hx=>?_,hq2 n q hq3⟩
 obtain⟨i,_,rfl⟩:=List.mem_map.1 hx
 exact hM _⟩
section
variable {w w':World} {b o:Nat} {cs:List Value} {perm:Nat→Option Int} {c:Cpu} {pv:Value}
theorem DCpu.ok (h:DCpu w b o cs perm c pv):PagesOk (pagesOf perm c.M):=pagesOf_ok h.mem h.lo h.pr
theorem DCpu.cell5 (h:DCpu w b o cs perm c pv):w.cell? ⟨b,o+5,none⟩=some (.int .u64 c.pc):=by rw[h.blk.cell];exact h.c5
theorem DCpu.cell22 (h:DCpu w b o cs perm c pv):w.cell? ⟨b,o+22,none⟩=some pv:=by rw[h.blk.cell];exact h.c22
theorem DCpu.cellR (h:DCpu w b o cs perm c pv) (i:Nat) (hi:i<16):w.cell? ⟨b,o+6+i,none⟩=some (.int .u64 (c.regs.getD i 0)):=by rw[h.blk.cell];exact h.reg i hi
theorem PgW.blk {pv:Value} {m:Pages} (h:PgW w pv m) {g:Nat} (hg:pv.ownBlock=some g) (h0:0<(pageNums m).length):∃cs,Blk w g cs 148:=by
 obtain⟨p,cap,rfl,h⟩:=h
 obtain⟨g',cs,rfl,hb,_⟩:=h h0
 cases hg
 exact⟨cs,hb⟩
theorem DCpu.keep {S:Nat→Prop} (h:DCpu w b o cs perm c pv) (k:Keep S w w') (h1:¬S b) (h2:∀g,pv.ownBlock=some g→¬S g):DCpu w' b o cs perm c pv:=
 ⟨h.blk.keep k h1,h.len,h.c5,h.reg,h.c22,h.pgs.keep k h2,h.pc,h.regs,h.mem,h.lo,h.pr⟩
theorem DCpu.bel (h:DCpu w b o cs perm c pv) (k:Bel w w'):DCpu w' b o cs perm c pv:=h.keep (Keep.of_bel (λ_=>False) k) (λh=>h) (λ_ _ h=>h)
theorem DCpu.setReg (h:DCpu w b o cs perm c pv) (hne:pv.ownBlock≠some b) (A:Nat) (hA:A<16) (v:Int) (hv:U v):DCpu (w.setCell ⟨b,o+6+A,none⟩ (.int .u64 v)) b o (cs.set (o+6+A) (.int .u64 v)) perm {c with regs:=c.regs.set A v} pv:=by
 have hl:=h.len
 refine⟨h.blk.setCell _,by rw[List.length_set];exact h.len,by rw[List.getElem?_set_ne (by omega)];exact h.c5,λi hi=>?_,by rw[List.getElem?_set_ne (by omega)];exact h.c22,h.pgs.keep (Keep.setCell w b _ _) (λg hg e=>hne (by have e:g=b:=e;rw[hg,e])),h.pc,⟨by rw[List.length_set];exact h.regs.len,λx hx=>?_⟩,h.mem,h.lo,h.pr⟩
 ·by_cases e:i=A
  ·subst e
   rw[List.getElem?_set_self (by omega)]
   simp[List.getD_eq_getElem?_getD,h.regs.len,hi]
  ·rw[List.getElem?_set_ne (by omega),h.reg i hi]
   simp[List.getD_eq_getElem?_getD,List.getElem?_set_ne (λh=>e h.symm)]
 ·rcases List.mem_or_eq_of_mem_set hx with h1|rfl
  ·exact h.regs.u x h1
  ·exact hv
theorem DCpu.setPc (h:DCpu w b o cs perm c pv) (hne:pv.ownBlock≠some b) (v:Int) (hv:U v):DCpu (w.setCell ⟨b,o+5,none⟩ (.int .u64 v)) b o (cs.set (o+5) (.int .u64 v)) perm {c with pc:=v} pv:=by
 have hl:=h.len
 exact⟨h.blk.setCell _,by rw[List.length_set];exact h.len,by rw[List.getElem?_set_self (by omega)],λi hi=>by rw[List.getElem?_set_ne (by omega)];exact h.reg i hi,by rw[List.getElem?_set_ne (by omega)];exact h.c22,h.pgs.keep (Keep.setCell w b _ _) (λg hg e=>hne (by have e:g=b:=e;rw[hg,e])),hv,h.regs,h.mem,h.lo,h.pr⟩
theorem DCpu.regU (h:DCpu w b o cs perm c pv) (i:Nat):U (c.regs.getD i 0):=by
 rw[List.getD_eq_getElem?_getD]
 cases hx:c.regs[i]? with
 | none=>exact⟨by simp,by simp⟩
 | some x=>exact h.regs.u x (List.mem_of_getElem? hx)
end
theorem memD_bad (b o:Nat) (cs:List Value) (perm:Nat→Option Int) (c:Cpu) (pv:Value) (op A B:Nat) (imm:Int) (w:World) (h:DCpu w b o cs perm c pv) (ho:op=14∨op=15∨op=16∨op=17) (hB:B<16) (hm:mayB (pagesOf perm c.M) (memA c B imm) (memN op) (memK op)=false) :
 Calls Tryz.prog 101 #[.pointer (some ⟨b,o,none⟩),insR op A B imm] w λe w'=>e=.returned (.bool false)∧Bel w w':=by
 have hB0:(0:Int)≤B:=by omega
 have hB1:(B:Int)<16:=by omega
 have hr:=h.cellR B hB
 have c22:=h.cell22
 have hpl:=h.blk.lt
 have HMY:=xh λW (hW:Bel w W)=>mayD_any pv (pagesOf perm c.M) (memA c B imm) (memN op) (memK op) W (h.bel hW).pgs.rd h.ok (U_u64 _) (by unfold memN;split<;>omega) (by unfold memN;split<;>omega) (by unfold memK;split<;>simp)
 rw[hm]at HMY
 obtain⟨rv,hrv⟩:∃rv,c.regs.getD B 0=rv:=⟨_,rfl⟩
 have hma:memA c B imm=u64 (rv+u64 imm):=by unfold memA;rw[hrv]
 rw[hma]at HMY
 rw[hrv]at hr
 have hwi:IntKind.wrap .u64 imm=u64 imm:=rfl
 have hwa:IntKind.wrap .u64 (rv+u64 imm)=u64 (rv+u64 imm):=rfl
 clear h hm hma hrv
 rcases ho with rfl|rfl|rfl|rfl
 all_goals
  go_enter Tryz.func101,Tryz.ntmps101
  go_upto_region 1 with fail
  go_quiet (fail)
  go_wp2_with (go_at_call 43;(refine Calls.mono (HMY.out _ (bel_drewN (Bel.start _ _) _)) ?_;rintro e w2 ⟨rfl,rfl⟩))
  go_ret
  exact⟨rfl,bel_drewN (Bel.start _ _) _⟩
theorem Keep.mono_old {S S':Nat→Prop} {w w':World} (h:Keep S w w') (hs:∀k,S k→k<w.heap.size→S' k):Keep S' w w':=⟨h.os,h.tape,h.output,h.size,λk hk hn=>h.block k hk λh1=>hn (hs k h1 hk)⟩
theorem bytes_row (M:Nat→Int) (a:Nat) (n:Nat):((List.range n).map λi=>(Value.int .u8 (M (a+i))))=(bytesAt M a n).map (Value.int .u8):=by
 unfold bytesAt
 rw[List.map_map]
 rfl
theorem bts_of_row {w:World} {base g n cap:Nat} {bs:List Int} (h:w.ownsRow base 5 1 (.slice (some ⟨g,0,none⟩) n cap) n (bs.map (Value.int .u8))) (hn:n=bs.length) (h0:0<n) (hb:∀x∈bs,0≤x∧x≤255):Bts w g 0 bs:=by
 obtain⟨p,cap',e,_,_,hp⟩:=row_slice h
 cases e
 obtain⟨g',e,_,_,hc,_⟩:=hp.resolve_left (by omega)
 cases e
 exact⟨λi hi=>by rw[Nat.zero_add,hc i (by simpa using hi),List.getElem?_map],hb⟩
theorem memD_load14 (b o:Nat) (cs:List Value) (perm:Nat→Option Int) (c:Cpu) (pv:Value) (A B:Nat) (imm:Int) (w:World) (h:DCpu w b o cs perm c pv) (hne:pv.ownBlock≠some b) (hA:A<16) (hB:B<16) (hm:mayB (pagesOf perm c.M) (memA c B imm) 8 4=true) :
 Calls Tryz.prog 101 #[.pointer (some ⟨b,o,none⟩),insR 14 A B imm] w λe w'=>e=.returned (.bool true)∧DCpu w' b o (cs.set (o+6+A) (.int .u64 (numV (bytesAt c.M (memA c B imm) 8)))) perm {c with regs:=c.regs.set A (numV (bytesAt c.M (memA c B imm) 8))} pv∧Keep (λq=>q=b) w w':=by
 have hA0:(0:Int)≤A:=by omega
 have hA1:(A:Int)<16:=by omega
 have hB0:(0:Int)≤B:=by omega
 have hB1:(B:Int)<16:=by omega
 have hr:=h.cellR B hB
 have c22:=h.cell22
 have hpl:=h.blk.lt
 obtain⟨a0,a1⟩:=U_u64 (c.regs.getD B 0+u64 imm)
 obtain⟨an,han⟩:=Int.eq_ofNat_of_zero_le a0
 have HMY:Hid (∀W,Bel w W→Calls Tryz.prog 43 #[pv,.int .u64 (memA c B imm),.int .i64 8,.int .i64 4] W λe w'=>e=.returned (.bool true)∧W=w'):=xh λW (hW:Bel w W)=>by
  have:=mayD_any pv (pagesOf perm c.M) (memA c B imm) 8 4 W (h.bel hW).pgs.rd h.ok (U_u64 _) (by decide) (by decide) (by decide)
  rwa [hm]at this
 obtain⟨rv,hrv⟩:∃rv,c.regs.getD B 0=rv:=⟨_,rfl⟩
 have hma:memA c B imm=u64 (rv+u64 imm):=by unfold memA;rw[hrv]
 have hman:memA c B imm=an:=han
 have hm2:=hm
 rw[hman]at hm2
 obtain⟨hA2,hperm⟩:=may_perm (by omega) hm2 (by decide)
 rw[hma]at HMY
 rw[hrv]at hr
 have hwi:IntKind.wrap .u64 imm=u64 imm:=rfl
 have hwa:IntKind.wrap .u64 (rv+u64 imm)=u64 (rv+u64 imm):=rfl
 have HC:=xh h
 have HNE:=xh hne
 obtain⟨bx,hbx⟩:∃bx,w.heap.size=bx:=⟨_,rfl⟩
 have HBX:=xh hbx
 obtain⟨bs,hbs⟩:∃bs,bytesAt c.M (memA c B imm) 8=bs:=⟨_,rfl⟩
 have hbl:bs.length=8:=by rw[←hbs];simp[bytesAt]
 have hbb:∀x∈bs,0≤x∧x≤255:=by
  intro x hx
  rw[←hbs]at hx
  obtain⟨k,_,rfl⟩:=List.mem_map.1 hx
  exact h.mem _
 have hpk:∀W,Bel w W→Calls Tryz.prog 97 #[pv,.int .u64 (u64 (rv+u64 imm)),.int .i64 8] W λe w'=>∃g cap,e=.returned (.slice (some ⟨g,0,none⟩) 8 cap)∧Bts w' g 0 bs∧Bel W w':=λW hW=>by
  rw[←hma,hman]
  refine(peekD_any pv perm c.M an 8 W (h.bel hW).pgs.rd h.ok (by omega) (λa h1 h2=>hperm a h1 (by omega))).mono ?_
  rintro e w' ⟨v,rfl,hrow,hb⟩
  rw[bytes_row,show bytesAt c.M an 8=bs from by rw[←hbs,hman]]at hrow
  obtain⟨p,cap,rfl,_,_,hp⟩:=row_slice hrow
  obtain⟨g,rfl,_⟩:=hp.resolve_left (by omega)
  exact⟨g,cap,rfl,bts_of_row hrow hbl.symm (by omega) hbb,hb⟩
 have hnum:∀g cap W,Bts W g 0 bs→Calls Tryz.prog 98 #[.slice (some ⟨g,0,none⟩) 8 cap] W λe w'=>e=.returned (.int .u64 (numV bs))∧W=w':=λg cap W hW=>by
  have:=numberR_any g 0 cap bs W (by omega) hW
  rw[hbl]at this
  exact this
 rw[hbs]
 have HPK:=xh hpk
 have HN:=xh hnum
 have HL:=xh hbl
 clear h hne hm hma hrv hpk hnum hbs hbl hbb hm2 hA2 hperm han hman hbx a0 a1
 go_enter Tryz.func101,Tryz.ntmps101
 go_upto_region 1 with fail
 go_quiet (fail)
 go_upto_region 13 with(first
  | (go_at_call 43;((with_reducible refine Calls.mono (HMY.out _ (bel_drewN (Bel.start _ _) _)) ?_);rintro e w2 ⟨rfl,rfl⟩))
  | (go_at_call 97;((with_reducible refine Calls.mono (HPK.out _ (bel_drewN (Bel.start _ _) _)) ?_);rintro e w3 ⟨g,cap,rfl,hB3,hk3⟩;have H3:=xh (And.intro hB3 hk3);clear hB3 hk3)))
 rw[HBX.out]
 have k1:Bel w ((w.alloc (.cells #[.int .i64 14,.int .i64 A,.int .i64 B,.int .i64 imm] 89)).drewN nq):=bel_drewN (Bel.start _ _) nq
 have BR:Blk ((w.alloc (.cells #[.int .i64 14,.int .i64 A,.int .i64 B,.int .i64 imm] 89)).drewN nq) bx [.int .i64 14,.int .i64 A,.int .i64 B,.int .i64 imm] 89:=by rw[←HBX.out];exact(Blk.new w _ _).bel (bel_drewN (Bel.refl _) nq)
 have e1:w3.cell? ⟨bx,1,none⟩=some (.int .i64 A):=(BR.bel H3.out.2).cell 1
 have kw:=k1.tr H3.out.2
 obtain⟨ra,hra⟩:∃ra,w3.cell? ⟨b,o+6+A,none⟩=some (.int .u64 ra):=⟨_,cell_bel kw (HC.out.cellR A hA)⟩
 have fA:w3.frozen? ⟨b,o+6+A,none⟩=false:=(HC.out.bel kw).blk.frozen _
 have hbn:bx≠b:=by have:=HBX.out;omega
 have hbn':b≠bx:=λe=>hbn e.symm
 have HN2:=xh λn=>HN.out g cap (w3.drewN n) (H3.out.1.of_cell λ_ _=>rfl)
 have KW:=xh kw
 clear k1 BR kw
 have hst:∀v,(w3.setCell ⟨b,o+6+A,none⟩ v).cell? ⟨bx,1,none⟩=some (.int .i64 A):=λv=>by rw[World.cell?_setCell_other _ _ _ _ (by simp<;>omega)];exact e1
 go_region_held3 (λw'=>w'.cell? ⟨bx,1,none⟩=some (.int .i64 A)) (first|(go_keep;done)|exact hst _) ((go_at_call 98;((with_reducible refine Calls.mono (HN.out g cap _ (H3.out.1.of_cell λ_ _=>rfl)) ?_);rintro e4 w4 ⟨rfl,rfl⟩)))
 all_goals go_wp2_with fail
 go_ret
 have h4:=(HC.out.bel KW.out).setReg HNE.out A hA (numV bs) (numV_u64 bs H3.out.1.byte (by rw[HL.out];omega))
 exact⟨rfl,h4.keep (Keep.of_bel (λ_=>False) (Bel.drew (Bel.refl _))) (λh=>h) (λ_ _ h=>h),((Keep.of_bel _ KW.out).tr (Keep.setCell _ b _ _)).tr (Keep.of_bel _ (Bel.drew (Bel.refl _)))⟩
theorem memD_load16 (b o:Nat) (cs:List Value) (perm:Nat→Option Int) (c:Cpu) (pv:Value) (A B:Nat) (imm:Int) (w:World) (h:DCpu w b o cs perm c pv) (hne:pv.ownBlock≠some b) (hA:A<16) (hB:B<16) (hm:mayB (pagesOf perm c.M) (memA c B imm) 1 4=true) :
 Calls Tryz.prog 101 #[.pointer (some ⟨b,o,none⟩),insR 16 A B imm] w λe w'=>e=.returned (.bool true)∧DCpu w' b o (cs.set (o+6+A) (.int .u64 (numV (bytesAt c.M (memA c B imm) 1)))) perm {c with regs:=c.regs.set A (numV (bytesAt c.M (memA c B imm) 1))} pv∧Keep (λq=>q=b) w w':=by
 have hA0:(0:Int)≤A:=by omega
 have hA1:(A:Int)<16:=by omega
 have hB0:(0:Int)≤B:=by omega
 have hB1:(B:Int)<16:=by omega
 have hr:=h.cellR B hB
 have c22:=h.cell22
 have hpl:=h.blk.lt
 obtain⟨a0,a1⟩:=U_u64 (c.regs.getD B 0+u64 imm)
 obtain⟨an,han⟩:=Int.eq_ofNat_of_zero_le a0
 have HMY:Hid (∀W,Bel w W→Calls Tryz.prog 43 #[pv,.int .u64 (memA c B imm),.int .i64 1,.int .i64 4] W λe w'=>e=.returned (.bool true)∧W=w'):=xh λW (hW:Bel w W)=>by
  have:=mayD_any pv (pagesOf perm c.M) (memA c B imm) 1 4 W (h.bel hW).pgs.rd h.ok (U_u64 _) (by decide) (by decide) (by decide)
  rwa [hm]at this
 obtain⟨rv,hrv⟩:∃rv,c.regs.getD B 0=rv:=⟨_,rfl⟩
 have hma:memA c B imm=u64 (rv+u64 imm):=by unfold memA;rw[hrv]
 have hman:memA c B imm=an:=han
 have hm2:=hm
 rw[hman]at hm2
 obtain⟨hA2,hperm⟩:=may_perm (by omega) hm2 (by decide)
 rw[hma]at HMY
 rw[hrv]at hr
 have hwi:IntKind.wrap .u64 imm=u64 imm:=rfl
 have hwa:IntKind.wrap .u64 (rv+u64 imm)=u64 (rv+u64 imm):=rfl
 have HC:=xh h
 have HNE:=xh hne
 obtain⟨bx,hbx⟩:∃bx,w.heap.size=bx:=⟨_,rfl⟩
 have HBX:=xh hbx
 obtain⟨bs,hbs⟩:∃bs,bytesAt c.M (memA c B imm) 1=bs:=⟨_,rfl⟩
 have hbl:bs.length=1:=by rw[←hbs];simp[bytesAt]
 have hbb:∀x∈bs,0≤x∧x≤255:=by
  intro x hx
  rw[←hbs]at hx
  obtain⟨k,_,rfl⟩:=List.mem_map.1 hx
  exact h.mem _
 have hpk:∀W,Bel w W→Calls Tryz.prog 97 #[pv,.int .u64 (u64 (rv+u64 imm)),.int .i64 1] W λe w'=>∃g cap,e=.returned (.slice (some ⟨g,0,none⟩) 1 cap)∧Bts w' g 0 bs∧Bel W w':=λW hW=>by
  rw[←hma,hman]
  refine(peekD_any pv perm c.M an 1 W (h.bel hW).pgs.rd h.ok (by omega) (λa h1 h2=>hperm a h1 (by omega))).mono ?_
  rintro e w' ⟨v,rfl,hrow,hb⟩
  rw[bytes_row,show bytesAt c.M an 1=bs from by rw[←hbs,hman]]at hrow
  obtain⟨p,cap,rfl,_,_,hp⟩:=row_slice hrow
  obtain⟨g,rfl,_⟩:=hp.resolve_left (by omega)
  exact⟨g,cap,rfl,bts_of_row hrow hbl.symm (by omega) hbb,hb⟩
 have hnum:∀g cap W,Bts W g 0 bs→Calls Tryz.prog 98 #[.slice (some ⟨g,0,none⟩) 1 cap] W λe w'=>e=.returned (.int .u64 (numV bs))∧W=w':=λg cap W hW=>by
  have:=numberR_any g 0 cap bs W (by omega) hW
  rw[hbl]at this
  exact this
 rw[hbs]
 have HPK:=xh hpk
 have HN:=xh hnum
 have HL:=xh hbl
 clear h hne hm hma hrv hpk hnum hbs hbl hbb hm2 hA2 hperm han hman hbx a0 a1
 go_enter Tryz.func101,Tryz.ntmps101
 go_upto_region 1 with fail
 go_quiet (fail)
 go_upto_region 13 with(first
  | (go_at_call 43;((with_reducible refine Calls.mono (HMY.out _ (bel_drewN (Bel.start _ _) _)) ?_);rintro e w2 ⟨rfl,rfl⟩))
  | (go_at_call 97;((with_reducible refine Calls.mono (HPK.out _ (bel_drewN (Bel.start _ _) _)) ?_);rintro e w3 ⟨g,cap,rfl,hB3,hk3⟩;have H3:=xh (And.intro hB3 hk3);clear hB3 hk3)))
 rw[HBX.out]
 have k1:Bel w ((w.alloc (.cells #[.int .i64 16,.int .i64 A,.int .i64 B,.int .i64 imm] 89)).drewN nq):=bel_drewN (Bel.start _ _) nq
 have BR:Blk ((w.alloc (.cells #[.int .i64 16,.int .i64 A,.int .i64 B,.int .i64 imm] 89)).drewN nq) bx [.int .i64 16,.int .i64 A,.int .i64 B,.int .i64 imm] 89:=by rw[←HBX.out];exact(Blk.new w _ _).bel (bel_drewN (Bel.refl _) nq)
 have e1:w3.cell? ⟨bx,1,none⟩=some (.int .i64 A):=(BR.bel H3.out.2).cell 1
 have kw:=k1.tr H3.out.2
 obtain⟨ra,hra⟩:∃ra,w3.cell? ⟨b,o+6+A,none⟩=some (.int .u64 ra):=⟨_,cell_bel kw (HC.out.cellR A hA)⟩
 have fA:w3.frozen? ⟨b,o+6+A,none⟩=false:=(HC.out.bel kw).blk.frozen _
 have hbn:bx≠b:=by have:=HBX.out;omega
 have hbn':b≠bx:=λe=>hbn e.symm
 have HN2:=xh λn=>HN.out g cap (w3.drewN n) (H3.out.1.of_cell λ_ _=>rfl)
 have KW:=xh kw
 clear k1 BR kw
 have hst:∀v,(w3.setCell ⟨b,o+6+A,none⟩ v).cell? ⟨bx,1,none⟩=some (.int .i64 A):=λv=>by rw[World.cell?_setCell_other _ _ _ _ (by simp<;>omega)];exact e1
 go_region_held3 (λw'=>w'.cell? ⟨bx,1,none⟩=some (.int .i64 A)) (first|(go_keep;done)|exact hst _) ((go_at_call 98;((with_reducible refine Calls.mono (HN.out g cap _ (H3.out.1.of_cell λ_ _=>rfl)) ?_);rintro e4 w4 ⟨rfl,rfl⟩)))
 all_goals go_wp2_with fail
 go_ret
 have h4:=(HC.out.bel KW.out).setReg HNE.out A hA (numV bs) (numV_u64 bs H3.out.1.byte (by rw[HL.out];omega))
 exact⟨rfl,h4.keep (Keep.of_bel (λ_=>False) (Bel.drew (Bel.refl _))) (λh=>h) (λ_ _ h=>h),((Keep.of_bel _ KW.out).tr (Keep.setCell _ b _ _)).tr (Keep.of_bel _ (Bel.drew (Bel.refl _)))⟩
theorem memD_store15 (b o:Nat) (cs:List Value) (perm:Nat→Option Int) (c:Cpu) (pv:Value) (A B:Nat) (imm:Int) (w:World) (h:DCpu w b o cs perm c pv) (hne:pv.ownBlock≠some b) (hA:A<16) (hB:B<16) (hm:mayB (pagesOf perm c.M) (memA c B imm) 8 2=true) :
 Calls Tryz.prog 101 #[.pointer (some ⟨b,o,none⟩),insR 15 A B imm] w λe w'=>e=.returned (.bool true)∧DCpu w' b o cs perm {c with M:=pokeM c.M (memA c B imm).toNat (bytes8F (c.regs.getD A 0))} pv∧Keep (λq=>pv.ownBlock=some q) w w':=by
 have hA0:(0:Int)≤A:=by omega
 have hA1:(A:Int)<16:=by omega
 have hB0:(0:Int)≤B:=by omega
 have hB1:(B:Int)<16:=by omega
 have hr:=h.cellR B hB
 have c22:=h.cell22
 have hpl:=h.blk.lt
 obtain⟨a0,a1⟩:=U_u64 (c.regs.getD B 0+u64 imm)
 obtain⟨an,han⟩:=Int.eq_ofNat_of_zero_le a0
 have HMY:Hid (∀W,Bel w W→Calls Tryz.prog 43 #[pv,.int .u64 (memA c B imm),.int .i64 8,.int .i64 2] W λe w'=>e=.returned (.bool true)∧W=w'):=xh λW (hW:Bel w W)=>by
  have:=mayD_any pv (pagesOf perm c.M) (memA c B imm) 8 2 W (h.bel hW).pgs.rd h.ok (U_u64 _) (by decide) (by decide) (by decide)
  rwa [hm]at this
 obtain⟨rv,hrv⟩:∃rv,c.regs.getD B 0=rv:=⟨_,rfl⟩
 have hma:memA c B imm=u64 (rv+u64 imm):=by unfold memA;rw[hrv]
 have hman:memA c B imm=an:=han
 have hm2:=hm
 rw[hman]at hm2
 obtain⟨hA2,hperm⟩:=may_perm (by omega) hm2 (by decide)
 rw[hma]at HMY
 rw[hrv]at hr
 have hwi:IntKind.wrap .u64 imm=u64 imm:=rfl
 have hwa:IntKind.wrap .u64 (rv+u64 imm)=u64 (rv+u64 imm):=rfl
 have HC:=xh h
 have HNE:=xh hne
 obtain⟨bx,hbx⟩:∃bx,w.heap.size=bx:=⟨_,rfl⟩
 have HBX:=xh hbx
 have hnn:0<(pageNums (pagesOf perm c.M)).length:=by
  obtain⟨p,hp⟩:=Option.isSome_iff_exists.1 (hperm an (Nat.le_refl _) (by omega))
  have:an/256∈pageNums (pagesOf perm c.M):=mem_pageNums.2 ⟨by omega,by unfold pagesOf;rw[hp];rfl⟩
  exact List.length_pos_of_mem this
 have HNN:=xh hnn
 have HPM:Hid (∀a,an≤a→a<an+8→(perm (a/256)).isSome=true):=xh λa h1 h2=>hperm a h1 (by omega)
 have HAN:Hid (an+8≤65536∧u64 (rv+u64 imm)=(an:Int)∧(memA c B imm).toNat=an):=xh ⟨by omega,by rw[←hma];exact hman,by rw[hman];rfl⟩
 obtain⟨ra,hra⟩:∃ra,c.regs.getD A 0=ra:=⟨_,rfl⟩
 have ura:=h.regU A
 rw[hra]at ura
 have HRA:=xh hra
 have hmk:∀W,(Instr.makeSlice 32 (.int .i64 8) (.int .i64 8)).run Tryz.prog W=.ok (.slice (some ⟨W.heap.size,0,none⟩) 8 8) (W.alloc (.cells #[.int .u8 0,.int .u8 0,.int .u8 0,.int .u8 0,.int .u8 0,.int .u8 0,.int .u8 0,.int .u8 0] 5)):=λW=>by kernel_rfl
 clear h hne hm hma hrv hm2 hA2 hperm han hman hbx a0 a1 hnn hra
 go_enter Tryz.func101,Tryz.ntmps101
 go_upto_region 1 with fail
 go_quiet (fail)
 go_upto_region 16 with(go_at_call 43;((with_reducible refine Calls.mono (HMY.out _ (bel_drewN (Bel.start _ _) _)) ?_);rintro e w2 ⟨rfl,rfl⟩))
 rw[HBX.out]
 have k1:Bel w ((w.alloc (.cells #[.int .i64 15,.int .i64 A,.int .i64 B,.int .i64 imm] 89)).drewN nq):=bel_drewN (Bel.start _ _) nq
 have BR:Blk ((w.alloc (.cells #[.int .i64 15,.int .i64 A,.int .i64 B,.int .i64 imm] 89)).drewN nq) bx [.int .i64 15,.int .i64 A,.int .i64 B,.int .i64 imm] 89:=by rw[←HBX.out];exact(Blk.new w _ _).bel (bel_drewN (Bel.refl _) nq)
 have hsz:((w.alloc (.cells #[.int .i64 15,.int .i64 A,.int .i64 B,.int .i64 imm] 89)).drewN nq).heap.size=bx+1:=by rw[←HBX.out];exact Array.size_push ..
 generalize (w.alloc (.cells #[.int .i64 15,.int .i64 A,.int .i64 B,.int .i64 imm] 89)).drewN nq=w1 at *
 have k2:Bel w1 (w1.alloc (.cells #[.int .u8 0,.int .u8 0,.int .u8 0,.int .u8 0,.int .u8 0,.int .u8 0,.int .u8 0,.int .u8 0] 5)):=Bel.start _ _
 have BG:Blk (w1.alloc (.cells #[.int .u8 0,.int .u8 0,.int .u8 0,.int .u8 0,.int .u8 0,.int .u8 0,.int .u8 0,.int .u8 0] 5)) w1.heap.size (rowOf (λ_=>0) 8) 5:=Blk.new w1 _ _
 rw[hsz]at BG
 generalize w1.alloc (.cells #[.int .u8 0,.int .u8 0,.int .u8 0,.int .u8 0,.int .u8 0,.int .u8 0,.int .u8 0,.int .u8 0] 5)=w2 at *
 have KW:=xh (k1.tr k2)
 have e1:w2.cell? ⟨bx,1,none⟩=some (.int .i64 A):=cell_bel k2 (BR.cell 1)
 have eA:w2.cell? ⟨b,o+6+A,none⟩=some (.int .u64 ra):=by rw[←HRA.out];exact cell_bel KW.out (HC.out.cellR A hA)
 have e22:w2.cell? ⟨b,o+22,none⟩=some pv:=cell_bel KW.out c22
 have HBG:=xh BG
 have hle:b<w2.heap.size:=World.block_lt_of_cell? _ _ e22
 clear k1 k2 BR BG hsz c22 hr hpl
 go_still_tail 8,(by kernel_rfl)
 change wpList _ _ _ _ _ w2.drew
 have HPT:=xh (putR_any (bx+1) 0 8 (λ_=>0) 5 8 ra w2.drew (HBG.out.bel (Bel.drew (Bel.refl _))) (by omega) (by omega) ura.1 ura.2)
 go_upto_region 17 with((go_at_call 123;refine Calls.mono HPT.out ?_;rintro e3 w3 ⟨rfl,hB3,hk3⟩;have H3:=xh (And.intro hB3 hk3);clear hB3 hk3))
 have hne1:b≠bx+1:=by have:=HC.out.blk.lt;have:=HBX.out;omega
 have m22:w3.cell? ⟨b,o+22,none⟩=some pv:=(H3.out.2.cell ⟨b,o+22,none⟩ hle hne1).trans e22
 go_still_tail 8,(by kernel_rfl)
 change wpList _ _ _ _ _ w3.drew
 have kall:Keep (λq=>q=bx+1) w w3.drew:=((Keep.of_bel _ (KW.out.tr (Bel.drew (Bel.refl _)))).tr H3.out.2).tr (Keep.of_bel _ (Bel.drew (Bel.refl _)))
 have hpv1:pv.ownBlock≠some (bx+1):=λe=>by
  obtain⟨cs,hb⟩:=HC.out.pgs.blk e HNN.out
  have:=hb.lt
  have:=HBX.out
  omega
 have HCK:=xh (HC.out.keep kall hne1 (λg hg e=>hpv1 (by have e:g=bx+1:=e;rw[hg,e])))
 have HPK:Hid (Calls Tryz.prog 131 #[pv,.int .u64 (u64 (rv+u64 imm)),.slice (some ⟨bx+1,0,none⟩) 8 8] w3.drew λe w'=>e=.returned (.tuple #[])∧PgW w' pv (pagesOf perm (pokeM c.M an (bytes8F ra)))∧Keep (λq=>pv.ownBlock=some q) w3.drew w'):=xh (by
  rw[HAN.out.2.1]
  exact pokeD_any pv perm c.M an (bytes8F ra) (bx+1) 8 w3.drew HCK.out.pgs HCK.out.mem HCK.out.lo HCK.out.pr HAN.out.1 ((bts_put ra ura H3.out.1).of_cell λ_ _=>rfl) hpv1 HPM.out)
 go_wp2_with ((go_at_call 131;refine Calls.mono HPK.out ?_;rintro e4 w4 ⟨rfl,hp4,hk4⟩;have H4:=xh (And.intro hp4 hk4);clear hp4 hk4))
 go_ret
 have hb4:¬pv.ownBlock=some b:=HNE.out
 refine⟨rfl,?_,(Keep.tr (kall.mono (S':=λq=>pv.ownBlock=some q∨q=bx+1) λq hq=>.inr hq) (H4.out.2.mono λq hq=>.inl hq)).mono_old λq hq hlt=>?_⟩
 ·rw[HAN.out.2.2,HRA.out]
  exact⟨HCK.out.blk.keep H4.out.2 hb4,HCK.out.len,HCK.out.c5,HCK.out.reg,HCK.out.c22,H4.out.1,HCK.out.pc,HCK.out.regs,λa=>pokeM_byte HCK.out.mem (λx hx=>bytes8F_byte ura x (hx)) a,HCK.out.lo,HCK.out.pr⟩
 ·rcases hq with h1|h1
  ·exact h1
  ·have:=HBX.out
   omega
theorem memD_store17 (b o:Nat) (cs:List Value) (perm:Nat→Option Int) (c:Cpu) (pv:Value) (A B:Nat) (imm:Int) (w:World) (h:DCpu w b o cs perm c pv) (hne:pv.ownBlock≠some b) (hA:A<16) (hB:B<16) (hm:mayB (pagesOf perm c.M) (memA c B imm) 1 2=true) :
 Calls Tryz.prog 101 #[.pointer (some ⟨b,o,none⟩),insR 17 A B imm] w λe w'=>e=.returned (.bool true)∧DCpu w' b o cs perm {c with M:=pokeM c.M (memA c B imm).toNat ((bytes8F (c.regs.getD A 0)).take 1)} pv∧Keep (λq=>pv.ownBlock=some q) w w':=by
 have hA0:(0:Int)≤A:=by omega
 have hA1:(A:Int)<16:=by omega
 have hB0:(0:Int)≤B:=by omega
 have hB1:(B:Int)<16:=by omega
 have hr:=h.cellR B hB
 have c22:=h.cell22
 have hpl:=h.blk.lt
 obtain⟨a0,a1⟩:=U_u64 (c.regs.getD B 0+u64 imm)
 obtain⟨an,han⟩:=Int.eq_ofNat_of_zero_le a0
 have HMY:Hid (∀W,Bel w W→Calls Tryz.prog 43 #[pv,.int .u64 (memA c B imm),.int .i64 1,.int .i64 2] W λe w'=>e=.returned (.bool true)∧W=w'):=xh λW (hW:Bel w W)=>by
  have:=mayD_any pv (pagesOf perm c.M) (memA c B imm) 1 2 W (h.bel hW).pgs.rd h.ok (U_u64 _) (by decide) (by decide) (by decide)
  rwa [hm]at this
 obtain⟨rv,hrv⟩:∃rv,c.regs.getD B 0=rv:=⟨_,rfl⟩
 have hma:memA c B imm=u64 (rv+u64 imm):=by unfold memA;rw[hrv]
 have hman:memA c B imm=an:=han
 have hm2:=hm
 rw[hman]at hm2
 obtain⟨hA2,hperm⟩:=may_perm (by omega) hm2 (by decide)
 rw[hma]at HMY
 rw[hrv]at hr
 have hwi:IntKind.wrap .u64 imm=u64 imm:=rfl
 have hwa:IntKind.wrap .u64 (rv+u64 imm)=u64 (rv+u64 imm):=rfl
 have HC:=xh h
 have HNE:=xh hne
 obtain⟨bx,hbx⟩:∃bx,w.heap.size=bx:=⟨_,rfl⟩
 have HBX:=xh hbx
 have hnn:0<(pageNums (pagesOf perm c.M)).length:=by
  obtain⟨p,hp⟩:=Option.isSome_iff_exists.1 (hperm an (Nat.le_refl _) (by omega))
  have:an/256∈pageNums (pagesOf perm c.M):=mem_pageNums.2 ⟨by omega,by unfold pagesOf;rw[hp];rfl⟩
  exact List.length_pos_of_mem this
 have HNN:=xh hnn
 have HPM:Hid (∀a,an≤a→a<an+1→(perm (a/256)).isSome=true):=xh λa h1 h2=>hperm a h1 (by omega)
 have HAN:Hid (an+1≤65536∧u64 (rv+u64 imm)=(an:Int)∧(memA c B imm).toNat=an):=xh ⟨by omega,by rw[←hma];exact hman,by rw[hman];rfl⟩
 obtain⟨ra,hra⟩:∃ra,c.regs.getD A 0=ra:=⟨_,rfl⟩
 have ura:=h.regU A
 rw[hra]at ura
 have HRA:=xh hra
 have hmk:∀W,(Instr.makeSlice 32 (.int .i64 8) (.int .i64 8)).run Tryz.prog W=.ok (.slice (some ⟨W.heap.size,0,none⟩) 8 8) (W.alloc (.cells #[.int .u8 0,.int .u8 0,.int .u8 0,.int .u8 0,.int .u8 0,.int .u8 0,.int .u8 0,.int .u8 0] 5)):=λW=>by kernel_rfl
 clear h hne hm hma hrv hm2 hA2 hperm han hman hbx a0 a1 hnn hra
 go_enter Tryz.func101,Tryz.ntmps101
 go_upto_region 1 with fail
 go_quiet (fail)
 go_upto_region 16 with(go_at_call 43;((with_reducible refine Calls.mono (HMY.out _ (bel_drewN (Bel.start _ _) _)) ?_);rintro e w2 ⟨rfl,rfl⟩))
 rw[HBX.out]
 have k1:Bel w ((w.alloc (.cells #[.int .i64 17,.int .i64 A,.int .i64 B,.int .i64 imm] 89)).drewN nq):=bel_drewN (Bel.start _ _) nq
 have BR:Blk ((w.alloc (.cells #[.int .i64 17,.int .i64 A,.int .i64 B,.int .i64 imm] 89)).drewN nq) bx [.int .i64 17,.int .i64 A,.int .i64 B,.int .i64 imm] 89:=by rw[←HBX.out];exact(Blk.new w _ _).bel (bel_drewN (Bel.refl _) nq)
 have hsz:((w.alloc (.cells #[.int .i64 17,.int .i64 A,.int .i64 B,.int .i64 imm] 89)).drewN nq).heap.size=bx+1:=by rw[←HBX.out];exact Array.size_push ..
 generalize (w.alloc (.cells #[.int .i64 17,.int .i64 A,.int .i64 B,.int .i64 imm] 89)).drewN nq=w1 at *
 have k2:Bel w1 (w1.alloc (.cells #[.int .u8 0,.int .u8 0,.int .u8 0,.int .u8 0,.int .u8 0,.int .u8 0,.int .u8 0,.int .u8 0] 5)):=Bel.start _ _
 have BG:Blk (w1.alloc (.cells #[.int .u8 0,.int .u8 0,.int .u8 0,.int .u8 0,.int .u8 0,.int .u8 0,.int .u8 0,.int .u8 0] 5)) w1.heap.size (rowOf (λ_=>0) 8) 5:=Blk.new w1 _ _
 rw[hsz]at BG
 generalize w1.alloc (.cells #[.int .u8 0,.int .u8 0,.int .u8 0,.int .u8 0,.int .u8 0,.int .u8 0,.int .u8 0,.int .u8 0] 5)=w2 at *
 have KW:=xh (k1.tr k2)
 have e1:w2.cell? ⟨bx,1,none⟩=some (.int .i64 A):=cell_bel k2 (BR.cell 1)
 have eA:w2.cell? ⟨b,o+6+A,none⟩=some (.int .u64 ra):=by rw[←HRA.out];exact cell_bel KW.out (HC.out.cellR A hA)
 have e22:w2.cell? ⟨b,o+22,none⟩=some pv:=cell_bel KW.out c22
 have HBG:=xh BG
 have hle:b<w2.heap.size:=World.block_lt_of_cell? _ _ e22
 clear k1 k2 BR BG hsz c22 hr hpl
 go_still_tail 8,(by kernel_rfl)
 change wpList _ _ _ _ _ w2.drew
 have HPT:=xh (putR_any (bx+1) 0 8 (λ_=>0) 5 8 ra w2.drew (HBG.out.bel (Bel.drew (Bel.refl _))) (by omega) (by omega) ura.1 ura.2)
 go_upto_region 17 with((go_at_call 123;refine Calls.mono HPT.out ?_;rintro e3 w3 ⟨rfl,hB3,hk3⟩;have H3:=xh (And.intro hB3 hk3);clear hB3 hk3))
 have hne1:b≠bx+1:=by have:=HC.out.blk.lt;have:=HBX.out;omega
 have m22:w3.cell? ⟨b,o+22,none⟩=some pv:=(H3.out.2.cell ⟨b,o+22,none⟩ hle hne1).trans e22
 go_still_tail 8,(by kernel_rfl)
 change wpList _ _ _ _ _ w3.drew
 have kall:Keep (λq=>q=bx+1) w w3.drew:=((Keep.of_bel _ (KW.out.tr (Bel.drew (Bel.refl _)))).tr H3.out.2).tr (Keep.of_bel _ (Bel.drew (Bel.refl _)))
 have hpv1:pv.ownBlock≠some (bx+1):=λe=>by
  obtain⟨cs,hb⟩:=HC.out.pgs.blk e HNN.out
  have:=hb.lt
  have:=HBX.out
  omega
 have HCK:=xh (HC.out.keep kall hne1 (λg hg e=>hpv1 (by have e:g=bx+1:=e;rw[hg,e])))
 have HPK:Hid (Calls Tryz.prog 131 #[pv,.int .u64 (u64 (rv+u64 imm)),.slice (some ⟨bx+1,0,none⟩) 1 8] w3.drew λe w'=>e=.returned (.tuple #[])∧PgW w' pv (pagesOf perm (pokeM c.M an ((bytes8F ra).take 1)))∧Keep (λq=>pv.ownBlock=some q) w3.drew w'):=xh (by
  rw[HAN.out.2.1]
  exact pokeD_any pv perm c.M an ((bytes8F ra).take 1) (bx+1) 8 w3.drew HCK.out.pgs HCK.out.mem HCK.out.lo HCK.out.pr HAN.out.1 ((bts_take1 (bts_put ra ura H3.out.1)).of_cell λ_ _=>rfl) hpv1 HPM.out)
 go_wp2_with ((go_at_call 131;refine Calls.mono HPK.out ?_;rintro e4 w4 ⟨rfl,hp4,hk4⟩;have H4:=xh (And.intro hp4 hk4);clear hp4 hk4))
 go_ret
 have hb4:¬pv.ownBlock=some b:=HNE.out
 refine⟨rfl,?_,(Keep.tr (kall.mono (S':=λq=>pv.ownBlock=some q∨q=bx+1) λq hq=>.inr hq) (H4.out.2.mono λq hq=>.inl hq)).mono_old λq hq hlt=>?_⟩
 ·rw[HAN.out.2.2,HRA.out]
  exact⟨HCK.out.blk.keep H4.out.2 hb4,HCK.out.len,HCK.out.c5,HCK.out.reg,HCK.out.c22,H4.out.1,HCK.out.pc,HCK.out.regs,λa=>pokeM_byte HCK.out.mem (λx hx=>bytes8F_byte ura x (List.mem_of_mem_take hx)) a,HCK.out.lo,HCK.out.pr⟩
 ·rcases hq with h1|h1
  ·exact h1
  ·have:=HBX.out
   omega
structure ProcAtD (w:World) (kb b at_ n cap:Nat) (pid:Int) (cs:List Value):Prop where
 row:w.cell? ⟨kb,5,none⟩=some (.slice (some ⟨b,0,none⟩) n cap)
 lt:at_<n
 few:n≤1000
 call:∀W,Bel w W→Calls Tryz.prog 20 #[.pointer (some ⟨kb,0,none⟩),.int .i64 pid] W λe w'=>e=.returned (.int .i64 at_)∧W=w'
 st:cs[at_*31+2]?=some (.int .i64 0)
theorem ProcAtD.bel {w w':World} {kb b at_ n cap:Nat} {pid:Int} {cs:List Value} (h:ProcAtD w kb b at_ n cap pid cs) (k:Bel w w'):ProcAtD w' kb b at_ n cap pid cs:=
 ⟨cell_bel k h.row,h.lt,h.few,λW hW=>h.call W (k.tr hW),h.st⟩
def Rest (o:Nat) (cs cs':List Value):Prop:=cs'.length=cs.length∧∀j,(j<o+5∨o+22≤j)→cs'[j]?=cs[j]?
theorem Rest.refl (o:Nat) (cs:List Value):Rest o cs cs:=⟨rfl,λ_ _=>rfl⟩
theorem Rest.set {o:Nat} {cs cs':List Value} (h:Rest o cs cs') (j:Nat) (v:Value) (h1:o+5≤j) (h2:j<o+22):Rest o cs (cs'.set j v):=
 ⟨by rw[List.length_set];exact h.1,λi hi=>by rw[List.getElem?_set_ne (by omega)];exact h.2 i hi⟩
def OwnD (b:Nat) (pv:Value) (q:Nat):Prop:=q=b∨pv.ownBlock=some q
def StepDRes (b o:Nat) (cs:List Value) (perm:Nat→Option Int) (c':Cpu) (pv:Value) (w:World) (e:Ending) (w':World):Prop:=
 e=.returned (.int .i64 0)∧(∃cs',DCpu w' b o cs' perm c' pv∧Rest o cs cs')∧Keep (OwnD b pv) w w'
theorem ownD_b (b o:Nat) (pv:Value) (w:World) (v:Value):Keep (OwnD b pv) w (w.setCell ⟨b,o,none⟩ v):=(Keep.setCell w b o v).mono λ_ hq=>.inl hq
theorem jmpF_U (op:Nat) (pc a b imm:Int) (ha:U a):U (jmpF op pc a b imm):=by
 unfold jmpF
 split
 ·exact ha
 ·split
  ·exact U_u64 _
  ·exact U_u64 _
theorem stepD_fetch (kb b at_ n cap:Nat) (pid:Int) (cs:List Value) (perm:Nat→Option Int) (c:Cpu) (pv:Value) (k:Nat) (w:World) (hp:ProcAtD w kb b at_ n cap pid cs) (h:DCpu w b (at_*31) cs perm c pv) (h0:0<k) (hk:k≤255) (hnx:∀W,DCpu W b (at_*31) cs perm c pv→Calls Tryz.prog 21 #[.pointer (some ⟨b,at_*31,none⟩)] W λe w'=>e=.returned (.tuple #[.agg zInsR.toArray,.int .i64 k])∧Bel W w')
 (Q:World→Prop) (he:∀W,Bel w W→Calls Tryz.prog 88 #[.pointer (some ⟨kb,0,none⟩),.int .i64 pid,.int .i64 k] W λe w'=>e=.returned (.tuple #[])∧Q w') :
 Calls Tryz.prog 52 #[.pointer (some ⟨kb,0,none⟩),.int .i64 pid] w λe w'=>e=.returned (.int .i64 0)∧Q w':=by
 have HC:=xh h
 have HP:=xh hp
 have HNX:=xh hnx
 have HE:=xh he
 have hat:=hp.lt
 have hfew:=hp.few
 have hat0:¬(at_:Int)<0:=by omega
 have hat1:(0:Int)≤at_:=by omega
 have hat2:(at_:Int)<n:=by omega
 have hk0:(0:Int)<k:=by omega
 have c5:=hp.row
 have cst:w.cell? ⟨b,at_*31+2,none⟩=some (.int .i64 0):=by rw[h.blk.cell];exact hp.st
 clear h hp hnx hat hfew he h0 hk
 go_enter Tryz.func52,Tryz.ntmps52
 go_wp2_with (first
  | (go_at_call 20;((with_reducible refine Calls.mono (HP.out.call _ (Bel.refl _)) ?_);rintro e2 w2 ⟨rfl,rfl⟩))
  | (go_at_call 21;((with_reducible refine Calls.mono (HNX.out _ HC.out) ?_);rintro e3 w3 ⟨rfl,k3⟩;have H3:=xh k3;clear k3))
  | (go_at_call 88;((with_reducible refine Calls.mono (HE.out _ (H3.out.ac _)) ?_);rintro e5 w5 ⟨rfl,hq⟩;have HQ:=xh hq;clear hq)))
 go_ret
 exact⟨rfl,HQ.out⟩
theorem stepD_badG (op:Nat) (ho:op=14∨op=15∨op=16∨op=17) (kb b at_ n cap:Nat) (pid:Int) (cs:List Value) (perm:Nat→Option Int) (c:Cpu) (pv:Value) (A B:Nat) (imm:Int) (w:World) (hp:ProcAtD w kb b at_ n cap pid cs) (h:DCpu w b (at_*31) cs perm c pv) (hA:A<16) (hB:B<16) (hm:mayB (pagesOf perm c.M) (memA c B imm) (memN op) (memK op)=false) (hnx:(∀W,DCpu W b (at_*31) cs perm c pv→Calls Tryz.prog 21 #[.pointer (some ⟨b,at_*31,none⟩)] W λe w'=>e=.returned (.tuple #[insR op A B imm,.int .i64 0])∧Bel W w'))
 (Q:World→Prop) (he:∀W,Bel w W→Calls Tryz.prog 88 #[.pointer (some ⟨kb,0,none⟩),.int .i64 pid,.int .i64 131] W λe w'=>e=.returned (.tuple #[])∧Q w') :
 Calls Tryz.prog 52 #[.pointer (some ⟨kb,0,none⟩),.int .i64 pid] w λe w'=>e=.returned (.int .i64 0)∧Q w':=by
 have hA0:(0:Int)≤A:=by omega
 have hA1:(A:Int)<16:=by omega
 have hB0:(0:Int)≤B:=by omega
 have hB1:(B:Int)<16:=by omega
 have HC:=xh h
 have HP:=xh hp
 have HNX:=xh hnx
 have hat:=hp.lt
 have hfew:=hp.few
 have hat0:¬(at_:Int)<0:=by omega
 have hat1:(0:Int)≤at_:=by omega
 have hat2:(at_:Int)<n:=by omega
 have c5:=hp.row
 have cst:w.cell? ⟨b,at_*31+2,none⟩=some (.int .i64 0):=by rw[h.blk.cell];exact hp.st
 obtain⟨ra,hra⟩:∃ra,c.regs.getD A 0=ra:=⟨_,rfl⟩
 obtain⟨rb,hrb⟩:∃rb,c.regs.getD B 0=rb:=⟨_,rfl⟩
 obtain⟨pc,hpc⟩:∃pc,c.pc=pc:=⟨_,rfl⟩
 have ua:=h.regU A
 have ub:=h.regU B
 rw[hra]at ua
 rw[hrb]at ub
 have HRA:=xh hra
 have HRB:=xh hrb
 have HPC:=xh hpc
 have hwp:IntKind.wrap .u64 (pc+4)=u64 (pc+4):=rfl
 have HAL:Hid (∀W,Calls Tryz.prog 100 #[insR op A B imm,.int .u64 ra,.int .u64 rb] W λe w'=>e=.returned (.tuple #[.int .u64 0,.bool false])∧Bel W w'):=xh λW=>(aluD_any op A B imm ra rb W (by omega) (by omega) ua ub).mono λe w' h=>⟨h.1.trans (by unfold aluR;rw[if_neg (by omega),decide_eq_false (by omega)]),h.2⟩
 have HME:Hid (∀W,DCpu W b (at_*31) cs perm c pv→Calls Tryz.prog 101 #[.pointer (some ⟨b,at_*31,none⟩),insR op A B imm] W λe w'=>e=.returned (.bool false)∧Bel W w'):=xh λW hW=>memD_bad b (at_*31) cs perm c pv op A B imm W hW ho hB hm
 have HE:=xh he
 have ho13:14≤op:=by omega
 have ho14:(14:Int)≤op:=by omega
 have ho17:op≤17:=by omega
 have ho18:(op:Int)≤17:=by omega
 have ho22:((op:Int)==22)=false:=beq_eq_false_iff_ne.2 (by omega)
 have ho24:((op:Int)==24)=false:=beq_eq_false_iff_ne.2 (by omega)
 clear hm he ho
 clear h hp hnx hra hrb hpc hat hfew
 go_enter Tryz.func52,Tryz.ntmps52
 go_upto_region 11 with(first
  | (go_at_call 20;((with_reducible refine Calls.mono (HP.out.call _ (Bel.refl _)) ?_);rintro e2 w2 ⟨rfl,rfl⟩))
  | (go_at_call 21;((with_reducible refine Calls.mono (HNX.out _ HC.out) ?_);rintro e3 w3 ⟨rfl,k3⟩;have H3:=xh k3;clear k3)))
 have k4:Bel w (w3.alloc (.cells #[.int .i64 op,.int .i64 A,.int .i64 B,.int .i64 imm] 89)):=H3.out.ac _
 have BI:Blk (w3.alloc (.cells #[.int .i64 op,.int .i64 A,.int .i64 B,.int .i64 imm] 89)) w3.heap.size [.int .i64 op,.int .i64 A,.int .i64 B,.int .i64 imm] 89:=Blk.new w3 _ _
 have hws:w.heap.size≤w3.heap.size:=H3.out.size
 generalize w3.alloc (.cells #[.int .i64 op,.int .i64 A,.int .i64 B,.int .i64 imm] 89)=w4 at *
 obtain⟨bx,hbx⟩:∃bx,w3.heap.size=bx:=⟨_,rfl⟩
 rw[hbx]at BI hws⊢
 have K4:=xh k4
 have HBI:=xh BI
 have HWS:=xh hws
 have FX:Hid (∀W,Bel w4 W→W.cell? ⟨bx,0,none⟩=some (.int .i64 op)∧W.cell? ⟨bx,1,none⟩=some (.int .i64 A)∧W.cell? ⟨bx,2,none⟩=some (.int .i64 B)∧W.cell? ⟨bx,3,none⟩=some (.int .i64 imm)):=xh λW hW=>⟨(HBI.out.bel hW).cell 0,(HBI.out.bel hW).cell 1,(HBI.out.bel hW).cell 2,(HBI.out.bel hW).cell 3⟩
 have FP:Hid (∀W,Bel w4 W→W.cell? ⟨b,at_*31+5,none⟩=some (.int .u64 pc)∧W.cell? ⟨b,at_*31+6+A,none⟩=some (.int .u64 ra)∧W.cell? ⟨b,at_*31+6+B,none⟩=some (.int .u64 rb)):=xh λW hW=>by
  have h4:=HC.out.bel (K4.out.tr hW)
  refine⟨?_,?_,?_⟩
  ·rw[←HPC.out];exact h4.cell5
  ·rw[←HRA.out];exact h4.cellR A hA
  ·rw[←HRB.out];exact h4.cellR B hB
 clear c5 cst k4 BI hws hbx
 obtain⟨i0,i1,i2,i3⟩:=FX.out w4 (Bel.refl _)
 obtain⟨p5,pA,pB⟩:=FP.out w4 (Bel.refl _)
 go_quiet (fail)
 clear i0 i1 i2 i3 p5 pA pB
 have k5:Bel w4 (w4.drewN nq):=bel_drewN (Bel.refl _) nq
 obtain⟨i0,i1,i2,i3⟩:=FX.out _ k5
 obtain⟨p5,pA,pB⟩:=FP.out _ k5
 generalize w4.drewN nq=w5 at *
 have K5:=xh k5
 clear k5 nq
 go_upto_region 12 with fail
 go_quiet (fail)
 clear i0 i1 i2 i3 p5 pA pB
 have k6:Bel w4 (w5.drewN nq):=bel_drewN K5.out nq
 obtain⟨i0,i1,i2,i3⟩:=FX.out _ k6
 obtain⟨p5,pA,pB⟩:=FP.out _ k6
 generalize w5.drewN nq=w6 at *
 have K6:=xh k6
 clear k6 nq K5 w5
 go_upto_region 22 with(go_at_call 100;((with_reducible refine Calls.mono (HAL.out _) ?_);rintro e7 w7 ⟨rfl,k7⟩;have K7:=xh (K6.out.tr k7);clear i0 i1 i2 i3 p5 pA pB k7;obtain⟨i0,i1,i2,i3⟩:=FX.out _ K7.out;obtain⟨p5,pA,pB⟩:=FP.out _ K7.out))
 go_wp2_with (first
  | (go_at_call 101;((with_reducible refine Calls.mono (HME.out _ (HC.out.bel (K4.out.tr K7.out))) ?_);rintro e8 w8 ⟨rfl,hk8⟩;have H8:=xh hk8;clear hk8))
  | (go_at_call 88;((with_reducible refine Calls.mono (HE.out _ ((K4.out.tr K7.out).tr H8.out)) ?_);rintro e9 w9 ⟨rfl,hq⟩;have HQ:=xh hq;clear hq)))
 go_ret
 exact⟨rfl,HQ.out⟩
end Go.Proofs.YtjdaddmjpicflaaGreatDoor
