/- The document's Used. -/
import Derived.Laws.ResultCell
import Derived.Deep.RegionHeld3
import Derived.Deep.DeepCutAuto
import Derived.StillTailTactics
import Derived.Test.YtjdaddmjpicflaaGreatDoorP08
import Derived.Test.YtjdaddmjpicflaaGreatDoorP03
import Derived.Test.YtjdaddmjpicflaaGreatDoorP09
set_option linter.unusedVariables false
set_option linter.unusedSimpArgs false
set_option maxRecDepth 100000
set_option maxHeartbeats 16000000
namespace Go.Proofs.YtjdaddmjpicflaaGreatDoor
open Go.RowKit
def usedC (a b c d e:Nat):List Value:=[.int .i64 a,.int .i64 b,.int .i64 c,.int .i64 d,.int .i64 e]
def byts (L:List Nd):List Nat:=L.map λn=>n.byt.length
theorem take_sum:∀(l:List Nat) (k:Nat) (h:k<l.length),(l.take (k+1)).sum=(l.take k).sum+l[k]
 | x::l,0,_=>by simp
 | x::l,k+1,h=>by
   have:=take_sum l k (by simpa using h)
   simp only[List.take_succ_cons,List.sum_cons,List.getElem_cons_succ]at this⊢
   omega
theorem take_sum_le:∀(l:List Nat) (k:Nat),(l.take k).sum≤l.sum
 | [],k=>by simp
 | x::l,0=>by simp
 | x::l,k+1=>by have:=take_sum_le l k;simp;omega
theorem used_any (kb g cap:Nat) (L:List Nd) (w:World) (ht:TreeAt w kb g cap L) (PL:List Nat) (pp po:Option Addr) (pc no oc:Nat)
 (hp:w.cell? ⟨kb,5,none⟩=some (.slice pp PL.length pc)) (hpc:PL.length≤pc) (hP:∀i n,PL[i]?=some n→∃gp q c,pp=some ⟨gp,0,none⟩∧w.cell? ⟨gp,i*31+22,none⟩=some (.slice q n c))
 (ho:w.cell? ⟨kb,6,none⟩=some (.slice po no oc)) (hby:∀n∈L,∃q c,n.bv=.slice q n.byt.length c) (h1:PL.sum≤1000000) (h2:(byts L).sum≤1000000) (h3:PL.length≤1000000) (h4:L.length≤1000000) (h5:no≤1000000) :
 Calls Tryz.prog 62 #[.pointer (some ⟨kb,0,none⟩)] w λe w'=>e=.returned (.agg (usedC PL.length PL.sum no L.length (byts L).sum).toArray)∧Bel w w':=by
 have HT:=xh ht
 have HP:=xh hP
 have HBY:=xh hby
 have ht7:=ht.1
 clear ht hP hby
 go_enter Tryz.func62,Tryz.ntmps62
 go_upto_region 1 with fail
 have k1:Bel w (w.alloc (.cells (usedC 0 0 0 0 0).toArray 70)):=Bel.start w _
 have B1:=Blk.new w (usedC 0 0 0 0 0) 70
 change Code.wp _ _ _ _ (w.alloc (.cells (usedC 0 0 0 0 0).toArray 70))
 generalize w.alloc (.cells (usedC 0 0 0 0 0).toArray 70)=w1 at *
 have c5:=cell_bel k1 hp
 have c6:=cell_bel k1 ho
 have c7:=cell_bel k1 ht7
 have HB1:=xh B1
 have HK1:=xh k1
 have hz1:=k1.size
 have hr1:=B1.lt
 clear k1 B1
 generalize hre:w.heap.size=r at *
 have HRE:=xh hre
 clear hre
 go_cut [3] (λs3 wx=>∃g3:Nat,s3=.pointer (some ⟨g3,0,none⟩)∧Hid (Blk wx g3 (usedC PL.length 0 no L.length 0) 70)∧Hid (Bel w1 wx)∧Hid (r<g3))
 case first=>
  have l5:=World.block_lt_of_cell? _ _ c5
  go_region_held3 (λw'=>w'.cell? ⟨kb,5,none⟩=some (.slice pp PL.length pc)∧w'.cell? ⟨kb,6,none⟩=some (.slice po no oc)∧w'.cell? ⟨kb,7,none⟩=some (.slice (some ⟨g,0,none⟩) L.length cap)) (first|(go_keep;done)) (fail)
  go_wp2_with fail
  go_meet
  exact⟨w1.heap.size,rfl,xh (Blk.new w1 _ _),xh ((Bel.start w1 _).drew),xh hr1⟩
 case rest=>
  obtain⟨g3,rfl,B3,k3,hrg⟩:=hcut
  have HK3:=xh (HK1.out.tr k3.out)
  have HB3:=xh B3.out
  have HBR:=xh (HB1.out.bel k3.out)
  have hl3:=B3.out.lt
  have c5c:=cell_bel k3.out c5
  have c7c:=cell_bel k3.out c7
  clear c5 c6 c7 B3 k3 hr1
  have hk5:kb<w.heap.size:=World.block_lt_of_cell? _ _ hp
  have hne:∀W,Keep (λq=>q=g3) wc W→W.cell? ⟨kb,5,none⟩=some (.slice pp PL.length pc)∧W.cell? ⟨kb,7,none⟩=some (.slice (some ⟨g,0,none⟩) L.length cap):=λW hW=>by
   have hz:=HRE.out
   have hgg:=hrg.out
   have hz2:=HK3.out.size
   constructor
   ·rw[hW.cell ⟨kb,5,none⟩ (by show kb<_;omega) (by show kb≠g3;omega)];exact c5c
   ·rw[hW.cell ⟨kb,7,none⟩ (by show kb<_;omega) (by show kb≠g3;omega)];exact c7c
  have HNE:=xh hne
  clear hne c5c c7c
  go_wp2_with fail
  go_loopw [4] (λi wr=>∃k:Nat,k≤PL.length∧i=.int .i64 k∧Blk wr g3 (usedC PL.length (PL.take k).sum no L.length 0) 70∧Keep (λq=>q=g3) wc wr) (λi _=>PL.length-(intOf i).toNat)
  case atStart=>exact⟨0,Nat.zero_le _,rfl,HB3.out,Keep.refl _ _⟩
  case round=>
   obtain⟨k,hk,rfl,hB,hkr⟩:=hrel
   obtain⟨c5,c7⟩:=HNE.out wr hkr
   have HBK:=xh hB
   have HKR:=xh hkr
   have hlr:=hB.lt
   clear hB hkr
   by_cases hlt:k<PL.length
   ·obtain⟨gp,q,c,rfl,hcp⟩:=HP.out k PL[k] (List.getElem?_eq_getElem hlt)
    have hts:=take_sum PL k hlt
    have hle:=take_sum_le PL (k+1)
    have hgpl:=World.block_lt_of_cell? _ _ hcp
    have c22:wr.cell? ⟨gp,k*31+22,none⟩=some (.slice q PL[k] c):=by
     have hz:=HRE.out
     have hgg:=hrg.out
     have hz2:=HK3.out.size
     simp at hgpl
     rw[HKR.out.cell ⟨gp,k*31+22,none⟩ (by show gp<_;omega) (by show gp≠g3;omega)]
     exact cell_bel HK3.out hcp
    have HTS:Hid ((PL.take (k+1)).sum=(PL.take k).sum+PL[k]):=xh hts
    have hbn:(PL.take k).sum+PL[k]≤1000000:=by omega
    generalize PL[k]=n at *
    have c31:wr.cell? ⟨g3,1,none⟩=some (.int .i64 (((PL.take k).sum:Nat):Int)):=HBK.out.cell 1
    have f3:=HBK.out.frozen
    generalize (PL.take k).sum=sm at *
    have hwr:IntKind.i64.wrap ((sm:Int)+(n:Int))=(sm:Int)+(n:Int):=by rw[IntKind.wrap_i64];omega
    clear hts hle hcp hgpl hbn
    go_upto_region 5 with fail
    go_still_tail 13,(by kernel_rfl)
    change wpList _ _ _ _ _ wr.drew
    have BD:=HBK.out.bel (Bel.drew (Bel.refl wr))
    have kd:Bel wr wr.drew:=Bel.drew (Bel.refl _)
    generalize wr.drew=wd at *
    have HKD:=xh (HKR.out.tr (Keep.of_bel _ kd))
    have HBD:=xh BD
    have c31:wd.cell? ⟨g3,1,none⟩=some (.int .i64 (sm:Int)):=BD.cell 1
    have f3:=BD.frozen
    have hld:=BD.lt
    clear kd BD c22 c5 c7 hwr
    go_wp2
    go_roundw
    case rel=>exact⟨k+1,by omega,by go_num,by
     have:=HBD.out.setCell (o:=1) (.int .i64 ((sm:Int)+(n:Int)))
     rw[HTS.out]
     simpa [usedC]using this,HKD.out.tr (Keep.setCell _ _ _ _)⟩
    case measure=>simp[intOf]<;>omega
   ·obtain rfl:k=PL.length:=by omega
    rw[List.take_length]at HBK
    go_wp2_with fail
    clear c5 c7 hlr
    go_loopw [5] (λi wr=>∃k:Nat,k≤L.length∧i=.int .i64 k∧Blk wr g3 (usedC PL.length PL.sum no L.length ((byts L).take k).sum) 70∧Keep (λq=>q=g3) wc wr) (λi _=>L.length-(intOf i).toNat)
    case atStart=>exact⟨0,Nat.zero_le _,rfl,HBK.out,HKR.out⟩
    case round=>
     obtain⟨k,hk,rfl,hB,hkr⟩:=hrel
     obtain⟨c5,c7⟩:=HNE.out wr hkr
     have HBQ:=xh hB
     have HKQ:=xh hkr
     have hlq:=hB.lt
     clear hB hkr c5
     by_cases hlt:k<L.length
     ·obtain⟨q,c,hbv⟩:=HBY.out L[k] (List.getElem_mem hlt)
      have hcp:w.cell? ⟨g,k*5+4,none⟩=some (.slice q L[k].byt.length c):=by
       rw[←hbv]
       exact HT.out.2.2 k L[k] (List.getElem?_eq_getElem hlt) 4 _ rfl
      have hkb:k<(byts L).length:=by simpa [byts]using hlt
      have hts:=take_sum (byts L) k hkb
      have hle:=take_sum_le (byts L) (k+1)
      have hbe:(byts L)[k]=L[k].byt.length:=by simp[byts]
      have hgpl:=World.block_lt_of_cell? _ _ hcp
      have hcapl:=HT.out.2.1
      have c4:wr.cell? ⟨g,k*5+4,none⟩=some (.slice q L[k].byt.length c):=by
       have hz:=HRE.out
       have hgg:=hrg.out
       have hz2:=HK3.out.size
       simp at hgpl
       rw[HKQ.out.cell ⟨g,k*5+4,none⟩ (by show g<_;omega) (by show g≠g3;omega)]
       exact cell_bel HK3.out hcp
      rw[hbe]at hts
      have HTS:Hid (((byts L).take (k+1)).sum=((byts L).take k).sum+L[k].byt.length):=xh hts
      have hbn:((byts L).take k).sum+L[k].byt.length≤1000000:=by omega
      generalize L[k].byt.length=n at *
      have c34:wr.cell? ⟨g3,4,none⟩=some (.int .i64 ((((byts L).take k).sum:Nat):Int)):=HBQ.out.cell 4
      have f3:=HBQ.out.frozen
      generalize ((byts L).take k).sum=sm at *
      have hwr:IntKind.i64.wrap ((sm:Int)+(n:Int))=(sm:Int)+(n:Int):=by rw[IntKind.wrap_i64];omega
      clear hts hle hcp hgpl hbn hbe hkb hbv
      go_upto_region 9 with fail
      go_still_tail 13,(by kernel_rfl)
      change wpList _ _ _ _ _ wr.drew
      have BD:=HBQ.out.bel (Bel.drew (Bel.refl wr))
      have kd:Bel wr wr.drew:=Bel.drew (Bel.refl _)
      generalize wr.drew=wd at *
      have HKD:=xh (HKQ.out.tr (Keep.of_bel _ kd))
      have HBD:=xh BD
      have c34:wd.cell? ⟨g3,4,none⟩=some (.int .i64 (sm:Int)):=BD.cell 4
      have f3:=BD.frozen
      have hld:=BD.lt
      clear kd BD c4 c7 hwr hcapl
      go_wp2
      go_roundw
      case rel=>exact⟨k+1,by omega,by go_num,by
       have:=HBD.out.setCell (o:=4) (.int .i64 ((sm:Int)+(n:Int)))
       rw[HTS.out]
       simpa [usedC]using this,HKD.out.tr (Keep.setCell _ _ _ _)⟩
      case measure=>simp[intOf]<;>omega
     ·obtain rfl:k=L.length:=by omega
      have hbl:(byts L).length=L.length:=by simp[byts]
      have hbt:(byts L).take L.length=byts L:=by rw[←hbl,List.take_length]
      rw[hbt]at HBQ
      have hne2:r≠g3:=by have:=hrg.out;omega
      have HB2:Hid (Blk wr r (usedC 0 0 0 0 0) 70):=xh (HBR.out.keep HKQ.out hne2)
      clear hbt hbl hlq
      go_wp2_with (first
       | (refine wpList_load_mid rfl 70 (.tmp 3) rfl g3 0 rfl (usedC PL.length PL.sum no L.length (byts L).sum) _ (by have:=HBQ.out.range 0;simpa using this) Tryz.underlying70 rfl (by kernel_rfl) ?_)
       | (refine wpList_store_blk rfl 70 (.tmp 2) (.tmp 66) rfl rfl r (usedC PL.length PL.sum no L.length (byts L).sum) _ 70 HB2.out rfl rfl (by kernel_rfl) rfl (by intro v hv;simp[usedC]at hv;rcases hv with rfl|rfl|rfl|rfl|rfl<;>rfl) ?_;intro w5 B5 K5))
      have e0:w5.cell? ⟨r,0,none⟩=some (.int .i64 ((PL.length:Nat):Int)):=B5.out.cell 0
      have e1:w5.cell? ⟨r,1,none⟩=some (.int .i64 ((PL.sum:Nat):Int)):=B5.out.cell 1
      have e2:w5.cell? ⟨r,2,none⟩=some (.int .i64 ((no:Nat):Int)):=B5.out.cell 2
      have e3:w5.cell? ⟨r,3,none⟩=some (.int .i64 ((L.length:Nat):Int)):=B5.out.cell 3
      have e4:w5.cell? ⟨r,4,none⟩=some (.int .i64 (((byts L).sum:Nat):Int)):=B5.out.cell 4
      refine bodyPost_ret (v:=.agg (usedC PL.length PL.sum no L.length (byts L).sum).toArray) (by simp[results,Tryz.results62,go_sem,e0,e1,e2,e3,e4,usedC]) rfl ⟨rfl,?_⟩
      exact Below.trans HK3.out ((HKQ.out.below _ HK3.out.size (λq hq=>by have:=HRE.out;have:=hrg.out;omega)).trans (K5.below _ (Nat.le_trans HK3.out.size HKQ.out.size) (λq hq=>by have:=HRE.out;omega)))
structure DK (w:World) (kb:Nat) (s:KV) (iv:Value) (L:List Nd):Prop where
 blk:Blk w kb (s.cells iv L.length) 87
 row:w.ownsRow (kb+1) 138 5 iv L.length (ndCells 0 L)
 byts:∀n∈L,Rw w n.bv n.byt∧∀g,n.bv.ownBlock=some g→kb≤g
 few:L.length≤100000
 one:1≤L.length
theorem ndCells_get:∀(k i j:Nat) (L:List Nd) (n:Nd),L[i]?=some n→j<5→(ndCells k L)[i*5+j]?=(n.cells (k+i))[j]?
 | k,0,j,[],n,h,hj=>by simp at h
 | k,i+1,j,[],n,h,hj=>by simp at h
 | k,0,j,m::L,n,h,hj=>by
   simp at h
   subst h
   rw[ndCells,Nat.zero_mul,Nat.zero_add,List.getElem?_append_left (by simpa [Nd.cells]using hj)]
   simp
 | k,i+1,j,m::L,n,h,hj=>by
   have ih:=ndCells_get (k+1) i j L n (by simpa using h) hj
   rw[ndCells,List.getElem?_append_right (by simp[Nd.cells];omega),←show k+1+i=k+(i+1)from by omega,←ih]
   congr 1
   simp[Nd.cells]
   omega
theorem DK.tree {w:World} {kb:Nat} {s:KV} {iv:Value} {L:List Nd} (h:DK w kb s iv L):∃g cap,iv=.slice (some ⟨g,0,none⟩) L.length cap∧TreeAt w kb g cap L∧kb+1≤g:=by
 obtain⟨p,cap,hv,hn,_,hp⟩:=row_slice h.row
 have h1:=h.one
 obtain⟨g,rfl,hg,hgl,hc,_⟩:=hp.resolve_left (by omega)
 refine⟨g,cap,hv,⟨?_,hn,λi n hi j v hj=>?_⟩,hg⟩
 ·rw[←hv];exact h.blk.cell 7
 ·have hj5:j<5:=by have:=(List.getElem?_eq_some_iff.1 hj).1;simpa [Nd.cells]using this
  have hil:=(List.getElem?_eq_some_iff.1 hi).1
  rw[hc _ (by rw[ndCells_len];omega),ndCells_get 0 i j L n hi hj5,Nat.zero_add,hj]
theorem DK.bel {w w':World} {kb:Nat} {s:KV} {iv:Value} {L:List Nd} (h:DK w kb s iv L) (k:Bel w w'):DK w' kb s iv L:=
 ⟨h.blk.bel k,row_bel h.row k,λn hn=>⟨(h.byts n hn).1.bel k,(h.byts n hn).2⟩,h.few,h.one⟩
theorem DK.drew {w:World} {kb:Nat} {s:KV} {iv:Value} {L:List Nd} (h:DK w kb s iv L) (n:Nat):DK (w.drewN n) kb s iv L:=h.bel (bel_drewN (Bel.refl _) n)
def DStepRes (w:World) (kb:Nat) (s:KV) (r:Nat×List Nd) (e:Ending) (w':World):Prop:=
 e=.returned (.int .i64 (r.1:Nat))∧Keep (λq=>kb≤q) w w'∧(r.1=0→∃iv' L',sks L'=r.2∧DK w' kb s iv' L')
theorem DK.made {w w':World} {kb:Nat} {s:KV} {iv iv':Value} {L:List Nd} (h:DK w kb s iv L) (d:Nat) (nm:ByteArray) (is:Bool) (hfew:L.length+1≤100000) (hB:Blk w' kb (s.cells iv' (L.length+1)) 87)
 (hr:w'.ownsRow (kb+1) 138 5 iv' (L.length+1) (ndCells 0 (L++[⟨d,nm,is,[],emptyB⟩]))) (k:Keep (λq=>q=kb∨iv.ownBlock=some q) w w'):DK w' kb s iv' (L++[⟨d,nm,is,[],emptyB⟩]):=by
 have hl:(L++[(⟨d,nm,is,[],emptyB⟩:Nd)]).length=L.length+1:=by simp
 refine⟨by rw[hl];exact hB,by rw[hl];exact hr,λn hn=>?_,by rw[hl];exact hfew,by rw[hl];omega⟩
 rcases List.mem_append.1 hn with hn|hn
 ·refine⟨(h.byts n hn).1.keep k λg hg hs=>?_,(h.byts n hn).2⟩
  obtain⟨_,cur,hb⟩:=(h.byts n hn).1.lt hg
  rcases hs with rfl|hs
  ·exact hb.ne h.blk (by decide) rfl
  ·obtain⟨p,cap,hv,_,_,hp⟩:=row_slice h.row
   have h1:=h.one
   obtain⟨g',rfl,_,_,_,_⟩:=hp.resolve_left (by omega)
   rw[hv]at hs
   cases hs
   rcases h.row.2 with⟨h2,_⟩|⟨g2,c2,cur2,h2,_,h3,_⟩
   ·rw[hv]at h2;cases h2
   ·rw[hv]at h2
    cases h2
    exact hb.ne (show Blk w g' cur2.toList _ from by unfold Blk;simpa using h3) (by decide) rfl
 ·simp at hn
  subst hn
  exact⟨⟨(λx hx=>by cases hx),.inl ⟨rfl,rfl⟩⟩,λg hg=>by cases hg⟩
theorem sks_app (L M:List Nd):sks (L++M)=sks L++sks M:=by simp[sks]
theorem sks_len (L:List Nd):(sks L).length=L.length:=by simp[sks]
theorem mkdirD_any (kb:Nat) (s:KV) (iv:Value) (L:List Nd) (mi:Nat) (nm:ByteArray) (w:World) (h:DK w kb s iv L) (hd:s.d=mi) (hmi:mi≤100000) (hs:nm.size≤1000000) :
 Calls Tryz.prog 76 #[.pointer (some ⟨kb,0,none⟩),.string nm] w λe w'=>DStepRes w kb s (mkF mi (sks L) nm.data.toList) e w':=by
 obtain⟨g,cap,hiv,ht,hg⟩:=h.tree
 have hfew:=h.few
 have hw:=walk_any kb g cap L w ht nm hs (by omega)
 unfold mkF
 rw[docWalk_sk,sks_len]
 obtain⟨d,x,n,c,hr⟩:∃d x n c,docWalk L nm.data.toList=(d,x,n,c):=⟨_,_,_,_,rfl⟩
 rw[hr]at hw⊢
 simp only[walkV]at hw⊢
 have h0c:((0:Nat):Int)=0:=rfl
 have HW:=xh hw
 have HDK:=xh h
 have HIV:=xh hiv
 clear hw h hr hiv ht
 by_cases hc:c=0
 ·subst hc
  rw[h0c]at HW
  rw[if_neg (by simp)]
  by_cases hn:n=0
  ·subst hn
   rw[h0c]at HW
   rw[if_neg (by simp)]
   clear h0c
   by_cases hm:mi≤L.length
   ·rw[if_pos hm]
    go_enter Tryz.func76,Tryz.ntmps76
    go_upto_region 6 with(go_at_call 77;((with_reducible refine Calls.mono HW.out ?_);rintro e w1 ⟨rfl,k1⟩))
    have c7:w1.cell? ⟨kb,7,none⟩=some (.slice (some ⟨g,0,none⟩) L.length cap):=by rw[←HIV.out];exact(HDK.out.bel k1).blk.cell 7
    have c3:w1.cell? ⟨kb,3,none⟩=some (.int .i64 (mi:Int)):=by rw[←hd];exact(HDK.out.bel k1).blk.cell 3
    go_quiet (fail)
    go_wp2
    go_ret
    exact⟨rfl,Keep.of_bel _ (bel_drewN k1 nq),λh=>by cases h⟩
   ·rw[if_neg hm]
    have HM:=xh λiv L' (W:World) hB hr=>make_any kb s iv L' W hB hr d x true
    have hml:L.length<mi:=by omega
    have HAPP:Hid (sks (L++[⟨d,x,true,[],emptyB⟩])=sks L++[⟨d,x,true,[],emptyB⟩]):=xh (by rw[sks_app];rfl)
    go_enter Tryz.func76,Tryz.ntmps76
    go_upto_region 6 with(go_at_call 77;((with_reducible refine Calls.mono HW.out ?_);rintro e w1 ⟨rfl,k1⟩))
    have c7:w1.cell? ⟨kb,7,none⟩=some (.slice (some ⟨g,0,none⟩) L.length cap):=by rw[←HIV.out];exact(HDK.out.bel k1).blk.cell 7
    have c3:w1.cell? ⟨kb,3,none⟩=some (.int .i64 (mi:Int)):=by rw[←hd];exact(HDK.out.bel k1).blk.cell 3
    have HK1:=xh k1
    clear k1
    go_quiet (fail)
    have kd:Bel w1 (w1.drewN nq):=bel_drewN (Bel.refl _) nq
    generalize w1.drewN nq=wd at *
    have HKD:=xh (HK1.out.tr kd)
    have HDD:=xh (HDK.out.bel HKD.out)
    clear kd c7 c3
    go_wp2_with (go_at_call 78;((with_reducible refine Calls.mono (HM.out iv L wd HDD.out.blk HDD.out.row hfew) ?_);rintro e w2 ⟨rfl,iv',B2,R2,K2⟩))
    go_ret
    exact⟨rfl,(Keep.of_bel _ HKD.out).tr (K2.mono λq hq=>by
     rcases hq with rfl|hq
     ·exact Nat.le_refl _
     ·rw[HIV.out]at hq;cases hq;show kb≤g;omega),λ_=>⟨iv',_,HAPP.out,HDD.out.made d x true (by omega) B2 R2 K2⟩⟩
  ·rw[if_pos hn]
   have hnb:((n:Int)==0)=false:=beq_eq_false_iff_ne.2 (by omega)
   clear hn
   go_enter Tryz.func76,Tryz.ntmps76
   go_wp2_with (go_at_call 77;((with_reducible refine Calls.mono HW.out ?_);rintro e w1 ⟨rfl,k1⟩))
   go_ret
   exact⟨rfl,Keep.of_bel _ k1,λh=>by cases h⟩
 ·rw[if_pos hc]
  have hcb:((c:Int)==0)=false:=beq_eq_false_iff_ne.2 (by omega)
  have HC:=xh hc
  clear hc
  go_enter Tryz.func76,Tryz.ntmps76
  go_wp2_with (go_at_call 77;((with_reducible refine Calls.mono HW.out ?_);rintro e w1 ⟨rfl,k1⟩))
  go_ret
  exact⟨rfl,Keep.of_bel _ k1,λh=>absurd h HC.out⟩
end Go.Proofs.YtjdaddmjpicflaaGreatDoor
