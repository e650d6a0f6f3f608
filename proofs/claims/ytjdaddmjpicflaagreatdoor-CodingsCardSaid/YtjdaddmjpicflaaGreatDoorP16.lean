/- The document's file: one of Boot's files. -/
import Derived.Test.YtjdaddmjpicflaaGreatDoorP10
import Derived.Test.YtjdaddmjpicflaaGreatDoorP11
import Derived.Test.YtjdaddmjpicflaaGreatDoorP12
import Derived.Test.YtjdaddmjpicflaaGreatDoorP13
import Derived.Test.YtjdaddmjpicflaaGreatDoorP14
import Derived.Test.YtjdaddmjpicflaaGreatDoorP15
set_option linter.unusedVariables false
set_option linter.unusedSimpArgs false
set_option maxRecDepth 100000
set_option maxHeartbeats 16000000
namespace Go.Proofs.YtjdaddmjpicflaaGreatDoor
open Go.RowKit
theorem BS.keep_at0 {w w':World} {S:Nat→Prop} {p:Option Addr} {L:List Int} (h:BS w p L) (k:Keep S w w') (hs:0<L.length→∀b o,p=some ⟨b,o,none⟩→¬S b):BS w' p L:=
 ⟨h.1,λh0=>by
   obtain⟨b,o,h1,h2,h3⟩:=h.2 h0
   exact⟨b,o,h1,Nat.lt_of_lt_of_le h2 k.size,h3.keep k (λ_=>hs h0 b o h1)⟩⟩
theorem row_set {w:World} {base g cap n size j:Nat} {e:TypeId} {xs:List Value} (h:w.ownsRow base e size (.slice (some ⟨g,0,none⟩) n cap) n xs) (hj:j<xs.length) (v:Value):(w.setCell ⟨g,j,none⟩ v).ownsRow base e size (.slice (some ⟨g,0,none⟩) n cap) n (xs.set j v):=by
 refine⟨by rw[List.length_set];exact h.1,?_⟩
 rcases h.2 with⟨h2,_⟩|⟨g2,c2,cur,h2,hg,hb,hn,hc,hs,ht⟩
 ·cases h2
 ·cases h2
  refine .inr ⟨g,cap,cur.setIfInBounds j v,rfl,hg,?_,hn,hc,by simpa using hs,?_⟩
  ·simp only[World.setCell,Array.getElem?_modify,hb]
   simp
  ·rw[Array.toList_setIfInBounds,←ht,List.take_set]
theorem ndCells_set:∀(k i:Nat) (L:List Nd) (x:Nd) (bv:Value) (B:List Int),L[i]?=some x→ndCells k (L.set i {x with byt:=B,bv:=bv})=(ndCells k L).set (i*5+4) bv
 | k,i,[],x,bv,B,h=>by simp at h
 | k,0,n::L,x,bv,B,h=>by
   simp at h
   subst h
   rfl
 | k,i+1,n::L,x,bv,B,h=>by
   have ih:=ndCells_set (k+1) i L x bv B (by simpa using h)
   rw[List.set_cons_succ,ndCells,ndCells,ih,show(i+1)*5+4=(n.cells k).length+(i*5+4)from by simp[Nd.cells];omega,List.set_append_right _ _ (by omega)]
   simp
theorem sks_set (L:List Nd) (i:Nat) (x:Nd) (bv:Value) (B:List Int):sks (L.set i {x with byt:=B,bv:=bv})=(sks L).set i {x.sk with byt:=B}:=by
 unfold sks;rw[List.map_set];rfl
theorem sumB_sks (L:List Nd):sumB (sks L)=(byts L).sum:=by
 unfold sumB sks byts
 rw[List.map_map];rfl
theorem DK.setB {w:World} {kb:Nat} {s:KV} {iv:Value} {L:List Nd} {g cap i:Nat} {x:Nd} {bv:Value} {B:List Int} (h:DK w kb s iv L) (hiv:iv=.slice (some ⟨g,0,none⟩) L.length cap) (hx:L[i]?=some x) (hr:Rw w bv B) (hg:∀q,bv.ownBlock=some q→kb≤q) :
 DK (w.setCell ⟨g,i*5+4,none⟩ bv) kb s iv (L.set i {x with byt:=B,bv:=bv}):=by
 have hil:=(List.getElem?_eq_some_iff.1 hx).1
 have hgb:∃cur,Blk w g cur 138:=by
  rcases h.row.2 with⟨h2,_⟩|⟨g2,c2,cur,h2,_,hb,_⟩
  ·rw[hiv]at h2;cases h2
  ·rw[hiv]at h2;cases h2
   exact⟨cur.toList,by unfold Blk;simpa using hb⟩
 obtain⟨cur,hgb⟩:=hgb
 have hk:Keep (λq=>q=g) w (w.setCell ⟨g,i*5+4,none⟩ bv):=Keep.setCell w g _ _
 refine⟨?_,?_,λn hn=>?_,by simpa using h.few,by simpa using h.one⟩
 ·rw[List.length_set]
  exact h.blk.keep hk (λe=>hgb.ne h.blk (by decide) e.symm)
 ·rw[ndCells_set 0 i L x bv B hx,List.length_set]
  have:=h.row
  rw[hiv]at this⊢
  exact row_set this (by rw[ndCells_len];omega) bv
 ·rcases List.mem_or_eq_of_mem_set hn with hn|rfl
  ·refine⟨(h.byts n hn).1.keep hk λq hq e=>?_,(h.byts n hn).2⟩
   subst e
   obtain⟨_,c2,hb⟩:=(h.byts n hn).1.lt hq
   exact hb.ne hgb (by decide) rfl
  ·refine⟨hr.keep hk λq hq e=>?_,hg⟩
   subst e
   obtain⟨_,c2,hb⟩:=hr.lt hq
   exact hb.ne hgb (by decide) rfl
theorem out_cells (b old:List Int) (zs:List Value) (N:Nat) (hz:zs.length=N) (h1:b.length≤N) (h2:old.length≤N) (h3:N=b.length∨N=old.length) :
 b.map (Value.int .u8)++(old.map (Value.int .u8)++zs.drop old.length).drop b.length=(b++old.drop b.length).map (Value.int .u8):=by
 rw[List.map_append]
 congr 1
 rcases h3 with h3|h3
 ·rw[List.drop_of_length_le (by simp;omega),List.drop_of_length_le (by omega)];rfl
 ·rw[show zs.drop old.length=[]from List.drop_of_length_le (by omega),List.append_nil,List.map_drop]
theorem set_same (N:List Nd) (i:Nat) (x:Nd) (h:N[i]?=some x):N.set i {x with byt:=[]++x.byt.drop 0}=N:=by
 obtain⟨hi,he⟩:=List.getElem?_eq_some_iff.1 h
 have:({x with byt:=[]++x.byt.drop 0}:Nd)=N[i]:=by rw[he];simp
 rw[this]
 exact List.set_getElem_self hi
structure AtD (w:World) (kb:Nat) (s:KV) (mb:Nat) (r:Nat×List Nd) (b:List Int) (w1:World) (iv:Value) (L:List Nd) (n:Nat):Prop where
 dk:DK w1 kb s iv L
 pos:1≤n
 le:n≤L.length
 res:r=putB mb (sks L) n b
 keep:Keep (λq=>kb≤q) w w1
 sum:sumB (sks L)≤mb
theorem fileD_node (kb:Nat) (s:KV) (iv:Value) (L:List Nd) (mi mb:Nat) (nm x:ByteArray) (p:Option Addr) (bcap:Nat) (b:List Int) (d n:Nat) (w:World) (h:DK w kb s iv L) (hd:s.d=mi) (hmi:mi≤100000) (he:s.e=mb) (hmb:mb≤100000) (hpv:s.pv=.slice none 0 0) (hov:s.ov=.slice none 0 0)
 (hbs:BS w p b) (hbl:b.length≤200000) (hbk:0<b.length→∀q o,p=some ⟨q,o,none⟩→q<kb) (hsum:sumB (sks L)≤mb) (hw:Calls Tryz.prog 77 #[.pointer (some ⟨kb,0,none⟩),.string nm] w λe w'=>e=.returned (.tuple #[.int .i64 d,.string x,.int .i64 n,.int .i64 0])∧Bel w w')
 (r:Nat×List Nd) (hr:if n=0 then r=(if mi≤L.length then(12,sks L)else putB mb (sks L++[⟨d,x,false,[],emptyB⟩]) (L.length+1) b)else n≤L.length∧r=putB mb (sks L) n b) :
 Calls Tryz.prog 41 #[.pointer (some ⟨kb,0,none⟩),.string nm,.bool false,.slice p b.length bcap] w λe w'=>DStepRes w kb s r e w':=by
 obtain⟨g,cap,hiv,ht,hg⟩:=h.tree
 have hfew:=h.few
 have HW:=xh hw
 have HDK:=xh h
 have HIV:=xh hiv
 have HBS:=xh hbs
 have HBK:=xh hbk
 have HR:=xh hr
 have HSUM:=xh hsum
 have HPV:=xh hpv
 have HOV:=xh hov
 have HD:=xh hd
 have HE:=xh he
 clear hw h hr hiv ht hbs hbk hsum hpv hov hd he
 go_enter Tryz.func41,Tryz.ntmps41
 go_upto_if 34 with(go_at_call 77;((with_reducible refine Calls.mono HW.out ?_);rintro e w1 ⟨rfl,k1⟩;have HK1:=xh k1;clear k1))
 go_cut [11] (λs11 wx=>∃n1:Nat,s11=.int .i64 n1∧Hid (∃iv1 L1,AtD w kb s mb r b wx iv1 L1 n1))
 case first=>
  by_cases hn:n=0
  ·have hr:=HR.out
   rw[if_pos hn]at hr
   subst hn
   have c7:w1.cell? ⟨kb,7,none⟩=some (.slice (some ⟨g,0,none⟩) L.length cap):=by rw[←HIV.out];exact(HDK.out.bel HK1.out).blk.cell 7
   have c3:w1.cell? ⟨kb,3,none⟩=some (.int .i64 (mi:Int)):=by rw[←HD.out];exact(HDK.out.bel HK1.out).blk.cell 3
   by_cases hm:mi≤L.length
   ·rw[if_pos hm]at hr
    have HRR:=xh hr
    clear hr
    go_upto_region 7 with fail
    go_quiet (fail)
    go_wp2
    go_ret
    exact⟨by rw[HRR.out];rfl,Keep.of_bel _ (bel_drewN HK1.out nq),λh=>by rw[HRR.out]at h;cases h⟩
   ·rw[if_neg hm]at hr
    have HRR:=xh hr
    have HM:=xh λiv L' (W:World) hB hr=>make_any kb s iv L' W hB hr d x false
    clear hr
    go_upto_region 7 with fail
    go_quiet (fail)
    have kd:Bel w1 (w1.drewN nq):=bel_drewN (Bel.refl _) nq
    generalize w1.drewN nq=wd at *
    have HKD:=xh (HK1.out.tr kd)
    have HDD:=xh (HDK.out.bel HKD.out)
    clear kd c7 c3
    go_wp2_with (go_at_call 78;((with_reducible refine Calls.mono (HM.out iv L wd HDD.out.blk HDD.out.row hfew) ?_);rintro e w2 ⟨rfl,iv',B2,R2,K2⟩))
    go_meet
    exact⟨L.length+1,rfl,xh ⟨iv',_,HDD.out.made d x false (by omega) B2 R2 K2,by omega,by simp,by rw[HRR.out,sks_app];rfl,(Keep.of_bel _ HKD.out).tr (K2.mono λq hq=>by
     rcases hq with rfl|hq
     ·exact Nat.le_refl _
     ·rw[HIV.out]at hq;cases hq;show kb≤g;omega),by rw[sks_app,sumB_app];exact HSUM.out⟩⟩
  ·have hr:=HR.out
   rw[if_neg hn]at hr
   obtain⟨r1,r2⟩:=hr
   have hnb:((n:Int)==0)=false:=beq_eq_false_iff_ne.2 (by omega)
   have HAT:Hid (∃iv1 L1,AtD w kb s mb r b w1 iv1 L1 n):=xh ⟨iv,L,HDK.out.bel HK1.out,by omega,r1,r2,Keep.of_bel _ HK1.out,HSUM.out⟩
   clear r2 hn
   go_wp2_with fail
   go_meet
   exact⟨n,rfl,HAT⟩
 case rest=>
  obtain⟨n1,rfl,HAT⟩:=hcut
  obtain⟨iv1,L1,hat⟩:=HAT.out
  obtain⟨g1,cap1,hiv1,ht1,hg1⟩:=hat.dk.tree
  have hfew1:=hat.dk.few
  have h1:=hat.pos
  have h2:=hat.le
  have hin:=inode_any kb g1 cap1 L1 wc ht1 n1 h1 h2 (by omega)
  have hlt:n1-1<L1.length:=by omega
  have hy:=List.getElem?_eq_getElem hlt
  have hyb:=hat.dk.byts L1[n1-1] (List.getElem_mem hlt)
  have hres:=hat.res
  unfold putB at hres
  rw[show(sks L1)[n1-1]?=some (L1[n1-1]).sk from by unfold sks;rw[List.getElem?_map,hy];rfl]at hres
  simp only at hres
  have hrg:=ht1.2.2 (n1-1) L1[n1-1] hy
  generalize L1[n1-1]=y at *
  obtain⟨q,c,hbv,hbc,_,hqn⟩:=hyb.1.slice
  have c3:wc.cell? ⟨g1,(n1-1)*5+3,none⟩=some (.bool y.dir):=hrg 3 _ rfl
  have c4:wc.cell? ⟨g1,(n1-1)*5+4,none⟩=some (.slice q y.byt.length c):=by rw[←hbv];exact hrg 4 _ rfl
  have c7:wc.cell? ⟨kb,7,none⟩=some (.slice (some ⟨g1,0,none⟩) L1.length cap1):=ht1.1
  have hcl:=ht1.2.1
  have HIN:=xh hin
  have HA:=xh hat
  have HY:=xh hy
  have HIV1:=xh hiv1
  have HYB:=xh hyb
  have HBV:=xh hbv
  have HT1:=xh ht1
  have hn1:(0:Int)≤((n1-1:Nat):Int):=by omega
  have hn2:((n1-1:Nat):Int)<(L1.length:Int):=by omega
  clear hin hat hy hiv1 hyb hbv ht1 hrg hqn
  cases hyd:y.dir with
  | true=>
    have HRR:Hid (r.1=11):=xh (by rw[hres,if_pos (show y.sk.dir=true from hyd)])
    rw[hyd]at c3
    clear hres hyd c4
    go_wp2_with (go_at_call 79;((with_reducible refine Calls.mono HIN.out ?_);rintro e w2 ⟨rfl,hh⟩;subst hh))
    go_ret
    exact⟨by rw[HRR.out];rfl,HA.out.keep,λh=>by rw[HRR.out]at h;cases h⟩
  | false=>
    rw[if_neg (by rw[show y.sk.dir=false from hyd];simp)]at hres
    rw[hyd]at c3
    have HRES:=xh hres
    clear hres hyd
    have hsm:=HA.out.sum
    rw[sumB_sks]at hsm
    have c5':wc.cell? ⟨kb,5,none⟩=some (.slice none 0 0):=by rw[←HPV.out];exact HA.out.dk.blk.cell 5
    have c6':wc.cell? ⟨kb,6,none⟩=some (.slice none 0 0):=by rw[←HOV.out];exact HA.out.dk.blk.cell 6
    have HU:Hid (Calls Tryz.prog 62 #[.pointer (some ⟨kb,0,none⟩)] wc λe w'=>e=.returned (.agg (usedC 0 0 0 L1.length (byts L1).sum).toArray)∧Bel wc w'):=xh (used_any kb g1 cap1 L1 wc HT1.out [] none none 0 0 0 c5' (Nat.le_refl _) (λi n h=>by simp at h) c6'
     (λn hn=>by obtain⟨q,c,h,_⟩:=(HA.out.dk.byts n hn).1.slice;exact⟨q,c,h⟩) (by simp) (by omega) (by simp) (by omega) (by omega))
    clear c5' c6'
    obtain⟨tot,htot⟩:∃t,(byts L1).sum=t:=⟨_,rfl⟩
    rw[htot]at HU hsm
    have HTOT:=xh htot
    have hyl:y.byt.length≤tot:=by
     have:=sumB_set (sks L1) (n1-1) y.sk {y.sk with byt:=[]} (by unfold sks;rw[List.getElem?_map,HY.out];rfl)
     rw[sumB_sks,htot]at this
     simp[Nd.sk]at this
     omega
    have c54:wc.cell? ⟨kb,4,none⟩=some (.int .i64 (mb:Int)):=by rw[←HE.out];exact HA.out.dk.blk.cell 4
    clear htot
    go_upto_region 14 with(first
     | (go_at_call 79;((with_reducible refine Calls.mono HIN.out ?_);rintro e w2 ⟨rfl,hh⟩;subst hh))
     | (go_at_call 62;((with_reducible refine Calls.mono HU.out ?_);rintro e w3 ⟨rfl,k3⟩))
     | (refine wpList_store_blk rfl 70 (.tmp 14) (.tmp 62) rfl rfl w3.heap.size (usedC 0 0 0 L1.length tot) (usedC 0 0 0 0 0) 70 (Blk.new w3 _ _) rfl rfl (by kernel_rfl) rfl (by intro v hv;simp[usedC]at hv;rcases hv with rfl|rfl|rfl|rfl|rfl<;>rfl) ?_;intro w4 B4 K4))
    have kc:Bel wc w4:=k3.tr ((Below.heap_alloc' w3 _).trans (K4.below _ (by simp) (λk hk=>by omega)))
    have hg14:wc.heap.size≤w3.heap.size:=k3.size
    obtain⟨g14,hge⟩:∃g,w3.heap.size=g:=⟨_,rfl⟩
    rw[hge]at B4 hg14⊢
    have HB4:=xh B4.out
    have HKC:=xh kc
    have c4':=cell_bel kc c4
    have c7':=cell_bel kc c7
    have c54':=cell_bel kc c54
    have cu:w4.cell? ⟨g14,4,none⟩=some (.int .i64 (tot:Int)):=B4.out.cell 4
    clear B4 K4 kc k3 hge c3 c4 c7 c54
    by_cases hlo:b.length<y.byt.length
    ·by_cases hb:0<b.length
     ·have hw1:IntKind.i64.wrap ((tot:Int)-(y.byt.length:Int))=(tot:Int)-(y.byt.length:Int):=by rw[IntKind.wrap_i64];omega
      have hw2:IntKind.i64.wrap ((tot:Int)-(y.byt.length:Int)+(y.byt.length:Int))=(tot:Int)-(y.byt.length:Int)+(y.byt.length:Int):=by rw[IntKind.wrap_i64];omega
      have hle:¬((mb:Int)<(tot:Int)-(y.byt.length:Int)+(y.byt.length:Int)):=by omega
      go_upto_region 18 with fail
      go_quiet (fail)
      have HWD:Hid (Bel w4 (w4.drewN nq)):=xh (bel_drewN (Bel.refl _) nq)
      generalize w4.drewN nq=wd at *
      obtain⟨zs,hzl,hmk⟩:=make_bytes y.byt.length (by omega)
      have hmk2:=λW=>hmk ((y.byt.length:Nat):Int) W rfl
      have HZL:=xh hzl
      clear hmk hzl
      have c7d:wd.cell? ⟨kb,7,none⟩=some (.slice (some ⟨g1,0,none⟩) L1.length cap1):=cell_bel HWD.out c7'
      clear cu c54' c4' c7' hw1 hw2 hle
      go_upto_region 21 with fail
      have k5:Bel wc (wd.alloc (.cells zs.toArray 5)):=(HKC.out.tr HWD.out).tr (Bel.start wd _)
      have B5:=Blk.new wd zs 5
      have c75:(wd.alloc (.cells zs.toArray 5)).cell? ⟨kb,7,none⟩=some (.slice (some ⟨g1,0,none⟩) L1.length cap1):=cell_bel (Bel.start wd _) c7d
      have hgoge:wc.heap.size≤wd.heap.size:=(HKC.out.tr HWD.out).size
      generalize wd.alloc (.cells zs.toArray 5)=w5 at *
      obtain⟨go,hgoe⟩:∃g,wd.heap.size=g:=⟨_,rfl⟩
      rw[hgoe]at B5 hgoge⊢
      have HB5:=xh B5
      have HK5:=xh k5
      have hyw5:Rw w5 y.bv y.byt:=HYB.out.1.bel k5
      have HSO:Hid (0<(y.byt.map (Value.int .u8)).length→∃ad,q=some ad∧∀j v,(y.byt.map (Value.int .u8))[j]?=some v→w5.cell? (ad.add j)=some v):=xh λh0=>by
       rcases hyw5.2 with⟨_,h⟩|⟨g2,c2,cur,h,_⟩
       ·rw[h]at h0;simp at h0
       ·rw[HBV.out]at h
        cases h
        obtain⟨g3,hg3,hc3⟩:=hyw5.cells HBV.out
        cases hg3
        refine⟨_,rfl,λj v hj=>?_⟩
        rw[show(⟨g2,0,none⟩:Addr).add j=⟨g2,j,none⟩from by unfold Addr.add;split<;>simp_all]
        exact hc3 j v hj
      clear hgoe B5 k5 hmk2 hyw5 c7d
      go_upto_region 22 with(refine wpList_copy_keep rfl (.tmp 99) (.tmp 100) 32 32 rfl 5 Tryz.underlying32 (by kernel_rfl) go q y.byt.length y.byt.length y.byt.length c rfl rfl zs 5 HB5.out (y.byt.map (Value.int .u8)) (by rw[List.length_map];exact(Nat.min_eq_left (by omega)).symm) HSO.out (by rw[List.length_map,HZL.out];omega) (by intro v hv;obtain⟨z,_,rfl⟩:=List.mem_map.1 hv;rfl) ?_;intro w6 B6 K6)
      have hgkb:kb<go:=by have:=HA.out.dk.blk.lt;omega
      have c76:w6.cell? ⟨kb,7,none⟩=some (.slice (some ⟨g1,0,none⟩) L1.length cap1):=(K6.cell ⟨kb,7,none⟩ (World.block_lt_of_cell? _ _ c75) (by show kb≠go;omega)).trans c75
      have HB6:=xh B6.out
      have HK6:=xh K6
      have hbsc:BS wc p b:=HBS.out.keep_at0 HA.out.keep λh0 a o hp h=>by have:=HBK.out h0 a o hp;omega
      have hbs6:BS w6 p b:=(hbsc.bel HK5.out).keep_at0 K6 λh0 a o hp e=>by have:=HBK.out h0 a o hp;omega
      have HSB:=xh (λh0=>hbs6.cells_at h0)
      have HBY:=xh hbs6.1
      clear B6 K6 hbsc hbs6 c75
      go_upto_region 23 with(refine wpList_copy_keep rfl (.tmp 102) (.tmp 103) 32 32 rfl 5 Tryz.underlying32 (by kernel_rfl) go p y.byt.length y.byt.length b.length bcap rfl rfl _ 5 HB6.out (b.map (Value.int .u8)) (by rw[List.length_map];exact(Nat.min_eq_left (by omega)).symm) HSB.out (by simp[HZL.out];omega) (by intro v hv;obtain⟨z,_,rfl⟩:=List.mem_map.1 hv;rfl) ?_;intro w7 B7 K7)
      have c77:w7.cell? ⟨kb,7,none⟩=some (.slice (some ⟨g1,0,none⟩) L1.length cap1):=(K7.cell ⟨kb,7,none⟩ (World.block_lt_of_cell? _ _ c76) (by show kb≠go;omega)).trans c76
      have HB7:Hid (Blk w7 go ((b++y.byt.drop b.length).map (Value.int .u8)) 5):=xh (by
       have:=B7.out
       rw[List.length_map,List.length_map,out_cells b y.byt zs y.byt.length HZL.out (by omega) (by omega) (by omega)]at this
       exact this)
      have HK7:Hid (Keep (λq=>wc.heap.size≤q) wc w7):=xh (((Keep.of_bel _ HK5.out).tr_new HK6.out (λi h=>.inl (by rw[h];exact hgoge))).tr_new K7 (λi h=>.inl (by rw[h];exact hgoge)))
      have HD7:Hid (DK w7 kb s iv1 L1):=xh (HA.out.dk.bel (HK7.out.below _ (Nat.le_refl _) (λ_ h=>h)))
      have HLN:Hid ((b++y.byt.drop b.length).length=y.byt.length):=xh (by simp;omega)
      clear B7 K7 c76
      have HRR:Hid (r=(0,(sks L1).set (n1-1) {y.sk with byt:=b++y.byt.drop b.length})):=xh (by
       rw[HRES.out,if_neg (by rintro⟨h3,h4⟩;rw[sumB_sks,HTOT.out]at h4;simp[Nd.sk]at h4;omega)]
       rfl)
      obtain⟨cu1,hcu1⟩:∃cur,Blk w7 g1 cur 138∧cur.length=cap1*5:=by
       rcases HD7.out.row.2 with⟨h3,_⟩|⟨g2,c2,cur,h3,_,hb3,_,_,hs3,_⟩
       ·rw[HIV1.out]at h3;cases h3
       ·rw[HIV1.out]at h3;cases h3
        exact⟨cur.toList,by unfold Blk;simpa using hb3,by simpa using hs3⟩
      have cst:w7.cell? ⟨g1,(n1-1)*5+4,none⟩=some y.bv:=by
       obtain⟨gg,cc,h3,h4,_⟩:=HD7.out.tree
       rw[HIV1.out]at h3
       cases h3
       exact h4.2.2 (n1-1) y HY.out 4 _ rfl
      have fst:=hcu1.1.frozen
      have hg1l:=hcu1.1.lt
      clear hcu1
      go_wp2
      go_ret
      have hrw:Rw w7 (.slice (some ⟨go,0,none⟩) y.byt.length y.byt.length) (b++y.byt.drop b.length):=⟨λz hz=>by
       rcases List.mem_append.1 hz with hz|hz
       ·exact HBY.out z hz
       ·exact HYB.out.1.1 z (List.mem_of_mem_drop hz),.inr ⟨go,y.byt.length,_,by rw[HLN.out],HB7.out,by rw[HLN.out];exact Nat.le_refl _,by rw[List.length_map,HLN.out];exact Nat.le_refl _,by unfold maxLen;omega,by rw[←List.length_map (f:=Value.int .u8),List.take_length]⟩⟩
      have hfin:=HD7.out.setB HIV1.out HY.out hrw (λq hq=>by cases hq;exact Nat.le_of_lt hgkb)
      refine⟨by rw[HRR.out];rfl,?_,λ_=>⟨iv1,_,?_,hfin⟩⟩
      ·exact(HA.out.keep.tr_new HK7.out (λi h=>.inr (Nat.le_trans HA.out.keep.size h))).tr ((Keep.setCell w7 g1 _ _).mono λq h=>by have h:q=g1:=h;rw[h];omega)
      ·rw[sks_set,HRR.out]
     ·have hb0:¬(0<b.length):=by omega
      go_upto_region 18 with fail
      go_quiet (fail)
      have HWD:Hid (Bel w4 (w4.drewN nq)):=xh (bel_drewN (Bel.refl _) nq)
      generalize w4.drewN nq=wd at *
      obtain⟨zs,hzl,hmk⟩:=make_bytes y.byt.length (by omega)
      have hmk2:=λW=>hmk ((y.byt.length:Nat):Int) W rfl
      have HZL:=xh hzl
      clear hmk hzl
      have c7d:wd.cell? ⟨kb,7,none⟩=some (.slice (some ⟨g1,0,none⟩) L1.length cap1):=cell_bel HWD.out c7'
      clear cu c54' c4' c7' hb0
      go_upto_region 21 with fail
      have k5:Bel wc (wd.alloc (.cells zs.toArray 5)):=(HKC.out.tr HWD.out).tr (Bel.start wd _)
      have B5:=Blk.new wd zs 5
      have c75:(wd.alloc (.cells zs.toArray 5)).cell? ⟨kb,7,none⟩=some (.slice (some ⟨g1,0,none⟩) L1.length cap1):=cell_bel (Bel.start wd _) c7d
      have hgoge:wc.heap.size≤wd.heap.size:=(HKC.out.tr HWD.out).size
      generalize wd.alloc (.cells zs.toArray 5)=w5 at *
      obtain⟨go,hgoe⟩:∃g,wd.heap.size=g:=⟨_,rfl⟩
      rw[hgoe]at B5 hgoge⊢
      have HB5:=xh B5
      have HK5:=xh k5
      have hyw5:Rw w5 y.bv y.byt:=HYB.out.1.bel k5
      have HSO:Hid (0<(y.byt.map (Value.int .u8)).length→∃ad,q=some ad∧∀j v,(y.byt.map (Value.int .u8))[j]?=some v→w5.cell? (ad.add j)=some v):=xh λh0=>by
       rcases hyw5.2 with⟨_,h⟩|⟨g2,c2,cur,h,_⟩
       ·rw[h]at h0;simp at h0
       ·rw[HBV.out]at h
        cases h
        obtain⟨g3,hg3,hc3⟩:=hyw5.cells HBV.out
        cases hg3
        refine⟨_,rfl,λj v hj=>?_⟩
        rw[show(⟨g2,0,none⟩:Addr).add j=⟨g2,j,none⟩from by unfold Addr.add;split<;>simp_all]
        exact hc3 j v hj
      clear hgoe B5 k5 hmk2 hyw5 c7d
      go_upto_region 22 with(refine wpList_copy_keep rfl (.tmp 99) (.tmp 100) 32 32 rfl 5 Tryz.underlying32 (by kernel_rfl) go q y.byt.length y.byt.length y.byt.length c rfl rfl zs 5 HB5.out (y.byt.map (Value.int .u8)) (by rw[List.length_map];exact(Nat.min_eq_left (by omega)).symm) HSO.out (by rw[List.length_map,HZL.out];omega) (by intro v hv;obtain⟨z,_,rfl⟩:=List.mem_map.1 hv;rfl) ?_;intro w6 B6 K6)
      have hgkb:kb<go:=by have:=HA.out.dk.blk.lt;omega
      have c76:w6.cell? ⟨kb,7,none⟩=some (.slice (some ⟨g1,0,none⟩) L1.length cap1):=(K6.cell ⟨kb,7,none⟩ (World.block_lt_of_cell? _ _ c75) (by show kb≠go;omega)).trans c75
      have HB6:=xh B6.out
      have HK6:=xh K6
      have hbsc:BS wc p b:=HBS.out.keep_at0 HA.out.keep λh0 a o hp h=>by have:=HBK.out h0 a o hp;omega
      have hbs6:BS w6 p b:=(hbsc.bel HK5.out).keep_at0 K6 λh0 a o hp e=>by have:=HBK.out h0 a o hp;omega
      have HSB:=xh (λh0=>hbs6.cells_at h0)
      have HBY:=xh hbs6.1
      clear B6 K6 hbsc hbs6 c75
      go_upto_region 23 with(refine wpList_copy_keep rfl (.tmp 102) (.tmp 103) 32 32 rfl 5 Tryz.underlying32 (by kernel_rfl) go p y.byt.length y.byt.length b.length bcap rfl rfl _ 5 HB6.out (b.map (Value.int .u8)) (by rw[List.length_map];exact(Nat.min_eq_left (by omega)).symm) HSB.out (by simp[HZL.out];omega) (by intro v hv;obtain⟨z,_,rfl⟩:=List.mem_map.1 hv;rfl) ?_;intro w7 B7 K7)
      have c77:w7.cell? ⟨kb,7,none⟩=some (.slice (some ⟨g1,0,none⟩) L1.length cap1):=(K7.cell ⟨kb,7,none⟩ (World.block_lt_of_cell? _ _ c76) (by show kb≠go;omega)).trans c76
      have HB7:Hid (Blk w7 go ((b++y.byt.drop b.length).map (Value.int .u8)) 5):=xh (by
       have:=B7.out
       rw[List.length_map,List.length_map,out_cells b y.byt zs y.byt.length HZL.out (by omega) (by omega) (by omega)]at this
       exact this)
      have HK7:Hid (Keep (λq=>wc.heap.size≤q) wc w7):=xh (((Keep.of_bel _ HK5.out).tr_new HK6.out (λi h=>.inl (by rw[h];exact hgoge))).tr_new K7 (λi h=>.inl (by rw[h];exact hgoge)))
      have HD7:Hid (DK w7 kb s iv1 L1):=xh (HA.out.dk.bel (HK7.out.below _ (Nat.le_refl _) (λ_ h=>h)))
      have HLN:Hid ((b++y.byt.drop b.length).length=y.byt.length):=xh (by simp;omega)
      clear B7 K7 c76
      have HRR:Hid (r=(0,sks L1)):=xh (by
       rw[HRES.out,if_neg (by rintro⟨h3,h4⟩;omega)]
       have hb0:b=[]:=List.eq_nil_of_length_eq_zero (by omega)
       rw[hb0]
       exact congrArg (Prod.mk 0) (set_same (sks L1) (n1-1) y.sk (by unfold sks;rw[List.getElem?_map,HY.out];rfl)))
      go_wp2
      go_ret
      exact⟨by rw[HRR.out];rfl,HA.out.keep.tr_new HK7.out (λi h=>.inr (Nat.le_trans HA.out.keep.size h)),λ_=>⟨iv1,L1,by rw[HRR.out],HD7.out⟩⟩
    ·by_cases hb:0<b.length
     ·by_cases hx:mb<tot+(b.length-y.byt.length)
      ·have hw1:IntKind.i64.wrap ((tot:Int)-(y.byt.length:Int))=(tot:Int)-(y.byt.length:Int):=by rw[IntKind.wrap_i64];omega
       have hw2:IntKind.i64.wrap ((tot:Int)-(y.byt.length:Int)+(b.length:Int))=(tot:Int)-(y.byt.length:Int)+(b.length:Int):=by rw[IntKind.wrap_i64];omega
       have hle:(mb:Int)<(tot:Int)-(y.byt.length:Int)+(b.length:Int):=by omega
       have HRR:Hid (r=(12,sks L1)):=xh (by
        rw[HRES.out,if_pos ⟨hb,by rw[sumB_sks,HTOT.out];simp[Nd.sk];omega⟩])
       go_upto_region 18 with fail
       go_quiet (fail)
       go_wp2
       go_ret
       exact⟨by rw[HRR.out];rfl,HA.out.keep.tr (Keep.of_bel _ (bel_drewN HKC.out nq)),λh=>by rw[HRR.out]at h;cases h⟩
      ·have hw1:IntKind.i64.wrap ((tot:Int)-(y.byt.length:Int))=(tot:Int)-(y.byt.length:Int):=by rw[IntKind.wrap_i64];omega
       have hw2:IntKind.i64.wrap ((tot:Int)-(y.byt.length:Int)+(b.length:Int))=(tot:Int)-(y.byt.length:Int)+(b.length:Int):=by rw[IntKind.wrap_i64];omega
       have hle:¬((mb:Int)<(tot:Int)-(y.byt.length:Int)+(b.length:Int)):=by omega
       go_upto_region 18 with fail
       go_quiet (fail)
       have HWD:Hid (Bel w4 (w4.drewN nq)):=xh (bel_drewN (Bel.refl _) nq)
       generalize w4.drewN nq=wd at *
       obtain⟨zs,hzl,hmk⟩:=make_bytes b.length (by omega)
       have hmk2:=λW=>hmk ((b.length:Nat):Int) W rfl
       have HZL:=xh hzl
       clear hmk hzl
       have c7d:wd.cell? ⟨kb,7,none⟩=some (.slice (some ⟨g1,0,none⟩) L1.length cap1):=cell_bel HWD.out c7'
       clear cu c54' c4' c7' hw1 hw2 hle
       go_upto_region 21 with fail
       have k5:Bel wc (wd.alloc (.cells zs.toArray 5)):=(HKC.out.tr HWD.out).tr (Bel.start wd _)
       have B5:=Blk.new wd zs 5
       have c75:(wd.alloc (.cells zs.toArray 5)).cell? ⟨kb,7,none⟩=some (.slice (some ⟨g1,0,none⟩) L1.length cap1):=cell_bel (Bel.start wd _) c7d
       have hgoge:wc.heap.size≤wd.heap.size:=(HKC.out.tr HWD.out).size
       generalize wd.alloc (.cells zs.toArray 5)=w5 at *
       obtain⟨go,hgoe⟩:∃g,wd.heap.size=g:=⟨_,rfl⟩
       rw[hgoe]at B5 hgoge⊢
       have HB5:=xh B5
       have HK5:=xh k5
       have hyw5:Rw w5 y.bv y.byt:=HYB.out.1.bel k5
       have HSO:Hid (0<(y.byt.map (Value.int .u8)).length→∃ad,q=some ad∧∀j v,(y.byt.map (Value.int .u8))[j]?=some v→w5.cell? (ad.add j)=some v):=xh λh0=>by
        rcases hyw5.2 with⟨_,h⟩|⟨g2,c2,cur,h,_⟩
        ·rw[h]at h0;simp at h0
        ·rw[HBV.out]at h
         cases h
         obtain⟨g3,hg3,hc3⟩:=hyw5.cells HBV.out
         cases hg3
         refine⟨_,rfl,λj v hj=>?_⟩
         rw[show(⟨g2,0,none⟩:Addr).add j=⟨g2,j,none⟩from by unfold Addr.add;split<;>simp_all]
         exact hc3 j v hj
       clear hgoe B5 k5 hmk2 hyw5 c7d
       go_upto_region 22 with(refine wpList_copy_keep rfl (.tmp 99) (.tmp 100) 32 32 rfl 5 Tryz.underlying32 (by kernel_rfl) go q b.length b.length y.byt.length c rfl rfl zs 5 HB5.out (y.byt.map (Value.int .u8)) (by rw[List.length_map];exact(Nat.min_eq_left (by omega)).symm) HSO.out (by rw[List.length_map,HZL.out];omega) (by intro v hv;obtain⟨z,_,rfl⟩:=List.mem_map.1 hv;rfl) ?_;intro w6 B6 K6)
       have hgkb:kb<go:=by have:=HA.out.dk.blk.lt;omega
       have c76:w6.cell? ⟨kb,7,none⟩=some (.slice (some ⟨g1,0,none⟩) L1.length cap1):=(K6.cell ⟨kb,7,none⟩ (World.block_lt_of_cell? _ _ c75) (by show kb≠go;omega)).trans c75
       have HB6:=xh B6.out
       have HK6:=xh K6
       have hbsc:BS wc p b:=HBS.out.keep_at0 HA.out.keep λh0 a o hp h=>by have:=HBK.out h0 a o hp;omega
       have hbs6:BS w6 p b:=(hbsc.bel HK5.out).keep_at0 K6 λh0 a o hp e=>by have:=HBK.out h0 a o hp;omega
       have HSB:=xh (λh0=>hbs6.cells_at h0)
       have HBY:=xh hbs6.1
       clear B6 K6 hbsc hbs6 c75
       go_upto_region 23 with(refine wpList_copy_keep rfl (.tmp 102) (.tmp 103) 32 32 rfl 5 Tryz.underlying32 (by kernel_rfl) go p b.length b.length b.length bcap rfl rfl _ 5 HB6.out (b.map (Value.int .u8)) (by rw[List.length_map];exact(Nat.min_eq_left (by omega)).symm) HSB.out (by simp[HZL.out];omega) (by intro v hv;obtain⟨z,_,rfl⟩:=List.mem_map.1 hv;rfl) ?_;intro w7 B7 K7)
       have c77:w7.cell? ⟨kb,7,none⟩=some (.slice (some ⟨g1,0,none⟩) L1.length cap1):=(K7.cell ⟨kb,7,none⟩ (World.block_lt_of_cell? _ _ c76) (by show kb≠go;omega)).trans c76
       have HB7:Hid (Blk w7 go ((b++y.byt.drop b.length).map (Value.int .u8)) 5):=xh (by
        have:=B7.out
        rw[List.length_map,List.length_map,out_cells b y.byt zs b.length HZL.out (by omega) (by omega) (by omega)]at this
        exact this)
       have HK7:Hid (Keep (λq=>wc.heap.size≤q) wc w7):=xh (((Keep.of_bel _ HK5.out).tr_new HK6.out (λi h=>.inl (by rw[h];exact hgoge))).tr_new K7 (λi h=>.inl (by rw[h];exact hgoge)))
       have HD7:Hid (DK w7 kb s iv1 L1):=xh (HA.out.dk.bel (HK7.out.below _ (Nat.le_refl _) (λ_ h=>h)))
       have HLN:Hid ((b++y.byt.drop b.length).length=b.length):=xh (by simp;omega)
       clear B7 K7 c76
       have HRR:Hid (r=(0,(sks L1).set (n1-1) {y.sk with byt:=b++y.byt.drop b.length})):=xh (by
        rw[HRES.out,if_neg (by rintro⟨h3,h4⟩;rw[sumB_sks,HTOT.out]at h4;simp[Nd.sk]at h4;omega)]
        rfl)
       obtain⟨cu1,hcu1⟩:∃cur,Blk w7 g1 cur 138∧cur.length=cap1*5:=by
        rcases HD7.out.row.2 with⟨h3,_⟩|⟨g2,c2,cur,h3,_,hb3,_,_,hs3,_⟩
        ·rw[HIV1.out]at h3;cases h3
        ·rw[HIV1.out]at h3;cases h3
         exact⟨cur.toList,by unfold Blk;simpa using hb3,by simpa using hs3⟩
       have cst:w7.cell? ⟨g1,(n1-1)*5+4,none⟩=some y.bv:=by
        obtain⟨gg,cc,h3,h4,_⟩:=HD7.out.tree
        rw[HIV1.out]at h3
        cases h3
        exact h4.2.2 (n1-1) y HY.out 4 _ rfl
       have fst:=hcu1.1.frozen
       have hg1l:=hcu1.1.lt
       clear hcu1
       go_wp2
       go_ret
       have hrw:Rw w7 (.slice (some ⟨go,0,none⟩) b.length b.length) (b++y.byt.drop b.length):=⟨λz hz=>by
        rcases List.mem_append.1 hz with hz|hz
        ·exact HBY.out z hz
        ·exact HYB.out.1.1 z (List.mem_of_mem_drop hz),.inr ⟨go,b.length,_,by rw[HLN.out],HB7.out,by rw[HLN.out];exact Nat.le_refl _,by rw[List.length_map,HLN.out];exact Nat.le_refl _,by unfold maxLen;omega,by rw[←List.length_map (f:=Value.int .u8),List.take_length]⟩⟩
       have hfin:=HD7.out.setB HIV1.out HY.out hrw (λq hq=>by cases hq;exact Nat.le_of_lt hgkb)
       refine⟨by rw[HRR.out];rfl,?_,λ_=>⟨iv1,_,?_,hfin⟩⟩
       ·exact(HA.out.keep.tr_new HK7.out (λi h=>.inr (Nat.le_trans HA.out.keep.size h))).tr ((Keep.setCell w7 g1 _ _).mono λq h=>by have h:q=g1:=h;rw[h];omega)
       ·rw[sks_set,HRR.out]
     ·have hb0:¬(0<b.length):=by omega
      go_upto_region 18 with fail
      go_quiet (fail)
      have HWD:Hid (Bel w4 (w4.drewN nq)):=xh (bel_drewN (Bel.refl _) nq)
      generalize w4.drewN nq=wd at *
      obtain⟨zs,hzl,hmk⟩:=make_bytes b.length (by omega)
      have hmk2:=λW=>hmk ((b.length:Nat):Int) W rfl
      have HZL:=xh hzl
      clear hmk hzl
      have c7d:wd.cell? ⟨kb,7,none⟩=some (.slice (some ⟨g1,0,none⟩) L1.length cap1):=cell_bel HWD.out c7'
      clear cu c54' c4' c7' hb0
      go_upto_region 21 with fail
      have k5:Bel wc (wd.alloc (.cells zs.toArray 5)):=(HKC.out.tr HWD.out).tr (Bel.start wd _)
      have B5:=Blk.new wd zs 5
      have c75:(wd.alloc (.cells zs.toArray 5)).cell? ⟨kb,7,none⟩=some (.slice (some ⟨g1,0,none⟩) L1.length cap1):=cell_bel (Bel.start wd _) c7d
      have hgoge:wc.heap.size≤wd.heap.size:=(HKC.out.tr HWD.out).size
      generalize wd.alloc (.cells zs.toArray 5)=w5 at *
      obtain⟨go,hgoe⟩:∃g,wd.heap.size=g:=⟨_,rfl⟩
      rw[hgoe]at B5 hgoge⊢
      have HB5:=xh B5
      have HK5:=xh k5
      have hyw5:Rw w5 y.bv y.byt:=HYB.out.1.bel k5
      have HSO:Hid (0<(y.byt.map (Value.int .u8)).length→∃ad,q=some ad∧∀j v,(y.byt.map (Value.int .u8))[j]?=some v→w5.cell? (ad.add j)=some v):=xh λh0=>by
       rcases hyw5.2 with⟨_,h⟩|⟨g2,c2,cur,h,_⟩
       ·rw[h]at h0;simp at h0
       ·rw[HBV.out]at h
        cases h
        obtain⟨g3,hg3,hc3⟩:=hyw5.cells HBV.out
        cases hg3
        refine⟨_,rfl,λj v hj=>?_⟩
        rw[show(⟨g2,0,none⟩:Addr).add j=⟨g2,j,none⟩from by unfold Addr.add;split<;>simp_all]
        exact hc3 j v hj
      clear hgoe B5 k5 hmk2 hyw5 c7d
      go_upto_region 22 with(refine wpList_copy_keep rfl (.tmp 99) (.tmp 100) 32 32 rfl 5 Tryz.underlying32 (by kernel_rfl) go q b.length b.length y.byt.length c rfl rfl zs 5 HB5.out (y.byt.map (Value.int .u8)) (by rw[List.length_map];exact(Nat.min_eq_left (by omega)).symm) HSO.out (by rw[List.length_map,HZL.out];omega) (by intro v hv;obtain⟨z,_,rfl⟩:=List.mem_map.1 hv;rfl) ?_;intro w6 B6 K6)
      have hgkb:kb<go:=by have:=HA.out.dk.blk.lt;omega
      have c76:w6.cell? ⟨kb,7,none⟩=some (.slice (some ⟨g1,0,none⟩) L1.length cap1):=(K6.cell ⟨kb,7,none⟩ (World.block_lt_of_cell? _ _ c75) (by show kb≠go;omega)).trans c75
      have HB6:=xh B6.out
      have HK6:=xh K6
      have hbsc:BS wc p b:=HBS.out.keep_at0 HA.out.keep λh0 a o hp h=>by have:=HBK.out h0 a o hp;omega
      have hbs6:BS w6 p b:=(hbsc.bel HK5.out).keep_at0 K6 λh0 a o hp e=>by have:=HBK.out h0 a o hp;omega
      have HSB:=xh (λh0=>hbs6.cells_at h0)
      have HBY:=xh hbs6.1
      clear B6 K6 hbsc hbs6 c75
      go_upto_region 23 with(refine wpList_copy_keep rfl (.tmp 102) (.tmp 103) 32 32 rfl 5 Tryz.underlying32 (by kernel_rfl) go p b.length b.length b.length bcap rfl rfl _ 5 HB6.out (b.map (Value.int .u8)) (by rw[List.length_map];exact(Nat.min_eq_left (by omega)).symm) HSB.out (by simp[HZL.out];omega) (by intro v hv;obtain⟨z,_,rfl⟩:=List.mem_map.1 hv;rfl) ?_;intro w7 B7 K7)
      have c77:w7.cell? ⟨kb,7,none⟩=some (.slice (some ⟨g1,0,none⟩) L1.length cap1):=(K7.cell ⟨kb,7,none⟩ (World.block_lt_of_cell? _ _ c76) (by show kb≠go;omega)).trans c76
      have HB7:Hid (Blk w7 go ((b++y.byt.drop b.length).map (Value.int .u8)) 5):=xh (by
       have:=B7.out
       rw[List.length_map,List.length_map,out_cells b y.byt zs b.length HZL.out (by omega) (by omega) (by omega)]at this
       exact this)
      have HK7:Hid (Keep (λq=>wc.heap.size≤q) wc w7):=xh (((Keep.of_bel _ HK5.out).tr_new HK6.out (λi h=>.inl (by rw[h];exact hgoge))).tr_new K7 (λi h=>.inl (by rw[h];exact hgoge)))
      have HD7:Hid (DK w7 kb s iv1 L1):=xh (HA.out.dk.bel (HK7.out.below _ (Nat.le_refl _) (λ_ h=>h)))
      have HLN:Hid ((b++y.byt.drop b.length).length=b.length):=xh (by simp;omega)
      clear B7 K7 c76
      have HRR:Hid (r=(0,sks L1)):=xh (by
       rw[HRES.out,if_neg (by rintro⟨h3,h4⟩;omega)]
       have hb0:b=[]:=List.eq_nil_of_length_eq_zero (by omega)
       rw[hb0]
       exact congrArg (Prod.mk 0) (set_same (sks L1) (n1-1) y.sk (by unfold sks;rw[List.getElem?_map,HY.out];rfl)))
      go_wp2
      go_ret
      exact⟨by rw[HRR.out];rfl,HA.out.keep.tr_new HK7.out (λi h=>.inr (Nat.le_trans HA.out.keep.size h)),λ_=>⟨iv1,L1,by rw[HRR.out],HD7.out⟩⟩
theorem fileD_any (kb:Nat) (s:KV) (iv:Value) (L:List Nd) (mi mb:Nat) (nm:ByteArray) (is:Bool) (p:Option Addr) (bcap:Nat) (b:List Int) (w:World) (h:DK w kb s iv L) (hd:s.d=mi) (hmi:mi≤100000) (he:s.e=mb) (hmb:mb≤100000) (hpv:s.pv=.slice none 0 0) (hov:s.ov=.slice none 0 0)
 (hbs:BS w p b) (hbl:b.length≤200000) (hbk:0<b.length→∀q o,p=some ⟨q,o,none⟩→q<kb) (hsum:sumB (sks L)≤mb) (hs:nm.size≤1000000) (hroot:isDir L 1=true) :
 Calls Tryz.prog 41 #[.pointer (some ⟨kb,0,none⟩),.string nm,.bool is,.slice p b.length bcap] w λe w'=>DStepRes w kb s (fileF mi mb (sks L) nm.data.toList is b) e w':=by
 cases is with
 | true=>
   have hm:=mkdirD_any kb s iv L mi nm w h hd hmi hs
   show Calls _ _ _ _ λe w'=>DStepRes w kb s (mkF mi (sks L) nm.data.toList) e w'
   have HM:=xh hm
   generalize mkF mi (sks L) nm.data.toList=r at *
   clear hm h hd he hpv hov hbs hbk hroot
   go_enter Tryz.func41,Tryz.ntmps41
   go_wp2_with (go_at_call 76;((with_reducible refine Calls.mono HM.out ?_);rintro e w1 ⟨rfl,k1⟩;have HK:=xh k1;clear k1))
   go_ret
   exact⟨rfl,HK.out⟩
 | false=>
   obtain⟨g,cap,hiv,ht,hg⟩:=h.tree
   have hw:=walk_any kb g cap L w ht nm hs (by have:=h.few;omega)
   unfold fileF
   rw[docWalk_sk,sks_len,if_neg (by simp)]
   have hold:=docWalk_old (L:=L) (s:=nm.data.toList) hroot
   obtain⟨d,x,n,c,hr⟩:∃d x n c,docWalk L nm.data.toList=(d,x,n,c):=⟨_,_,_,_,rfl⟩
   rw[hr]at hw hold⊢
   simp only[walkV]at hw hold⊢
   by_cases hc:c=0
   ·subst hc
    rw[if_neg (by simp)]
    refine fileD_node kb s iv L mi mb nm x p bcap b d n w h hd hmi he hmb hpv hov hbs hbl hbk hsum hw _ ?_
    by_cases hn:n=0
    ·rw[if_pos hn,if_pos hn]
    ·rw[if_neg hn,if_neg hn]
     exact⟨hold rfl,rfl⟩
   ·rw[if_pos hc]
    have HW:=xh hw
    have HC:=xh hc
    have hcb:((c:Int)==0)=false:=beq_eq_false_iff_ne.2 (by omega)
    clear hw hc h hd he hpv hov hbs hbk hroot hr hold ht hiv
    go_enter Tryz.func41,Tryz.ntmps41
    go_wp2_with (go_at_call 77;((with_reducible refine Calls.mono HW.out ?_);rintro e w1 ⟨rfl,k1⟩))
    go_ret
    exact⟨rfl,Keep.of_bel _ k1,λh=>absurd h HC.out⟩
end Go.Proofs.YtjdaddmjpicflaaGreatDoor
namespace Go.Proofs.YtjdaddmjpicflaaGreatDoor
open Go.RowKit Go.Maps
open Classical in
noncomputable def loadE (L:List Int):Nat:=if headerOk L=false then 2 else if segsOk L=false then 3 else if ∀k,k<(segN L).toNat→FreeAt L k then(if entryOk L=true then 0 else 5)else 4
def spaceL (L:List Int):Pages:=spaceTo L (segN L).toNat
theorem loadRD_of (p:Option Addr) (cap:Nat) (L:List Int) (hcap:L.length≤cap) (hlen:L.length≤200000) (W:World) (hr:BS W p L) :
 Calls Tryz.prog 80 #[.slice p L.length cap] W λe w'=>Bel W w'∧LoadResR L W.heap.size e w':=by
 by_cases h:L.length<64
 ·have hh:headerOk L=false:=by simp[headerOk,show ¬64≤L.length from by omega]
  refine(loadR_short p L.length cap W h).mono ?_
  rintro e w' ⟨rfl,rfl⟩
  exact⟨Below.refl _ _,⟨λ_=>rfl,λh=>(by rw[hh]at h;cases h),λh=>(by rw[hh]at h;cases h),λh=>(by rw[hh]at h;cases h),λh=>(by rw[hh]at h;cases h)⟩⟩
 ·obtain⟨b,o,rfl,_,h3⟩:=hr.2 (by omega)
  exact loadR_any b o cap L W h3 hcap hlen
theorem LoadResR.err {L:List Int} {base:Nat} {e:Ending} {w':World} (h:LoadResR L base e w') (h0:loadE L≠0):e=.returned (.tuple #[.slice none 0 0,.int .u64 0,.int .i64 (loadE L:Nat)]):=by
 unfold loadE at h0⊢
 by_cases h1:headerOk L=false
 ·rw[if_pos h1];exact h.header h1
 ·rw[if_neg h1]at h0⊢
  have h1':headerOk L=true:=by simpa using h1
  by_cases h2:segsOk L=false
  ·rw[if_pos h2];exact h.segs h1' h2
  ·rw[if_neg h2]at h0⊢
   have h2':segsOk L=true:=by simpa using h2
   by_cases h3:∀k,k<(segN L).toNat→FreeAt L k
   ·rw[if_pos h3]at h0⊢
    by_cases h4:entryOk L=true
    ·rw[if_pos h4]at h0;exact absurd rfl h0
    ·rw[if_neg h4];exact h.entry h1' h2' h3 (by simpa using h4)
   ·rw[if_neg h3];exact h.overlap h1' h2' h3
theorem loadE_ok {L:List Int} (h:loadE L=0):headerOk L=true∧segsOk L=true∧(∀k,k<(segN L).toNat→FreeAt L k)∧entryOk L=true:=by
 unfold loadE at h
 by_cases h1:headerOk L=false
 ·rw[if_pos h1]at h;cases h
 ·rw[if_neg h1]at h
  by_cases h2:segsOk L=false
  ·rw[if_pos h2]at h;cases h
  ·rw[if_neg h2]at h
   by_cases h3:∀k,k<(segN L).toNat→FreeAt L k
   ·rw[if_pos h3]at h
    by_cases h4:entryOk L=true
    ·exact⟨by simpa using h1,by simpa using h2,h3,h4⟩
    ·rw[if_neg h4]at h;cases h
   ·rw[if_neg h3]at h;cases h
theorem LoadRes.err {L:List Int} {base:Nat} {e:Ending} {w':World} (h:LoadRes L base e w') (h0:loadE L≠0):e=.returned (.tuple #[.map none,.int .u64 0,errN (loadE L:Nat)]):=by
 unfold loadE at h0⊢
 by_cases h1:headerOk L=false
 ·rw[if_pos h1];exact h.header h1
 ·rw[if_neg h1]at h0⊢
  have h1':headerOk L=true:=by simpa using h1
  by_cases h2:segsOk L=false
  ·rw[if_pos h2];exact h.segs h1' h2
  ·rw[if_neg h2]at h0⊢
   have h2':segsOk L=true:=by simpa using h2
   by_cases h3:∀k,k<(segN L).toNat→FreeAt L k
   ·rw[if_pos h3]at h0⊢
    by_cases h4:entryOk L=true
    ·rw[if_pos h4]at h0;exact absurd rfl h0
    ·rw[if_neg h4];exact h.entry h1' h2' h3 (by simpa using h4)
   ·rw[if_neg h3];exact h.overlap h1' h2' h3
def refRow (m:Pages):List Value:=(pageNums m).flatMap λn=>refCells n ((m n).getD Pg.zero)
def stackPg (ss:List ByteArray) (n:Nat):Pg:=⟨6,(List.range 256).map λi=>memOf ss (256*n+i)⟩
def withStack (m:Pages) (ss:List ByteArray):Pages:=λn=>if n=254∨n=255 then some (stackPg ss n)else m n
theorem pageNums_stack (m:Pages) (ss:List ByteArray) (h:∀n,254≤n→m n=none):pageNums (withStack m ss)=pageNums m++[254,255]:=by
 unfold pageNums
 have e:List.range 256=List.range 254++[254,255]:=by decide
 rw[e,List.filter_append,List.filter_append]
 have h1:(List.range 254).filter (λn=>(withStack m ss n).isSome)=(List.range 254).filter (λn=>(m n).isSome):=by
  apply List.filter_congr
  intro n hn
  rw[List.mem_range]at hn
  unfold withStack
  rw[if_neg (by omega)]
 have h2:[254,255].filter (λn=>(m n).isSome)=[]:=by simp[h 254 (by omega),h 255 (by omega)]
 have h3:[254,255].filter (λn=>(withStack m ss n).isSome)=[254,255]:=by simp[withStack]
 rw[h1,h2,h3,List.append_nil]
theorem refRow_stack (m:Pages) (ss:List ByteArray) (h:∀n,254≤n→m n=none):refRow (withStack m ss)=refRow m++[254,255].flatMap λn=>refCells n (stackPg ss n):=by
 unfold refRow
 rw[pageNums_stack m ss h,List.flatMap_append]
 congr 1
 have hc:∀(l:List Nat),(∀n∈l,n∈pageNums m)→l.flatMap (λn=>refCells n ((withStack m ss n).getD Pg.zero))=l.flatMap λn=>refCells n ((m n).getD Pg.zero):=by
  intro l
  induction l with
  | nil=>intro _;rfl
  | cons x l ih=>
    intro hl
    rw[List.flatMap_cons,List.flatMap_cons,ih λn hn=>hl n (by simp[hn])]
    congr 1
    have hx:=hl x (by simp)
    have:=List.mem_filter.1 hx
    have hlt:x<254:=by
     refine Classical.byContradiction λhc=>?_
     rw[h x (by omega)]at this
     simp at this
    unfold withStack
    rw[if_neg (by omega)]
 exact hc _ λn hn=>hn
theorem Blk.setCells {w:World} {b:Nat} {c:List Value} {t:TypeId} (h:Blk w b c t):∀(o:Nat) (vs:List Value),o+vs.length≤c.length→Blk (w.setCells b o vs) b (splice c o vs) t:=by
 intro o vs
 induction vs generalizing w c o with
 | nil=>intro _;simpa [World.setCells,splice]using h
 | cons v vs ih=>
   intro hl
   simp only[List.length_cons]at hl
   have:=ih (h.setCell (o:=o) v) (o+1) (by simp;omega)
   rw[World.setCells]
   have e:splice (c.set o v) (o+1) vs=splice c o (v::vs):=by
    have h1:(c.set o v).take (o+1)=c.take o++[v]:=by
     rw[List.take_succ_eq_append_getElem (by simp;omega),List.take_set_of_le (Nat.le_refl _)]
     simp
    have h2:(c.set o v).drop (o+1+vs.length)=c.drop (o+(vs.length+1)):=by
     rw[List.drop_set_of_lt (by omega),show o+1+vs.length=o+(vs.length+1)from by omega]
    unfold splice
    rw[h1,h2]
    simp
   rw[←e]
   exact this
theorem Keep.setCells (w:World) (b:Nat):∀(o:Nat) (vs:List Value),Keep (λq=>q=b) w (w.setCells b o vs):=by
 intro o vs
 induction vs generalizing w o with
 | nil=>exact Keep.refl _ _
 | cons v vs ih=>exact(Keep.setCell w b o v).tr (ih (w.setCell ⟨b,o,none⟩ v) (o+1))
end Go.Proofs.YtjdaddmjpicflaaGreatDoor
