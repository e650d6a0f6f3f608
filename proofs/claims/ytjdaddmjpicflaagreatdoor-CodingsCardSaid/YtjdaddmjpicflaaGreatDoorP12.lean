/- The headers of an executable: the walk of segments. -/
import Derived.Test.YtjdaddmjpicflaaGreatDoorP06
import Derived.Test.YtjdaddmjpicflaaGreatDoorP05
set_option linter.unusedVariables false
set_option linter.unusedSimpArgs false
set_option maxRecDepth 100000
set_option maxHeartbeats 16000000
namespace Go.Proofs.YtjdaddmjpicflaaGreatDoor
open Go.RowKit
theorem segments_any (b cap:Nat) (L:List Int) (w:World) (hb:Bts w b 0 L) (hcap:L.length≤cap) (hlen:L.length≤200000) (hfix:FixVar w) :
 Calls Tryz.prog 111 #[.slice (some ⟨b,0,none⟩) L.length cap] w λe w'=>Bel w w'∧SegRes L w.heap.size e w':=by
 by_cases h64:64≤L.length
 ·go_enter Tryz.func111,Tryz.ntmps111
  go_wp2_with (refine wpList_load_mid rfl 321 _ rfl 1 0 rfl fixedV _ hfix.1 Tryz.underlying321 rfl (by kernel_rfl) ?_)
  go_loopw [18] (λi wr=>∃k:Nat,k≤8∧i=.int .i64 k∧(∀j,j<k→fixedOk L j=true)∧Bel w wr) (λi _=>8-(intOf i).toNat)
  case atStart=>exact⟨0,by omega,rfl,λj hj=>by omega,Below.refl _ _⟩
  case round=>
   obtain⟨k,hk,rfl,hall,kr⟩:=hrel
   have HALL:=xh hall
   clear hall
   by_cases hlt:k<8
   ·obtain⟨a,s,v,hix,hfo,has,hs8,hs1,hv0,hv1⟩:=fixed_at L k hlt
    have HFO:=xh hfo
    clear hfo
    go_wp2_with (first
     | (refine wpList_store_blk rfl 320 (.tmp 5) (.tmp 20) rfl rfl wr.heap.size [.int .i64 a,.int .i64 s,.int .u64 v] [.int .i64 0,.int .i64 0,.int .u64 0] 320 (Blk.new wr _ _) rfl rfl (by kernel_rfl) rfl (by intro v hv;simp at hv;rcases hv with rfl|rfl|rfl<;>rfl) ?_;intro w1 B1 K1
        have c0:=B1.out.cell 0
        have c1:=B1.out.cell 1
        have c2:=B1.out.cell 2
        simp only[List.getElem?_cons_zero,List.getElem?_cons_succ]at c0 c1 c2))
    have k1:Bel w w1:=kr.tr ((Below.heap_alloc' wr _).trans (K1.below _ (by simp) (λk hk=>by omega)))
    have hb1:Bts w1 b 0 L:=hb.keep (Keep.of_bel (λ_=>False) k1) (λ_ h=>h)
    have hwr:IntKind.i64.wrap ((a:Int)+s)=a+s:=by rw[IntKind.wrap_i64];omega
    have hsl:=λw=>slice_part w b L.length cap a s (by omega) (by omega) a (a+s) rfl rfl
    go_quiet ((go_at_call 113;exact Calls.quiet_of_same (number_at b a s _ L _ (hb1.of_cell λ_ _=>rfl) (by omega) hs8)))
    have k2:Bel w (w1.drewN nq):=bel_drewN k1 nq
    have K2:=xh k2
    clear k2 k1 hb1 hsl c0 c1 c2
    cases hq:fixedOk L k with
    | false=>
      have HQ:=xh (header_false_of_fixed hlt hq)
      have hne:(numAt L a s != v)=true:=by have:=HFO.out.symm.trans hq;simp[bne,this]
      clear hq
      go_wp2
      go_ret2
      exact⟨K2.out,SegRes.header HQ.out⟩
    | true=>
      have HQ:=xh hq
      have hne:(numAt L a s != v)=false:=by have:=HFO.out.symm.trans hq;simp[bne,this]
      clear hq
      go_wp2
      go_roundw
      case rel=>exact⟨k+1,by omega,by go_num,upTo_snoc HALL.out HQ.out,K2.out⟩
      case measure=>simp[intOf]<;>omega
   ·obtain rfl:k=8:=by omega
    obtain⟨N,hN⟩:∃N,N=numAt L 56 2:=⟨_,rfl⟩
    have hb2:Bts wr b 0 L:=hb.keep (Keep.of_bel (λ_=>False) kr) (λ_ h=>h)
    have hnum:=number_at b 56 2 (cap-56) L wr hb2 (by omega) (by omega)
    rw[←hN]at hnum
    have hN0:0≤N:=by rw[hN];exact(numAt_u64 L hb.byte 56 2 (by omega)).1
    have hN1:N≤65535:=by
     rw[hN]
     have:=numV_bound ((L.drop 56).take 2) (λx hx=>hb.byte x (List.mem_of_mem_drop (List.mem_of_mem_take hx)))
     rw[show((L.drop 56).take 2).length=2 from by simp;omega]at this
     unfold numAt
     omega
    have hcap2:64≤cap:=by omega
    have HN:=xh hN
    have HNUM:=xh hnum
    clear hN hnum
    have hhead:headerOk L=(decide (1≤N)&&decide (N≤8)&&decide (64+56*N≤L.length)):=by
     have:(List.range 8).all (fixedOk L)=true:=List.all_eq_true.2 λi hi=>HALL.out i (List.mem_range.1 hi)
     simp[headerOk,h64,this,segN,←HN.out]
    have HH:=xh hhead
    clear hhead
    by_cases h1:N<1
    ·have HF:Hid (headerOk L=false):=xh (HH.out.trans (by simp;omega))
     go_wp2_with (go_at_call 113;refine HNUM.out.mono ?_;rintro e w1 ⟨rfl,rfl⟩)
     go_ret2
     exact⟨kr,SegRes.header HF.out⟩
    by_cases h2:8<N
    ·have HF:Hid (headerOk L=false):=xh (HH.out.trans (by simp;omega))
     go_wp2_with (go_at_call 113;refine HNUM.out.mono ?_;rintro e w1 ⟨rfl,rfl⟩)
     go_ret2
     exact⟨kr,SegRes.header HF.out⟩
    by_cases h3:(L.length:Int)<64+56*N
    ·have HF:Hid (headerOk L=false):=xh (HH.out.trans (by simp;omega))
     go_wp2_with (go_at_call 113;refine HNUM.out.mono ?_;rintro e w1 ⟨rfl,rfl⟩)
     go_ret2
     exact⟨kr,SegRes.header HF.out⟩
    have HF:Hid (headerOk L=true):=xh (HH.out.trans (by simp;omega))
    go_wp2_with (go_at_call 113;refine HNUM.out.mono ?_;rintro e w1 ⟨rfl,rfl⟩)
    obtain⟨M,rfl⟩:=Int.eq_ofNat_of_zero_le hN0
    have HSN:Hid (segN L=M):=xh HN.out.symm
    go_loopw [7,56] (λl i wr=>∃k:Nat,k≤M∧i=.int .i64 k∧(∀j,j<k→segOk L j=true)∧wr.ownsRow w.heap.size 264 5 l k ((List.range k).flatMap λi=>(segAt L i).cells)∧Bel w wr) (λ_ i _=>M-(intOf i).toNat)
    case atStart=>exact⟨0,Nat.zero_le _,rfl,λj hj=>by omega,⟨rfl,.inl ⟨rfl,rfl⟩⟩,kr⟩
    case round=>
     obtain⟨k,hk,rfl,hall,hrow,kr⟩:=hrel
     have HALL:=xh hall
     have HROW:=xh hrow
     clear hall hrow HNUM hb2 HH
     by_cases hlt:k<M
     ·have hwr:IntKind.i64.wrap (64+(k:Int)*56)=64+k*56:=by rw[IntKind.wrap_i64];omega
      go_wp2
      obtain⟨h,hh⟩:∃h:Nat,h=64+k*56:=⟨_,rfl⟩
      rw[←hh]
      have hle:h+56≤L.length:=by omega
      have kw:Bel w (wr.alloc (.cells #[.slice (some ⟨b,h,none⟩) (L.length-h) (cap-h)] 32)):=kr.ac _
      have kw2:Bel wr (wr.alloc (.cells #[.slice (some ⟨b,h,none⟩) (L.length-h) (cap-h)] 32)):=Below.heap_alloc' wr _
      have c9:(wr.alloc (.cells #[.slice (some ⟨b,h,none⟩) (L.length-h) (cap-h)] 32)).cell? ⟨wr.heap.size,0,none⟩=some (.slice (some ⟨b,h,none⟩) (L.length-h) (cap-h)):=(Blk.new wr [_] _).cell 0
      have hrow2:=row_bel HROW.out kw2
      have hsz:(wr.alloc (.cells #[.slice (some ⟨b,h,none⟩) (L.length-h) (cap-h)] 32)).heap.size=wr.heap.size+1:=by simp
      generalize (wr.alloc (.cells #[.slice (some ⟨b,h,none⟩) (L.length-h) (cap-h)] 32))=w2 at *
      have hb2:Bts w2 b 0 L:=hb.keep (Keep.of_bel (λ_=>False) kw) (λ_ h=>h)
      have hgb:wr.heap.size<w2.heap.size:=by omega
      have hw0:w.heap.size≤wr.heap.size:=kr.size
      generalize wr.heap.size=g at *
      have hbyte:w2.cell? ⟨b,h+4,none⟩=some (.int .u8 (L.getD (h+4) 0)):=by have:=hb2.at_ (h+4) (by omega);rwa [Nat.zero_add]at this
      have HC:∀(kk:Nat),kk+8≤56→∀W,Bts W b 0 L→W.cell? ⟨g,0,none⟩=some (.slice (some ⟨b,h,none⟩) (L.length-h) (cap-h))→Calls Tryz.prog 152 #[.int .i64 kk,.int .i64 8,.pointer (some ⟨g,0,none⟩)] W λe w'=>e=.returned (.int .u64 (numAt L (h+kk) 8))∧w'=W:=
       λkk hkk W hW hc=>closure_at b (L.length-h) cap h kk 8 g L W hW hcap hlen (by omega) (by omega) (by omega) hc
      obtain⟨pb,so,sa,sf,sm,hseg⟩:∃pb so sa sf sm,segAt L k=⟨pb,so,sa,sf,sm⟩:=⟨_,_,_,_,_,rfl⟩
      have hseg':=hseg
      simp only[segAt,Seg.mk.injEq,show 64+56*k=h from by omega]at hseg'
      obtain⟨hpb,hso,hsa,hsf,hsm⟩:=hseg'
      rw[hpb]at hbyte
      have HSEG:=xh hseg
      clear hseg
      have H8:Hid (∀W,Bts W b 0 L→W.cell? ⟨g,0,none⟩=some (.slice (some ⟨b,h,none⟩) (L.length-h) (cap-h))→Calls Tryz.prog 152 #[.int .i64 8,.int .i64 8,.pointer (some ⟨g,0,none⟩)] W λe w'=>e=.returned (.int .u64 so)∧w'=W):=xh (by have:=HC 8 (by omega);rw[hso]at this;exact this)
      have H16:Hid (∀W,Bts W b 0 L→W.cell? ⟨g,0,none⟩=some (.slice (some ⟨b,h,none⟩) (L.length-h) (cap-h))→Calls Tryz.prog 152 #[.int .i64 16,.int .i64 8,.pointer (some ⟨g,0,none⟩)] W λe w'=>e=.returned (.int .u64 sa)∧w'=W):=xh (by have:=HC 16 (by omega);rw[hsa]at this;exact this)
      have H32:Hid (∀W,Bts W b 0 L→W.cell? ⟨g,0,none⟩=some (.slice (some ⟨b,h,none⟩) (L.length-h) (cap-h))→Calls Tryz.prog 152 #[.int .i64 32,.int .i64 8,.pointer (some ⟨g,0,none⟩)] W λe w'=>e=.returned (.int .u64 sf)∧w'=W):=xh (by have:=HC 32 (by omega);rw[hsf]at this;exact this)
      have H40:Hid (∀W,Bts W b 0 L→W.cell? ⟨g,0,none⟩=some (.slice (some ⟨b,h,none⟩) (L.length-h) (cap-h))→Calls Tryz.prog 152 #[.int .i64 40,.int .i64 8,.pointer (some ⟨g,0,none⟩)] W λe w'=>e=.returned (.int .u64 sm)∧w'=W):=xh (by have:=HC 40 (by omega);rw[hsm]at this;exact this)
      have HSB:=xh (And.intro hpb (And.intro hso (And.intro hsa (And.intro hsf hsm))))
      clear HC hpb hso hsa hsf hsm
      have HROW2:=xh hrow2
      have HHH:=xh hh
      have hbl:b<w2.heap.size:=hb2.lt (by omega)
      clear hrow2 hh hsz
      have hlen4:(4:Int)<((L.length-h:Nat):Int):=by omega
      go_cut [11] (λs11 wx=>∃g2:Nat,s11=.pointer (some ⟨g2,0,none⟩)∧Hid (Blk wx g2 [.int .u8 pb,.int .u64 so,.int .u64 sa,.int .u64 sf,.int .u64 sm] 264)∧Hid (Bel w2 wx))
      case first=>
       go_region_held3 (λw'=>w'.cell? ⟨g,0,none⟩=some (.slice (some ⟨b,h,none⟩) (L.length-h) (cap-h))∧w'.cell? ⟨b,h+4,none⟩=some (.int .u8 pb)∧Bts w' b 0 L)
        (first|(go_keep;done)|(try go_split_ands;refine⟨?_,?_,?_⟩<;>first|assumption|(go_keep;done)|exact bts_drew (by assumption)|exact bts_alloc (by assumption) _|exact bts_drew (bts_alloc (by assumption) _)))
        (first
          | (go_at_call 152;with_reducible refine Calls.mono (H8.out _ ?_ ?_) ?_;(go_split_ands;assumption);(go_split_ands;assumption);rintro e w' ⟨rfl,rfl⟩)
          | (go_at_call 152;with_reducible refine Calls.mono (H16.out _ ?_ ?_) ?_;(go_split_ands;assumption);(go_split_ands;assumption);rintro e w' ⟨rfl,rfl⟩)
          | (go_at_call 152;with_reducible refine Calls.mono (H32.out _ ?_ ?_) ?_;(go_split_ands;assumption);(go_split_ands;assumption);rintro e w' ⟨rfl,rfl⟩)
          | (go_at_call 152;with_reducible refine Calls.mono (H40.out _ ?_ ?_) ?_;(go_split_ands;assumption);(go_split_ands;assumption);rintro e w' ⟨rfl,rfl⟩))
       all_goals (go_wp2_with fail;go_meet;exact⟨w2.heap.size,rfl,xh (Blk.new w2 _ _),xh (Below.drew (Below.heap_alloc' w2 _))⟩)
      case rest=>
       obtain⟨g2,rfl,B2,K2⟩:=hcut
       have hb3:Bts wc b 0 L:=hb2.keep (Keep.of_bel (λ_=>False) K2.out) (λ_ h=>h)
       have c93:wc.cell? ⟨g,0,none⟩=some (.slice (some ⟨b,h,none⟩) (L.length-h) (cap-h)):=(World.cell?_of_block (a:=⟨g,0,none⟩) (K2.out.block g hgb)).trans c9
       have e0:=B2.out.cell 0
       have e1:=B2.out.cell 1
       have e2:=B2.out.cell 2
       have e3:=B2.out.cell 3
       have e4:=B2.out.cell 4
       simp only[List.getElem?_cons_zero,List.getElem?_cons_succ]at e0 e1 e2 e3 e4
       obtain⟨n0,hn0⟩:∃n0,numAt L h 4=n0:=⟨_,rfl⟩
       obtain⟨n4,hn4⟩:∃n4,numAt L (h+4) 4=n4:=⟨_,rfl⟩
       have C0:Hid (Calls Tryz.prog 152 #[.int .i64 0,.int .i64 4,.pointer (some ⟨g,0,none⟩)] wc λe w'=>e=.returned (.int .u64 n0)∧w'=wc):=xh (by
        have:=closure_at b (L.length-h) cap h 0 4 g L wc hb3 hcap hlen (by omega) (by omega) (by omega) c93
        rw[Nat.add_zero,hn0]at this
        exact this)
       have C4:Hid (Calls Tryz.prog 152 #[.int .i64 4,.int .i64 4,.pointer (some ⟨g,0,none⟩)] wc λe w'=>e=.returned (.int .u64 n4)∧w'=wc):=xh (by
        have:=closure_at b (L.length-h) cap h 4 4 g L wc hb3 hcap hlen (by omega) (by omega) (by omega) c93
        rw[hn4]at this
        exact this)
       have bd:=numAt_u64 L hb.byte
       have bo:0≤so∧so<18446744073709551616:=by rw[←HSB.out.2.1];exact bd _ _ (by omega)
       have ba:0≤sa∧sa<18446744073709551616:=by rw[←HSB.out.2.2.1];exact bd _ _ (by omega)
       have bf:0≤sf∧sf<18446744073709551616:=by rw[←HSB.out.2.2.2.1];exact bd _ _ (by omega)
       have bm:0≤sm∧sm<18446744073709551616:=by rw[←HSB.out.2.2.2.2];exact bd _ _ (by omega)
       obtain⟨bo0,bo1⟩:=bo
       obtain⟨ba0,ba1⟩:=ba
       obtain⟨bf0,bf1⟩:=bf
       obtain⟨bm0,bm1⟩:=bm
       have HOK:Hid (segOk L k=(n0==1&&decide (1≤n4)&&decide (n4≤7)&&!(bits .and .u8 pb 3==3)&&!(sm==0)&&decide (sf≤sm)&&
        decide (so≤L.length)&&decide (sf≤L.length-so)&&so%256==sa%256&&decide (sa<65024)&&decide (sm≤65024-sa))):=xh (by
        simp only[segOk,HSEG.out,show 64+56*k=h from by rw[HHH.out];omega,hn0,hn4])
       have KB:Hid (Bel w wc):=xh (kw.tr K2.out)
       have KR:Hid (wc.ownsRow w.heap.size 264 5 u7 k ((List.range k).flatMap λi=>(segAt L i).cells)):=xh (row_bel HROW2.out K2.out)
       clear hn0 hn4 bd H8 H16 H32 H40 HROW2 hbyte
       have F0:Hid (n0≠1→segOk L k=false):=xh λh=>by rw[HOK.out];simp[h]
       have F1:Hid (n4<1→segOk L k=false):=xh λh=>by rw[HOK.out];simp[show ¬1≤n4 from by omega]
       have F2:Hid (7<n4→segOk L k=false):=xh λh=>by rw[HOK.out];simp[show ¬n4≤7 from by omega]
       have F3:Hid ((bits .and .u8 pb 3==3)=true→segOk L k=false):=xh λh=>by rw[HOK.out];simp[h]
       have F4:Hid ((sm==0)=true→segOk L k=false):=xh λh=>by rw[HOK.out];simp[h]
       have F5:Hid (sm<sf→segOk L k=false):=xh λh=>by rw[HOK.out];simp[show ¬sf≤sm from by omega]
       have F6:Hid ((L.length:Int)<so→segOk L k=false):=xh λh=>by rw[HOK.out];simp[show ¬so≤(L.length:Int)from by omega]
       have F7:Hid ((L.length:Int)-so<sf→segOk L k=false):=xh λh=>by rw[HOK.out];simp[show ¬sf≤(L.length:Int)-so from by omega]
       have F8:Hid ((so%256 != sa%256)=true→segOk L k=false):=xh λh=>by rw[HOK.out];simp[show ¬so%256=sa%256 from by simpa using h]
       have F9:Hid (65024≤sa→segOk L k=false):=xh λh=>by rw[HOK.out];simp[show ¬sa<65024 from by omega]
       have F10:Hid (65024-sa<sm→segOk L k=false):=xh λh=>by rw[HOK.out];simp[show ¬sm≤65024-sa from by omega]
       have FT:Hid (n0=1→1≤n4→n4≤7→(bits .and .u8 pb 3==3)=false→(sm==0)=false→sf≤sm→so≤(L.length:Int)→sf≤(L.length:Int)-so→(so%256 != sa%256)=false→sa<65024→sm≤65024-sa→segOk L k=true):=xh λh0 h1 h2 h3 h4 h5 h6 h7 h8 h9 h10=>by
        have h8':so%256=sa%256:=by simpa using h8
        rw[HOK.out];simp only[h0,h3,h4,h8',h1,h2,h5,h6,h7,h9,h10];simp
       have HSL:Hid ((List.range (k+1)).flatMap (λi=>(segAt L i).cells)=(List.range k).flatMap (λi=>(segAt L i).cells)++[.int .u8 pb,.int .u64 so,.int .u64 sa,.int .u64 sf,.int .u64 sm]):=xh (by
        rw[List.range_succ,List.flatMap_append,List.flatMap_singleton,HSEG.out];rfl)
       by_cases q0:n0=1
       ·subst q0
        go_wp2_with (first
         | (go_at_call 152;with_reducible refine Calls.mono C0.out ?_;rintro e w' ⟨rfl,rfl⟩)
         | (go_at_call 152;with_reducible refine Calls.mono C4.out ?_;rintro e w' ⟨rfl,rfl⟩)
         | (refine wpList_load_mid rfl 264 (.tmp 11) rfl g2 0 rfl [.int .u8 pb,.int .u64 so,.int .u64 sa,.int .u64 sf,.int .u64 sm] _ (by have:=B2.out.range 0;simpa using this) Tryz.underlying264 rfl (by kernel_rfl) ?_)
         | (refine wpList_buildSlice_one rfl 260 264 (.tmp 133) rfl [.int .u8 pb,.int .u64 so,.int .u64 sa,.int .u64 sf,.int .u64 sm] rfl Tryz.underlying260 segInfo (by show 0<5;omega) (by show 5≤2^24;omega) ?_;intro w5 B5 K5)
         | (refine wpList_append_one rfl (.tmp 132) (.tmp 134) 260 rfl Tryz.underlying260 segInfo (by omega) rfl (row_bel KR.out K5) _ [.int .u8 pb,.int .u64 so,.int .u64 sa,.int .u64 sf,.int .u64 sm] 264 rfl B5.out rfl (by intro v hv;simp at hv;rcases hv with rfl|rfl|rfl|rfl|rfl<;>rfl) (by unfold maxLen;omega) (by omega) (Nat.le_trans KB.out.size K5.size) ?_;intro v6 w6 R6 K6))
        all_goals first
         | (go_ret2
            refine⟨KB.out,SegRes.seg HF.out k (by rw[HSN.out];omega) ?_⟩
            first|exact F1.out (by assumption)|exact F2.out (by assumption)|exact F3.out (by assumption)|exact F4.out (by assumption)|exact F5.out (by assumption)|exact F6.out (by assumption)|exact F7.out (by assumption)|exact F8.out (by assumption)|exact F9.out (by assumption)|exact F10.out (by assumption))
         | skip
        exact⟨⟨k+1,by omega,by go_num,upTo_snoc HALL.out (FT.out (by trivial) (by assumption) (by assumption) (by assumption) (by assumption) (by assumption) (by assumption) (by assumption) (by assumption) (by assumption) (by assumption)),by rw[HSL.out];exact R6,
         (KB.out.tr K5).trans (K6.below _ (Nat.le_trans KB.out.size K5.size) λi hi=>hi)⟩,by simp only[intOf];omega⟩
       ·have HF0:=xh (F0.out q0)
        have q1:(n0 != 1)=true:=by simpa using q0
        clear q0
        go_wp2_with (go_at_call 152;with_reducible refine Calls.mono C0.out ?_;rintro e w' ⟨rfl,rfl⟩)
        go_ret2
        exact⟨KB.out,SegRes.seg HF.out k (by rw[HSN.out];omega) HF0.out⟩
     ·obtain rfl:k=M:=by omega
      go_wp2
      go_ret2
      exact⟨kr,SegRes.ok HF.out (λi hi=>HALL.out i (by rw[HSN.out]at hi;omega)) (by rw[HSN.out];exact HROW.out)⟩
 ·have hh:headerOk L=false:=by simp[headerOk,h64]
  have HH:=xh hh
  clear hh
  go_enter Tryz.func111,Tryz.ntmps111
  go_wp2
  go_ret2
  exact⟨Below.refl _ _,SegRes.header HH.out⟩
end Go.Proofs.YtjdaddmjpicflaaGreatDoor
namespace Go.Proofs.YtjdaddmjpicflaaGreatDoor
open Go.RowKit Go.Maps
def spaceTo (L:List Int):Nat→Pages
 | 0=>λ_=>none
 | k+1=>layTo (spaceTo L k) L (segAt L k) ((segAt L k).last+1)
def FreeAt (L:List Int) (k:Nat):Prop:=∀n,(segAt L k).first≤n→n≤(segAt L k).last→spaceTo L k n=none
theorem segFits (L:List Int) (hb:∀x∈L,0≤x∧x≤255) (i:Nat) (hl:64+56*i+56≤L.length) (h:segOk L i=true):SegFits L (segAt L i):=by
 simp only[segOk,Bool.and_eq_true,beq_iff_eq,decide_eq_true_eq,Bool.not_eq_true',beq_eq_false_iff_ne]at h
 obtain⟨⟨⟨⟨⟨⟨⟨⟨⟨⟨_,h1⟩,h2⟩,_⟩,h4⟩,h5⟩,h6⟩,h7⟩,_⟩,h9⟩,h10⟩:=h
 have hu:=λk=>numAt_u64 L hb k 8 (by omega)
 have hp:0≤(segAt L i).perm∧(segAt L i).perm≤7:=by
  have e:numAt L (64+56*i+4) 4=L.getD (64+56*i+4) 0+256*numV ((L.drop (64+56*i+5)).take 3):=by
   unfold numAt
   rw[List.drop_eq_getElem_cons (by omega:64+56*i+4<L.length),List.take_succ_cons,numV,List.getD_eq_getElem?_getD,List.getElem?_eq_getElem (by omega)]
   rfl
  have h3:=numV_bound ((L.drop (64+56*i+5)).take 3) λx hx=>hb x (List.mem_of_mem_drop (List.mem_of_mem_take hx))
  have hx:0≤L.getD (64+56*i+4) 0:=by
   rw[List.getD_eq_getElem?_getD,List.getElem?_eq_getElem (by omega)]
   exact(hb _ (List.getElem_mem _)).1
  have:(segAt L i).perm=L.getD (64+56*i+4) 0:=rfl
  rw[this]
  omega
 have a0:(segAt L i).off=numAt L (64+56*i+8) 8:=rfl
 have a1:(segAt L i).addr=numAt L (64+56*i+16) 8:=rfl
 have a2:(segAt L i).file=numAt L (64+56*i+32) 8:=rfl
 have a3:(segAt L i).mem=numAt L (64+56*i+40) 8:=rfl
 have u0:=hu (64+56*i+8)
 have u1:=hu (64+56*i+16)
 have u2:=hu (64+56*i+32)
 have u3:=hu (64+56*i+40)
 exact⟨hp,by omega,by omega,by omega,by omega,by omega,by omega,by omega⟩
theorem segPage_wf (L:List Int) (hb:∀x∈L,0≤x∧x≤255) (s:Seg) (hp:0≤s.perm∧s.perm≤7) (n:Nat):(segPage L s n).wf:=by
 refine⟨by simp[segPage],λx hx=>?_,hp⟩
 obtain⟨j,_,rfl⟩:=List.mem_map.1 hx
 unfold segByte
 split
 ·rw[List.getD_eq_getElem?_getD]
  cases h:L[(s.off+(256*(n:Int)+j-s.addr)).toNat]? with
  | none=>simp[IsByte]
  | some x=>exact hb x (List.mem_of_getElem? h)
 ·simp[IsByte]
theorem spaceTo_wf (L:List Int) (hb:∀x∈L,0≤x∧x≤255) (N:Nat) (hN:∀i,i<N→SegFits L (segAt L i)):∀k,k≤N→PagesOk (spaceTo L k)
 | 0,_=>⟨λ_ _=>rfl,λn p h=>by cases h⟩
 | k+1,hk=>by
   have ih:=spaceTo_wf L hb N hN k (by omega)
   have hf:=hN k (by omega)
   have hl:(segAt L k).last<254:=by
    unfold Seg.last
    have:=hf.top;have:=hf.mem;have:=hf.addr
    omega
   refine⟨λn hn=>?_,λn p h=>?_⟩
   ·simp only[spaceTo,layTo]
    rw[if_neg (by omega)]
    exact ih.below n hn
   ·simp only[spaceTo,layTo]at h
    split at h
    ·injection h with h
     subst h
     exact segPage_wf L hb _ hf.perm n
    ·exact ih.wf n p h
def segsOk (L:List Int):Bool:=(List.range (segN L).toNat).all (segOk L)
def entryOk (L:List Int):Bool:=numAt L 24 8%4==0&&mayB (spaceTo L (segN L).toNat) (numAt L 24 8) 1 1
structure LoadRes (L:List Int) (base:Nat) (e:Ending) (w':World):Prop where
 header:headerOk L=false→e=.returned (.tuple #[.map none,.int .u64 0,errN 2])
 segs:headerOk L=true→segsOk L=false→e=.returned (.tuple #[.map none,.int .u64 0,errN 3])
 overlap:headerOk L=true→segsOk L=true→(¬∀k,k<(segN L).toNat→FreeAt L k)→e=.returned (.tuple #[.map none,.int .u64 0,errN 4])
 entry:headerOk L=true→segsOk L=true→(∀k,k<(segN L).toNat→FreeAt L k)→entryOk L=false→e=.returned (.tuple #[.map none,.int .u64 0,errN 5])
 ok:headerOk L=true→segsOk L=true→(∀k,k<(segN L).toNat→FreeAt L k)→entryOk L=true→∃mb,e=.returned (.tuple #[.map (some mb),.int .u64 (numAt L 24 8),.nilIface])∧base≤mb∧Sp w' mb (spaceTo L (segN L).toNat)
theorem Sp.new (w:World):Sp (w.alloc (.map #[] 0)) w.heap.size (λ_=>none):=
 ⟨[],Mp.new keyI w,λn=>rfl,λp hp=>by cases hp⟩
theorem loadM_any (b cap:Nat) (L:List Int) (w:World) (hb:Bts w b 0 L) (hcap:L.length≤cap) (hlen:L.length≤200000) (hfix:FixVar w) :
 Calls Tryz.prog 69 #[.slice (some ⟨b,0,none⟩) L.length cap] w λe w'=>Bel w w'∧LoadRes L w.heap.size e w':=by
 have hseg:=segments_any b cap L w hb hcap hlen hfix
 cases hh:headerOk L with
 | false=>
   have hs2:=hseg.mono (λe w' (h:Bel w w'∧SegRes L w.heap.size e w')=>And.intro (h.2.1 hh) h.1)
   have HS:=xh hs2
   have HH:=xh hh
   clear hseg hs2 hh
   go_enter Tryz.func69,Tryz.ntmps69
   go_wp2_with (go_at_call 111;with_reducible refine Calls.mono HS.out ?_;rintro e w1 ⟨rfl,k1⟩)
   go_ret3
   have hx:headerOk L≠true:=by rw[HH.out];decide
   exact⟨k1,⟨λ_=>rfl,λh=>absurd h hx,λh=>absurd h hx,λh=>absurd h hx,λh=>absurd h hx⟩⟩
 | true=>
   cases hs:segsOk L with
   | false=>
     have hs2:=hseg.mono (λe w' (h:Bel w w'∧SegRes L w.heap.size e w')=>And.intro (h.2.2.1 hh hs) h.1)
     have HS:=xh hs2
     have HH:=xh hh
     have HO:=xh hs
     clear hseg hs2 hh hs
     go_enter Tryz.func69,Tryz.ntmps69
     go_wp2_with (go_at_call 111;with_reducible refine Calls.mono HS.out ?_;rintro e w1 ⟨rfl,k1⟩)
     go_ret3
     have hx:segsOk L≠true:=by rw[HO.out];decide
     have hy:headerOk L≠false:=by rw[HH.out];decide
     exact⟨k1,⟨λh=>absurd h hy,λ_ _=>rfl,λ_ h=>absurd h hx,λ_ h=>absurd h hx,λ_ h=>absurd h hx⟩⟩
   | true=>
     have hs2:=hseg.mono (λe w' (h:Bel w w'∧SegRes L w.heap.size e w')=>And.intro (h.2.2.2 hh hs) h.1)
     obtain⟨N,hN⟩:∃N,(segN L).toNat=N:=⟨_,rfl⟩
     rw[hN]at hs2
     have HS:=xh hs2
     have HH:=xh hh
     have HO:=xh hs
     have hhead:1≤segN L∧segN L≤8∧64+56*segN L≤L.length:=by
      have:=hh
      simp only[headerOk,Bool.and_eq_true,decide_eq_true_eq]at this
      exact⟨this.1.1.2,this.1.2,this.2⟩
     have hN8:N≤8:=by omega
     have hN1:1≤N:=by omega
     have hNL:64+56*N≤L.length:=by omega
     have hfit:∀i,i<N→SegFits L (segAt L i):=λi hi=>segFits L hb.byte i (by omega) (List.all_eq_true.1 hs i (List.mem_range.2 (by omega)))
     have HFIT:=xh hfit
     have HWF:=xh (spaceTo_wf L hb.byte N hfit)
     have HN:=xh hN
     have hmm:∀w,(Instr.makeMap 113 none).run Tryz.prog w=.ok (.map (some w.heap.size)) (w.alloc (.map #[] 0)):=λw=>by kernel_rfl
     clear hseg hs2 hh hs hhead hN hfit
     go_enter Tryz.func69,Tryz.ntmps69
     go_wp2_with (go_at_call 111;with_reducible refine Calls.mono HS.out ?_;rintro e w1 ⟨⟨v,rfl,hrow⟩,k1⟩
                  obtain⟨ps,cp,rfl,hcp,hcm,hps⟩:=row_slice hrow
                  have HROW:=xh hrow
                  have HPS:=xh hps
                  clear hrow hps)
     have k2:Bel w1 (w1.alloc (.map #[] 0)):=Below.heap_alloc' w1 _
     have hsn:Sp (w1.alloc (.map #[] 0)) w1.heap.size (spaceTo L 0):=Sp.new w1
     have hmb:w.heap.size≤w1.heap.size:=k1.size
     have hgs:∀g,g<w1.heap.size→g≠w1.heap.size:=λg h=>by omega
     have HGS:=xh hgs
     clear hgs
     generalize w1.alloc (.map #[] 0)=w2 at *
     have HK2:=xh k2
     have hsz2:w1.heap.size<w2.heap.size:=hsn.lt
     generalize hmbe:w1.heap.size=mb at *
     have HMBE:=xh hmbe
     clear hmbe
     have HKW:Hid (Bel w w2):=xh (k1.tr HK2.out)
     go_loopw [22] (λi wr=>∃k:Nat,k≤N∧i=.int .i64 k∧Sp wr mb (spaceTo L k)∧Keep (λi=>i=mb) w2 wr∧∀j,j<k→FreeAt L j) (λi _=>N-(intOf i).toNat)
     case atStart=>exact⟨0,Nat.zero_le _,rfl,hsn,Keep.refl _ _,λj hj=>by omega⟩
     case round=>
      obtain⟨k,hk,rfl,hsr,hkr,hall⟩:=hrel
      have HALL:=xh hall
      have HSR:=xh hsr
      clear hall hsr
      by_cases hlt:k<N
      ·obtain⟨gs,rfl,hb0,hb1,hcl,_⟩:=HPS.out.resolve_left (by omega)
       have hrange:wr.rangeAt gs (k*5) (segAt L k).cells:=λj v hv=>by
        have hj:j<5:=by have:=(List.getElem?_eq_some_iff.1 hv).1;simpa [Seg.cells]using this
        have hgl:gs<w2.heap.size:=Nat.lt_of_lt_of_le hb1 (Nat.le_of_lt hsz2)
        rw[hkr.cell ⟨gs,k*5+j,none⟩ hgl (HGS.out gs hb1),World.cell?_of_block (a:=⟨gs,k*5+j,none⟩) (HK2.out.block gs (by rw[HMBE.out];exact hb1)),hcl _ (by rw[flat_length _ 5 _ (λ_ _=>rfl)];simp;omega),flat_at _ 5 _ (λ_ _=>rfl) k j hj]
        rw[List.getElem?_range hlt]
        exact hv
       have HR:=xh hrange
       clear hrange hcl
       have hbr:Bts wr b 0 L:=(hb.keep (Keep.of_bel (λ_=>False) HKW.out) (λ_ h=>h)).keep hkr (λh0=>hsn.ne (hb.keep (Keep.of_bel (λ_=>False) HKW.out) (λ_ h=>h)) h0)
       have hf:=HFIT.out k hlt
       have hw:=HWF.out k (by omega)
       obtain⟨s,hs⟩:∃s,segAt L k=s:=⟨_,rfl⟩
       rw[hs]at HR hf
       have hlay:=λW (hW:Sp W mb (spaceTo L k)) (hB:Bts W b 0 L)=>lay_any mb b cap (spaceTo L k) L s.perm s.off s.addr s.file s.mem W hW hw.wf hB hcap hlen hf
       have HSG:=xh hs
       have HBR:=xh hbr
       by_cases hfree:FreeAt L k
       ·have HLF:Hid (∀W,Sp W mb (spaceTo L k)→Bts W b 0 L→Calls Tryz.prog 112 #[.map (some mb),.agg s.cells.toArray,.slice (some ⟨b,0,none⟩) L.length cap] W λe w'=>e=.returned (.bool true)∧(Keep (λk=>k=mb) W w'∧Sp w' mb (spaceTo L (k+1)))):=xh λW hW hB=>
         (hlay W hW hB).mono λe w' h=>by
          have h2:=h.2.2 (λn h1 h2=>hfree n (by rw[hs];exact h1) (by rw[hs];exact h2))
          exact⟨h2.1,h.1,by simp only[spaceTo];rw[hs];exact h2.2⟩
        have HFREE:=xh hfree
        clear hlay hs hbr hw hf hfree
        go_wp2_with (first
        | (refine wpList_load_mid rfl 264 (.tmp 24) rfl gs (k*5) rfl s.cells _ HR.out Tryz.underlying264 rfl (by kernel_rfl) ?_)
        | (refine wpList_store_blk rfl 264 (.tmp 9) (.tmp 25) rfl rfl wr.heap.size s.cells [.int .u8 0,.int .u64 0,.int .u64 0,.int .u64 0,.int .u64 0] 264 (Blk.new wr _ _) rfl rfl (by kernel_rfl) rfl (by intro v hv;simp[Seg.cells]at hv;rcases hv with rfl|rfl|rfl|rfl|rfl<;>rfl) ?_;intro w3 B3 K3)
        | (refine wpList_load_mid rfl 264 (.tmp 9) rfl wr.heap.size 0 rfl s.cells _ (by have:=B3.out.range 0;simpa using this) Tryz.underlying264 rfl (by kernel_rfl) ?_)
        | (go_at_call 112
           have kc:Bel wr w3:=(Below.heap_alloc' wr _).trans (K3.below _ (by simp) (λk hk=>by omega))
           refine Calls.mono (HLF.out w3 (HSR.out.bel kc) (HBR.out.keep (Keep.of_bel (λ_=>False) kc) (λ_ h=>h))) ?_
           rintro e w5 ⟨rfl,r5⟩))
        exact⟨⟨k+1,by omega,by go_num,r5.2,hkr.tr ((Keep.of_bel _ kc).tr r5.1),upTo_snoc HALL.out HFREE.out⟩,by simp only[intOf];omega⟩
       ·have hnf:∃n,s.first≤n∧n≤s.last∧spaceTo L k n≠none:=by
         refine Classical.byContradiction λhc=>hfree λn h1 h2=>Classical.byContradiction λh3=>hc ⟨n,by rw[←hs];exact h1,by rw[←hs];exact h2,h3⟩
        have HLF:Hid (∀W,Sp W mb (spaceTo L k)→Bts W b 0 L→Calls Tryz.prog 112 #[.map (some mb),.agg s.cells.toArray,.slice (some ⟨b,0,none⟩) L.length cap] W λe w'=>e=.returned (.bool false)∧Keep (λk=>k=mb) W w'):=xh λW hW hB=>
         (hlay W hW hB).mono λe w' h=>⟨h.2.1 hnf,h.1⟩
        have HFREE:=xh hfree
        clear hlay hs hbr hw hf hfree hnf
        go_wp2_with (first
        | (refine wpList_load_mid rfl 264 (.tmp 24) rfl gs (k*5) rfl s.cells _ HR.out Tryz.underlying264 rfl (by kernel_rfl) ?_)
        | (refine wpList_store_blk rfl 264 (.tmp 9) (.tmp 25) rfl rfl wr.heap.size s.cells [.int .u8 0,.int .u64 0,.int .u64 0,.int .u64 0,.int .u64 0] 264 (Blk.new wr _ _) rfl rfl (by kernel_rfl) rfl (by intro v hv;simp[Seg.cells]at hv;rcases hv with rfl|rfl|rfl|rfl|rfl<;>rfl) ?_;intro w3 B3 K3)
        | (refine wpList_load_mid rfl 264 (.tmp 9) rfl wr.heap.size 0 rfl s.cells _ (by have:=B3.out.range 0;simpa using this) Tryz.underlying264 rfl (by kernel_rfl) ?_)
        | (go_at_call 112
           have kc:Bel wr w3:=(Below.heap_alloc' wr _).trans (K3.below _ (by simp) (λk hk=>by omega))
           refine Calls.mono (HLF.out w3 (HSR.out.bel kc) (HBR.out.keep (Keep.of_bel (λ_=>False) kc) (λ_ h=>h))) ?_
           rintro e w5 ⟨rfl,r5⟩))
        go_ret3
        have hkk:Keep (λi=>i=mb) w2 w5:=hkr.tr ((Keep.of_bel _ kc).tr r5)
        have hno:¬∀k,k<(segN L).toNat→FreeAt L k:=λh=>HFREE.out (h k (by rw[HN.out];exact hlt))
        have hy:headerOk L≠false:=by rw[HH.out];decide
        have hz:segsOk L≠false:=by rw[HO.out];decide
        exact⟨Below.trans HKW.out (hkk.below _ HKW.out.size (λi hi=>by omega)),⟨λh=>absurd h hy,λ_ h=>absurd h hz,λ_ _ _=>rfl,λ_ _ h=>absurd h hno,λ_ _ h=>absurd h hno⟩⟩
      ·obtain rfl:k=N:=by omega
       have hbr:Bts wr b 0 L:=(hb.keep (Keep.of_bel (λ_=>False) HKW.out) (λ_ h=>h)).keep hkr (λh0=>hsn.ne (hb.keep (Keep.of_bel (λ_=>False) HKW.out) (λ_ h=>h)) h0)
       have hfree:∀j,j<(segN L).toNat→FreeAt L j:=by rw[HN.out];exact HALL.out
       have hbel:Bel w wr:=Below.trans HKW.out (hkr.below _ HKW.out.size (λi hi=>by omega))
       have hy:headerOk L≠false:=by rw[HH.out];decide
       have hz:segsOk L≠false:=by rw[HO.out];decide
       obtain⟨E,hE⟩:∃E,numAt L 24 8=E:=⟨_,rfl⟩
       have hEb:=numAt_u64 L hb.byte 24 8 (by omega)
       rw[hE]at hEb
       obtain⟨hE0,hE1⟩:=hEb
       have hnum:=number_at b 24 8 (cap-24) L wr hbr (by omega) (by omega)
       rw[hE]at hnum
       have hmay:=may_any mb (spaceTo L k) E 1 1 wr HSR.out hE0 hE1 (by omega) (by omega)
       have hent:entryOk L=(E%4==0&&mayB (spaceTo L k) E 1 1):=by unfold entryOk;rw[HN.out,hE]
       have HNUM:=xh hnum
       have HMAY:=xh hmay
       have HENT:=xh hent
       have HE:=xh hE
       have HFR:=xh hfree
       have HBEL:=xh hbel
       have HCAP:64≤cap:=by omega
       clear hnum hmay hent hE hfree hbel hbr
       by_cases q:E%4=0
       ·cases hm:mayB (spaceTo L k) E 1 1 with
        | true=>
          have HO2:Hid (entryOk L=true):=xh (by rw[HENT.out,hm];simp[q])
          rw[hm]at HMAY
          have q1:(E%4 != 0)=false:=by simp[q]
          clear hm q
          go_wp2_with (first
           | (go_at_call 113;with_reducible refine Calls.mono HNUM.out ?_;rintro e wx ⟨rfl,h⟩;subst h)
           | (go_at_call 114;with_reducible refine Calls.mono HMAY.out ?_;rintro e wx ⟨rfl,h⟩;subst h))
          go_ret3
          exact⟨HBEL.out,⟨λh=>absurd h hy,λ_ h=>absurd h hz,λ_ _ h=>absurd HFR.out h,λ_ _ _ h=>absurd HO2.out (by rw[h];decide),λ_ _ _ _=>⟨mb,by rw[HE.out];try rfl,hmb,by rw[HN.out];exact HSR.out⟩⟩⟩
        | false=>
          have HO2:Hid (entryOk L=false):=xh (by rw[HENT.out,hm];simp)
          rw[hm]at HMAY
          have q1:(E%4 != 0)=false:=by simp[q]
          clear hm q
          go_wp2_with (first
           | (go_at_call 113;with_reducible refine Calls.mono HNUM.out ?_;rintro e wx ⟨rfl,h⟩;subst h)
           | (go_at_call 114;with_reducible refine Calls.mono HMAY.out ?_;rintro e wx ⟨rfl,h⟩;subst h))
          go_ret3
          exact⟨HBEL.out,⟨λh=>absurd h hy,λ_ h=>absurd h hz,λ_ _ h=>absurd HFR.out h,λ_ _ _ _=>rfl,λ_ _ _ h=>absurd HO2.out (by rw[h];decide)⟩⟩
       ·have HO2:Hid (entryOk L=false):=xh (by rw[HENT.out];simp[q])
        have q1:(E%4 != 0)=true:=by simp[q]
        clear q
        go_wp2_with (first
         | (go_at_call 113;with_reducible refine Calls.mono HNUM.out ?_;rintro e wx ⟨rfl,h⟩;subst h))
        go_ret3
        exact⟨HBEL.out,⟨λh=>absurd h hy,λ_ h=>absurd h hz,λ_ _ h=>absurd HFR.out h,λ_ _ _ _=>rfl,λ_ _ _ h=>absurd HO2.out (by rw[h];decide)⟩⟩
end Go.Proofs.YtjdaddmjpicflaaGreatDoor
