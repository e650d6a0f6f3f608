/-.-/
import Derived.Test.YtcnjjchlebmfiaaGreatDoorP08
set_option linter.all false
set_option maxRecDepth 100000
set_option maxHeartbeats 16000000
namespace Go.Proofs.YtcnjjchlebmfiaaGreatDoor
section
open Go.Proofs.Tryz Go.RowKit
theorem Hy(b cap:Nat)(L:List Int)(w:World)(hb:jF w b 0 L)(hcap:L.length≤cap)(hlen:L.length≤200000)(hfix:iG w) :
 Calls prog 178 #[.slice (b,0) L.length cap] w λe w'=>Bel w w'∧iU L w.heap.size e w':=by
 by_cases h64:64≤L.length
 ·go_enter func178,ntmps178
  go_wp2_with (refine wpList_load_mid rfl 403 _ rfl 2 0 rfl Az _ hfix.1 underlying403 rfl (by kernel_rfl) ?_)
  go_loopw [18] (λi wr=>∃k:Nat,k≤8∧i=.int .i64 k∧(∀j,j<k→iW L j=true)∧Bel w wr) (λi _=>8-(intOf i).toNat)
  case atStart=>exact⟨0,by omega,rfl,λj hj=>by omega,Below.refl _ _⟩
  case round=>
   obtain⟨k,hk,rfl,hall,kr⟩:=hrel;have nX:=xh hall;clear hall;by_cases hlt:k<8
   ·obtain⟨a,s,v,hix,hfo,has,hs8,hs1,hv0,hv1⟩:=VQ L k hlt
    have HFO:=xh hfo;clear hfo
    go_wp2_with (first
     | (refine aA rfl 402 (.tmp 5) (.tmp 20) rfl rfl wr.heap.size [.int .i64 a,.int .i64 s,.int .u64 v] [(0:Int),(0:Int),.int .u64 0] 402 (Blk.new wr _ _) rfl rfl (by kernel_rfl) rfl (by intro v hv;simp at hv;rcases hv with rfl|rfl|rfl<;>rfl) ?_;intro w1 B1 K1
        have c0:=B1.out.cell 0;have c1:=B1.out.cell 1;have c2:=B1.out.cell 2;simp only[List.getElem?_cons_zero,List.getElem?_cons_succ]at c0 c1 c2))
    have k1:Bel w w1:=kr.tr ((Below.heap_alloc' wr _).trans (K1.below _ (by simp) (λk hk=>by omega)));have hb1:jF w1 b 0 L:=hb.keep (Keep.of_bel (λ_=>False) k1) (λ_ h=>h);have hwr:IntKind.i64.wrap ((a:Int)+s)=a+s:=by rw[IntKind.wrap_i64];omega
    have hsl:=λw=>L8 w b L.length cap a s (by omega) (by omega) a (a+s) rfl rfl;go_quiet ((go_at_call 145;exact Calls.quiet_of_same (sU b a s _ L _ (hb1.of_cell λ_ _=>rfl) (by omega) hs8)))
    have k2:Bel w (w1.drewN nq):=aj k1 nq;have K2:=xh k2;clear k2 k1 hb1 hsl c0 c1 c2;cases hq:iW L k with
    | false=>
      have HQ:=xh (qM hlt hq);have hne:(numAt L a s != v)=true:=by have:=HFO.o.symm.trans hq;simp[bne,this]
      clear hq;go_wp2
      go_ret2
      exact⟨K2.o,iU.header HQ.o⟩
    | true=>
      have HQ:=xh hq;have hne:(numAt L a s != v)=false:=by have:=HFO.o.symm.trans hq;simp[bne,this]
      clear hq;go_wp2
      go_roundw
      case rel=>exact⟨k+1,by omega,by go_num,iQ nX.o HQ.o,K2.o⟩
      case measure=>simp[intOf]<;>omega
   ·obtain rfl:k=8:=by omega
    obtain⟨N,hN⟩:∃N,N=numAt L 56 2:=⟨_,rfl⟩;have hb2:jF wr b 0 L:=hb.keep (Keep.of_bel (λ_=>False) kr) (λ_ h=>h);have hnum:=sU b 56 2 (cap-56) L wr hb2 (by omega) (by omega);rw[←hN]at hnum;have hN0:0≤N:=by rw[hN];exact(jo L hb.byte 56 2 (by omega)).1
    have hN1:N≤65535:=by
     rw[hN];have:=jM ((L.drop 56).take 2) (λx hx=>hb.byte x (List.mem_of_mem_drop (List.mem_of_mem_take hx)));rw[show((L.drop 56).take 2).length=2 from by simp;omega]at this;unfold numAt;omega
    have hcap2:64≤cap:=by omega
    have HN:=xh hN;have yF:=xh hnum;clear hN hnum;have hhead:ay L=(decide (1≤N)&&decide (N≤8)&&decide (64+56*N≤L.length)):=by
     have:(List.range 8).all (iW L)=true:=List.all_eq_true.2 λi hi=>nX.o i (List.mem_range.1 hi);simp[ay,h64,this,dQ,←HN.o]
    have HH:=xh hhead;clear hhead;by_cases h1:N<1
    ·have HF:Hid (ay L=false):=xh (HH.o.trans (by simp;omega))
     go_wp2_with (go_at_call 145;refine yF.o.mono ?_;rintro e w1 ⟨rfl,rfl⟩)
     go_ret2
     exact⟨kr,iU.header HF.o⟩
    by_cases h2:8<N
    ·have HF:Hid (ay L=false):=xh (HH.o.trans (by simp;omega))
     go_wp2_with (go_at_call 145;refine yF.o.mono ?_;rintro e w1 ⟨rfl,rfl⟩)
     go_ret2
     exact⟨kr,iU.header HF.o⟩
    by_cases h3:(L.length:Int)<64+56*N
    ·have HF:Hid (ay L=false):=xh (HH.o.trans (by simp;omega))
     go_wp2_with (go_at_call 145;refine yF.o.mono ?_;rintro e w1 ⟨rfl,rfl⟩)
     go_ret2
     exact⟨kr,iU.header HF.o⟩
    have HF:Hid (ay L=true):=xh (HH.o.trans (by simp;omega));go_wp2_with (go_at_call 145;refine yF.o.mono ?_;rintro e w1 ⟨rfl,rfl⟩)
    obtain⟨M,rfl⟩:=Int.eq_ofNat_of_zero_le hN0;have HSN:Hid (dQ L=M):=xh HN.o.symm
    go_loopw [7,56] (λl i wr=>∃k:Nat,k≤M∧i=.int .i64 k∧(∀j,j<k→fZ L j=true)∧wr.ownsRow w.heap.size 321 5 l k ((List.range k).flatMap λi=>(aV L i).cells)∧Bel w wr) (λ_ i _=>M-(intOf i).toNat)
    case atStart=>exact⟨0,Nat.zero_le _,rfl,λj hj=>by omega,⟨rfl,.inl ⟨rfl,rfl⟩⟩,kr⟩
    case round=>
     obtain⟨k,hk,rfl,hall,hrow,kr⟩:=hrel;have nX:=xh hall;have gU:=xh hrow;clear hall hrow yF hb2 HH;by_cases hlt:k<M
     ·have hwr:IntKind.i64.wrap (64+(k:Int)*56)=64+k*56:=by rw[IntKind.wrap_i64];omega
      go_wp2
      obtain⟨h,hh⟩:∃h:Nat,h=64+k*56:=⟨_,rfl⟩;rw[←hh];have hle:h+56≤L.length:=by omega
      have kw:Bel w (wr.alloc (.cells #[.slice (some ⟨b,h,none⟩) (L.length-h) (cap-h)] 59)):=kr.ac _;have kw2:Bel wr (wr.alloc (.cells #[.slice (some ⟨b,h,none⟩) (L.length-h) (cap-h)] 59)):=Below.heap_alloc' wr _;have c9:(wr.alloc (.cells #[.slice (some ⟨b,h,none⟩) (L.length-h) (cap-h)] 59)).cell? (wr.heap.size,0)=some (.slice (some ⟨b,h,none⟩) (L.length-h) (cap-h)):=(Blk.new wr [_] _).cell 0;have hrow2:=aO gU.o kw2;have hsz:(wr.alloc (.cells #[.slice (some ⟨b,h,none⟩) (L.length-h) (cap-h)] 59)).heap.size=wr.heap.size+1:=by simp
      generalize (wr.alloc (.cells #[.slice (some ⟨b,h,none⟩) (L.length-h) (cap-h)] 59))=w2 at *
      have hb2:jF w2 b 0 L:=hb.keep (Keep.of_bel (λ_=>False) kw) (λ_ h=>h);have hgb:wr.heap.size<w2.heap.size:=by omega
      have hw0:w.heap.size≤wr.heap.size:=kr.size;generalize wr.heap.size=g at *
      have hbyte:w2.cell? (b,h+4)=some (.int .u8 (L.getD (h+4) 0)):=by have:=hb2.at_ (h+4) (by omega);rwa [Nat.zero_add]at this
      have HC:∀(kk:Nat),kk+8≤56→∀W,jF W b 0 L→W.cell? (g,0)=some (.slice (some ⟨b,h,none⟩) (L.length-h) (cap-h))→Calls prog 255 #[.int .i64 kk,(8:Int),g] W λe w'=>e=.returned (.int .u64 (numAt L (h+kk) 8))∧w'=W:=
       λkk hkk W hW hc=>uU b (L.length-h) cap h kk 8 g L W hW hcap hlen (by omega) (by omega) (by omega) hc
      obtain⟨pb,so,sa,sf,sm,hseg⟩:∃pb so sa sf sm,aV L k=⟨pb,so,sa,sf,sm⟩:=⟨_,_,_,_,_,rfl⟩;have hseg':=hseg;simp only[aV,Seg.mk.injEq,show 64+56*k=h from by omega]at hseg'
      obtain⟨hpb,hso,hsa,hsf,hsm⟩:=hseg';rw[hpb]at hbyte;have Un:=xh hseg;clear hseg;have H8:Hid (∀W,jF W b 0 L→W.cell? (g,0)=some (.slice (some ⟨b,h,none⟩) (L.length-h) (cap-h))→Calls prog 255 #[(8:Int),(8:Int),g] W λe w'=>e=.returned (.int .u64 so)∧w'=W):=xh (by have:=HC 8 (by omega);rw[hso]at this;exact this);have H16:Hid (∀W,jF W b 0 L→W.cell? (g,0)=some (.slice (some ⟨b,h,none⟩) (L.length-h) (cap-h))→Calls prog 255 #[(16:Int),(8:Int),g] W λe w'=>e=.returned (.int .u64 sa)∧w'=W):=xh (by have:=HC 16 (by omega);rw[hsa]at this;exact this);have H32:Hid (∀W,jF W b 0 L→W.cell? (g,0)=some (.slice (some ⟨b,h,none⟩) (L.length-h) (cap-h))→Calls prog 255 #[(32:Int),(8:Int),g] W λe w'=>e=.returned (.int .u64 sf)∧w'=W):=xh (by have:=HC 32 (by omega);rw[hsf]at this;exact this);have H40:Hid (∀W,jF W b 0 L→W.cell? (g,0)=some (.slice (some ⟨b,h,none⟩) (L.length-h) (cap-h))→Calls prog 255 #[(40:Int),(8:Int),g] W λe w'=>e=.returned (.int .u64 sm)∧w'=W):=xh (by have:=HC 40 (by omega);rw[hsm]at this;exact this);have Dt:=xh (And.intro hpb (And.intro hso (And.intro hsa (And.intro hsf hsm))));clear HC hpb hso hsa hsf hsm;have abz:=xh hrow2;have HHH:=xh hh;have hbl:b<w2.heap.size:=hb2.lt (by omega);clear hrow2 hh hsz;have ai2:(4:Int)<((L.length-h:Nat):Int):=by omega
      go_cut [11] (λs11 wx=>∃g2:Nat,s11=.pointer (g2,0)∧Hid (Blk wx g2 [.int .u8 pb,.int .u64 so,.int .u64 sa,.int .u64 sf,.int .u64 sm] 321)∧Hid (Bel w2 wx))
      case first=>
       go_region_held3 (λw'=>w'.cell? ⟨g,0,none⟩=some (.slice (some ⟨b,h,none⟩) (L.length-h) (cap-h))∧w'.cell? ⟨b,h+4,none⟩=some (.int .u8 pb)∧jF w' b 0 L)
        (first|(go_keep;done)|(try go_split_ands;refine⟨?_,?_,?_⟩<;>first|assumption|(go_keep;done)|exact IW (by assumption)|exact Et (by assumption) _|exact IW (Et (by assumption) _)))
        (first
          | (go_at_call 255;with_reducible refine aH (H8.o _ ?_ ?_) ?_;(go_split_ands;assumption);(go_split_ands;assumption);rintro e w' ⟨rfl,rfl⟩)
          | (go_at_call 255;with_reducible refine aH (H16.o _ ?_ ?_) ?_;(go_split_ands;assumption);(go_split_ands;assumption);rintro e w' ⟨rfl,rfl⟩)
          | (go_at_call 255;with_reducible refine aH (H32.o _ ?_ ?_) ?_;(go_split_ands;assumption);(go_split_ands;assumption);rintro e w' ⟨rfl,rfl⟩)
          | (go_at_call 255;with_reducible refine aH (H40.o _ ?_ ?_) ?_;(go_split_ands;assumption);(go_split_ands;assumption);rintro e w' ⟨rfl,rfl⟩))
       all_goals (go_wp2_with fail;go_meet;exact⟨w2.heap.size,rfl,xh (Blk.new w2 _ _),xh (Below.drew (Below.heap_alloc' w2 _))⟩)
      case rest=>
       obtain⟨g2,rfl,B2,K2⟩:=hcut;have hb3:jF wc b 0 L:=hb2.keep (Keep.of_bel (λ_=>False) K2.o) (λ_ h=>h);have c93:wc.cell? (g,0)=some (.slice (some ⟨b,h,none⟩) (L.length-h) (cap-h)):=(World.cell?_of_block (a:=⟨g,0,none⟩) (K2.o.block g hgb)).trans c9;have e0:=B2.out.cell 0;have e1:=B2.out.cell 1;have e2:=B2.out.cell 2;have e3:=B2.out.cell 3;have e4:=B2.out.cell 4;simp only[List.getElem?_cons_zero,List.getElem?_cons_succ]at e0 e1 e2 e3 e4
       obtain⟨n0,hn0⟩:=e_x (numAt L h 4);obtain⟨n4,hn4⟩:=e_x (numAt L (h+4) 4);have C0:Hid (Calls prog 255 #[(0:Int),(4:Int),g] wc λe w'=>e=.returned (.int .u64 n0)∧w'=wc):=xh (by
        have:=uU b (L.length-h) cap h 0 4 g L wc hb3 hcap hlen (by omega) (by omega) (by omega) c93;rw[Nat.add_zero,hn0]at this;exact this)
       have C4:Hid (Calls prog 255 #[(4:Int),(4:Int),g] wc λe w'=>e=.returned (.int .u64 n4)∧w'=wc):=xh (by
        have:=uU b (L.length-h) cap h 4 4 g L wc hb3 hcap hlen (by omega) (by omega) (by omega) c93;rw[hn4]at this;exact this)
       have bd:=jo L hb.byte;have bo:0≤so∧so<18446744073709551616:=by rw[←Dt.o.2.1];exact bd _ _ (by omega)
       have ba:0≤sa∧sa<18446744073709551616:=by rw[←Dt.o.2.2.1];exact bd _ _ (by omega)
       have bf:0≤sf∧sf<18446744073709551616:=by rw[←Dt.o.2.2.2.1];exact bd _ _ (by omega)
       have bm:0≤sm∧sm<18446744073709551616:=by rw[←Dt.o.2.2.2.2];exact bd _ _ (by omega)
       obtain⟨bo0,bo1⟩:=bo;obtain⟨ba0,ba1⟩:=ba;obtain⟨bf0,bf1⟩:=bf;obtain⟨bm0,bm1⟩:=bm
       have jW:Hid (fZ L k=(n0==1&&decide (1≤n4)&&decide (n4≤7)&&!(bits .and .u8 pb 3==3)&&!(sm==0)&&decide (sf≤sm)&&
        decide (so≤L.length)&&decide (sf≤L.length-so)&&so%256==sa%256&&decide (sa<65024)&&decide (sm≤65024-sa))):=xh (by
        simp only[fZ,Un.o,show 64+56*k=h from by rw[HHH.o];omega,hn0,hn4])
       have KB:Hid (Bel w wc):=xh (kw.tr K2.o);have KR:Hid (wc.ownsRow w.heap.size 321 5 u7 k ((List.range k).flatMap λi=>(aV L i).cells)):=xh (aO abz.o K2.o);clear hn0 hn4 bd H8 H16 H32 H40 abz hbyte;have F0:Hid (n0≠1→fZ L k=false):=xh λh=>by rw[jW.o];simp[h]
       have F1:Hid (n4<1→fZ L k=false):=xh λh=>by rw[jW.o];simp[show ¬1≤n4 from by omega]
       have F2:Hid (7<n4→fZ L k=false):=xh λh=>by rw[jW.o];simp[show ¬n4≤7 from by omega]
       have F3:Hid ((bits .and .u8 pb 3==3)=true→fZ L k=false):=xh λh=>by rw[jW.o];simp[h]
       have F4:Hid ((sm==0)=true→fZ L k=false):=xh λh=>by rw[jW.o];simp[h]
       have F5:Hid (sm<sf→fZ L k=false):=xh λh=>by rw[jW.o];simp[show ¬sf≤sm from by omega]
       have F6:Hid ((L.length:Int)<so→fZ L k=false):=xh λh=>by rw[jW.o];simp[show ¬so≤(L.length:Int)from by omega]
       have F7:Hid ((L.length:Int)-so<sf→fZ L k=false):=xh λh=>by rw[jW.o];simp[show ¬sf≤(L.length:Int)-so from by omega]
       have F8:Hid ((so%256 != sa%256)=true→fZ L k=false):=xh λh=>by rw[jW.o];simp[show ¬so%256=sa%256 from by simpa using h]
       have F9:Hid (65024≤sa→fZ L k=false):=xh λh=>by rw[jW.o];simp[show ¬sa<65024 from by omega]
       have F10:Hid (65024-sa<sm→fZ L k=false):=xh λh=>by rw[jW.o];simp[show ¬sm≤65024-sa from by omega]
       have FT:Hid (n0=1→1≤n4→n4≤7→(bits .and .u8 pb 3==3)=false→(sm==0)=false→sf≤sm→so≤(L.length:Int)→sf≤(L.length:Int)-so→(so%256 != sa%256)=false→sa<65024→sm≤65024-sa→fZ L k=true):=xh λh0 h1 h2 h3 h4 h5 h6 h7 h8 h9 h10=>by
        have h8':so%256=sa%256:=by simpa using h8
        rw[jW.o];simp only[h0,h3,h4,h8',h1,h2,h5,h6,h7,h9,h10];simp
       have HSL:Hid ((List.range (k+1)).flatMap (λi=>(aV L i).cells)=(List.range k).flatMap (λi=>(aV L i).cells)++[.int .u8 pb,.int .u64 so,.int .u64 sa,.int .u64 sf,.int .u64 sm]):=xh (by
        rw[List.range_succ,List.flatMap_append,List.flatMap_singleton,Un.o];rfl)
       by_cases q0:n0=1
       ·subst q0
        go_wp2_with (first
         | (go_at_call 255;with_reducible refine aH C0.o ?_;rintro e w' ⟨rfl,rfl⟩)
         | (go_at_call 255;with_reducible refine aH C4.o ?_;rintro e w' ⟨rfl,rfl⟩)
         | (refine wpList_load_mid rfl 321 (.tmp 11) rfl g2 0 rfl [.int .u8 pb,.int .u64 so,.int .u64 sa,.int .u64 sf,.int .u64 sm] _ (by have:=B2.out.range 0;simpa using this) underlying321 rfl (by kernel_rfl) ?_)
         | (refine au rfl 317 321 (.tmp 133) rfl [.int .u8 pb,.int .u64 so,.int .u64 sa,.int .u64 sf,.int .u64 sm] rfl underlying317 Pe (by show 0<5;omega) (by show 5≤2^24;omega) ?_;intro w5 B5 K5)
         | (refine bu rfl (.tmp 132) (.tmp 134) 317 rfl underlying317 Pe (by omega) rfl (aO KR.o K5) _ [.int .u8 pb,.int .u64 so,.int .u64 sa,.int .u64 sf,.int .u64 sm] 321 rfl B5.out rfl (by intro v hv;simp at hv;rcases hv with rfl|rfl|rfl|rfl|rfl<;>rfl) (by unfold maxLen;omega) (by omega) (bU KB.o.size K5.size) ?_;intro v6 w6 R6 K6))
        all_goals first
         | (go_ret2
            refine⟨KB.o,iU.seg HF.o k (by rw[HSN.o];omega) ?_⟩;first|exact F1.o (by assumption)|exact F2.o (by assumption)|exact F3.o (by assumption)|exact F4.o (by assumption)|exact F5.o (by assumption)|exact F6.o (by assumption)|exact F7.o (by assumption)|exact F8.o (by assumption)|exact F9.o (by assumption)|exact F10.o (by assumption))
         | skip
        exact⟨⟨k+1,by omega,by go_num,iQ nX.o (FT.o (by trivial) (by assumption) (by assumption) (by assumption) (by assumption) (by assumption) (by assumption) (by assumption) (by assumption) (by assumption) (by assumption)),by rw[HSL.o];exact R6,
         (KB.o.tr K5).trans (K6.below _ (bU KB.o.size K5.size) λi hi=>hi)⟩,by simp only[intOf];omega⟩
       ·have HF0:=xh (F0.o q0)
        have q1:(n0 != 1)=true:=by simpa using q0
        clear q0;go_wp2_with (go_at_call 255;with_reducible refine aH C0.o ?_;rintro e w' ⟨rfl,rfl⟩)
        go_ret2
        exact⟨KB.o,iU.seg HF.o k (by rw[HSN.o];omega) HF0.o⟩
     ·obtain rfl:k=M:=by omega
      go_wp2
      go_ret2
      exact⟨kr,iU.ok HF.o (λi hi=>nX.o i (by rw[HSN.o]at hi;omega)) (by rw[HSN.o];exact gU.o)⟩
 ·have hh:ay L=false:=by simp[ay,h64]
  have HH:=xh hh;clear hh;go_enter func178,ntmps178;go_wp2
  go_ret2
  exact⟨Below.refl _ _,iU.header HH.o⟩
end
section
open Go.Proofs.Tryz Go.RowKit Go.Maps
def aX(L:List Int):Nat→ax
 | 0=>λ_=>none
 | k+1=>mV (aX L k) L (aV L k) ((aV L k).last+1)
def iT(L:List Int)(k:Nat):Prop:=∀n,(aV L k).first≤n→n≤(aV L k).last→aX L k n=none
theorem Hl(L:List Int)(hb:∀x∈L,0≤x∧x≤255)(i:Nat)(hl:64+56*i+56≤L.length)(h:fZ L i=true):lN L (aV L i):=by
 simp only[fZ,Bool.and_eq_true,beq_iff_eq,decide_eq_true_eq,Bool.not_eq_true',beq_eq_false_iff_ne]at h
 obtain⟨⟨⟨⟨⟨⟨⟨⟨⟨⟨_,h1⟩,h2⟩,_⟩,h4⟩,h5⟩,h6⟩,h7⟩,_⟩,h9⟩,h10⟩:=h;have hu:=λk=>jo L hb k 8 (by omega);have hp:0≤(aV L i).perm∧(aV L i).perm≤7:=by
  have e:numAt L (64+56*i+4) 4=L.getD (64+56*i+4) 0+256*lY ((L.drop (64+56*i+5)).take 3):=by
   unfold numAt;rw[List.drop_eq_getElem_cons (by omega:64+56*i+4<L.length),List.take_succ_cons,lY,List.getD_eq_getElem?_getD,bT (by omega)];rfl
  have h3:=jM ((L.drop (64+56*i+5)).take 3) λx hx=>hb x (List.mem_of_mem_drop (List.mem_of_mem_take hx));have hx:0≤L.getD (64+56*i+4) 0:=by
   rw[List.getD_eq_getElem?_getD,bT (by omega)];exact(hb _ (List.getElem_mem _)).1
  have:(aV L i).perm=L.getD (64+56*i+4) 0:=rfl;rw[this];omega
 have a0:(aV L i).off=numAt L (64+56*i+8) 8:=rfl;have a1:(aV L i).addr=numAt L (64+56*i+16) 8:=rfl;have a2:(aV L i).file=numAt L (64+56*i+32) 8:=rfl;have a3:(aV L i).mem=numAt L (64+56*i+40) 8:=rfl;have u0:=hu (64+56*i+8);have u1:=hu (64+56*i+16);have u2:=hu (64+56*i+32);have u3:=hu (64+56*i+40);exact⟨hp,by omega,by omega,by omega,by omega,by omega,by omega,by omega⟩
theorem Oj(L:List Int)(hb:∀x∈L,0≤x∧x≤255)(s:Seg)(hp:0≤s.perm∧s.perm≤7)(n:Nat):(qi L s n).wf:=by
 refine⟨by simp[qi],λx hx=>?_,hp⟩;obtain⟨j,_,rfl⟩:=List.mem_map.1 hx;unfold ou;split
 ·rw[List.getD_eq_getElem?_getD]
  cases h:L[(s.off+(256*(n:Int)+j-s.addr)).toNat]? with
  | none=>simp[iR]
  | some x=>exact hb x (List.mem_of_getElem? h)
 ·simp[iR]
theorem vw(L:List Int)(hb:∀x∈L,0≤x∧x≤255)(N:Nat)(hN:∀i,i<N→lN L (aV L i)):∀k,k≤N→bF (aX L k)
 | 0,_=>⟨λ_ _=>rfl,λn p h=>by cases h⟩
 | k+1,hk=>by
   have ih:=vw L hb N hN k (by omega);have hf:=hN k (by omega);have hl:(aV L k).last<254:=by
    unfold Seg.last;have:=hf.top;have:=hf.mem;have:=hf.addr;omega
   refine⟨λn hn=>?_,λn p h=>?_⟩
   ·simp only[aX,mV]
    rw[if_neg (by omega)];exact ih.below n hn
   ·simp only[aX,mV]at h
    split at h
    ·injection h with h
     subst h;exact Oj L hb _ hf.perm n
    ·exact ih.wf n p h
def gJ(L:List Int):Bool:=(List.range (dQ L).toNat).all (fZ L)
def dS(L:List Int):Bool:=numAt L 24 8%4==0&&gz (aX L (dQ L).toNat) (numAt L 24 8) 1 1
structure He(L:List Int)(base:Nat)(e:Ending)(w':World):Prop where
 header:ay L=false→e=.returned (.tuple #[.map none,.int .u64 0,fH 2])
 acA:ay L=true→gJ L=false→e=.returned (.tuple #[.map none,.int .u64 0,fH 3])
 overlap:ay L=true→gJ L=true→(¬∀k,k<(dQ L).toNat→iT L k)→e=.returned (.tuple #[.map none,.int .u64 0,fH 4])
 entry:ay L=true→gJ L=true→(∀k,k<(dQ L).toNat→iT L k)→dS L=false→e=.returned (.tuple #[.map none,.int .u64 0,fH 5])
 ok:ay L=true→gJ L=true→(∀k,k<(dQ L).toNat→iT L k)→dS L=true→∃mb,e=.returned (.tuple #[.map (some mb),.int .u64 (numAt L 24 8),.nilIface])∧base≤mb∧Sp w' mb (aX L (dQ L).toNat)
theorem Sp.new(w:World):Sp (w.alloc (.map #[] 0)) w.heap.size (λ_=>none):=
 ⟨[],Mp.new iK w,λn=>rfl,λp hp=>by cases hp⟩
theorem TD(b cap:Nat)(L:List Int)(w:World)(hb:jF w b 0 L)(hcap:L.length≤cap)(hlen:L.length≤200000)(hfix:iG w) :
 Calls prog 99 #[.slice (b,0) L.length cap] w λe w'=>Bel w w'∧He L w.heap.size e w':=by
 have hseg:=Hy b cap L w hb hcap hlen hfix;cases hh:ay L with
 | false=>
   have hs2:=hseg.mono (λe w' (h:Bel w w'∧iU L w.heap.size e w')=>And.intro (h.2.1 hh) h.1);have HS:=xh hs2;have HH:=xh hh;clear hseg hs2 hh;go_enter func99,ntmps99;go_wp2_with (go_at_call 178;with_reducible refine aH HS.o ?_;rintro e w1 ⟨rfl,k1⟩)
   go_ret3
   have hx:ay L≠true:=by rw[HH.o];decide
   exact⟨k1,⟨λ_=>rfl,λh=>absurd h hx,λh=>absurd h hx,λh=>absurd h hx,λh=>absurd h hx⟩⟩
 | true=>
   cases hs:gJ L with
   | false=>
     have hs2:=hseg.mono (λe w' (h:Bel w w'∧iU L w.heap.size e w')=>And.intro (h.2.2.1 hh hs) h.1);have HS:=xh hs2;have HH:=xh hh;have HO:=xh hs;clear hseg hs2 hh hs;go_enter func99,ntmps99;go_wp2_with (go_at_call 178;with_reducible refine aH HS.o ?_;rintro e w1 ⟨rfl,k1⟩)
     go_ret3
     have hx:gJ L≠true:=by rw[HO.o];decide
     have hy:ay L≠false:=by rw[HH.o];decide
     exact⟨k1,⟨λh=>absurd h hy,λ_ _=>rfl,λ_ h=>absurd h hx,λ_ h=>absurd h hx,λ_ h=>absurd h hx⟩⟩
   | true=>
     have hs2:=hseg.mono (λe w' (h:Bel w w'∧iU L w.heap.size e w')=>And.intro (h.2.2.2 hh hs) h.1);obtain⟨N,hN⟩:=e_x ((dQ L).toNat);rw[hN]at hs2;have HS:=xh hs2;have HH:=xh hh;have HO:=xh hs;have hhead:1≤dQ L∧dQ L≤8∧64+56*dQ L≤L.length:=by
      have:=hh;simp only[ay,Bool.and_eq_true,decide_eq_true_eq]at this
      exact⟨this.1.1.2,this.1.2,this.2⟩
     have hN8:N≤8:=by omega
     have hN1:1≤N:=by omega
     have hNL:64+56*N≤L.length:=by omega
     have hfit:∀i,i<N→lN L (aV L i):=λi hi=>Hl L hb.byte i (by omega) (List.all_eq_true.1 hs i (List.mem_range.2 (by omega)));have yz:=xh hfit;have HWF:=xh (vw L hb.byte N hfit);have HN:=xh hN;have hmm:∀w,(Instr.makeMap 113 none).run prog w=.ok (.map (some w.heap.size)) (w.alloc (.map #[] 0)):=λw=>by kernel_rfl
     clear hseg hs2 hh hs hhead hN hfit;go_enter func99,ntmps99
     go_wp2_with (go_at_call 178;with_reducible refine aH HS.o ?_;rintro e w1 ⟨⟨v,rfl,hrow⟩,k1⟩
                  obtain⟨ps,cp,rfl,hcp,hcm,hps⟩:=aG hrow;have gU:=xh hrow;have vO:=xh hps;clear hrow hps)
     have k2:Bel w1 (w1.alloc (.map #[] 0)):=Below.heap_alloc' w1 _;have hsn:Sp (w1.alloc (.map #[] 0)) w1.heap.size (aX L 0):=Sp.new w1;have hmb:w.heap.size≤w1.heap.size:=k1.size;have hgs:∀g,g<w1.heap.size→g≠w1.heap.size:=λg h=>by omega
     have HGS:=xh hgs;clear hgs;generalize w1.alloc (.map #[] 0)=w2 at *
     have iC:=xh k2;have hsz2:w1.heap.size<w2.heap.size:=hsn.lt;generalize afv:w1.heap.size=mb at *
     have ahZ:=xh afv;clear afv;have ug:Hid (Bel w w2):=xh (k1.tr iC.o)
     go_loopw [22] (λi wr=>∃k:Nat,k≤N∧i=.int .i64 k∧Sp wr mb (aX L k)∧Keep (λi=>i=mb) w2 wr∧∀j,j<k→iT L j) (λi _=>N-(intOf i).toNat)
     case atStart=>exact⟨0,Nat.zero_le _,rfl,hsn,Keep.refl _ _,λj hj=>by omega⟩
     case round=>
      obtain⟨k,hk,rfl,vN,hkr,hall⟩:=hrel;have nX:=xh hall;have Io:=xh vN;clear hall vN;by_cases hlt:k<N
      ·obtain⟨gs,rfl,hb0,hb1,hcl,_⟩:=vO.o.resolve_left (by omega)
       have hrange:wr.rangeAt gs (k*5) (aV L k).cells:=λj v hv=>by
        have hj:j<5:=by have:=(bV hv).1;simpa [Seg.cells]using this
        have hgl:gs<w2.heap.size:=Nat.lt_of_lt_of_le hb1 (Nat.le_of_lt hsz2);rw[hkr.cell ⟨gs,k*5+j,none⟩ hgl (HGS.o gs hb1),World.cell?_of_block (a:=⟨gs,k*5+j,none⟩) (iC.o.block gs (by rw[ahZ.o];exact hb1)),hcl _ (by rw[flat_length _ 5 _ (λ_ _=>rfl)];simp;omega),fP _ 5 _ (λ_ _=>rfl) k j hj];rw[List.getElem?_range hlt];exact hv
       have HR:=xh hrange;clear hrange hcl;have hbr:jF wr b 0 L:=(hb.keep (Keep.of_bel (λ_=>False) ug.o) (λ_ h=>h)).keep hkr (λh0=>hsn.ne (hb.keep (Keep.of_bel (λ_=>False) ug.o) (λ_ h=>h)) h0);have hf:=yz.o k hlt;have hw:=HWF.o k (by omega);obtain⟨s,hs⟩:=e_x (aV L k);rw[hs]at HR hf;have Oc:=λW (hW:Sp W mb (aX L k)) (hB:jF W b 0 L)=>aaC mb b cap (aX L k) L s.perm s.off s.addr s.file s.mem W hW hw.wf hB hcap hlen hf;have HSG:=xh hs;have Dp:=xh hbr;by_cases hfree:iT L k
       ·have HLF:Hid (∀W,Sp W mb (aX L k)→jF W b 0 L→Calls prog 179 #[.map (some mb),.agg s.cells.toArray,.slice (b,0) L.length cap] W λe w'=>e=.returned (.bool true)∧(Keep (λk=>k=mb) W w'∧Sp w' mb (aX L (k+1)))):=xh λW hW hB=>
         (Oc W hW hB).mono λe w' h=>by
          have h2:=h.2.2 (λn h1 h2=>hfree n (by rw[hs];exact h1) (by rw[hs];exact h2));exact⟨h2.1,h.1,by simp only[aX];rw[hs];exact h2.2⟩
        have zq:=xh hfree;clear Oc hs hbr hw hf hfree;go_wp2_with (first
        | (refine wpList_load_mid rfl 321 (.tmp 24) rfl gs (k*5) rfl s.cells _ HR.o underlying321 rfl (by kernel_rfl) ?_)
        | (refine aA rfl 321 (.tmp 9) (.tmp 25) rfl rfl wr.heap.size s.cells [.int .u8 0,.int .u64 0,.int .u64 0,.int .u64 0,.int .u64 0] 321 (Blk.new wr _ _) rfl rfl (by kernel_rfl) rfl (by intro v hv;simp[Seg.cells]at hv;rcases hv with rfl|rfl|rfl|rfl|rfl<;>rfl) ?_;intro w3 B3 K3)
        | (refine wpList_load_mid rfl 321 (.tmp 9) rfl wr.heap.size 0 rfl s.cells _ (by have:=B3.out.range 0;simpa using this) underlying321 rfl (by kernel_rfl) ?_)
        | (go_at_call 179
           have kc:Bel wr w3:=(Below.heap_alloc' wr _).trans (K3.below _ (by simp) (λk hk=>by omega));refine aH (HLF.o w3 (Io.o.bel kc) (Dp.o.keep (Keep.of_bel (λ_=>False) kc) (λ_ h=>h))) ?_;rintro e w5 ⟨rfl,r5⟩))
        exact⟨⟨k+1,by omega,by go_num,r5.2,hkr.tr ((Keep.of_bel _ kc).tr r5.1),iQ nX.o zq.o⟩,by simp only[intOf];omega⟩
       ·have hnf:∃n,s.first≤n∧n≤s.last∧aX L k n≠none:=by
         refine Classical.byContradiction λhc=>hfree λn h1 h2=>Classical.byContradiction λh3=>hc ⟨n,by rw[←hs];exact h1,by rw[←hs];exact h2,h3⟩
        have HLF:Hid (∀W,Sp W mb (aX L k)→jF W b 0 L→Calls prog 179 #[.map (some mb),.agg s.cells.toArray,.slice (b,0) L.length cap] W λe w'=>e=.returned (.bool false)∧Keep (λk=>k=mb) W w'):=xh λW hW hB=>
         (Oc W hW hB).mono λe w' h=>⟨h.2.1 hnf,h.1⟩
        have zq:=xh hfree;clear Oc hs hbr hw hf hfree hnf;go_wp2_with (first
        | (refine wpList_load_mid rfl 321 (.tmp 24) rfl gs (k*5) rfl s.cells _ HR.o underlying321 rfl (by kernel_rfl) ?_)
        | (refine aA rfl 321 (.tmp 9) (.tmp 25) rfl rfl wr.heap.size s.cells [.int .u8 0,.int .u64 0,.int .u64 0,.int .u64 0,.int .u64 0] 321 (Blk.new wr _ _) rfl rfl (by kernel_rfl) rfl (by intro v hv;simp[Seg.cells]at hv;rcases hv with rfl|rfl|rfl|rfl|rfl<;>rfl) ?_;intro w3 B3 K3)
        | (refine wpList_load_mid rfl 321 (.tmp 9) rfl wr.heap.size 0 rfl s.cells _ (by have:=B3.out.range 0;simpa using this) underlying321 rfl (by kernel_rfl) ?_)
        | (go_at_call 179
           have kc:Bel wr w3:=(Below.heap_alloc' wr _).trans (K3.below _ (by simp) (λk hk=>by omega));refine aH (HLF.o w3 (Io.o.bel kc) (Dp.o.keep (Keep.of_bel (λ_=>False) kc) (λ_ h=>h))) ?_;rintro e w5 ⟨rfl,r5⟩))
        go_ret3
        have hkk:Keep (λi=>i=mb) w2 w5:=hkr.tr ((Keep.of_bel _ kc).tr r5);have hno:¬∀k,k<(dQ L).toNat→iT L k:=λh=>zq.o (h k (by rw[HN.o];exact hlt));have hy:ay L≠false:=by rw[HH.o];decide
        have hz:gJ L≠false:=by rw[HO.o];decide
        exact⟨Below.trans ug.o (hkk.below _ ug.o.size (λi hi=>by omega)),⟨λh=>absurd h hy,λ_ h=>absurd h hz,λ_ _ _=>rfl,λ_ _ h=>absurd h hno,λ_ _ h=>absurd h hno⟩⟩
      ·obtain rfl:k=N:=by omega
       have hbr:jF wr b 0 L:=(hb.keep (Keep.of_bel (λ_=>False) ug.o) (λ_ h=>h)).keep hkr (λh0=>hsn.ne (hb.keep (Keep.of_bel (λ_=>False) ug.o) (λ_ h=>h)) h0);have hfree:∀j,j<(dQ L).toNat→iT L j:=by rw[HN.o];exact nX.o
       have hbel:Bel w wr:=Below.trans ug.o (hkr.below _ ug.o.size (λi hi=>by omega));have hy:ay L≠false:=by rw[HH.o];decide
       have hz:gJ L≠false:=by rw[HO.o];decide
       obtain⟨E,hE⟩:=e_x (numAt L 24 8);have hEb:=jo L hb.byte 24 8 (by omega);rw[hE]at hEb;obtain⟨hE0,hE1⟩:=hEb;have hnum:=sU b 24 8 (cap-24) L wr hbr (by omega) (by omega);rw[hE]at hnum;have hmay:=wQ mb (aX L k) E 1 1 wr Io.o hE0 hE1 (by omega) (by omega);have hent:dS L=(E%4==0&&gz (aX L k) E 1 1):=by unfold dS;rw[HN.o,hE]
       have yF:=xh hnum;have aaE:=xh hmay;have acU:=xh hent;have HE:=xh hE;have Y0:=xh hfree;have acV:=xh hbel;have HCAP:64≤cap:=by omega
       clear hnum hmay hent hE hfree hbel hbr;by_cases q:E%4=0
       ·cases hm:gz (aX L k) E 1 1 with
        | true=>
          have Gq:Hid (dS L=true):=xh (by rw[acU.o,hm];simp[q]);rw[hm]at aaE;have q1:(E%4 != 0)=false:=by simp[q]
          clear hm q
          go_wp2_with (first
           | (go_at_call 145;with_reducible refine aH yF.o ?_;rintro e wx ⟨rfl,h⟩;subst h)
           | (go_at_call 124;with_reducible refine aH aaE.o ?_;rintro e wx ⟨rfl,h⟩;subst h))
          go_ret3
          exact⟨acV.o,⟨λh=>absurd h hy,λ_ h=>absurd h hz,λ_ _ h=>absurd Y0.o h,λ_ _ _ h=>absurd Gq.o (by rw[h];decide),λ_ _ _ _=>⟨mb,by rw[HE.o];try rfl,hmb,by rw[HN.o];exact Io.o⟩⟩⟩
        | false=>
          have Gq:Hid (dS L=false):=xh (by rw[acU.o,hm];simp);rw[hm]at aaE;have q1:(E%4 != 0)=false:=by simp[q]
          clear hm q
          go_wp2_with (first
           | (go_at_call 145;with_reducible refine aH yF.o ?_;rintro e wx ⟨rfl,h⟩;subst h)
           | (go_at_call 124;with_reducible refine aH aaE.o ?_;rintro e wx ⟨rfl,h⟩;subst h))
          go_ret3
          exact⟨acV.o,⟨λh=>absurd h hy,λ_ h=>absurd h hz,λ_ _ h=>absurd Y0.o h,λ_ _ _ _=>rfl,λ_ _ _ h=>absurd Gq.o (by rw[h];decide)⟩⟩
       ·have Gq:Hid (dS L=false):=xh (by rw[acU.o];simp[q])
        have q1:(E%4 != 0)=true:=by simp[q]
        clear q
        go_wp2_with (first
         | (go_at_call 145;with_reducible refine aH yF.o ?_;rintro e wx ⟨rfl,h⟩;subst h))
        go_ret3
        exact⟨acV.o,⟨λh=>absurd h hy,λ_ h=>absurd h hz,λ_ _ h=>absurd Y0.o h,λ_ _ _ _=>rfl,λ_ _ _ h=>absurd Gq.o (by rw[h];decide)⟩⟩
end
end Go.Proofs.YtcnjjchlebmfiaaGreatDoor
