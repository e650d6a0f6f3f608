/-.-/
import Derived.Test.YtcnjjchlebmfiaaGreatDoorP05
import Derived.Shelf.SlIterI.Nil
import Derived.Shelf.SortM.Plain
import Derived.Shelf.SortM.SortNone
set_option linter.unusedVariables false
set_option linter.unusedSimpArgs false
set_option maxRecDepth 100000
set_option maxHeartbeats 16000000
namespace Go.Proofs.YtcnjjchlebmfiaaGreatDoor
section
open Go.Proofs.Tryz Go.RowKit
theorem CW(b cap:Nat)(L:List Int)(w:World)(hb:iL w b 0 L)(hcap:L.length≤cap)(hlen:L.length≤200000)(hfix:gN w) :
 Calls prog 178 #[.slice (b,0) L.length cap] w λe w'=>Bel w w'∧gH L w.heap.size e w':=by
 by_cases h64:64≤L.length
 ·go_enter func178,ntmps178
  go_wp2_with (refine wpList_load_mid rfl 403 _ rfl 2 0 rfl yo _ hfix.1 underlying403 rfl (by kernel_rfl) ?_)
  go_loopw [18] (λi wr=>∃k:Nat,k≤8∧i=.int .i64 k∧(∀j,j<k→gL L j=true)∧Bel w wr) (λi _=>8-(intOf i).toNat)
  case atStart=>exact⟨0,by omega,rfl,λj hj=>by omega,Below.refl _ _⟩
  case round=>
   obtain⟨k,hk,rfl,hall,kr⟩:=hrel;have lS:=xh hall;clear hall;by_cases hlt:k<8
   ·obtain⟨a,s,v,hix,hfo,has,hs8,hs1,hv0,hv1⟩:=Qh L k hlt
    have HFO:=xh hfo;clear hfo
    go_wp2_with (first
     | (refine aG rfl 402 (.tmp 5) (.tmp 20) rfl rfl wr.heap.size [.int .i64 a,.int .i64 s,.int .u64 v] [(0:Int),(0:Int),.int .u64 0] 402 (Blk.new wr _ _) rfl rfl (by kernel_rfl) rfl (by intro v hv;simp at hv;rcases hv with rfl|rfl|rfl<;>rfl) ?_;intro w1 B1 K1
        have c0:=B1.out.cell 0;have c1:=B1.out.cell 1;have c2:=B1.out.cell 2;simp only[List.getElem?_cons_zero,List.getElem?_cons_succ]at c0 c1 c2))
    have k1:Bel w w1:=kr.tr ((Below.aF wr _).trans (K1.below _ (by simp) (λk hk=>by omega)));have hb1:iL w1 b 0 L:=hb.keep (Keep.of_bel (λ_=>False) k1) (λ_ h=>h);have hwr:IntKind.i64.wrap ((a:Int)+s)=a+s:=by rw[IntKind.wrap_i64];omega
    have hsl:=λw=>IA w b L.length cap a s (by omega) (by omega) a (a+s) rfl rfl;go_quiet ((go_at_call 145;exact Calls.quiet_of_same (qD b a s _ L _ (hb1.of_cell λ_ _=>rfl) (by omega) hs8)))
    have k2:Bel w (w1.drewN nq):=ah k1 nq;have K2:=xh k2;clear k2 k1 hb1 hsl c0 c1 c2;cases hq:gL L k with
    | false=>
      have HQ:=xh (oJ hlt hq);have hne:(aO L a s != v)=true:=by have:=HFO.o.symm.trans hq;simp[bne,this]
      clear hq;go_wp2
      go_ret2
      exact⟨K2.o,gH.header HQ.o⟩
    | true=>
      have HQ:=xh hq;have hne:(aO L a s != v)=false:=by have:=HFO.o.symm.trans hq;simp[bne,this]
      clear hq;go_wp2
      go_roundw
      case rel=>exact⟨k+1,by omega,by go_num,gD lS.o HQ.o,K2.o⟩
      case measure=>simp[intOf]<;>omega
   ·obtain rfl:k=8:=by omega
    obtain⟨N,hN⟩:∃N,N=aO L 56 2:=⟨_,rfl⟩;have hb2:iL wr b 0 L:=hb.keep (Keep.of_bel (λ_=>False) kr) (λ_ h=>h);have zb:=qD b 56 2 (cap-56) L wr hb2 (by omega) (by omega);rw[←hN]at zb;have hN0:0≤N:=by rw[hN];exact(jF L hb.byte 56 2 (by omega)).1
    have hN1:N≤65535:=by
     rw[hN];have:=iO ((L.drop 56).take 2) (λx hx=>hb.byte x (List.mem_of_mem_drop (List.mem_of_mem_take hx)));rw[show((L.drop 56).take 2).length=2 from by simp;omega]at this;unfold aO;omega
    have hcap2:64≤cap:=by omega
    have HN:=xh hN;have vH:=xh zb;clear hN zb;have hhead:ak L=(decide (1≤N)&&decide (N≤8)&&decide (64+56*N≤L.length)):=by
     have:(List.range 8).all (gL L)=true:=List.all_eq_true.2 λi hi=>lS.o i (List.mem_range.1 hi);simp[ak,h64,this,dh,←HN.o]
    have HH:=xh hhead;clear hhead;by_cases h1:N<1
    ·have HF:Hid (ak L=false):=xh (HH.o.trans (by simp;omega))
     go_wp2_with (go_at_call 145;refine vH.o.mono ?_;rintro e w1 ⟨rfl,rfl⟩)
     go_ret2
     exact⟨kr,gH.header HF.o⟩
    by_cases h2:8<N
    ·have HF:Hid (ak L=false):=xh (HH.o.trans (by simp;omega))
     go_wp2_with (go_at_call 145;refine vH.o.mono ?_;rintro e w1 ⟨rfl,rfl⟩)
     go_ret2
     exact⟨kr,gH.header HF.o⟩
    by_cases h3:(L.length:Int)<64+56*N
    ·have HF:Hid (ak L=false):=xh (HH.o.trans (by simp;omega))
     go_wp2_with (go_at_call 145;refine vH.o.mono ?_;rintro e w1 ⟨rfl,rfl⟩)
     go_ret2
     exact⟨kr,gH.header HF.o⟩
    have HF:Hid (ak L=true):=xh (HH.o.trans (by simp;omega));go_wp2_with (go_at_call 145;refine vH.o.mono ?_;rintro e w1 ⟨rfl,rfl⟩)
    obtain⟨M,rfl⟩:=Int.eq_ofNat_of_zero_le hN0;have ZA:Hid (dh L=M):=xh HN.o.symm
    go_loopw [7,56] (λl i wr=>∃k:Nat,k≤M∧i=.int .i64 k∧(∀j,j<k→dW L j=true)∧wr.ownsRow w.heap.size 321 5 l k ((List.range k).flatMap λi=>(aL L i).cells)∧Bel w wr) (λ_ i _=>M-(intOf i).toNat)
    case atStart=>exact⟨0,Nat.zero_le _,rfl,λj hj=>by omega,⟨rfl,.inl ⟨rfl,rfl⟩⟩,kr⟩
    case round=>
     obtain⟨k,hk,rfl,hall,hrow,kr⟩:=hrel;have lS:=xh hall;have eZ:=xh hrow;clear hall hrow vH hb2 HH;by_cases hlt:k<M
     ·have hwr:IntKind.i64.wrap (64+(k:Int)*56)=64+k*56:=by rw[IntKind.wrap_i64];omega
      go_wp2
      obtain⟨h,hh⟩:∃h:Nat,h=64+k*56:=⟨_,rfl⟩;rw[←hh];have hle:h+56≤L.length:=by omega
      have kw:Bel w (wr.alloc (.cells #[.slice (some ⟨b,h,none⟩) (L.length-h) (cap-h)] 59)):=kr.ac _;have kw2:Bel wr (wr.alloc (.cells #[.slice (some ⟨b,h,none⟩) (L.length-h) (cap-h)] 59)):=Below.aF wr _;have c9:(wr.alloc (.cells #[.slice (some ⟨b,h,none⟩) (L.length-h) (cap-h)] 59)).cell? (wr.heap.size,0)=some (.slice (some ⟨b,h,none⟩) (L.length-h) (cap-h)):=(Blk.new wr [_] _).cell 0;have hrow2:=aB eZ.o kw2;have hsz:(wr.alloc (.cells #[.slice (some ⟨b,h,none⟩) (L.length-h) (cap-h)] 59)).heap.size=wr.heap.size+1:=by simp
      generalize (wr.alloc (.cells #[.slice (some ⟨b,h,none⟩) (L.length-h) (cap-h)] 59))=w2 at *
      have hb2:iL w2 b 0 L:=hb.keep (Keep.of_bel (λ_=>False) kw) (λ_ h=>h);have hgb:wr.heap.size<w2.heap.size:=by omega
      have hw0:w.heap.size≤wr.heap.size:=kr.size;generalize wr.heap.size=g at *
      have hbyte:w2.cell? (b,h+4)=some (.int .u8 (L.getD (h+4) 0)):=by have:=hb2.at_ (h+4) (by omega);rwa [Nat.zero_add]at this
      have HC:∀(kk:Nat),kk+8≤56→∀W,iL W b 0 L→W.cell? (g,0)=some (.slice (some ⟨b,h,none⟩) (L.length-h) (cap-h))→Calls prog 255 #[.int .i64 kk,(8:Int),g] W λe w'=>e=.returned (.int .u64 (aO L (h+kk) 8))∧w'=W:=
       λkk hkk W hW hc=>rM b (L.length-h) cap h kk 8 g L W hW hcap hlen (by omega) (by omega) (by omega) hc
      obtain⟨pb,so,sa,sf,sm,hseg⟩:∃pb so sa sf sm,aL L k=⟨pb,so,sa,sf,sm⟩:=⟨_,_,_,_,_,rfl⟩;have WQ:=hseg;simp only[aL,Seg.mk.injEq,show 64+56*k=h from by omega]at WQ
      obtain⟨hpb,hso,hsa,Tn,hsm⟩:=WQ;rw[hpb]at hbyte;have NP:=xh hseg;clear hseg;have H8:Hid (∀W,iL W b 0 L→W.cell? (g,0)=some (.slice (some ⟨b,h,none⟩) (L.length-h) (cap-h))→Calls prog 255 #[(8:Int),(8:Int),g] W λe w'=>e=.returned (.int .u64 so)∧w'=W):=xh (by have:=HC 8 (by omega);rw[hso]at this;exact this);have H16:Hid (∀W,iL W b 0 L→W.cell? (g,0)=some (.slice (some ⟨b,h,none⟩) (L.length-h) (cap-h))→Calls prog 255 #[(16:Int),(8:Int),g] W λe w'=>e=.returned (.int .u64 sa)∧w'=W):=xh (by have:=HC 16 (by omega);rw[hsa]at this;exact this);have H32:Hid (∀W,iL W b 0 L→W.cell? (g,0)=some (.slice (some ⟨b,h,none⟩) (L.length-h) (cap-h))→Calls prog 255 #[(32:Int),(8:Int),g] W λe w'=>e=.returned (.int .u64 sf)∧w'=W):=xh (by have:=HC 32 (by omega);rw[Tn]at this;exact this);have H40:Hid (∀W,iL W b 0 L→W.cell? (g,0)=some (.slice (some ⟨b,h,none⟩) (L.length-h) (cap-h))→Calls prog 255 #[(40:Int),(8:Int),g] W λe w'=>e=.returned (.int .u64 sm)∧w'=W):=xh (by have:=HC 40 (by omega);rw[hsm]at this;exact this);have uO:=xh (And.intro hpb (And.intro hso (And.intro hsa (And.intro Tn hsm))));clear HC hpb hso hsa Tn hsm;have WR:=xh hrow2;have HHH:=xh hh;have hbl:b<w2.heap.size:=hb2.lt (by omega);clear hrow2 hh hsz;have aeu:(4:Int)<((L.length-h:Nat):Int):=by omega
      go_cut [11] (λs11 wx=>∃g2:Nat,s11=.pointer (g2,0)∧Hid (Blk wx g2 [.int .u8 pb,.int .u64 so,.int .u64 sa,.int .u64 sf,.int .u64 sm] 321)∧Hid (Bel w2 wx))
      case first=>
       go_region_held3 (λw'=>w'.cell? ⟨g,0,none⟩=some (.slice (some ⟨b,h,none⟩) (L.length-h) (cap-h))∧w'.cell? ⟨b,h+4,none⟩=some (.int .u8 pb)∧iL w' b 0 L)
        (first|(go_keep;done)|(try go_split_ands;refine⟨?_,?_,?_⟩<;>first|assumption|(go_keep;done)|exact EB (by assumption)|exact AL (by assumption) _|exact EB (AL (by assumption) _)))
        (first
          | (go_at_call 255;with_reducible refine au (H8.o _ ?_ ?_) ?_;(go_split_ands;assumption);(go_split_ands;assumption);rintro e w' ⟨rfl,rfl⟩)
          | (go_at_call 255;with_reducible refine au (H16.o _ ?_ ?_) ?_;(go_split_ands;assumption);(go_split_ands;assumption);rintro e w' ⟨rfl,rfl⟩)
          | (go_at_call 255;with_reducible refine au (H32.o _ ?_ ?_) ?_;(go_split_ands;assumption);(go_split_ands;assumption);rintro e w' ⟨rfl,rfl⟩)
          | (go_at_call 255;with_reducible refine au (H40.o _ ?_ ?_) ?_;(go_split_ands;assumption);(go_split_ands;assumption);rintro e w' ⟨rfl,rfl⟩))
       all_goals (go_wp2_with fail;go_meet;exact⟨w2.heap.size,rfl,xh (Blk.new w2 _ _),xh (Below.drew (Below.aF w2 _))⟩)
      case rest=>
       obtain⟨g2,rfl,B2,K2⟩:=hcut;have hb3:iL wc b 0 L:=hb2.keep (Keep.of_bel (λ_=>False) K2.o) (λ_ h=>h);have c93:wc.cell? (g,0)=some (.slice (some ⟨b,h,none⟩) (L.length-h) (cap-h)):=(World.cell?_of_block (a:=⟨g,0,none⟩) (K2.o.block g hgb)).trans c9;have e0:=B2.out.cell 0;have e1:=B2.out.cell 1;have e2:=B2.out.cell 2;have e3:=B2.out.cell 3;have e4:=B2.out.cell 4;simp only[List.getElem?_cons_zero,List.getElem?_cons_succ]at e0 e1 e2 e3 e4
       obtain⟨n0,hn0⟩:=e_x (aO L h 4);obtain⟨n4,hn4⟩:=e_x (aO L (h+4) 4);have C0:Hid (Calls prog 255 #[(0:Int),(4:Int),g] wc λe w'=>e=.returned (.int .u64 n0)∧w'=wc):=xh (by
        have:=rM b (L.length-h) cap h 0 4 g L wc hb3 hcap hlen (by omega) (by omega) (by omega) c93;rw[Nat.add_zero,hn0]at this;exact this)
       have C4:Hid (Calls prog 255 #[(4:Int),(4:Int),g] wc λe w'=>e=.returned (.int .u64 n4)∧w'=wc):=xh (by
        have:=rM b (L.length-h) cap h 4 4 g L wc hb3 hcap hlen (by omega) (by omega) (by omega) c93;rw[hn4]at this;exact this)
       have bd:=jF L hb.byte;have bo:0≤so∧so<18446744073709551616:=by rw[←uO.o.2.1];exact bd _ _ (by omega)
       have ba:0≤sa∧sa<18446744073709551616:=by rw[←uO.o.2.2.1];exact bd _ _ (by omega)
       have bf:0≤sf∧sf<18446744073709551616:=by rw[←uO.o.2.2.2.1];exact bd _ _ (by omega)
       have bm:0≤sm∧sm<18446744073709551616:=by rw[←uO.o.2.2.2.2];exact bd _ _ (by omega)
       obtain⟨bo0,bo1⟩:=bo;obtain⟨ba0,ba1⟩:=ba;obtain⟨bf0,bf1⟩:=bf;obtain⟨bm0,bm1⟩:=bm
       have ji:Hid (dW L k=(n0==1&&decide (1≤n4)&&decide (n4≤7)&&!(bits .and .u8 pb 3==3)&&!(sm==0)&&decide (sf≤sm)&&
        decide (so≤L.length)&&decide (sf≤L.length-so)&&so%256==sa%256&&decide (sa<65024)&&decide (sm≤65024-sa))):=xh (by
        simp only[dW,NP.o,show 64+56*k=h from by rw[HHH.o];omega,hn0,hn4])
       have KB:Hid (Bel w wc):=xh (kw.tr K2.o);have KR:Hid (wc.ownsRow w.heap.size 321 5 u7 k ((List.range k).flatMap λi=>(aL L i).cells)):=xh (aB WR.o K2.o);clear hn0 hn4 bd H8 H16 H32 H40 WR hbyte;have F0:Hid (n0≠1→dW L k=false):=xh λh=>by rw[ji.o];simp[h]
       have F1:Hid (n4<1→dW L k=false):=xh λh=>by rw[ji.o];simp[show ¬1≤n4 from by omega]
       have F2:Hid (7<n4→dW L k=false):=xh λh=>by rw[ji.o];simp[show ¬n4≤7 from by omega]
       have F3:Hid ((bits .and .u8 pb 3==3)=true→dW L k=false):=xh λh=>by rw[ji.o];simp[h]
       have F4:Hid ((sm==0)=true→dW L k=false):=xh λh=>by rw[ji.o];simp[h]
       have F5:Hid (sm<sf→dW L k=false):=xh λh=>by rw[ji.o];simp[show ¬sf≤sm from by omega]
       have F6:Hid ((L.length:Int)<so→dW L k=false):=xh λh=>by rw[ji.o];simp[show ¬so≤(L.length:Int)from by omega]
       have F7:Hid ((L.length:Int)-so<sf→dW L k=false):=xh λh=>by rw[ji.o];simp[show ¬sf≤(L.length:Int)-so from by omega]
       have F8:Hid ((so%256 != sa%256)=true→dW L k=false):=xh λh=>by rw[ji.o];simp[show ¬so%256=sa%256 from by simpa using h]
       have F9:Hid (65024≤sa→dW L k=false):=xh λh=>by rw[ji.o];simp[show ¬sa<65024 from by omega]
       have F10:Hid (65024-sa<sm→dW L k=false):=xh λh=>by rw[ji.o];simp[show ¬sm≤65024-sa from by omega]
       have FT:Hid (n0=1→1≤n4→n4≤7→(bits .and .u8 pb 3==3)=false→(sm==0)=false→sf≤sm→so≤(L.length:Int)→sf≤(L.length:Int)-so→(so%256 != sa%256)=false→sa<65024→sm≤65024-sa→dW L k=true):=xh λh0 h1 h2 h3 h4 h5 h6 h7 h8 h9 h10=>by
        have h8':so%256=sa%256:=by simpa using h8
        rw[ji.o];simp only[h0,h3,h4,h8',h1,h2,h5,h6,h7,h9,h10];simp
       have Zt:Hid ((List.range (k+1)).flatMap (λi=>(aL L i).cells)=(List.range k).flatMap (λi=>(aL L i).cells)++[.int .u8 pb,.int .u64 so,.int .u64 sa,.int .u64 sf,.int .u64 sm]):=xh (by
        rw[List.range_succ,List.flatMap_append,List.flatMap_singleton,NP.o];rfl)
       by_cases q0:n0=1
       ·subst q0
        go_wp2_with (first
         | (go_at_call 255;with_reducible refine au C0.o ?_;rintro e w' ⟨rfl,rfl⟩)
         | (go_at_call 255;with_reducible refine au C4.o ?_;rintro e w' ⟨rfl,rfl⟩)
         | (refine wpList_load_mid rfl 321 (.tmp 11) rfl g2 0 rfl [.int .u8 pb,.int .u64 so,.int .u64 sa,.int .u64 sf,.int .u64 sm] _ (by have:=B2.out.range 0;simpa using this) underlying321 rfl (by kernel_rfl) ?_)
         | (refine af rfl 317 321 (.tmp 133) rfl [.int .u8 pb,.int .u64 so,.int .u64 sa,.int .u64 sf,.int .u64 sm] rfl underlying317 KI (by show 0<5;omega) (by show 5≤2^24;omega) ?_;intro w5 B5 K5)
         | (refine aX rfl (.tmp 132) (.tmp 134) 317 rfl underlying317 KI (by omega) rfl (aB KR.o K5) _ [.int .u8 pb,.int .u64 so,.int .u64 sa,.int .u64 sf,.int .u64 sm] 321 rfl B5.out rfl (by intro v hv;simp at hv;rcases hv with rfl|rfl|rfl|rfl|rfl<;>rfl) (by unfold maxLen;omega) (by omega) (aV KB.o.size K5.size) ?_;intro v6 w6 R6 K6))
        all_goals first
         | (go_ret2
            refine⟨KB.o,gH.seg HF.o k (by rw[ZA.o];omega) ?_⟩;first|exact F1.o (by assumption)|exact F2.o (by assumption)|exact F3.o (by assumption)|exact F4.o (by assumption)|exact F5.o (by assumption)|exact F6.o (by assumption)|exact F7.o (by assumption)|exact F8.o (by assumption)|exact F9.o (by assumption)|exact F10.o (by assumption))
         | skip
        exact⟨⟨k+1,by omega,by go_num,gD lS.o (FT.o (by trivial) (by assumption) (by assumption) (by assumption) (by assumption) (by assumption) (by assumption) (by assumption) (by assumption) (by assumption) (by assumption)),by rw[Zt.o];exact R6,
         (KB.o.tr K5).trans (K6.below _ (aV KB.o.size K5.size) λi hi=>hi)⟩,by simp only[intOf];omega⟩
       ·have HF0:=xh (F0.o q0)
        have q1:(n0 != 1)=true:=by simpa using q0
        clear q0;go_wp2_with (go_at_call 255;with_reducible refine au C0.o ?_;rintro e w' ⟨rfl,rfl⟩)
        go_ret2
        exact⟨KB.o,gH.seg HF.o k (by rw[ZA.o];omega) HF0.o⟩
     ·obtain rfl:k=M:=by omega
      go_wp2
      go_ret2
      exact⟨kr,gH.ok HF.o (λi hi=>lS.o i (by rw[ZA.o]at hi;omega)) (by rw[ZA.o];exact eZ.o)⟩
 ·have hh:ak L=false:=by simp[ak,h64]
  have HH:=xh hh;clear hh;go_enter func178,ntmps178;go_wp2
  go_ret2
  exact⟨Below.refl _ _,gH.header HH.o⟩
end
end Go.Proofs.YtcnjjchlebmfiaaGreatDoor
namespace Go.Proofs
open Go.Shelf
def Tryz.Bd:Go.Shelf.Ren:=⟨λ|7=>75|10=>123|n=>n,λ|23=>113|26=>3|3=>187|28=>101|0=>0|27=>100|33=>179|4=>4|n=>n,λ|n=>n⟩
theorem Tryz.Wu:Go.Proofs.SlLaysZI.n7 prog Tryz.Bd:={
 mixed:=by kernel_rfl
 f7:=⟨Tryz.f75.name,by decide,fe func75 (by kernel_rfl)⟩
 f10:=⟨Tryz.f123.name,by decide,fe func123 (by kernel_rfl)⟩
 t0:=underlying0
 a0:=isAgg0
 z0:=sizeOf0
 v0:=zeroValue0
 t4:=underlying4
 a4:=isAgg4
 z4:=sizeOf4
 v4:=zeroValue4
 t23:=underlying113
 a23:=isAgg113
 z23:=sizeOf113
 v23:=zeroValue113
 t26:=underlying3
 a26:=isAgg3
 z26:=sizeOf3
 v26:=zeroValue3
 t27:=underlying100
 a27:=isAgg100
 z27:=sizeOf100
 v27:=zeroValue100
 t28:=underlying101
 a28:=isAgg101
 z28:=sizeOf101
 v28:=zeroValue101
 t33:=underlying179
 a33:=isAgg179
 z33:=sizeOf179
 v33:=zeroValue179}
def Tryz.wM:Go.Shelf.Ren:=⟨λ|6=>38|8=>72|9=>73|11=>120|13=>122|12=>121|23=>219|24=>220|14=>210|15=>211|16=>212|17=>213|18=>214|19=>215|20=>216|21=>217|22=>218|25=>276|26=>277|27=>278|28=>279|29=>280|30=>281|31=>328|n=>n,λ|26=>3|28=>101|24=>60|0=>0|3=>3|37=>33|48=>367|50=>37|4=>4|40=>360|39=>359|45=>364|5=>5|9=>9|51=>430|55=>434|57=>507|58=>142|33=>179|n=>n,λ|n=>n⟩
theorem Tryz.KY:Go.Proofs.SlLaysZI.n6 prog Tryz.wM:={
 mixed:=by kernel_rfl
 f6:=⟨Tryz.f38.name,by decide,fe func38 (by kernel_rfl)⟩
 f8:=⟨Tryz.f72.name,by decide,fe func72 (by kernel_rfl)⟩
 f11:=⟨Tryz.f120.name,by decide,fe func120 (by kernel_rfl)⟩
 t0:=underlying0
 a0:=isAgg0
 z0:=sizeOf0
 v0:=zeroValue0
 t24:=underlying60
 a24:=isAgg60
 z24:=sizeOf60
 v24:=zeroValue60
 t26:=underlying3
 a26:=isAgg3
 z26:=sizeOf3
 v26:=zeroValue3
 t28:=underlying101
 a28:=isAgg101
 z28:=sizeOf101
 v28:=zeroValue101
 i26:=by kernel_rfl}
def Tryz.ND:Go.Shelf.Ren:=⟨λ|5=>73|8=>122|7=>121|19=>219|20=>220|10=>210|11=>211|12=>212|13=>213|14=>214|15=>215|16=>216|17=>217|18=>218|30=>276|31=>277|32=>278|33=>279|34=>280|35=>281|40=>328|n=>n,λ|23=>60|25=>3|3=>3|32=>33|22=>60|0=>0|44=>367|46=>37|4=>4|36=>360|35=>359|41=>364|5=>5|9=>9|53=>430|57=>434|63=>507|64=>142|n=>n,λ|n=>n⟩
theorem Tryz.Wt:Go.Proofs.SlLaysM.n5 prog Tryz.ND:={
 mixed:=by kernel_rfl
 f5:=⟨Tryz.f73.name,by decide,fe func73 (by kernel_rfl)⟩
 f7:=⟨Tryz.f121.name,by decide,fe func121 (by kernel_rfl)⟩
 f8:=fe func122 (by kernel_rfl)
 f10:=⟨Tryz.f210.name,by decide,fe func210 (by kernel_rfl)⟩
 f11:=⟨Tryz.f211.name,by decide,fe func211 (by kernel_rfl)⟩
 f12:=⟨Tryz.f212.name,by decide,fe func212 (by kernel_rfl)⟩
 f13:=⟨Tryz.f213.name,by decide,fe func213 (by kernel_rfl)⟩
 f14:=⟨Tryz.f214.name,by decide,fe func214 (by kernel_rfl)⟩
 f15:=⟨Tryz.f215.name,by decide,fe func215 (by kernel_rfl)⟩
 f16:=⟨Tryz.f216.name,by decide,fe func216 (by kernel_rfl)⟩
 f17:=⟨Tryz.f217.name,by decide,fe func217 (by kernel_rfl)⟩
 f18:=⟨Tryz.f218.name,by decide,fe func218 (by kernel_rfl)⟩
 f19:=fe func219 (by kernel_rfl)
 f20:=fe func220 (by kernel_rfl)
 f30:=⟨Tryz.f276.name,by decide,fe func276 (by kernel_rfl)⟩
 f31:=fe func277 (by kernel_rfl)
 f32:=fe func278 (by kernel_rfl)
 f33:=⟨Tryz.f279.name,by decide,fe func279 (by kernel_rfl)⟩
 f34:=⟨Tryz.f280.name,by decide,fe func280 (by kernel_rfl)⟩
 f35:=⟨Tryz.f281.name,by decide,fe func281 (by kernel_rfl)⟩
 f40:=⟨Tryz.f328.name,by decide,fe func328 (by kernel_rfl)⟩
 t0:=underlying0
 a0:=isAgg0
 z0:=sizeOf0
 v0:=zeroValue0
 t3:=underlying3
 a3:=isAgg3
 z3:=sizeOf3
 v3:=zeroValue3
 t4:=underlying4
 a4:=isAgg4
 z4:=sizeOf4
 v4:=zeroValue4
 t5:=underlying5
 a5:=isAgg5
 z5:=sizeOf5
 v5:=zeroValue5
 t9:=underlying9
 a9:=isAgg9
 z9:=sizeOf9
 v9:=zeroValue9
 t22:=underlying60
 a22:=isAgg60
 z22:=sizeOf60
 v22:=zeroValue60
 t23:=underlying60
 a23:=isAgg60
 z23:=sizeOf60
 v23:=zeroValue60
 t25:=underlying3
 a25:=isAgg3
 z25:=sizeOf3
 v25:=zeroValue3
 t32:=underlying33
 a32:=isAgg33
 z32:=sizeOf33
 v32:=zeroValue33
 t35:=underlying359
 a35:=isAgg359
 z35:=sizeOf359
 v35:=zeroValue359
 t36:=underlying360
 a36:=isAgg360
 z36:=sizeOf360
 v36:=zeroValue360
 t41:=underlying364
 a41:=isAgg364
 z41:=sizeOf364
 v41:=zeroValue364
 t44:=underlying367
 a44:=isAgg367
 z44:=sizeOf367
 v44:=zeroValue367
 t46:=underlying37
 a46:=isAgg37
 z46:=sizeOf37
 v46:=zeroValue37
 t53:=underlying430
 a53:=isAgg430
 z53:=sizeOf430
 v53:=zeroValue430
 t57:=underlying434
 a57:=isAgg434
 z57:=sizeOf434
 v57:=zeroValue434
 t63:=underlying507
 a63:=isAgg507
 z63:=sizeOf507
 v63:=zeroValue507
 t64:=underlying142
 a64:=isAgg142
 z64:=sizeOf142
 v64:=zeroValue142}
end Go.Proofs
namespace Go.Proofs.YtcnjjchlebmfiaaGreatDoor
section
open Go.Proofs.Tryz Go.RowKit Go.Maps Go.Sort Go.Shelf
def az(m:aU):List Nat:=(List.range 256).filter λn=>(m n).isSome
def R0:Value→Option (DataW Unit×List MemPlace):=λ_=>some (.nil,[])
def D0(kv:List (Int×Value)):DataW Unit:=.map ((kv.map λp=>(Lit.int .i64 p.1,.nil)).foldr DataW.insert [])
theorem Mp.owns{w:World}{b:Nat}{kv:List (Int×Value)}(h:Mp nV w b kv)(hl:kv.length≤maxLen):w.ownsMap prog 3 R0 b kv.length (D0 kv):=by
 obtain⟨es,clock,h1,h2,h3,h4⟩:=h;have hlen:es.size=kv.length:=by have:=congrArg List.length h3;simpa using this
 have hrd:∀a v,nV.ok a→∀c,Go.WideElems.rd prog 3 R0 ⟨.int .i64 a,v,c⟩=some (Lit.int .i64 a,.nil):=by
  intro a v ha c;have:keyOf prog 3 (.int .i64 a)=some (.int .i64 a):=nV.read a ha;simp[Go.WideElems.rd,this,R0]
 have hent:∀x∈es.toList,∃p∈kv,x.key=.int .i64 p.1:=by
  intro x hx;have hm:(x.key,x.val)∈kv.map (λp=>(nV.kf p.1,p.2)):=by rw[←h3];exact List.mem_map.2 ⟨x,hx,rfl⟩
  obtain⟨p,hp,e⟩:=List.mem_map.1 hm
  injection e with e1 _
  exact⟨p,hp,e1.symm⟩
 have hone:∀x∈es.toList,∀a,x.key=.int .i64 a→nV.ok a→Go.WideElems.rd prog 3 R0 x=some (Lit.int .i64 a,.nil):=by
  rintro⟨k,v,c⟩ _ a rfl ha;exact hrd a v ha c
 refine⟨es,clock,h1,⟨by omega,h2,λx hx=>?_⟩,by omega,?_⟩
 ·obtain⟨p,hp,e⟩:=hent x hx
  exact⟨_,hone x hx p.1 e (h4 p hp)⟩
 ·unfold D0
  congr 2
  apply List.ext_getElem?
  intro i;have oL:=congrArg (·[i]?) h3;simp only[dA]at oL⊢
  cases he:es.toList[i]? with
  | none=>
    rw[he]at oL;cases hk:kv[i]? with
    | none=>rfl
    | some p=>rw[hk]at oL;cases oL
  | some x=>
    rw[he]at oL;cases hk:kv[i]? with
    | none=>rw[hk]at oL;cases oL
    | some p=>
      rw[hk]at oL;simp only[Option.map_some,Option.some.injEq,Prod.mk.injEq]at oL
      have:=hone x (List.mem_of_getElem? he) p.1 oL.1 (h4 p (List.mem_of_getElem? hk));simp only[Option.map_some,Go.WideElems.rg,this,Option.getD_some]
theorem KX(kv:List (Int×Value)):(intKeys (D0 kv)).Perm (kv.map Prod.fst):=by
 unfold D0 intKeys;have:=(Go.WideShapes.sorted_perm (kv.map λp=>(Lit.int .i64 p.1,(.nil:DataW Unit)))).map (λp=>Go.intOf p.1);refine this.trans ?_;rw[List.map_map];exact List.Perm.refl _
theorem xP(kv:List (Int×Value)):Maps.size (D0 kv)=kv.length:=by
 unfold D0;rw[size_eq,length_sorted,fJ]
theorem kD{kv:List (Int×Value)}{a:Int}:(dD kv a).isSome=true↔a∈kv.map Prod.fst:=by
 unfold dD;rw[Option.isSome_map,List.find?_isSome];simp only[decide_eq_true_eq,List.mem_map]
theorem Sp.keys{w:World}{b:Nat}{m:aU}{kv:List (Int×Value)}(hm:∀n,256≤n→m n=none)(h1:Mp nV w b kv)(h2:∀n:Nat,dD kv (n:Int)=(m n).map Pg.v)(h3:∀p∈kv,0≤p.1) :
 (kv.map Prod.fst).Perm ((az m).map λn:Nat=>(n:Int)):=by
 refine(List.perm_ext_iff_of_nodup h1.nodup ?_).2 λx=>?_
 ·refine List.Pairwise.map _ (λa b hab e=>hab (by omega)) ((List.nodup_range (n:=256)).filter _)
 ·constructor
  ·intro hx
   obtain⟨p,hp,rfl⟩:=List.mem_map.1 hx;obtain⟨n,hn⟩:=Int.eq_ofNat_of_zero_le (h3 p hp);have hs:(dD kv (n:Int)).isSome=true:=kD.2 (hn▸hx);rw[h2 n,Option.isSome_map]at hs;refine List.mem_map.2 ⟨n,?_,hn.symm⟩;refine List.mem_filter.2 ⟨List.mem_range.2 ?_,hs⟩;by_cases hlt:n<256
   ·exact hlt
   ·rw[hm n (by omega)]at hs;cases hs
  ·intro hx
   obtain⟨n,hn,rfl⟩:=List.mem_map.1 hx;have hs:=(List.mem_filter.1 hn).2;refine kD.1 ?_;rw[h2 n,Option.isSome_map];exact hs
theorem sorts(m:Nat):AnyZI.SortsIn prog Tryz.wM Fence.wide m:=
 ⟨λblk off cap ss W hH hblk hsz=>callsIn_wide.2 (AnyM.slices_Sort_int Tryz.Wt blk off cap ss W hH hblk hsz),
  λp cap W=>callsIn_wide.2 (AnyM.slices_Sort_int_none Tryz.Wt p cap W)⟩
theorem QX(mb:Option Nat)(w:World):Calls prog 75 #[.map mb] w λe w'=>e=.returned (.func (.func 123) #[] #[w.heap.size])∧w'=w.alloc (.cells #[.map mb] 113):=
 (callsIn_wide (n:=5)).1 (AnyZI.keys_in Tryz.Wu Fence.wide 5 trivial rfl mb w)
theorem NA{ss:List Int}{ns:List Nat}(h:ss.Perm (ns.map λn:Nat=>(n:Int)))(hs:ns.Pairwise (·< ·)):ss.mergeSort (λx y=>decide (x≤y))=ns.map λn:Nat=>(n:Int):=by
 refine List.Perm.eq_of_pairwise (le:=λx y:Int=>decide (x≤y)=true) (λa b _ _ h1 h2=>?_) ?_ ?_ ((List.mergeSort_perm _ _).trans h)
 ·simp at h1 h2;omega
 ·exact List.pairwise_mergeSort (λa b c h1 h2=>by simp at *;omega) (λa b=>by simp;omega) _
 ·exact List.Pairwise.map _ (λa b hab=>by simp;omega) hs
theorem xD(m:aU):(az m).Pairwise (·< ·):=(List.pairwise_lt_range (n:=256)).filter _
theorem eU(m:aU):(az m).length≤256:=by
 have:=List.length_filter_le (λn=>(m n).isSome) (List.range 256)
 simpa [az]using this
theorem I7(q b:Nat)(m:aU)(w:World)(hm:∀n,256≤n→m n=none)(hs:Sp w b m)(hq:q<w.heap.size)(hc:w.cell? (q,0)=some (.map (some b))) :
 Calls prog 38 #[.func (.func 123) #[] #[q]] w λe w'=>∃v,e=.returned v∧
  w'.ownsRow w.heap.size 3 1 v (az m).length ((az m).map λn:Nat=>Value.int .i64 n)∧Below w.heap.size w w':=by
 obtain⟨kv,h1,h2,h3⟩:=hs;have hk:=Sp.keys hm h1 h2 h3;have hlen:kv.length=(az m).length:=by simpa using hk.length_eq
 have hle:=eU m;have hmax:kv.length≤maxLen:=by rw[hlen];exact aV hle (by unfold maxLen;omega)
 have hown:=Mp.owns h1 hmax;have hseq:SeqGives Fence.wide 2 prog 123 #[q] encZ (λss=>ss.Perm (intKeys (D0 kv))) (Maps.size (D0 kv)) w:=
  AnyZI.keys_gives (ρ:=Tryz.Bd) {Tryz.Wu with} Fence.wide _ trivial rfl (by omega) q b kv.length (D0 kv) _ hq hc hown
 have cS:=AnyZI.sorted_in Tryz.KY Fence.wide 5 trivial trivial trivial trivial rfl (by omega) (sorts _) (enters_of func73 (by kernel_rfl) rfl) 123 #[q] trivial (enters_of func123 (by kernel_rfl) rfl) _ _ (by rw[xP];exact hmax) (by rw[xP];omega) _ hseq;refine((callsIn_wide (n:=5)).1 cS).mono ?_;rintro e w' ⟨v,ss,rfl,hS,hrow,_,hb⟩;have hp:ss.Perm ((az m).map λn:Nat=>(n:Int)):=(hS.trans (KX kv)).trans hk;rw[NA hp (xD m),List.map_map,show ss.length=(az m).length from by simpa using hp.length_eq]at hrow;exact⟨v,rfl,hrow,hb⟩
end
section
open Go.Proofs.Tryz Go.RowKit Go.Maps
def bV(n:Nat)(p:Pg):List Value:=.int .i64 n:: .int .u8 p.perm::p.bytes.map (Value.int .u8)
def gY(m:aU)(ns:List Nat):List Value:=ns.flatMap λn=>bV n ((m n).getD Pg.zero)
theorem zk:(prog.info? 57).map (λi=>(i.size,i.bytes,(i.zero.map (·.cells.size))))=some (258,272,some 258):=by kernel_rfl
theorem Js(n:Int)(p:Pg)(hp:p.bytes.length=256) :
 prog.built 57 [(0,.int .i64 n),(1,.int .u8 p.perm),(2,.agg (p.bytes.map (Value.int .u8)).toArray)]=some (Value.int .i64 n:: .int .u8 p.perm::p.bytes.map (Value.int .u8)).toArray:=by
 refine CS (places:=[(0,1),(1,1),(2,256)]) zk underlying57 (by kernel_rfl) _ _ λz hz=>?_;obtain⟨z0,z',rfl,h0,hz'⟩:=yT z 1 257 hz;obtain⟨z1,z2,rfl,h1,h2⟩:=yT z' 1 256 hz';rw[show z0++(z1++z2)=[]++(z0++(z1++z2))from rfl,kN _ _ _ _ _ _ _ rfl h0];rw[show[]++((Value.int .i64 n).cells.toList++(z1++z2))=[Value.int .i64 n]++(z1++z2)from rfl,kN _ _ _ _ _ _ _ rfl h1];rw[show[Value.int .i64 n]++((Value.int .u8 p.perm).cells.toList++z2)=[Value.int .i64 n,.int .u8 p.perm]++(z2++[])from by simp[Value.cells],kN _ _ _ _ _ _ _ (by simp[Value.cells,hp]) (by simp[Value.cells,hp,h2])];simp[Instr.fill,Value.cells]
theorem FH(p:Pg)(hp:p.bytes.length=256)(w:World):(Instr.field 187 p.v 1).run prog w=.ok (.agg (p.bytes.map (Value.int .u8)).toArray) w:=by
 have e1:(isAgg 55).run prog w=.ok true w:=by kernel_rfl
 have e2:(sizeOf 55).run prog w=.ok 256 w:=by kernel_rfl
 simp only[Instr.field,Pg.v,Pg.cells,Sem.run_bind,run_underlying underlying187,Result.andThen_ok,asAgg]
 simp[part,e1,e2,hp]
 exact List.take_of_length_le (by simp[hp])
theorem ko(n:Nat)(p:Pg)(hp:p.bytes.length=256):(bV n p).length=258:=by simp[bV,hp]
theorem CY(n:Nat)(p:Pg):∀v∈bV n p,v.oneCell'=true:=by
 intro v hv;simp only[bV,List.mem_cons,List.mem_map]at hv
 rcases hv with rfl|rfl|⟨x,_,rfl⟩<;>rfl
theorem NY(b:Nat)(m:aU)(w:World)(hs:Sp w b m)(hm:l9 m) :
 Calls prog 40 #[.map (some b)] w λe w'=>∃v,e=.returned v∧
  w'.ownsRow w.heap.size 57 258 v (az m).length (gY m (az m))∧Bel w w':=by
 have hn1:=eU m;obtain⟨ns,hns⟩:∃ns,ns=az m:=⟨_,rfl⟩;rw[←hns]at hn1⊢;have hin:∀k,(h:k<ns.length)→∃p,m ns[k]=some p∧p.wf:=by
  intro k h;have:ns[k]∈az m:=by rw[←hns];exact List.getElem_mem h
  obtain⟨p,hp⟩:=Option.isSome_iff_exists.1 (List.mem_filter.1 this).2;exact⟨p,hp,hm.wf _ p hp⟩
 have HN:=xh hns;have EO:=xh hin;clear hns hin;go_enter func40,ntmps40
 go_wp2_with (first
  | (go_at_call 75;refine(QX (some b) _).mono ?_;rintro e w1 ⟨rfl,rfl⟩)
  | (go_at_call 38;refine(I7 w.heap.size b m _ hm.below (hs.alloc _) (by simp) (by simp)).mono ?_;rintro e w2 ⟨v,rfl,zm,k2⟩
     rw[←HN.o]at zm;obtain⟨ps,cap,rfl,hcap,_,hps⟩:=aD zm;have K2:Bel w w2:=(Below.aF w _).trans (k2.mono (by simp));have GD:=xh hps;clear hps zm k2))
 go_loopw [3,10] (λl i wr=>∃(k:Nat),k≤ns.length∧i=.int .i64 k∧wr.ownsRow w2.heap.size 57 258 l k (gY m (ns.take k))∧Below w2.heap.size w2 wr) (λ_ i _=>ns.length-(intOf i).toNat)
 case atStart=>exact⟨0,Nat.zero_le _,rfl,⟨rfl,.inl ⟨rfl,rfl⟩⟩,Below.refl _ _⟩
 case round=>
  obtain⟨k,hk,rfl,hrow,kr⟩:=hrel;by_cases hlt:k<ns.length
  ·obtain⟨gs,rfl,hb0,hb1,hcells,_⟩:=GD.o.resolve_left (by omega)
   obtain⟨p,hp,hpw⟩:=EO.o k hlt;have hc:wr.cell? ⟨gs,k,none⟩=some (.int .i64 (ns[k]:Nat)):=by
    rw[World.cell?_of_block (a:=⟨gs,k,none⟩) (kr.block gs hb1),hcells k (by simpa using hlt)];simp[hlt]
   have uK:Sp wr b m:=(hs.bel K2).bel kr;have hl:=uK.lookup ns[k] (by
    have h1:ns[k]∈az m:=by rw[←HN.o];exact List.getElem_mem hlt
    have:=List.mem_range.1 (List.mem_filter.1 h1).1;omega)
   have hx:gY m (ns.take (k+1))=gY m (ns.take k)++bV ns[k] p:=by
    rw[List.take_succ_eq_append_getElem hlt,gY,List.flatMap_append,List.flatMap_singleton,hp];rfl
   rw[hp,Option.getD_some]at hl;have f1:=zn p;have f2:=FH p hpw.len;have HX:=xh hx;have iV:=xh (ko ns[k] p hpw.len);have HB:=xh (Js (ns[k]:Nat) p hpw.len);have ae6:=xh hcells;have eZ:=xh hrow;have HP:=xh hp;clear hx hcells hrow hp GD;generalize hnk:ns[k]=nk at *
   have HNK:=xh hnk;clear hnk;have hbase:=kr.size
   go_wp2_with (first
    | (refine wpList_buildTo rfl 57 _ rfl (some 24) rfl (bV nk p).toArray (by simp only[List.map_toArray,List.map_cons,List.map_nil];exact HB.o) ?_)
    | (refine af rfl 39 57 (.tmp 24) rfl (bV nk p) rfl underlying39 (by rw[iV.o];exact zk) (by rw[iV.o];omega) (by rw[iV.o];decide) ?_;intro w3 B3 K3)
    | (refine aX rfl (.tmp 14) (.tmp 25) 39 rfl underlying39 zk (by omega) rfl (aB eZ.o K3) wr.heap.size (bV nk p) 57 rfl B3.out iV.o (CY nk p) (by unfold maxLen;omega) (by omega) (aV hbase K3.size) ?_;intro v5 w5 R5 K5))
   exact⟨⟨k+1,by omega,by go_num,by rw[HX.o];exact R5,(kr.trans (K3.mono hbase)).trans (K5.below _ (aV hbase K3.size) λi hi=>hi)⟩,by simp only[intOf];omega⟩
  ·obtain rfl:k=ns.length:=by omega
   rw[List.take_length]at hrow;have eZ:=xh hrow;clear hrow;go_wp2
   go_ret
   exact⟨_,rfl,eZ.o.mono K2.size,K2.tr kr⟩
end
section
section
variable {P:Program} {t e:TypeId} {k:IntKind} {n:Nat}
theorem sN(he:P.underlying e=some (.int k)):P.plainKey e=true:=by simp[Program.plainKey,he]
theorem sO(he:P.underlying e=some (.int k))(d:Nat)(xs ys:List Int)(w:World):∀is:List Nat,(∀i∈is,i<xs.length∧i<ys.length)→
 (Op.eqItems (d+1) e 1 (xs.map (Value.int k)).toArray (ys.map (Value.int k)).toArray is).run P w=.ok (is.all λi=>xs[i]?==ys[i]?) w
 | [],_=>by simp[Op.eqItems]
 | i::is,h=>by
   obtain⟨h1,h2⟩:=h i (by simp);have ih:=sO he d xs ys w is (λj hj=>h j (by simp[hj]));have p1:=run_part_plain w (sN he) (xs:=(xs.map (Value.int k)).toArray) (off:=i) (v:=.int k xs[i]) (by simp[h1]);have p2:=run_part_plain w (sN he) (xs:=(ys.map (Value.int k)).toArray) (off:=i) (v:=.int k ys[i]) (by simp[h2]);simp only[Op.eqItems,Nat.mul_one,Sem.run_bind,p1,p2,Result.andThen_ok,run_equalIn_int w d e k k xs[i] ys[i] he]
   by_cases hx:xs[i]=ys[i]
   ·simp[hx,ih,bP h1,bP h2]
   ·have hb:(xs[i]==ys[i])=false:=by simpa using hx
    simp[hb,bP h1,bP h2]
theorem zS(xs ys:List Int)(hx:xs.length=n)(hy:ys.length=n):((List.range n).all λi=>xs[i]?==ys[i]?)=decide (xs=ys):=by
 rw[Bool.eq_iff_iff];simp only[List.all_eq_true,List.mem_range,beq_iff_eq,decide_eq_true_eq]
 constructor
 ·intro h
  apply List.ext_getElem?
  intro i;by_cases hi:i<n
  ·exact h i hi
  ·rw[List.getElem?_eq_none (by omega),List.getElem?_eq_none (by omega)]
 ·rintro rfl i _
  rfl
theorem zT{i:TypeInfo}(ht:P.underlying t=some (.array n e))(he:P.underlying e=some (.int k))(hi:P.info? e=some i)(hc:P.cellsOf e=1)(xs ys:List Int)(hx:xs.length=n)(hy:ys.length=n)(d:Nat)(w:World) :
 (Op.equalIn (d+2) t (.agg (xs.map (Value.int k)).toArray) (.agg (ys.map (Value.int k)).toArray)).run P w=.ok (decide (xs=ys)) w:=by
 rw[run_equalIn_array w (d+1) _ _ ht hi,hc,sO he d xs ys w _ (λi hi=>by simp at hi;omega),zS xs ys hx hy]
theorem vX{i:TypeInfo}(ht:P.underlying t=some (.array n e))(he:P.underlying e=some (.int k))(hi:P.info? e=some i)(hc:P.cellsOf e=1)(xs ys:List Int)(hx:xs.length=n)(hy:ys.length=n)(w:World) :
 (binOp .neq t (.agg (xs.map (Value.int k)).toArray) (.agg (ys.map (Value.int k)).toArray)).run P w=.ok (.bool (!decide (xs=ys))) w:=by
 rw[run_neq_struct w,zT ht he hi hc xs ys hx hy 9998 w];rfl
end
end
section
open Go.Proofs.Tryz Go.RowKit Go.Maps
def ax(n:Nat)(p:Pg):List Value:=.int .i64 n:: .int .i64 p.perm::p.bytes.map (Value.int .u8)
theorem iK{α β:Type}(f:α→List β)(s:Nat):∀(L:List α),(∀x∈L,(f x).length=s)→∀k j,j<s→(L.flatMap f)[k*s+j]?=L[k]?.bind (λx=>(f x)[j]?)
 | [],_,k,j,_=>by simp
 | x::L,h,k,j,hj=>by
   have hx:=h x List.mem_cons_self;cases k with
   | zero=>
     rw[List.flatMap_cons,Nat.zero_mul,Nat.zero_add,List.getElem?_append_left (by omega)];rfl
   | succ k=>
     rw[List.flatMap_cons,List.getElem?_append_right (by rw[hx,Nat.succ_mul];omega),hx,show(k+1)*s+j-s=k*s+j from by rw[Nat.succ_mul];omega,iK f s L (λy hy=>h y (List.mem_cons_of_mem _ hy)) k j hj];rfl
theorem fq{α β:Type}(f:α→List β)(s:Nat):∀(L:List α),(∀x∈L,(f x).length=s)→(L.flatMap f).length=L.length*s
 | [],_=>by simp
 | x::L,h=>by
   rw[List.flatMap_cons,List.length_append,h x List.mem_cons_self,fq f s L λy hy=>h y (List.mem_cons_of_mem _ hy),List.length_cons,Nat.succ_mul];omega
theorem qi{P:Program}{C:World→Prop}{a:Act}{o:Oper}{K:Act→Prop}(ty:TypeId)(x:Operand)(ho:o.op=.load ty x)(b off:Nat)(hx:a.eval x=.pointer (b,off))(cs:List Value)(d:TypeDesc)(hc:∀w,C w→w.rangeAt b off cs)
 (hu:P.underlying ty=some d)(hd:d.isRow=true)(hi:(P.info? ty).map (·.size)=some cs.length)(hk:K (a.put o.dst (.agg cs.toArray))):o.quiet P a C K:=
 ⟨_,λw hw=>by
   unfold Oper.quietAt;simp only[execOp,ho,hx,run_loadAt_mid w b off ty cs d (hc w hw) hu hd hi,Sem.run_bind,Result.andThen_ok,Sem.run_pure]
   exact⟨rfl,rfl⟩,hk⟩
theorem Aj{P:Program}{C:World→Prop}{a:Act}{o:Oper}{K:Act→Prop}(ty rt:TypeId)(x y:Operand)(ho:o.op=.binOp .neq ty x y rt)(xs ys:Array Value)(r:Bool)(hx:a.eval x=.agg xs)(hy:a.eval y=.agg ys)(hm:P.eqGuardType P.depth ty=false)(hr:∀w,(binOp .neq ty (.agg xs) (.agg ys)).run P w=.ok (.bool r) w)(hk:K (a.put o.dst (.bool r))):o.quiet P a C K:=
 ⟨_,λw _=>by
   unfold Oper.quietAt;simp only[execOp,ho,hx,hy,run_eqGuard_agg w .neq ty x y xs ys hm,hr w,Sem.run_bind,Result.andThen_ok,Sem.run_pure]
   exact⟨rfl,rfl⟩,hk⟩
def Rd(w:World)(v:Value)(n:Nat)(xs:List Value):Prop:=
 ∃p cap,v=.slice p n cap∧(0<n→∃g,p=some ⟨g,0,none⟩∧g<w.heap.size∧∀j,j<xs.length→w.cell? ⟨g,j,none⟩=xs[j]?)
theorem Rd.vM{w:World}{base:Nat}{e:TypeId}{size:Nat}{v:Value}{n:Nat}{xs:List Value}(h:w.ownsRow base e size v n xs):Rd w v n xs:=by
 obtain⟨p,cap,rfl,_,_,h|⟨g,rfl,_,h2,h3,_⟩⟩:=aD h
 ·exact⟨p,cap,rfl,λh0=>by omega⟩
 ·exact⟨_,cap,rfl,λ_=>⟨g,rfl,h2,h3⟩⟩
theorem Rd.bel{w w':World}{v:Value}{n:Nat}{xs:List Value}(h:Rd w v n xs)(hb:Bel w w'):Rd w' v n xs:=by
 obtain⟨p,cap,rfl,h⟩:=h;refine⟨p,cap,rfl,λh0=>?_⟩;obtain⟨g,rfl,h2,h3⟩:=h h0;exact⟨g,rfl,Nat.lt_of_lt_of_le h2 hb.size,λj hj=>(World.cell?_of_block (a:=⟨g,j,none⟩) (hb.block g h2)).trans (h3 j hj)⟩
theorem Sj(va vb:Value)(L:List (Nat×Pg))(w:World)(hl:L.length≤256)(hwf:∀q∈L,q.2.wf)(ha:Rd w va L.length (L.flatMap λq=>bV q.1 q.2))(hb:Rd w vb L.length (L.flatMap λq=>ax q.1 q.2)) :
 Calls prog 209 #[va,vb] w λe w'=>e=.returned (.bool true)∧∃n,w'=w.drewN n:=by
 obtain⟨pa,bS,rfl,ha⟩:=ha;obtain⟨pb,afn,rfl,hb⟩:=hb;have HA:=xh ha;have HB:=xh hb;have HW:=xh hwf;clear ha hb hwf;go_enter func209,ntmps209;go_wp2
 go_loopw [5] (λi wr=>∃k nn:Nat,k≤L.length∧i=.int .i64 k∧wr=w.drewN nn) (λi _=>L.length-(intOf i).toNat)
 case atStart=>exact⟨0,0,Nat.zero_le _,rfl,rfl⟩
 case round=>
  obtain⟨k,nn,hk,rfl,rfl⟩:=hrel;by_cases hlt:k<L.length
  ·obtain⟨ga,rfl,hga,hca⟩:=HA.o (by omega)
   obtain⟨gb,rfl,hgb,hcb⟩:=HB.o (by omega);have hq:=HW.o L[k] (List.getElem_mem hlt);have la:∀q∈L,(bV q.1 q.2).length=258:=λq hq=>ko _ _ (HW.o q hq).len;have lb:∀q∈L,(ax q.1 q.2).length=258:=λq hq=>by simp[ax,(HW.o q hq).len]
   have ca:∀j,j<258→w.cell? (ga,k*258+j)=(bV L[k].1 L[k].2)[j]?:=λj hj=>by
    rw[hca _ (by rw[fq _ 258 L la];omega),iK _ 258 L la k j hj,bP hlt];rfl
   have cb:∀j,j<258→w.cell? (gb,k*258+j)=(ax L[k].1 L[k].2)[j]?:=λj hj=>by
    rw[hcb _ (by rw[fq _ 258 L lb];omega),iK _ 258 L lb k j hj,bP hlt];rfl
   obtain⟨n,p,hnp⟩:∃n p,L[k]=(n,p):=⟨_,_,rfl⟩;rw[hnp]at ca cb hq;have a0:w.cell? (ga,k*258)=some (.int .i64 n):=ca 0 (by omega);have a1:w.cell? (ga,k*258+1)=some (.int .u8 p.perm):=ca 1 (by omega);have b0:w.cell? (gb,k*258)=some (.int .i64 n):=cb 0 (by omega);have b1:w.cell? (gb,k*258+1)=some (.int .i64 p.perm):=cb 1 (by omega);have a2:w.rangeAt ga (k*258+2) (p.bytes.map (Value.int .u8)):=λj v hv=>by
    have hj:j<256:=by have:=(bZ hv).1;simpa [hq.len]using this
    rw[Nat.add_assoc,ca (2+j) (by omega),←hv,Nat.add_comm 2 j];rfl
   have b2:w.rangeAt gb (k*258+2) (p.bytes.map (Value.int .u8)):=λj v hv=>by
    have hj:j<256:=by have:=(bZ hv).1;simpa [hq.len]using this
    rw[Nat.add_assoc,cb (2+j) (by omega),←hv,Nat.add_comm 2 j];rfl
   have A2:Hid (∀w',(∃n,w'=(w.drewN nn).drewN n)→w'.rangeAt ga (k*258+2) (p.bytes.map (Value.int .u8))):=xh (by rintro w' ⟨n,rfl⟩;exact a2);have B2:Hid (∀w',(∃n,w'=(w.drewN nn).drewN n)→w'.rangeAt gb (k*258+2) (p.bytes.map (Value.int .u8))):=xh (by rintro w' ⟨n,rfl⟩;exact b2);have HL:Hid ((prog.info? 55).map (·.size)=some (p.bytes.map (Value.int .u8)).length):=xh (by rw[fJ,hq.len];kernel_rfl);have hp0:=hq.perm.1;have hp1:=hq.perm.2;obtain⟨ie,hie⟩:=Option.isSome_iff_exists.1 (show(prog.info? 5).isSome=true by kernel_rfl);have hne:∀w,(binOp .neq 55 (.agg (p.bytes.map (Value.int .u8)).toArray) (.agg (p.bytes.map (Value.int .u8)).toArray)).run prog w=.ok (.bool false) w:=λw=>by
    rw[vX underlying55 underlying5 hie (by kernel_rfl) p.bytes p.bytes hq.len hq.len w];simp
   have jD:=xh hne;clear ca cb a2 b2 hca hcb la lb HA HB hie hne;go_wp2
   refine wp_region_quiet_lit (by kernel_rfl) (by kernel_rfl) ?_
   repeat (first
    | go_big_quiet_skip
    | (go_big_quiet_want;first
        | (refine qi 55 (.tmp 46) rfl ga (k*258+2) rfl _ _ A2.o underlying55 rfl HL.o ?_;simp only[Act.put,List.setIfInBounds_toArray,List.set_cons_succ,List.set_cons_zero];go_big_quiet_on)
        | (refine qi 55 (.tmp 51) rfl gb (k*258+2) rfl _ _ B2.o underlying55 rfl HL.o ?_;simp only[Act.put,List.setIfInBounds_toArray,List.set_cons_succ,List.set_cons_zero];go_big_quiet_on)
        | (refine Aj 55 _ (.tmp 47) (.tmp 52) rfl _ _ false rfl rfl (by kernel_rfl) jD.o ?_;simp only[Act.put,List.setIfInBounds_toArray,List.set_cons_succ,List.set_cons_zero];go_big_quiet_on)
        | (go_big_quiet_op;go_big_quiet_on)))
   refine wpQuiet_nil ?_;rintro _ ⟨nq,rfl⟩;go_wp2
   go_roundw
   case rel=>exact⟨k+1,nn+nq,by omega,by go_num,by simp[World.drewN_drewN]⟩
   case measure=>simp[intOf]<;>omega
  ·obtain rfl:k=L.length:=by omega
   go_wp2
   go_ret
   exact⟨rfl,nn,rfl⟩
def aM(L:List Int):Nat→aU
 | 0=>λ_=>none
 | k+1=>kz (aM L k) L (aL L k) ((aL L k).last+1)
def gG(L:List Int)(k:Nat):Prop:=∀n,(aL L k).first≤n→n≤(aL L k).last→aM L k n=none
theorem CJ(L:List Int)(hb:∀x∈L,0≤x∧x≤255)(i:Nat)(hl:64+56*i+56≤L.length)(h:dW L i=true):jP L (aL L i):=by
 simp only[dW,Bool.and_eq_true,beq_iff_eq,decide_eq_true_eq,Bool.not_eq_true',beq_eq_false_iff_ne]at h
 obtain⟨⟨⟨⟨⟨⟨⟨⟨⟨⟨_,h1⟩,h2⟩,_⟩,h4⟩,h5⟩,h6⟩,h7⟩,_⟩,h9⟩,h10⟩:=h;have hu:=λk=>jF L hb k 8 (by omega);have hp:0≤(aL L i).perm∧(aL L i).perm≤7:=by
  have e:aO L (64+56*i+4) 4=L.getD (64+56*i+4) 0+256*jR ((L.drop (64+56*i+5)).take 3):=by
   unfold aO;rw[List.drop_eq_getElem_cons (by omega:64+56*i+4<L.length),List.take_succ_cons,jR,List.getD_eq_getElem?_getD,bP (by omega)];rfl
  have h3:=iO ((L.drop (64+56*i+5)).take 3) λx hx=>hb x (List.mem_of_mem_drop (List.mem_of_mem_take hx));have hx:0≤L.getD (64+56*i+4) 0:=by
   rw[List.getD_eq_getElem?_getD,bP (by omega)];exact(hb _ (List.getElem_mem _)).1
  have:(aL L i).perm=L.getD (64+56*i+4) 0:=rfl;rw[this];omega
 have a0:(aL L i).off=aO L (64+56*i+8) 8:=rfl;have a1:(aL L i).addr=aO L (64+56*i+16) 8:=rfl;have a2:(aL L i).file=aO L (64+56*i+32) 8:=rfl;have a3:(aL L i).mem=aO L (64+56*i+40) 8:=rfl;have u0:=hu (64+56*i+8);have u1:=hu (64+56*i+16);have u2:=hu (64+56*i+32);have u3:=hu (64+56*i+40);exact⟨hp,by omega,by omega,by omega,by omega,by omega,by omega,by omega⟩
theorem Jj(L:List Int)(hb:∀x∈L,0≤x∧x≤255)(s:Seg)(hp:0≤s.perm∧s.perm≤7)(n:Nat):(nX L s n).wf:=by
 refine⟨by simp[nX],λx hx=>?_,hp⟩;obtain⟨j,_,rfl⟩:=List.mem_map.1 hx;unfold lX;split
 ·rw[List.getD_eq_getElem?_getD]
  cases h:L[(s.off+(256*(n:Int)+j-s.addr)).toNat]? with
  | none=>simp[fP]
  | some x=>exact hb x (List.mem_of_getElem? h)
 ·simp[fP]
theorem rP(L:List Int)(hb:∀x∈L,0≤x∧x≤255)(N:Nat)(hN:∀i,i<N→jP L (aL L i)):∀k,k≤N→l9 (aM L k)
 | 0,_=>⟨λ_ _=>rfl,λn p h=>by cases h⟩
 | k+1,hk=>by
   have ih:=rP L hb N hN k (by omega);have hf:=hN k (by omega);have hl:(aL L k).last<254:=by
    unfold Seg.last;have:=hf.top;have:=hf.mem;have:=hf.addr;omega
   refine⟨λn hn=>?_,λn p h=>?_⟩
   ·simp only[aM,kz]
    rw[if_neg (by omega)];exact ih.below n hn
   ·simp only[aM,kz]at h
    split at h
    ·injection h with h
     subst h;exact Jj L hb _ hf.perm n
    ·exact ih.wf n p h
def eT(L:List Int):Bool:=(List.range (dh L).toNat).all (dW L)
def dm(L:List Int):Bool:=aO L 24 8%4==0&&tu (aM L (dh L).toNat) (aO L 24 8) 1 1
structure CE(L:List Int)(base:Nat)(e:Ending)(w':World):Prop where
 header:ak L=false→e=.returned (.tuple #[.map none,.int .u64 0,eD 2])
 XI:ak L=true→eT L=false→e=.returned (.tuple #[.map none,.int .u64 0,eD 3])
 overlap:ak L=true→eT L=true→(¬∀k,k<(dh L).toNat→gG L k)→e=.returned (.tuple #[.map none,.int .u64 0,eD 4])
 entry:ak L=true→eT L=true→(∀k,k<(dh L).toNat→gG L k)→dm L=false→e=.returned (.tuple #[.map none,.int .u64 0,eD 5])
 ok:ak L=true→eT L=true→(∀k,k<(dh L).toNat→gG L k)→dm L=true→∃mb,e=.returned (.tuple #[.map (some mb),.int .u64 (aO L 24 8),.nilIface])∧base≤mb∧Sp w' mb (aM L (dh L).toNat)
theorem Sp.new(w:World):Sp (w.alloc (.map #[] 0)) w.heap.size (λ_=>none):=
 ⟨[],Mp.new nV w,λn=>rfl,λp hp=>by cases hp⟩
theorem Ng(b cap:Nat)(L:List Int)(w:World)(hb:iL w b 0 L)(hcap:L.length≤cap)(hlen:L.length≤200000)(hfix:gN w) :
 Calls prog 99 #[.slice (b,0) L.length cap] w λe w'=>Bel w w'∧CE L w.heap.size e w':=by
 have hseg:=CW b cap L w hb hcap hlen hfix;cases hh:ak L with
 | false=>
   have hs2:=hseg.mono (λe w' (h:Bel w w'∧gH L w.heap.size e w')=>And.intro (h.2.1 hh) h.1);have HS:=xh hs2;have HH:=xh hh;clear hseg hs2 hh;go_enter func99,ntmps99;go_wp2_with (go_at_call 178;with_reducible refine au HS.o ?_;rintro e w1 ⟨rfl,k1⟩)
   go_ret3
   have hx:ak L≠true:=by rw[HH.o];decide
   exact⟨k1,⟨λ_=>rfl,λh=>absurd h hx,λh=>absurd h hx,λh=>absurd h hx,λh=>absurd h hx⟩⟩
 | true=>
   cases hs:eT L with
   | false=>
     have hs2:=hseg.mono (λe w' (h:Bel w w'∧gH L w.heap.size e w')=>And.intro (h.2.2.1 hh hs) h.1);have HS:=xh hs2;have HH:=xh hh;have HO:=xh hs;clear hseg hs2 hh hs;go_enter func99,ntmps99;go_wp2_with (go_at_call 178;with_reducible refine au HS.o ?_;rintro e w1 ⟨rfl,k1⟩)
     go_ret3
     have hx:eT L≠true:=by rw[HO.o];decide
     have hy:ak L≠false:=by rw[HH.o];decide
     exact⟨k1,⟨λh=>absurd h hy,λ_ _=>rfl,λ_ h=>absurd h hx,λ_ h=>absurd h hx,λ_ h=>absurd h hx⟩⟩
   | true=>
     have hs2:=hseg.mono (λe w' (h:Bel w w'∧gH L w.heap.size e w')=>And.intro (h.2.2.2 hh hs) h.1);obtain⟨N,hN⟩:=e_x ((dh L).toNat);rw[hN]at hs2;have HS:=xh hs2;have HH:=xh hh;have HO:=xh hs;have hhead:1≤dh L∧dh L≤8∧64+56*dh L≤L.length:=by
      have:=hh;simp only[ak,Bool.and_eq_true,decide_eq_true_eq]at this
      exact⟨this.1.1.2,this.1.2,this.2⟩
     have hN8:N≤8:=by omega
     have hN1:1≤N:=by omega
     have hNL:64+56*N≤L.length:=by omega
     have hfit:∀i,i<N→jP L (aL L i):=λi hi=>CJ L hb.byte i (by omega) (List.all_eq_true.1 hs i (List.mem_range.2 (by omega)));have vv:=xh hfit;have ZB:=xh (rP L hb.byte N hfit);have HN:=xh hN;have hmm:∀w,(Instr.makeMap 113 none).run prog w=.ok (.map (some w.heap.size)) (w.alloc (.map #[] 0)):=λw=>by kernel_rfl
     clear hseg hs2 hh hs hhead hN hfit;go_enter func99,ntmps99
     go_wp2_with (go_at_call 178;with_reducible refine au HS.o ?_;rintro e w1 ⟨⟨v,rfl,hrow⟩,k1⟩
                  obtain⟨ps,cp,rfl,hcp,hcm,hps⟩:=aD hrow;have eZ:=xh hrow;have GD:=xh hps;clear hrow hps)
     have k2:Bel w1 (w1.alloc (.map #[] 0)):=Below.aF w1 _;have hsn:Sp (w1.alloc (.map #[] 0)) w1.heap.size (aM L 0):=Sp.new w1;have hmb:w.heap.size≤w1.heap.size:=k1.size;have hgs:∀g,g<w1.heap.size→g≠w1.heap.size:=λg h=>by omega
     have HGS:=xh hgs;clear hgs;generalize w1.alloc (.map #[] 0)=w2 at *
     have gq:=xh k2;have hsz2:w1.heap.size<w2.heap.size:=hsn.lt;generalize aa4:w1.heap.size=mb at *
     have ac6:=xh aa4;clear aa4;have vV:Hid (Bel w w2):=xh (k1.tr gq.o)
     go_loopw [22] (λi wr=>∃k:Nat,k≤N∧i=.int .i64 k∧Sp wr mb (aM L k)∧Keep (λi=>i=mb) w2 wr∧∀j,j<k→gG L j) (λi _=>N-(intOf i).toNat)
     case atStart=>exact⟨0,Nat.zero_le _,rfl,hsn,Keep.refl _ _,λj hj=>by omega⟩
     case round=>
      obtain⟨k,hk,rfl,uK,hkr,hall⟩:=hrel;have lS:=xh hall;have DL:=xh uK;clear hall uK;by_cases hlt:k<N
      ·obtain⟨gs,rfl,hb0,hb1,hcl,_⟩:=GD.o.resolve_left (by omega)
       have hrange:wr.rangeAt gs (k*5) (aL L k).cells:=λj v hv=>by
        have hj:j<5:=by have:=(bZ hv).1;simpa [Seg.cells]using this
        have hgl:gs<w2.heap.size:=Nat.lt_of_lt_of_le hb1 (Nat.le_of_lt hsz2);rw[hkr.cell ⟨gs,k*5+j,none⟩ hgl (HGS.o gs hb1),World.cell?_of_block (a:=⟨gs,k*5+j,none⟩) (gq.o.block gs (by rw[ac6.o];exact hb1)),hcl _ (by rw[fq _ 5 _ (λ_ _=>rfl)];simp;omega),iK _ 5 _ (λ_ _=>rfl) k j hj];rw[List.getElem?_range hlt];exact hv
       have HR:=xh hrange;clear hrange hcl;have hbr:iL wr b 0 L:=(hb.keep (Keep.of_bel (λ_=>False) vV.o) (λ_ h=>h)).keep hkr (λh0=>hsn.ne (hb.keep (Keep.of_bel (λ_=>False) vV.o) (λ_ h=>h)) h0);have hf:=vv.o k hlt;have hw:=ZB.o k (by omega);obtain⟨s,hs⟩:=e_x (aL L k);rw[hs]at HR hf;have Je:=λW (hW:Sp W mb (aM L k)) (hB:iL W b 0 L)=>UL mb b cap (aM L k) L s.perm s.off s.addr s.file s.mem W hW hw.wf hB hcap hlen hf;have XG:=xh hs;have Au:=xh hbr;by_cases hfree:gG L k
       ·have HLF:Hid (∀W,Sp W mb (aM L k)→iL W b 0 L→Calls prog 179 #[.map (some mb),.agg s.cells.toArray,.slice (b,0) L.length cap] W λe w'=>e=.returned (.bool true)∧(Keep (λk=>k=mb) W w'∧Sp w' mb (aM L (k+1)))):=xh λW hW hB=>
         (Je W hW hB).mono λe w' h=>by
          have h2:=h.2.2 (λn h1 h2=>hfree n (by rw[hs];exact h1) (by rw[hs];exact h2));exact⟨h2.1,h.1,by simp only[aM];rw[hs];exact h2.2⟩
        have wS:=xh hfree;clear Je hs hbr hw hf hfree;go_wp2_with (first
        | (refine wpList_load_mid rfl 321 (.tmp 24) rfl gs (k*5) rfl s.cells _ HR.o underlying321 rfl (by kernel_rfl) ?_)
        | (refine aG rfl 321 (.tmp 9) (.tmp 25) rfl rfl wr.heap.size s.cells [.int .u8 0,.int .u64 0,.int .u64 0,.int .u64 0,.int .u64 0] 321 (Blk.new wr _ _) rfl rfl (by kernel_rfl) rfl (by intro v hv;simp[Seg.cells]at hv;rcases hv with rfl|rfl|rfl|rfl|rfl<;>rfl) ?_;intro w3 B3 K3)
        | (refine wpList_load_mid rfl 321 (.tmp 9) rfl wr.heap.size 0 rfl s.cells _ (by have:=B3.out.range 0;simpa using this) underlying321 rfl (by kernel_rfl) ?_)
        | (go_at_call 179
           have kc:Bel wr w3:=(Below.aF wr _).trans (K3.below _ (by simp) (λk hk=>by omega));refine au (HLF.o w3 (DL.o.bel kc) (Au.o.keep (Keep.of_bel (λ_=>False) kc) (λ_ h=>h))) ?_;rintro e w5 ⟨rfl,r5⟩))
        exact⟨⟨k+1,by omega,by go_num,r5.2,hkr.tr ((Keep.of_bel _ kc).tr r5.1),gD lS.o wS.o⟩,by simp only[intOf];omega⟩
       ·have hnf:∃n,s.first≤n∧n≤s.last∧aM L k n≠none:=by
         refine Classical.byContradiction λhc=>hfree λn h1 h2=>Classical.byContradiction λh3=>hc ⟨n,by rw[←hs];exact h1,by rw[←hs];exact h2,h3⟩
        have HLF:Hid (∀W,Sp W mb (aM L k)→iL W b 0 L→Calls prog 179 #[.map (some mb),.agg s.cells.toArray,.slice (b,0) L.length cap] W λe w'=>e=.returned (.bool false)∧Keep (λk=>k=mb) W w'):=xh λW hW hB=>
         (Je W hW hB).mono λe w' h=>⟨h.2.1 hnf,h.1⟩
        have wS:=xh hfree;clear Je hs hbr hw hf hfree hnf;go_wp2_with (first
        | (refine wpList_load_mid rfl 321 (.tmp 24) rfl gs (k*5) rfl s.cells _ HR.o underlying321 rfl (by kernel_rfl) ?_)
        | (refine aG rfl 321 (.tmp 9) (.tmp 25) rfl rfl wr.heap.size s.cells [.int .u8 0,.int .u64 0,.int .u64 0,.int .u64 0,.int .u64 0] 321 (Blk.new wr _ _) rfl rfl (by kernel_rfl) rfl (by intro v hv;simp[Seg.cells]at hv;rcases hv with rfl|rfl|rfl|rfl|rfl<;>rfl) ?_;intro w3 B3 K3)
        | (refine wpList_load_mid rfl 321 (.tmp 9) rfl wr.heap.size 0 rfl s.cells _ (by have:=B3.out.range 0;simpa using this) underlying321 rfl (by kernel_rfl) ?_)
        | (go_at_call 179
           have kc:Bel wr w3:=(Below.aF wr _).trans (K3.below _ (by simp) (λk hk=>by omega));refine au (HLF.o w3 (DL.o.bel kc) (Au.o.keep (Keep.of_bel (λ_=>False) kc) (λ_ h=>h))) ?_;rintro e w5 ⟨rfl,r5⟩))
        go_ret3
        have hkk:Keep (λi=>i=mb) w2 w5:=hkr.tr ((Keep.of_bel _ kc).tr r5);have hno:¬∀k,k<(dh L).toNat→gG L k:=λh=>wS.o (h k (by rw[HN.o];exact hlt));have hy:ak L≠false:=by rw[HH.o];decide
        have hz:eT L≠false:=by rw[HO.o];decide
        exact⟨Below.trans vV.o (hkk.below _ vV.o.size (λi hi=>by omega)),⟨λh=>absurd h hy,λ_ h=>absurd h hz,λ_ _ _=>rfl,λ_ _ h=>absurd h hno,λ_ _ h=>absurd h hno⟩⟩
      ·obtain rfl:k=N:=by omega
       have hbr:iL wr b 0 L:=(hb.keep (Keep.of_bel (λ_=>False) vV.o) (λ_ h=>h)).keep hkr (λh0=>hsn.ne (hb.keep (Keep.of_bel (λ_=>False) vV.o) (λ_ h=>h)) h0);have hfree:∀j,j<(dh L).toNat→gG L j:=by rw[HN.o];exact lS.o
       have hbel:Bel w wr:=Below.trans vV.o (hkr.below _ vV.o.size (λi hi=>by omega));have hy:ak L≠false:=by rw[HH.o];decide
       have hz:eT L≠false:=by rw[HO.o];decide
       obtain⟨E,hE⟩:=e_x (aO L 24 8);have hEb:=jF L hb.byte 24 8 (by omega);rw[hE]at hEb;obtain⟨hE0,hE1⟩:=hEb;have zb:=qD b 24 8 (cap-24) L wr hbr (by omega) (by omega);rw[hE]at zb;have hmay:=UO mb (aM L k) E 1 1 wr DL.o hE0 hE1 (by omega) (by omega);have hent:dm L=(E%4==0&&tu (aM L k) E 1 1):=by unfold dm;rw[HN.o,hE]
       have vH:=xh zb;have UQ:=xh hmay;have Yc:=xh hent;have HE:=xh hE;have LQ:=xh hfree;have Yd:=xh hbel;have HCAP:64≤cap:=by omega
       clear zb hmay hent hE hfree hbel hbr;by_cases q:E%4=0
       ·cases hm:tu (aM L k) E 1 1 with
        | true=>
          have GN:Hid (dm L=true):=xh (by rw[Yc.o,hm];simp[q]);rw[hm]at UQ;have q1:(E%4 != 0)=false:=by simp[q]
          clear hm q
          go_wp2_with (first
           | (go_at_call 145;with_reducible refine au vH.o ?_;rintro e wx ⟨rfl,h⟩;subst h)
           | (go_at_call 124;with_reducible refine au UQ.o ?_;rintro e wx ⟨rfl,h⟩;subst h))
          go_ret3
          exact⟨Yd.o,⟨λh=>absurd h hy,λ_ h=>absurd h hz,λ_ _ h=>absurd LQ.o h,λ_ _ _ h=>absurd GN.o (by rw[h];decide),λ_ _ _ _=>⟨mb,by rw[HE.o];try rfl,hmb,by rw[HN.o];exact DL.o⟩⟩⟩
        | false=>
          have GN:Hid (dm L=false):=xh (by rw[Yc.o,hm];simp);rw[hm]at UQ;have q1:(E%4 != 0)=false:=by simp[q]
          clear hm q
          go_wp2_with (first
           | (go_at_call 145;with_reducible refine au vH.o ?_;rintro e wx ⟨rfl,h⟩;subst h)
           | (go_at_call 124;with_reducible refine au UQ.o ?_;rintro e wx ⟨rfl,h⟩;subst h))
          go_ret3
          exact⟨Yd.o,⟨λh=>absurd h hy,λ_ h=>absurd h hz,λ_ _ h=>absurd LQ.o h,λ_ _ _ _=>rfl,λ_ _ _ h=>absurd GN.o (by rw[h];decide)⟩⟩
       ·have GN:Hid (dm L=false):=xh (by rw[Yc.o];simp[q])
        have q1:(E%4 != 0)=true:=by simp[q]
        clear q
        go_wp2_with (first
         | (go_at_call 145;with_reducible refine au vH.o ?_;rintro e wx ⟨rfl,h⟩;subst h))
        go_ret3
        exact⟨Yd.o,⟨λh=>absurd h hy,λ_ h=>absurd h hz,λ_ _ h=>absurd LQ.o h,λ_ _ _ _=>rfl,λ_ _ _ h=>absurd GN.o (by rw[h];decide)⟩⟩
end
end Go.Proofs.YtcnjjchlebmfiaaGreatDoor
