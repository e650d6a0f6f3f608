/-.-/
import Derived.Test.YtcnjjchlebmfiaaGreatDoorP21
set_option linter.all false
set_option maxRecDepth 100000
set_option maxHeartbeats 16000000
namespace Go.Proofs.YtcnjjchlebmfiaaGreatDoor
section
open Go.Proofs.Tryz Go.RowKit Go.Maps Go.Shelf
theorem Cj:(prog.info? 59).map (λi=>(i.size,i.bytes,(i.zero.map (·.cells.size))))=some (1,24,some 1):=by kernel_rfl
theorem Fb:(prog.info? 71).map (λi=>(i.size,i.bytes,(i.zero.map (·.cells.size))))=some (3,48,some 3):=by kernel_rfl
theorem Fe:(prog.info? 4).map (λi=>(i.size,i.bytes,(i.zero.map (·.cells.size))))=some (1,1,some 1):=by kernel_rfl
theorem JW(l:fD)(F:List aF)(p:Option Addr)(cap:Nat)(w:World)(hr:∀(i:Nat) (f:aF),F[i]?=some f→∃g o,p=some ⟨g,o,none⟩∧w.rangeAt g (o+i*3) [.string f.path,.bool f.dir,.slice f.p f.byt.length f.cap])(hl:F.length≤100)
 (hs:∀f∈F,BS w f.p f.byt∧f.byt.length≤200000∧f.path.size≤200000∧f.byt.length≤f.cap∧(0<f.byt.length→∀b o,f.p=some ⟨b,o,none⟩→b<w.heap.size))(hmx:eX w)(hfix:iG w)(hev:ErrVar w) :
 Calls prog 33 #[.agg #[.int .i64 l.a,.int .i64 l.b,.int .i64 l.c,.int .i64 l.d,.int .i64 l.e,(p,F.length,cap)]] w λe w'=>Bel w w'∧(bD l F≠0→∃wb:Nat,e=.returned (.tuple #[wb,.int .i64 (bD l F:Nat),true]))∧(bD l F=0→∃wb tk kb rb:Nat,e=.returned (.tuple #[wb,(0:Int),true])∧Blk w' wb [tk,rb,(),(),false] 96∧Blk w' tk [kb] 83∧gy w' w.heap.size kb l.a l.b l.c l.d.toNat l.e.toNat F∧uN w' rb l F∧w.heap.size≤rb∧w.heap.size≤wb):=by
 have HR:=xh hr;have HS:=xh hs;have HV:=xh (And.intro hmx (And.intro hfix hev));clear hr hs hmx hfix hev;go_enter func33,ntmps33;have BX:=Blk.new w [.int .i64 l.a,.int .i64 l.b,.int .i64 l.c,.int .i64 l.d,.int .i64 l.e,(p,F.length,cap)] 26;have kx:Bel w (w.alloc (.cells #[.int .i64 l.a,.int .i64 l.b,.int .i64 l.c,.int .i64 l.d,.int .i64 l.e,(p,F.length,cap)] 26)):=Bel.start _ _;change Blk (w.alloc (.cells #[.int .i64 l.a,.int .i64 l.b,.int .i64 l.c,.int .i64 l.d,.int .i64 l.e,(p,F.length,cap)] 26)) w.heap.size _ _ at BX
 go_upto_region 6 with fail
 generalize w.alloc (.cells #[.int .i64 l.a,.int .i64 l.b,.int .i64 l.c,.int .i64 l.d,.int .i64 l.e,(p,F.length,cap)] 26)=w2 at *
 generalize hxb:w.heap.size=xb at *
 have HXB:=xh hxb;have uy:=xh BX;have HK:Hid (Bel w w2):=xh kx;have hxl:=BX.lt;clear BX kx hxb
 go_loopw [5,6,7,8,9] (λv5 v6 v7 v8 i wr=>∃k:Nat,k≤F.length∧i=.int .i64 k∧Hid (abt w2 F k v5 v6 v7 v8 wr)) (λ_ _ _ _ i _=>F.length-(intOf i).toNat)
 case atStart=>exact⟨0,Nat.zero_le _,rfl,xh ⟨Bel.refl _,World.ownsRow_nil _ _ _ _,World.ownsRow_nil _ _ _ _,World.ownsRow_nil _ _ _ _,[],rfl,World.ownsRow_nil _ _ _ _,Roomy.nil _ _⟩⟩
 case round=>
  obtain⟨k,hk,rfl,HL⟩:=hrel;have x5:=(uy.o.bel HL.out.bel).c 5 rfl;by_cases hlt:k<F.length
  ·have hf:=bT hlt
   obtain⟨f,hff⟩:=e_x (F[k]);rw[hff]at hf;obtain⟨g,o,rfl,jb⟩:=HR.o k f hf;have r0:wr.cell? (g,o+k*3)=some (.string f.path):=af HL.out.bel (af HK.o (jb 0 _ rfl));have r1:wr.cell? (g,o+k*3+1)=some (.bool f.dir):=af HL.out.bel (af HK.o (jb 1 _ rfl));have r2:wr.cell? (g,o+k*3+2)=some (.slice f.p f.byt.length f.cap):=af HL.out.bel (af HK.o (jb 2 _ rfl));clear jb;go_upto_region 9 with fail
   have BF:=Blk.new wr [.string f.path,.bool f.dir,.slice f.p f.byt.length f.cap] 71;have k3:Bel wr (wr.alloc (.cells #[.string f.path,.bool f.dir,.slice f.p f.byt.length f.cap] 71)):=Bel.start _ _;change Blk (wr.alloc (.cells #[.string f.path,.bool f.dir,.slice f.p f.byt.length f.cap] 71)) wr.heap.size _ _ at BF
   generalize wr.alloc (.cells #[.string f.path,.bool f.dir,.slice f.p f.byt.length f.cap] 71)=w3 at *
   generalize hfb:wr.heap.size=fb at *
   have f0:=BF.c 0 rfl;obtain⟨G,hG,h8,hrm⟩:=HL.out.r8;have YY:G.length=k:=by have:=congrArg List.length hG;simp at this;omega
   have HM3:Hid (xm w2 fb f ((F.take k).map λf=>.string f.path) ((F.take k).map λf=>.bool f.dir) ((F.take k).map λf=>.slice f.p f.byt.length f.cap) k k k G u5 u6 u7 u8 w3):=xh ⟨HL.out.bel.tr k3,hfb▸HL.out.bel.le,BF,aO HL.out.r5 k3,aO HL.out.r6 k3,aO HL.out.r7 k3,by rw[YY];exact aO h8 k3,hrm.to λ_ _ hb=>hb.bel k3⟩;clear BF k3 r0 r1 r2 h8 hrm
   go_upto_region 10 with(first
    | (refine au rfl 66 9 (.tmp 34) rfl [.string f.path] rfl underlying66 jG (by show 0<1;omega) (by show 1≤2^24;omega) ?_;intro w4 B4 K4;have HB4:Hid (Blk w4 w3.heap.size [.string f.path] 9):=B4;have HM4:=xh (HM3.o.to (W':=w4) K4);clear B4 K4)
    | (refine dJ (base:=w2.heap.size) (n:=k) (v:=u5) (xs:=(F.take k).map λ(f:aF)=>Value.string f.path) (size:=1) (bytes:=16) rfl (.tmp 32) (.tmp 35) 66 rfl underlying66 jG (by omega) rfl HM4.o.r5 w3.heap.size 1 1 [.string f.path] rfl (λj u hj=>by rw[←hj];exact HB4.o.cell j) rfl (λv hv=>by rw[List.mem_singleton.1 hv];rfl) (by unfold maxLen;omega) (by omega) HM4.o.bel.le ?_;intro p5 c5 w5 R5 K5;have HM5:=xh (HM4.o.afb K5 R5);clear R5 K5))
   have f1:=HM5.o.fb.c 1 rfl
   go_upto_region 11 with(first
    | (refine au rfl 155 4 (.tmp 39) rfl [.bool f.dir] rfl underlying155 Fe (by show 0<1;omega) (by show 1≤2^24;omega) ?_;intro w6 B6 K6;have AL:Hid (Blk w6 w5.heap.size [.bool f.dir] 4):=B6;have HM6:=xh (HM5.o.to (W':=w6) K6);clear B6 K6)
    | (refine dJ (base:=w2.heap.size) (n:=k) (v:=u6) (xs:=(F.take k).map λ(f:aF)=>Value.bool f.dir) (size:=1) (bytes:=1) rfl (.tmp 37) (.tmp 40) 155 rfl underlying155 Fe (by omega) rfl HM6.o.r6 w5.heap.size 1 1 [.bool f.dir] rfl (λj u hj=>by rw[←hj];exact AL.o.cell j) rfl (λv hv=>by rw[List.mem_singleton.1 hv];rfl) (by unfold maxLen;omega) (by omega) HM6.o.bel.le ?_;intro p7 c7 w7 R7 K7;have HM7:=xh (HM6.o.afc K7 R7);clear R7 K7))
   have f2:=HM7.o.fb.c 2 rfl
   go_upto_region 12 with(first
    | (refine au rfl 156 59 (.tmp 44) rfl [.slice f.p f.byt.length f.cap] rfl underlying156 Cj (by show 0<1;omega) (by show 1≤2^24;omega) ?_;intro w8 B8 K8;have zI:Hid (Blk w8 w7.heap.size [.slice f.p f.byt.length f.cap] 59):=B8;have HM8:=xh (HM7.o.to (W':=w8) K8);clear B8 K8)
    | (refine dJ (base:=w2.heap.size) (n:=k) (v:=u7) (xs:=(F.take k).map λ(f:aF)=>Value.slice f.p f.byt.length f.cap) (size:=1) (bytes:=24) rfl (.tmp 42) (.tmp 45) 156 rfl underlying156 Cj (by omega) rfl HM8.o.r7 w7.heap.size 1 1 [.slice f.p f.byt.length f.cap] rfl (λj u hj=>by rw[←hj];exact zI.o.cell j) rfl (λv hv=>by rw[List.mem_singleton.1 hv];rfl) (by unfold maxLen;omega) (by omega) HM8.o.bel.le ?_;intro p9 c9 w9 R9 K9;have HM9:=xh (HM8.o.afd K9 R9);clear R9 K9))
   have e2:=HM9.o.fb.c 2 rfl;have hmem:f∈F:=List.mem_iff_getElem?.2 ⟨k,hf⟩;have HRO:=xh (xO f.p f.cap f.byt w9 ((HS.o f hmem).1.bel (HK.o.tr HM9.o.bel)) (HS.o f hmem).2.1);clear f1 f2;go_upto_region 13 with(go_at_call 58;((with_reducible refine aH HRO.o ?_);rintro e w10 ⟨gr,rfl,hgr,hBr,hkr⟩;have Dx:=xh (And.intro hgr (And.intro hBr hkr));clear hgr hBr hkr))
   have acP:=xh (HM9.o.to Dx.o.2.2);have g0:=acP.o.fb.c 0 rfl;have g1:=acP.o.fb.c 1 rfl;have hnew:∀(i:Nat) (g0:aF) (b:Nat),G[i]?=some g0→g0.p=some ⟨b,0,none⟩→b<gr:=λi g0 b hi hp=>by
    obtain⟨b',h1,_,_,h4⟩:=HM9.o.rm.row i g0 hi;rw[hp]at h1;cases h1
    exact Nat.lt_of_lt_of_le h4.lt Dx.o.1
   have HNW:=xh hnew;have acK:w2.heap.size≤gr:=bU HM9.o.bel.le Dx.o.1;have hGk:G.length≤100:=by omega
   clear e2 hnew
   go_wp2_with (first
    | (refine au rfl 24 71 (.tmp 56) rfl [.string f.path,.bool f.dir,.slice (gr,0) f.byt.length (f.byt.length+2)] rfl underlying24 Fb (by show 0<3;omega) (by show 3≤2^24;omega) ?_;intro yQ B11 U0;have aao:Hid (Blk yQ w10.heap.size [.string f.path,.bool f.dir,.slice (gr,0) f.byt.length (f.byt.length+2)] 71):=B11;have acQ:=xh (acP.o.to (W':=yQ) U0);have ahP:Hid (Blk yQ gr ((f.byt++[71,72]).map (Value.int .u8)) 5):=xh (Dx.o.2.1.bel (w':=yQ) U0);clear B11 U0)
    | (refine dJ (base:=w2.heap.size) (v:=u8) (n:=G.length) (xs:=G.flatMap aF.cells) (size:=3) (bytes:=48) rfl (.tmp 50) (.tmp 57) 24 rfl underlying24 Fb (by omega) rfl acQ.o.r8 w10.heap.size 1 1 [.string f.path,.bool f.dir,.slice (gr,0) f.byt.length (f.byt.length+2)] rfl (λj u hj=>by rw[←hj];exact aao.o.cell j) rfl (λv hv=>by simp only[List.mem_cons,List.not_mem_nil,or_false]at hv;rcases hv with rfl|rfl|rfl<;>rfl) (by unfold maxLen;omega) (by omega) acQ.o.bel.le ?_;intro p12 c12 w12 R12 K12;have ahQ:=xh (Uc hf acQ.o hG YY gr acK HNW.o ahP.o K12 R12);clear R12 K12))
   go_roundw
   case rel=>exact⟨k+1,by omega,by go_num,(by have h:=ahQ;rw[YY]at h;exact h)⟩
   case measure=>simp[intOf]<;>omega
  ·obtain rfl:k=F.length:=by omega
   obtain⟨wz,hwz⟩:∃W,W=wr:=⟨_,rfl⟩;subst hwz;obtain⟨G,hG,h8,hrm⟩:=HL.out.r8;rw[List.take_length]at hG;have YY:G.length=F.length:=by have:=congrArg List.length hG;simpa using this
   obtain⟨p8,c8,rfl,_,_,h8c⟩:=aG h8;have hfl:∀W,Bel wz W→uP W G (.slice p8 F.length c8):=λW hW=>Fg hG hl (λf hf=>⟨(HS.o f hf).1.1,(HS.o f hf).2.1,(HS.o f hf).2.2.1⟩) (by rw[YY];exact aO h8 hW) (hrm.to λ_ _ hb=>hb.bel hW);have hbt:=Eo l G (.slice p8 F.length c8) wz hfl (HV.o.1.bel (HK.o.tr HL.out.bel)) (HV.o.2.1.bel (HK.o.tr HL.out.bel));have hev:∀W,Bel wz W→ErrVar W:=λW hW=>(HV.o.2.2.bel (HK.o.tr HL.out.bel)).bel hW;have hBE:=Lm l F G hG.symm;have HE:=xh hev;have HL0:=xh hl;have HG:=xh (And.intro hG (And.intro YY (And.intro h8 hrm)));have BXr:=uy.o.bel HL.out.bel;have x0:=BXr.c 0 rfl;have x1:=BXr.c 1 rfl;have x2:=BXr.c 2 rfl;have x3:=BXr.c 3 rfl;have x4:=BXr.c 4 rfl;have hrows:∀(w6 wE W:World),Bel wz w6→Keep (qA G) w6 wE→Bel wE W→KX W F u5 u6 u7:=λw6 wE W h1 h2 h3=>by
    have X8:Roomy w6 w2.heap.size G:=hrm.to λ_ _ hb=>hb.bel h1;have hnS:∀(b:Nat),b<xb→¬qA G b:=λb hb hq=>by
     have:=(hrm.blk hq).1;omega
    have hr:∀{e:TypeId} {size n:Nat} {v:Value} {xs:List Value},wz.ownsRow w2.heap.size e size v n xs→5≠e→W.ownsRow w2.heap.size e size v n xs:=λh hne=>aO (Ud (aO h h1) h2 λq hq=>by
     obtain⟨_,_,cs,hb⟩:=X8.blk hq;exact⟨cs,_,hb,hne⟩) h3
    have k5:=hr HL.out.r5 (by decide);have k6:=hr HL.out.r6 (by decide);have k7:=hr HL.out.r7 (by decide);rw[List.take_length]at k5 k6 k7;refine⟨by omega,Cm (λf=>.string f.path) k5,Cm (λf=>.bool f.dir) k6,Cm (λf=>.slice f.p f.byt.length f.cap) k7,λf hf=>?_⟩;obtain⟨s1,s2,s3,s4,s5⟩:=HS.o f hf;refine⟨((s1.bel (HK.o.tr (HL.out.bel.tr h1))).dm h2 λh0 b o hb=>hnS b (s5 h0 b o hb)).bel h3,s4,s2,by omega,λh0 b o hb=>?_⟩;have e1:=s5 h0 b o hb;have e2:=HL.out.bel.size;have e3:=h1.size;have e4:=h2.size;have e5:=h3.size;omega
   have rV:=xh hrows;have HXR:=xh BXr;unfold IE at hbt;simp only[mW]at hbt
   rw[←hBE]at hbt;clear hfl hG YY h8 hrm h8c hev hBE BXr hrows;by_cases h0:bD l F=0
   case' pos=>
    have HBT:=xh (hbt.mono λe w' k=>And.intro k.1 (k.2.2 h0));have Il:=xh λ(w6 wE W:World) (h1:Bel wz w6) (h2:Keep (qA G) w6 wE) (h3:Bel wE W)=>(En l F u5 u6 u7 W (rV.o w6 wE W h1 h2 h3)).mono λe w' k=>And.intro k.1 (k.2.2 h0);have H0:=xh h0;simp only[mW]at Il
    clear hbt h0;go_upto_region 15 with(go_at_call 20;((with_reducible refine aH HBT.o ?_);rintro e2 w5 ⟨k5,tk,kb,rfl,htk,hkb,hbl,hpk⟩;have H5:=xh (And.intro k5 (And.intro htk (And.intro hkb (And.intro hbl hpk))));clear k5 htk hkb hbl hpk))
    go_upto_region 16 with(go_at_call 14;((with_reducible refine aH (Bq _) ?_);rintro e3 w6 ⟨rfl,k6⟩;have H6:=xh (H5.o.1.tr k6);have K6:=xh k6;clear k6))
   case' neg=>
    have HBT:=xh (hbt.mono λe w' k=>And.intro k.1 (k.2.1 h0));have Il:=xh λ(w6 wE W:World) (h1:Bel wz w6) (h2:Keep (qA G) w6 wE) (h3:Bel wE W)=>(En l F u5 u6 u7 W (rV.o w6 wE W h1 h2 h3)).mono λe w' k=>And.intro k.1 (k.2.1 h0);obtain⟨ec,qK⟩:=e_x (bD l F);rw[qK]at HBT Il h0;have hne:((ec:Int) != 0)=true:=bne_iff_ne.2 (by omega);have heq:((ec:Int) != (ec:Int))=false:=bne_self_eq_false _;have H0:=xh h0;have O0:=xh qK;simp only[mW]at Il
    clear hbt h0 qK;go_upto_region 15 with(go_at_call 20;((with_reducible refine aH HBT.o ?_);rintro e2 w5 ⟨k5,rfl⟩;have H5:=xh k5;clear k5))
    go_upto_region 16 with(go_at_call 14;((with_reducible refine aH (xU _ _ (HE.o _ H5.o)) ?_);rintro e3 w6 ⟨rfl,k6⟩;have H6:=xh (H5.o.tr k6);have K6:=xh k6;clear k6))
   all_goals
    have X8:Roomy w6 w2.heap.size G:=HG.o.2.2.2.to λ_ _ hb=>hb.bel H6.o;have wR:=xh X8;have O1:Hid (uP w6 G (.slice p8 F.length c8)):=xh (Fg HG.o.1 HL0.o (λf hf=>⟨(HS.o f hf).1.1,(HS.o f hf).2.1,(HS.o f hf).2.2.1⟩) (by rw[HG.o.2.1];exact aO HG.o.2.2.1 H6.o) X8);have afe:Bel w2 w6:=HL.out.bel.tr H6.o;have HLB:=xh afe;have hnS:∀b,b<xb→¬qA G b:=λb hb hq=>by
     have:=(wR.o.blk hq).1;omega
    have HNS:=xh hnS;have hxS:¬qA G xb:=λhq=>by
     have:=(wR.o.blk hq).1;omega
    have HXS:=xh hxS;clear x0 x1 x2 x3 x4 x5 X8 afe hnS hxS;go_upto_region 17 with fail
    go_loopw [15] (λi wq=>∃k:Nat,k≤F.length∧i=.int .i64 k∧Hid (CB w6 w2.heap.size G k wq)) (λi _=>F.length-(intOf i).toNat)
    case atStart=>exact⟨0,Nat.zero_le _,rfl,xh (CB.start wR.o)⟩
    case round=>
     obtain⟨k,hk,rfl,HLS⟩:=hrel;by_cases hlt:k<F.length
     ·have hf:=bT hlt
      obtain⟨f,hff⟩:=e_x (F[k]);rw[hff]at hf;have hmem:f∈F:=List.mem_iff_getElem?.2 ⟨k,hf⟩;obtain⟨g,o,rfl,jb⟩:=HR.o k f hf;have hgx:g<xb:=by
       have h2:=World.block_lt_of_cell? _ _ (jb 2 _ rfl);rw[HXB.o]at h2;exact h2
      have hkG:k<G.length:=by rw[HG.o.2.1];exact hlt
      have hgk:=bT hkG;obtain⟨gk,aff⟩:=e_x (G[k]);rw[aff]at hgk;have hsaid:gk.said=f.said:=by
       have h1:=congrArg (·[k]?) HG.o.1;simp only[fA,hgk,hf,Option.map_some]at h1
       exact Option.some.inj h1
      have e2:gk.byt=f.byt:=congrArg (·.2.2) hsaid;obtain⟨q,hqp,hqc,hq2,_⟩:=wR.o.row k gk hgk;obtain⟨q',afg,DC⟩:=HLS.out.rest k gk (bM _) hgk;rw[hqp]at afg;cases afg
      obtain⟨pp,cc,e9,hr8⟩:=O1.o.row
      injection e9 with ea eb ec
      subst ea;obtain⟨g8,e8,hr9⟩:=hr8 k gk hgk;subst e8;have afh:¬qA G g8:=λhq=>by
       obtain⟨_,_,cs,hb⟩:=HG.o.2.2.2.blk hq;obtain⟨_,cur,hb2⟩:=row_blk HG.o.2.2.1 (g:=g8) rfl;exact hb.ne hb2 (by decide) rfl
      have r8:wr.cell? (g8,k*3+2)=some (.slice (q,0) f.byt.length (f.byt.length+2)):=by
       have h1:=hr9 2 _ rfl;rw[hqp,hqc,e2]at h1;exact(HLS.out.keep.cell ⟨g8,k*3+2,none⟩ (World.block_lt_of_cell? _ _ h1) afh).trans h1
      have x5:wr.cell? (xb,5)=some (.slice (some ⟨g,o,none⟩) F.length cap):=by
       have h1:=(HXR.o.bel H6.o).cell 5;exact(HLS.out.keep.cell ⟨xb,5,none⟩ (HXR.o.bel H6.o).lt HXS.o).trans h1
      have r2:wr.cell? (g,o+k*3+2)=some (.slice f.p f.byt.length f.cap):=by
       have h1:=af (HK.o.tr HLB.o) (jb 2 _ rfl);exact(HLS.out.keep.cell ⟨g,o+k*3+2,none⟩ (World.block_lt_of_cell? _ _ h1) (HNS.o g hgx)).trans h1
      have kd:Bel wr wr.drew:=Bel.drew (Bel.refl _);have hbs:BS wr f.p f.byt:=((HS.o f hmem).1.bel (HK.o.tr HLB.o)).dm HLS.out.keep λh0 b o hb=>HNS.o b ((HS.o f hmem).2.2.2.2 h0 b o hb);have HST:=xh (xQ q f.p f.cap f.byt wr.drew (by rw[←e2];exact DC.bel kd) (hbs.bel kd) (HS.o f hmem).2.1);have HNX:=xh λW (h:Keep (λx=>x=q) wr W)=>HLS.out.next wR.o hgk hqp h;have hk0:(0:Int)≤(k:Int):=by omega
      have hkl:(k:Int)<(F.length:Int):=by omega
      clear jb hgx hkG hgk aff hsaid e2 hqp hqc hq2 DC eb ec hr8 hr9 afh kd hbs hmem hff;go_upto_region 19 with fail
      go_still_tail 11,(by kernel_rfl)
      change wpList _ _ _ _ _ wr.drew
      go_wp2_with (go_at_call 59;((with_reducible refine aH HST.o ?_);rintro e4 w7 ⟨rfl,k7⟩;have H7:=xh k7;clear k7))
      go_roundw
      case rel=>exact⟨k+1,by omega,by go_num,xh (HNX.o _ ((Keep.of_bel _ (Bel.drew (Bel.refl _))).tr H7.o))⟩
      case measure=>simp[intOf]<;>omega
     ·obtain rfl:k=F.length:=by omega
      have hkp:=HLS.out.keep;have hE:∀i u,(w6.cell? ⟨xb,i,none⟩=some u)→wr.cell? ⟨xb,i,none⟩=some u:=λi u h=>(hkp.cell ⟨xb,i,none⟩ (HXR.o.bel H6.o).lt HXS.o).trans h;have B6:=HXR.o.bel H6.o;have x0:wr.cell? (xb,0)=some (.int .i64 l.a):=hE 0 _ (B6.cell 0);have x1:wr.cell? (xb,1)=some (.int .i64 l.b):=hE 1 _ (B6.cell 1);have x2:wr.cell? (xb,2)=some (.int .i64 l.c):=hE 2 _ (B6.cell 2);have x3:wr.cell? (xb,3)=some (.int .i64 l.d):=hE 3 _ (B6.cell 3);have x4:wr.cell? (xb,4)=some (.int .i64 l.e):=hE 4 _ (B6.cell 4);have hbE:Bel w wr:=Below.trans (HK.o.tr HLB.o) (hkp.below _ (HK.o.tr HLB.o).size λq hq=>by
       have h1:=(wR.o.blk hq).1;rw[HXB.o];omega)
      have HKP:=xh hkp;have Ve:=xh hbE;have afi:=xh λW hW=>Il.o w6 wr W H6.o hkp hW;clear hE B6 hkp hbE
      first
       | go_upto_region 24 with(go_at_call 60;((with_reducible refine aH (afi.o _ (Bel.start wr _)) ?_);rintro e5 w8 ⟨k8,rb,rfl,hrb,hdk⟩;have H8:=xh (And.intro ((Bel.start wr _).tr k8) (And.intro hdk hrb));clear k8 hrb hdk))
         go_wp2_with (go_at_call 61;((with_reducible refine aH (JX _ _) ?_);rintro e6 w9 ⟨rfl,rfl⟩))
         go_ret3
         have hpk:=((H5.o.2.2.2.2.bel K6.o).keep HKP.o λq hq=>by
          obtain⟨_,h2,_⟩:=HG.o.2.2.2.blk hq;exact⟨h2,(wR.o.blk hq).2.2⟩).same HG.o.1
         have htk:=(H5.o.2.2.2.1.bel K6.o).keep HKP.o λhq=>by
          obtain⟨_,_,cs,hb⟩:=wR.o.blk hq;exact(H5.o.2.2.2.1.bel K6.o).ne hb (by decide) rfl
         refine⟨(Ve.o.tr H8.o.1).tr (Bel.start _ _),λh=>absurd H0.o h,λ_=>⟨_,tk,kb,rb,rfl,Blk.new _ _ _,((htk.bel H8.o.1).bel (Bel.start _ _)),(((hpk.bel H8.o.1).bel (Bel.start _ _)).base ?_),H8.o.2.1.bel (Bel.start _ _),bU (Ve.o.tr (Bel.start wr _)).size H8.o.2.2,(Ve.o.tr H8.o.1).size⟩⟩;exact bU HK.o.size HL.out.bel.size
       | go_upto_region 24 with(go_at_call 60;((with_reducible refine aH (afi.o _ (Bel.start wr _)) ?_);rintro e5 w8 ⟨k8,rfl⟩;have H8:=xh ((Bel.start wr _).tr k8);clear k8))
         go_wp2_with (go_at_call 61;((with_reducible refine aH (JX _ _) ?_);rintro e6 w9 ⟨rfl,rfl⟩))
         go_ret3
         exact⟨(Ve.o.tr H8.o).tr (Bel.start _ _),λ_=>⟨_,by rw[O0.o];rfl⟩,λh=>absurd (O0.o.symm.trans h) H0.o⟩
end
end Go.Proofs.YtcnjjchlebmfiaaGreatDoor
