/-.-/
import Derived.Test.YtcnjjchlebmfiaaGreatDoorP30
import Derived.Laws.AppendOwnNone
set_option linter.unusedVariables false
set_option linter.unusedSimpArgs false
set_option maxRecDepth 100000
set_option maxHeartbeats 16000000
namespace Go.Proofs.YtcnjjchlebmfiaaGreatDoor
section
open Go.Proofs.Tryz Go.RowKit Go.Maps Go.Shelf
theorem yY:(prog.info? 59).map (λi=>(i.size,i.bytes,(i.zero.map (·.cells.size))))=some (1,24,some 1):=by kernel_rfl
theorem Be:(prog.info? 71).map (λi=>(i.size,i.bytes,(i.zero.map (·.cells.size))))=some (3,48,some 3):=by kernel_rfl
theorem Bf:(prog.info? 4).map (λi=>(i.size,i.bytes,(i.zero.map (·.cells.size))))=some (1,1,some 1):=by kernel_rfl
theorem Fh(l:dN)(F:List av)(p:Option Addr)(cap:Nat)(w:World)(hr:∀(i:Nat) (f:av),F[i]?=some f→∃g o,p=some ⟨g,o,none⟩∧w.rangeAt g (o+i*3) [.string f.path,.bool f.dir,.slice f.p f.byt.length f.cap])(hl:F.length≤100)
 (hs:∀f∈F,BS w f.p f.byt∧f.byt.length≤200000∧f.path.size≤200000∧f.byt.length≤f.cap∧(0<f.byt.length→∀b o,f.p=some ⟨b,o,none⟩→b<w.heap.size))(hmx:dZ w)(hfix:gN w)(hev:ErrVar w) :
 Calls prog 33 #[.agg #[.int .i64 l.a,.int .i64 l.b,.int .i64 l.c,.int .i64 l.d,.int .i64 l.e,(p,F.length,cap)]] w λe w'=>Bel w w'∧(aW l F≠0→∃wb:Nat,e=.returned (.tuple #[wb,.int .i64 (aW l F:Nat),true]))∧(aW l F=0→∃wb tk kb rb:Nat,e=.returned (.tuple #[wb,(0:Int),true])∧Blk w' wb [tk,rb,(),(),false] 96∧Blk w' tk [kb] 83∧di w' w.heap.size kb l.a l.b l.c l.d.toNat l.e.toNat F∧mH w' rb l F∧w.heap.size≤rb∧w.heap.size≤wb):=by
 have HR:=xh hr;have HS:=xh hs;have HV:=xh (And.intro hmx (And.intro hfix hev));clear hr hs hmx hfix hev;go_enter func33,ntmps33;have BX:=Blk.new w [.int .i64 l.a,.int .i64 l.b,.int .i64 l.c,.int .i64 l.d,.int .i64 l.e,(p,F.length,cap)] 26;have kx:Bel w (w.alloc (.cells #[.int .i64 l.a,.int .i64 l.b,.int .i64 l.c,.int .i64 l.d,.int .i64 l.e,(p,F.length,cap)] 26)):=Bel.start _ _;change Blk (w.alloc (.cells #[.int .i64 l.a,.int .i64 l.b,.int .i64 l.c,.int .i64 l.d,.int .i64 l.e,(p,F.length,cap)] 26)) w.heap.size _ _ at BX
 go_upto_region 6 with fail
 generalize w.alloc (.cells #[.int .i64 l.a,.int .i64 l.b,.int .i64 l.c,.int .i64 l.d,.int .i64 l.e,(p,F.length,cap)] 26)=w2 at *
 generalize hxb:w.heap.size=xb at *
 have HXB:=xh hxb;have fG:=xh BX;have HK:Hid (Bel w w2):=xh kx;have hxl:=BX.lt;clear BX kx hxb
 go_loopw [5,6,7,8,9] (λv5 v6 v7 v8 i wr=>∃k:Nat,k≤F.length∧i=.int .i64 k∧Hid (Wv w2 F k v5 v6 v7 v8 wr)) (λ_ _ _ _ i _=>F.length-(intOf i).toNat)
 case atStart=>exact⟨0,Nat.zero_le _,rfl,xh ⟨Bel.refl _,World.ownsRow_nil _ _ _ _,World.ownsRow_nil _ _ _ _,World.ownsRow_nil _ _ _ _,[],rfl,World.ownsRow_nil _ _ _ _,Roomy.nil _ _⟩⟩
 case round=>
  obtain⟨k,hk,rfl,HL⟩:=hrel;have x5:=(fG.o.bel HL.out.bel).c 5 rfl;by_cases hlt:k<F.length
  ·have hf:=bP hlt
   obtain⟨f,UJ⟩:=e_x (F[k]);rw[UJ]at hf;obtain⟨g,o,rfl,fI⟩:=HR.o k f hf;have r0:wr.cell? (g,o+k*3)=some (.string f.path):=aa HL.out.bel (aa HK.o (fI 0 _ rfl));have r1:wr.cell? (g,o+k*3+1)=some (.bool f.dir):=aa HL.out.bel (aa HK.o (fI 1 _ rfl));have r2:wr.cell? (g,o+k*3+2)=some (.slice f.p f.byt.length f.cap):=aa HL.out.bel (aa HK.o (fI 2 _ rfl));clear fI;go_upto_region 9 with fail
   have BF:=Blk.new wr [.string f.path,.bool f.dir,.slice f.p f.byt.length f.cap] 71;have k3:Bel wr (wr.alloc (.cells #[.string f.path,.bool f.dir,.slice f.p f.byt.length f.cap] 71)):=Bel.start _ _;change Blk (wr.alloc (.cells #[.string f.path,.bool f.dir,.slice f.p f.byt.length f.cap] 71)) wr.heap.size _ _ at BF
   generalize wr.alloc (.cells #[.string f.path,.bool f.dir,.slice f.p f.byt.length f.cap] 71)=w3 at *
   generalize hfb:wr.heap.size=fb at *
   have f0:=BF.c 0 rfl;obtain⟨G,hG,h8,hrm⟩:=HL.out.r8;have Tm:G.length=k:=by have:=congrArg List.length hG;simp at this;omega
   have HM3:Hid (uk w2 fb f ((F.take k).map λf=>.string f.path) ((F.take k).map λf=>.bool f.dir) ((F.take k).map λf=>.slice f.p f.byt.length f.cap) k k k G u5 u6 u7 u8 w3):=xh ⟨HL.out.bel.tr k3,hfb▸HL.out.bel.le,BF,aB HL.out.r5 k3,aB HL.out.r6 k3,aB HL.out.r7 k3,by rw[Tm];exact aB h8 k3,hrm.to λ_ _ hb=>hb.bel k3⟩;clear BF k3 r0 r1 r2 h8 hrm
   go_upto_region 10 with(first
    | (refine af rfl 66 9 (.tmp 34) rfl [.string f.path] rfl underlying66 iG (by show 0<1;omega) (by show 1≤2^24;omega) ?_;intro w4 B4 K4;have iY:Hid (Blk w4 w3.heap.size [.string f.path] 9):=B4;have Ww:=xh (HM3.o.to (W':=w4) K4);clear B4 K4)
    | (refine bX (base:=w2.heap.size) (n:=k) (v:=u5) (xs:=(F.take k).map λ(f:av)=>Value.string f.path) (size:=1) (bytes:=16) rfl (.tmp 32) (.tmp 35) 66 rfl underlying66 iG (by omega) rfl Ww.o.r5 w3.heap.size 1 1 [.string f.path] rfl (λj u hj=>by rw[←hj];exact iY.o.cell j) rfl (λv hv=>by rw[List.mem_singleton.1 hv];rfl) (by unfold maxLen;omega) (by omega) Ww.o.bel.le ?_;intro p5 c5 w5 R5 K5;have HM5:=xh (Ww.o.aaY K5 R5);clear R5 K5))
   have f1:=HM5.o.fb.c 1 rfl
   go_upto_region 11 with(first
    | (refine af rfl 155 4 (.tmp 39) rfl [.bool f.dir] rfl underlying155 Bf (by show 0<1;omega) (by show 1≤2^24;omega) ?_;intro w6 B6 K6;have yx:Hid (Blk w6 w5.heap.size [.bool f.dir] 4):=B6;have HM6:=xh (HM5.o.to (W':=w6) K6);clear B6 K6)
    | (refine bX (base:=w2.heap.size) (n:=k) (v:=u6) (xs:=(F.take k).map λ(f:av)=>Value.bool f.dir) (size:=1) (bytes:=1) rfl (.tmp 37) (.tmp 40) 155 rfl underlying155 Bf (by omega) rfl HM6.o.r6 w5.heap.size 1 1 [.bool f.dir] rfl (λj u hj=>by rw[←hj];exact yx.o.cell j) rfl (λv hv=>by rw[List.mem_singleton.1 hv];rfl) (by unfold maxLen;omega) (by omega) HM6.o.bel.le ?_;intro p7 c7 w7 R7 K7;have HM7:=xh (HM6.o.aaZ K7 R7);clear R7 K7))
   have f2:=HM7.o.fb.c 2 rfl
   go_upto_region 12 with(first
    | (refine af rfl 156 59 (.tmp 44) rfl [.slice f.p f.byt.length f.cap] rfl underlying156 yY (by show 0<1;omega) (by show 1≤2^24;omega) ?_;intro w8 B8 K8;have HB8:Hid (Blk w8 w7.heap.size [.slice f.p f.byt.length f.cap] 59):=B8;have HM8:=xh (HM7.o.to (W':=w8) K8);clear B8 K8)
    | (refine bX (base:=w2.heap.size) (n:=k) (v:=u7) (xs:=(F.take k).map λ(f:av)=>Value.slice f.p f.byt.length f.cap) (size:=1) (bytes:=24) rfl (.tmp 42) (.tmp 45) 156 rfl underlying156 yY (by omega) rfl HM8.o.r7 w7.heap.size 1 1 [.slice f.p f.byt.length f.cap] rfl (λj u hj=>by rw[←hj];exact HB8.o.cell j) rfl (λv hv=>by rw[List.mem_singleton.1 hv];rfl) (by unfold maxLen;omega) (by omega) HM8.o.bel.le ?_;intro p9 c9 w9 R9 K9;have HM9:=xh (HM8.o.aa0 K9 R9);clear R9 K9))
   have e2:=HM9.o.fb.c 2 rfl;have hmem:f∈F:=List.mem_iff_getElem?.2 ⟨k,hf⟩;have OQ:=xh (uV f.p f.cap f.byt w9 ((HS.o f hmem).1.bel (HK.o.tr HM9.o.bel)) (HS.o f hmem).2.1);clear f1 f2;go_upto_region 13 with(go_at_call 58;((with_reducible refine au OQ.o ?_);rintro e sI ⟨gr,rfl,hgr,hBr,hkr⟩;have Kl:=xh (And.intro hgr (And.intro hBr hkr));clear hgr hBr hkr))
   have XZ:=xh (HM9.o.to Kl.o.2.2);have g0:=XZ.o.fb.c 0 rfl;have g1:=XZ.o.fb.c 1 rfl;have hnew:∀(i:Nat) (g0:av) (b:Nat),G[i]?=some g0→g0.p=some ⟨b,0,none⟩→b<gr:=λi g0 b hi hp=>by
    obtain⟨b',h1,_,_,h4⟩:=HM9.o.rm.row i g0 hi;rw[hp]at h1;cases h1
    exact Nat.lt_of_lt_of_le h4.lt Kl.o.1
   have Wx:=xh hnew;have XT:w2.heap.size≤gr:=aV HM9.o.bel.le Kl.o.1;have hGk:G.length≤100:=by omega
   clear e2 hnew
   go_wp2_with (first
    | (refine af rfl 24 71 (.tmp 56) rfl [.string f.path,.bool f.dir,.slice (gr,0) f.byt.length (f.byt.length+2)] rfl underlying24 Be (by show 0<3;omega) (by show 3≤2^24;omega) ?_;intro DI B11 K11;have acW:Hid (Blk DI sI.heap.size [.string f.path,.bool f.dir,.slice (gr,0) f.byt.length (f.byt.length+2)] 71):=B11;have X0:=xh (XZ.o.to (W':=DI) K11);have XA:Hid (Blk DI gr ((f.byt++[71,72]).map (Value.int .u8)) 5):=xh (Kl.o.2.1.bel (w':=DI) K11);clear B11 K11)
    | (refine bX (base:=w2.heap.size) (v:=u8) (n:=G.length) (xs:=G.flatMap av.cells) (size:=3) (bytes:=48) rfl (.tmp 50) (.tmp 57) 24 rfl underlying24 Be (by omega) rfl X0.o.r8 sI.heap.size 1 1 [.string f.path,.bool f.dir,.slice (gr,0) f.byt.length (f.byt.length+2)] rfl (λj u hj=>by rw[←hj];exact acW.o.cell j) rfl (λv hv=>by simp only[List.mem_cons,List.not_mem_nil,or_false]at hv;rcases hv with rfl|rfl|rfl<;>rfl) (by unfold maxLen;omega) (by omega) X0.o.bel.le ?_;intro p12 c12 En R12 K12;have acX:=xh (NB hf X0.o hG Tm gr XT Wx.o XA.o K12 R12);clear R12 K12))
   go_roundw
   case rel=>exact⟨k+1,by omega,by go_num,(by have h:=acX;rw[Tm]at h;exact h)⟩
   case measure=>simp[intOf]<;>omega
  ·obtain rfl:k=F.length:=by omega
   obtain⟨wz,hwz⟩:∃W,W=wr:=⟨_,rfl⟩;subst hwz;obtain⟨G,hG,h8,hrm⟩:=HL.out.r8;rw[List.take_length]at hG;have Tm:G.length=F.length:=by have:=congrArg List.length hG;simpa using this
   obtain⟨p8,c8,rfl,_,_,h8c⟩:=aD h8;have hfl:∀W,Bel wz W→oV W G (.slice p8 F.length c8):=λW hW=>vC hG hl (λf hf=>⟨(HS.o f hf).1.1,(HS.o f hf).2.1,(HS.o f hf).2.2.1⟩) (by rw[Tm];exact aB h8 hW) (hrm.to λ_ _ hb=>hb.bel hW);have hbt:=Aw l G (.slice p8 F.length c8) wz hfl (HV.o.1.bel (HK.o.tr HL.out.bel)) (HV.o.2.1.bel (HK.o.tr HL.out.bel));have hev:∀W,Bel wz W→ErrVar W:=λW hW=>(HV.o.2.2.bel (HK.o.tr HL.out.bel)).bel hW;have hBE:=Hq l F G hG.symm;have HE:=xh hev;have HL0:=xh hl;have HG:=xh (And.intro hG (And.intro Tm (And.intro h8 hrm)));have X3:=fG.o.bel HL.out.bel;have x0:=X3.c 0 rfl;have x1:=X3.c 1 rfl;have x2:=X3.c 2 rfl;have x3:=X3.c 3 rfl;have x4:=X3.c 4 rfl;have hrows:∀(w6 wE W:World),Bel wz w6→Keep (kg G) w6 wE→Bel wE W→GU W F u5 u6 u7:=λw6 wE W h1 h2 h3=>by
    have CV:Roomy w6 w2.heap.size G:=hrm.to λ_ _ hb=>hb.bel h1;have X5:∀(b:Nat),b<xb→¬kg G b:=λb hb hq=>by
     have:=(hrm.blk hq).1;omega
    have hr:∀{e:TypeId} {size n:Nat} {v:Value} {xs:List Value},wz.ownsRow w2.heap.size e size v n xs→5≠e→W.ownsRow w2.heap.size e size v n xs:=λh hne=>aB (NC (aB h h1) h2 λq hq=>by
     obtain⟨_,_,cs,hb⟩:=CV.blk hq;exact⟨cs,_,hb,hne⟩) h3
    have k5:=hr HL.out.r5 (by decide);have k6:=hr HL.out.r6 (by decide);have k7:=hr HL.out.r7 (by decide);rw[List.take_length]at k5 k6 k7;refine⟨by omega,yZ (λf=>.string f.path) k5,yZ (λf=>.bool f.dir) k6,yZ (λf=>.slice f.p f.byt.length f.cap) k7,λf hf=>?_⟩;obtain⟨s1,s2,s3,s4,s5⟩:=HS.o f hf;refine⟨((s1.bel (HK.o.tr (HL.out.bel.tr h1))).gu h2 λh0 b o hb=>X5 b (s5 h0 b o hb)).bel h3,s4,s2,by omega,λh0 b o hb=>?_⟩;have e1:=s5 h0 b o hb;have e2:=HL.out.bel.size;have e3:=h1.size;have e4:=h2.size;have e5:=h3.size;omega
   have wL:=xh hrows;have Wy:=xh X3;unfold Ed at hbt;simp only[kC]at hbt
   rw[←hBE]at hbt;clear hfl hG Tm h8 hrm h8c hev hBE X3 hrows;by_cases h0:aW l F=0
   ·have ML:=xh (hbt.mono λe w' k=>And.intro k.1 (k.2.2 h0))
    have uI:=xh λ(w6 wE W:World) (h1:Bel wz w6) (h2:Keep (kg G) w6 wE) (h3:Bel wE W)=>(Av l F u5 u6 u7 W (wL.o w6 wE W h1 h2 h3)).mono λe w' k=>And.intro k.1 (k.2.2 h0);have H0:=xh h0;simp only[kC]at uI
    clear hbt h0;go_upto_region 15 with(go_at_call 20;((with_reducible refine au ML.o ?_);rintro e2 w5 ⟨k5,tk,kb,rfl,htk,hkb,hbl,hpk⟩;have H5:=xh (And.intro k5 (And.intro htk (And.intro hkb (And.intro hbl hpk))));clear k5 htk hkb hbl hpk))
    go_upto_region 16 with(go_at_call 14;((with_reducible refine au (y7 _) ?_);rintro e3 w6 ⟨rfl,k6⟩;have H6:=xh (H5.o.1.tr k6);have K6:=xh k6;clear k6))
    have CV:Roomy w6 w2.heap.size G:=HG.o.2.2.2.to λ_ _ hb=>hb.bel H6.o;have xO:=xh CV;have GG:Hid (oV w6 G (.slice p8 F.length c8)):=xh (vC HG.o.1 HL0.o (λf hf=>⟨(HS.o f hf).1.1,(HS.o f hf).2.1,(HS.o f hf).2.2.1⟩) (by rw[HG.o.2.1];exact aB HG.o.2.2.1 H6.o) CV);have QZ:Bel w2 w6:=HL.out.bel.tr H6.o;have KZ:=xh QZ;have X5:∀b,b<xb→¬kg G b:=λb hb hq=>by
     have:=(xO.o.blk hq).1;omega
    have HNS:=xh X5;have hxS:¬kg G xb:=λhq=>by
     have:=(xO.o.blk hq).1;omega
    have HXS:=xh hxS;clear x0 x1 x2 x3 x4 x5 CV QZ X5 hxS;go_upto_region 17 with fail
    go_loopw [15] (λi wq=>∃k:Nat,k≤F.length∧i=.int .i64 k∧Hid (um w6 w2.heap.size G k wq)) (λi _=>F.length-(intOf i).toNat)
    case atStart=>exact⟨0,Nat.zero_le _,rfl,xh (um.start xO.o)⟩
    case round=>
     obtain⟨k,hk,rfl,I8⟩:=hrel;by_cases hlt:k<F.length
     ·have hf:=bP hlt
      obtain⟨f,UJ⟩:=e_x (F[k]);rw[UJ]at hf;have hmem:f∈F:=List.mem_iff_getElem?.2 ⟨k,hf⟩;obtain⟨g,o,rfl,fI⟩:=HR.o k f hf;have hgx:g<xb:=by
       have h2:=World.block_lt_of_cell? _ _ (fI 2 _ rfl);rw[HXB.o]at h2;exact h2
      have hkG:k<G.length:=by rw[HG.o.2.1];exact hlt
      have uH:=bP hkG;obtain⟨gk,Q0⟩:=e_x (G[k]);rw[Q0]at uH;have hsaid:gk.said=f.said:=by
       have h1:=congrArg (·[k]?) HG.o.1;simp only[dA,uH,hf,Option.map_some]at h1
       exact Option.some.inj h1
      have e2:gk.byt=f.byt:=congrArg (·.2.2) hsaid;obtain⟨q,OZ,hqc,hq2,_⟩:=xO.o.row k gk uH;obtain⟨q',Q3,TZ⟩:=I8.out.rest k gk (bH _) uH;rw[OZ]at Q3;cases Q3
      obtain⟨pp,cc,e9,tK⟩:=GG.o.row
      injection e9 with ea eb ec
      subst ea;obtain⟨g8,e8,Wz⟩:=tK k gk uH;subst e8;have Q4:¬kg G g8:=λhq=>by
       obtain⟨_,_,cs,hb⟩:=HG.o.2.2.2.blk hq;obtain⟨_,cur,hb2⟩:=row_blk HG.o.2.2.1 (g:=g8) rfl;exact hb.ne hb2 (by decide) rfl
      have r8:wr.cell? (g8,k*3+2)=some (.slice (q,0) f.byt.length (f.byt.length+2)):=by
       have h1:=Wz 2 _ rfl;rw[OZ,hqc,e2]at h1;exact(I8.out.keep.cell ⟨g8,k*3+2,none⟩ (World.block_lt_of_cell? _ _ h1) Q4).trans h1
      have x5:wr.cell? (xb,5)=some (.slice (some ⟨g,o,none⟩) F.length cap):=by
       have h1:=(Wy.o.bel H6.o).cell 5;exact(I8.out.keep.cell ⟨xb,5,none⟩ (Wy.o.bel H6.o).lt HXS.o).trans h1
      have r2:wr.cell? (g,o+k*3+2)=some (.slice f.p f.byt.length f.cap):=by
       have h1:=aa (HK.o.tr KZ.o) (fI 2 _ rfl);exact(I8.out.keep.cell ⟨g,o+k*3+2,none⟩ (World.block_lt_of_cell? _ _ h1) (HNS.o g hgx)).trans h1
      have kd:Bel wr wr.drew:=Bel.drew (Bel.refl _);have hbs:BS wr f.p f.byt:=((HS.o f hmem).1.bel (HK.o.tr KZ.o)).gu I8.out.keep λh0 b o hb=>HNS.o b ((HS.o f hmem).2.2.2.2 h0 b o hb);have HST:=xh (qB q f.p f.cap f.byt wr.drew (by rw[←e2];exact TZ.bel kd) (hbs.bel kd) (HS.o f hmem).2.1);have HNX:=xh λW (h:Keep (λx=>x=q) wr W)=>I8.out.next xO.o uH OZ h;have hk0:(0:Int)≤(k:Int):=by omega
      have hkl:(k:Int)<(F.length:Int):=by omega
      clear fI hgx hkG uH Q0 hsaid e2 OZ hqc hq2 TZ eb ec tK Wz Q4 kd hbs hmem UJ;go_upto_region 19 with fail
      go_still_tail 11,(by kernel_rfl)
      change wpList _ _ _ _ _ wr.drew
      go_wp2_with (go_at_call 59;((with_reducible refine au HST.o ?_);rintro e4 w7 ⟨rfl,k7⟩;have H7:=xh k7;clear k7))
      go_roundw
      case rel=>exact⟨k+1,by omega,by go_num,xh (HNX.o _ ((Keep.of_bel _ (Bel.drew (Bel.refl _))).tr H7.o))⟩
      case measure=>simp[intOf]<;>omega
     ·obtain rfl:k=F.length:=by omega
      have hkp:=I8.out.keep;have hE:∀i u,(w6.cell? ⟨xb,i,none⟩=some u)→wr.cell? ⟨xb,i,none⟩=some u:=λi u h=>(hkp.cell ⟨xb,i,none⟩ (Wy.o.bel H6.o).lt HXS.o).trans h;have B6:=Wy.o.bel H6.o;have x0:wr.cell? (xb,0)=some (.int .i64 l.a):=hE 0 _ (B6.cell 0);have x1:wr.cell? (xb,1)=some (.int .i64 l.b):=hE 1 _ (B6.cell 1);have x2:wr.cell? (xb,2)=some (.int .i64 l.c):=hE 2 _ (B6.cell 2);have x3:wr.cell? (xb,3)=some (.int .i64 l.d):=hE 3 _ (B6.cell 3);have x4:wr.cell? (xb,4)=some (.int .i64 l.e):=hE 4 _ (B6.cell 4);have hbE:Bel w wr:=Below.trans (HK.o.tr KZ.o) (hkp.below _ (HK.o.tr KZ.o).size λq hq=>by
       have h1:=(xO.o.blk hq).1;rw[HXB.o];omega)
      have VR:=xh hkp;have OO:=xh hbE;have X7:=xh λW hW=>uI.o w6 wr W H6.o hkp hW;clear hE B6 hkp hbE;go_upto_region 24 with(go_at_call 60;((with_reducible refine au (X7.o _ (Bel.start wr _)) ?_);rintro e5 w8 ⟨k8,rb,rfl,hrb,hdk⟩;have H8:=xh (And.intro ((Bel.start wr _).tr k8) (And.intro hdk hrb));clear k8 hrb hdk))
      go_wp2_with (go_at_call 61;((with_reducible refine au (Fj _ _) ?_);rintro e6 w9 ⟨rfl,rfl⟩))
      go_ret3
      have hpk:=((H5.o.2.2.2.2.bel K6.o).keep VR.o λq hq=>by
       obtain⟨_,h2,_⟩:=HG.o.2.2.2.blk hq;exact⟨h2,(xO.o.blk hq).2.2⟩).same HG.o.1
      have htk:=(H5.o.2.2.2.1.bel K6.o).keep VR.o λhq=>by
       obtain⟨_,_,cs,hb⟩:=xO.o.blk hq;exact(H5.o.2.2.2.1.bel K6.o).ne hb (by decide) rfl
      refine⟨(OO.o.tr H8.o.1).tr (Bel.start _ _),λh=>absurd H0.o h,λ_=>⟨_,tk,kb,rb,rfl,Blk.new _ _ _,((htk.bel H8.o.1).bel (Bel.start _ _)),(((hpk.bel H8.o.1).bel (Bel.start _ _)).base ?_),H8.o.2.1.bel (Bel.start _ _),aV (OO.o.tr (Bel.start wr _)).size H8.o.2.2,(OO.o.tr H8.o.1).size⟩⟩;exact aV HK.o.size HL.out.bel.size
   ·have ML:=xh (hbt.mono λe w' k=>And.intro k.1 (k.2.1 h0))
    have uI:=xh λ(w6 wE W:World) (h1:Bel wz w6) (h2:Keep (kg G) w6 wE) (h3:Bel wE W)=>(Av l F u5 u6 u7 W (wL.o w6 wE W h1 h2 h3)).mono λe w' k=>And.intro k.1 (k.2.1 h0);obtain⟨ec,qW⟩:=e_x (aW l F);rw[qW]at ML uI h0;have hne:((ec:Int) != 0)=true:=bne_iff_ne.2 (by omega);have heq:((ec:Int) != (ec:Int))=false:=bne_self_eq_false _;have H0:=xh h0;have Km:=xh qW;simp only[kC]at uI
    clear hbt h0 qW;go_upto_region 15 with(go_at_call 20;((with_reducible refine au ML.o ?_);rintro e2 w5 ⟨k5,rfl⟩;have H5:=xh k5;clear k5))
    go_upto_region 16 with(go_at_call 14;((with_reducible refine au (vo _ _ (HE.o _ H5.o)) ?_);rintro e3 w6 ⟨rfl,k6⟩;have H6:=xh (H5.o.tr k6);have K6:=xh k6;clear k6))
    have CV:Roomy w6 w2.heap.size G:=HG.o.2.2.2.to λ_ _ hb=>hb.bel H6.o;have xO:=xh CV;have GG:Hid (oV w6 G (.slice p8 F.length c8)):=xh (vC HG.o.1 HL0.o (λf hf=>⟨(HS.o f hf).1.1,(HS.o f hf).2.1,(HS.o f hf).2.2.1⟩) (by rw[HG.o.2.1];exact aB HG.o.2.2.1 H6.o) CV);have QZ:Bel w2 w6:=HL.out.bel.tr H6.o;have KZ:=xh QZ;have X5:∀b,b<xb→¬kg G b:=λb hb hq=>by
     have:=(xO.o.blk hq).1;omega
    have HNS:=xh X5;have hxS:¬kg G xb:=λhq=>by
     have:=(xO.o.blk hq).1;omega
    have HXS:=xh hxS;clear x0 x1 x2 x3 x4 x5 CV QZ X5 hxS;go_upto_region 17 with fail
    go_loopw [15] (λi wq=>∃k:Nat,k≤F.length∧i=.int .i64 k∧Hid (um w6 w2.heap.size G k wq)) (λi _=>F.length-(intOf i).toNat)
    case atStart=>exact⟨0,Nat.zero_le _,rfl,xh (um.start xO.o)⟩
    case round=>
     obtain⟨k,hk,rfl,I8⟩:=hrel;by_cases hlt:k<F.length
     ·have hf:=bP hlt
      obtain⟨f,UJ⟩:=e_x (F[k]);rw[UJ]at hf;have hmem:f∈F:=List.mem_iff_getElem?.2 ⟨k,hf⟩;obtain⟨g,o,rfl,fI⟩:=HR.o k f hf;have hgx:g<xb:=by
       have h2:=World.block_lt_of_cell? _ _ (fI 2 _ rfl);rw[HXB.o]at h2;exact h2
      have hkG:k<G.length:=by rw[HG.o.2.1];exact hlt
      have uH:=bP hkG;obtain⟨gk,Q0⟩:=e_x (G[k]);rw[Q0]at uH;have hsaid:gk.said=f.said:=by
       have h1:=congrArg (·[k]?) HG.o.1;simp only[dA,uH,hf,Option.map_some]at h1
       exact Option.some.inj h1
      have e2:gk.byt=f.byt:=congrArg (·.2.2) hsaid;obtain⟨q,OZ,hqc,hq2,_⟩:=xO.o.row k gk uH;obtain⟨q',Q3,TZ⟩:=I8.out.rest k gk (bH _) uH;rw[OZ]at Q3;cases Q3
      obtain⟨pp,cc,e9,tK⟩:=GG.o.row
      injection e9 with ea eb ec
      subst ea;obtain⟨g8,e8,Wz⟩:=tK k gk uH;subst e8;have Q4:¬kg G g8:=λhq=>by
       obtain⟨_,_,cs,hb⟩:=HG.o.2.2.2.blk hq;obtain⟨_,cur,hb2⟩:=row_blk HG.o.2.2.1 (g:=g8) rfl;exact hb.ne hb2 (by decide) rfl
      have r8:wr.cell? (g8,k*3+2)=some (.slice (q,0) f.byt.length (f.byt.length+2)):=by
       have h1:=Wz 2 _ rfl;rw[OZ,hqc,e2]at h1;exact(I8.out.keep.cell ⟨g8,k*3+2,none⟩ (World.block_lt_of_cell? _ _ h1) Q4).trans h1
      have x5:wr.cell? (xb,5)=some (.slice (some ⟨g,o,none⟩) F.length cap):=by
       have h1:=(Wy.o.bel H6.o).cell 5;exact(I8.out.keep.cell ⟨xb,5,none⟩ (Wy.o.bel H6.o).lt HXS.o).trans h1
      have r2:wr.cell? (g,o+k*3+2)=some (.slice f.p f.byt.length f.cap):=by
       have h1:=aa (HK.o.tr KZ.o) (fI 2 _ rfl);exact(I8.out.keep.cell ⟨g,o+k*3+2,none⟩ (World.block_lt_of_cell? _ _ h1) (HNS.o g hgx)).trans h1
      have kd:Bel wr wr.drew:=Bel.drew (Bel.refl _);have hbs:BS wr f.p f.byt:=((HS.o f hmem).1.bel (HK.o.tr KZ.o)).gu I8.out.keep λh0 b o hb=>HNS.o b ((HS.o f hmem).2.2.2.2 h0 b o hb);have HST:=xh (qB q f.p f.cap f.byt wr.drew (by rw[←e2];exact TZ.bel kd) (hbs.bel kd) (HS.o f hmem).2.1);have HNX:=xh λW (h:Keep (λx=>x=q) wr W)=>I8.out.next xO.o uH OZ h;have hk0:(0:Int)≤(k:Int):=by omega
      have hkl:(k:Int)<(F.length:Int):=by omega
      clear fI hgx hkG uH Q0 hsaid e2 OZ hqc hq2 TZ eb ec tK Wz Q4 kd hbs hmem UJ;go_upto_region 19 with fail
      go_still_tail 11,(by kernel_rfl)
      change wpList _ _ _ _ _ wr.drew
      go_wp2_with (go_at_call 59;((with_reducible refine au HST.o ?_);rintro e4 w7 ⟨rfl,k7⟩;have H7:=xh k7;clear k7))
      go_roundw
      case rel=>exact⟨k+1,by omega,by go_num,xh (HNX.o _ ((Keep.of_bel _ (Bel.drew (Bel.refl _))).tr H7.o))⟩
      case measure=>simp[intOf]<;>omega
     ·obtain rfl:k=F.length:=by omega
      have hkp:=I8.out.keep;have hE:∀i u,(w6.cell? ⟨xb,i,none⟩=some u)→wr.cell? ⟨xb,i,none⟩=some u:=λi u h=>(hkp.cell ⟨xb,i,none⟩ (Wy.o.bel H6.o).lt HXS.o).trans h;have B6:=Wy.o.bel H6.o;have x0:wr.cell? (xb,0)=some (.int .i64 l.a):=hE 0 _ (B6.cell 0);have x1:wr.cell? (xb,1)=some (.int .i64 l.b):=hE 1 _ (B6.cell 1);have x2:wr.cell? (xb,2)=some (.int .i64 l.c):=hE 2 _ (B6.cell 2);have x3:wr.cell? (xb,3)=some (.int .i64 l.d):=hE 3 _ (B6.cell 3);have x4:wr.cell? (xb,4)=some (.int .i64 l.e):=hE 4 _ (B6.cell 4);have hbE:Bel w wr:=Below.trans (HK.o.tr KZ.o) (hkp.below _ (HK.o.tr KZ.o).size λq hq=>by
       have h1:=(xO.o.blk hq).1;rw[HXB.o];omega)
      have VR:=xh hkp;have OO:=xh hbE;have X7:=xh λW hW=>uI.o w6 wr W H6.o hkp hW;clear hE B6 hkp hbE;go_upto_region 24 with(go_at_call 60;((with_reducible refine au (X7.o _ (Bel.start wr _)) ?_);rintro e5 w8 ⟨k8,rfl⟩;have H8:=xh ((Bel.start wr _).tr k8);clear k8))
      go_wp2_with (go_at_call 61;((with_reducible refine au (Fj _ _) ?_);rintro e6 w9 ⟨rfl,rfl⟩))
      go_ret3
      exact⟨(OO.o.tr H8.o).tr (Bel.start _ _),λ_=>⟨_,by rw[Km.o];rfl⟩,λh=>absurd (Km.o.symm.trans h) H0.o⟩
end
section
open Go.Proofs.Tryz Go.RowKit Go.MapKept Go.Maps Go.Shelf
theorem UK(l:List rq)(j:Nat):jH (l.take j)≤jH l:=by
 have h:=congrArg jH (List.take_append_drop j l);have e:∀a b:List rq,jH (a++b)=jH a+jH b:=λa b=>by simp[jH]
 rw[e]at h;omega
def X8(m kind:Int):Bool:=bits .and .i64 (m/2^kind.toNat) 1==0
def wO(m:Int)(o:rq):Prop:=o.kind≠1∧(o.kind=0→0≤o.c.kind→o.c.kind<62→X8 m o.c.kind=false)
structure Law(I:Nat→World→Prop)(wb B:Nat)(P:rq→Prop):Prop where
 bel:∀{n:Nat} {w w':World},I n w→Bel w w'→I n w'
 up:∀{n m:Nat} {w:World},I n w→n≤m→I m w
 blk:∀{n:Nat} {w:World},I n w→∃tk rb ov wv,Blk w wb [tk,rb,ov,wv,false] 96
 step:∀(n:Nat) (w:World) (o:rq),I n w→(∀W,Below B w W→sM W o)→P o→n+(o.c.weight+o.d.length)+1≤200400→o.c.weight+o.d.length≤200000→B≤w.heap.size→Calls prog 35 #[wb,.agg o.cells.toArray] w λe w'=>e=.returned (.bool true)∧I (n+(o.c.weight+o.d.length)+1) w'∧Below B w w'
theorem I9(m:Int)(hm:m≠4194303)(l:dN)(F:List av)(p:Option Addr)(cap:Nat)(ops:List rq)(sp:Option Addr)(sc:Nat)(w:World)(hr:∀(i:Nat) (f:av),F[i]?=some f→∃g o,p=some ⟨g,o,none⟩∧w.rangeAt g (o+i*3) [.string f.path,.bool f.dir,.slice f.p f.byt.length f.cap])(hl:F.length≤1048576)
 (hs:∀f∈F,BS w f.p f.byt∧f.byt.length≤1048576∧f.path.size≤1048576∧f.byt.length≤f.cap∧(0<f.byt.length→∀b o,f.p=some ⟨b,o,none⟩→b<w.heap.size))(hmx:dZ w)(hfix:gN w)(hev:ErrVar w)(hsc:BV w sp ops)(hk0:ops.length≤1048576)
 (HI:∀(B wb tk kb rb:Nat) (W:World),Blk W wb [tk,rb,(),(),false] 96→Blk W tk [kb] 83→di W B kb l.a l.b l.c l.d.toNat l.e.toNat F→mH W rb l F→aW l F=0→F.length≤100→ErrVar W→B≤rb→B≤wb→B≤W.heap.size→∃I,Law I wb B (wO m)∧I 0 W) :
 Calls prog 22 #[.agg #[.int .i64 l.a,.int .i64 l.b,.int .i64 l.c,.int .i64 l.d,.int .i64 l.e,(p,F.length,cap)],(sp,ops.length,sc),m,(0:Int)] w (Z.b (.bool true) w):=by
 have hr2:∀W,Bel w W→∀(i:Nat) (f:av),F[i]?=some f→∃g o,p=some ⟨g,o,none⟩∧W.rangeAt g (o+i*3) [.string f.path,.bool f.dir,.slice f.p f.byt.length f.cap]:=λW hW i f hf=>by
  obtain⟨g,o,h1,h2⟩:=hr i f hf;exact⟨g,o,h1,λj u hj=>aa hW (h2 j u hj)⟩
 have hsm:=λW (hW:Bel w W)=>Ja l.a l.b l.c l.d l.e F p cap ops sp sc W (hsc.bel hW) hk0 (hr2 W hW) hl (λf hf=>⟨(hs f hf).2.2.1,(hs f hf).2.1⟩);have HX:∀(w3:World) (xb:Nat),Blk w3 xb [.int .i64 l.a,.int .i64 l.b,.int .i64 l.c,.int .i64 l.d,.int .i64 l.e,(p,F.length,cap)] 26→w3.cell? (xb,0)=some (.int .i64 l.a)∧w3.cell? (xb,1)=some (.int .i64 l.b)∧w3.cell? (xb,2)=some (.int .i64 l.c)∧w3.cell? (xb,3)=some (.int .i64 l.d)∧w3.cell? (xb,4)=some (.int .i64 l.e)∧w3.cell? (xb,5)=some (.slice p F.length cap):=λ_ _ h=>⟨h.cell 0,h.cell 1,h.cell 2,h.cell 3,h.cell 4,h.cell 5⟩;have HXX:=xh HX;have Wm:=xh hsc;clear HX;have BX:=Blk.new w [.int .i64 l.a,.int .i64 l.b,.int .i64 l.c,.int .i64 l.d,.int .i64 l.e,(p,F.length,cap)] 26;have kx:Bel w (w.alloc (.cells #[.int .i64 l.a,.int .i64 l.b,.int .i64 l.c,.int .i64 l.d,.int .i64 l.e,(p,F.length,cap)] 26)):=Bel.start _ _;change Blk (w.alloc (.cells #[.int .i64 l.a,.int .i64 l.b,.int .i64 l.c,.int .i64 l.d,.int .i64 l.e,(p,F.length,cap)] 26)) w.heap.size _ _ at BX
 obtain⟨w2,hw2⟩:=e_x (w.alloc (.cells #[.int .i64 l.a,.int .i64 l.b,.int .i64 l.c,.int .i64 l.d,.int .i64 l.e,(p,F.length,cap)] 26));obtain⟨xb,hxb⟩:=e_x w.heap.size;rw[hw2]at kx;rw[hw2,hxb]at BX;have HW2:=xh (And.intro hw2 hxb);have HK:Hid (Bel w w2):=xh kx;have fG:=xh BX;clear BX kx hw2 hxb;cases Tn:vD F ops with
 | false=>
   rw[Tn]at hsm;have qV:=xh hsm;clear hr hr2 hl hs hmx hfix hev hsm Tn hsc HI;go_enter func22,ntmps22;go_upto_region 1 with fail
   rw[HW2.o.1,HW2.o.2];obtain⟨x0,x1,x2,x3,x4,x5⟩:=HXX.o _ _ fG.o;go_wp2_with (go_at_call 9;((with_reducible refine au (qV.o _ HK.o) ?_);rintro e w4 ⟨rfl,hk⟩;have H4:=xh hk;clear hk))
   go_ret
   exact⟨rfl,HK.o.tr H4.o⟩
 | true=>
   rw[Tn]at hsm;have qV:=xh hsm;obtain⟨ho1,hl1,hz⟩:ops.length≤400∧F.length≤100∧nL F+jH ops≤200000:=of_decide_eq_true Tn;have hsz:∀f∈F,f.path.size+f.byt.length≤200000:=λf hf=>by
    have h1:f.path.size+f.byt.length≤nL F:=jG (List.mem_map.2 ⟨f,hf,rfl⟩);omega
   have hlb:=λW (hW:Bel w W)=>Fh l F p cap W (hr2 W hW) hl1 (λf hf=>⟨(hs f hf).1.bel hW,by have:=hsz f hf;omega,by have:=hsz f hf;omega,(hs f hf).2.2.2.1,λh0 b o hb=>Nat.lt_of_lt_of_le ((hs f hf).2.2.2.2 h0 b o hb) hW.size⟩) (hmx.bel hW) (hfix.bel hW) (hev.bel hW);have HL1:=xh hl1;have HEV:=xh hev;by_cases h0:aW l F=0
   ·have KZ:=xh λW hW=>(hlb W hW).mono λe w' k=>And.intro k.1 (k.2.2 h0)
    have H0:=xh h0;have HZ:=xh hz;have HII:=xh HI;have hmb:(m != 4194303)=true:=bne_iff_ne.2 hm;clear hr hr2 hl hs hmx hfix hev hsm Tn hl1 hz hsz hlb h0 hsc HI;go_enter func22,ntmps22;go_upto_region 1 with fail
    rw[HW2.o.1,HW2.o.2];obtain⟨x0,x1,x2,x3,x4,x5⟩:=HXX.o _ _ fG.o;go_upto_region 2 with(go_at_call 9;((with_reducible refine au (qV.o _ HK.o) ?_);rintro e w4 ⟨rfl,hk⟩;have H4:=xh (HK.o.tr hk);have iY:=xh (fG.o.bel hk);clear hk))
    clear x0 x1 x2 x3 x4 x5;obtain⟨x0,x1,x2,x3,x4,x5⟩:=HXX.o _ _ iY.o;go_upto_region 5 with(go_at_call 33;((with_reducible refine au (KZ.o _ H4.o) ?_);rintro e w5 ⟨k5,wb,tk,kb,rb,rfl,hwb,htk,hpk,hdk,hrb⟩;have H5:=xh (And.intro k5 (And.intro hwb (And.intro htk (And.intro hpk (And.intro hdk hrb)))));clear k5 hwb htk hpk hdk hrb))
    clear x0 x1 x2 x3 x4 x5;obtain⟨I,hLW,hI⟩:=HII.o w4.heap.size wb tk kb rb w5 H5.o.2.1 H5.o.2.2.1 H5.o.2.2.2.1 H5.o.2.2.2.2.1 H0.o HL1.o ((HEV.o.bel H4.o).bel H5.o.1) H5.o.2.2.2.2.2.1 H5.o.2.2.2.2.2.2 H5.o.1.le;have Tp:=xh hLW;have HI5:=xh hI;have aa1:=xh (Wm.o.bel H4.o);have ow:Hid (Bel w4 w5):=xh H5.o.1;clear hLW hI;go_upto_region 8 with fail
    go_loopw [12,13] (λok i wr=>∃j:Nat,j≤ops.length∧i=.int .i64 j∧ok=.bool true∧Hid (I (jH (ops.take j)+j) wr∧Bel w4 wr)) (λ_ i _=>ops.length-(intOf i).toNat)
    case atStart=>exact⟨0,Nat.zero_le _,rfl,rfl,xh ⟨by simpa [jH]using HI5.o,ow.o⟩⟩
    case round=>
     obtain⟨j,hj,rfl,rfl,HJ⟩:=hrel;obtain⟨tkr,rbr,ovr,wvr,hbr⟩:=Tp.o.blk HJ.out.1;have ov:=hbr.c 4 rfl;have Xh:=hbr.lt;clear hbr;by_cases hlt:j<ops.length
     ·have hf:=bP hlt
      obtain⟨⟨kind,oa,oo,⟨ck,ca,cb,s,ls,lp,lc,dd,dp,dc⟩,od,mZ,nE⟩,hoo⟩:∃o,ops[j]=o:=⟨_,rfl⟩;rw[hoo]at hf;obtain⟨g,o,rfl,fI,hok⟩:=(aa1.o.bel HJ.out.2).at hf;have q0:wr.cell? (g,o+j*10)=some (.int .i64 kind):=fI 0 _ rfl;have q1:wr.cell? (g,o+j*10+1)=some (.int .i64 oa):=fI 1 _ rfl;have q2:wr.cell? (g,o+j*10+2)=some (.int .i64 oo):=fI 2 _ rfl;have q3:wr.cell? (g,o+j*10+3)=some (.int .i64 ck):=fI 3 _ rfl;have q4:wr.cell? (g,o+j*10+4)=some (.int .i64 ca):=fI 4 _ rfl;have q5:wr.cell? (g,o+j*10+5)=some (.int .i64 cb):=fI 5 _ rfl;have q6:wr.cell? (g,o+j*10+6)=some (.string s):=fI 6 _ rfl;have q7:wr.cell? (g,o+j*10+7)=some (.slice lp ls.length lc):=fI 7 _ rfl;have q8:wr.cell? (g,o+j*10+8)=some (.slice dp dd.length dc):=fI 8 _ rfl;have q9:wr.cell? (g,o+j*10+9)=some (.slice mZ od.length nE):=fI 9 _ rfl;have ji:Hid (∀W,Bel w4 W→sM W ⟨kind,oa,oo,⟨ck,ca,cb,s,ls,lp,lc,dd,dp,dc⟩,od,mZ,nE⟩):=xh λW hW=>(aa1.o.bel hW).2 _ (List.mem_of_getElem? hf);have hst:=Bg hf;have hwo:jH (ops.take (j+1))≤jH ops:=UK _ _;have HWW:Hid (jH (ops.take j)+j+(iH.weight ⟨ck,ca,cb,s,ls,lp,lc,dd,dp,dc⟩+od.length)+1≤200400∧iH.weight ⟨ck,ca,cb,s,ls,lp,lc,dd,dp,dc⟩+od.length≤200000):=xh (by have:=HZ.o;dsimp only at hst;omega);have Q5:Hid (jH (ops.take (j+1))+(j+1)=jH (ops.take j)+j+(iH.weight ⟨ck,ca,cb,s,ls,lp,lc,dd,dp,dc⟩+od.length)+1):=xh (by dsimp only at hst;omega);have HMN:Hid (∀W,I (jH (ops.take j)+j) W→I (jH (ops.take (j+1))+(j+1)) W):=xh λW h=>Tp.o.up h (by rw[Q5.o];omega);clear hst hwo;have k6:Bel wr (wr.alloc (.cells #[.int .i64 kind,.int .i64 oa,.int .i64 oo,.int .i64 ck,.int .i64 ca,.int .i64 cb,.string s,.slice lp ls.length lc,.slice dp dd.length dc,.slice mZ od.length nE] 79)):=Bel.start _ _;have BO:Blk (wr.alloc (.cells #[.int .i64 kind,.int .i64 oa,.int .i64 oo,.int .i64 ck,.int .i64 ca,.int .i64 cb,.string s,.slice lp ls.length lc,.slice dp dd.length dc,.slice mZ od.length nE] 79)) wr.heap.size [.int .i64 kind,.int .i64 oa,.int .i64 oo,.int .i64 ck,.int .i64 ca,.int .i64 cb,.string s,.slice lp ls.length lc,.slice dp dd.length dc,.slice mZ od.length nE] 79:=Blk.new wr _ _;clear fI hok hf hoo;go_upto_region 11 with fail
      generalize wr.alloc (.cells #[.int .i64 kind,.int .i64 oa,.int .i64 oo,.int .i64 ck,.int .i64 ca,.int .i64 cb,.string s,.slice lp ls.length lc,.slice dp dd.length dc,.slice mZ od.length nE] 79)=w6 at *
      obtain⟨ob,Cc⟩:=e_x wr.heap.size;rw[Cc]at BO Xh⊢;have K6:=xh k6;have o0:=BO.c 0 rfl;have o1:=BO.c 1 rfl;have o2:=BO.c 2 rfl;have o3:=BO.c 3 rfl;have o4:=BO.c 4 rfl;have o5:=BO.c 5 rfl;have o6:=BO.c 6 rfl;have o7:=BO.c 7 rfl;have o8:=BO.c 8 rfl;have o9:=BO.c 9 rfl;have ov6:w6.cell? (wb,4)=some (.bool false):=aa k6 ov;have xg:=xh λ(hP:wO m ⟨kind,oa,oo,⟨ck,ca,cb,s,ls,lp,lc,dd,dp,dc⟩,od,mZ,nE⟩)=>Tp.o.step _ w6 ⟨kind,oa,oo,⟨ck,ca,cb,s,ls,lp,lc,dd,dp,dc⟩,od,mZ,nE⟩ (Tp.o.bel HJ.out.1 k6) (λW hW=>ji.o W (Below.trans (HJ.out.2.tr k6) hW)) hP HWW.o.1 HWW.o.2 (aV HJ.out.2.le k6.le);change Hid (_→Calls prog 35 #[wb,.agg #[.int .i64 kind,.int .i64 oa,.int .i64 oo,.int .i64 ck,.int .i64 ca,.int .i64 cb,.string s,.slice lp ls.length lc,.slice dp dd.length dc,.slice mZ od.length nE]] w6 _)at xg
      clear q0 q1 q2 q3 q4 q5 q6 q7 q8 q9 k6 BO Cc ov;by_cases hk0:kind=0
      ·have hkb:(kind==0)=true:=by simpa using hk0
       have X9:(kind==1)=false:=bK (by omega);by_cases hc0:0≤ck
       ·have acY:decide (0≤ck)=true:=by simpa using hc0
        by_cases hc1:ck<62
        ·have acZ:decide (ck<62)=true:=by simpa using hc1
         have aeq:ck≤64:=by omega
         cases hof:X8 m ck with
         | true=>
           have ac0:(bits .and .i64 (m/2^ck.toNat) 1==0)=true:=hof;clear hof hk0 hc1;go_wp2_with fail
           go_roundw
           case rel=>exact⟨j+1,by omega,by go_num,rfl,xh (And.intro (HMN.o _ (Tp.o.bel HJ.out.1 K6.o)) (HJ.out.2.tr K6.o))⟩
           case measure=>simp[intOf]<;>omega
         | false=>
           have ac0:(bits .and .i64 (m/2^ck.toNat) 1==0)=false:=hof;have Ey:Hid (wO m ⟨kind,oa,oo,⟨ck,ca,cb,s,ls,lp,lc,dd,dp,dc⟩,od,mZ,nE⟩):=xh ⟨by show kind≠1;omega,λ_ _ _=>hof⟩;clear hof hk0 hc1;go_upto_region 9 with(go_at_call 35;((with_reducible refine au (xg.o Ey.o) ?_);rintro e9 w9 ⟨rfl,i9,k9⟩;have H9:=xh (And.intro i9 k9);clear i9 k9))
           clear o0 o1 o2 o3 o4 o5 o6 o7 o8 o9 ov6;have Q6:=(Tp.o.blk H9.o.1);obtain⟨tk9,rb9,o9,w9v,Hg⟩:=Q6;have Q6:=Hg.c 4 rfl;clear Hg;go_wp2_with fail
           go_roundw
           case rel=>exact⟨j+1,by omega,by go_num,rfl,xh (And.intro (by rw[Q5.o];exact H9.o.1) ((HJ.out.2.tr K6.o).trans H9.o.2))⟩
           case measure=>simp[intOf]<;>omega
        ·have acZ:decide (ck<62)=false:=by simpa using hc1
         have Ey:Hid (wO m ⟨kind,oa,oo,⟨ck,ca,cb,s,ls,lp,lc,dd,dp,dc⟩,od,mZ,nE⟩):=xh ⟨by show kind≠1;omega,λ_ _ h=>absurd h hc1⟩;clear hk0 hc0 hc1;go_upto_region 9 with(go_at_call 35;((with_reducible refine au (xg.o Ey.o) ?_);rintro e9 w9 ⟨rfl,i9,k9⟩;have H9:=xh (And.intro i9 k9);clear i9 k9))
         clear o0 o1 o2 o3 o4 o5 o6 o7 o8 o9 ov6;have Q6:=(Tp.o.blk H9.o.1);obtain⟨tk9,rb9,o9,w9v,Hg⟩:=Q6;have Q6:=Hg.c 4 rfl;clear Hg;go_wp2_with fail
         go_roundw
         case rel=>exact⟨j+1,by omega,by go_num,rfl,xh (And.intro (by rw[Q5.o];exact H9.o.1) ((HJ.out.2.tr K6.o).trans H9.o.2))⟩
         case measure=>simp[intOf]<;>omega
       ·have acY:decide (0≤ck)=false:=by simpa using hc0
        have Ey:Hid (wO m ⟨kind,oa,oo,⟨ck,ca,cb,s,ls,lp,lc,dd,dp,dc⟩,od,mZ,nE⟩):=xh ⟨by show kind≠1;omega,λ_ h=>absurd h hc0⟩;clear hk0 hc0;go_upto_region 9 with(go_at_call 35;((with_reducible refine au (xg.o Ey.o) ?_);rintro e9 w9 ⟨rfl,i9,k9⟩;have H9:=xh (And.intro i9 k9);clear i9 k9))
        clear o0 o1 o2 o3 o4 o5 o6 o7 o8 o9 ov6;have Q6:=(Tp.o.blk H9.o.1);obtain⟨tk9,rb9,o9,w9v,Hg⟩:=Q6;have Q6:=Hg.c 4 rfl;clear Hg;go_wp2_with fail
        go_roundw
        case rel=>exact⟨j+1,by omega,by go_num,rfl,xh (And.intro (by rw[Q5.o];exact H9.o.1) ((HJ.out.2.tr K6.o).trans H9.o.2))⟩
        case measure=>simp[intOf]<;>omega
      ·have hkb:(kind==0)=false:=bK hk0
       by_cases hk1:kind=1
       ·have X9:(kind==1)=true:=by simpa using hk1
        clear hk0 hk1;go_wp2_with fail
        go_roundw
        case rel=>exact⟨j+1,by omega,by go_num,rfl,xh (And.intro (HMN.o _ (Tp.o.bel HJ.out.1 K6.o)) (HJ.out.2.tr K6.o))⟩
        case measure=>simp[intOf]<;>omega
       ·have X9:(kind==1)=false:=bK hk1
        have Ey:Hid (wO m ⟨kind,oa,oo,⟨ck,ca,cb,s,ls,lp,lc,dd,dp,dc⟩,od,mZ,nE⟩):=xh ⟨hk1,λh=>absurd h hk0⟩;clear hk0 hk1;go_upto_region 9 with(go_at_call 35;((with_reducible refine au (xg.o Ey.o) ?_);rintro e9 w9 ⟨rfl,i9,k9⟩;have H9:=xh (And.intro i9 k9);clear i9 k9))
        clear o0 o1 o2 o3 o4 o5 o6 o7 o8 o9 ov6;have Q6:=(Tp.o.blk H9.o.1);obtain⟨tk9,rb9,o9,w9v,Hg⟩:=Q6;have Q6:=Hg.c 4 rfl;clear Hg;go_wp2_with fail
        go_roundw
        case rel=>exact⟨j+1,by omega,by go_num,rfl,xh (And.intro (by rw[Q5.o];exact H9.o.1) ((HJ.out.2.tr K6.o).trans H9.o.2))⟩
        case measure=>simp[intOf]<;>omega
     ·obtain rfl:j=ops.length:=by omega
      go_wp2_with fail
      go_ret
      exact⟨rfl,H4.o.tr HJ.out.2⟩
   ·have KZ:=xh λW hW=>(hlb W hW).mono λe w' k=>And.intro k.1 (k.2.1 h0)
    obtain⟨ec,qW⟩:=e_x (aW l F);rw[qW]at KZ h0;have hne:((ec:Int) != 0)=true:=bne_iff_ne.2 (by omega);clear hr hr2 hl hs hmx hfix hev hsm Tn hl1 hz hsz hlb h0 hsc qW HI;go_enter func22,ntmps22;go_upto_region 1 with fail
    rw[HW2.o.1,HW2.o.2];obtain⟨x0,x1,x2,x3,x4,x5⟩:=HXX.o _ _ fG.o;go_upto_region 2 with(go_at_call 9;((with_reducible refine au (qV.o _ HK.o) ?_);rintro e w4 ⟨rfl,hk⟩;have H4:=xh (HK.o.tr hk);have iY:=xh (fG.o.bel hk);clear hk))
    clear x0 x1 x2 x3 x4 x5;obtain⟨x0,x1,x2,x3,x4,x5⟩:=HXX.o _ _ iY.o;go_upto_region 5 with(go_at_call 33;((with_reducible refine au (KZ.o _ H4.o) ?_);rintro e w5 ⟨k5,wb,rfl⟩;have H5:=xh k5;clear k5))
    go_wp2_with fail
    go_ret
    exact⟨rfl,H4.o.tr H5.o⟩
def Kv(t:TypeId):Prop:=t=79∨t=68∨t=62∨t=264∨t=9
def FrS(B:Nat)(w:World)(q:Nat):Prop:=B≤q∧∀cs t,Blk w q cs t→¬Kv t
abbrev Fr(B:Nat)(w w':World):Prop:=Keep (FrS B w) w w'
theorem Fr.below{B:Nat}{w w':World}(h:Fr B w w')(hB:B≤w.heap.size):Below B w w':=Keep.below h B hB λ_ hq=>hq.1
theorem Fr.bel{B:Nat}{w w':World}(h:Bel w w'):Fr B w w':=Keep.of_bel _ h
theorem Fr.tr{B:Nat}{w w' w'':World}(h:Fr B w w')(k:Fr B w' w''):Fr B w w'':=
 ⟨k.os.trans h.os,k.tape.trans h.tape,k.output.trans h.output,aV h.size k.size,λq hq hn=>(k.block q (Nat.lt_of_lt_of_le hq h.size) λhv=>hn ⟨hv.1,λcs t hb ht=>hv.2 cs t ((h.block q hq hn).trans hb) ht⟩).trans (h.block q hq hn)⟩
theorem Blk.fr{B:Nat}{w w':World}{q:Nat}{cs:List Value}{t:TypeId}(h:Blk w q cs t)(k:Fr B w w')(ht:Kv t):Blk w' q cs t:=h.keep k λhs=>hs.2 cs t h ht
theorem Fr.xL{S:Nat→Prop}{B:Nat}{w w':World}(k:Keep S w w')(h:∀q,S q→B≤q∧∃cs t,Blk w q cs t∧¬Kv t):Fr B w w':=k.mono λq hq=>by
 obtain⟨h1,cs,t,hb,ht⟩:=h q hq;refine⟨h1,λcs' t' hb'=>?_⟩;unfold Blk at hb hb';rw[hb]at hb'
 injection hb' with hb'
 injection hb' with _ e
 exact e▸ht
theorem vR{w:World}{p:Option Addr}{L:List Int}(h:kY w p L):BS w p L:=⟨h.1,λh0=>by
 obtain⟨g,o,e,cs,hb,hc⟩:=h.2 h0;exact⟨g,o,e,hb.lt,⟨λi hi=>by rw[hb.cell,bP hi];exact hc i _ (bP hi),h.1⟩⟩⟩
structure TW(I:World→Prop)(wb tk rb:Nat):Prop where
 bel:∀{w w':World},I w→Bel w w'→I w'
 blk:∀{w:World},I w→∃p q c d,∃L:List Int,Blk w wb [tk,rb,.slice p L.length c,.slice q L.length d,false] 96∧BS w p L∧BS w q L∧L.length≤1000000
 procs:∀{w:World},I w→Calls prog 69 #[wb] w (Z.b (.bool true) w)
 files:∀{w:World},I w→Calls prog 70 #[wb] w (Z.b (.bool true) w)
structure abw(I J:World→Prop)(wb tk rb B:Nat)(o:rq):Prop where
 wbB:B≤wb
 qI:TW I wb tk rb
 qJ:TW J wb tk rb
 up:∀{w:World},I w→J w
 doo:∀{w:World},I w→(∀W,Below B w W→sM W o)→o.kind=0→B≤w.heap.size→Calls prog 64 #[wb,.agg o.cells.toArray] w λe w'=>e=.returned (.bool true)∧J w'∧Fr B w w'
 tick:∀{w:World},I w→B≤w.heap.size→∃X:World→Prop,(∀W,X W→W.cell? (wb,1)=some (.pointer (rb,0)))∧
  (Calls prog 24 #[tk] w λe w'=>e=.returned (.tuple #[])∧X w'∧Fr B w w')∧∀W,X W→Calls prog 66 #[rb] W λe w'=>e=.returned (.tuple #[])∧I w'∧Fr B W w'
 typ:∀{w0 w:World} {g:Nat},I w0→Bel w0 w→B≤w0.heap.size→w0.heap.size≤g→Blk w g ((o.d++[71,72]).map (Value.int .u8)) 5→(∀x∈o.d,fP x)→∃Y:World→Prop,
  (Calls prog 25 #[tk,.slice (g,0) o.d.length (o.d.length+2)] w λe w'=>e=.returned (.tuple #[])∧Y w'∧Fr B w w'∧Blk w' g ((o.d++[71,72]).map (Value.int .u8)) 5)∧
  (∀W W',Y W→Keep (λq=>q=g) W W'→Y W')∧∀W,Y W→(∃cs,Blk W wb cs 96∧cs[1]?=some (.pointer (rb,0)))∧∃v,∃Lt:List Int,W.cell? (rb,9)=some v∧(∃ks,Blk W rb ks 174)∧Buf W v Lt∧Lt.length+o.d.length≤100000000∧
   ∀v' W',Buf W' v' (Lt++o.d)→jl W W' v (dV v)→(∀g',ag v'=some g'→ag v=some g'∨W.heap.size≤g')→J (W'.setCell (rb,9) v')∧Fr B W (W'.setCell (rb,9) v')
 cons:∀{w:World},I w→B≤w.heap.size→∃C:Value→World→Prop,(Calls prog 67 #[tk] w λe w'=>∃v,e=.returned v∧C v w'∧Fr B w w')∧
  ∀v W,C v W→W.cell? (wb,1)=some (.pointer (rb,0))∧W.frozen? (rb,10)=false∧∃p q c d,∃L:List Int,v=.slice p L.length c∧W.cell? (rb,10)=some (.slice q L.length d)∧BS W p L∧BS W q L∧L.length≤1000000∧∀n,J ((W.drewN n).setCell (rb,10) (.slice none 0 0))∧Fr B W ((W.drewN n).setCell (rb,10) (.slice none 0 0))
theorem OB(I J:World→Prop)(wb tk rb B:Nat)(o:rq)(H:abw I J wb tk rb B o)(w:World)(hI:I w)(hok:∀W,Below B w W→sM W o)(hk1:o.kind≠1)(hsz:o.d.length≤200000)(hB:B≤w.heap.size) :
 Calls prog 35 #[wb,.agg o.cells.toArray] w λe w'=>e=.returned (.bool true)∧J w'∧Below B w w':=by
 obtain⟨kind,oa,oo,⟨ck,ca,cb,s,ls,lp,lc,dd,dp,dc⟩,od,mZ,nE⟩:=o;change Calls prog 35 #[wb,.agg #[.int .i64 kind,.int .i64 oa,.int .i64 oo,.int .i64 ck,.int .i64 ca,.int .i64 cb,.string s,.slice lp ls.length lc,.slice dp dd.length dc,.slice mZ od.length nE]] w _
 dsimp only at hk1 hsz
 have HH:=xh H;have HI:=xh hI;have ji:=xh hok;have HB:=xh hB;obtain⟨p0,q0,c0,d0,L0,hb0,_,_,_⟩:=H.qI.blk hI;have Xh:=hb0.lt;have k1:Bel w (w.alloc (.cells #[.int .i64 kind,.int .i64 oa,.int .i64 oo,.int .i64 ck,.int .i64 ca,.int .i64 cb,.string s,.slice lp ls.length lc,.slice dp dd.length dc,.slice mZ od.length nE] 79)):=Bel.start _ _;have BX:Blk (w.alloc (.cells #[.int .i64 kind,.int .i64 oa,.int .i64 oo,.int .i64 ck,.int .i64 ca,.int .i64 cb,.string s,.slice lp ls.length lc,.slice dp dd.length dc,.slice mZ od.length nE] 79)) w.heap.size [.int .i64 kind,.int .i64 oa,.int .i64 oo,.int .i64 ck,.int .i64 ca,.int .i64 cb,.string s,.slice lp ls.length lc,.slice dp dd.length dc,.slice mZ od.length nE] 79:=Blk.new w _ _;have v0:(w.alloc (.cells #[.int .i64 kind,.int .i64 oa,.int .i64 oo,.int .i64 ck,.int .i64 ca,.int .i64 cb,.string s,.slice lp ls.length lc,.slice dp dd.length dc,.slice mZ od.length nE] 79)).cell? (wb,0)=some (.pointer (tk,0)):=(hb0.bel k1).cell 0;have v1:(w.alloc (.cells #[.int .i64 kind,.int .i64 oa,.int .i64 oo,.int .i64 ck,.int .i64 ca,.int .i64 cb,.string s,.slice lp ls.length lc,.slice dp dd.length dc,.slice mZ od.length nE] 79)).cell? (wb,1)=some (.pointer (rb,0)):=(hb0.bel k1).cell 1;clear H hI hok hB hb0;go_enter func35,ntmps35;go_upto_region 1 with fail
 generalize w.alloc (.cells #[.int .i64 kind,.int .i64 oa,.int .i64 oo,.int .i64 ck,.int .i64 ca,.int .i64 cb,.string s,.slice lp ls.length lc,.slice dp dd.length dc,.slice mZ od.length nE] 79)=w1 at *
 obtain⟨bx,hbx⟩:=e_x w.heap.size;have ace:bx<w1.heap.size:=by rw[←hbx];exact BX.lt
 rw[hbx]at BX⊢;have fG:=xh BX;have HCX:Hid (∀W,Blk W bx [.int .i64 kind,.int .i64 oa,.int .i64 oo,.int .i64 ck,.int .i64 ca,.int .i64 cb,.string s,.slice lp ls.length lc,.slice dp dd.length dc,.slice mZ od.length nE] 79→W.cell? (bx,0)=some (.int .i64 kind)∧W.cell? (bx,1)=some (.int .i64 oa)∧W.cell? (bx,2)=some (.int .i64 oo)∧W.cell? (bx,3)=some (.int .i64 ck)∧W.cell? (bx,4)=some (.int .i64 ca)∧W.cell? (bx,5)=some (.int .i64 cb)∧W.cell? (bx,6)=some (.string s)∧W.cell? (bx,7)=some (.slice lp ls.length lc)∧W.cell? (bx,8)=some (.slice dp dd.length dc)∧W.cell? (bx,9)=some (.slice mZ od.length nE)):=xh λW h=>⟨h.cell 0,h.cell 1,h.cell 2,h.cell 3,h.cell 4,h.cell 5,h.cell 6,h.cell 7,h.cell 8,h.cell 9⟩;have bG:=xh k1;have HI1:=xh (HH.o.qI.bel HI.o k1);have hB1:B≤w1.heap.size:=aV HB.o k1.le;have HB1:=xh hB1;have X9:(kind==1)=false:=bK hk1;obtain⟨x0,x1,x2,x3,x4,x5,x6,x7,x8,x9⟩:=HCX.o _ BX;clear BX k1 hk1 hB1;by_cases hk0:kind=0
 ·have ad7:(kind==0)=true:=by simpa using hk0
  have HDO:Hid (Calls prog 64 #[wb,.agg #[.int .i64 kind,.int .i64 oa,.int .i64 oo,.int .i64 ck,.int .i64 ca,.int .i64 cb,.string s,.slice lp ls.length lc,.slice dp dd.length dc,.slice mZ od.length nE]] w1 λe w'=>e=.returned (.bool true)∧J w'∧Fr B w1 w'):=xh (HH.o.doo HI1.o (λW hW=>ji.o W ((bG.o.mono HB.o).trans hW)) hk0 HB1.o);clear hk0;go_upto_region 25 with(go_at_call 64;((with_reducible refine au HDO.o ?_);rintro e2 w2 ⟨rfl,i2,k2⟩;have HS:=xh (And.intro i2 k2);clear i2 k2))
  clear x0 x1 x2 x3 x4 x5 x6 x7 x8 x9 v0 v1;have SE:w2.cell? (wb,4)=some (.bool false):=by
   obtain⟨_,_,_,_,_,hb,_⟩:=HH.o.qJ.blk HS.o.1;exact hb.cell 4
  have rJ:=xh (HH.o.qJ.procs HS.o.1);have Lb:=xh λW (hW:Bel w2 W)=>HH.o.qJ.files (HH.o.qJ.bel HS.o.1 hW);go_upto_region 28 with(go_at_call 69;((with_reducible refine au rJ.o ?_);rintro eP wP ⟨rfl,kP⟩;have Gr:=xh kP;clear kP))
  go_upto_region 29 with(go_at_call 70;((with_reducible refine au (Lb.o _ Gr.o) ?_);rintro eF wF ⟨rfl,kF⟩;have Gs:=xh (Gr.o.tr kF);clear kF))
  have hIF:=HH.o.qJ.bel HS.o.1 Gs.o;obtain⟨pO,qO,cO,dO,LO,zO,qm,qo,SF⟩:=HH.o.qJ.blk hIF;have o2:=zO.c 2 rfl;have o3:=zO.c 3 rfl;have qV:=xh λk=>fB pO qO cO dO LO (wF.drewN k) (qm.bel (ah (Bel.refl _) k)) (qo.bel (ah (Bel.refl _) k)) SF;clear zO qm qo SE hIF;go_quiet ((go_at_call 68;exact Calls.quiet_of (qV.o _)))
  have hbN:Bel w2 (wF.drewN nq):=ah Gs.o nq;have DJ:=xh hbN;generalize wF.drewN nq=wN at *
  clear hbN o2 o3;go_wp2_with fail
  go_ret
  exact⟨rfl,HH.o.qJ.bel HS.o.1 DJ.o,(bG.o.mono HB.o).trans ((HS.o.2.below (aV HB.o bG.o.le)).trans (DJ.o.mono (aV HB.o (aV bG.o.le HS.o.2.size))))⟩
 ·have ad7:(kind==0)=false:=bK hk0
  by_cases hk2:kind=2
  ·have hkb2:(kind==2)=true:=by simpa using hk2
   clear hk0 hk2;clear x1 x3 x4 x5 x6 x7 x8 x9;go_upto_region 12 with fail
   clear x0 x2 v0 v1
   go_loopw [7] (λi wr=>∃j:Nat,i=.int .i64 j∧j≤200∧Hid (I wr∧Fr B w1 wr)) (λi _=>200-(intOf i).toNat)
   case atStart=>exact⟨0,rfl,by omega,xh ⟨HI1.o,Keep.refl _ _⟩⟩
   case round=>
    obtain⟨j,rfl,hj,HJ⟩:=hrel;obtain⟨x0,x1,x2,x3,x4,x5,x6,x7,x8,x9⟩:=HCX.o _ (fG.o.fr HJ.out.2 (by unfold Kv;decide));have HS:Hid (J wr∧Fr B w1 wr):=xh ⟨HH.o.up HJ.out.1,HJ.out.2⟩;by_cases hlt:(j:Int)<oo
    ·have hlb:decide ((j:Int)<oo)=true:=by simpa using hlt
     by_cases ad8:j<200
     ·have hl2:decide ((j:Int)<200)=true:=by simp;omega
      have hBr:B≤wr.heap.size:=aV HB1.o HJ.out.2.size;obtain⟨X,hX1,hX2,hX3⟩:=HH.o.tick HJ.out.1 hBr;obtain⟨pr,qr,cr,dr,Lr,hbr,_,_,_⟩:=HH.o.qI.blk HJ.out.1;have v0:=hbr.c 0 rfl;have HX1:=xh hX1;have Zg:=xh hX2;have HX3:=xh hX3;clear hX1 hX2 hX3 hbr hlt HS;clear x0 x1 x3 x4 x5 x6 x7 x8 x9;go_upto_region 15 with(go_at_call 24;((with_reducible refine au Zg.o ?_);rintro e2 w2 ⟨rfl,i2,k2⟩;have H2:=xh (And.intro i2 k2);have v1:=HX1.o _ i2;clear i2 k2))
      clear x2 v0;go_wp2_with (go_at_call 66;((with_reducible refine au (HX3.o _ H2.o.1) ?_);rintro e3 w3 ⟨rfl,i3,k3⟩;have H3:=xh (And.intro i3 k3);clear i3 k3))
      go_roundw
      case rel=>exact⟨j+1,by go_num,by omega,xh ⟨H3.o.1,(HJ.out.2.tr H2.o.2).tr H3.o.2⟩⟩
      case measure=>simp[intOf]<;>omega
     ·obtain rfl:j=200:=by omega
      have afF:decide ((200:Int)<oo)=true:=by simpa using hlb
      clear hlt ad8;go_upto_region 25 with fail
      clear x0 x1 x2 x3 x4 x5 x6 x7 x8 x9;have SE:wr.cell? (wb,4)=some (.bool false):=by
       obtain⟨_,_,_,_,_,hb,_⟩:=HH.o.qJ.blk HS.o.1;exact hb.cell 4
      have rJ:=xh (HH.o.qJ.procs HS.o.1);have Lb:=xh λW (hW:Bel wr W)=>HH.o.qJ.files (HH.o.qJ.bel HS.o.1 hW);go_upto_region 28 with(go_at_call 69;((with_reducible refine au rJ.o ?_);rintro eP wP ⟨rfl,kP⟩;have Gr:=xh kP;clear kP))
      go_upto_region 29 with(go_at_call 70;((with_reducible refine au (Lb.o _ Gr.o) ?_);rintro eF wF ⟨rfl,kF⟩;have Gs:=xh (Gr.o.tr kF);clear kF))
      have hIF:=HH.o.qJ.bel HS.o.1 Gs.o;obtain⟨pO,qO,cO,dO,LO,zO,qm,qo,SF⟩:=HH.o.qJ.blk hIF;have o2:=zO.c 2 rfl;have o3:=zO.c 3 rfl;have qV:=xh λk=>fB pO qO cO dO LO (wF.drewN k) (qm.bel (ah (Bel.refl _) k)) (qo.bel (ah (Bel.refl _) k)) SF;clear zO qm qo SE hIF;go_quiet ((go_at_call 68;exact Calls.quiet_of (qV.o _)))
      have hbN:Bel wr (wF.drewN nq):=ah Gs.o nq;have DJ:=xh hbN;generalize wF.drewN nq=wN at *
      clear hbN o2 o3;go_wp2_with fail
      go_ret
      exact⟨rfl,HH.o.qJ.bel HS.o.1 DJ.o,(bG.o.mono HB.o).trans ((HS.o.2.below (aV HB.o bG.o.le)).trans (DJ.o.mono (aV HB.o (aV bG.o.le HS.o.2.size))))⟩
    ·have hlb:decide ((j:Int)<oo)=false:=by simpa using hlt
     clear hlt;go_upto_region 25 with fail
     clear x0 x1 x2 x3 x4 x5 x6 x7 x8 x9;have SE:wr.cell? (wb,4)=some (.bool false):=by
      obtain⟨_,_,_,_,_,hb,_⟩:=HH.o.qJ.blk HS.o.1;exact hb.cell 4
     have rJ:=xh (HH.o.qJ.procs HS.o.1);have Lb:=xh λW (hW:Bel wr W)=>HH.o.qJ.files (HH.o.qJ.bel HS.o.1 hW);go_upto_region 28 with(go_at_call 69;((with_reducible refine au rJ.o ?_);rintro eP wP ⟨rfl,kP⟩;have Gr:=xh kP;clear kP))
     go_upto_region 29 with(go_at_call 70;((with_reducible refine au (Lb.o _ Gr.o) ?_);rintro eF wF ⟨rfl,kF⟩;have Gs:=xh (Gr.o.tr kF);clear kF))
     have hIF:=HH.o.qJ.bel HS.o.1 Gs.o;obtain⟨pO,qO,cO,dO,LO,zO,qm,qo,SF⟩:=HH.o.qJ.blk hIF;have o2:=zO.c 2 rfl;have o3:=zO.c 3 rfl;have qV:=xh λk=>fB pO qO cO dO LO (wF.drewN k) (qm.bel (ah (Bel.refl _) k)) (qo.bel (ah (Bel.refl _) k)) SF;clear zO qm qo SE hIF;go_quiet ((go_at_call 68;exact Calls.quiet_of (qV.o _)))
     have hbN:Bel wr (wF.drewN nq):=ah Gs.o nq;have DJ:=xh hbN;generalize wF.drewN nq=wN at *
     clear hbN o2 o3;go_wp2_with fail
     go_ret
     exact⟨rfl,HH.o.qJ.bel HS.o.1 DJ.o,(bG.o.mono HB.o).trans ((HS.o.2.below (aV HB.o bG.o.le)).trans (DJ.o.mono (aV HB.o (aV bG.o.le HS.o.2.size))))⟩
  ·have hkb2:(kind==2)=false:=bK hk2
   by_cases hk3:kind=3
   ·have ad9:(kind==3)=true:=by simpa using hk3
    clear hk0 hk2 hk3;have hod:=(ji.o w1 (bG.o.mono HB.o)).d;have OQ:=xh (uV mZ nE od w1 hod hsz);have aea:=hod.1;clear hod;clear x1 x2 x3 x4 x5 x6 x7 x8;go_upto_region 18 with(go_at_call 58;((with_reducible refine au OQ.o ?_);rintro e2 w2 ⟨g,rfl,hg,hBg,k2⟩;have H2:=xh k2;have HG:=xh (And.intro hg hBg);clear hg hBg k2))
    obtain⟨Y,hY1,hY2,hY3⟩:=HH.o.typ HI1.o H2.o HB1.o HG.o.1 HG.o.2 aea;have HY1:=xh hY1;have HY2:=xh hY2;have HY3:=xh hY3;have v0':=aa H2.o v0;have hB2:B≤w2.heap.size:=aV HB1.o H2.o.le;clear hY1 hY2 hY3 x0 x9 v0 v1;have v0:=v0';clear v0';go_upto_region 19 with(go_at_call 25;((with_reducible refine au HY1.o ?_);rintro e3 w3 ⟨rfl,y3,k3,b3⟩;have H3:=xh (And.intro y3 (And.intro k3 b3));clear y3 k3 b3))
    clear v0;have Y1:Below B w w3:=(bG.o.mono HB.o).trans ((H2.o.mono HB1.o).trans (H3.o.2.1.below hB2));have HST:=xh (qB g mZ nE od w3 H3.o.2.2 (ji.o w3 Y1).d hsz);have HX3:Hid (Blk w3 bx [.int .i64 kind,.int .i64 oa,.int .i64 oo,.int .i64 ck,.int .i64 ca,.int .i64 cb,.string s,.slice lp ls.length lc,.slice dp dd.length dc,.slice mZ od.length nE] 79):=xh ((fG.o.bel H2.o).fr H3.o.2.1 (by unfold Kv;decide));have Ni:=xh Y1;have x9:=HX3.o.c 9 rfl;clear Y1;go_upto_region 20 with(go_at_call 59;((with_reducible refine au HST.o ?_);rintro e4 w4 ⟨rfl,k4⟩;have H4:=xh k4;clear k4))
    clear x9;have hgb:Blk w3 g ((od++[71,72]).map (Value.int .u8)) 5:=H3.o.2.2;have hxg:bx≠g:=HX3.o.ne hgb (by decide);have hX4:Blk w4 bx [.int .i64 kind,.int .i64 oa,.int .i64 oo,.int .i64 ck,.int .i64 ca,.int .i64 cb,.string s,.slice lp ls.length lc,.slice dp dd.length dc,.slice mZ od.length nE] 79:=HX3.o.keep H4.o λe=>hxg e;have x9:=hX4.c 9 rfl;obtain⟨⟨wcs,hwb,hw1⟩,v,Lt,r9,⟨ks,hrb⟩,hbuf,hll,hfin⟩:=HY3.o w4 (HY2.o w3 w4 H3.o.1 H4.o);have hg0:w1.heap.size≤g:=HG.o.1;have hB4:B≤w4.heap.size:=aV (aV hB2 H3.o.2.1.size) H4.o.size;have abI:BS w4 mZ od:=(ji.o w4 (Ni.o.trans (H4.o.below B (by have:=H3.o.2.1.size;omega) λq hq=>by have:q=g:=hq;have:=HB1.o;omega))).d;obtain⟨tp,tc,rfl,_,_⟩:=hbuf.slice;have kd:=Bel.drew (Bel.refl w4);have SG:=xh (hbuf.bel kd);have HOD:=xh (abI.bel kd);have Zf:=xh (hwb.bel kd);have XK:=xh (hrb.bel kd);have HXB:=xh (hX4.bel kd);have Eu:=xh hll;have xq:=xh hfin;have HW1:=xh hw1;have v1:w4.cell? (wb,1)=some (.pointer (rb,0)):=by rw[hwb.cell];exact hw1
    have hrl:=hrb.lt;have hxr:bx≠rb:=hX4.ne hrb (by decide);have hwr:wb≠rb:=hwb.ne hrb (by decide);have hrx:rb≠bx:=λe=>hxr e.symm;have hrw:rb≠wb:=λe=>hwr e.symm;have T9:Hid (Blk w3 g ((od++[71,72]).map (Value.int .u8)) 5∧B≤g):=xh ⟨hgb,aV HB1.o hg0⟩;clear hfin hX4 hgb hg0 hbuf abI hwb hrb hll hw1 kd;refine wp_region_noPanic ?_;refine wp_region_held_drew (S:=λw'=>w'.cell? ⟨wb,1,none⟩=some (.pointer (rb,0))∧w'.cell? ⟨bx,9,none⟩=some (.slice mZ od.length nE)) (by kernel_rfl) (by(first|(go_keep;done)|exact⟨z1,z2⟩)) (λhHeld=>?_);refine plan [0,1,2,3,4,5,6,7,8,9,11,12] ?_;repeat refine t0 rfl (by kernel_rfl) (by intro w hw;(try dsimp only at hw);go_simp;with_reducible rfl) (by assumption) (by(try simp only[Act.put,lits]);exact rfl) ?_
    refine aK ?_;refine rd 10 rfl (by kernel_rfl) (λK hK=>?_);go_simp;refine hK.out _ _ (by(first|(go_keep;done)|exact⟨z1,z2⟩)) (λhH=>?_);clear hK K;(try simp only[Act.put,lits])
    refine rd 13 rfl (by kernel_rfl) (λK hK=>?_);refine Cf rfl (.tmp 93) (.tmp 95) rfl (.slice tp Lt.length tc) mZ nE Lt od rfl rfl SG.o HOD.o Eu.o ?_;intro v' wa h1 h2 h3 h4;obtain⟨pa,la,bS,rfl⟩:∃pa la bS,v'=.slice pa la bS:=(let ⟨pa,bS,e,_⟩:=h1.slice;⟨pa,_,bS,e⟩);have z1:wa.cell? (wb,1)=some (.pointer (rb,0)):=(by rw[(Zf.o.keep h2.keep λe=>(SG.o.ne Zf.o (by decide)) _ e rfl).cell];exact HW1.o);have z2:wa.cell? (bx,9)=some (.slice mZ od.length nE):=(HXB.o.keep h2.keep λe=>(SG.o.ne HXB.o (by decide)) _ e rfl).cell 9;have hra:=XK.o.keep h2.keep λe=>(SG.o.ne XK.o (by decide)) _ e rfl;have fa:=hra.frozen;have la2:=hra.lt;obtain⟨u9,c9⟩:∃u,wa.cell? (rb,9)=some u:=⟨_,(h2.keep.cell ⟨rb,9,none⟩ (by simpa using hrl) λe=>(SG.o.ne XK.o (by decide)) _ e rfl).trans (aa (Bel.drew (Bel.refl _)) r9)⟩;have HA:=xh (And.intro h1 (And.intro h2 h3));clear h1 h2 h3 h4 hra;refine hK.out _ _ (by(first|(go_keep;done)|exact⟨z1,z2⟩)) (λhH=>?_);clear hK K;(try simp only[Act.put,lits])
    refine plan [14,15] ?_;repeat refine t0 rfl (by kernel_rfl) (by intro w hw;(try dsimp only at hw);go_simp;with_reducible rfl) (by assumption) (by(try simp only[Act.put,lits]);exact rfl) ?_
    refine aK ?_;refine rd 16 rfl (by kernel_rfl) (λK hK=>?_);go_simp;refine hK.out _ _ (by(first|(go_keep;done)|exact⟨z1,z2⟩)) (λhH=>?_);clear hK K;(try simp only[Act.put,lits])
    refine wpAnyH_done (by kernel_rfl) ?_ _;refine NoPanic.normal ?_;go_upto_region 25 with fail
    have HS:Hid (J (wa.setCell (rb,9) (.slice pa la bS))∧Fr B w1 (wa.setCell (rb,9) (.slice pa la bS))):=xh (by
     have h:=xq.o _ wa HA.o.1 (jl.VS (Bel.drew (Bel.refl w4)) HA.o.2.1) HA.o.2.2;exact⟨h.1,(((Fr.bel H2.o).tr H3.o.2.1).tr (Fr.xL H4.o λq hq=>(by
      have e:q=g:=hq;subst e;exact⟨T9.o.2,_,_,T9.o.1,by unfold Kv;decide⟩))).tr h.2⟩)
    generalize wa.setCell (rb,9) (.slice pa la bS)=w5 at *
    clear z1 z2 c9 fa la2 v1 x9 r9 HA;have SE:w5.cell? (wb,4)=some (.bool false):=by
     obtain⟨_,_,_,_,_,hb,_⟩:=HH.o.qJ.blk HS.o.1;exact hb.cell 4
    have rJ:=xh (HH.o.qJ.procs HS.o.1);have Lb:=xh λW (hW:Bel w5 W)=>HH.o.qJ.files (HH.o.qJ.bel HS.o.1 hW);go_upto_region 28 with(go_at_call 69;((with_reducible refine au rJ.o ?_);rintro eP wP ⟨rfl,kP⟩;have Gr:=xh kP;clear kP))
    go_upto_region 29 with(go_at_call 70;((with_reducible refine au (Lb.o _ Gr.o) ?_);rintro eF wF ⟨rfl,kF⟩;have Gs:=xh (Gr.o.tr kF);clear kF))
    have hIF:=HH.o.qJ.bel HS.o.1 Gs.o;obtain⟨pO,qO,cO,dO,LO,zO,qm,qo,SF⟩:=HH.o.qJ.blk hIF;have o2:=zO.c 2 rfl;have o3:=zO.c 3 rfl;have qV:=xh λk=>fB pO qO cO dO LO (wF.drewN k) (qm.bel (ah (Bel.refl _) k)) (qo.bel (ah (Bel.refl _) k)) SF;clear zO qm qo SE hIF;go_quiet ((go_at_call 68;exact Calls.quiet_of (qV.o _)))
    have hbN:Bel w5 (wF.drewN nq):=ah Gs.o nq;have DJ:=xh hbN;generalize wF.drewN nq=wN at *
    clear hbN o2 o3;go_wp2_with fail
    go_ret
    exact⟨rfl,HH.o.qJ.bel HS.o.1 DJ.o,(bG.o.mono HB.o).trans ((HS.o.2.below (aV HB.o bG.o.le)).trans (DJ.o.mono (aV HB.o (aV bG.o.le HS.o.2.size))))⟩
   ·have ad9:(kind==3)=false:=bK hk3
    by_cases hk4:kind=4
    ·have aeb:(kind==4)=true:=by simpa using hk4
     clear hk0 hk2 hk3 hk4;clear x1 x2 x3 x4 x5 x6 x7 x8 x9;obtain⟨C,hC1,hC2⟩:=HH.o.cons HI1.o HB1.o;have Rh:=xh hC1;have Kt:=xh hC2;clear hC1 hC2;go_upto_region 23 with(go_at_call 67;((with_reducible refine au Rh.o ?_);rintro e2 w2 ⟨v,rfl,c2,k2⟩;have H2:=xh (And.intro c2 k2);clear c2 k2))
     clear x0 v0 v1;obtain⟨v1,rf,pp,qq,cc,dd2,L,rfl,zQ,hp,hq,hll,hfin⟩:=Kt.o _ _ H2.o.1;have qV:=xh (fB pp qq cc dd2 L w2 hp hq hll);have xq:=xh hfin;clear hp hq hfin;go_upto_region 24 with(go_at_call 68;((with_reducible refine au qV.o ?_);rintro e3 w3 ⟨rfl,nd,rfl⟩))
     change Code.wp _ _ _ _ (w2.drewN nd)
     have v1':(w2.drewN nd).cell? (wb,1)=some (.pointer (rb,0)):=v1;have aec:(w2.drewN nd).cell? (rb,10)=some (.slice qq L.length dd2):=zQ;have rf':(w2.drewN nd).frozen? (rb,10)=false:=rf;clear v1 zQ rf;go_upto_region 25 with fail
     have HS:Hid (J ((w2.drewN nd).setCell (rb,10) (.slice none 0 0))∧Fr B w1 ((w2.drewN nd).setCell (rb,10) (.slice none 0 0))):=xh ⟨(xq.o nd).1,H2.o.2.tr (xq.o nd).2⟩;generalize (w2.drewN nd).setCell (rb,10) (.slice none 0 0)=w5 at *
     clear v1' aec rf';have SE:w5.cell? (wb,4)=some (.bool false):=by
      obtain⟨_,_,_,_,_,hb,_⟩:=HH.o.qJ.blk HS.o.1;exact hb.cell 4
     have rJ:=xh (HH.o.qJ.procs HS.o.1);have Lb:=xh λW (hW:Bel w5 W)=>HH.o.qJ.files (HH.o.qJ.bel HS.o.1 hW);go_upto_region 28 with(go_at_call 69;((with_reducible refine au rJ.o ?_);rintro eP wP ⟨rfl,kP⟩;have Gr:=xh kP;clear kP))
     go_upto_region 29 with(go_at_call 70;((with_reducible refine au (Lb.o _ Gr.o) ?_);rintro eF wF ⟨rfl,kF⟩;have Gs:=xh (Gr.o.tr kF);clear kF))
     have hIF:=HH.o.qJ.bel HS.o.1 Gs.o;obtain⟨pO,qO,cO,dO,LO,zO,qm,qo,SF⟩:=HH.o.qJ.blk hIF;have o2:=zO.c 2 rfl;have o3:=zO.c 3 rfl;have qV:=xh λk=>fB pO qO cO dO LO (wF.drewN k) (qm.bel (ah (Bel.refl _) k)) (qo.bel (ah (Bel.refl _) k)) SF;clear zO qm qo SE hIF;go_quiet ((go_at_call 68;exact Calls.quiet_of (qV.o _)))
     have hbN:Bel w5 (wF.drewN nq):=ah Gs.o nq;have DJ:=xh hbN;generalize wF.drewN nq=wN at *
     clear hbN o2 o3;go_wp2_with fail
     go_ret
     exact⟨rfl,HH.o.qJ.bel HS.o.1 DJ.o,(bG.o.mono HB.o).trans ((HS.o.2.below (aV HB.o bG.o.le)).trans (DJ.o.mono (aV HB.o (aV bG.o.le HS.o.2.size))))⟩
    ·have aeb:(kind==4)=false:=bK hk4
     clear hk0 hk2 hk3 hk4;clear x1 x2 x3 x4 x5 x6 x7 x8 x9;have HS:Hid (J w1∧Fr B w1 w1):=xh ⟨HH.o.up HI1.o,Keep.refl _ _⟩;go_upto_region 25 with fail
     clear x0 v0 v1;have SE:w1.cell? (wb,4)=some (.bool false):=by
      obtain⟨_,_,_,_,_,hb,_⟩:=HH.o.qJ.blk HS.o.1;exact hb.cell 4
     have rJ:=xh (HH.o.qJ.procs HS.o.1);have Lb:=xh λW (hW:Bel w1 W)=>HH.o.qJ.files (HH.o.qJ.bel HS.o.1 hW);go_upto_region 28 with(go_at_call 69;((with_reducible refine au rJ.o ?_);rintro eP wP ⟨rfl,kP⟩;have Gr:=xh kP;clear kP))
     go_upto_region 29 with(go_at_call 70;((with_reducible refine au (Lb.o _ Gr.o) ?_);rintro eF wF ⟨rfl,kF⟩;have Gs:=xh (Gr.o.tr kF);clear kF))
     have hIF:=HH.o.qJ.bel HS.o.1 Gs.o;obtain⟨pO,qO,cO,dO,LO,zO,qm,qo,SF⟩:=HH.o.qJ.blk hIF;have o2:=zO.c 2 rfl;have o3:=zO.c 3 rfl;have qV:=xh λk=>fB pO qO cO dO LO (wF.drewN k) (qm.bel (ah (Bel.refl _) k)) (qo.bel (ah (Bel.refl _) k)) SF;clear zO qm qo SE hIF;go_quiet ((go_at_call 68;exact Calls.quiet_of (qV.o _)))
     have hbN:Bel w1 (wF.drewN nq):=ah Gs.o nq;have DJ:=xh hbN;generalize wF.drewN nq=wN at *
     clear hbN o2 o3;go_wp2_with fail
     go_ret
     exact⟨rfl,HH.o.qJ.bel HS.o.1 DJ.o,(bG.o.mono HB.o).trans ((HS.o.2.below (aV HB.o bG.o.le)).trans (DJ.o.mono (aV HB.o (aV bG.o.le HS.o.2.size))))⟩
theorem PN(n:Int)(w:World):Calls prog 61 #[n] w (Z.e (.int .i64 n) w):=by
 go_enter func61,ntmps61;go_wp2
 go_ret
 exact⟨rfl,rfl⟩
theorem TM:(prog.info? 9).map (λi=>(i.size,i.bytes,(i.zero.map (·.cells.size))))=some (1,16,some 1):=by kernel_rfl
theorem Ia{w:World}{base:Nat}{p:Option Addr}{n cap:Nat}{l:List ByteArray}(h:w.ownsRow base 9 1 (.slice p n cap) n (l.map Value.string))(hn:n=l.length):Tc w p l:=λh0=>by
 obtain⟨p',c',e,_,_,hp⟩:=aD h;cases e
 obtain⟨g,rfl,_,_,hc,_⟩:=hp.resolve_left (by omega);obtain⟨_,cs,hb⟩:=row_blk h (g:=g) rfl;refine⟨g,0,rfl,cs,_,hb,rfl,λi s hi=>?_⟩;have hlt:=(bZ hi).1;rw[Nat.zero_add,←hb.cell,hc i (by rw[fJ];exact hlt),dA,hi];rfl
theorem sW{P:Program}{w:World}{ops:Array Oper}{rest:List Oper}{o:Oper}{a:Act}{Q:Exit→Act→World→Prop}(hgd:o.guard=none)(s x:Operand)(t:TypeId)
 (ho:o.op=.call {callee:=.builtin .append,args:= #[s,x],argTypes:= #[t,t]})(ht:P.underlying t=some (.slice 9))
 (hi:(P.info? 9).map (λi=>(i.size,i.bytes,(i.zero.map (·.cells.size))))=some (1,16,some 1))(hs:a.eval s=.slice none 0 0)(p:Option Addr)(cap:Nat)(l:List ByteArray)(hx:a.eval x=.slice p l.length cap)(hl:VM w p l)(hz:p=none→cap=0)(hlen:l.length≤1048576)
 (h:∀q cq w',w'.ownsRow w.heap.size 9 1 (.slice q l.length cq) l.length (l.map Value.string)→Bel w w'→wpList P ops Q rest (a.put o.dst (.slice q l.length cq)) w'):wpList P ops Q (o::rest) a w:=by
 obtain⟨i,z,hi,hz2,e1,e2,e3⟩:=info_of hi;have hnil:=World.ownsRow_nil w w.heap.size 9 1;cases p with
 | none=>
   have hl0:l=[]:=List.eq_nil_of_length_eq_zero (by
    by_cases h0:0<l.length
    ·obtain⟨_,_,e,_⟩:=hl 0 _ (bP h0)
     cases e
    ·omega)
   subst hl0;have hc:=hz rfl;subst hc;exact wpList_append_own_none hgd s x t ho w.heap.size 9 i 1 ht hi (.slice none 0 0) 0 [] hs hnil hx (h none 0 w hnil (Bel.refl w))
 | some ad=>
   refine wpList_append_own w hgd s x t ho w.heap.size 9 i z 1 16 ht hi hz2 e1 e2 e3 (by omega) (.slice none 0 0) 0 [] hs hnil ad l.length cap (l.map Value.string) hx (by simp) (λj u hj=>?_) (λu hu=>?_) (by unfold maxLen;omega) (by omega) (bH _) λv' w' k1 k2 _=>?_
   ·rw[dA]at hj
    obtain⟨y,hy,rfl⟩:=Option.map_eq_some_iff.1 hj;obtain⟨g,o',e,hc⟩:=hl _ _ hy;cases e
    rw[Addr.add_lit];exact hc
   ·obtain⟨y,_,rfl⟩:=List.mem_map.1 hu
    rfl
   ·rw[Nat.zero_add,List.nil_append]at k1
    obtain⟨q,cq,rfl,_⟩:=aD k1;exact h q cq w' k1 ((grown_keep k2 hnil).below _ (bH _) λk hk=>hk)
theorem PO(c:iH)(w:World)(hd:BS w c.dp c.d)(hlen:c.d.length≤1048576) :
 Calls prog 109 #[.agg c.cells.toArray] w λe w'=>∃dp dc,e=.returned (.agg #[.int .i64 c.kind,.int .i64 c.a,.int .i64 c.b,.string c.s,.slice c.lp c.l.length c.lc,.slice dp c.d.length dc])∧(kY w' dp c.d∧c.d.length≤dc)∧Bel w w':=by
 obtain⟨kind,a,b,s,l,lp,lc,d,dp,dc⟩:=c
 dsimp only at hd hlen
 change Calls prog 109 #[.agg #[.int .i64 kind,.int .i64 a,.int .i64 b,.string s,.slice lp l.length lc,.slice dp d.length dc]] w _
 have HD:=xh λW (hW:Bel w W)=>hd.bel hW;clear hd;have BX:Blk ((w.alloc (.cells #[.int .i64 kind,.int .i64 a,.int .i64 b,.string s,.slice lp l.length lc,.slice dp d.length dc] 68)).alloc (.cells #[(0:Int),(0:Int),(0:Int),.string ⟨#[]⟩,(),()] 264)) w.heap.size [.int .i64 kind,.int .i64 a,.int .i64 b,.string s,.slice lp l.length lc,.slice dp d.length dc] 68:=(Blk.new w _ _).alloc _;have BR:Blk ((w.alloc (.cells #[.int .i64 kind,.int .i64 a,.int .i64 b,.string s,.slice lp l.length lc,.slice dp d.length dc] 68)).alloc (.cells #[(0:Int),(0:Int),(0:Int),.string ⟨#[]⟩,(),()] 264)) (w.heap.size+1) [(0:Int),(0:Int),(0:Int),.string ⟨#[]⟩,(),()] 264:=Blk.aT _ _ _ (by simp);have k2:Bel w ((w.alloc (.cells #[.int .i64 kind,.int .i64 a,.int .i64 b,.string s,.slice lp l.length lc,.slice dp d.length dc] 68)).alloc (.cells #[(0:Int),(0:Int),(0:Int),.string ⟨#[]⟩,(),()] 264)):=(Bel.start w _).ac _;go_enter func109,ntmps109;go_upto_region 1 with fail
 generalize (w.alloc (.cells #[.int .i64 kind,.int .i64 a,.int .i64 b,.string s,.slice lp l.length lc,.slice dp d.length dc] 68)).alloc (.cells #[(0:Int),(0:Int),(0:Int),.string ⟨#[]⟩,(),()] 264)=w2 at *
 have hb2:=BX.lt;have hr2:=BR.lt;obtain⟨bx,hbx⟩:=e_x w.heap.size;have Me:=xh hbx;rw[hbx]at BX BR hb2 hr2⊢;have x0:=BX.c 0 rfl;have x1:=BX.c 1 rfl;have x2:=BX.c 2 rfl;have x3:=BX.c 3 rfl;have x4:=BX.c 4 rfl;have fG:=xh BX;have Au:=xh BR;have gq:=xh k2;clear BX BR k2 hbx;go_upto_region 2 with fail
 have B3:=Blk.new w2 [.int .i64 kind,.int .i64 a,.int .i64 b,.string s,.slice lp l.length lc,()] 264;have k3:Bel w2 (w2.alloc (.cells #[.int .i64 kind,.int .i64 a,.int .i64 b,.string s,.slice lp l.length lc,()] 264)):=Bel.start _ _;change Blk (w2.alloc (.cells #[.int .i64 kind,.int .i64 a,.int .i64 b,.string s,.slice lp l.length lc,()] 264)) w2.heap.size _ _ at B3
 generalize w2.alloc (.cells #[.int .i64 kind,.int .i64 a,.int .i64 b,.string s,.slice lp l.length lc,()] 264)=w3 at *
 obtain⟨b3,hb3⟩:=e_x w2.heap.size;rw[hb3]at B3⊢;have Z6:Hid (bx+1<b3):=xh (by omega);have jm:=xh (gq.o.tr k3);have HR3:=xh (Au.o.bel k3);have x5:=(fG.o.bel k3).c 5 rfl;have y5:=B3.c 5 rfl;have HB3:=xh B3;have ab6:=xh (HD.o w3 jm.o);clear B3 k3 hb3 x0 x1 x2 x3 x4 hb2 hr2;go_upto_region 3 with(at_builtin;refine Hr rfl (.tmp 16) (.tmp 18) rfl (.slice none 0 0) dp dc [] d rfl rfl (Buf.nil _) ab6.o (by simp;omega) ?_;intro v' w5 h1 h2 h3 h4;have k5:=h4 none rfl;obtain⟨pa,qa,hv',hcp,_⟩:=h1.slice;have Xc:=xh hcp;clear hcp;subst hv';have f5:=(HB3.o.bel k5).frozen 5;have y5':=(HB3.o.bel k5).c 5 rfl;have l5:=(HB3.o.bel k5).lt;have H5:=xh (And.intro h1 k5);clear h1 h2 h3 h4 k5)
 simp only[List.nil_append]at *
 have B6:Blk (w5.setCell (b3,5) (.slice pa d.length qa)) b3 [.int .i64 kind,.int .i64 a,.int .i64 b,.string s,.slice lp l.length lc,.slice pa d.length qa] 264:=(HB3.o.bel H5.o.2).setCell (o:=5) _;have k6:Bel w (w5.setCell (b3,5) (.slice pa d.length qa)):=dP (jm.o.tr H5.o.2) (by have:=Z6.o;have:=Me.o;omega);have R6:Blk (w5.setCell (b3,5) (.slice pa d.length qa)) (bx+1) [(0:Int),(0:Int),(0:Int),.string ⟨#[]⟩,(),()] 264:=(HR3.o.bel H5.o.2).keep (Keep.setCell w5 b3 5 _) (by have:=Z6.o;show ¬bx+1=b3;omega);have D6:kY (w5.setCell (b3,5) (.slice pa d.length qa)) pa d:=H5.o.1.byt.keep (Keep.setCell w5 b3 5 _) λq cs hq e=>by
  have e:q=b3:=e;subst e;exact(HB3.o.bel H5.o.2).ne hq (by decide) rfl
 generalize w5.setCell (b3,5) (.slice pa d.length qa)=w6 at *
 have z0:=B6.c 0 rfl;have z1:=B6.c 1 rfl;have z2:=B6.c 2 rfl;have z3:=B6.c 3 rfl;have z4:=B6.c 4 rfl;have z5:=B6.c 5 rfl;have GG:=xh R6;have pz:=xh (And.intro k6 D6);have HGR:Hid (w.heap.size≤bx+1):=xh (by have:=Me.o;omega);clear B6 k6 R6 D6 y5 y5' x5 f5 l5;go_wp2_with ((refine aG rfl 264 (.tmp 2) (.tmp 21) rfl rfl (bx+1) [.int .i64 kind,.int .i64 a,.int .i64 b,.string s,.slice lp l.length lc,.slice pa d.length qa] _ 264 GG.o rfl rfl (by kernel_rfl) rfl (by intro v hv;simp at hv;rcases hv with rfl|rfl|rfl|rfl|rfl|rfl<;>rfl) ?_;intro w7 B7 K7))
 have e0:=B7.out.c 0 rfl;have e1:=B7.out.c 1 rfl;have e2:=B7.out.c 2 rfl;have e3:=B7.out.c 3 rfl;have e4:=B7.out.c 4 rfl;have e5:=B7.out.c 5 rfl;refine bodyPost_ret (v:=.agg #[.int .i64 kind,.int .i64 a,.int .i64 b,.string s,.slice lp l.length lc,.slice pa d.length qa]) (by simp[results,results109,go_sem,e0,e1,e2,e3,e4,e5]) rfl ⟨pa,qa,rfl,⟨?_,Xc.o⟩,?_⟩
 ·exact pz.o.2.keep K7 λq cs hq e=>by
   have e:q=bx+1:=e;subst e;exact GG.o.ne hq (by decide) rfl
 ·exact Below.trans pz.o.1 (K7.below _ pz.o.1.size λq hq=>by have hq:q=bx+1:=hq;have:=HGR.o;omega)
end
end Go.Proofs.YtcnjjchlebmfiaaGreatDoor
