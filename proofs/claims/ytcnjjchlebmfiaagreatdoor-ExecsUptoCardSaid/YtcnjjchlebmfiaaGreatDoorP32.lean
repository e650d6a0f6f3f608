/-.-/
import Derived.Test.YtcnjjchlebmfiaaGreatDoorP29
import Derived.Test.YtcnjjchlebmfiaaGreatDoorP31
import Derived.Laws.AppendOwnNone
set_option linter.all false
set_option maxRecDepth 100000
set_option maxHeartbeats 16000000
namespace Go.Proofs.YtcnjjchlebmfiaaGreatDoor
section
open Go.Proofs.Tryz Go.RowKit Go.MapKept Go.Maps Go.Shelf
theorem aaB(l:List uz)(j:Nat):lF (l.take j)≤lF l:=by
 have h:=congrArg lF (List.take_append_drop j l);have e:∀a b:List uz,lF (a++b)=lF a+lF b:=λa b=>by simp[lF]
 rw[e]at h;omega
def ach(m kind:Int):Bool:=bits .and .i64 (m/2^kind.toNat) 1==0
def y7(m:Int)(o:uz):Prop:=o.kind≠1∧(o.kind=0→0≤o.c.kind→o.c.kind<62→ach m o.c.kind=false)
structure Law(I:Nat→World→Prop)(wb B:Nat)(P:uz→Prop):Prop where
 bel:∀{n:Nat} {w w':World},I n w→Bel w w'→I n w'
 up:∀{n m:Nat} {w:World},I n w→n≤m→I m w
 blk:∀{n:Nat} {w:World},I n w→∃tk rb ov wv,Blk w wb [tk,rb,ov,wv,false] 96
 step:∀(n:Nat) (w:World) (o:uz),I n w→(∀W,Below B w W→vT W o)→P o→n+(o.c.weight+o.d.length)+1≤200400→o.c.weight+o.d.length≤200000→B≤w.heap.size→Calls prog 35 #[wb,.agg o.cells.toArray] w λe w'=>e=.returned (.bool true)∧I (n+(o.c.weight+o.d.length)+1) w'∧Below B w w'
theorem NM(m:Int)(hm:m≠4194303)(l:fD)(F:List aF)(p:Option Addr)(cap:Nat)(ops:List uz)(sp:Option Addr)(sc:Nat)(w:World)(hr:∀(i:Nat) (f:aF),F[i]?=some f→∃g o,p=some ⟨g,o,none⟩∧w.rangeAt g (o+i*3) [.string f.path,.bool f.dir,.slice f.p f.byt.length f.cap])(hl:F.length≤1048576)
 (hs:∀f∈F,BS w f.p f.byt∧f.byt.length≤1048576∧f.path.size≤1048576∧f.byt.length≤f.cap∧(0<f.byt.length→∀b o,f.p=some ⟨b,o,none⟩→b<w.heap.size))(hmx:eX w)(hfix:iG w)(hev:ErrVar w)(hsc:FU w sp ops)(hk0:ops.length≤1048576)
 (HI:∀(B wb tk kb rb:Nat) (W:World),Blk W wb [tk,rb,(),(),false] 96→Blk W tk [kb] 83→gy W B kb l.a l.b l.c l.d.toNat l.e.toNat F→uN W rb l F→bD l F=0→F.length≤100→ErrVar W→B≤rb→B≤wb→B≤W.heap.size→(∃W0:World,W0.heap.size=B∧Bel W0 W∧eX W0∧iG W0)→∃I,Law I wb B (y7 m)∧I 0 W) :
 Calls prog 22 #[.agg #[.int .i64 l.a,.int .i64 l.b,.int .i64 l.c,.int .i64 l.d,.int .i64 l.e,(p,F.length,cap)],(sp,ops.length,sc),m,(0:Int)] w (Z.b (.bool true) w):=by
 have hr2:∀W,Bel w W→∀(i:Nat) (f:aF),F[i]?=some f→∃g o,p=some ⟨g,o,none⟩∧W.rangeAt g (o+i*3) [.string f.path,.bool f.dir,.slice f.p f.byt.length f.cap]:=λW hW i f hf=>by
  obtain⟨g,o,h1,h2⟩:=hr i f hf;exact⟨g,o,h1,λj u hj=>af hW (h2 j u hj)⟩
 have hsm:=λW (hW:Bel w W)=>N7 l.a l.b l.c l.d l.e F p cap ops sp sc W (hsc.bel hW) hk0 (hr2 W hW) hl (λf hf=>⟨(hs f hf).2.2.1,(hs f hf).2.1⟩);have HX:∀(w3:World) (xb:Nat),Blk w3 xb [.int .i64 l.a,.int .i64 l.b,.int .i64 l.c,.int .i64 l.d,.int .i64 l.e,(p,F.length,cap)] 26→w3.cell? (xb,0)=some (.int .i64 l.a)∧w3.cell? (xb,1)=some (.int .i64 l.b)∧w3.cell? (xb,2)=some (.int .i64 l.c)∧w3.cell? (xb,3)=some (.int .i64 l.d)∧w3.cell? (xb,4)=some (.int .i64 l.e)∧w3.cell? (xb,5)=some (.slice p F.length cap):=λ_ _ h=>⟨h.cell 0,h.cell 1,h.cell 2,h.cell 3,h.cell 4,h.cell 5⟩;have HXX:=xh HX;have HSC:=xh hsc;clear HX;have BX:=Blk.new w [.int .i64 l.a,.int .i64 l.b,.int .i64 l.c,.int .i64 l.d,.int .i64 l.e,(p,F.length,cap)] 26;have kx:Bel w (w.alloc (.cells #[.int .i64 l.a,.int .i64 l.b,.int .i64 l.c,.int .i64 l.d,.int .i64 l.e,(p,F.length,cap)] 26)):=Bel.start _ _;change Blk (w.alloc (.cells #[.int .i64 l.a,.int .i64 l.b,.int .i64 l.c,.int .i64 l.d,.int .i64 l.e,(p,F.length,cap)] 26)) w.heap.size _ _ at BX
 obtain⟨w2,hw2⟩:=e_x (w.alloc (.cells #[.int .i64 l.a,.int .i64 l.b,.int .i64 l.c,.int .i64 l.d,.int .i64 l.e,(p,F.length,cap)] 26));obtain⟨xb,hxb⟩:=e_x w.heap.size;rw[hw2]at kx;rw[hw2,hxb]at BX;have HW2:=xh (And.intro hw2 hxb);have HK:Hid (Bel w w2):=xh kx;have uy:=xh BX;clear BX kx hw2 hxb;cases hsf:yC F ops with
 | false=>
   rw[hsf]at hsm;have uB:=xh hsm;clear hr hr2 hl hs hmx hfix hev hsm hsf hsc HI;go_enter func22,ntmps22;go_upto_region 1 with fail
   rw[HW2.o.1,HW2.o.2];obtain⟨x0,x1,x2,x3,x4,x5⟩:=HXX.o _ _ uy.o;go_wp2_with (go_at_call 9;((with_reducible refine aH (uB.o _ HK.o) ?_);rintro e w4 ⟨rfl,hk⟩;have H4:=xh hk;clear hk))
   go_ret
   exact⟨rfl,HK.o.tr H4.o⟩
 | true=>
   rw[hsf]at hsm;have uB:=xh hsm;obtain⟨ho1,hl1,hz⟩:ops.length≤400∧F.length≤100∧pR F+lF ops≤200000:=of_decide_eq_true hsf;have hsz:∀f∈F,f.path.size+f.byt.length≤200000:=λf hf=>by
    have h1:f.path.size+f.byt.length≤pR F:=lD (List.mem_map.2 ⟨f,hf,rfl⟩);omega
   have hlb:=λW (hW:Bel w W)=>JW l F p cap W (hr2 W hW) hl1 (λf hf=>⟨(hs f hf).1.bel hW,by have:=hsz f hf;omega,by have:=hsz f hf;omega,(hs f hf).2.2.2.1,λh0 b o hb=>Nat.lt_of_lt_of_le ((hs f hf).2.2.2.2 h0 b o hb) hW.size⟩) (hmx.bel hW) (hfix.bel hW) (hev.bel hW);have HL1:=xh hl1;have HEV:=xh hev;by_cases h0:bD l F=0
   ·have HLB:=xh λW hW=>(hlb W hW).mono λe w' k=>And.intro k.1 (k.2.2 h0)
    have H0:=xh h0;have HZ:=xh hz;have HII:=xh HI;have HMF:=xh (And.intro hmx hfix);have hmb:(m != 4194303)=true:=bne_iff_ne.2 hm;clear hr hr2 hl hs hmx hfix hev hsm hsf hl1 hz hsz hlb h0 hsc HI;go_enter func22,ntmps22;go_upto_region 1 with fail
    rw[HW2.o.1,HW2.o.2];obtain⟨x0,x1,x2,x3,x4,x5⟩:=HXX.o _ _ uy.o;go_upto_region 2 with(go_at_call 9;((with_reducible refine aH (uB.o _ HK.o) ?_);rintro e w4 ⟨rfl,hk⟩;have H4:=xh (HK.o.tr hk);have HB4:=xh (uy.o.bel hk);clear hk))
    clear x0 x1 x2 x3 x4 x5;obtain⟨x0,x1,x2,x3,x4,x5⟩:=HXX.o _ _ HB4.o;go_upto_region 5 with(go_at_call 33;((with_reducible refine aH (HLB.o _ H4.o) ?_);rintro e w5 ⟨k5,wb,tk,kb,rb,rfl,hwb,htk,hpk,hdk,hrb⟩;have H5:=xh (And.intro k5 (And.intro hwb (And.intro htk (And.intro hpk (And.intro hdk hrb)))));clear k5 hwb htk hpk hdk hrb))
    clear x0 x1 x2 x3 x4 x5;obtain⟨I,hLW,hI⟩:=HII.o w4.heap.size wb tk kb rb w5 H5.o.2.1 H5.o.2.2.1 H5.o.2.2.2.1 H5.o.2.2.2.2.1 H0.o HL1.o ((HEV.o.bel H4.o).bel H5.o.1) H5.o.2.2.2.2.2.1 H5.o.2.2.2.2.2.2 H5.o.1.le ⟨w4,rfl,H5.o.1,HMF.o.1.bel H4.o,HMF.o.2.bel H4.o⟩;have HLW:=xh hLW;have HI5:=xh hI;have afj:=xh (HSC.o.bel H4.o);have pX:Hid (Bel w4 w5):=xh H5.o.1;clear hLW hI;go_upto_region 8 with fail
    go_loopw [12,13] (λok i wr=>∃j:Nat,j≤ops.length∧i=.int .i64 j∧ok=.bool true∧Hid (I (lF (ops.take j)+j) wr∧Bel w4 wr)) (λ_ i _=>ops.length-(intOf i).toNat)
    case atStart=>exact⟨0,Nat.zero_le _,rfl,rfl,xh ⟨by simpa [lF]using HI5.o,pX.o⟩⟩
    case round=>
     obtain⟨j,hj,rfl,rfl,HJ⟩:=hrel;obtain⟨tkr,rbr,ovr,wvr,hbr⟩:=HLW.o.blk HJ.out.1;have ov:=hbr.c 4 rfl;have abH:=hbr.lt;clear hbr;by_cases hlt:j<ops.length
     ·have hf:=bT hlt
      obtain⟨⟨kind,oa,oo,⟨ck,ca,cb,s,ls,lp,lc,dd,dp,dc⟩,od,oV,pF⟩,hoo⟩:∃o,ops[j]=o:=⟨_,rfl⟩;rw[hoo]at hf;obtain⟨g,o,rfl,jb,hok⟩:=(afj.o.bel HJ.out.2).at hf;have q0:wr.cell? (g,o+j*10)=some (.int .i64 kind):=jb 0 _ rfl;have q1:wr.cell? (g,o+j*10+1)=some (.int .i64 oa):=jb 1 _ rfl;have q2:wr.cell? (g,o+j*10+2)=some (.int .i64 oo):=jb 2 _ rfl;have q3:wr.cell? (g,o+j*10+3)=some (.int .i64 ck):=jb 3 _ rfl;have q4:wr.cell? (g,o+j*10+4)=some (.int .i64 ca):=jb 4 _ rfl;have q5:wr.cell? (g,o+j*10+5)=some (.int .i64 cb):=jb 5 _ rfl;have q6:wr.cell? (g,o+j*10+6)=some (.string s):=jb 6 _ rfl;have q7:wr.cell? (g,o+j*10+7)=some (.slice lp ls.length lc):=jb 7 _ rfl;have q8:wr.cell? (g,o+j*10+8)=some (.slice dp dd.length dc):=jb 8 _ rfl;have q9:wr.cell? (g,o+j*10+9)=some (.slice oV od.length pF):=jb 9 _ rfl;have jW:Hid (∀W,Bel w4 W→vT W ⟨kind,oa,oo,⟨ck,ca,cb,s,ls,lp,lc,dd,dp,dc⟩,od,oV,pF⟩):=xh λW hW=>(afj.o.bel hW).2 _ (List.mem_of_getElem? hf);have hst:=Fh hf;have hwo:lF (ops.take (j+1))≤lF ops:=aaB _ _;have HWW:Hid (lF (ops.take j)+j+(jA.weight ⟨ck,ca,cb,s,ls,lp,lc,dd,dp,dc⟩+od.length)+1≤200400∧jA.weight ⟨ck,ca,cb,s,ls,lp,lc,dd,dp,dc⟩+od.length≤200000):=xh (by have:=HZ.o;dsimp only at hst;omega);have afk:Hid (lF (ops.take (j+1))+(j+1)=lF (ops.take j)+j+(jA.weight ⟨ck,ca,cb,s,ls,lp,lc,dd,dp,dc⟩+od.length)+1):=xh (by dsimp only at hst;omega);have HMN:Hid (∀W,I (lF (ops.take j)+j) W→I (lF (ops.take (j+1))+(j+1)) W):=xh λW h=>HLW.o.up h (by rw[afk.o];omega);clear hst hwo;have k6:Bel wr (wr.alloc (.cells #[.int .i64 kind,.int .i64 oa,.int .i64 oo,.int .i64 ck,.int .i64 ca,.int .i64 cb,.string s,.slice lp ls.length lc,.slice dp dd.length dc,.slice oV od.length pF] 79)):=Bel.start _ _;have BO:Blk (wr.alloc (.cells #[.int .i64 kind,.int .i64 oa,.int .i64 oo,.int .i64 ck,.int .i64 ca,.int .i64 cb,.string s,.slice lp ls.length lc,.slice dp dd.length dc,.slice oV od.length pF] 79)) wr.heap.size [.int .i64 kind,.int .i64 oa,.int .i64 oo,.int .i64 ck,.int .i64 ca,.int .i64 cb,.string s,.slice lp ls.length lc,.slice dp dd.length dc,.slice oV od.length pF] 79:=Blk.new wr _ _;clear jb hok hf hoo;go_upto_region 11 with fail
      generalize wr.alloc (.cells #[.int .i64 kind,.int .i64 oa,.int .i64 oo,.int .i64 ck,.int .i64 ca,.int .i64 cb,.string s,.slice lp ls.length lc,.slice dp dd.length dc,.slice oV od.length pF] 79)=w6 at *
      obtain⟨ob,hob⟩:=e_x wr.heap.size;rw[hob]at BO abH⊢;have K6:=xh k6;have o0:=BO.c 0 rfl;have o1:=BO.c 1 rfl;have o2:=BO.c 2 rfl;have o3:=BO.c 3 rfl;have o4:=BO.c 4 rfl;have o5:=BO.c 5 rfl;have o6:=BO.c 6 rfl;have o7:=BO.c 7 rfl;have o8:=BO.c 8 rfl;have o9:=BO.c 9 rfl;have ov6:w6.cell? (wb,4)=some (.bool false):=af k6 ov;have Ij:=xh λ(hP:y7 m ⟨kind,oa,oo,⟨ck,ca,cb,s,ls,lp,lc,dd,dp,dc⟩,od,oV,pF⟩)=>HLW.o.step _ w6 ⟨kind,oa,oo,⟨ck,ca,cb,s,ls,lp,lc,dd,dp,dc⟩,od,oV,pF⟩ (HLW.o.bel HJ.out.1 k6) (λW hW=>jW.o W (Below.trans (HJ.out.2.tr k6) hW)) hP HWW.o.1 HWW.o.2 (bU HJ.out.2.le k6.le);change Hid (_→Calls prog 35 #[wb,.agg #[.int .i64 kind,.int .i64 oa,.int .i64 oo,.int .i64 ck,.int .i64 ca,.int .i64 cb,.string s,.slice lp ls.length lc,.slice dp dd.length dc,.slice oV od.length pF]] w6 _)at Ij
      clear q0 q1 q2 q3 q4 q5 q6 q7 q8 q9 k6 BO hob ov;refine(Classical.em (kind=0)).elim (λhk0=>?X9) (λhk0=>?Ya)
      case' X9=>
       have hkb:(kind==0)=true:=by simpa using hk0
       have acR:(kind==1)=false:=dK (by omega);refine(Classical.em (0≤ck)).elim (λhc0=>?afl) (λhc0=>?afm)
       case' afl=>
        have ahR:decide (0≤ck)=true:=by simpa using hc0
        refine(Classical.em (ck<62)).elim (λhc1=>?afn) (λhc1=>?afo)
        case' afn=>
         have ahS:decide (ck<62)=true:=by simpa using hc1
         have aiX:ck≤64:=by omega
         refine(Bool.eq_false_or_eq_true (ach m ck)).elim (λhof=>?afp) (λhof=>?afq)
         case' afp=>
              have ahT:(bits .and .i64 (m/2^ck.toNat) 1==0)=true:=hof;clear hof hk0 hc1;go_wp2_with fail
              go_roundw
              case rel=>exact⟨j+1,by omega,by go_num,rfl,xh (And.intro (HMN.o _ (HLW.o.bel HJ.out.1 K6.o)) (HJ.out.2.tr K6.o))⟩
              case measure=>simp[intOf]<;>omega
         case' afq=>
              have ahT:(bits .and .i64 (m/2^ck.toNat) 1==0)=false:=hof;have XM:Hid (y7 m ⟨kind,oa,oo,⟨ck,ca,cb,s,ls,lp,lc,dd,dp,dc⟩,od,oV,pF⟩):=xh ⟨by show kind≠1;omega,λ_ _ _=>hof⟩;clear hof hk0 hc1
        case' afo=>
         have ahS:decide (ck<62)=false:=by simpa using hc1
         have XM:Hid (y7 m ⟨kind,oa,oo,⟨ck,ca,cb,s,ls,lp,lc,dd,dp,dc⟩,od,oV,pF⟩):=xh ⟨by show kind≠1;omega,λ_ _ h=>absurd h hc1⟩;clear hk0 hc0 hc1
       case' afm=>
        have ahR:decide (0≤ck)=false:=by simpa using hc0
        have XM:Hid (y7 m ⟨kind,oa,oo,⟨ck,ca,cb,s,ls,lp,lc,dd,dp,dc⟩,od,oV,pF⟩):=xh ⟨by show kind≠1;omega,λ_ h=>absurd h hc0⟩;clear hk0 hc0
      case' Ya=>
       have hkb:(kind==0)=false:=dK hk0;refine(Classical.em (kind=1)).elim (λhk1=>?afr) (λhk1=>?afs)
       case' afr=>
        have acR:(kind==1)=true:=by simpa using hk1
        clear hk0 hk1;go_wp2_with fail
        go_roundw
        case rel=>exact⟨j+1,by omega,by go_num,rfl,xh (And.intro (HMN.o _ (HLW.o.bel HJ.out.1 K6.o)) (HJ.out.2.tr K6.o))⟩
        case measure=>simp[intOf]<;>omega
       case' afs=>
        have acR:(kind==1)=false:=dK hk1;have XM:Hid (y7 m ⟨kind,oa,oo,⟨ck,ca,cb,s,ls,lp,lc,dd,dp,dc⟩,od,oV,pF⟩):=xh ⟨hk1,λh=>absurd h hk0⟩;clear hk0 hk1
      all_goals
       go_upto_region 9 with(go_at_call 35;((with_reducible refine aH (Ij.o XM.o) ?_);rintro e9 w9 ⟨rfl,i9,k9⟩;have H9:=xh (And.intro i9 k9);clear i9 k9))
       clear o0 o1 o2 o3 o4 o5 o6 o7 o8 o9 ov6;have ov9:=(HLW.o.blk H9.o.1);obtain⟨tk9,rb9,o9,w9v,hb9⟩:=ov9;have ov9:=hb9.c 4 rfl;clear hb9;go_wp2_with fail
       go_roundw
       case rel=>exact⟨j+1,by omega,by go_num,rfl,xh (And.intro (by rw[afk.o];exact H9.o.1) ((HJ.out.2.tr K6.o).trans H9.o.2))⟩
       case measure=>simp[intOf]<;>omega
     ·obtain rfl:j=ops.length:=by omega
      go_wp2_with fail
      go_ret
      exact⟨rfl,H4.o.tr HJ.out.2⟩
   ·have HLB:=xh λW hW=>(hlb W hW).mono λe w' k=>And.intro k.1 (k.2.1 h0)
    obtain⟨ec,qK⟩:=e_x (bD l F);rw[qK]at HLB h0;have hne:((ec:Int) != 0)=true:=bne_iff_ne.2 (by omega);clear hr hr2 hl hs hmx hfix hev hsm hsf hl1 hz hsz hlb h0 hsc qK HI;go_enter func22,ntmps22;go_upto_region 1 with fail
    rw[HW2.o.1,HW2.o.2];obtain⟨x0,x1,x2,x3,x4,x5⟩:=HXX.o _ _ uy.o;go_upto_region 2 with(go_at_call 9;((with_reducible refine aH (uB.o _ HK.o) ?_);rintro e w4 ⟨rfl,hk⟩;have H4:=xh (HK.o.tr hk);have HB4:=xh (uy.o.bel hk);clear hk))
    clear x0 x1 x2 x3 x4 x5;obtain⟨x0,x1,x2,x3,x4,x5⟩:=HXX.o _ _ HB4.o;go_upto_region 5 with(go_at_call 33;((with_reducible refine aH (HLB.o _ H4.o) ?_);rintro e w5 ⟨k5,wb,rfl⟩;have H5:=xh k5;clear k5))
    go_wp2_with fail
    go_ret
    exact⟨rfl,H4.o.tr H5.o⟩
def O9(t:TypeId):Prop:=t=79∨t=68∨t=62∨t=264∨t=9
def FrS(B:Nat)(w:World)(q:Nat):Prop:=B≤q∧∀cs t,Blk w q cs t→¬O9 t
abbrev Fr(B:Nat)(w w':World):Prop:=Keep (FrS B w) w w'
theorem Fr.below{B:Nat}{w w':World}(h:Fr B w w')(hB:B≤w.heap.size):Below B w w':=Keep.below h B hB λ_ hq=>hq.1
theorem Fr.bel{B:Nat}{w w':World}(h:Bel w w'):Fr B w w':=Keep.of_bel _ h
theorem Fr.tr{B:Nat}{w w' w'':World}(h:Fr B w w')(k:Fr B w' w''):Fr B w w'':=
 ⟨k.os.trans h.os,k.tape.trans h.tape,k.output.trans h.output,bU h.size k.size,λq hq hn=>(k.block q (Nat.lt_of_lt_of_le hq h.size) λhv=>hn ⟨hv.1,λcs t hb ht=>hv.2 cs t ((h.block q hq hn).trans hb) ht⟩).trans (h.block q hq hn)⟩
theorem Blk.fr{B:Nat}{w w':World}{q:Nat}{cs:List Value}{t:TypeId}(h:Blk w q cs t)(k:Fr B w w')(ht:O9 t):Blk w' q cs t:=h.keep k λhs=>hs.2 cs t h ht
theorem Fr.Gl{S:Nat→Prop}{B:Nat}{w w':World}(k:Keep S w w')(h:∀q,S q→B≤q∧∃cs t,Blk w q cs t∧¬O9 t):Fr B w w':=k.mono λq hq=>by
 obtain⟨h1,cs,t,hb,ht⟩:=h q hq;refine⟨h1,λcs' t' hb'=>?_⟩;unfold Blk at hb hb';rw[hb]at hb'
 injection hb' with hb'
 injection hb' with _ e
 exact e▸ht
theorem Xl{w:World}{p:Option Addr}{L:List Int}(h:zQ w p L):BS w p L:=⟨h.1,λh0=>by
 obtain⟨g,o,e,cs,hb,hc⟩:=h.2 h0;exact⟨g,o,e,hb.lt,⟨λi hi=>by rw[hb.cell,bT hi];exact hc i _ (bT hi),h.1⟩⟩⟩
structure Zq(I:World→Prop)(wb tk rb:Nat):Prop where
 bel:∀{w w':World},I w→Bel w w'→I w'
 blk:∀{w:World},I w→∃p q c d,∃L:List Int,Blk w wb [tk,rb,.slice p L.length c,.slice q L.length d,false] 96∧BS w p L∧BS w q L∧L.length≤1000000
 procs:∀{w:World},I w→Calls prog 69 #[wb] w (Z.b (.bool true) w)
 files:∀{w:World},I w→Calls prog 70 #[wb] w (Z.b (.bool true) w)
structure ael(I J:World→Prop)(wb tk rb B:Nat)(o:uz):Prop where
 wbB:B≤wb
 qI:Zq I wb tk rb
 qJ:Zq J wb tk rb
 up:∀{w:World},I w→J w
 doo:∀{w:World},I w→(∀W,Below B w W→vT W o)→o.kind=0→B≤w.heap.size→Calls prog 64 #[wb,.agg o.cells.toArray] w λe w'=>e=.returned (.bool true)∧J w'∧Fr B w w'
 tick:∀{w:World},I w→B≤w.heap.size→∃X:World→Prop,(∀W,X W→W.cell? (wb,1)=some (.pointer (rb,0)))∧
  (Calls prog 24 #[tk] w λe w'=>e=.returned (.tuple #[])∧X w'∧Fr B w w')∧∀W,X W→Calls prog 66 #[rb] W λe w'=>e=.returned (.tuple #[])∧I w'∧Fr B W w'
 typ:∀{w0 w:World} {g:Nat},I w0→Bel w0 w→B≤w0.heap.size→w0.heap.size≤g→Blk w g ((o.d++[71,72]).map (Value.int .u8)) 5→(∀x∈o.d,iR x)→∃Y:World→Prop,
  (Calls prog 25 #[tk,.slice (g,0) o.d.length (o.d.length+2)] w λe w'=>e=.returned (.tuple #[])∧Y w'∧Fr B w w'∧Blk w' g ((o.d++[71,72]).map (Value.int .u8)) 5)∧
  (∀W W',Y W→Keep (λq=>q=g) W W'→Y W')∧∀W,Y W→(∃cs,Blk W wb cs 96∧cs[1]?=some (.pointer (rb,0)))∧∃v,∃Lt:List Int,W.cell? (rb,9)=some v∧(∃ks,Blk W rb ks 174)∧Buf W v Lt∧Lt.length+o.d.length≤100000000∧
   ∀v' W',Buf W' v' (Lt++o.d)→qf W W' v (endOf v)→(∀g',aU v'=some g'→aU v=some g'∨W.heap.size≤g')→J (W'.setCell (rb,9) v')∧Fr B W (W'.setCell (rb,9) v')
 cons:∀{w:World},I w→B≤w.heap.size→∃C:Value→World→Prop,(Calls prog 67 #[tk] w λe w'=>∃v,e=.returned v∧C v w'∧Fr B w w')∧
  ∀v W,C v W→W.cell? (wb,1)=some (.pointer (rb,0))∧W.frozen? (rb,10)=false∧∃p q c d,∃L:List Int,v=.slice p L.length c∧W.cell? (rb,10)=some (.slice q L.length d)∧BS W p L∧BS W q L∧L.length≤1000000∧∀n,J ((W.drewN n).setCell (rb,10) (.slice none 0 0))∧Fr B W ((W.drewN n).setCell (rb,10) (.slice none 0 0))
theorem SY(I J:World→Prop)(wb tk rb B:Nat)(o:uz)(H:ael I J wb tk rb B o)(w:World)(hI:I w)(hok:∀W,Below B w W→vT W o)(hk1:o.kind≠1)(hsz:o.d.length≤200000)(hB:B≤w.heap.size) :
 Calls prog 35 #[wb,.agg o.cells.toArray] w λe w'=>e=.returned (.bool true)∧J w'∧Below B w w':=by
 obtain⟨kind,oa,oo,⟨ck,ca,cb,s,ls,lp,lc,dd,dp,dc⟩,od,oV,pF⟩:=o;change Calls prog 35 #[wb,.agg #[.int .i64 kind,.int .i64 oa,.int .i64 oo,.int .i64 ck,.int .i64 ca,.int .i64 cb,.string s,.slice lp ls.length lc,.slice dp dd.length dc,.slice oV od.length pF]] w _
 dsimp only at hk1 hsz
 have HH:=xh H;have HI:=xh hI;have jW:=xh hok;have HB:=xh hB;obtain⟨p0,q0,c0,d0,L0,hb0,_,_,_⟩:=H.qI.blk hI;have abH:=hb0.lt;have k1:Bel w (w.alloc (.cells #[.int .i64 kind,.int .i64 oa,.int .i64 oo,.int .i64 ck,.int .i64 ca,.int .i64 cb,.string s,.slice lp ls.length lc,.slice dp dd.length dc,.slice oV od.length pF] 79)):=Bel.start _ _;have BX:Blk (w.alloc (.cells #[.int .i64 kind,.int .i64 oa,.int .i64 oo,.int .i64 ck,.int .i64 ca,.int .i64 cb,.string s,.slice lp ls.length lc,.slice dp dd.length dc,.slice oV od.length pF] 79)) w.heap.size [.int .i64 kind,.int .i64 oa,.int .i64 oo,.int .i64 ck,.int .i64 ca,.int .i64 cb,.string s,.slice lp ls.length lc,.slice dp dd.length dc,.slice oV od.length pF] 79:=Blk.new w _ _;have v0:(w.alloc (.cells #[.int .i64 kind,.int .i64 oa,.int .i64 oo,.int .i64 ck,.int .i64 ca,.int .i64 cb,.string s,.slice lp ls.length lc,.slice dp dd.length dc,.slice oV od.length pF] 79)).cell? (wb,0)=some (.pointer (tk,0)):=(hb0.bel k1).cell 0;have v1:(w.alloc (.cells #[.int .i64 kind,.int .i64 oa,.int .i64 oo,.int .i64 ck,.int .i64 ca,.int .i64 cb,.string s,.slice lp ls.length lc,.slice dp dd.length dc,.slice oV od.length pF] 79)).cell? (wb,1)=some (.pointer (rb,0)):=(hb0.bel k1).cell 1;clear H hI hok hB hb0;go_enter func35,ntmps35;go_upto_region 1 with fail
 generalize w.alloc (.cells #[.int .i64 kind,.int .i64 oa,.int .i64 oo,.int .i64 ck,.int .i64 ca,.int .i64 cb,.string s,.slice lp ls.length lc,.slice dp dd.length dc,.slice oV od.length pF] 79)=w1 at *
 obtain⟨bx,hbx⟩:=e_x w.heap.size;have agz:bx<w1.heap.size:=by rw[←hbx];exact BX.lt
 rw[hbx]at BX⊢;have uy:=xh BX;have HCX:Hid (∀W,Blk W bx [.int .i64 kind,.int .i64 oa,.int .i64 oo,.int .i64 ck,.int .i64 ca,.int .i64 cb,.string s,.slice lp ls.length lc,.slice dp dd.length dc,.slice oV od.length pF] 79→W.cell? (bx,0)=some (.int .i64 kind)∧W.cell? (bx,1)=some (.int .i64 oa)∧W.cell? (bx,2)=some (.int .i64 oo)∧W.cell? (bx,3)=some (.int .i64 ck)∧W.cell? (bx,4)=some (.int .i64 ca)∧W.cell? (bx,5)=some (.int .i64 cb)∧W.cell? (bx,6)=some (.string s)∧W.cell? (bx,7)=some (.slice lp ls.length lc)∧W.cell? (bx,8)=some (.slice dp dd.length dc)∧W.cell? (bx,9)=some (.slice oV od.length pF)):=xh λW h=>⟨h.cell 0,h.cell 1,h.cell 2,h.cell 3,h.cell 4,h.cell 5,h.cell 6,h.cell 7,h.cell 8,h.cell 9⟩;have bP:=xh k1;have HI1:=xh (HH.o.qI.bel HI.o k1);have hB1:B≤w1.heap.size:=bU HB.o k1.le;have HB1:=xh hB1;have acR:(kind==1)=false:=dK hk1;obtain⟨x0,x1,x2,x3,x4,x5,x6,x7,x8,x9⟩:=HCX.o _ BX;clear BX k1 hk1 hB1;refine(Classical.em (kind=0)).elim (λhk0=>?X9) (λhk0=>?Ya)
 case' X9=>
  have aeH:(kind==0)=true:=by simpa using hk0
  have HDO:Hid (Calls prog 64 #[wb,.agg #[.int .i64 kind,.int .i64 oa,.int .i64 oo,.int .i64 ck,.int .i64 ca,.int .i64 cb,.string s,.slice lp ls.length lc,.slice dp dd.length dc,.slice oV od.length pF]] w1 λe w'=>e=.returned (.bool true)∧J w'∧Fr B w1 w'):=xh (HH.o.doo HI1.o (λW hW=>jW.o W ((bP.o.mono HB.o).trans hW)) hk0 HB1.o);clear hk0;go_upto_region 25 with(go_at_call 64;((with_reducible refine aH HDO.o ?_);rintro e2 w2 ⟨rfl,i2,k2⟩;have HS:=xh (And.intro i2 k2);clear i2 k2))
  clear x0 x1 x2 x3 x4 x5 x6 x7 x8 x9 v0 v1;obtain⟨wT,h⟩:∃W,W=w2:=⟨_,rfl⟩;subst h
 case' Ya=>
  have aeH:(kind==0)=false:=dK hk0;refine(Classical.em (kind=2)).elim (λhk2=>?afV) (λhk2=>?afW)
  case' afV=>
   have hkb2:(kind==2)=true:=by simpa using hk2
   clear hk0 hk2;clear x1 x3 x4 x5 x6 x7 x8 x9;go_upto_region 12 with fail
   clear x0 x2 v0 v1
   go_loopw [7] (λi wr=>∃j:Nat,i=.int .i64 j∧j≤200∧Hid (I wr∧Fr B w1 wr)) (λi _=>200-(intOf i).toNat)
   case atStart=>exact⟨0,rfl,by omega,xh ⟨HI1.o,Keep.refl _ _⟩⟩
   case' round=>
    obtain⟨j,rfl,hj,HJ⟩:=hrel;obtain⟨x0,x1,x2,x3,x4,x5,x6,x7,x8,x9⟩:=HCX.o _ (uy.o.fr HJ.out.2 (by unfold O9;decide));have HS:Hid (J wr∧Fr B w1 wr):=xh ⟨HH.o.up HJ.out.1,HJ.out.2⟩;refine(Classical.em ((j:Int)<oo)).elim (λhlt=>?afX) (λhlt=>?afY)
    case' afX=>
     have hlb:decide ((j:Int)<oo)=true:=by simpa using hlt
     refine(Classical.em (j<200)).elim (λafZ=>?adh) (λafZ=>?adi)
     case' adh=>
      have hl2:decide ((j:Int)<200)=true:=by simp;omega
      have hBr:B≤wr.heap.size:=bU HB1.o HJ.out.2.size;obtain⟨X,hX1,hX2,hX3⟩:=HH.o.tick HJ.out.1 hBr;obtain⟨pr,qr,cr,dr,Lr,hbr,_,_,_⟩:=HH.o.qI.blk HJ.out.1;have v0:=hbr.c 0 rfl;have HX1:=xh hX1;have HX2:=xh hX2;have HX3:=xh hX3;clear hX1 hX2 hX3 hbr hlt HS;clear x0 x1 x3 x4 x5 x6 x7 x8 x9;go_upto_region 15 with(go_at_call 24;((with_reducible refine aH HX2.o ?_);rintro e2 w2 ⟨rfl,i2,k2⟩;have H2:=xh (And.intro i2 k2);have v1:=HX1.o _ i2;clear i2 k2))
      clear x2 v0;go_wp2_with (go_at_call 66;((with_reducible refine aH (HX3.o _ H2.o.1) ?_);rintro e3 w3 ⟨rfl,i3,k3⟩;have H3:=xh (And.intro i3 k3);clear i3 k3))
      go_roundw
      case rel=>exact⟨j+1,by go_num,by omega,xh ⟨H3.o.1,(HJ.out.2.tr H2.o.2).tr H3.o.2⟩⟩
      case measure=>simp[intOf]<;>omega
     case' adi=>
      obtain rfl:j=200:=by omega
      have akm:decide ((200:Int)<oo)=true:=by simpa using hlb
      clear hlt afZ;go_upto_region 25 with fail
      clear x0 x1 x2 x3 x4 x5 x6 x7 x8 x9;obtain⟨wT,h⟩:∃W,W=wr:=⟨_,rfl⟩;subst h
    case' afY=>
     have hlb:decide ((j:Int)<oo)=false:=by simpa using hlt
     clear hlt;go_upto_region 25 with fail
     clear x0 x1 x2 x3 x4 x5 x6 x7 x8 x9;obtain⟨wT,h⟩:∃W,W=wr:=⟨_,rfl⟩;subst h
  case' afW=>
   have hkb2:(kind==2)=false:=dK hk2;refine(Classical.em (kind=3)).elim (λhk3=>?af0) (λhk3=>?af1)
   case' af0=>
    have aiG:(kind==3)=true:=by simpa using hk3
    clear hk0 hk2 hk3;have hod:=(jW.o w1 (bP.o.mono HB.o)).d;have HRO:=xh (xO oV pF od w1 hod hsz);have aiH:=hod.1;clear hod;clear x1 x2 x3 x4 x5 x6 x7 x8;go_upto_region 18 with(go_at_call 58;((with_reducible refine aH HRO.o ?_);rintro e2 w2 ⟨g,rfl,hg,hBg,k2⟩;have H2:=xh k2;have HG:=xh (And.intro hg hBg);clear hg hBg k2))
    obtain⟨Y,hY1,hY2,hY3⟩:=HH.o.typ HI1.o H2.o HB1.o HG.o.1 HG.o.2 aiH;have HY1:=xh hY1;have HY2:=xh hY2;have HY3:=xh hY3;have v0':=af H2.o v0;have hB2:B≤w2.heap.size:=bU HB1.o H2.o.le;clear hY1 hY2 hY3 x0 x9 v0 v1;have v0:=v0';clear v0';go_upto_region 19 with(go_at_call 25;((with_reducible refine aH HY1.o ?_);rintro e3 w3 ⟨rfl,y3,k3,b3⟩;have H3:=xh (And.intro y3 (And.intro k3 b3));clear y3 k3 b3))
    clear v0;have adk:Below B w w3:=(bP.o.mono HB.o).trans ((H2.o.mono HB1.o).trans (H3.o.2.1.below hB2));have HST:=xh (xQ g oV pF od w3 H3.o.2.2 (jW.o w3 adk).d hsz);have HX3:Hid (Blk w3 bx [.int .i64 kind,.int .i64 oa,.int .i64 oo,.int .i64 ck,.int .i64 ca,.int .i64 cb,.string s,.slice lp ls.length lc,.slice dp dd.length dc,.slice oV od.length pF] 79):=xh ((uy.o.bel H2.o).fr H3.o.2.1 (by unfold O9;decide));have TF:=xh adk;have x9:=HX3.o.c 9 rfl;clear adk;go_upto_region 20 with(go_at_call 59;((with_reducible refine aH HST.o ?_);rintro e4 w4 ⟨rfl,k4⟩;have H4:=xh k4;clear k4))
    clear x9;have hgb:Blk w3 g ((od++[71,72]).map (Value.int .u8)) 5:=H3.o.2.2;have hxg:bx≠g:=HX3.o.ne hgb (by decide);have hX4:Blk w4 bx [.int .i64 kind,.int .i64 oa,.int .i64 oo,.int .i64 ck,.int .i64 ca,.int .i64 cb,.string s,.slice lp ls.length lc,.slice dp dd.length dc,.slice oV od.length pF] 79:=HX3.o.keep H4.o λe=>hxg e;have x9:=hX4.c 9 rfl;obtain⟨⟨wcs,hwb,hw1⟩,v,Lt,r9,⟨ks,hrb⟩,hbuf,hll,hfin⟩:=HY3.o w4 (HY2.o w3 w4 H3.o.1 H4.o);have hg0:w1.heap.size≤g:=HG.o.1;have hB4:B≤w4.heap.size:=bU (bU hB2 H3.o.2.1.size) H4.o.size;have af2:BS w4 oV od:=(jW.o w4 (TF.o.trans (H4.o.below B (by have:=H3.o.2.1.size;omega) λq hq=>by have:q=g:=hq;have:=HB1.o;omega))).d;obtain⟨tp,tc,rfl,_,_⟩:=hbuf.slice;have kd:=Bel.drew (Bel.refl w4);have YM:=xh (hbuf.bel kd);have HOD:=xh (af2.bel kd);have HWB:=xh (hwb.bel kd);have HRB:=xh (hrb.bel kd);have HXB:=xh (hX4.bel kd);have HLL:=xh hll;have zD:=xh hfin;have HW1:=xh hw1;have v1:w4.cell? (wb,1)=some (.pointer (rb,0)):=by rw[hwb.cell];exact hw1
    have hrl:=hrb.lt;have hxr:bx≠rb:=hX4.ne hrb (by decide);have hwr:wb≠rb:=hwb.ne hrb (by decide);have hrx:rb≠bx:=λe=>hxr e.symm;have hrw:rb≠wb:=λe=>hwr e.symm;have Zt:Hid (Blk w3 g ((od++[71,72]).map (Value.int .u8)) 5∧B≤g):=xh ⟨hgb,bU HB1.o hg0⟩;clear hfin hX4 hgb hg0 hbuf af2 hwb hrb hll hw1 kd;refine wp_region_noPanic ?_;refine wp_region_held_drew (S:=λw'=>w'.cell? ⟨wb,1,none⟩=some (.pointer (rb,0))∧w'.cell? ⟨bx,9,none⟩=some (.slice oV od.length pF)) (by kernel_rfl) (by(first|(go_keep;done)|exact⟨z1,z2⟩)) (λhHeld=>?_);refine plan [0,1,2,3,4,5,6,7,8,9,11,12] ?_;repeat refine t0 rfl (by kernel_rfl) (by intro w hw;(try dsimp only at hw);go_simp;with_reducible rfl) (by assumption) (by(try simp only[Act.put,lits]);exact rfl) ?_
    refine iI ?_;refine rd 10 rfl (by kernel_rfl) (λK hK=>?_);go_simp;refine hK.out _ _ (by(first|(go_keep;done)|exact⟨z1,z2⟩)) (λhH=>?_);clear hK K;(try simp only[Act.put,lits])
    refine rd 13 rfl (by kernel_rfl) (λK hK=>?_);refine FY rfl (.tmp 93) (.tmp 95) rfl (.slice tp Lt.length tc) oV pF Lt od rfl rfl YM.o HOD.o HLL.o ?_;intro v' wa h1 h2 h3 h4;obtain⟨pa,la,xW,rfl⟩:∃pa la xW,v'=.slice pa la xW:=(let ⟨pa,xW,e,_⟩:=h1.slice;⟨pa,_,xW,e⟩);have z1:wa.cell? (wb,1)=some (.pointer (rb,0)):=(by rw[(HWB.o.keep h2.keep λe=>(YM.o.ne HWB.o (by decide)) _ e rfl).cell];exact HW1.o);have z2:wa.cell? (bx,9)=some (.slice oV od.length pF):=(HXB.o.keep h2.keep λe=>(YM.o.ne HXB.o (by decide)) _ e rfl).cell 9;have hra:=HRB.o.keep h2.keep λe=>(YM.o.ne HRB.o (by decide)) _ e rfl;have fa:=hra.frozen;have la2:=hra.lt;obtain⟨u9,c9⟩:∃u,wa.cell? (rb,9)=some u:=⟨_,(h2.keep.cell ⟨rb,9,none⟩ (by simpa using hrl) λe=>(YM.o.ne HRB.o (by decide)) _ e rfl).trans (af (Bel.drew (Bel.refl _)) r9)⟩;have HA:=xh (And.intro h1 (And.intro h2 h3));clear h1 h2 h3 h4 hra;refine hK.out _ _ (by(first|(go_keep;done)|exact⟨z1,z2⟩)) (λhH=>?_);clear hK K;(try simp only[Act.put,lits])
    refine plan [14,15] ?_;repeat refine t0 rfl (by kernel_rfl) (by intro w hw;(try dsimp only at hw);go_simp;with_reducible rfl) (by assumption) (by(try simp only[Act.put,lits]);exact rfl) ?_
    refine iI ?_;refine rd 16 rfl (by kernel_rfl) (λK hK=>?_);go_simp;refine hK.out _ _ (by(first|(go_keep;done)|exact⟨z1,z2⟩)) (λhH=>?_);clear hK K;(try simp only[Act.put,lits])
    refine wpAnyH_done (by kernel_rfl) ?_ _;refine NoPanic.normal ?_;go_upto_region 25 with fail
    have HS:Hid (J (wa.setCell (rb,9) (.slice pa la xW))∧Fr B w1 (wa.setCell (rb,9) (.slice pa la xW))):=xh (by
     have h:=zD.o _ wa HA.o.1 (qf.adD (Bel.drew (Bel.refl w4)) HA.o.2.1) HA.o.2.2;exact⟨h.1,(((Fr.bel H2.o).tr H3.o.2.1).tr (Fr.Gl H4.o λq hq=>(by
      have e:q=g:=hq;subst e;exact⟨Zt.o.2,_,_,Zt.o.1,by unfold O9;decide⟩))).tr h.2⟩)
    generalize wa.setCell (rb,9) (.slice pa la xW)=w5 at *
    clear z1 z2 c9 fa la2 v1 x9 r9 HA;obtain⟨wT,h⟩:∃W,W=w5:=⟨_,rfl⟩;subst h
   case' af1=>
    have aiG:(kind==3)=false:=dK hk3;refine(Classical.em (kind=4)).elim (λhk4=>?af4) (λhk4=>?af5)
    case' af4=>
     have aiI:(kind==4)=true:=by simpa using hk4
     clear hk0 hk2 hk3 hk4;clear x1 x2 x3 x4 x5 x6 x7 x8 x9;obtain⟨C,hC1,hC2⟩:=HH.o.cons HI1.o HB1.o;have Yh:=xh hC1;have HC2:=xh hC2;clear hC1 hC2;go_upto_region 23 with(go_at_call 67;((with_reducible refine aH Yh.o ?_);rintro e2 w2 ⟨v,rfl,c2,k2⟩;have H2:=xh (And.intro c2 k2);clear c2 k2))
     clear x0 v0 v1;obtain⟨v1,rf,pp,qq,cc,dd2,L,rfl,r10,hp,hq,hll,hfin⟩:=HC2.o _ _ H2.o.1;have uB:=xh (nM pp qq cc dd2 L w2 hp hq hll);have zD:=xh hfin;clear hp hq hfin;go_upto_region 24 with(go_at_call 68;((with_reducible refine aH uB.o ?_);rintro e3 w3 ⟨rfl,nd,rfl⟩))
     change Code.wp _ _ _ _ (w2.drewN nd)
     have v1':(w2.drewN nd).cell? (wb,1)=some (.pointer (rb,0)):=v1;have aiJ:(w2.drewN nd).cell? (rb,10)=some (.slice qq L.length dd2):=r10;have rf':(w2.drewN nd).frozen? (rb,10)=false:=rf;clear v1 r10 rf;go_upto_region 25 with fail
     have HS:Hid (J ((w2.drewN nd).setCell (rb,10) (.slice none 0 0))∧Fr B w1 ((w2.drewN nd).setCell (rb,10) (.slice none 0 0))):=xh ⟨(zD.o nd).1,H2.o.2.tr (zD.o nd).2⟩;generalize (w2.drewN nd).setCell (rb,10) (.slice none 0 0)=w5 at *
     clear v1' aiJ rf';obtain⟨wT,h⟩:∃W,W=w5:=⟨_,rfl⟩;subst h
    case' af5=>
     have aiI:(kind==4)=false:=dK hk4;clear hk0 hk2 hk3 hk4;clear x1 x2 x3 x4 x5 x6 x7 x8 x9;have HS:Hid (J w1∧Fr B w1 w1):=xh ⟨HH.o.up HI1.o,Keep.refl _ _⟩;go_upto_region 25 with fail
     clear x0 v0 v1;obtain⟨wT,h⟩:∃W,W=w1:=⟨_,rfl⟩;subst h
 all_goals
  have ovT:wT.cell? (wb,4)=some (.bool false):=by
   obtain⟨_,_,_,_,_,hb,_⟩:=HH.o.qJ.blk HS.o.1;exact hb.cell 4
  have uk:=xh (HH.o.qJ.procs HS.o.1);have HFI:=xh λW (hW:Bel wT W)=>HH.o.qJ.files (HH.o.qJ.bel HS.o.1 hW);go_upto_region 28 with(go_at_call 69;((with_reducible refine aH uk.o ?_);rintro eP wP ⟨rfl,kP⟩;have HwP:=xh kP;clear kP))
  go_upto_region 29 with(go_at_call 70;((with_reducible refine aH (HFI.o _ HwP.o) ?_);rintro eF wF ⟨rfl,kF⟩;have HwF:=xh (HwP.o.tr kF);clear kF))
  have hIF:=HH.o.qJ.bel HS.o.1 HwF.o;obtain⟨pO,qO,cO,dO,LO,hbO,af6,af7,hlO⟩:=HH.o.qJ.blk hIF;have o2:=hbO.c 2 rfl;have o3:=hbO.c 3 rfl;have uB:=xh λk=>nM pO qO cO dO LO (wF.drewN k) (af6.bel (aj (Bel.refl _) k)) (af7.bel (aj (Bel.refl _) k)) hlO;clear hbO af6 af7 ovT hIF;go_quiet ((go_at_call 68;exact Calls.quiet_of (uB.o _)))
  have hbN:Bel wT (wF.drewN nq):=aj HwF.o nq;have HBN:=xh hbN;generalize wF.drewN nq=wN at *
  clear hbN o2 o3;go_wp2_with fail
  go_ret
  exact⟨rfl,HH.o.qJ.bel HS.o.1 HBN.o,(bP.o.mono HB.o).trans ((HS.o.2.below (bU HB.o bP.o.le)).trans (HBN.o.mono (bU HB.o (bU bP.o.le HS.o.2.size))))⟩
theorem Vy(n:Int)(w:World):Calls prog 61 #[n] w (Z.e (.int .i64 n) w):=by
 go_enter func61,ntmps61;go_wp2
 go_ret
 exact⟨rfl,rfl⟩
theorem Zj:(prog.info? 9).map (λi=>(i.size,i.bytes,(i.zero.map (·.cells.size))))=some (1,16,some 1):=by kernel_rfl
theorem LH{w:World}{base:Nat}{p:Option Addr}{n cap:Nat}{l:List ByteArray}(h:w.ownsRow base 9 1 (.slice p n cap) n (l.map Value.string))(hn:n=l.length):UT w p l:=λh0=>by
 obtain⟨p',c',e,_,_,hp⟩:=aG h;cases e
 obtain⟨g,rfl,_,_,hc,_⟩:=hp.resolve_left (by omega);obtain⟨_,cs,hb⟩:=row_blk h (g:=g) rfl;refine⟨g,0,rfl,cs,_,hb,rfl,λi s hi=>?_⟩;have hlt:=(bV hi).1;rw[Nat.zero_add,←hb.cell,hc i (by rw[jE];exact hlt),fA,hi];rfl
theorem wu{P:Program}{w:World}{ops:Array Oper}{rest:List Oper}{o:Oper}{a:Act}{Q:Exit→Act→World→Prop}(hgd:o.guard=none)(s x:Operand)(t:TypeId)
 (ho:o.op=.call {callee:=.builtin .append,args:= #[s,x],argTypes:= #[t,t]})(ht:P.underlying t=some (.slice 9))
 (hi:(P.info? 9).map (λi=>(i.size,i.bytes,(i.zero.map (·.cells.size))))=some (1,16,some 1))(hs:a.eval s=.slice none 0 0)(p:Option Addr)(cap:Nat)(l:List ByteArray)(hx:a.eval x=.slice p l.length cap)(hl:Eh w p l)(hz:p=none→cap=0)(hlen:l.length≤1048576)
 (h:∀q cq w',w'.ownsRow w.heap.size 9 1 (.slice q l.length cq) l.length (l.map Value.string)→Bel w w'→wpList P ops Q rest (a.put o.dst (.slice q l.length cq)) w'):wpList P ops Q (o::rest) a w:=by
 obtain⟨i,z,hi,hz2,e1,e2,e3⟩:=info_of hi;have hnil:=World.ownsRow_nil w w.heap.size 9 1;cases p with
 | none=>
   have hl0:l=[]:=List.eq_nil_of_length_eq_zero (by
    by_cases h0:0<l.length
    ·obtain⟨_,_,e,_⟩:=hl 0 _ (bT h0)
     cases e
    ·omega)
   subst hl0;have hc:=hz rfl;subst hc;exact wpList_append_own_none hgd s x t ho w.heap.size 9 i 1 ht hi (.slice none 0 0) 0 [] hs hnil hx (h none 0 w hnil (Bel.refl w))
 | some ad=>
   refine wpList_append_own w hgd s x t ho w.heap.size 9 i z 1 16 ht hi hz2 e1 e2 e3 (by omega) (.slice none 0 0) 0 [] hs hnil ad l.length cap (l.map Value.string) hx (by simp) (λj u hj=>?_) (λu hu=>?_) (by unfold maxLen;omega) (by omega) (bM _) λv' w' k1 k2 _=>?_
   ·rw[fA]at hj
    obtain⟨y,hy,rfl⟩:=Option.map_eq_some_iff.1 hj;obtain⟨g,o',e,hc⟩:=hl _ _ hy;cases e
    rw[Addr.add_lit];exact hc
   ·obtain⟨y,_,rfl⟩:=List.mem_map.1 hu
    rfl
   ·rw[Nat.zero_add,List.nil_append]at k1
    obtain⟨q,cq,rfl,_⟩:=aG k1;exact h q cq w' k1 ((grown_keep k2 hnil).below _ (bM _) λk hk=>hk)
theorem Vz(c:jA)(w:World)(hd:BS w c.dp c.d)(hlen:c.d.length≤1048576) :
 Calls prog 109 #[.agg c.cells.toArray] w λe w'=>∃dp dc,e=.returned (.agg #[.int .i64 c.kind,.int .i64 c.a,.int .i64 c.b,.string c.s,.slice c.lp c.l.length c.lc,.slice dp c.d.length dc])∧(zQ w' dp c.d∧c.d.length≤dc)∧Bel w w':=by
 obtain⟨kind,a,b,s,l,lp,lc,d,dp,dc⟩:=c
 dsimp only at hd hlen
 change Calls prog 109 #[.agg #[.int .i64 kind,.int .i64 a,.int .i64 b,.string s,.slice lp l.length lc,.slice dp d.length dc]] w _
 have HD:=xh λW (hW:Bel w W)=>hd.bel hW;clear hd;have BX:Blk ((w.alloc (.cells #[.int .i64 kind,.int .i64 a,.int .i64 b,.string s,.slice lp l.length lc,.slice dp d.length dc] 68)).alloc (.cells #[(0:Int),(0:Int),(0:Int),.string ⟨#[]⟩,(),()] 264)) w.heap.size [.int .i64 kind,.int .i64 a,.int .i64 b,.string s,.slice lp l.length lc,.slice dp d.length dc] 68:=(Blk.new w _ _).alloc _;have BR:Blk ((w.alloc (.cells #[.int .i64 kind,.int .i64 a,.int .i64 b,.string s,.slice lp l.length lc,.slice dp d.length dc] 68)).alloc (.cells #[(0:Int),(0:Int),(0:Int),.string ⟨#[]⟩,(),()] 264)) (w.heap.size+1) [(0:Int),(0:Int),(0:Int),.string ⟨#[]⟩,(),()] 264:=Blk.dF _ _ _ (by simp);have k2:Bel w ((w.alloc (.cells #[.int .i64 kind,.int .i64 a,.int .i64 b,.string s,.slice lp l.length lc,.slice dp d.length dc] 68)).alloc (.cells #[(0:Int),(0:Int),(0:Int),.string ⟨#[]⟩,(),()] 264)):=(Bel.start w _).ac _;go_enter func109,ntmps109;go_upto_region 1 with fail
 generalize (w.alloc (.cells #[.int .i64 kind,.int .i64 a,.int .i64 b,.string s,.slice lp l.length lc,.slice dp d.length dc] 68)).alloc (.cells #[(0:Int),(0:Int),(0:Int),.string ⟨#[]⟩,(),()] 264)=w2 at *
 have hb2:=BX.lt;have hr2:=BR.lt;obtain⟨bx,hbx⟩:=e_x w.heap.size;have QA:=xh hbx;rw[hbx]at BX BR hb2 hr2⊢;have x0:=BX.c 0 rfl;have x1:=BX.c 1 rfl;have x2:=BX.c 2 rfl;have x3:=BX.c 3 rfl;have x4:=BX.c 4 rfl;have uy:=xh BX;have Dp:=xh BR;have iC:=xh k2;clear BX BR k2 hbx;go_upto_region 2 with fail
 have B3:=Blk.new w2 [.int .i64 kind,.int .i64 a,.int .i64 b,.string s,.slice lp l.length lc,()] 264;have k3:Bel w2 (w2.alloc (.cells #[.int .i64 kind,.int .i64 a,.int .i64 b,.string s,.slice lp l.length lc,()] 264)):=Bel.start _ _;change Blk (w2.alloc (.cells #[.int .i64 kind,.int .i64 a,.int .i64 b,.string s,.slice lp l.length lc,()] 264)) w2.heap.size _ _ at B3
 generalize w2.alloc (.cells #[.int .i64 kind,.int .i64 a,.int .i64 b,.string s,.slice lp l.length lc,()] 264)=w3 at *
 obtain⟨b3,hb3⟩:=e_x w2.heap.size;rw[hb3]at B3⊢;have adE:Hid (bx+1<b3):=xh (by omega);have jP:=xh (iC.o.tr k3);have HR3:=xh (Dp.o.bel k3);have x5:=(uy.o.bel k3).c 5 rfl;have y5:=B3.c 5 rfl;have HB3:=xh B3;have agx:=xh (HD.o w3 jP.o);clear B3 k3 hb3 x0 x1 x2 x3 x4 hb2 hr2;go_upto_region 3 with(at_builtin;refine Lp rfl (.tmp 16) (.tmp 18) rfl (.slice none 0 0) dp dc [] d rfl rfl (Buf.nil _) agx.o (by simp;omega) ?_;intro v' w5 h1 h2 h3 h4;have k5:=h4 none rfl;obtain⟨pa,qa,hv',hcp,_⟩:=h1.slice;have HCP:=xh hcp;clear hcp;subst hv';have f5:=(HB3.o.bel k5).frozen 5;have y5':=(HB3.o.bel k5).c 5 rfl;have l5:=(HB3.o.bel k5).lt;have H5:=xh (And.intro h1 k5);clear h1 h2 h3 h4 k5)
 simp only[List.nil_append]at *
 have B6:Blk (w5.setCell (b3,5) (.slice pa d.length qa)) b3 [.int .i64 kind,.int .i64 a,.int .i64 b,.string s,.slice lp l.length lc,.slice pa d.length qa] 264:=(HB3.o.bel H5.o.2).setCell (o:=5) _;have k6:Bel w (w5.setCell (b3,5) (.slice pa d.length qa)):=Gf (jP.o.tr H5.o.2) (by have:=adE.o;have:=QA.o;omega);have R6:Blk (w5.setCell (b3,5) (.slice pa d.length qa)) (bx+1) [(0:Int),(0:Int),(0:Int),.string ⟨#[]⟩,(),()] 264:=(HR3.o.bel H5.o.2).keep (Keep.setCell w5 b3 5 _) (by have:=adE.o;show ¬bx+1=b3;omega);have D6:zQ (w5.setCell (b3,5) (.slice pa d.length qa)) pa d:=H5.o.1.byt.keep (Keep.setCell w5 b3 5 _) λq cs hq e=>by
  have e:q=b3:=e;subst e;exact(HB3.o.bel H5.o.2).ne hq (by decide) rfl
 generalize w5.setCell (b3,5) (.slice pa d.length qa)=w6 at *
 have z0:=B6.c 0 rfl;have z1:=B6.c 1 rfl;have z2:=B6.c 2 rfl;have z3:=B6.c 3 rfl;have z4:=B6.c 4 rfl;have z5:=B6.c 5 rfl;have O1:=xh R6;have mG:=xh (And.intro k6 D6);have HGR:Hid (w.heap.size≤bx+1):=xh (by have:=QA.o;omega);clear B6 k6 R6 D6 y5 y5' x5 f5 l5;go_wp2_with ((refine aA rfl 264 (.tmp 2) (.tmp 21) rfl rfl (bx+1) [.int .i64 kind,.int .i64 a,.int .i64 b,.string s,.slice lp l.length lc,.slice pa d.length qa] _ 264 O1.o rfl rfl (by kernel_rfl) rfl (by intro v hv;simp at hv;rcases hv with rfl|rfl|rfl|rfl|rfl|rfl<;>rfl) ?_;intro w7 B7 K7))
 have e0:=B7.out.c 0 rfl;have e1:=B7.out.c 1 rfl;have e2:=B7.out.c 2 rfl;have e3:=B7.out.c 3 rfl;have e4:=B7.out.c 4 rfl;have e5:=B7.out.c 5 rfl;refine bodyPost_ret (v:=.agg #[.int .i64 kind,.int .i64 a,.int .i64 b,.string s,.slice lp l.length lc,.slice pa d.length qa]) (by simp[results,results109,go_sem,e0,e1,e2,e3,e4,e5]) rfl ⟨pa,qa,rfl,⟨?_,HCP.o⟩,?_⟩
 ·exact mG.o.2.keep K7 λq cs hq e=>by
   have e:q=bx+1:=e;subst e;exact O1.o.ne hq (by decide) rfl
 ·exact Below.trans mG.o.1 (K7.below _ mG.o.1.size λq hq=>by have hq:q=bx+1:=hq;have:=HGR.o;omega)
def adH(J:World→Prop)(wb tk rb B:Nat)(N M f:Int)(dv:Value)(W:World)(e:Ending)(w':World):Prop:=∃p q cp cq,∃L:List Int,e=.returned (.tuple #[N,M,.slice q L.length cq,f])∧dv=.slice p L.length cp∧BS w' p L∧BS w' q L∧L.length≤1000000∧f≠ -2∧(f≠0→dv=.slice none 0 0)∧(∃ov wv,Blk w' wb [tk,rb,ov,wv,false] 96)∧Fr B W w'∧
 ∀W',Bel w' W'→J ((W'.setCell (wb,2) dv).setCell (wb,3) (.slice q L.length cq))
structure DoC(J:World→Prop)(wb tk rb B n0 n1:Nat)(A:Int)(c:jA)(X:Int→Int→Int→Value→Value→World→Prop):Prop where
 keep:∀{N M f:Int} {dv ev:Value} {W W':World},X N M f dv ev W→Keep (λq=>n0≤q∧q<n1) W W'→X N M f dv ev W'
 wb1:∀{N M f:Int} {dv ev:Value} {W:World},X N M f dv ev W→∃ov wv,Blk W wb [tk,rb,ov,wv,false] 96
 dv:∀{N M f:Int} {dv ev:Value} {W:World},X N M f dv ev W→∃p n c,dv=.slice p n c
 tell:∀{N M f:Int} {dv ev:Value} {W:World},X N M f dv ev W→Calls prog 14 #[ev] W (Z.b (.int .i64 f) W)
 doc:∀{N M f:Int} {dv ev:Value} {W:World} {lp dp:Option Addr} {lc dc:Nat},X N M f dv ev W→n1≤W.heap.size→Eh W lp c.l→zQ W dp c.d→c.d.length≤dc→Calls prog 111 #[rb,.int .i64 A,.agg #[.int .i64 c.kind,.int .i64 c.a,.int .i64 c.b,.string c.s,.slice lp c.l.length lc,.slice dp c.d.length dc]] W (adH J wb tk rb B N M f dv W)
def DoS(I J:World→Prop)(wb tk rb B:Nat)(A:Int)(c:jA):Prop:=
 ∀(w0 w:World) (lp:Option Addr) (g lc:Nat),I w0→Bel w0 w→B≤w0.heap.size→w0.heap.size≤g→UT w lp c.l→(∀b o,lp=some ⟨b,o,none⟩→w0.heap.size≤b)→Blk w g ((c.d++[71,72]).map (Value.int .u8)) 5→(∀x∈c.d,iR x)→∃X,DoC J wb tk rb B w0.heap.size w.heap.size A c X∧
  Calls prog 18 #[tk,A,.agg #[.int .i64 c.kind,.int .i64 c.a,.int .i64 c.b,.string c.s,.slice lp c.l.length lc,.slice (g,0) c.d.length (c.d.length+2)]] w λe w'=>∃N M f dv ev,e=.returned (.tuple #[.agg #[.int .i64 N,.int .i64 M,dv],ev])∧X N M f dv ev w'∧Fr B w w'∧∀q,w0.heap.size≤q→q<w.heap.size→w'.heap[q]?=w.heap[q]?
theorem jd(w:World)(o:Obj):Bel w (w.drew.alloc o):=(Bel.drew (Bel.refl w)).tr (Bel.start _ o)
theorem Zo{S:Nat→Prop}{w w':World}{a1 a2 a3 a4 a5 a6 a7 a8:Addr}{v1 v2 v3 v4 v5 v6 v7 v8:Value}(h:w.cell? a1=some v1∧w.cell? a2=some v2∧w.cell? a3=some v3∧w.cell? a4=some v4∧w.cell? a5=some v5∧w.cell? a6=some v6∧w.cell? a7=some v7∧w.cell? a8=some v8)(k:Keep S w w')(hs:¬S a1.block∧¬S a2.block∧¬S a3.block∧¬S a4.block∧¬S a5.block∧¬S a6.block∧¬S a7.block∧¬S a8.block):w'.cell? a1=some v1∧w'.cell? a2=some v2∧w'.cell? a3=some v3∧w'.cell? a4=some v4∧w'.cell? a5=some v5∧w'.cell? a6=some v6∧w'.cell? a7=some v7∧w'.cell? a8=some v8:=
 have c:∀(a:Addr) (v:Value),w.cell? a=some v→¬S a.block→w'.cell? a=some v:=λa v h hn=>(k.cell a (World.block_lt_of_cell? _ _ h) hn).trans h
 ⟨c _ _ h.1 hs.1,c _ _ h.2.1 hs.2.1,c _ _ h.2.2.1 hs.2.2.1,c _ _ h.2.2.2.1 hs.2.2.2.1,c _ _ h.2.2.2.2.1 hs.2.2.2.2.1,c _ _ h.2.2.2.2.2.1 hs.2.2.2.2.2.1,c _ _ h.2.2.2.2.2.2.1 hs.2.2.2.2.2.2.1,c _ _ h.2.2.2.2.2.2.2 hs.2.2.2.2.2.2.2⟩
theorem Gi{w6 W w7:World}{n0 q:Nat}{cs:List Value}{t:TypeId}(h:Blk w6 q cs t)(k:Bel w6 W)(r:∀q,n0≤q→q<W.heap.size→w7.heap[q]?=W.heap[q]?)(hq:n0≤q):Blk w7 q cs t:=(r q hq (Nat.lt_of_lt_of_le h.lt k.size)).trans (h.bel k)
def agy(J:World→Prop)(wb tk rb B n0:Nat)(A:Int)(c:jA)(w:World)(e:Ending)(w':World):Prop:=
 ∃X,DoC J wb tk rb B n0 w.heap.size A c X∧∃N M f dv ev,e=.returned (.tuple #[.agg #[.int .i64 N,.int .i64 M,dv],ev])∧X N M f dv ev w'∧Fr B w w'∧∀q,n0≤q→q<w.heap.size→w'.heap[q]?=w.heap[q]?
theorem VJ{w:World}{a1 a2 a3 a4 a5 a6 a7 a8:Addr}{v1 v2 v3 v4 v5 v6 v7 v8:Value}(h:w.cell? a1=some v1∧w.cell? a2=some v2∧w.cell? a3=some v3∧w.cell? a4=some v4∧w.cell? a5=some v5∧w.cell? a6=some v6∧w.cell? a7=some v7∧w.cell? a8=some v8)(o:Obj):(w.alloc o).cell? a1=some v1∧(w.alloc o).cell? a2=some v2∧(w.alloc o).cell? a3=some v3∧(w.alloc o).cell? a4=some v4∧(w.alloc o).cell? a5=some v5∧(w.alloc o).cell? a6=some v6∧(w.alloc o).cell? a7=some v7∧(w.alloc o).cell? a8=some v8:=
 have k:=Bel.start w o
 ⟨af k h.1,af k h.2.1,af k h.2.2.1,af k h.2.2.2.1,af k h.2.2.2.2.1,af k h.2.2.2.2.2.1,af k h.2.2.2.2.2.2.1,af k h.2.2.2.2.2.2.2⟩
def IP(q:Option Addr)(ls:List ByteArray)(w0:World)(j:Nat)(wr:World):Prop:=
 (∀x,q=some ⟨x,0,none⟩→∃cs,Blk wr x cs 9∧∀k,j≤k→k<ls.length→cs[k]?=(ls.map Value.string)[k]?)∧Keep (λx=>q=some ⟨x,0,none⟩) w0 wr
theorem IP.next{qb:Nat}{ls:List ByteArray}{w0 wr wq:World}{j:Nat}(h:IP (some ⟨qb,0,none⟩) ls w0 j wr)(k:Bel wr wq)(v:Value):IP (some ⟨qb,0,none⟩) ls w0 (j+1) (wq.setCell (qb,j) v):=by
 refine⟨λx hx=>?_,(h.2.tr (Keep.of_bel _ k)).tr ((Keep.setCell wq qb j v).mono λx hx=>by have hx:x=qb:=hx;subst hx;rfl)⟩;have e:x=qb:=by cases hx;rfl
 subst e;obtain⟨cs,hb,hc⟩:=h.1 x rfl;refine⟨_,(hb.bel k).setCell (o:=j) v,λi h1 h2=>?_⟩;rw[List.getElem?_set_ne (by omega)];exact hc i (by omega) h2
theorem Gj{w w':World}{q:Nat}{cs:List Value}{t:TypeId}(h:Blk w q cs t)(e:w'.heap[q]?=w.heap[q]?):Blk w' q cs t:=e.trans h
theorem Zp(I J:World→Prop)(wb tk rb B:Nat)(o:uz)(hQ:Zq I wb tk rb)(hwB:B≤wb)(hD:DoS I J wb tk rb B o.a o.c)(w:World)(hI:I w)(hok:∀W,Below B w W→vT W o)(hsz:o.c.weight≤200000)(adI:o.c.kind≠20)(hB:B≤w.heap.size) :
 Calls prog 64 #[wb,.agg o.cells.toArray] w λe w'=>e=.returned (.bool true)∧J w'∧Fr B w w':=by
 obtain⟨kind,oa,oo,⟨ck,ca,cb,s,ls,lp,lc,dd,dp,dc⟩,od,oV,pF⟩:=o;change Calls prog 64 #[wb,.agg #[.int .i64 kind,.int .i64 oa,.int .i64 oo,.int .i64 ck,.int .i64 ca,.int .i64 cb,.string s,.slice lp ls.length lc,.slice dp dd.length dc,.slice oV od.length pF]] w _
 dsimp only at hD hsz adI
 have hdl:dd.length≤200000:=by
  unfold jA.weight at hsz;split at hsz
  ·omega
  ·dsimp only at hsz;omega
 have hll:ls.length≤1000:=by
  unfold jA.weight at hsz;split at hsz
  ·omega
  ·rename_i h;dsimp only at h;omega
 have HQ:=xh hQ;have HI:=xh hI;have jW:=xh hok;have HB:=xh hB;have HD:=xh hD;have HWB:=xh hwB;obtain⟨p0,q0,c0,d0,L0,hb0,_,_,_⟩:=hQ.blk hI;have abH:=hb0.lt;have k1:Bel w (w.alloc (.cells #[.int .i64 kind,.int .i64 oa,.int .i64 oo,.int .i64 ck,.int .i64 ca,.int .i64 cb,.string s,.slice lp ls.length lc,.slice dp dd.length dc,.slice oV od.length pF] 79)):=Bel.start _ _;have BX:Blk (w.alloc (.cells #[.int .i64 kind,.int .i64 oa,.int .i64 oo,.int .i64 ck,.int .i64 ca,.int .i64 cb,.string s,.slice lp ls.length lc,.slice dp dd.length dc,.slice oV od.length pF] 79)) w.heap.size [.int .i64 kind,.int .i64 oa,.int .i64 oo,.int .i64 ck,.int .i64 ca,.int .i64 cb,.string s,.slice lp ls.length lc,.slice dp dd.length dc,.slice oV od.length pF] 79:=Blk.new w _ _;have v0:(w.alloc (.cells #[.int .i64 kind,.int .i64 oa,.int .i64 oo,.int .i64 ck,.int .i64 ca,.int .i64 cb,.string s,.slice lp ls.length lc,.slice dp dd.length dc,.slice oV od.length pF] 79)).cell? (wb,0)=some (.pointer (tk,0)):=(hb0.bel k1).cell 0;clear hQ hI hok hB hb0 hD hwB hsz;go_enter func64,ntmps64;go_upto_region 1 with fail
 generalize w.alloc (.cells #[.int .i64 kind,.int .i64 oa,.int .i64 oo,.int .i64 ck,.int .i64 ca,.int .i64 cb,.string s,.slice lp ls.length lc,.slice dp dd.length dc,.slice oV od.length pF] 79)=w1 at *
 obtain⟨bx,hbx⟩:=e_x w.heap.size;rw[hbx]at BX⊢;have uy:=xh BX;have QA:=xh hbx;have bP:=xh k1;have x3:=BX.c 3 rfl;have x4:=BX.c 4 rfl;have x5:=BX.c 5 rfl;have x6:=BX.c 6 rfl;have x7:=BX.c 7 rfl;have x8:=BX.c 8 rfl;have agz:=BX.lt;clear BX k1 hbx;go_upto_region 2 with fail
 have k2:Bel w1 (w1.alloc (.cells #[.int .i64 ck,.int .i64 ca,.int .i64 cb,.string s,.slice lp ls.length lc,.slice dp dd.length dc] 68)):=Bel.start _ _;have B2:Blk (w1.alloc (.cells #[.int .i64 ck,.int .i64 ca,.int .i64 cb,.string s,.slice lp ls.length lc,.slice dp dd.length dc] 68)) w1.heap.size [.int .i64 ck,.int .i64 ca,.int .i64 cb,.string s,.slice lp ls.length lc,.slice dp dd.length dc] 68:=Blk.new w1 _ _;generalize w1.alloc (.cells #[.int .i64 ck,.int .i64 ca,.int .i64 cb,.string s,.slice lp ls.length lc,.slice dp dd.length dc] 68)=w2 at *
 obtain⟨bc,hbc⟩:=e_x w1.heap.size;rw[hbc]at B2⊢;have VK:=xh hbc;have iC:=xh (bP.o.tr k2);have HX2:=xh (uy.o.bel k2);have HC2:=xh B2;have c5:=B2.c 5 rfl;have v02:=af k2 v0;clear x3 x4 x5 x6 x7 x8 k2 B2 hbc v0;have ai8:Hid (∀W,Below B w W→vT W ⟨kind,oa,oo,⟨ck,ca,cb,s,ls,lp,lc,dd,dp,dc⟩,od,oV,pF⟩):=xh jW.o;have hbd:=(jW.o w2 (iC.o.mono HB.o)).cd;have HRO:=xh (xO dp dc dd w2 hbd hdl);clear hbd;go_upto_region 3 with(go_at_call 58;((with_reducible refine aH HRO.o ?_);rintro e3 w3 ⟨g,rfl,hg,hBg,k3⟩;have H3:=xh k3;have HG:=xh (And.intro hg hBg);clear hg hBg k3))
 have B3:=HC2.o.bel H3.o;have c5':=B3.c 5 rfl;have f5:=B3.frozen 5;have l5:=B3.lt;have hgc:bc<g:=by have:=HC2.o.lt;have:=HG.o.1;omega
 clear c5;go_upto_region 4 with fail
 have B4:Blk (w3.setCell (bc,5) (.slice (g,0) dd.length (dd.length+2))) bc [.int .i64 ck,.int .i64 ca,.int .i64 cb,.string s,.slice lp ls.length lc,.slice (g,0) dd.length (dd.length+2)] 68:=B3.setCell (o:=5) _;have K4:Bel w (w3.setCell (bc,5) (.slice (g,0) dd.length (dd.length+2))):=Gf (iC.o.tr H3.o) (by have:=VK.o;have:=bP.o.size;omega);have G4:=HG.o.2.keep (Keep.setCell w3 bc 5 (.slice (g,0) dd.length (dd.length+2))) (by show ¬g=bc;omega);have X4:=(HX2.o.bel H3.o).keep (Keep.setCell w3 bc 5 (.slice (g,0) dd.length (dd.length+2))) (by have:=HX2.o.lt;have:=uy.o.lt;have:=VK.o;show ¬bx=bc;omega);generalize w3.setCell (bc,5) (.slice (g,0) dd.length (dd.length+2))=w4 at *
 have c4:=B4.c 4 rfl;have HB4:=xh B4;have Zr:=xh G4;have HX4:=xh X4;have qh:=xh K4;have HTX:=xh (jW.o w4 (K4.mono HB.o)).l;have HLZ:Hid (lp=none→lc=0):=xh (jW.o w4 (K4.mono HB.o)).z;clear B4 G4 X4 K4 B3 c5' f5 l5 v02;have lbc:bc<w4.heap.size:=HB4.o.lt;go_upto_region 6 with(at_builtin;refine wu rfl (.tmp 29) (.tmp 31) 66 rfl underlying66 Zj rfl lp lc ls rfl HTX.o HLZ.o (by omega) ?_;intro q cq w5 R5 k5;have H5:=xh (And.intro R5 k5);have c4':=(HB4.o.bel k5).c 4 rfl;have f4:=(HB4.o.bel k5).frozen 4;have l4:=(HB4.o.bel k5).lt;clear R5 k5)
 clear c4;go_upto_region 7 with fail
 have K56:=Keep.setCell w5 bc 4 (.slice q ls.length cq);have B6:Blk (w5.setCell (bc,4) (.slice q ls.length cq)) bc [.int .i64 ck,.int .i64 ca,.int .i64 cb,.string s,.slice q ls.length cq,.slice (g,0) dd.length (dd.length+2)] 68:=(HB4.o.bel H5.o.2).setCell (o:=4) _;have K6:Bel w (w5.setCell (bc,4) (.slice q ls.length cq)):=Gf (qh.o.tr H5.o.2) (by have:=VK.o;have:=bP.o.size;omega);have G6:=(Zr.o.bel H5.o.2).keep K56 (by show ¬g=bc;omega);have X6:=(HX4.o.bel H5.o.2).keep K56 (by have:=uy.o.lt;have:=VK.o;show ¬bx=bc;omega);have R6:=dG H5.o.1 K56 (λg hg e=>by have e:g=bc:=e;omega);generalize w5.setCell (bc,4) (.slice q ls.length cq)=w6 at *
 have AL:=xh B6;have HG6:=xh G6;have HX6:=xh X6;have mG:=xh K6;have O1:=xh R6;have HW4:Hid (w.heap.size≤w4.heap.size):=xh qh.o.size;clear B6 K6 G6 X6 R6 K56 c4' f4 l4 lbc;have kd:Bel w w6.drew:=Bel.drew mG.o;have rd:Bel w6 w6.drew:=Bel.drew (Bel.refl _);have DC:∀b o,q=some ⟨b,o,none⟩→w.heap.size≤b:=λb o hq=>by
  subst hq;have h:w4.heap.size≤b:=xP O1.o b (by
   obtain⟨p',c',e,_,_,hp⟩:=aG O1.o;cases e
   rcases hp with⟨_,hp,_⟩|⟨g',hp,_⟩
   ·cases hp
   ·cases hp;rfl)
  have:=HW4.o;omega
 have hgw:w.heap.size≤g:=by have:=HG.o.1;have:=iC.o.size;omega
 have hDo:∀W,Bel w6 W→Calls prog 18 #[tk,.int .i64 oa,.agg #[.int .i64 ck,.int .i64 ca,.int .i64 cb,.string s,.slice q ls.length cq,.slice (g,0) dd.length (dd.length+2)]] W (agy J wb tk rb B w.heap.size oa ⟨ck,ca,cb,s,ls,lp,lc,dd,dp,dc⟩ W):=λW hW=>by
  obtain⟨X,hX,hDo⟩:=HD.o w W q g cq HI.o (mG.o.tr hW) HB.o hgw ((LH O1.o rfl).bel hW) DC (HG6.o.bel hW) (jW.o w (Below.refl _ _)).cd.1;exact hDo.mono λe w' k=>⟨X,hX,k⟩
 obtain⟨pw,qw,cw,dw,Lw,hwb,_,_,_⟩:=HQ.o.blk HI.o;have v0:w6.cell? (wb,0)=some (.pointer (tk,0)):=af mG.o (hwb.cell 0);have b0:=AL.o.c 0 rfl;have b1:=AL.o.c 1 rfl;have b2:=AL.o.c 2 rfl;have b3:=AL.o.c 3 rfl;have b4:=AL.o.c 4 rfl;have b5:=AL.o.c 5 rfl;have x1:=HX6.o.c 1 rfl;have HDO:=xh hDo;have UU:=xh DC;have HGW:=xh hgw;have LV:Hid (w.heap.size≤bc∧bc<w6.heap.size∧w.heap.size≤bx∧bx<w6.heap.size):=xh (by have:=VK.o;have:=bP.o.size;have:=AL.o.lt;have:=HX6.o.lt;have:=QA.o;omega);have HXD:=xh (HX6.o.bel rd);have Il:=xh (AL.o.bel rd);have d0:=af rd v0;have HS0:Hid (w6.drew.cell? (wb,0)=some (.pointer (tk,0))∧w6.drew.cell? (bx,1)=some (.int .i64 oa)∧w6.drew.cell? (bc,0)=some (.int .i64 ck)∧w6.drew.cell? (bc,1)=some (.int .i64 ca)∧w6.drew.cell? (bc,2)=some (.int .i64 cb)∧w6.drew.cell? (bc,3)=some (.string s)∧w6.drew.cell? (bc,4)=some (.slice q ls.length cq)∧w6.drew.cell? (bc,5)=some (.slice (g,0) dd.length (dd.length+2))):=xh ⟨d0,af rd x1,af rd b0,af rd b1,af rd b2,af rd b3,af rd b4,af rd b5⟩;clear kd rd DC hgw hDo hwb d0;have abI:Hid (w.heap.size≤w6.heap.size):=xh mG.o.size;have nZ:Hid (¬wb=w6.heap.size∧¬bx=w6.heap.size∧¬bc=w6.heap.size∧¬bc=w6.heap.size∧¬bc=w6.heap.size∧¬bc=w6.heap.size∧¬bc=w6.heap.size∧¬bc=w6.heap.size):=xh (by have:=LV.o;have:=mG.o.size;omega);have YU:Hid (∀ob,(w6.drew.alloc ob).cell? (wb,0)=some (.pointer (tk,0))∧(w6.drew.alloc ob).cell? (bx,1)=some (.int .i64 oa)∧(w6.drew.alloc ob).cell? (bc,0)=some (.int .i64 ck)∧(w6.drew.alloc ob).cell? (bc,1)=some (.int .i64 ca)∧(w6.drew.alloc ob).cell? (bc,2)=some (.int .i64 cb)∧(w6.drew.alloc ob).cell? (bc,3)=some (.string s)∧(w6.drew.alloc ob).cell? (bc,4)=some (.slice q ls.length cq)∧(w6.drew.alloc ob).cell? (bc,5)=some (.slice (g,0) dd.length (dd.length+2))):=xh (VJ HS0.o);have HZB:Hid (Blk (w6.drew.alloc (.cells #[(0:Int),(0:Int),()] 62)) w6.heap.size [(0:Int),(0:Int),()] 62):=xh (Blk.new w6.drew _ _);go_region_held3 (λw'=>w'.cell? ⟨wb,0,none⟩=some (.pointer (tk,0))∧w'.cell? ⟨bx,1,none⟩=some (.int .i64 oa)∧w'.cell? ⟨bc,0,none⟩=some (.int .i64 ck)∧w'.cell? ⟨bc,1,none⟩=some (.int .i64 ca)∧w'.cell? ⟨bc,2,none⟩=some (.int .i64 cb)∧w'.cell? ⟨bc,3,none⟩=some (.string s)∧w'.cell? ⟨bc,4,none⟩=some (.slice q ls.length cq)∧w'.cell? ⟨bc,5,none⟩=some (.slice (g,0) dd.length (dd.length+2))) (first|exact HS0.o|exact HS7.o|exact YU.o _|exact HS9.o _|exact HS8.o _ _ _|(go_keep;done)) (((go_at_call 18;((first|(with_reducible refine aH (HDO.o _ (Bel.drew (Bel.refl _))) ?_)|(with_reducible refine aH (HDO.o _ (jd _ _)) ?_));rintro e7 w7 ⟨X,hX,N,M,f,dv,ev,rfl,x7,k7,r7⟩;obtain⟨uS,zG,uT,rfl⟩:=hX.dv x7;have HX7:=xh (Gi HX6.o (by first|exact Bel.drew (Bel.refl _)|exact jd _ _) r7 LV.o.2.2.1);have zH:=xh (Gi AL.o (by first|exact Bel.drew (Bel.refl _)|exact jd _ _) r7 LV.o.1);obtain⟨ov7,wv7,hw7⟩:=hX.wb1 x7;have HW7:=xh hw7;have HS7:Hid (w7.cell? ⟨wb,0,none⟩=some (.pointer (tk,0))∧w7.cell? ⟨bx,1,none⟩=some (.int .i64 oa)∧w7.cell? ⟨bc,0,none⟩=some (.int .i64 ck)∧w7.cell? ⟨bc,1,none⟩=some (.int .i64 ca)∧w7.cell? ⟨bc,2,none⟩=some (.int .i64 cb)∧w7.cell? ⟨bc,3,none⟩=some (.string s)∧w7.cell? ⟨bc,4,none⟩=some (.slice q ls.length cq)∧w7.cell? ⟨bc,5,none⟩=some (.slice (g,0) dd.length (dd.length+2))):=xh ⟨hw7.cell 0,HX7.o.cell 1,zH.o.cell 0,zH.o.cell 1,zH.o.cell 2,zH.o.cell 3,zH.o.cell 4,zH.o.cell 5⟩;have HS9:=xh (VJ HS7.o);have HS8:=xh λu0 u1 u2=>Zo HS7.o ((Keep.setCell w7 w6.heap.size 0 u0).tr ((Keep.setCell _ w6.heap.size 1 u1).tr (Keep.setCell _ w6.heap.size 2 u2))) nZ.o;(first|(have HZ7:=xh (Gi HZB.o (Bel.refl _) r7 abI.o);have z0:=(show w7.cell? ⟨w6.heap.size,0,none⟩=some (.int .i64 0)from HZ7.o.cell 0);have z1:=(show w7.cell? ⟨w6.heap.size,1,none⟩=some (.int .i64 0)from HZ7.o.cell 1);have z2:=(show w7.cell? ⟨w6.heap.size,2,none⟩=some (.slice none 0 0)from HZ7.o.cell 2);have zf:=HZ7.o.frozen;have zl:=HZ7.o.lt)|skip);have H7:=xh (And.intro hX (And.intro x7 (And.intro k7 r7)));clear hX x7 k7 r7 hw7))))
 have HZ8:Hid (Blk (w7.alloc (.cells #[.int .i64 N,.int .i64 M,.slice uS zG uT] 62)) w7.heap.size [.int .i64 N,.int .i64 M,.slice uS zG uT] 62):=xh (Blk.new w7 _ _);have UR:Hid (X N M f (.slice uS zG uT) ev (w7.alloc (.cells #[.int .i64 N,.int .i64 M,.slice uS zG uT] 62))):=xh (H7.o.1.keep H7.o.2.1 (Keep.of_bel _ (Bel.start w7 _)));have HF8:Hid (Fr B w (w7.alloc (.cells #[.int .i64 N,.int .i64 M,.slice uS zG uT] 62))):=xh (((Fr.bel (mG.o.tr (Bel.drew (Bel.refl _)))).tr H7.o.2.2.1).tr (Fr.bel (Bel.start w7 _)));have VL:Hid (∀q,w.heap.size≤q→q<w6.heap.size→(w7.alloc (.cells #[.int .i64 N,.int .i64 M,.slice uS zG uT] 62)).heap[q]?=w6.heap[q]?):=xh (λq h1 h2=>((Bel.start w7 _).block q (Nat.lt_of_lt_of_le h2 H7.o.2.2.1.size)).trans (H7.o.2.2.2 q h1 h2));have HN1:Hid (∃n1,DoC J wb tk rb B w.heap.size n1 oa ⟨ck,ca,cb,s,ls,lp,lc,dd,dp,dc⟩ X∧n1≤(w7.alloc (.cells #[.int .i64 N,.int .i64 M,.slice uS zG uT] 62)).heap.size∧w6.heap.size≤n1):=xh (⟨_,H7.o.1,bU H7.o.2.2.1.size (Bel.start w7 _).size,bM _⟩);clear HS9 HS8;try clear z0 z1 z2 zf zl HZ7
 generalize (w7.alloc (.cells #[.int .i64 N,.int .i64 M,.slice uS zG uT] 62))=w8 at *
 obtain⟨bz,hbz⟩:=e_x w7.heap.size;have HBZ:Hid (w6.heap.size≤bz):=xh (by rw[←hbz];exact H7.o.2.2.1.size);rw[hbz]at HZ8⊢;clear hbz
 rotate_left
 have HZ8:Hid (Blk (((w7.setCell (w6.heap.size,0) (.int .i64 N)).setCell (w6.heap.size,1) (.int .i64 M)).setCell (w6.heap.size,2) (.slice uS zG uT)) w6.heap.size [.int .i64 N,.int .i64 M,.slice uS zG uT] 62):=xh (((HZ7.o.setCell (o:=0) _).setCell (o:=1) _).setCell (o:=2) _);have UR:Hid (X N M f (.slice uS zG uT) ev (((w7.setCell (w6.heap.size,0) (.int .i64 N)).setCell (w6.heap.size,1) (.int .i64 M)).setCell (w6.heap.size,2) (.slice uS zG uT))):=xh (H7.o.1.keep H7.o.2.1 (((Keep.setCell w7 w6.heap.size 0 (.int .i64 N)).tr ((Keep.setCell _ w6.heap.size 1 (.int .i64 M)).tr (Keep.setCell _ w6.heap.size 2 (.slice uS zG uT)))).mono λq h=>(by have h:q=w6.heap.size:=h;have:=abI.o;subst h;exact⟨this,by simp⟩)));have HF8:Hid (Fr B w (((w7.setCell (w6.heap.size,0) (.int .i64 N)).setCell (w6.heap.size,1) (.int .i64 M)).setCell (w6.heap.size,2) (.slice uS zG uT))):=xh (((Fr.bel (mG.o.tr (jd _ _))).tr H7.o.2.2.1).dY ((Keep.setCell w7 w6.heap.size 0 (.int .i64 N)).tr ((Keep.setCell _ w6.heap.size 1 (.int .i64 M)).tr (Keep.setCell _ w6.heap.size 2 (.slice uS zG uT)))) λq h=>.inr (by have h:q=w6.heap.size:=h;have:=abI.o;omega));have VL:Hid (∀q,w.heap.size≤q→q<w6.heap.size→(((w7.setCell (w6.heap.size,0) (.int .i64 N)).setCell (w6.heap.size,1) (.int .i64 M)).setCell (w6.heap.size,2) (.slice uS zG uT)).heap[q]?=w6.heap[q]?):=xh (λq h1 h2=>(((Keep.setCell w7 w6.heap.size 0 (.int .i64 N)).tr ((Keep.setCell _ w6.heap.size 1 (.int .i64 M)).tr (Keep.setCell _ w6.heap.size 2 (.slice uS zG uT)))).block q (Nat.lt_of_lt_of_le (Nat.lt_of_lt_of_le h2 (by simp)) H7.o.2.2.1.size) (λh=>by have h:q=w6.heap.size:=h;omega)).trans ((H7.o.2.2.2 q h1 (Nat.lt_of_lt_of_le h2 (by simp))).trans ((jd w6 _).block q h2)));have HN1:Hid (∃n1,DoC J wb tk rb B w.heap.size n1 oa ⟨ck,ca,cb,s,ls,lp,lc,dd,dp,dc⟩ X∧n1≤(((w7.setCell (w6.heap.size,0) (.int .i64 N)).setCell (w6.heap.size,1) (.int .i64 M)).setCell (w6.heap.size,2) (.slice uS zG uT)).heap.size∧w6.heap.size≤n1):=xh (⟨_,H7.o.1,bU H7.o.2.2.1.size ((Keep.setCell w7 w6.heap.size 0 (.int .i64 N)).tr ((Keep.setCell _ w6.heap.size 1 (.int .i64 M)).tr (Keep.setCell _ w6.heap.size 2 (.slice uS zG uT)))).size,by simp⟩);clear HS9 HS8;try clear z0 z1 z2 zf zl HZ7
 generalize (((w7.setCell (w6.heap.size,0) (.int .i64 N)).setCell (w6.heap.size,1) (.int .i64 M)).setCell (w6.heap.size,2) (.slice uS zG uT))=w8 at *
 obtain⟨bz,hbz⟩:=e_x w6.heap.size;have HBZ:Hid (w6.heap.size≤bz):=xh (Nat.le_of_eq hbz);rw[hbz]at HZ8⊢;clear hbz
 all_goals
  obtain⟨n1,hDC,hn1,hn6⟩:=HN1.o;have HDC:=xh hDC;have HT:=xh (hDC.tell UR.o);have HXB:=xh (Gj HX6.o (VL.o bx LV.o.2.2.1 LV.o.2.2.2));have YV:=xh (Gj AL.o (VL.o bc LV.o.1 LV.o.2.1));have Zt:=xh (Gj HG6.o (VL.o g HGW.o HG6.o.lt));have HN6:=xh (And.intro hn1 hn6);have hB8:B≤w8.heap.size:=bU HB.o HF8.o.size;have zI:=xh hB8;clear hDC HN1 hn1 hn6 hB8 v0 b0 b1 b2 b3 b4 b5 x1
  go_upto_region 9 with(first
   | (go_at_call 14;((with_reducible refine aH HT.o ?_);rintro e8 w9 ⟨rfl,k9⟩;have K9:=xh k9;clear k9))
   | (go_at_call 61;((with_reducible refine aH (Vy _ _) ?_);rintro e9 w10 ⟨rfl,rfl⟩)))
  have abJ:Below B w w9:=(HF8.o.below HB.o).trans (K9.o.mono zI.o);have HST:=xh (xQ g dp dc dd w9 (Zt.o.bel K9.o) (jW.o w9 abJ).cd hdl);have x8:=(HXB.o.bel K9.o).c 8 rfl;have agA:=xh abJ;clear abJ;go_upto_region 10 with(go_at_call 59;((with_reducible refine aH HST.o ?_);rintro e10 w10 ⟨rfl,k10⟩;have K10:=xh k10;clear k10))
  clear x8;have adJ:Hid (g<w6.heap.size):=xh HG6.o.lt;have agB:Hid (X N M f (.slice uS zG uT) ev w10):=xh (HDC.o.keep UR.o ((Keep.of_bel _ K9.o).tr (K10.o.mono λx hx=>by
   have hx:x=g:=hx;subst hx;exact⟨HGW.o,Nat.lt_of_lt_of_le adJ.o HN6.o.2⟩)))
  have hxg:bx≠g:=by
   intro e;subst e;exact HXB.o.ne Zt.o (by decide) rfl
  have hcg:bc≠g:=by
   intro e;subst e;exact YV.o.ne Zt.o (by decide) rfl
  have hzg:bz≠g:=by have:=HBZ.o;have:=adJ.o;omega
  have aa5:=xh ((HXB.o.bel K9.o).keep K10.o λe=>hxg e);have adK:=xh ((YV.o.bel K9.o).keep K10.o λe=>hcg e);have agC:=xh ((HZ8.o.bel K9.o).keep K10.o λe=>hzg e);have O6:Hid (Below B w w10):=xh (agA.o.trans (K10.o.below B (bU zI.o K9.o.size) λx hx=>by have hx:x=g:=hx;have:=HGW.o;have:=HB.o;omega));have agD:Hid (Fr B w w10):=xh (((HF8.o.tr (Fr.bel K9.o))).dY K10.o λx hx=>.inr (by have hx:x=g:=hx;have:=HGW.o;omega));have Zu:Hid (∀x,q=some ⟨x,0,none⟩→w.heap.size≤x∧x<w6.heap.size∧∃cs,Blk w6 x cs 9∧∀k,k<ls.length→cs[k]?=(ls.map Value.string)[k]?):=xh λx hx=>by
   subst hx;obtain⟨p',c',e,_,_,hp⟩:=aG O1.o;cases e
   rcases hp with⟨_,hp,_⟩|⟨g',hp,_,hl,hc,_⟩
   ·cases hp
   ·cases hp
    obtain⟨_,cs,hb⟩:=row_blk O1.o (g:=x) rfl;refine⟨UU.o x 0 rfl,hl,cs,hb,λk hk=>?_⟩;rw[←hb.cell];exact hc k (by simpa using hk)
  have HQS:Hid (0<ls.length→∃qb,q=some ⟨qb,0,none⟩):=xh λh0=>by
   obtain⟨p',c',e,_,_,hp⟩:=aG O1.o;cases e
   rcases hp with⟨h,_⟩|⟨g',hp,_⟩
   ·omega
   ·exact⟨g',hp⟩
  have HM0:Hid (IP q ls w10 0 w10):=xh ⟨λx hx=>by
   obtain⟨h1,h2,cs,hb,hc⟩:=Zu.o x hx;refine⟨cs,((Blk.bel (Gj hb (VL.o x h1 h2)) K9.o).keep K10.o λe=>?_),λk _ hk=>hc k hk⟩;have e:x=g:=e;subst e;exact hb.ne HG6.o (by decide) rfl,Keep.refl _ _⟩
  have Dt:Hid (∀s∈ls,s.size≤1048576):=xh (jW.o w (Below.refl _ _)).n3;have ai9:ls.length≤1000:=hll;go_upto_region 11 with fail
  go_loopw [11,12] (λok i wr=>∃j:Nat,j≤ls.length∧ok=.bool true∧i=.int .i64 j∧Hid (IP q ls w10 j wr)) (λ_ i _=>ls.length-(intOf i).toNat)
  case atStart=>exact⟨0,Nat.zero_le _,rfl,rfl,HM0⟩
  case round=>
   obtain⟨j,hj,rfl,rfl,HM⟩:=hrel;by_cases hlt:j<ls.length
   ·obtain⟨qb,rfl⟩:=HQS.o (by omega)
    obtain⟨cs,hcs,hcc⟩:=HM.out.1 qb rfl;obtain⟨sj,hsj⟩:∃sj,ls[j]?=some sj:=⟨_,bT hlt⟩;have hbw:Below B w wr:=O6.o.trans (HM.out.2.below B (bU HB.o O6.o.size) λx hx=>by
     have:=(Zu.o x hx).1;have:=HB.o;omega)
    obtain⟨g2,o2,rfl,hc2⟩:=(jW.o wr hbw).l _ _ hsj;have cw:wr.cell? ⟨qb,j,none⟩=some (.string sj):=by rw[hcs.cell,hcc j (bM _) hlt,fA,hsj];rfl
    have fw:=hcs.frozen j;have lw:=hcs.lt;have x7:wr.cell? (bx,7)=some (.slice (some ⟨g2,o2,none⟩) ls.length lc):=(aa5.o.keep HM.out.2 λe=>by
     cases e
     obtain⟨_,_,cs',hb',_⟩:=Zu.o bx rfl;exact HX6.o.ne hb' (by decide) rfl).cell 7
    have hss:(sj.toList==sj.toList)=true:=beq_self_eq_true _;have hj0:(0:Int)≤j:=by omega
    have hj1:(j:Int)<ls.length:=by omega
    have KQ:=xh (And.intro hcs hcc);clear hcs hcc hsj hbw;go_upto_region 13 with fail
    go_quiet (fail)
    have hbq:Bel wr (wr.drewN nq):=aj (Bel.refl _) nq;have HBq:=xh hbq;have cw:=af hbq cw;have fw:=((KQ.o.1).bel hbq).frozen j;have lw:=((KQ.o.1).bel hbq).lt;generalize wr.drewN nq=wq at *
    clear hbq x7 hc2;go_wp2_with fail
    go_roundw
    case rel=>exact⟨j+1,by omega,rfl,by go_num,xh (HM.out.next HBq.o _)⟩
    case measure=>simp[intOf]<;>omega
   ·obtain rfl:j=ls.length:=by omega
    have hbw:Below B w wr:=O6.o.trans (HM.out.2.below B (bU HB.o O6.o.size) λx hx=>by
     have:=(Zu.o x hx).1;have:=HB.o;omega)
    have HXr:Hid (X N M f (.slice uS zG uT) ev wr):=xh (HDC.o.keep agB.o (HM.out.2.mono λx hx=>⟨(Zu.o x hx).1,Nat.lt_of_lt_of_le (Zu.o x hx).2.1 HN6.o.2⟩));have hne:∀(x:Nat) (cs:List Value) (t:TypeId),Blk w6 x cs t→t≠9→¬q=some ⟨x,0,none⟩:=λx cs t hb ht e=>by
     obtain⟨_,_,cs',hb',_⟩:=Zu.o x e;exact hb.ne hb' ht rfl
    have LW:=xh (aa5.o.keep HM.out.2 (hne bx _ _ HX6.o (by decide)));have agE:=xh (adK.o.keep HM.out.2 (hne bc _ _ AL.o (by decide)));have HZr:=xh (agC.o.keep HM.out.2 λe=>by have:=(Zu.o bz e).2.1;have:=HBZ.o;omega);have HFr:Hid (Fr B w wr):=xh (agD.o.dY HM.out.2 λx hx=>.inr (Zu.o x hx).1);have jK:Hid (Calls prog 109 #[.agg #[.int .i64 ck,.int .i64 ca,.int .i64 cb,.string s,.slice lp ls.length lc,.slice dp dd.length dc]] wr λe w'=>∃LX LY,e=.returned (.agg #[.int .i64 ck,.int .i64 ca,.int .i64 cb,.string s,.slice lp ls.length lc,.slice LX dd.length LY])∧(zQ w' LX dd∧dd.length≤LY)∧Bel wr w'):=xh (Vz ⟨ck,ca,cb,s,ls,lp,lc,dd,dp,dc⟩ wr (jW.o wr hbw).cd (by show dd.length≤1048576;omega));have pV:=xh hbw;have x3:=LW.o.c 3 rfl;have x4:=LW.o.c 4 rfl;have x5:=LW.o.c 5 rfl;have x6:=LW.o.c 6 rfl;have x7:=LW.o.c 7 rfl;have x8:=LW.o.c 8 rfl;clear hbw hne;go_upto_region 16 with(go_at_call 109;((with_reducible refine aH jK.o ?_);rintro e11 yQ ⟨LX,LY,rfl,hby,k11⟩;have H11:=xh (And.intro hby k11);clear hby k11))
    have k12:Bel yQ (yQ.alloc (.cells #[.int .i64 ck,.int .i64 ca,.int .i64 cb,.string s,.slice lp ls.length lc,.slice LX dd.length LY] 264)):=Bel.start _ _;have B12:Blk (yQ.alloc (.cells #[.int .i64 ck,.int .i64 ca,.int .i64 cb,.string s,.slice lp ls.length lc,.slice LX dd.length LY] 264)) yQ.heap.size [.int .i64 ck,.int .i64 ca,.int .i64 cb,.string s,.slice lp ls.length lc,.slice LX dd.length LY] 264:=Blk.new yQ _ _;generalize yQ.alloc (.cells #[.int .i64 ck,.int .i64 ca,.int .i64 cb,.string s,.slice lp ls.length lc,.slice LX dd.length LY] 264)=w12 at *
    obtain⟨bq,hbq⟩:=e_x yQ.heap.size;rw[hbq]at B12⊢;have agF:=xh B12;have uQ:=xh (H11.o.2.tr k12);have zT:=xh (H11.o.1.1.bel k12);have HCP:=xh H11.o.1.2;have c0:=(agE.o.bel uQ.o).c 0 rfl;have aiQ:(ck==20)=false:=dK adI;clear x3 x4 x5 x6 x7 x8 k12 B12 hbq;go_upto_region 19 with fail
    clear c0;have kd:Bel w12 w12.drew:=Bel.drew (Bel.refl _);have adL:Hid (X N M f (.slice uS zG uT) ev w12.drew):=xh (HDC.o.keep HXr.o (Keep.of_bel _ (uQ.o.tr kd)));obtain⟨aja,ajb,adM⟩:=HDC.o.wb1 adL.o;have VM:Below B w w12.drew:=pV.o.trans ((uQ.o.tr kd).mono (bU HB.o pV.o.size));have adN:n1≤w12.drew.heap.size:=by
     have h1:=HN6.o.1;have h2:=K9.o.size;have h3:=K10.o.size;have h4:=HM.out.2.size;have h5:=(uQ.o.tr kd).size;omega
    have DD:Hid (Calls prog 111 #[rb,.int .i64 oa,.agg #[.int .i64 ck,.int .i64 ca,.int .i64 cb,.string s,.slice lp ls.length lc,.slice LX dd.length LY]] w12.drew (adH J wb tk rb B N M f (.slice uS zG uT) w12.drew)):=xh (HDC.o.doc (lp:=lp) (dp:=LX) (lc:=lc) (dc:=LY) adL.o adN (jW.o w12.drew VM).l (zT.o.bel kd) HCP.o);have adO:=xh (LW.o.bel (uQ.o.tr kd));have AO:=xh (agF.o.bel kd);have adP:=xh (HZr.o.bel (uQ.o.tr kd));have agG:Hid (w12.drew.cell? (wb,1)=some (.pointer (rb,0))∧w12.drew.cell? (bx,1)=some (.int .i64 oa)∧w12.drew.cell? (bq,0)=some (.int .i64 ck)∧w12.drew.cell? (bq,1)=some (.int .i64 ca)∧w12.drew.cell? (bq,2)=some (.int .i64 cb)∧w12.drew.cell? (bq,3)=some (.string s)∧w12.drew.cell? (bq,4)=some (.slice lp ls.length lc)∧w12.drew.cell? (bq,5)=some (.slice LX dd.length LY)):=xh ⟨adM.cell 1,adO.o.cell 1,AO.o.cell 0,AO.o.cell 1,AO.o.cell 2,AO.o.cell 3,AO.o.cell 4,AO.o.cell 5⟩;clear kd adM VM adN;go_region_held3 (λw'=>w'.cell? ⟨wb,1,none⟩=some (.pointer (rb,0))∧w'.cell? ⟨bx,1,none⟩=some (.int .i64 oa)∧w'.cell? ⟨bq,0,none⟩=some (.int .i64 ck)∧w'.cell? ⟨bq,1,none⟩=some (.int .i64 ca)∧w'.cell? ⟨bq,2,none⟩=some (.int .i64 cb)∧w'.cell? ⟨bq,3,none⟩=some (.string s)∧w'.cell? ⟨bq,4,none⟩=some (.slice lp ls.length lc)∧w'.cell? ⟨bq,5,none⟩=some (.slice LX dd.length LY)) (first|exact agG.o|exact agH.o|(go_keep;done)) (((go_at_call 111;((with_reducible refine aH DD.o ?_);rintro e13 O7 ⟨p13,q13,agI,abK,Zv,rfl,hdv,hb1,hb2,aa6,hf2,hf0,⟨ajc,agJ,abL⟩,k13,adQ⟩;have HDV:=xh hdv;have adR:=xh (adO.o.fr k13 (by unfold O9;decide));have QH:=xh (AO.o.fr k13 (by unfold O9;decide));have abM:=xh (adP.o.fr k13 (by unfold O9;decide));have agK:=xh abL;have agH:Hid (O7.cell? ⟨wb,1,none⟩=some (.pointer (rb,0))∧O7.cell? ⟨bx,1,none⟩=some (.int .i64 oa)∧O7.cell? ⟨bq,0,none⟩=some (.int .i64 ck)∧O7.cell? ⟨bq,1,none⟩=some (.int .i64 ca)∧O7.cell? ⟨bq,2,none⟩=some (.int .i64 cb)∧O7.cell? ⟨bq,3,none⟩=some (.string s)∧O7.cell? ⟨bq,4,none⟩=some (.slice lp ls.length lc)∧O7.cell? ⟨bq,5,none⟩=some (.slice LX dd.length LY)):=xh ⟨abL.cell 1,adR.o.cell 1,QH.o.cell 0,QH.o.cell 1,QH.o.cell 2,QH.o.cell 3,QH.o.cell 4,QH.o.cell 5⟩;have H13:=xh (And.intro hb1 (And.intro hb2 (And.intro aa6 (And.intro hf2 (And.intro hf0 (And.intro k13 adQ))))));clear hdv hb1 hb2 aa6 hf2 hf0 abL k13 adQ))))
    obtain⟨hd1,hd2,hd3⟩:uS=p13∧zG=Zv.length∧uT=agI:=by have h:=HDV.o;cases h;exact⟨rfl,rfl,rfl⟩
    subst hd1;subst hd2;subst hd3;have ajd:(f== -2)=false:=dK H13.o.2.2.2.1;have z2:=abM.o.c 2 rfl;have uB:=xh (nM uS q13 uT abK Zv O7 H13.o.1 H13.o.2.1 H13.o.2.2.1);go_upto_region 24 with(go_at_call 68;((with_reducible refine aH uB.o ?_);rintro e14 Zw ⟨rfl,nd,rfl⟩))
    have VN:Bel O7 (O7.drewN nd):=aj (Bel.refl _) nd;have abN:=xh VN;have z2':=af VN z2;generalize O7.drewN nd=Zw at *
    have QI:=agK.o.bel VN;have c2:=QI.c 2 rfl;have f2:=QI.frozen 2;have l2:=QI.lt;have hwz:wb≠bz:=QI.ne (abM.o.bel VN) (by decide);have hzw:bz≠wb:=λe=>hwz e.symm;have adS:=xh QI;clear z2 VN QI;go_upto_region 25 with fail
    have Zx:Blk (Zw.setCell (wb,2) (.slice uS Zv.length uT)) wb [tk,rb,(.slice uS Zv.length uT),agJ,false] 96:=adS.o.setCell (o:=2) _;have K15:=Keep.setCell Zw wb 2 (.slice uS Zv.length uT);have HJ:=xh (H13.o.2.2.2.2.2.2 Zw abN.o);have agL:=xh ((abM.o.bel abN.o).keep K15 λe=>hzw e);generalize Zw.setCell (wb,2) (.slice uS Zv.length uT)=w15 at *
    have c3:=Zx.c 3 rfl;have f3:=Zx.frozen 3;have l3:=Zx.lt;have agM:=xh K15;clear c2 f2 l2 z2' Zx K15;go_upto_region 26 with fail
    have K16:=Keep.setCell w15 wb 3 (.slice q13 Zv.length abK);have abO:=xh (agL.o.keep K16 λe=>hzw e);have agN:=xh (agM.o.tr K16);generalize w15.setCell (wb,3) (.slice q13 Zv.length abK)=w16 at *
    have y0:=abO.o.c 0 rfl;have y1:=abO.o.c 1 rfl;have y2:=abO.o.c 2 rfl;have Zy:Hid (J w16∧Fr B w w16):=xh ⟨HJ.o,(((HFr.o.tr (Fr.bel (uQ.o.tr (Bel.drew (Bel.refl _))))).tr H13.o.2.2.2.2.2.1).tr (Fr.bel abN.o)).tr (Fr.Gl agN.o λx hx=>by
     have hx:x=wb:=hx;subst hx;exact⟨HWB.o,_,_,adS.o,by unfold O9;decide⟩)⟩
    clear c3 f3 l3 K16;by_cases hfz:f=0
    ·have hfb:(f==0)=true:=by simpa using hfz
     clear hfz;go_wp2_with fail
     go_ret
     exact⟨rfl,Zy.o⟩
    ·have hfb:(f==0)=false:=dK hfz
     have hnil:=H13.o.2.2.2.2.1 hfz;have hL:Zv=[]:=by
      have h:=hnil
      injection h with _ h2 _
      exact List.eq_nil_of_length_eq_zero h2
     subst hL;obtain⟨hp1,hp2⟩:uS=none∧uT=0:=by injection hnil with h1 h2 h3;exact⟨h1,h3⟩
     subst hp1;subst hp2;have y2:w16.cell? (bz,2)=some (.slice none 0 0):=y2;clear hfz hnil;have hen:∀W,(binOp BinOp.eql 59 (.slice none 0 0) (.slice none 0 0)).run prog W=.ok (.bool true) W:=λW=>by kernel_rfl
     go_wp2_with fail
     go_ret
     exact⟨rfl,Zy.o⟩
end
end Go.Proofs.YtcnjjchlebmfiaaGreatDoor
