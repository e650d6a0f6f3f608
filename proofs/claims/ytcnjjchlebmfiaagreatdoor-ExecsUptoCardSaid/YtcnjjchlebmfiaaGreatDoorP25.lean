/-.-/
import Derived.Test.YtcnjjchlebmfiaaGreatDoorP20
set_option linter.all false
set_option maxRecDepth 100000
set_option maxHeartbeats 16000000
namespace Go.Proofs.YtcnjjchlebmfiaaGreatDoor
section
open Go.Proofs.Tryz Go.RowKit Go.MapKept Go.Maps
structure yY(w:World)(kb g cap:Nat)(ids:List Int):Prop where
 c5:w.cell? (kb,5)=some (.slice (g,0) ids.length cap)
 id:∀(j:Nat) (x:Int),ids[j]?=some x→w.cell? (g,j*31)=some (.int .i64 x)
 few:ids.length≤1000
theorem yY.bel{w w':World}{kb g cap:Nat}{ids:List Int}(h:yY w kb g cap ids)(k:Bel w w'):yY w' kb g cap ids:=⟨af k h.c5,λj x hj=>af k (h.id j x hj),h.few⟩
theorem Jp(kb g cap r:Nat)(ids:List Int)(pid:Int)(w:World)(h:yY w kb g cap ids)(hr:ids[r]?=some pid)(h1:∀j x,j<r→ids[j]?=some x→x≠pid) :
 Calls prog 62 #[kb,pid] w (Z.e (.int .i64 r) w):=by
 obtain⟨c5,hid,hfew⟩:=h;have hrl:=(bV hr).1;have HID:=xh (And.intro hid (And.intro hr h1));clear hid hr h1;go_enter func62,ntmps62;go_upto_region 2 with fail
 go_loopw [5] (λi wr=>∃j:Nat,i=.int .i64 j∧j≤r∧w=wr) (λi _=>ids.length-(intOf i).toNat)
 case atStart=>exact⟨0,rfl,Nat.zero_le _,rfl⟩
 case round=>
  obtain⟨j,rfl,hjr,rfl⟩:=hrel;have hjl:(j:Int)<ids.length:=by omega
  have hj0:(0:Int)≤j:=by omega
  obtain⟨y,hy⟩:∃y,ids[j]?=some y:=⟨_,bT (by omega)⟩;have hc:=HID.o.1 j y hy;have hw:((j:Int)*31)=((j*31:Nat):Int):=by omega
  by_cases e:j=r
  ·subst e
   have hy2:=HID.o.2.1;rw[hy]at hy2;cases hy2
   clear hy;go_wp2_with fail
   go_ret
   exact⟨rfl,rfl⟩
  ·have hne:(y==pid)=false:=dK (HID.o.2.2 j y (by omega) hy)
   clear hy;go_wp2_with fail
   go_roundw
   case rel=>exact⟨j+1,by go_num,by omega,trivial⟩
   case measure=>simp[intOf]<;>omega
theorem Bg(kb g cap:Nat)(ids:List Int)(pid:Int)(w:World)(h:yY w kb g cap ids)(h1:∀x∈ids,x≠pid) :
 Calls prog 62 #[kb,pid] w (Z.e (.int .i64 (-1)) w):=by
 obtain⟨c5,hid,hfew⟩:=h;have HID:=xh (And.intro hid h1);clear hid h1;go_enter func62,ntmps62;go_upto_region 2 with fail
 go_loopw [5] (λi wr=>∃j:Nat,i=.int .i64 j∧j≤ids.length∧w=wr) (λi _=>ids.length-(intOf i).toNat)
 case atStart=>exact⟨0,rfl,Nat.zero_le _,rfl⟩
 case round=>
  obtain⟨j,rfl,hjr,rfl⟩:=hrel;have hj0:(0:Int)≤j:=by omega
  by_cases hlt:j<ids.length
  ·have hjl:(j:Int)<ids.length:=by omega
   obtain⟨y,hy⟩:∃y,ids[j]?=some y:=⟨_,bT (by omega)⟩;have hc:=HID.o.1 j y hy;have hne:(y==pid)=false:=dK (HID.o.2 y (List.mem_of_getElem? hy));clear hy;go_wp2_with fail
   go_roundw
   case rel=>exact⟨j+1,by go_num,by omega,trivial⟩
   case measure=>simp[intOf]<;>omega
  ·obtain rfl:j=ids.length:=by omega
   go_wp2_with fail
   go_ret
   exact⟨rfl,rfl⟩
theorem SQ(kb g cap:Nat)(ids:List Int)(w:World)(h:yY w kb g cap ids)(hst:∀j,j<ids.length→∃st:Int,w.cell? (g,j*31+2)=some (.int .i64 st)∧st≠1) :
 Calls prog 66 #[kb] w (Z.e (.tuple #[]) w):=by
 obtain⟨c5,hid,hfew⟩:=h;have HST:=xh hst;clear hid hst;go_enter func66,ntmps66;go_upto_region 1 with fail
 go_loopw [2] (λi wr=>∃j:Nat,i=.int .i64 j∧j≤ids.length∧w=wr) (λi _=>ids.length-(intOf i).toNat)
 case atStart=>exact⟨0,rfl,Nat.zero_le _,rfl⟩
 case round=>
  obtain⟨j,rfl,hjr,rfl⟩:=hrel;have hj0:(0:Int)≤j:=by omega
  by_cases hlt:j<ids.length
  ·have hjl:(j:Int)<ids.length:=by omega
   obtain⟨st,hc,hs⟩:=HST.o j hlt;have hne:(st==1)=false:=dK hs;clear hs;go_wp2_with fail
   go_roundw
   case rel=>exact⟨j+1,by go_num,by omega,trivial⟩
   case measure=>simp[intOf]<;>omega
  ·obtain rfl:j=ids.length:=by omega
   go_wp2_with fail
   go_end0
   exact⟨rfl,rfl⟩
theorem BI(kd a b:Int)(s:ByteArray)(lp dp:Option Addr)(ln lc dn dc:Nat)(w:World):∃w1 bx,Hid (w.alloc (.cells #[kd,a,b,s,(lp,ln,lc),(dp,dn,dc)] 264)=w1∧w.heap.size=bx)∧Hid (Bel w w1)∧w1.cell? (bx,0)=some (.int .i64 kd)∧w1.cell? (bx,1)=some (.int .i64 a)∧w1.cell? (bx,2)=some (.int .i64 b)∧w1.cell? (bx,3)=some (.string s)∧w1.cell? (bx,4)=some (.slice lp ln lc)∧w1.cell? (bx,5)=some (.slice dp dn dc):=by
 have BX:=Blk.new w [kd,a,b,s,(lp,ln,lc),(dp,dn,dc)] 264;exact⟨_,_,xh ⟨rfl,rfl⟩,xh (Bel.start _ _),BX.cell 0,BX.cell 1,BX.cell 2,BX.cell 3,BX.cell 4,BX.cell 5⟩
theorem ZZ(kb:Nat)(pid:Int)(kd:Int)(a b:Int)(s:ByteArray)(lp dp:Option Addr)(ln lc dn dc:Nat)(w:World)(uH:∀W,Bel w W→Calls prog 62 #[kb,pid] W (Z.e (.int .i64 (-1)) W)) :
 Calls prog 111 #[kb,pid,.agg #[kd,a,b,s,(lp,ln,lc),(dp,dn,dc)]] w λe w'=>LZ w 18 e w':=by
 obtain⟨w1,bx,HE,K1,x0,x1,x2,x3,x4,x5⟩:=BI kd a b s lp dp ln lc dn dc w;have uk:=xh uH;clear uH;go_enter func111,ntmps111;go_upto_region 1 with fail
 rw[HE.out.1,HE.out.2];go_wp2_with (go_at_call 62;((with_reducible refine aH (uk.o _ K1.out) ?_);rintro e4 w4 ⟨rfl,rfl⟩))
 refine bodyPost_ret (v:=.tuple #[(0:Int),(0:Int),(),(18:Int)]) (by simp[results,results111,go_sem]) rfl ?_;exact⟨rfl,K1.out⟩
theorem RX(kb:Nat)(pid:Int)(kd st:Int)(a b:Int)(s:ByteArray)(lp dp:Option Addr)(ln lc dn dc:Nat)(g cap n i:Nat)(w:World)(c5:w.cell? (kb,5)=some (.slice (g,0) n cap))(hi:i<n)(hn:n≤1000)(h2:w.cell? (g,i*31+2)=some (.int .i64 st))(hst:st≠0)(uH:∀W,Bel w W→Calls prog 62 #[kb,pid] W (Z.e (.int .i64 i) W)) :
 Calls prog 111 #[kb,pid,.agg #[kd,a,b,s,(lp,ln,lc),(dp,dn,dc)]] w λe w'=>LZ w 24 e w':=by
 obtain⟨w1,bx,HE,K1,x0,x1,x2,x3,x4,x5⟩:=BI kd a b s lp dp ln lc dn dc w;have uk:=xh uH;clear uH;have H5:=xh λW (hW:Bel w W)=>And.intro (af hW c5) (af hW h2);clear c5 h2;have hi0:(0:Int)≤i:=by omega
 have hi1:(i:Int)<n:=by omega
 have hneg:decide ((i:Int)<0)=false:=by simp
 have hw:((i:Int)*31)=((i*31:Nat):Int):=by omega
 have hsb:(st != 0)=true:=bne_iff_ne.2 hst;go_enter func111,ntmps111;go_upto_region 1 with fail
 rw[HE.out.1,HE.out.2];obtain⟨c5,h2⟩:=H5.o _ K1.out;go_wp2_with (go_at_call 62;((with_reducible refine aH (uk.o _ K1.out) ?_);rintro e4 w4 ⟨rfl,rfl⟩))
 refine bodyPost_ret (v:=.tuple #[(0:Int),(0:Int),(),(24:Int)]) (by simp[results,results111,go_sem]) rfl ?_;exact⟨rfl,K1.out⟩
theorem WX(kb:Nat)(pid:Int)(kd:Int)(a b:Int)(s:ByteArray)(lp dp:Option Addr)(ln lc dn dc:Nat)(g cap n i:Nat)(w:World)(c5:w.cell? (kb,5)=some (.slice (g,0) n cap))(hi:i<n)(hn:n≤1000)(h2:w.cell? (g,i*31+2)=some (.int .i64 0))(hkd:kd<0∨62≤kd)(uH:∀W,Bel w W→Calls prog 62 #[kb,pid] W (Z.e (.int .i64 i) W)) :
 Calls prog 111 #[kb,pid,.agg #[kd,a,b,s,(lp,ln,lc),(dp,dn,dc)]] w λe w'=>LZ w 23 e w':=by
 obtain⟨w1,bx,HE,K1,x0,x1,x2,x3,x4,x5⟩:=BI kd a b s lp dp ln lc dn dc w;have uk:=xh uH;clear uH;have H5:=xh λW (hW:Bel w W)=>And.intro (af hW c5) (af hW h2);clear c5 h2;have hi0:(0:Int)≤i:=by omega
 have hi1:(i:Int)<n:=by omega
 have hneg:decide ((i:Int)<0)=false:=by simp
 have hw:((i:Int)*31)=((i*31:Nat):Int):=by omega
 have q1:(kd==1)=false:=dK (by omega);have q2:(kd==2)=false:=dK (by omega);have q3:(kd==3)=false:=dK (by omega);have q4:(kd==4)=false:=dK (by omega);have q5:(kd==5)=false:=dK (by omega);have q6:(kd==6)=false:=dK (by omega);have q7:(kd==7)=false:=dK (by omega);have q15:(kd==15)=false:=dK (by omega);have q16:(kd==16)=false:=dK (by omega);have q17:(kd==17)=false:=dK (by omega);have q18:(kd==18)=false:=dK (by omega);have q19:(kd==19)=false:=dK (by omega);have q8:(kd==8)=false:=dK (by omega);have q9:(kd==9)=false:=dK (by omega);have q10:(kd==10)=false:=dK (by omega);have q11:(kd==11)=false:=dK (by omega);have q12:(kd==12)=false:=dK (by omega);have q13:(kd==13)=false:=dK (by omega);have q14:(kd==14)=false:=dK (by omega);have q21:(kd==21)=false:=dK (by omega);clear hkd;go_enter func111,ntmps111;go_upto_region 1 with fail
 rw[HE.out.1,HE.out.2];obtain⟨c5,h2⟩:=H5.o _ K1.out;go_wp2_with (go_at_call 62;((with_reducible refine aH (uk.o _ K1.out) ?_);rintro e4 w4 ⟨rfl,rfl⟩))
 refine bodyPost_ret (v:=.tuple #[(0:Int),(0:Int),(),(23:Int)]) (by simp[results,results111,go_sem]) rfl ?_;exact⟨rfl,K1.out⟩
theorem abd(kb:Nat)(pid:Int)(a b:Int)(s:ByteArray)(lp dp:Option Addr)(ln lc dn dc:Nat)(g cap n i:Nat)(Q:Int→Int→World→Prop)(w:World)(c5:w.cell? (kb,5)=some (.slice (g,0) n cap))(hi:i<n)(hn:n≤1000)(h2:w.cell? (g,i*31+2)=some (.int .i64 0))(uH:∀W,Bel w W→Calls prog 62 #[kb,pid] W (Z.e (.int .i64 i) W))
 (hF:∀W,Bel w W→Calls prog 192 #[kb,.pointer (g,i*31)] W λe w'=>∃n f,e=.returned (.tuple #[.int .i64 n,.int .i64 f])∧Q n f w') :
 Calls prog 111 #[kb,pid,.agg #[(1:Int),a,b,s,(lp,ln,lc),(dp,dn,dc)]] w λe w'=>∃n f,e=.returned (.tuple #[.int .i64 n,(0:Int),(),.int .i64 f])∧Q n f w':=by
 obtain⟨w1,bx,HE,K1,x0,x1,x2,x3,x4,x5⟩:=BI 1 a b s lp dp ln lc dn dc w;have uk:=xh uH;clear uH;have H5:=xh λW (hW:Bel w W)=>And.intro (af hW c5) (af hW h2);clear c5 h2;have hi0:(0:Int)≤i:=by omega
 have hi1:(i:Int)<n:=by omega
 have hneg:decide ((i:Int)<0)=false:=by simp
 have hw:((i:Int)*31)=((i*31:Nat):Int):=by omega
 have HF:=xh hF;clear hF;go_enter func111,ntmps111;go_upto_region 1 with fail
 rw[HE.out.1,HE.out.2];obtain⟨c5,h2⟩:=H5.o _ K1.out;go_wp2_with (first|(go_at_call 62;((with_reducible refine aH (uk.o _ K1.out) ?_);rintro e4 w4 ⟨rfl,rfl⟩))|(go_at_call 192;((with_reducible refine aH (HF.o _ K1.out) ?_);rintro e6 w6 ⟨nn,f,rfl,q⟩;have HQ:=xh q;clear q)))
 refine bodyPost_ret (v:=.tuple #[.int .i64 nn,(0:Int),(),.int .i64 f]) (by simp[results,results111,go_sem]) rfl ?_;exact⟨_,_,rfl,HQ.o⟩
theorem abg(kb:Nat)(pid:Int)(a b:Int)(s:ByteArray)(lp dp:Option Addr)(ln lc dn dc:Nat)(g cap n i:Nat)(Q:Int→Int→World→Prop)(w:World)(c5:w.cell? (kb,5)=some (.slice (g,0) n cap))(hi:i<n)(hn:n≤1000)(h2:w.cell? (g,i*31+2)=some (.int .i64 0))(uH:∀W,Bel w W→Calls prog 62 #[kb,pid] W (Z.e (.int .i64 i) W))
 (hF:∀W,Bel w W→Calls prog 105 #[kb,.pointer (g,i*31),s,(lp,ln,lc)] W λe w'=>∃n f,e=.returned (.tuple #[.int .i64 n,.int .i64 f])∧Q n f w') :
 Calls prog 111 #[kb,pid,.agg #[(2:Int),a,b,s,(lp,ln,lc),(dp,dn,dc)]] w λe w'=>∃n f,e=.returned (.tuple #[.int .i64 n,(0:Int),(),.int .i64 f])∧Q n f w':=by
 obtain⟨w1,bx,HE,K1,x0,x1,x2,x3,x4,x5⟩:=BI 2 a b s lp dp ln lc dn dc w;have uk:=xh uH;clear uH;have H5:=xh λW (hW:Bel w W)=>And.intro (af hW c5) (af hW h2);clear c5 h2;have hi0:(0:Int)≤i:=by omega
 have hi1:(i:Int)<n:=by omega
 have hneg:decide ((i:Int)<0)=false:=by simp
 have hw:((i:Int)*31)=((i*31:Nat):Int):=by omega
 have HF:=xh hF;clear hF;go_enter func111,ntmps111;go_upto_region 1 with fail
 rw[HE.out.1,HE.out.2];obtain⟨c5,h2⟩:=H5.o _ K1.out;go_wp2_with (first|(go_at_call 62;((with_reducible refine aH (uk.o _ K1.out) ?_);rintro e4 w4 ⟨rfl,rfl⟩))|(go_at_call 105;((with_reducible refine aH (HF.o _ K1.out) ?_);rintro e6 w6 ⟨nn,f,rfl,q⟩;have HQ:=xh q;clear q)))
 refine bodyPost_ret (v:=.tuple #[.int .i64 nn,(0:Int),(),.int .i64 f]) (by simp[results,results111,go_sem]) rfl ?_;exact⟨_,_,rfl,HQ.o⟩
theorem Xb(kb:Nat)(pid:Int)(a b:Int)(s:ByteArray)(lp dp:Option Addr)(ln lc dn dc:Nat)(g cap n i:Nat)(Q:Int→Int→World→Prop)(w:World)(c5:w.cell? (kb,5)=some (.slice (g,0) n cap))(hi:i<n)(hn:n≤1000)(h2:w.cell? (g,i*31+2)=some (.int .i64 0))(uH:∀W,Bel w W→Calls prog 62 #[kb,pid] W (Z.e (.int .i64 i) W))
 (hF:∀W,Bel w W→Calls prog 196 #[kb,.pointer (g,i*31),a] W λe w'=>∃n f,e=.returned (.tuple #[.int .i64 n,.int .i64 f])∧Q n f w') :
 Calls prog 111 #[kb,pid,.agg #[(17:Int),a,b,s,(lp,ln,lc),(dp,dn,dc)]] w λe w'=>∃n f,e=.returned (.tuple #[.int .i64 n,(0:Int),(),.int .i64 f])∧Q n f w':=by
 obtain⟨w1,bx,HE,K1,x0,x1,x2,x3,x4,x5⟩:=BI 17 a b s lp dp ln lc dn dc w;have uk:=xh uH;clear uH;have H5:=xh λW (hW:Bel w W)=>And.intro (af hW c5) (af hW h2);clear c5 h2;have hi0:(0:Int)≤i:=by omega
 have hi1:(i:Int)<n:=by omega
 have hneg:decide ((i:Int)<0)=false:=by simp
 have hw:((i:Int)*31)=((i*31:Nat):Int):=by omega
 have HF:=xh hF;clear hF;go_enter func111,ntmps111;go_upto_region 1 with fail
 rw[HE.out.1,HE.out.2];obtain⟨c5,h2⟩:=H5.o _ K1.out;go_wp2_with (first|(go_at_call 62;((with_reducible refine aH (uk.o _ K1.out) ?_);rintro e4 w4 ⟨rfl,rfl⟩))|(go_at_call 196;((with_reducible refine aH (HF.o _ K1.out) ?_);rintro e6 w6 ⟨nn,f,rfl,q⟩;have HQ:=xh q;clear q)))
 refine bodyPost_ret (v:=.tuple #[.int .i64 nn,(0:Int),(),.int .i64 f]) (by simp[results,results111,go_sem]) rfl ?_;exact⟨_,_,rfl,HQ.o⟩
theorem W9(kb:Nat)(pid:Int)(a b:Int)(s:ByteArray)(lp dp:Option Addr)(ln lc dn dc:Nat)(g cap n i:Nat)(Q:Int→Int→World→Prop)(w:World)(c5:w.cell? (kb,5)=some (.slice (g,0) n cap))(hi:i<n)(hn:n≤1000)(h2:w.cell? (g,i*31+2)=some (.int .i64 0))(uH:∀W,Bel w W→Calls prog 62 #[kb,pid] W (Z.e (.int .i64 i) W))
 (hF:∀W,Bel w W→Calls prog 198 #[kb,.pointer (g,i*31),.agg #[(19:Int),a,b,s,(lp,ln,lc),(dp,dn,dc)]] W λe w'=>∃n f,e=.returned (.tuple #[.int .i64 n,.int .i64 f])∧Q n f w') :
 Calls prog 111 #[kb,pid,.agg #[(19:Int),a,b,s,(lp,ln,lc),(dp,dn,dc)]] w λe w'=>∃n f,e=.returned (.tuple #[.int .i64 n,(0:Int),(),.int .i64 f])∧Q n f w':=by
 obtain⟨w1,bx,HE,K1,x0,x1,x2,x3,x4,x5⟩:=BI 19 a b s lp dp ln lc dn dc w;have uk:=xh uH;clear uH;have H5:=xh λW (hW:Bel w W)=>And.intro (af hW c5) (af hW h2);clear c5 h2;have hi0:(0:Int)≤i:=by omega
 have hi1:(i:Int)<n:=by omega
 have hneg:decide ((i:Int)<0)=false:=by simp
 have hw:((i:Int)*31)=((i*31:Nat):Int):=by omega
 have HF:=xh hF;clear hF;go_enter func111,ntmps111;go_upto_region 1 with fail
 rw[HE.out.1,HE.out.2];obtain⟨c5,h2⟩:=H5.o _ K1.out;go_wp2_with (first|(go_at_call 62;((with_reducible refine aH (uk.o _ K1.out) ?_);rintro e4 w4 ⟨rfl,rfl⟩))|(go_at_call 198;((with_reducible refine aH (HF.o _ K1.out) ?_);rintro e6 w6 ⟨nn,f,rfl,q⟩;have HQ:=xh q;clear q)))
 refine bodyPost_ret (v:=.tuple #[.int .i64 nn,(0:Int),(),.int .i64 f]) (by simp[results,results111,go_sem]) rfl ?_;exact⟨_,_,rfl,HQ.o⟩
theorem abe(kb:Nat)(pid:Int)(a b:Int)(s:ByteArray)(lp dp:Option Addr)(ln lc dn dc:Nat)(g cap n i:Nat)(Q:Int→Int→Option Addr→Nat→Nat→Int→World→Prop)(w:World)(c5:w.cell? (kb,5)=some (.slice (g,0) n cap))(hi:i<n)(hn:n≤1000)(h2:w.cell? (g,i*31+2)=some (.int .i64 0))(uH:∀W,Bel w W→Calls prog 62 #[kb,pid] W (Z.e (.int .i64 i) W))
 (hF:∀W,Bel w W→Calls prog 194 #[kb,pid] W (VO Q)) :
 Calls prog 111 #[kb,pid,.agg #[(4:Int),a,b,s,(lp,ln,lc),(dp,dn,dc)]] w λe w'=>VO Q e w':=by
 obtain⟨w1,bx,HE,K1,x0,x1,x2,x3,x4,x5⟩:=BI 4 a b s lp dp ln lc dn dc w;have uk:=xh uH;clear uH;have H5:=xh λW (hW:Bel w W)=>And.intro (af hW c5) (af hW h2);clear c5 h2;have hi0:(0:Int)≤i:=by omega
 have hi1:(i:Int)<n:=by omega
 have hneg:decide ((i:Int)<0)=false:=by simp
 have hw:((i:Int)*31)=((i*31:Nat):Int):=by omega
 have HF:=xh hF;clear hF;go_enter func111,ntmps111;go_upto_region 1 with fail
 rw[HE.out.1,HE.out.2];obtain⟨c5,h2⟩:=H5.o _ K1.out;go_wp2_with (first|(go_at_call 62;((with_reducible refine aH (uk.o _ K1.out) ?_);rintro e4 w4 ⟨rfl,rfl⟩))|(go_at_call 194;((with_reducible refine aH (HF.o _ K1.out) ?_);rintro e6 w6 ⟨nn,m,p,l,c,f,rfl,q⟩;have HQ:=xh q;clear q)))
 refine bodyPost_ret (v:=.tuple #[.int .i64 nn,.int .i64 m,.slice p l c,.int .i64 f]) (by simp[results,results111,go_sem]) rfl ?_;exact⟨_,_,_,_,_,_,rfl,HQ.o⟩
theorem WY(kb:Nat)(pid:Int)(a b:Int)(s:ByteArray)(lp dp:Option Addr)(ln lc dn dc:Nat)(g cap n i:Nat)(Q:Int→Int→Option Addr→Nat→Nat→Int→World→Prop)(w:World)(c5:w.cell? (kb,5)=some (.slice (g,0) n cap))(hi:i<n)(hn:n≤1000)(h2:w.cell? (g,i*31+2)=some (.int .i64 0))(uH:∀W,Bel w W→Calls prog 62 #[kb,pid] W (Z.e (.int .i64 i) W))
 (hF:∀W,Bel w W→Calls prog 197 #[kb,.pointer (g,i*31),.agg #[(18:Int),a,b,s,(lp,ln,lc),(dp,dn,dc)]] W (VO Q)) :
 Calls prog 111 #[kb,pid,.agg #[(18:Int),a,b,s,(lp,ln,lc),(dp,dn,dc)]] w λe w'=>VO Q e w':=by
 obtain⟨w1,bx,HE,K1,x0,x1,x2,x3,x4,x5⟩:=BI 18 a b s lp dp ln lc dn dc w;have uk:=xh uH;clear uH;have H5:=xh λW (hW:Bel w W)=>And.intro (af hW c5) (af hW h2);clear c5 h2;have hi0:(0:Int)≤i:=by omega
 have hi1:(i:Int)<n:=by omega
 have hneg:decide ((i:Int)<0)=false:=by simp
 have hw:((i:Int)*31)=((i*31:Nat):Int):=by omega
 have HF:=xh hF;clear hF;go_enter func111,ntmps111;go_upto_region 1 with fail
 rw[HE.out.1,HE.out.2];obtain⟨c5,h2⟩:=H5.o _ K1.out;go_wp2_with (first|(go_at_call 62;((with_reducible refine aH (uk.o _ K1.out) ?_);rintro e4 w4 ⟨rfl,rfl⟩))|(go_at_call 197;((with_reducible refine aH (HF.o _ K1.out) ?_);rintro e6 w6 ⟨nn,m,p,l,c,f,rfl,q⟩;have HQ:=xh q;clear q)))
 refine bodyPost_ret (v:=.tuple #[.int .i64 nn,.int .i64 m,.slice p l c,.int .i64 f]) (by simp[results,results111,go_sem]) rfl ?_;exact⟨_,_,_,_,_,_,rfl,HQ.o⟩
theorem ab2(kb:Nat)(pid:Int)(a b:Int)(s:ByteArray)(lp dp:Option Addr)(ln lc dn dc:Nat)(g cap n i:Nat)(w:World)(c5:w.cell? (kb,5)=some (.slice (g,0) n cap))(hi:i<n)(hn:n≤1000)(h2:w.cell? (g,i*31+2)=some (.int .i64 0))(hp:pid=1)(uH:∀W,Bel w W→Calls prog 62 #[kb,pid] W (Z.e (.int .i64 i) W)) :
 Calls prog 111 #[kb,pid,.agg #[(3:Int),a,b,s,(lp,ln,lc),(dp,dn,dc)]] w λe w'=>LZ w 18 e w':=by
 obtain⟨w1,bx,HE,K1,x0,x1,x2,x3,x4,x5⟩:=BI 3 a b s lp dp ln lc dn dc w;have uk:=xh uH;clear uH;have H5:=xh λW (hW:Bel w W)=>And.intro (af hW c5) (af hW h2);clear c5 h2;have hi0:(0:Int)≤i:=by omega
 have hi1:(i:Int)<n:=by omega
 have hneg:decide ((i:Int)<0)=false:=by simp
 have hw:((i:Int)*31)=((i*31:Nat):Int):=by omega
 subst hp;go_enter func111,ntmps111;go_upto_region 1 with fail
 rw[HE.out.1,HE.out.2];obtain⟨c5,h2⟩:=H5.o _ K1.out;go_wp2_with (go_at_call 62;((with_reducible refine aH (uk.o _ K1.out) ?_);rintro e4 w4 ⟨rfl,rfl⟩))
 refine bodyPost_ret (v:=.tuple #[(0:Int),(0:Int),(),(18:Int)]) (by simp[results,results111,go_sem]) rfl ?_;exact⟨rfl,K1.out⟩
theorem aea(kb:Nat)(pid:Int)(a b:Int)(s:ByteArray)(lp dp:Option Addr)(ln lc dn dc:Nat)(g cap n i:Nat)(R:World→Prop)(w:World)(c5:w.cell? (kb,5)=some (.slice (g,0) n cap))(hi:i<n)(hn:n≤1000)(h2:w.cell? (g,i*31+2)=some (.int .i64 0))(hp:pid≠1)(uH:∀W,Bel w W→Calls prog 62 #[kb,pid] W (Z.e (.int .i64 i) W))
 (hF:∀W,Bel w W→Calls prog 193 #[kb,pid,.int .i64 (uA a%256)] W λe w'=>e=.returned (.tuple #[])∧R w') :
 Calls prog 111 #[kb,pid,.agg #[(3:Int),a,b,s,(lp,ln,lc),(dp,dn,dc)]] w λe w'=>e=.returned (.tuple #[(0:Int),(0:Int),(),(0:Int)])∧R w':=by
 obtain⟨w1,bx,HE,K1,x0,x1,x2,x3,x4,x5⟩:=BI 3 a b s lp dp ln lc dn dc w;have uk:=xh uH;clear uH;have H5:=xh λW (hW:Bel w W)=>And.intro (af hW c5) (af hW h2);clear c5 h2;have hi0:(0:Int)≤i:=by omega
 have hi1:(i:Int)<n:=by omega
 have hneg:decide ((i:Int)<0)=false:=by simp
 have hw:((i:Int)*31)=((i*31:Nat):Int):=by omega
 have HF:=xh hF;have hpe:(pid != 1)=true:=bne_iff_ne.2 hp;have hwu:=lS a;have hw2:wrap64 ((uA a).tmod 256)=uA a%256:=by rw[Int.tmod_eq_emod_of_nonneg (kQ a).1];unfold wrap64;omega
 clear hF hp;go_enter func111,ntmps111;go_upto_region 1 with fail
 rw[HE.out.1,HE.out.2];obtain⟨c5,h2⟩:=H5.o _ K1.out;go_wp2_with (first|(go_at_call 62;((with_reducible refine aH (uk.o _ K1.out) ?_);rintro e4 w4 ⟨rfl,rfl⟩))|(go_at_call 193;((with_reducible refine aH (HF.o _ K1.out) ?_);rintro e6 w6 ⟨rfl,q⟩;have HQ:=xh q;clear q)))
 refine bodyPost_ret (v:=.tuple #[(0:Int),(0:Int),(),(0:Int)]) (by simp[results,results111,go_sem]) rfl ?_;exact⟨rfl,HQ.o⟩
theorem bZ{P:Program}{w:World}{base:Nat}{e:TypeId}{size:Nat}{v:Value}{n:Nat}{xs:List Value}{ops:Array Oper}{rest:List Oper}{o:Oper}{a:Act}{Q:Exit→Act→World→Prop}(hgd:o.guard=none)(s x:Operand)(t:TypeId)
 (ho:o.op=.call {callee:=.builtin .append,args:= #[s,x],argTypes:= #[t,t]}){bytes:Nat}(ht:P.underlying t=some (.slice e))
 (hi:(P.info? e).map (λi=>(i.size,i.bytes,(i.zero.map (·.cells.size))))=some (size,bytes,some size))(hsz:0<size)
 (hs:a.eval s=v)(hown:w.ownsRow base e size v n xs)(g f m c:Nat)(cs:List Value)(hx:a.eval x=.slice (g,f) m c)(hB:∀j u,cs[j]?=some u→w.cell? ⟨g,f+j,none⟩=some u)(hl:cs.length=m*size)(h1:∀u∈cs,u.oneCell'=true)
 (h63:n+m≤maxLen)(hbytes:(n+m)*bytes≤140737488355328)(hbase:base≤w.heap.size)
 (h:∀p cp w',w'.ownsRow base e size (.slice p (n+m) cp) (n+m) (xs++cs)→Keep (λq=>v.ownBlock=some q) w w'→wpList P ops Q rest (a.put o.dst (.slice p (n+m) cp)) w'):wpList P ops Q (o::rest) a w:=by
 obtain⟨i,z,hi,hz,e1,e2,e3⟩:=info_of hi;refine wpList_append_own w hgd s x t ho base e i z size bytes ht hi hz e1 e2 e3 hsz v n xs hs hown ⟨g,f,none⟩ m c cs hx hl (λj u hj=>?_) h1 h63 hbytes hbase λv' w' k1 k2 _=>?_
 ·rw[Addr.add_mid]
  exact hB j u hj
 ·obtain⟨p,cp,rfl,_⟩:=aG k1
  exact h p cp w' k1 ⟨k2.os,k2.tape,k2.output,k2.size,λk hk hn=>k2.block k hk λe=>hn e.symm⟩
structure abl(w:World)(kb g cap A:Nat)(ks CS qc:List Value)(ids:List Int)(pid:Int):Prop where
 hk:Blk w kb ks 174
 k5:ks[5]?=some (.slice (g,0) ids.length cap)
 id:∀(j:Nat) (x:Int),ids[j]?=some x→CS[j*31]?=some (.int .i64 x)
 few:ids.length≤1000
 cap:ids.length≤cap
 cl:CS.length=ids.length*31
 cell:∀(j:Nat) (u:Value),CS[j]?=some u→w.cell? ⟨g,j,none⟩=some u
 one:∀u∈CS,u.oneCell'=true
 ql:qc.length=31
 q1:∀u∈qc,u.oneCell'=true
 q0:qc[0]?=some (.int .i64 pid)
 al:A≤ids.length
 lt:∀(j:Nat) (x:Int),j<A→ids[j]?=some x→x<pid
 ge:∀x,ids[A]?=some x→¬x<pid
 gk:g≠kb
theorem JF(kb g cap A:Nat)(ks CS qc:List Value)(ids:List Int)(pid:Int)(w:World)(h:abl w kb g cap A ks CS qc ids pid) :
 Calls prog 266 #[kb,.agg qc.toArray] w λe w'=>e=.returned (.tuple #[])∧∃v,w'.ownsRow w.heap.size 167 31 v (ids.length+1) (CS.take (A*31)++qc++CS.drop (A*31))∧Blk w' kb (ks.set 5 v) 174∧Keep (λq=>q=kb) w w':=by
 have few:=h.few;have hat:=h.al;have hcap:=h.cap;have k1:Bel w (w.alloc (.cells qc.toArray 167)):=Bel.start w _;have HB1:=xh (Blk.new w qc 167);change Hid (Blk (w.alloc (.cells qc.toArray 167)) w.heap.size qc _)at HB1
 have bP:=xh k1;have H:=xh h;obtain⟨n,hn⟩:=e_x ids.length;have HN:=xh hn;rw[hn]at few hat hcap⊢;clear h k1 hn;go_enter func266,ntmps266;go_upto_region 2 with fail
 generalize hw1:w.alloc (.cells qc.toArray 167)=w1 at *
 clear hw1;obtain⟨bq,hbq⟩:=e_x w.heap.size;rw[hbq]at HB1⊢;have yt:=xh hbq;clear hbq
 go_loopw [4] (λi wr=>∃j:Nat,j≤A∧i=.int .i64 j∧Hid (Bel w1 wr)) (λi _=>n-(intOf i).toNat)
 case atStart=>exact⟨0,Nat.zero_le _,rfl,xh (Bel.refl _)⟩
 case round=>
  obtain⟨j,hj,rfl,HW⟩:=hrel;obtain⟨wo,hwo⟩:∃W,W=wr:=⟨_,rfl⟩;subst hwo;have hj0:(0:Int)≤j:=by omega
  have kw:=bP.o.tr HW.out;have c5:wo.cell? (kb,5)=some (.slice (g,0) n cap):=((H.o.hk.bel kw).cell 5).trans (by rw[←HN.o];exact H.o.k5);have q0:wo.cell? (bq,0)=some (.int .i64 pid):=((HB1.o.bel HW.out).cell 0).trans H.o.q0;have hkl:=World.block_lt_of_cell? _ _ c5;have Xr:=World.block_lt_of_cell? _ _ q0;have hw:((j:Int)*31)=((j*31:Nat):Int):=by omega
  go_upto_region 2 with fail
  by_cases hlt:j<A
  ·have hjn:(j:Int)<n:=by omega
   obtain⟨y,hy⟩:∃y,ids[j]?=some y:=⟨_,bT (by rw[HN.o];omega)⟩;have hc:wo.cell? (g,j*31)=some (.int .i64 y):=af kw (H.o.cell _ _ (H.o.id j y hy));have hgl:=World.block_lt_of_cell? _ _ hc;have hyp:decide (y<pid)=true:=decide_eq_true (H.o.lt j y hlt hy);clear hy;go_quiet (fail)
   have HQ:=xh (aj (Bel.refl wo) nq);generalize wo.drewN nq=w4 at *
   go_wp2_with fail
   go_roundw
   case rel=>exact⟨j+1,by omega,by go_num,xh (HW.out.tr HQ.o)⟩
   case measure=>simp[intOf]<;>omega
  ·obtain rfl:j=A:=by omega
   have hcells:∀W,Bel wo W→∀i u,CS[i]?=some u→W.cell? ⟨g,i,none⟩=some u:=λW hW i u hi=>af hW (af kw (H.o.cell i u hi));have jK:=xh hcells;have UU:=xh (HB1.o.bel HW.out);have HKB:=xh (And.intro (H.o.hk.bel kw) kw);have ajp:kb<bq:=by have:=H.o.hk.lt;have:=yt.o;omega
   have hdl:(CS.drop (j*31)).length=(n-j)*31:=by rw[List.length_drop,H.o.cl,HN.o,Nat.sub_mul]
   have htl:(CS.take (j*31)).length=j*31:=by rw[List.length_take,H.o.cl,HN.o];exact Nat.min_eq_left (by omega)
   have HLN:=xh (And.intro htl hdl);clear hcells kw htl hdl;have hcs:(j<n∧¬cap=j)∨(¬j<n∧cap=j)∨(¬j<n∧¬cap=j):=by omega
   rcases hcs with⟨hjn,hcj⟩|⟨hjn,hcj⟩|⟨hjn,hcj⟩
   case' inl=>
    have aeD:(j:Int)<n:=by omega
    obtain⟨y,hy⟩:∃y,ids[j]?=some y:=⟨_,bT (by rw[HN.o];omega)⟩;have hc:wo.cell? (g,j*31)=some (.int .i64 y):=jK.o _ (Bel.refl _) _ _ (H.o.id j y hy);have hgl:=World.block_lt_of_cell? _ _ hc;have hyp:decide (y<pid)=false:=decide_eq_false (H.o.ge y hy);clear hy;go_quiet (fail)
    have HCJ:Hid ((if cap=j then 0 else j*31)=j*31):=xh (if_neg hcj);clear hc
   case' inr.inl=>
    have aeD:decide ((j:Int)<n)=false:=decide_eq_false (by omega);go_quiet (fail)
    have HCJ:Hid ((if cap=j then 0 else j*31)=0):=xh (if_pos hcj)
   case' inr.inr=>
    have aeD:decide ((j:Int)<n)=false:=decide_eq_false (by omega);go_quiet (fail)
    have HCJ:Hid ((if cap=j then 0 else j*31)=j*31):=xh (if_neg hcj)
   all_goals
    have HQ:=xh (aj (Bel.refl wo) nq);have c5:=af (aj (Bel.refl wo) nq) c5;generalize wo.drewN nq=w4 at *
    clear q0;have hjc:(j:Int)≤cap:=by omega
    have ahl:bq≤w4.heap.size:=by have:=(UU.o.bel HQ.o).lt;omega
    go_upto_region 6 with(refine bZ (base:=bq) (v:=.slice none 0 0) (n:=0) (xs:=[]) (size:=31) (bytes:=264) rfl (.tmp 28) (.tmp 34) 168 rfl underlying168 gq (by omega) rfl (World.ownsRow_nil _ _ _ _) g 0 j _ (CS.take (j*31)) rfl (λi u hi=>by rw[Nat.zero_add];rw[List.getElem?_take]at hi;split at hi;exact jK.o _ HQ.o _ _ hi;cases hi) HLN.o.1 (λu hu=>H.o.one u (List.mem_of_mem_take hu)) (by unfold maxLen;omega) (by omega) ahl ?_;intro p5 cp5 w5 R5 K5;rw[Nat.zero_add,List.nil_append]at R5;rw[Nat.zero_add];have HR5:=xh R5;have pX:Hid (Bel w4 w5):=xh (K5.below _ (bM _) (λk hk=>absurd (show(none:Option Nat)=some k from hk) (λh=>by cases h)));clear R5 K5)
    have aan:=xh ((UU.o.bel HQ.o).bel pX.o);have ahm:=xh ((HKB.o.1.bel HQ.o).bel pX.o);have hqr:w5.rangeAt bq 0 qc:=by have:=aan.o.range 0;simpa using this
    have HQR:=xh hqr;have ajq:=aan.o.lt;clear hqr c5;have hob:∀q:Nat,(Value.slice p5 j cp5).ownBlock=some q→bq≤q:=λq hq=>(row_blk HR5.o hq).1;have HOB:=xh hob;clear hob
    go_upto_region 7 with(first
     | (refine wpList_load_mid rfl 167 (.tmp 3) rfl bq 0 rfl qc _ HQR.o underlying167 rfl (by rw[H.o.ql];exact gY) ?_)
     | (refine au rfl 168 167 (.tmp 37) rfl qc rfl underlying168 (by rw[H.o.ql];exact gq) (by rw[H.o.ql];omega) (by rw[H.o.ql];omega) ?_;intro w6 B6 K6;have AL:Hid (Blk w6 w5.heap.size qc 167):=B6;have mG:Hid (Bel w5 w6):=xh K6;clear B6 K6)
     | (refine bZ (base:=bq) (v:=.slice p5 j cp5) (n:=j) (xs:=CS.take (j*31)) (size:=31) (bytes:=264) rfl (.tmp 36) (.tmp 38) 168 rfl underlying168 gq (by omega) rfl (aO HR5.o mG.o) w5.heap.size 0 1 1 qc rfl (λi u hi=>by rw[Nat.zero_add,AL.o.cell];exact hi) (by rw[H.o.ql]) H.o.q1 (by unfold maxLen;omega) (by omega) (bU (by omega) mG.o.size) ?_;intro p7 cp7 w7 R7 K7;have HR7:=xh R7;have I4:=xh K7;clear R7 K7))
    have k46:Bel wo w6:=(HQ.o.tr pX.o).tr mG.o;have B7:=(ahm.o.bel mG.o).keep I4.o (λe=>by have:=HOB.o _ e;omega);have c5:w7.cell? (kb,5)=some (.slice (g,0) n cap):=(B7.cell 5).trans (by rw[←HN.o];exact H.o.k5);have f5:=B7.frozen 5;have ajr:=B7.lt;have hg7:∀i u,CS[i]?=some u→w7.cell? ⟨g,i,none⟩=some u:=λi u hi=>by
     have h1:=jK.o w6 k46 i u hi;refine(I4.o.cell ⟨g,i,none⟩ (World.block_lt_of_cell? _ _ h1) (λe=>?_)).trans h1;have h2:g<w.heap.size:=World.block_lt_of_cell? _ _ (H.o.cell i u hi);have:=HOB.o g e;have:=yt.o;omega
    have HG7:=xh hg7;have zH:=xh B7;have h67:bq≤w6.heap.size:=by have:=mG.o.size;omega
    have k7:Keep (λq=>bq≤q) w4 w7:=((Keep.of_bel _ (pX.o.tr mG.o)).tr (I4.o.mono λq hq=>HOB.o q hq));have ahn:=xh k7;have aeE:∀q:Nat,(Value.slice p7 (j+1) cp7).ownBlock=some q→bq≤q:=λq hq=>(row_blk HR7.o hq).1;have aeF:=xh aeE;clear hg7 B7 k46 k7 aeE;go_upto_region 8 with(refine bZ (base:=bq) (v:=.slice p7 (j+1) cp7) (n:=j+1) (xs:=CS.take (j*31)++qc) (size:=31) (bytes:=264) rfl (.tmp 40) (.tmp 46) 168 rfl underlying168 gq (by omega) rfl HR7.o g (if cap=j then 0 else j*31) (n-j) _ (CS.drop (j*31)) (by rw[HCJ.o];rfl) (λi u hi=>by rw[List.getElem?_drop]at hi;rw[HCJ.o];first|exact HG7.o _ _ hi|(have h1:=(bV hi).1;rw[H.o.cl,HN.o]at h1;omega)) HLN.o.2 (λu hu=>H.o.one u (List.mem_of_mem_drop hu)) (by unfold maxLen;omega) (by omega) (by have:=I4.o.size;omega) ?_;intro p8 cp8 w8 R8 K8;have VL:=xh R8;have Gu:=xh K8;clear R8 K8)
    have hsum:j+1+(n-j)=n+1:=by omega
    have B8:=zH.o.keep Gu.o (λe=>by have:=aeF.o _ e;omega);obtain⟨v5,h5⟩:∃v,w8.cell? (kb,5)=some v:=⟨_,(B8.cell 5).trans (by rw[H.o.k5])⟩;have f5:=B8.frozen 5;have aco:=B8.lt;have zI:=xh B8;have uB:=xh hsum;clear c5 B8 hsum;go_wp2_with fail
    go_end0
    have hk8:Keep (λq=>bq≤q) wo w8:=((Keep.of_bel _ HQ.o).tr ahn.o).tr (Gu.o.mono λq hq=>aeF.o q hq);have hkw:Keep (λq=>q=kb) w w8:=(Keep.of_bel _ HKB.o.2).dY hk8 λi hi=>.inr (by rw[yt.o];exact hi);have hr8:=VL.o;rw[uB.o,List.append_assoc]at hr8;exact⟨rfl,_,by rw[uB.o,yt.o];exact dG hr8 (Keep.setCell w8 kb 5 _) (λq hq e=>by have e:q=kb:=e;omega),zI.o.setCell (o:=5) _,hkw.tr (Keep.setCell _ _ _ _)⟩
def rowAt(CS:List Value)(i:Nat):List Value:=(CS.drop (i*31)).take 31
theorem tJ{CS:List Value}{n i:Nat}(h:CS.length=n*31)(hi:i<n):(rowAt CS i).length=31:=by
 unfold rowAt;rw[List.length_take,List.length_drop,h];have:i*31+31≤n*31:=by have:=Nat.mul_le_mul_right 31 (show i+1≤n by omega);omega
 omega
theorem jI{CS:List Value}{i j:Nat}(hj:j<31):(rowAt CS i)[j]?=CS[i*31+j]?:=by
 unfold rowAt;rw[List.getElem?_take_of_lt hj,List.getElem?_drop]
theorem BJ{m:ax}(h:bF m):(aQ m).length=(ag m).length*258:=by
 unfold aQ;have key:∀l:List Nat,(l.flatMap λn=>ak n ((m n).getD Pg.zero)).length=l.length*258:=λl=>by
  induction l with
  | nil=>rfl
  | cons n l ih=>
    rw[List.flatMap_cons,List.length_append,ih,List.length_cons,Nat.add_mul];have:(ak n ((m n).getD Pg.zero)).length=258:=by
     cases e:m n with
     | none=>simp[ak,Pg.zero]
     | some p=>simp[ak,(h.wf n p e).len]
    omega
 exact key _
theorem ve(m:ax):∀u∈aQ m,u.oneCell'=true:=λu hu=>by
 obtain⟨n,_,h⟩:=List.mem_flatMap.1 hu;simp only[ak,List.mem_cons,List.mem_map]at h
 rcases h with rfl|rfl|⟨x,_,rfl⟩<;>rfl
structure Z7(w:World)(kb g cap i:Nat)(ks CS:List Value)(ids:List Int)(own lim mf:Int)(m:ax)(pv:Value):Prop where
 hk:Blk w kb ks 174
 k0:ks[0]?=some (.int .i64 lim)
 k1:ks[1]?=some (.int .i64 mf)
 k5:ks[5]?=some (.slice (g,0) ids.length cap)
 id:∀(j:Nat) (x:Int),ids[j]?=some x→CS[j*31]?=some (.int .i64 x)
 few:ids.length≤1000
 cap:ids.length≤cap
 cl:CS.length=ids.length*31
 cell:∀(j:Nat) (u:Value),CS[j]?=some u→w.cell? ⟨g,j,none⟩=some u
 one:∀u∈CS,u.oneCell'=true
 gk:g≠kb
 ri:i<ids.length
 own:CS[i*31]?=some (.int .i64 own)
 pg:CS[i*31+22]?=some pv
 pw:Be w pv m
 p0:0<(ag m).length
 ok:bF m
 lim:0≤lim∧lim≤1000
 mf:0≤mf∧mf≤1000000
theorem Z7.rows{w:World}{kb g cap i:Nat}{ks CS:List Value}{ids:List Int}{own lim mf:Int}{m:ax}{pv:Value}(h:Z7 w kb g cap i ks CS ids own lim mf m pv):yY w kb g cap ids:=⟨(h.hk.cell 5).trans h.k5,λj x hj=>h.cell _ _ (h.id j x hj),h.few⟩
section
variable {w:World} {kb g cap i:Nat} {ks CS:List Value} {ids:List Int} {own lim mf:Int} {m:ax} {pv:Value} (h:Z7 w kb g cap i ks CS ids own lim mf m pv)
include h
theorem MR(hf:lim≤ids.length):Calls prog 192 #[kb,.pointer (g,i*31)] w (Z.b (.tuple #[(0:Int),(19:Int)]) w):=by
 have c5:=h.rows.c5;have c0:w.cell? (kb,0)=some (.int .i64 lim):=(h.hk.cell 0).trans h.k0;have hkl:=h.hk.lt;have hd:decide (lim≤(ids.length:Int))=true:=decide_eq_true hf;clear h;go_enter func192,ntmps192;go_upto_region 1 with fail
 go_quiet (fail)
 have HQ:=xh (aj (Bel.refl w) nq);generalize w.drewN nq=w4 at *
 go_wp2_with fail
 go_ret2
 exact⟨rfl,HQ.o⟩
theorem Su(hf:(ids.length:Int)<lim)(a1 used a3 a4 a5:Nat)(hu:used≤1000000)(hU:∀W,Bel w W→Calls prog 118 #[kb] W (Z.b (.agg (fM a1 used a3 a4 a5).toArray) W))(hfull:mf<used+(ag m).length) :
 Calls prog 192 #[kb,.pointer (g,i*31)] w (Z.b (.tuple #[(0:Int),(7:Int)]) w):=by
 have c5:=h.rows.c5;have c0:w.cell? (kb,0)=some (.int .i64 lim):=(h.hk.cell 0).trans h.k0;have c1:w.cell? (kb,1)=some (.int .i64 mf):=(h.hk.cell 1).trans h.k1;have jB:w.cell? (g,i*31+22)=some pv:=h.cell _ _ h.pg;have hkl:=h.hk.lt;obtain⟨p,pc,rfl,_⟩:=h.pw;have hpn:=aT m;have hmf:=h.mf;have hd:decide (lim≤(ids.length:Int))=false:=decide_eq_false (by omega);unfold fM at hU;have HU:=xh hU;have HC:=xh (And.intro c1 jB);clear h hU c1 jB;obtain⟨N,hN⟩:=e_x ((ag m).length);rw[hN]at HC hfull hpn;go_enter func192,ntmps192;go_upto_region 1 with fail
 go_quiet (fail)
 have HQ:=xh (aj (Bel.refl w) nq);generalize w.drewN nq=w4 at *
 go_upto_region 4 with(go_at_call 118;((with_reducible refine aH (HU.o _ HQ.o) ?_);rintro e w5 ⟨rfl,k5⟩;have H5:=xh (HQ.o.tr k5);clear k5))
 have k6:Bel w (w5.alloc (.cells #[.int .i64 a1,.int .i64 used,.int .i64 a3,.int .i64 a4,.int .i64 a5] 159)):=H5.o.tr (Bel.start _ _);have u1:(w5.alloc (.cells #[.int .i64 a1,.int .i64 used,.int .i64 a3,.int .i64 a4,.int .i64 a5] 159)).cell? (w5.heap.size,1)=some (.int .i64 used):=(Blk.new w5 [.int .i64 a1,.int .i64 used,.int .i64 a3,.int .i64 a4,.int .i64 a5] 159).cell 1;have c1:=af k6 HC.o.1;have jB:=af k6 HC.o.2;have hul:=World.block_lt_of_cell? _ _ u1;have hgl:=World.block_lt_of_cell? _ _ jB;have acs:=World.block_lt_of_cell? _ _ c1;have mG:=xh k6;clear k6;generalize w5.alloc (.cells #[.int .i64 a1,.int .i64 used,.int .i64 a3,.int .i64 a4,.int .i64 a5] 159)=w6 at *
 have hd2:decide (mf<(used:Int)+N)=true:=decide_eq_true hfull;have hwr:IntKind.i64.wrap ((used:Int)+(N:Int))=(used:Int)+N:=by rw[IntKind.wrap_i64];omega
 go_quiet (fail)
 have PY:=xh (aj mG.o nq);generalize w6.drewN nq=w7 at *
 go_wp2_with fail
 go_ret2
 exact⟨rfl,PY.o⟩
def GM(row:List Value)(own:Int)(r:Nat)(v:Value):List Value:=((row.set 1 (.int .i64 own)).set 22 v).set 0 (.int .i64 r)
def Xz(w:World)(kb A:Nat)(ks CS row:List Value)(n:Nat)(own:Int)(m:ax)(r:Nat)(e:Ending)(w':World):Prop:=
 e=.returned (.tuple #[.int .i64 r,(0:Int)])∧∃v v2,w'.ownsRow w.heap.size 167 31 v (n+1) (CS.take (A*31)++GM row own r v2++CS.drop (A*31))∧w'.ownsRow w.heap.size 260 258 v2 (ag m).length (aQ m)∧Blk w' kb (ks.set 5 v) 174∧Keep (λq=>q=kb) w w'
theorem Xc(hf:(ids.length:Int)<lim)(a1 used a3 a4 a5:Nat)(hu:used≤1000000)(hU:∀W,Bel w W→Calls prog 118 #[kb] W (Z.b (.agg (fM a1 used a3 a4 a5).toArray) W))(hroom:(used:Int)+(ag m).length≤mf)
 (r A:Nat)(hr1:1≤r)(hr:r≤1000)(hin:∀j:Nat,1≤j→j<r→∃k:Nat,ids[k]?=some (j:Int)∧∀k2 x,k2<k→ids[k2]?=some x→x≠(j:Int))(hnot:∀x∈ids,x≠(r:Int))(hA:A≤ids.length)(hlt:∀(j:Nat) (x:Int),j<A→ids[j]?=some x→x<r)(hge:∀x,ids[A]?=some x→(r:Int)≤x) :
 Calls prog 192 #[kb,.pointer (g,i*31)] w (Xz w kb A ks CS (rowAt CS i) ids.length own m r):=by
 have c5:=h.rows.c5;have c0:w.cell? (kb,0)=some (.int .i64 lim):=(h.hk.cell 0).trans h.k0;have c1:w.cell? (kb,1)=some (.int .i64 mf):=(h.hk.cell 1).trans h.k1;have jB:w.cell? (g,i*31+22)=some pv:=h.cell _ _ h.pg;have hkl:=h.hk.lt;have hpw:=h.pw;obtain⟨p,pc,rfl,hpp⟩:=hpw;obtain⟨g2,cs2,rfl,hb2,hc2⟩:=hpp h.p0;have hpn:=aT m;have hmf:=h.mf;have hd:decide (lim≤(ids.length:Int))=false:=decide_eq_false (by omega);have hrl:=tJ h.cl h.ri;unfold fM at hU;have HU:=xh hU;have HC:=xh (And.intro c1 jB);have HH:=xh h;have HP2:=xh (And.intro hb2 hc2);have Dq:=xh (And.intro hin (And.intro hnot (And.intro hlt hge)));have ajs:g<w.heap.size:=World.block_lt_of_cell? _ _ jB;have ajt:g2<w.heap.size:=hb2.lt;clear h hU c1 jB hpp hb2 hc2 hin hnot hlt hge;obtain⟨N,hN⟩:=e_x ((ag m).length);rw[hN]at HC hroom hpn;have HN:=xh hN;clear hN;go_enter func192,ntmps192;go_upto_region 1 with fail
 go_quiet (fail)
 have HQ:=xh (aj (Bel.refl w) nq);generalize w.drewN nq=w4 at *
 go_upto_region 4 with(go_at_call 118;((with_reducible refine aH (HU.o _ HQ.o) ?_);rintro e w5 ⟨rfl,k5⟩;have H5:=xh (HQ.o.tr k5);clear k5))
 have k6:Bel w (w5.alloc (.cells #[.int .i64 a1,.int .i64 used,.int .i64 a3,.int .i64 a4,.int .i64 a5] 159)):=H5.o.tr (Bel.start _ _);have u1:(w5.alloc (.cells #[.int .i64 a1,.int .i64 used,.int .i64 a3,.int .i64 a4,.int .i64 a5] 159)).cell? (w5.heap.size,1)=some (.int .i64 used):=(Blk.new w5 [.int .i64 a1,.int .i64 used,.int .i64 a3,.int .i64 a4,.int .i64 a5] 159).cell 1;have c1:=af k6 HC.o.1;have jB:=af k6 HC.o.2;have hul:=World.block_lt_of_cell? _ _ u1;have hgl:=World.block_lt_of_cell? _ _ jB;have acs:=World.block_lt_of_cell? _ _ c1;have mG:=xh k6;clear k6;generalize w5.alloc (.cells #[.int .i64 a1,.int .i64 used,.int .i64 a3,.int .i64 a4,.int .i64 a5] 159)=w6 at *
 have hd2:decide (mf<(used:Int)+N)=false:=decide_eq_false (by omega);have hwr:IntKind.i64.wrap ((used:Int)+(N:Int))=(used:Int)+N:=by rw[IntKind.wrap_i64];omega
 go_quiet (fail)
 have PY:=xh (aj mG.o nq);have jB:=af (aj (Bel.refl w6) nq) jB;generalize w6.drewN nq=w7 at *
 clear c1 u1;obtain⟨row,hrow⟩:=e_x (rowAt CS i);rw[hrow]at hrl⊢;have HRW:=xh hrow;have xC:=xh hrl;have BH:w7.rangeAt g (i*31) row:=λj u hj=>by
  have Nb:j<31:=by have:=(bV hj).1;omega
  rw[←hrow,jI Nb]at hj;exact af PY.o (HH.o.cell _ _ hj)
 have Ns:=xh BH;have hone:∀v∈row,v.oneCell'=true:=λv hv=>HH.o.one v (by rw[←hrow]at hv;exact List.mem_of_mem_drop (List.mem_of_mem_take hv));have qg:=xh hone;obtain⟨zs,hzs⟩:∃zs:List Value,zs=[.int .i64 0,.int .i64 0,.int .i64 0,.int .i64 0,.int .i64 0,.int .u64 0]++List.replicate 16 (.int .u64 0)++[.slice none 0 0]++List.replicate 8 (.int .i64 0):=⟨_,rfl⟩;have hz:∀W,(zeroValue 167).run prog W=.ok (.agg zs.toArray) W:=λW=>by rw[hzs];kernel_rfl
 have oh:Hid (zs.length=31):=xh (by rw[hzs];simp);obtain⟨qb,DC⟩:=e_x w7.heap.size;have UU:=xh DC;clear hzs DC hrow hrl BH hone
 go_upto_region 7 with(first
  | (refine wpList_load_mid rfl 167 (.tmp 37) rfl g (i*31) rfl row _ Ns.o underlying167 rfl (by rw[xC.o];exact gY) ?_)
  | (refine aA rfl 167 (.tmp 7) (.tmp 38) rfl rfl w7.heap.size row zs 167 (Blk.new w7 zs _) rfl rfl (by rw[xC.o];exact gY) (oh.o.trans xC.o.symm) qg.o ?_;intro w8 B8 K8))
 rw[UU.o]at B8 K8⊢;have kb8:Bel w7 w8:=jr (Bel.start w7 (.cells zs.toArray 167)) K8 (by rw[UU.o];exact bM _);have zI:Hid (Bel w w8):=xh (PY.o.tr kb8);have c0p:w8.cell? (g,i*31)=some (.int .i64 own):=af zI.o (HH.o.cell _ _ HH.o.own);have jB:=af kb8 jB;have aho:=World.block_lt_of_cell? _ _ c0p;have hgq:g≠qb:=by have:=UU.o;have:=PY.o.size;omega
 have f8:=B8.out.frozen;have hq8:=B8.out.lt;obtain⟨v1,h1⟩:∃v,row[1]?=some v:=⟨_,bT (by rw[xC.o];omega)⟩;have d1:w8.cell? (qb,1)=some v1:=(B8.out.cell 1).trans h1;clear K8 kb8 h1;go_upto_region 9 with fail
 have B9:=B8.out.setCell (o:=1) (.int .i64 own);have K9:=Keep.setCell w8 qb 1 (.int .i64 own);have jB:(w8.setCell (qb,1) (.int .i64 own)).cell? (g,i*31+22)=some (.slice (g2,0) N pc):=(K9.cell ⟨g,i*31+22,none⟩ aho hgq).trans jB;have hwq:w.heap.size≤qb:=by have:=UU.o;have:=PY.o.size;omega
 have Dn:Hid (Bel w (w8.setCell (qb,1) (.int .i64 own))):=xh (jr zI.o K9 hwq);generalize w8.setCell (qb,1) (.int .i64 own)=w9 at *
 have acu:=xh B9;clear K9 B9 c0p d1 f8 hq8 B8;have hsrc:∀W,Bel w W→∀j u,(aQ m)[j]?=some u→W.cell? (g2,0+j)=some u:=λW hW j u hj=>by
  have hjl:=(bV hj).1;rw[Nat.zero_add];refine af hW ?_;rw[HP2.o.1.cell,HP2.o.2 j hjl];exact hj
 have um:=xh hsrc;have HRR:Hid ((aQ m).length=N*258):=xh (by rw[BJ HH.o.ok,HN.o]);have ahp:=World.block_lt_of_cell? _ _ jB;obtain⟨v22,h22⟩:∃v,(row.set 1 (.int .i64 own))[22]?=some v:=⟨_,bT (by rw[List.length_set,xC.o];omega)⟩;have H22:=xh h22;clear hsrc h22;go_upto_region 10 with(refine bZ (base:=w.heap.size) (v:=.slice none 0 0) (n:=0) (xs:=[]) (size:=258) (bytes:=272) rfl (.tmp 44) (.tmp 48) 164 rfl underlying164 iP (by omega) rfl (World.ownsRow_nil _ _ _ _) g2 0 N pc (aQ m) rfl (um.o _ Dn.o) HRR.o (ve m) (by unfold maxLen;omega) (by omega) Dn.o.size ?_;intro p10 cp10 w10 R10 K10;rw[Nat.zero_add,List.nil_append]at R10;rw[Nat.zero_add];have GY:=xh R10;have hk10:Bel w9 w10:=K10.below _ (bM _) (λk hk=>absurd (show(none:Option Nat)=some k from hk) (λh=>by cases h));have uo:=xh hk10;have B10:=acu.o.bel hk10;have d22:w10.cell? (qb,22)=some v22:=(B10.cell 22).trans H22.o;have f10:=B10.frozen;have hq10:=B10.lt;clear R10 K10 hk10 B10)
 obtain⟨v2,hv2⟩:=e_x (Value.slice p10 N cp10);rw[hv2]at GY⊢;have B11:=(acu.o.bel uo.o).setCell (o:=22) v2;have U0:=Keep.setCell w10 qb 22 v2;have aao:Hid (Bel w (w10.setCell (qb,22) v2)):=xh (jr (Dn.o.tr uo.o) U0 hwq);have XA:Hid ((w10.setCell (qb,22) v2).ownsRow w.heap.size 260 258 v2 N (aQ m)):=xh (jv GY.o U0 (λq cs hb e=>hb.ne (acu.o.bel uo.o) (by decide) e));clear hv2 U0 d22 f10 hq10 jB;generalize w10.setCell (qb,22) v2=yQ at *
 obtain⟨v0,h0⟩:∃v,((row.set 1 (.int .i64 own)).set 22 v2)[0]?=some v:=⟨_,bT (by rw[List.length_set,List.length_set,xC.o];omega)⟩;have d0:yQ.cell? (qb,0)=some v0:=(B11.cell 0).trans h0;have f11:=B11.frozen;have hq11:=B11.lt;have abm:=xh B11;clear B11 h0;go_upto_region 11 with fail
 have B12:=abm.o.setCell (o:=0) (.int .i64 1);have K12:=Keep.setCell yQ qb 0 (.int .i64 1);have aju:Hid (Bel w (yQ.setCell (qb,0) (.int .i64 1))):=xh (jr aao.o K12 hwq);generalize yQ.setCell (qb,0) (.int .i64 1)=w12 at *
 have aeG:=xh (And.intro B12 K12);have rV:=xh HH.o.rows;clear B12 K12 d0 f11 hq11
 go_loopw [] (λwr=>∃j:Nat,1≤j∧j≤r∧Hid (Blk wr qb (((row.set 1 (.int .i64 own)).set 22 v2).set 0 (.int .i64 j)) 167∧Keep (λq=>q=qb) yQ wr)) (λwr=>r-(intOf ((wr.cell? (qb,0)).getD (.int .i64 0))).toNat)
 case atStart=>exact⟨1,bM _,hr1,xh aeG.o⟩
 case round=>
  obtain⟨j,hj1,hjr,HI⟩:=hrel;obtain⟨wo,hwo⟩:∃W,W=wr:=⟨_,rfl⟩;subst hwo;have hbw:Bel w wo:=jr aao.o HI.out.2 hwq;have pV:=xh hbw;have d0:wo.cell? (qb,0)=some (.int .i64 j):=by
   rw[HI.out.1.cell,List.getElem?_set_self (by rw[List.length_set,List.length_set,xC.o];omega)]
  have fo:=HI.out.1.frozen;have hqo:=HI.out.1.lt;by_cases hlt:j<r
  ·obtain⟨k,hk,hk2⟩:=Dq.o.1 j hj1 hlt
   have uk:=xh (Jp kb g cap k ids j wo (rV.o.bel hbw) hk hk2);have hwj:IntKind.i64.wrap ((j:Int)+1)=(j:Int)+1:=by rw[IntKind.wrap_i64];omega
   have abn:(intOf ((wo.cell? (qb,0)).getD (.int .i64 0))).toNat=j:=by rw[d0];simp[intOf]
   have HME:=xh abn;clear hk hk2 hbw abn;go_wp2_with (go_at_call 62;((with_reducible refine aH uk.o ?_);rintro e O7 ⟨rfl,rfl⟩))
   have B14:=HI.out.1.setCell (o:=0) (.int .i64 ((j:Int)+1));rw[List.set_set]at B14
   go_roundw
   case rel=>exact⟨j+1,by omega,by omega,xh ⟨by rw[show((j+1:Nat):Int)=(j:Int)+1 from by omega];exact B14,HI.out.2.tr (Keep.setCell _ _ _ _)⟩⟩
   case measure=>
    have e1:(wo.setCell (qb,0) (.int .i64 ((j:Int)+1))).cell? (qb,0)=some (.int .i64 ((j:Int)+1)):=by rw[B14.cell,List.getElem?_set_self (by rw[List.length_set,List.length_set,xC.o];omega)]
    rw[e1,HME.o];simp[intOf]
    omega
  ·obtain rfl:j=r:=by omega
   have uk:=xh (Bg kb g cap ids j wo (rV.o.bel hbw) Dq.o.2.1);have hqk:qb≠kb:=by have:=HH.o.hk.lt;omega
   obtain⟨qc,hqc⟩:=e_x (((row.set 1 (.int .i64 own)).set 22 v2).set 0 (.int .i64 j));have hv1:v2.oneCell'=true:=by obtain⟨_,_,e,_⟩:=aG XA.o;rw[e];rfl
   have hins:abl wo kb g cap A ks CS qc ids j:=by
    refine⟨HH.o.hk.bel hbw,HH.o.k5,HH.o.id,HH.o.few,HH.o.cap,HH.o.cl,λi u hi=>af hbw (HH.o.cell i u hi),HH.o.one,by rw[←hqc];simp[xC.o],λu hu=>?_,by rw[←hqc,List.getElem?_set_self (by rw[List.length_set,List.length_set,xC.o];omega)],hA,Dq.o.2.2.1,λx hx=>Int.not_lt.2 (Dq.o.2.2.2 x hx),HH.o.gk⟩;rw[←hqc]at hu;rcases List.mem_or_eq_of_mem_set hu with hu|rfl
    ·rcases List.mem_or_eq_of_mem_set hu with hu|rfl
     ·rcases List.mem_or_eq_of_mem_set hu with hu|rfl
      ·exact qg.o u hu
      ·rfl
     ·exact hv1
    ·rfl
   have ahq:=xh (JF kb g cap A ks CS qc ids j wo hins);have hbq:Blk wo qb qc 167:=by rw[←hqc];exact HI.out.1
   have hqr:wo.rangeAt qb 0 qc:=by have:=hbq.range 0;simpa using this
   have HQR:=xh hqr;have HQL:Hid (qc.length=31):=xh hins.ql;have HQC:=xh hqc;have GZ:Keep (λq=>q=qb) yQ wo:=HI.out.2;have ahr:=xh (jv XA.o GZ (λq cs hb e=>hb.ne abm.o (by decide) e));clear hqc hv1 hins hbq hqr hbw GZ
   go_wp2_with (first
    | (go_at_call 62;((with_reducible refine aH uk.o ?_);rintro e O7 ⟨rfl,rfl⟩))
    | (refine wpList_load_mid rfl 167 (.tmp 7) rfl qb 0 rfl qc _ HQR.o underlying167 rfl (by rw[HQL.o];exact gY) ?_)
    | (go_at_call 266;((with_reducible refine aH ahq.o ?_);rintro e w15 ⟨rfl,v,vM,b15,k15⟩;have H15:=xh (And.intro vM (And.intro b15 k15));have d15:w15.cell? (qb,0)=some (.int .i64 j):=(k15.cell ⟨qb,0,none⟩ hqo (λe=>hqk e)).trans d0;have ajv:=World.block_lt_of_cell? _ _ d15;clear vM b15 k15)))
   go_ret2
   unfold Xz;refine⟨rfl,v,v2,?_,?_,H15.o.2.1,(Keep.of_bel _ pV.o).tr H15.o.2.2⟩
   ·have h:=H15.o.1
    rw[←HQC.o]at h;rw[HRW.o];exact h.mono pV.o.size
   ·rw[HN.o]
    exact jv ahr.o H15.o.2.2 (λq cs hb e=>hb.ne (HH.o.hk.bel pV.o) (by decide) e)
end
structure ad8(w:World)(kb g cap:Nat)(ks CS:List Value)(L:List iY):Prop where
 hk:Blk w kb ks 174
 k5:ks[5]?=some (.slice (g,0) L.length cap)
 row:∀(j:Nat) (x:iY),L[j]?=some x→CS[j*31]?=some (.int .i64 x.pid)∧CS[j*31+1]?=some (.int .i64 x.par)∧CS[j*31+2]?=some (.int .i64 x.st)∧CS[j*31+3]?=some (.int .i64 x.sv)
 few:L.length≤1000
 cap:L.length≤cap
 cl:CS.length=L.length*31
 cell:∀(j:Nat) (u:Value),CS[j]?=some u→w.cell? ⟨g,j,none⟩=some u
 one:∀u∈CS,u.oneCell'=true
 gk:g≠kb
section
variable {w:World} {kb g cap:Nat} {ks CS:List Value} {L:List iY} (h:ad8 w kb g cap ks CS L) (own:Int)
include h
theorem EU(n:Nat)(R:Ending→World→Prop)(hc:(n=L.length∧∀w',Bel w w'→R (.returned (.tuple #[(0:Int),(0:Int),(),.int .i64 (uY own L)])) w')∨∃y,L[n]?=some y∧oP own y=true∧∀e w',(e=.returned (.tuple #[.int .i64 y.pid,.int .i64 y.sv,(),(0:Int)])∧∃v,w'.ownsRow w.heap.size 167 31 v (L.length-1) (CS.take (n*31)++CS.drop ((n+1)*31))∧Blk w' kb (ks.set 5 v) 174∧Keep (λq=>q=kb) w w')→R e w')(hz:∀x∈L.take n,oP own x=false):Calls prog 194 #[kb,.int .i64 own] w R:=by
 have hnl:n≤L.length:=hc.elim (λh=>Nat.le_of_eq h.1) λ⟨y,h,_⟩=>Nat.le_of_lt (bV h).1;have HC:=xh hc;have HH:=xh h;have HZ:=xh hz;have few:=h.few;obtain⟨zs,hzs⟩:∃zs:List Value,zs=[.int .i64 0,.int .i64 0,.int .i64 0,.int .i64 0,.int .i64 0,.int .u64 0]++List.replicate 16 (.int .u64 0)++[.slice none 0 0]++List.replicate 8 (.int .i64 0):=⟨_,rfl⟩;have hzv:∀W,(zeroValue 167).run prog W=.ok (.agg zs.toArray) W:=λW=>by rw[hzs];kernel_rfl
 have oh:Hid (zs.length=31):=xh (by rw[hzs];simp);clear h hz hzs hc;go_enter func194,ntmps194;go_upto_region 3 with fail
 go_loopw [8,9] (λev i wr=>∃k:Nat,k≤n∧i=.int .i64 k∧ev=.int .i64 (uY own (L.take k))∧Hid (Bel w wr)) (λ_ i _=>L.length-(intOf i).toNat)
 case atStart=>exact⟨0,Nat.zero_le _,rfl,rfl,xh (Bel.refl _)⟩
 case round=>
  obtain⟨k,hk,rfl,rfl,HI⟩:=hrel;obtain⟨wo,hwo⟩:∃W,W=wr:=⟨_,rfl⟩;subst hwo;have hk0:(0:Int)≤k:=by omega
  have c5:wo.cell? (kb,5)=some (.slice (g,0) L.length cap):=((HH.o.hk.bel HI.out).cell 5).trans HH.o.k5;have hkl:=World.block_lt_of_cell? _ _ c5;by_cases ahs:k<n
  ·have hkn:(k:Int)<L.length:=by omega
   have hlt:k<L.length:=by omega
   obtain⟨x,hx⟩:∃x,L[k]?=some x:=⟨_,bT hlt⟩;obtain⟨r0,r1,r2,r3⟩:=HH.o.row k x hx;have hzx:=HZ.o x (List.mem_of_getElem? (by rw[List.getElem?_take_of_lt ahs];exact hx));have htk:L.take (k+1)=L.take k++[x]:=by rw[List.take_succ_eq_append_getElem hlt,(bV hx).2]
   have PW:=xh htk;have hrl:=tJ HH.o.cl hlt;obtain⟨row,hrow⟩:=e_x (rowAt CS k);have BH:wo.rangeAt g (k*31) row:=λj u hj=>by
    rw[←hrow]at hj;have Nb:j<31:=by have:=(bV hj).1;omega
    rw[jI Nb]at hj;exact af HI.out (HH.o.cell _ _ hj)
   have hone:∀v∈row,v.oneCell'=true:=λv hv=>HH.o.one v (by rw[←hrow]at hv;exact List.mem_of_mem_drop (List.mem_of_mem_take hv));have hrw:row[1]?=some (.int .i64 x.par)∧row[2]?=some (.int .i64 x.st):=by
    rw[←hrow,jI (by omega),jI (by omega)];exact⟨r1,r2⟩
   rw[hrow]at hrl;have Ns:=xh BH;have qg:=xh hone;have xC:=xh hrl;have HRW:=xh hrw;have hgl:g<wo.heap.size:=World.block_lt_of_cell? _ _ (af HI.out (HH.o.cell _ _ r0));clear r0 r1 r2 r3 hx htk hrl hrow BH hone hrw
   go_upto_region 6 with(first
    | (refine wpList_load_mid rfl 167 (.tmp 26) rfl g (k*31) rfl row _ Ns.o underlying167 rfl (by rw[xC.o];exact gY) ?_)
    | (refine aA rfl 167 (.tmp 10) (.tmp 27) rfl rfl wo.heap.size row zs 167 (Blk.new wo zs _) rfl rfl (by rw[xC.o];exact gY) (oh.o.trans xC.o.symm) qg.o ?_;intro w8 B8 K8))
   have kb8:Bel wo w8:=jr (Bel.start wo (.cells zs.toArray 167)) K8 (bM _);have d1:w8.cell? (wo.heap.size,1)=some (.int .i64 x.par):=(B8.out.cell 1).trans HRW.o.1;have d2:w8.cell? (wo.heap.size,2)=some (.int .i64 x.st):=(B8.out.cell 2).trans HRW.o.2;have Xr:=B8.out.lt;have Gu:=xh kb8;have Tn:=xh (yw own (L.take k) x);clear K8 kb8 B8;by_cases hpar:x.par=own
   ·have hst:x.st≠2:=λe=>by simp[oP,hpar,e]at hzx
    have hse:(x.st==2)=false:=dK hst;have hpe:(x.par != own)=false:=by simp[hpar]
    have HPE:=xh hpar;clear hzx hst hpar;go_wp2_with fail
    go_roundw
    case rel=>exact⟨k+1,by omega,by go_num,by rw[PW.o,Tn.o,if_pos HPE.o],xh (HI.out.tr Gu.o)⟩
    case measure=>simp[intOf]<;>omega
   ·have hpe:(x.par != own)=true:=bne_iff_ne.2 hpar
    have HPE:=xh hpar;clear hzx hpar;go_wp2_with fail
    go_roundw
    case rel=>exact⟨k+1,by omega,by go_num,by rw[PW.o,Tn.o,if_neg HPE.o],xh (HI.out.tr Gu.o)⟩
    case measure=>simp[intOf]<;>omega
  ·obtain rfl:k=n:=by omega
   rcases HC.o with⟨rfl,hR⟩|⟨y,hn,hyb,hR⟩
   ·have HR:=xh hR
    clear hR;go_wp2_with fail
    refine bodyPost_ret (v:=.tuple #[(0:Int),(0:Int),(),.int .i64 (uY own (L.take L.length))]) (by simp[results,results194,go_sem]) rfl ?_;rw[List.take_length];exact HR.o _ HI.out
   have hlt:=(bV hn).1;have hkn:(k:Int)<L.length:=by omega
   obtain⟨r0,r1,r2,r3⟩:=HH.o.row k y hn;have HR:=xh hR;clear hR hn;have hpar:y.par=own∧y.st=2:=by simpa [oP]using hyb
   have hrl:=tJ HH.o.cl hlt;obtain⟨row,hrow⟩:=e_x (rowAt CS k);have BH:wo.rangeAt g (k*31) row:=λj u hj=>by
    rw[←hrow]at hj;have Nb:j<31:=by have:=(bV hj).1;omega
    rw[jI Nb]at hj;exact af HI.out (HH.o.cell _ _ hj)
   have hone:∀v∈row,v.oneCell'=true:=λv hv=>HH.o.one v (by rw[←hrow]at hv;exact List.mem_of_mem_drop (List.mem_of_mem_take hv));have hrw:row[0]?=some (.int .i64 y.pid)∧row[1]?=some (.int .i64 y.par)∧row[2]?=some (.int .i64 y.st)∧row[3]?=some (.int .i64 y.sv):=by
    rw[←hrow,jI (by omega),jI (by omega),jI (by omega),jI (by omega)];exact⟨r0,r1,r2,r3⟩
   rw[hrow]at hrl;have Ns:=xh BH;have qg:=xh hone;have xC:=xh hrl;have HRW:=xh hrw;have hgl:g<wo.heap.size:=World.block_lt_of_cell? _ _ (af HI.out (HH.o.cell _ _ r0));have hdl:(CS.drop ((k+1)*31)).length=(L.length-(k+1))*31:=by rw[List.length_drop,HH.o.cl,Nat.sub_mul]
   have htl:(CS.take (k*31)).length=k*31:=by rw[List.length_take,HH.o.cl];exact Nat.min_eq_left (by omega)
   have HLN:=xh (And.intro htl hdl);have hse:(y.st==2)=true:=by rw[hpar.2];rfl
   have hpe:(y.par != own)=false:=by simp[hpar.1]
   have hcap:=HH.o.cap;have hcs:cap=k+1∨¬cap=k+1:=by omega
   have HIO:Hid (Bel w wo):=HI;clear r0 r1 r2 r3 hrl hrow BH hone hrw hdl htl hyb hpar
   go_upto_region 6 with(first
    | (refine wpList_load_mid rfl 167 (.tmp 26) rfl g (k*31) rfl row _ Ns.o underlying167 rfl (by rw[xC.o];exact gY) ?_)
    | (refine aA rfl 167 (.tmp 10) (.tmp 27) rfl rfl wo.heap.size row zs 167 (Blk.new wo zs _) rfl rfl (by rw[xC.o];exact gY) (oh.o.trans xC.o.symm) qg.o ?_;intro w8 B8 K8))
   have kb8:Bel wo w8:=jr (Bel.start wo (.cells zs.toArray 167)) K8 (bM _);obtain⟨qb,DC⟩:=e_x wo.heap.size;rw[DC]at B8 K8⊢;have d1:w8.cell? (qb,1)=some (.int .i64 y.par):=(B8.out.cell 1).trans HRW.o.2.1;have d2:w8.cell? (qb,2)=some (.int .i64 y.st):=(B8.out.cell 2).trans HRW.o.2.2.1;have Xr:=B8.out.lt;have zI:=xh (And.intro (HIO.o.tr kb8) B8.out);have c5:=af kb8 c5;have hwq:w.heap.size≤qb:=by rw[←DC];exact HIO.o.size
   clear K8 kb8 B8 DC;go_upto_region 10 with fail
   have hkc:(k:Int)≤cap:=by omega
   have aco:=World.block_lt_of_cell? _ _ c5;go_upto_region 11 with(refine bZ (base:=w8.heap.size) (v:=.slice none 0 0) (n:=0) (xs:=[]) (size:=31) (bytes:=264) rfl (.tmp 35) (.tmp 41) 168 rfl underlying168 gq (by omega) rfl (World.ownsRow_nil _ _ _ _) g 0 k _ (CS.take (k*31)) rfl (λi u hi=>by rw[Nat.zero_add];rw[List.getElem?_take]at hi;split at hi;exact af zI.o.1 (HH.o.cell _ _ hi);cases hi) HLN.o.1 (λu hu=>HH.o.one u (List.mem_of_mem_take hu)) (by unfold maxLen;omega) (by omega) (bM _) ?_;intro p5 cp5 w9 R9 K9;rw[Nat.zero_add,List.nil_append]at R9;rw[Nat.zero_add];have Y2:=xh R9;have hk9:Bel w8 w9:=K9.below _ (bM _) (λk hk=>absurd (show(none:Option Nat)=some k from hk) (λh=>by cases h));have Dn:=xh (And.intro (zI.o.1.tr hk9) (zI.o.2.bel hk9));have c5:=af hk9 c5;have aht:Hid (w8.heap.size≤w9.heap.size):=xh hk9.size;clear R9 K9 hk9)
   have ahg:=World.block_lt_of_cell? _ _ c5;have hob:∀q:Nat,(Value.slice p5 k cp5).ownBlock=some q→w8.heap.size≤q∧∃cs,Blk w9 q cs 167:=λq hq=>by obtain⟨h1,cs,hb⟩:=row_blk Y2.o hq;exact⟨h1,cs,hb⟩
   have HOB:=xh hob;have aeH:kb<w.heap.size:=HH.o.hk.lt;rcases hcs with hck|hck
   case' inl=>have HCJ:Hid ((if cap=k+1 then 0 else(k+1)*31)=0):=xh (if_pos hck)
   case' inr=>have HCJ:Hid ((if cap=k+1 then 0 else(k+1)*31)=(k+1)*31):=xh (if_neg hck)
   all_goals
    clear hob;go_upto_region 12 with(refine bZ (base:=w8.heap.size) (v:=.slice p5 k cp5) (n:=k) (xs:=CS.take (k*31)) (size:=31) (bytes:=264) rfl (.tmp 43) (.tmp 50) 168 rfl underlying168 gq (by omega) rfl Y2.o g (if cap=k+1 then 0 else(k+1)*31) (L.length-(k+1)) _ (CS.drop ((k+1)*31)) (by rw[HCJ.o];rfl) (λi u hi=>by rw[List.getElem?_drop]at hi;rw[HCJ.o];first|exact af Dn.o.1 (HH.o.cell _ _ hi)|(have h1:=(bV hi).1;rw[HH.o.cl]at h1;omega)) HLN.o.2 (λu hu=>HH.o.one u (List.mem_of_mem_drop hu)) (by unfold maxLen;omega) (by omega) aht.o ?_;intro p8 cp8 w10 R10 K10;have GY:=xh R10;have uo:=xh K10;clear R10 K10)
    have hsum:k+(L.length-(k+1))=L.length-1:=by omega
    have uB:=xh hsum;have B10:=(HH.o.hk.bel Dn.o.1).keep uo.o (λe=>by have:=(HOB.o _ e).1;have:=zI.o.1.size;omega);obtain⟨v5,h5⟩:∃v,w10.cell? (kb,5)=some v:=⟨_,(B10.cell 5).trans HH.o.k5⟩;have f5:=B10.frozen 5;have aiS:=B10.lt;have ahu:=xh B10;have ajw:=zI.o.2.lt;have Q10:=Dn.o.2.keep uo.o (λe=>by have:=(HOB.o _ e).1;omega);have ahv:=xh Q10;clear c5 B10 hsum Q10;go_upto_region 13 with fail
    have hqk:qb≠kb:=by omega
    have aap:w.heap.size≤w8.heap.size:=zI.o.1.size;rw[uB.o];obtain⟨v,hv⟩:=e_x (Value.slice p8 (L.length-1) cp8);have acv:=GY.o;rw[uB.o,hv]at acv;rw[hv];have U0:=Keep.setCell w10 kb 5 v;have Q11:=ahv.o.keep U0 (λe=>hqk e);have H11:=xh (And.intro (dG acv U0 (λq hq e=>by have e:q=kb:=e;omega)) (ahu.o.setCell (o:=5) v));have hkk:Keep (λq=>w8.heap.size≤q) w w10:=(Keep.of_bel _ Dn.o.1).tr (uo.o.mono λq hq=>(HOB.o q hq).1);have GZ:Keep (λq=>q=kb) w (w10.setCell (kb,5) v):=(Keep.dY (Keep.refl _ w) hkk λi hi=>.inr (bU aap hi)).tr U0;have acw:=xh GZ;have d0:(w10.setCell (kb,5) v).cell? (qb,0)=some (.int .i64 y.pid):=(Q11.cell 0).trans HRW.o.1;have d3:(w10.setCell (kb,5) v).cell? (qb,3)=some (.int .i64 y.sv):=(Q11.cell 3).trans HRW.o.2.2.2;have aiT:=Q11.lt;clear hv acv U0 Q11 hkk GZ h5 f5;generalize w10.setCell (kb,5) v=yQ at *
    go_quiet (fail)
    have acy:=xh (aj (Bel.refl yQ) nq);generalize yQ.drewN nq=w12 at *
    go_wp2_with fail
    refine bodyPost_ret (v:=.tuple #[.int .i64 y.pid,.int .i64 y.sv,(),(0:Int)]) (by simp[results,results194,go_sem]) rfl ?_;exact HR.o _ _ ⟨rfl,v,(aO H11.o.1 acy.o).mono aap,H11.o.2.bel acy.o,acw.o.tr (Keep.of_bel _ acy.o)⟩
theorem MV(hz:∀x∈L,oP own x=false):Calls prog 194 #[kb,.int .i64 own] w (Z.b (.tuple #[(0:Int),(0:Int),(),.int .i64 (uY own L)]) w):=
 EU h own L.length _ (.inl ⟨rfl,λ_ k=>⟨rfl,k⟩⟩) λx hx=>hz x (List.mem_of_mem_take hx)
theorem Xd(n:Nat)(y:iY)(hn:L[n]?=some y)(hy:oP own y=true)(hz:∀x∈L.take n,oP own x=false):Calls prog 194 #[kb,.int .i64 own] w λe w'=>e=.returned (.tuple #[.int .i64 y.pid,.int .i64 y.sv,(),(0:Int)])∧∃v,w'.ownsRow w.heap.size 167 31 v (L.length-1) (CS.take (n*31)++CS.drop ((n+1)*31))∧Blk w' kb (ks.set 5 v) 174∧Keep (λq=>q=kb) w w':=
 EU h own n _ (.inr ⟨y,hn,hy,λ_ _ h=>h⟩) hz
end
end
end Go.Proofs.YtcnjjchlebmfiaaGreatDoor
