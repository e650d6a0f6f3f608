/-.-/
import Derived.Test.YtcnjjchlebmfiaaGreatDoorP27
import Derived.Test.YtcnjjchlebmfiaaGreatDoorP16
set_option linter.unusedVariables false
set_option linter.unusedSimpArgs false
set_option maxRecDepth 100000
set_option maxHeartbeats 16000000
namespace Go.Proofs.YtcnjjchlebmfiaaGreatDoor
section
open Go.Proofs.Tryz Go.RowKit Go.MapKept Go.Maps
def tJ(Q:Int→Int→Option Addr→Nat→Nat→Int→World→Prop)(e:Ending)(w':World):Prop:=∃(n m:Int) (p:Option Addr) (l c:Nat) (f:Int),e=.returned (.tuple #[.int .i64 n,.int .i64 m,.slice p l c,.int .i64 f])∧Q n m p l c f w'
def oI(w:World)(f:Int)(e:Ending)(w':World):Prop:=e=.returned (.tuple #[(0:Int),(0:Int),(),f])∧Bel w w'
theorem gU(kb g o:Nat)(a b:Int)(s:ByteArray)(lp dp:Option Addr)(ln lc dn dc:Nat)(Q:Int→Int→Option Addr→Nat→Nat→Int→World→Prop)(w:World)
 (hR:∀W,Bel w W→Calls prog 270 #[kb,.pointer (g,o),.agg #[(10:Int),a,b,s,(lp,ln,lc),(dp,dn,dc)]] W (tJ Q)) :
 Calls prog 199 #[kb,.pointer (g,o),.agg #[(10:Int),a,b,s,(lp,ln,lc),(dp,dn,dc)]] w λe w'=>tJ Q e w':=by
 have BX:=Blk.new w [(10:Int),a,b,s,(lp,ln,lc),(dp,dn,dc)] 264;have k1:Bel w (w.alloc (.cells #[(10:Int),a,b,s,(lp,ln,lc),(dp,dn,dc)] 264)):=Bel.start _ _;change Blk (w.alloc (.cells #[(10:Int),a,b,s,(lp,ln,lc),(dp,dn,dc)] 264)) w.heap.size _ _ at BX
 have HR:=xh hR;clear hR;go_enter func199,ntmps199;go_upto_region 1 with fail
 generalize w.alloc (.cells #[(10:Int),a,b,s,(lp,ln,lc),(dp,dn,dc)] 264)=w1 at *
 obtain⟨bx,hbx⟩:=e_x w.heap.size;rw[hbx]at BX⊢;have jZ:Hid (w.heap.size≤bx):=xh (Nat.le_of_eq hbx);have x0:=BX.c 0 rfl;have x1:=BX.c 1 rfl;have x2:=BX.c 2 rfl;have x3:=BX.c 3 rfl;have x4:=BX.c 4 rfl;have x5:=BX.c 5 rfl;have fG:=xh BX;have K1:=xh k1;clear BX k1 hbx;go_wp2_with (go_at_call 270;((with_reducible refine au (HR.o _ K1.o) ?_);rintro e2 w2 ⟨n,m,p,l,c,f,rfl,q⟩;have HQ:=xh q;clear q))
 refine bodyPost_ret (v:=.tuple #[.int .i64 n,.int .i64 m,.slice p l c,.int .i64 f]) (by simp[results,results199,go_sem]) rfl ?_;exact⟨_,_,_,_,_,_,rfl,HQ.o⟩
theorem Cu(kb g o:Nat)(a b:Int)(s:ByteArray)(lp dp:Option Addr)(ln lc dn dc:Nat)(Q:Int→Int→World→Prop)(w:World)
 (hR:∀W,Bel w W→Calls prog 271 #[kb,.pointer (g,o),.agg #[(11:Int),a,b,s,(lp,ln,lc),(dp,dn,dc)]] W λe w'=>∃n f,e=.returned (.tuple #[.int .i64 n,.int .i64 f])∧Q n f w') :
 Calls prog 199 #[kb,.pointer (g,o),.agg #[(11:Int),a,b,s,(lp,ln,lc),(dp,dn,dc)]] w λe w'=>tJ (λn m p l c f W=>m=0∧p=none∧l=0∧c=0∧Q n f W) e w':=by
 have BX:=Blk.new w [(11:Int),a,b,s,(lp,ln,lc),(dp,dn,dc)] 264;have k1:Bel w (w.alloc (.cells #[(11:Int),a,b,s,(lp,ln,lc),(dp,dn,dc)] 264)):=Bel.start _ _;change Blk (w.alloc (.cells #[(11:Int),a,b,s,(lp,ln,lc),(dp,dn,dc)] 264)) w.heap.size _ _ at BX
 have HR:=xh hR;clear hR;go_enter func199,ntmps199;go_upto_region 1 with fail
 generalize w.alloc (.cells #[(11:Int),a,b,s,(lp,ln,lc),(dp,dn,dc)] 264)=w1 at *
 obtain⟨bx,hbx⟩:=e_x w.heap.size;rw[hbx]at BX⊢;have jZ:Hid (w.heap.size≤bx):=xh (Nat.le_of_eq hbx);have x0:=BX.c 0 rfl;have x1:=BX.c 1 rfl;have x2:=BX.c 2 rfl;have x3:=BX.c 3 rfl;have x4:=BX.c 4 rfl;have x5:=BX.c 5 rfl;have fG:=xh BX;have K1:=xh k1;clear BX k1 hbx;go_wp2_with (go_at_call 271;((with_reducible refine au (HR.o _ K1.o) ?_);rintro e2 w2 ⟨n,f,rfl,q⟩;have HQ:=xh q;clear q))
 refine bodyPost_ret (v:=.tuple #[.int .i64 n,(0:Int),(),.int .i64 f]) (by simp[results,results199,go_sem]) rfl ?_;exact⟨_,_,_,_,_,_,rfl,rfl,rfl,rfl,rfl,HQ.o⟩
theorem uY(kb g o:Nat)(a b:Int)(s:ByteArray)(lp dp:Option Addr)(ln lc dn dc:Nat)(w:World)(ha:a<0) :
 Calls prog 199 #[kb,.pointer (g,o),.agg #[(9:Int),a,b,s,(lp,ln,lc),(dp,dn,dc)]] w λe w'=>oI w 13 e w':=by
 have BX:=Blk.new w [(9:Int),a,b,s,(lp,ln,lc),(dp,dn,dc)] 264;have k1:Bel w (w.alloc (.cells #[(9:Int),a,b,s,(lp,ln,lc),(dp,dn,dc)] 264)):=Bel.start _ _;change Blk (w.alloc (.cells #[(9:Int),a,b,s,(lp,ln,lc),(dp,dn,dc)] 264)) w.heap.size _ _ at BX
 go_enter func199,ntmps199;go_upto_region 1 with fail
 generalize w.alloc (.cells #[(9:Int),a,b,s,(lp,ln,lc),(dp,dn,dc)] 264)=w1 at *
 obtain⟨bx,hbx⟩:=e_x w.heap.size;rw[hbx]at BX⊢;have jZ:Hid (w.heap.size≤bx):=xh (Nat.le_of_eq hbx);have x0:=BX.c 0 rfl;have x1:=BX.c 1 rfl;have x2:=BX.c 2 rfl;have x3:=BX.c 3 rfl;have x4:=BX.c 4 rfl;have x5:=BX.c 5 rfl;have fG:=xh BX;have K1:=xh k1;clear BX k1 hbx;go_upto_region 8 with fail
 go_quiet (fail)
 have yz:Hid (Bel w (w1.drewN nq)):=xh (ah K1.o nq);go_wp2_with fail
 refine bodyPost_ret (v:=.tuple #[(0:Int),(0:Int),(),(13:Int)]) (by simp[results,results199,go_sem]) rfl ?_;exact⟨rfl,yz.o⟩
theorem uZ(kb g o:Nat)(a b:Int)(s:ByteArray)(lp dp:Option Addr)(ln lc dn dc:Nat)(w:World)(ha:8≤a) :
 Calls prog 199 #[kb,.pointer (g,o),.agg #[(9:Int),a,b,s,(lp,ln,lc),(dp,dn,dc)]] w λe w'=>oI w 13 e w':=by
 have BX:=Blk.new w [(9:Int),a,b,s,(lp,ln,lc),(dp,dn,dc)] 264;have k1:Bel w (w.alloc (.cells #[(9:Int),a,b,s,(lp,ln,lc),(dp,dn,dc)] 264)):=Bel.start _ _;change Blk (w.alloc (.cells #[(9:Int),a,b,s,(lp,ln,lc),(dp,dn,dc)] 264)) w.heap.size _ _ at BX
 have ha0:¬a<0:=by omega
 go_enter func199,ntmps199;go_upto_region 1 with fail
 generalize w.alloc (.cells #[(9:Int),a,b,s,(lp,ln,lc),(dp,dn,dc)] 264)=w1 at *
 obtain⟨bx,hbx⟩:=e_x w.heap.size;rw[hbx]at BX⊢;have jZ:Hid (w.heap.size≤bx):=xh (Nat.le_of_eq hbx);have x0:=BX.c 0 rfl;have x1:=BX.c 1 rfl;have x2:=BX.c 2 rfl;have x3:=BX.c 3 rfl;have x4:=BX.c 4 rfl;have x5:=BX.c 5 rfl;have fG:=xh BX;have K1:=xh k1;clear BX k1 hbx;go_upto_region 8 with fail
 go_quiet (fail)
 have yz:Hid (Bel w (w1.drewN nq)):=xh (ah K1.o nq);go_wp2_with fail
 refine bodyPost_ret (v:=.tuple #[(0:Int),(0:Int),(),(13:Int)]) (by simp[results,results199,go_sem]) rfl ?_;exact⟨rfl,yz.o⟩
theorem xB(kb g o:Nat)(b:Int)(s:ByteArray)(lp dp:Option Addr)(ln lc dn dc:Nat)(n:Nat)(w:World)(hn:n<8)(hc:w.cell? (g,o+23+n)=some (.int .i64 0)) :
 Calls prog 199 #[kb,.pointer (g,o),.agg #[(9:Int),.int .i64 n,b,s,(lp,ln,lc),(dp,dn,dc)]] w λe w'=>oI w 13 e w':=by
 have BX:=Blk.new w [(9:Int),.int .i64 n,b,s,(lp,ln,lc),(dp,dn,dc)] 264;have k1:Bel w (w.alloc (.cells #[(9:Int),.int .i64 n,b,s,(lp,ln,lc),(dp,dn,dc)] 264)):=Bel.start _ _;change Blk (w.alloc (.cells #[(9:Int),.int .i64 n,b,s,(lp,ln,lc),(dp,dn,dc)] 264)) w.heap.size _ _ at BX
 have ha0:¬(n:Int)<0:=by omega
 have ha1:¬(8:Int)≤n:=by omega
 have HC:=xh λW (hW:Bel w W)=>aa hW hc;have hn0:(0:Int)≤n:=by omega
 have hn1:(n:Int)<8:=by omega
 clear hc;go_enter func199,ntmps199;go_upto_region 1 with fail
 generalize w.alloc (.cells #[(9:Int),.int .i64 n,b,s,(lp,ln,lc),(dp,dn,dc)] 264)=w1 at *
 obtain⟨bx,hbx⟩:=e_x w.heap.size;rw[hbx]at BX⊢;have jZ:Hid (w.heap.size≤bx):=xh (Nat.le_of_eq hbx);have x0:=BX.c 0 rfl;have x1:=BX.c 1 rfl;have x2:=BX.c 2 rfl;have x3:=BX.c 3 rfl;have x4:=BX.c 4 rfl;have x5:=BX.c 5 rfl;have fG:=xh BX;have K1:=xh k1;clear BX k1 hbx;have c1:=HC.o _ K1.o;go_upto_region 8 with fail
 go_quiet (fail)
 have yz:Hid (Bel w (w1.drewN nq)):=xh (ah K1.o nq);go_wp2_with fail
 refine bodyPost_ret (v:=.tuple #[(0:Int),(0:Int),(),(13:Int)]) (by simp[results,results199,go_sem]) rfl ?_;exact⟨rfl,yz.o⟩
theorem Cv(kb g o:Nat)(b:Int)(s:ByteArray)(lp dp:Option Addr)(ln lc dn dc:Nat)(n:Nat)(x:Int)(cs:List Value)(R:World→Prop)(w:World)(hn:n<8)(hB:Blk w g cs 167)(hc:cs[o+23+n]?=some (.int .i64 x))(hx:x≠0)
 (hS:∀W W',Bel w W→Bel (W.setCell (g,o+23+n) (.int .i64 0)) W'→Calls prog 267 #[kb] W' λe w'=>e=.returned (.tuple #[])∧R w') :
 Calls prog 199 #[kb,.pointer (g,o),.agg #[(9:Int),.int .i64 n,b,s,(lp,ln,lc),(dp,dn,dc)]] w λe w'=>e=.returned (.tuple #[(0:Int),(0:Int),(),(0:Int)])∧R w':=by
 have BX:=Blk.new w [(9:Int),.int .i64 n,b,s,(lp,ln,lc),(dp,dn,dc)] 264;have k1:Bel w (w.alloc (.cells #[(9:Int),.int .i64 n,b,s,(lp,ln,lc),(dp,dn,dc)] 264)):=Bel.start _ _;change Blk (w.alloc (.cells #[(9:Int),.int .i64 n,b,s,(lp,ln,lc),(dp,dn,dc)] 264)) w.heap.size _ _ at BX
 have ha0:¬(n:Int)<0:=by omega
 have ha1:¬(8:Int)≤n:=by omega
 have hn0:(0:Int)≤n:=by omega
 have hn1:(n:Int)<8:=by omega
 have hxb:(x==0)=false:=bK hx;have HB:=xh (And.intro hB hc);have HS:=xh hS;clear hB hc hS hx;go_enter func199,ntmps199;go_upto_region 1 with fail
 generalize w.alloc (.cells #[(9:Int),.int .i64 n,b,s,(lp,ln,lc),(dp,dn,dc)] 264)=w1 at *
 obtain⟨bx,hbx⟩:=e_x w.heap.size;rw[hbx]at BX⊢;have jZ:Hid (w.heap.size≤bx):=xh (Nat.le_of_eq hbx);have x0:=BX.c 0 rfl;have x1:=BX.c 1 rfl;have x2:=BX.c 2 rfl;have x3:=BX.c 3 rfl;have x4:=BX.c 4 rfl;have x5:=BX.c 5 rfl;have fG:=xh BX;have K1:=xh k1;clear BX k1 hbx;have c1:w1.cell? (g,o+23+n)=some (.int .i64 x):=by rw[(HB.o.1.bel K1.o).cell];exact HB.o.2
 have f1:=(HB.o.1.bel K1.o).frozen (o+23+n);have l1:=(HB.o.1.bel K1.o).lt;have hxg:bx≠g:=fG.o.ne (HB.o.1.bel K1.o) (by decide);have hgx:g≠bx:=λe=>hxg e.symm;go_upto_region 8 with fail
 go_quiet (fail)
 have yz:Hid (Bel w (w1.drewN nq)):=xh (ah K1.o nq);have c1:=aa (ah (Bel.refl w1) nq) c1;have x1:=aa (ah (Bel.refl w1) nq) x1;have f1:=((HB.o.1.bel K1.o).bel (ah (Bel.refl w1) nq)).frozen (o+23+n);have l1:=((HB.o.1.bel K1.o).bel (ah (Bel.refl w1) nq)).lt;have x0:=aa (ah (Bel.refl w1) nq) x0;generalize w1.drewN nq=wq at *
 go_upto_region 10 with fail
 go_still_tail 6,(by kernel_rfl)
 change wpList _ _ _ _ _ wq.drew
 have HSW:Hid (Calls prog 267 #[kb] ((wq.setCell (g,o+23+n) (.int .i64 0)).drew) λe w'=>e=.returned (.tuple #[])∧R w'):=xh (HS.o _ _ yz.o (Bel.drew (Bel.refl _)));go_wp2_with (go_at_call 267;((with_reducible refine au HSW.o ?_);rintro e2 w2 ⟨rfl,q⟩;have HQ:=xh q;clear q))
 refine bodyPost_ret (v:=.tuple #[(0:Int),(0:Int),(),(0:Int)]) (by simp[results,results199,go_sem]) rfl ?_;exact⟨rfl,HQ.o⟩
theorem zY(kb g o:Nat)(a b:Int)(s:ByteArray)(lp dp:Option Addr)(ln lc dn dc:Nat)(i0 i1 i2:Int)(w:World)(jk:∀W,Bel w W→Calls prog 272 #[kb,.pointer (g,o),a] W (Z.b (.tuple #[.agg #[i0,i1,i2,(0:Int)],false]) W)) :
 Calls prog 199 #[kb,.pointer (g,o),.agg #[(13:Int),a,b,s,(lp,ln,lc),(dp,dn,dc)]] w λe w'=>oI w 13 e w':=by
 have BX:=Blk.new w [(13:Int),a,b,s,(lp,ln,lc),(dp,dn,dc)] 264;have k1:Bel w (w.alloc (.cells #[(13:Int),a,b,s,(lp,ln,lc),(dp,dn,dc)] 264)):=Bel.start _ _;change Blk (w.alloc (.cells #[(13:Int),a,b,s,(lp,ln,lc),(dp,dn,dc)] 264)) w.heap.size _ _ at BX
 have pQ:=xh jk;clear jk;go_enter func199,ntmps199;go_upto_region 1 with fail
 generalize w.alloc (.cells #[(13:Int),a,b,s,(lp,ln,lc),(dp,dn,dc)] 264)=w1 at *
 obtain⟨bx,hbx⟩:=e_x w.heap.size;rw[hbx]at BX⊢;have jZ:Hid (w.heap.size≤bx):=xh (Nat.le_of_eq hbx);have x0:=BX.c 0 rfl;have x1:=BX.c 1 rfl;have x2:=BX.c 2 rfl;have x3:=BX.c 3 rfl;have x4:=BX.c 4 rfl;have x5:=BX.c 5 rfl;have fG:=xh BX;have K1:=xh k1;clear BX k1 hbx;go_upto_region 26 with(go_at_call 272;((with_reducible refine au (pQ.o _ K1.o) ?_);rintro e2 w2 ⟨rfl,k2⟩;have K2:=xh (K1.o.tr k2);have x0:=(fG.o.bel k2).c 0 rfl;have x1:=(fG.o.bel k2).c 1 rfl;have jW:=xh (fG.o.bel k2);clear k2))
 have k3:Bel w2 (w2.alloc (.cells #[i0,i1,i2,(0:Int)] 357)):=Bel.start _ _;generalize w2.alloc (.cells #[i0,i1,i2,(0:Int)] 357)=w3 at *
 generalize w2.heap.size=bo at *
 have K3:=xh (K2.o.tr k3);have x0:=aa k3 x0;have x1:=aa k3 x1;have kH:=xh (jW.o.bel k3);clear k3;go_wp2_with fail
 refine bodyPost_ret (v:=.tuple #[(0:Int),(0:Int),(),(13:Int)]) (by simp[results,results199,go_sem]) rfl ?_;exact⟨rfl,K3.o⟩
theorem xC(kb g o:Nat)(a b:Int)(s:ByteArray)(lp dp:Option Addr)(ln lc dn dc:Nat)(i0 i1 i2:Int)(w:World)(jk:∀W,Bel w W→Calls prog 272 #[kb,.pointer (g,o),a] W (Z.b (.tuple #[.agg #[i0,i1,i2,(0:Int)],true]) W))
 (pR:∀W,Bel w W→Calls prog 274 #[.pointer (g,o),(0:Int)] W (Z.e (.int .i64 (-1)) W)) :
 Calls prog 199 #[kb,.pointer (g,o),.agg #[(13:Int),a,b,s,(lp,ln,lc),(dp,dn,dc)]] w λe w'=>oI w 14 e w':=by
 have BX:=Blk.new w [(13:Int),a,b,s,(lp,ln,lc),(dp,dn,dc)] 264;have k1:Bel w (w.alloc (.cells #[(13:Int),a,b,s,(lp,ln,lc),(dp,dn,dc)] 264)):=Bel.start _ _;change Blk (w.alloc (.cells #[(13:Int),a,b,s,(lp,ln,lc),(dp,dn,dc)] 264)) w.heap.size _ _ at BX
 have pQ:=xh jk;have yF:=xh pR;clear jk pR;go_enter func199,ntmps199;go_upto_region 1 with fail
 generalize w.alloc (.cells #[(13:Int),a,b,s,(lp,ln,lc),(dp,dn,dc)] 264)=w1 at *
 obtain⟨bx,hbx⟩:=e_x w.heap.size;rw[hbx]at BX⊢;have jZ:Hid (w.heap.size≤bx):=xh (Nat.le_of_eq hbx);have x0:=BX.c 0 rfl;have x1:=BX.c 1 rfl;have x2:=BX.c 2 rfl;have x3:=BX.c 3 rfl;have x4:=BX.c 4 rfl;have x5:=BX.c 5 rfl;have fG:=xh BX;have K1:=xh k1;clear BX k1 hbx;go_upto_region 26 with(go_at_call 272;((with_reducible refine au (pQ.o _ K1.o) ?_);rintro e2 w2 ⟨rfl,k2⟩;have K2:=xh (K1.o.tr k2);have x0:=(fG.o.bel k2).c 0 rfl;have x1:=(fG.o.bel k2).c 1 rfl;have jW:=xh (fG.o.bel k2);clear k2))
 have k3:Bel w2 (w2.alloc (.cells #[i0,i1,i2,(0:Int)] 357)):=Bel.start _ _;generalize w2.alloc (.cells #[i0,i1,i2,(0:Int)] 357)=w3 at *
 generalize w2.heap.size=bo at *
 have K3:=xh (K2.o.tr k3);have x0:=aa k3 x0;have x1:=aa k3 x1;have kH:=xh (jW.o.bel k3);clear k3;go_wp2_with (go_at_call 274;((with_reducible refine au (yF.o _ K3.o) ?_);rintro e4 w4 ⟨rfl,rfl⟩))
 refine bodyPost_ret (v:=.tuple #[(0:Int),(0:Int),(),(14:Int)]) (by simp[results,results199,go_sem]) rfl ?_;exact⟨rfl,K3.o⟩
def aat(w:World)(a:Addr)(v:Value)(w':World):Prop:=∃W,Bel w W∧w'=W.setCell a v
theorem Iw(kb g o:Nat)(b:Int)(s:ByteArray)(lp dp:Option Addr)(ln lc dn dc:Nat)(i0 i1 i2:Int)(n r:Nat)(x y:Int)(cs:List Value)(w:World)(jk:∀W,Bel w W→Calls prog 272 #[kb,.pointer (g,o),.int .i64 n] W (Z.b (.tuple #[.agg #[i0,i1,i2,(0:Int)],true]) W))
 (pR:∀W,Bel w W→Calls prog 274 #[.pointer (g,o),(0:Int)] W (Z.e (.int .i64 r) W))
 (hn:n<8)(hr:r<8)(hB:Blk w g cs 167)(hc:cs[o+23+n]?=some (.int .i64 x))(hy:cs[o+23+r]?=some (.int .i64 y)) :
 Calls prog 199 #[kb,.pointer (g,o),.agg #[(13:Int),.int .i64 n,b,s,(lp,ln,lc),(dp,dn,dc)]] w λe w'=>e=.returned (.tuple #[.int .i64 r,(0:Int),(),(0:Int)])∧aat w ⟨g,o+23+r,none⟩ (.int .i64 x) w':=by
 have BX:=Blk.new w [(13:Int),.int .i64 n,b,s,(lp,ln,lc),(dp,dn,dc)] 264;have k1:Bel w (w.alloc (.cells #[(13:Int),.int .i64 n,b,s,(lp,ln,lc),(dp,dn,dc)] 264)):=Bel.start _ _;change Blk (w.alloc (.cells #[(13:Int),.int .i64 n,b,s,(lp,ln,lc),(dp,dn,dc)] 264)) w.heap.size _ _ at BX
 have pQ:=xh jk;have yF:=xh pR;have HB:=xh (And.intro hB (And.intro hc hy));have hn0:(0:Int)≤n:=by omega
 have hn1:(n:Int)<8:=by omega
 have hr0:(0:Int)≤r:=by omega
 have hr1:(r:Int)<8:=by omega
 have hrn:¬(r:Int)<0:=by omega
 clear jk pR hB hc hy;go_enter func199,ntmps199;go_upto_region 1 with fail
 generalize w.alloc (.cells #[(13:Int),.int .i64 n,b,s,(lp,ln,lc),(dp,dn,dc)] 264)=w1 at *
 obtain⟨bx,hbx⟩:=e_x w.heap.size;rw[hbx]at BX⊢;have jZ:Hid (w.heap.size≤bx):=xh (Nat.le_of_eq hbx);have x0:=BX.c 0 rfl;have x1:=BX.c 1 rfl;have x2:=BX.c 2 rfl;have x3:=BX.c 3 rfl;have x4:=BX.c 4 rfl;have x5:=BX.c 5 rfl;have fG:=xh BX;have K1:=xh k1;clear BX k1 hbx;go_upto_region 26 with(go_at_call 272;((with_reducible refine au (pQ.o _ K1.o) ?_);rintro e2 w2 ⟨rfl,k2⟩;have K2:=xh (K1.o.tr k2);have x0:=(fG.o.bel k2).c 0 rfl;have x1:=(fG.o.bel k2).c 1 rfl;have jW:=xh (fG.o.bel k2);clear k2))
 have k3:Bel w2 (w2.alloc (.cells #[i0,i1,i2,(0:Int)] 357)):=Bel.start _ _;generalize w2.alloc (.cells #[i0,i1,i2,(0:Int)] 357)=w3 at *
 generalize w2.heap.size=bo at *
 have K3:=xh (K2.o.tr k3);have x0:=aa k3 x0;have x1:=aa k3 x1;have kH:=xh (jW.o.bel k3);clear k3;have hb3:=HB.o.1.bel K3.o;have c1:w3.cell? (g,o+23+n)=some (.int .i64 x):=by rw[hb3.cell];exact HB.o.2.1
 have c2:w3.cell? (g,o+23+r)=some (.int .i64 y):=by rw[hb3.cell];exact HB.o.2.2
 have f1:=hb3.frozen (o+23+r);have l1:=hb3.lt;clear hb3;go_upto_region 31 with(go_at_call 274;((with_reducible refine au (yF.o _ K3.o) ?_);rintro e4 w4 ⟨rfl,rfl⟩))
 go_still_tail 12,(by kernel_rfl)
 change wpList _ _ _ _ _ w3.drew
 go_wp2_with fail
 refine bodyPost_ret (v:=.tuple #[.int .i64 r,(0:Int),(),(0:Int)]) (by simp[results,results199,go_sem]) rfl ?_;exact⟨rfl,_,Bel.drew K3.o,rfl⟩
theorem yG(kb g o:Nat)(a b:Int)(s:ByteArray)(lp dp:Option Addr)(ln lc dn dc:Nat)(w:World)(pR:∀W,Bel w W→Calls prog 274 #[.pointer (g,o),(0:Int)] W (Z.e (.int .i64 (-1)) W)) :
 Calls prog 199 #[kb,.pointer (g,o),.agg #[(14:Int),a,b,s,(lp,ln,lc),(dp,dn,dc)]] w λe w'=>oI w 14 e w':=by
 have BX:=Blk.new w [(14:Int),a,b,s,(lp,ln,lc),(dp,dn,dc)] 264;have k1:Bel w (w.alloc (.cells #[(14:Int),a,b,s,(lp,ln,lc),(dp,dn,dc)] 264)):=Bel.start _ _;change Blk (w.alloc (.cells #[(14:Int),a,b,s,(lp,ln,lc),(dp,dn,dc)] 264)) w.heap.size _ _ at BX
 have yF:=xh pR;clear pR;go_enter func199,ntmps199;go_upto_region 1 with fail
 generalize w.alloc (.cells #[(14:Int),a,b,s,(lp,ln,lc),(dp,dn,dc)] 264)=w1 at *
 obtain⟨bx,hbx⟩:=e_x w.heap.size;rw[hbx]at BX⊢;have jZ:Hid (w.heap.size≤bx):=xh (Nat.le_of_eq hbx);have x0:=BX.c 0 rfl;have x1:=BX.c 1 rfl;have x2:=BX.c 2 rfl;have x3:=BX.c 3 rfl;have x4:=BX.c 4 rfl;have x5:=BX.c 5 rfl;have fG:=xh BX;have K1:=xh k1;clear BX k1 hbx;have K3:=xh K1.o;go_wp2_with (go_at_call 274;((with_reducible refine au (yF.o _ K3.o) ?_);rintro e4 w4 ⟨rfl,rfl⟩))
 refine bodyPost_ret (v:=.tuple #[(0:Int),(0:Int),(),(14:Int)]) (by simp[results,results199,go_sem]) rfl ?_;exact⟨rfl,K3.o⟩
theorem yH(kb g o:Nat)(a b:Int)(s:ByteArray)(lp dp:Option Addr)(ln lc dn dc:Nat)(r:Nat)(w:World)(hr:r<8)(pR:∀W,Bel w W→Calls prog 274 #[.pointer (g,o),(0:Int)] W (Z.e (.int .i64 r) W))
 (Ew:∀W,Bel w W→Calls prog 274 #[.pointer (g,o),.int .i64 ((r:Int)+1)] W (Z.e (.int .i64 (-1)) W)) :
 Calls prog 199 #[kb,.pointer (g,o),.agg #[(14:Int),a,b,s,(lp,ln,lc),(dp,dn,dc)]] w λe w'=>oI w 14 e w':=by
 have BX:=Blk.new w [(14:Int),a,b,s,(lp,ln,lc),(dp,dn,dc)] 264;have k1:Bel w (w.alloc (.cells #[(14:Int),a,b,s,(lp,ln,lc),(dp,dn,dc)] 264)):=Bel.start _ _;change Blk (w.alloc (.cells #[(14:Int),a,b,s,(lp,ln,lc),(dp,dn,dc)] 264)) w.heap.size _ _ at BX
 have yF:=xh pR;have yf:=xh Ew;have hr0:(0:Int)≤r:=by omega
 have hrn:¬(r:Int)<0:=by omega
 clear pR Ew;go_enter func199,ntmps199;go_upto_region 1 with fail
 generalize w.alloc (.cells #[(14:Int),a,b,s,(lp,ln,lc),(dp,dn,dc)] 264)=w1 at *
 obtain⟨bx,hbx⟩:=e_x w.heap.size;rw[hbx]at BX⊢;have jZ:Hid (w.heap.size≤bx):=xh (Nat.le_of_eq hbx);have x0:=BX.c 0 rfl;have x1:=BX.c 1 rfl;have x2:=BX.c 2 rfl;have x3:=BX.c 3 rfl;have x4:=BX.c 4 rfl;have x5:=BX.c 5 rfl;have fG:=xh BX;have K1:=xh k1;clear BX k1 hbx;have K3:=xh K1.o;go_upto_region 35 with(go_at_call 274;((with_reducible refine au (yF.o _ K3.o) ?_);rintro e4 w4 ⟨rfl,rfl⟩))
 go_wp2_with (go_at_call 274;((with_reducible refine au (yf.o _ K3.o) ?_);rintro e4 w4 ⟨rfl,rfl⟩))
 refine bodyPost_ret (v:=.tuple #[(0:Int),(0:Int),(),(14:Int)]) (by simp[results,results199,go_sem]) rfl ?_;exact⟨rfl,K3.o⟩
theorem ve(kb g o:Nat)(a b:Int)(s:ByteArray)(lp dp:Option Addr)(ln lc dn dc:Nat)(r m no lim oc:Nat)(po:Option Addr)(w:World)(hr:r<8)(hm:m<8)(hno:no≤1000)(hfull:lim<no+2)(h2:w.cell? (kb,2)=some (.int .i64 lim))(h6:w.cell? (kb,6)=some (.slice po no oc))(pR:∀W,Bel w W→Calls prog 274 #[.pointer (g,o),(0:Int)] W (Z.e (.int .i64 r) W))
 (Ew:∀W,Bel w W→Calls prog 274 #[.pointer (g,o),.int .i64 ((r:Int)+1)] W (Z.e (.int .i64 m) W)) :
 Calls prog 199 #[kb,.pointer (g,o),.agg #[(14:Int),a,b,s,(lp,ln,lc),(dp,dn,dc)]] w λe w'=>oI w 12 e w':=by
 have BX:=Blk.new w [(14:Int),a,b,s,(lp,ln,lc),(dp,dn,dc)] 264;have k1:Bel w (w.alloc (.cells #[(14:Int),a,b,s,(lp,ln,lc),(dp,dn,dc)] 264)):=Bel.start _ _;change Blk (w.alloc (.cells #[(14:Int),a,b,s,(lp,ln,lc),(dp,dn,dc)] 264)) w.heap.size _ _ at BX
 have yF:=xh pR;have yf:=xh Ew;have hr0:(0:Int)≤r:=by omega
 have hrn:¬(r:Int)<0:=by omega
 have hm0:(0:Int)≤m:=by omega
 have hmn:¬(m:Int)<0:=by omega
 have hfl:(lim:Int)<(no:Int)+2:=by omega
 have hwr:IntKind.i64.wrap ((no:Int)+2)=(no:Int)+2:=by rw[IntKind.wrap_i64];omega
 have H26:=xh λW (hW:Bel w W)=>And.intro (aa hW h2) (aa hW h6);clear pR Ew h2 h6;go_enter func199,ntmps199;go_upto_region 1 with fail
 generalize w.alloc (.cells #[(14:Int),a,b,s,(lp,ln,lc),(dp,dn,dc)] 264)=w1 at *
 obtain⟨bx,hbx⟩:=e_x w.heap.size;rw[hbx]at BX⊢;have jZ:Hid (w.heap.size≤bx):=xh (Nat.le_of_eq hbx);have x0:=BX.c 0 rfl;have x1:=BX.c 1 rfl;have x2:=BX.c 2 rfl;have x3:=BX.c 3 rfl;have x4:=BX.c 4 rfl;have x5:=BX.c 5 rfl;have fG:=xh BX;have K1:=xh k1;clear BX k1 hbx;have K3:=xh K1.o;obtain⟨c2,c6⟩:=H26.o _ K1.o;go_upto_region 35 with(go_at_call 274;((with_reducible refine au (yF.o _ K3.o) ?_);rintro e4 w4 ⟨rfl,rfl⟩))
 go_upto_region 38 with(go_at_call 274;((with_reducible refine au (yf.o _ K3.o) ?_);rintro e4 w4 ⟨rfl,rfl⟩))
 go_quiet (fail)
 have yz:Hid (Bel w (w1.drewN nq)):=xh (ah K1.o nq);go_wp2_with fail
 refine bodyPost_ret (v:=.tuple #[(0:Int),(0:Int),(),(12:Int)]) (by simp[results,results199,go_sem]) rfl ?_;exact⟨rfl,yz.o⟩
theorem acC(a b c d e f g h:Int):∀u∈[Value.int .i64 a,b,c,d,e,f,g,h],u.oneCell'=true:=by
 intro u hu;simp only[List.mem_cons,List.not_mem_nil,or_false]at hu
 rcases hu with rfl|rfl|rfl|rfl|rfl|rfl|rfl|rfl<;>rfl
structure Xy(base:Nat)(w:World)(kb g o:Nat)(s:KV)(iv:Value)(n:Nat)(O:List Oj)(P:List Pp)(cs:List Value)(r m:Nat)(ov xv:Value)(w':World):Prop where
 blk:Blk w' kb ({s with ov:=ov,xv:=xv}.cells iv (n+3)) 174
 obj:xx w' base ov (O++[⟨(n+2:Nat),2,(n+1:Nat)⟩,⟨(n+3:Nat),3,(n+1:Nat)⟩])
 nG:xA w' base xv (P++[⟨(n+1:Nat),.slice none 0 0,[]⟩])
 row:Blk w' g ((cs.set (o+23+r) (.int .i64 (n+2:Nat))).set (o+23+m) (.int .i64 (n+3:Nat))) 167
 kept:Keep (λq=>q=kb∨q=g∨s.ov.ownBlock=some q∨s.xv.ownBlock=some q) w w'
theorem Ex(kb g o:Nat)(a b:Int)(s:ByteArray)(lp dp:Option Addr)(ln lc dn dc:Nat)(r m n lim:Nat)(kv:KV)(iv:Value)(O:List Oj)(P:List Pp)(cs:List Value)(w:World)(hrm:r<m)(hm:m<8)(hB:Blk w kb (kv.cells iv n) 174)(hlim:kv.c=lim)(base:Nat)(hb0:kb+1≤base)(hb1:base≤w.heap.size)(hO:xx w base kv.ov O)(hP:xA w base kv.xv P)(hol:O.length≤1000)(hpl:P.length≤1000)(hfit:O.length+2≤lim)(hn:n≤900000)(hG:Blk w g cs 167)(hgl:o+31≤cs.length)(pR:∀W,Bel w W→Calls prog 274 #[.pointer (g,o),(0:Int)] W (Z.e (.int .i64 r) W))
 (Ew:∀W,Bel w W→Calls prog 274 #[.pointer (g,o),.int .i64 ((r:Int)+1)] W (Z.e (.int .i64 m) W)) :
 Calls prog 199 #[kb,.pointer (g,o),.agg #[(14:Int),a,b,s,(lp,ln,lc),(dp,dn,dc)]] w λe w'=>e=.returned (.tuple #[.int .i64 r,.int .i64 m,(),(0:Int)])∧∃ov xv,Xy base w kb g o kv iv n O P cs r m ov xv w':=by
 have BX:=Blk.new w [(14:Int),a,b,s,(lp,ln,lc),(dp,dn,dc)] 264;have k1:Bel w (w.alloc (.cells #[(14:Int),a,b,s,(lp,ln,lc),(dp,dn,dc)] 264)):=Bel.start _ _;change Blk (w.alloc (.cells #[(14:Int),a,b,s,(lp,ln,lc),(dp,dn,dc)] 264)) w.heap.size _ _ at BX
 have yF:=xh pR;have yf:=xh Ew;have hr0:(0:Int)≤r:=by omega
 have hrn:¬(r:Int)<0:=by omega
 have hm0:(0:Int)≤m:=by omega
 have hmn:¬(m:Int)<0:=by omega
 have tK:(r:Int)<8:=by omega
 have Ul:(m:Int)<8:=by omega
 have hfl:¬(lim:Int)<(O.length:Int)+2:=by omega
 have hwr:IntKind.i64.wrap ((O.length:Int)+2)=(O.length:Int)+2:=by rw[IntKind.wrap_i64];omega
 obtain⟨po,co,hov,hoc⟩:=hO.cell;have H26:=xh λW (hW:Bel w W)=>And.intro (show W.cell? (kb,2)=some (.int .i64 lim)from aa hW (by rw[hB.cell];show some (Value.int .i64 kv.c)=_;rw[hlim])) (show W.cell? (kb,6)=some (.slice po O.length co)from aa hW (by rw[hB.cell];show some kv.ov=_;rw[hov]));have HH:=xh (And.intro hB (And.intro hO (And.intro hP hG)));have HN:=xh (And.intro hol (And.intro hpl (And.intro hn hgl)));have uH:g≠kb:=hG.ne hB (by decide);have hkg:kb≠g:=λe=>uH e.symm;clear pR Ew hB hO hP hG hov hoc hlim;go_enter func199,ntmps199;go_upto_region 1 with fail
 generalize w.alloc (.cells #[(14:Int),a,b,s,(lp,ln,lc),(dp,dn,dc)] 264)=w1 at *
 obtain⟨bx,hbx⟩:=e_x w.heap.size;rw[hbx]at BX⊢;have jZ:Hid (w.heap.size≤bx):=xh (Nat.le_of_eq hbx);have x0:=BX.c 0 rfl;have x1:=BX.c 1 rfl;have x2:=BX.c 2 rfl;have x3:=BX.c 3 rfl;have x4:=BX.c 4 rfl;have x5:=BX.c 5 rfl;have fG:=xh BX;have K1:=xh k1;clear BX k1 hbx;obtain⟨c2,c6⟩:=H26.o _ K1.o;go_upto_region 35 with(go_at_call 274;((with_reducible refine au (yF.o _ K1.o) ?_);rintro e4 w4 ⟨rfl,rfl⟩))
 go_upto_region 38 with(go_at_call 274;((with_reducible refine au (yf.o _ K1.o) ?_);rintro e4 w4 ⟨rfl,rfl⟩))
 clear x1 x2 x3 x4 x5;go_quiet (fail)
 have yz:Hid (Bel w (w1.drewN nq)):=xh (ah K1.o nq);generalize w1.drewN nq=wq at *
 clear c2 c6 hwr x0;obtain⟨l1,hl1⟩:=e_x (n+1);obtain⟨l2,hl2⟩:=e_x (n+2);obtain⟨l3,hl3⟩:=e_x (n+3);have Eu:=xh (And.intro hl1 (And.intro hl2 hl3));have hF1:=nC kb kv iv n wq (HH.o.1.bel yz.o) (by have:=HN.o.2.2.1;omega);rw[hl1]at hF1;have Qe:=xh hF1;clear hl1 hl2 hl3 hF1;go_upto_region 41 with(go_at_call 103;((with_reducible refine au Qe.o ?_);rintro e5 wa ⟨rfl,b5,k5⟩;have HA:=xh (And.intro b5 k5);clear b5 k5))
 have hF2:=nC kb kv iv l1 wa HA.o.1 (by have:=HN.o.2.2.1;have:=Eu.o.1;omega);rw[show l1+1=l2 from by have:=Eu.o;omega]at hF2;have OU:=xh hF2;clear hF2;go_upto_region 42 with(go_at_call 103;((with_reducible refine au OU.o ?_);rintro e5 wb ⟨rfl,b5,k5⟩;have HB:=xh (And.intro b5 k5);clear b5 k5))
 have hF3:=nC kb kv iv l2 wb HB.o.1 (by have:=HN.o.2.2.1;have:=Eu.o.2.1;omega);rw[show l2+1=l3 from by have:=Eu.o;omega]at hF3;have Zo:=xh hF3;clear hF3;go_upto_region 43 with(go_at_call 103;((with_reducible refine au Zo.o ?_);rintro e5 wc ⟨rfl,b5,k5⟩;have HC:=xh (And.intro b5 k5);clear b5 k5))
 have KC:Keep (λq=>q=kb) w wc:=((Keep.of_bel _ yz.o).tr HA.o.2).tr (HB.o.2.tr HC.o.2);obtain⟨xv0,hx0⟩:=e_x kv.xv;obtain⟨Zp,ho0⟩:=e_x kv.ov;have HXO:=xh (And.intro hx0 ho0);have vW:=xh KC;have HOC:Hid (xx wc base Zp O):=xh (by rw[←ho0];exact aZ HH.o.2.1 KC (λg hg e=>by have e:g=kb:=e;omega));have HPC:Hid (xA wc base xv0 P):=xh (by rw[←hx0];exact aZ HH.o.2.2.1 KC (λg hg e=>by have e:g=kb:=e;omega));have HGC:=xh (HH.o.2.2.2.keep KC uH);have hsz:kb<wc.heap.size:=HC.o.1.lt;have acD:base≤wc.heap.size:=aV hb1 vW.o.size;have c8:wc.cell? (kb,8)=some xv0:=by rw[HC.o.1.cell];show some kv.xv=_;rw[hx0]
 have Ey:Hid (P.length≤1000):=xh HN.o.2.1;have HOL:Hid (O.length≤1000):=xh HN.o.1;clear KC hx0 ho0
 go_upto_region 44 with(first
  | (at_builtin;refine aI rfl (.tmp 183) (.tmp 186) 171 rfl underlying171 xM (by omega) rfl (aB HPC.o K5) _ 1 1 [.int .i64 l1,()] 421 rfl B5.out rfl (by intro v hv;simp at hv;rcases hv with rfl|rfl<;>rfl) (by have:=Ey.o;unfold maxLen;omega) (by have:=Ey.o;omega) (by have:=K5.size;omega) ?_;intro p6 c6 w6 R6 K6;have B6:=(HC.o.1.bel K5).keep K6 (λe=>by have:=fQ HPC.o _ e;omega);have f8:=B6.frozen 8;have q8:w6.cell? (kb,8)=some xv0:=(by rw[B6.cell];show some kv.xv=_;rw[HXO.o.1]);have l8:=B6.lt;have H6:=xh (And.intro R6 (And.intro B6 (And.intro K5 K6)));clear B6 R6 K6)
  | (refine af rfl 171 421 (.tmp 185) rfl [.int .i64 l1,()] rfl underlying171 xM (by show 0<2;omega) (by show 2≤2^24;omega) ?_;intro w5 B5 K5))
 have K7:=Keep.setCell w6 kb 8 (.slice p6 (P.length+1) c6);have B7:Blk (w6.setCell (kb,8) (.slice p6 (P.length+1) c6)) kb ({kv with xv:=.slice p6 (P.length+1) c6}.cells iv l3) 174:=H6.o.2.1.setCell (o:=8) _;generalize w6.setCell (kb,8) (.slice p6 (P.length+1) c6)=w7 at *
 have AJ:Hid (Keep (λq=>q=kb∨xv0.ownBlock=some q) wc w7):=xh (((Keep.of_bel _ H6.o.2.2.1).tr (H6.o.2.2.2.mono λq h=>.inr h)).tr (K7.mono λq h=>.inl h));have HP7:Hid (xA w7 base (.slice p6 (P.length+1) c6) (P++[⟨l1,.slice none 0 0,[]⟩])):=xh (by
  have h:=aZ H6.o.1 K7 (λg hg e=>by have e:g=kb:=e;omega);unfold xA;rw[List.flatMap_append,List.length_append];exact h)
 have Wi:∀q cs,Blk wc q cs 357→¬(q=kb∨xv0.ownBlock=some q):=λq cs hq e=>by
  rcases e with e|e
  ·subst e;exact HC.o.1.ne hq (by decide) rfl
  ·obtain⟨_,cur,hb2⟩:=row_blk HPC.o e
   exact hb2.ne hq (by decide) rfl
 have HO7:Hid (xx w7 base Zp O):=xh (fH HOC.o AJ.o Wi);have Xz:Hid (Blk w7 g cs 167):=xh (HGC.o.keep AJ.o λe=>by
  rcases e with e|e
  ·exact uH e
  ·obtain⟨_,cur,hb2⟩:=row_blk HPC.o e
   exact hb2.ne HGC.o (by decide) rfl)
 have uW:=xh B7;have aeM:kb<w7.heap.size:=B7.lt;have ael:base≤w7.heap.size:=aV acD AJ.o.size;have c6o:w7.cell? (kb,6)=some Zp:=by rw[B7.cell];show some kv.ov=_;rw[HXO.o.2]
 clear B7 K7 Wi c8 q8 f8 l8 B5 K5;have K5:Bel w7 (w7.alloc (.cells #[.int .i64 l2,(2:Int),.int .i64 l1,(0:Int),.int .i64 l3,(3:Int),.int .i64 l1,(0:Int)] 357)):=Bel.start _ _;have B5:Blk (w7.alloc (.cells #[.int .i64 l2,(2:Int),.int .i64 l1,(0:Int),.int .i64 l3,(3:Int),.int .i64 l1,(0:Int)] 357)) w7.heap.size [.int .i64 l2,(2:Int),.int .i64 l1,(0:Int),.int .i64 l3,(3:Int),.int .i64 l1,(0:Int)] 357:=Blk.new w7 _ _;have ow:=xh K5;have nH:=xh B5;clear K5 B5;go_upto_region 45 with(at_builtin;refine aI rfl (.tmp 194) (.tmp 201) 169 rfl underlying169 Cn (by omega) rfl (aB HO7.o ow.o) _ 2 2 [.int .i64 l2,(2:Int),.int .i64 l1,(0:Int),.int .i64 l3,(3:Int),.int .i64 l1,(0:Int)] 357 rfl nH.o rfl (acC _ _ _ _ _ _ _ _) (by have:=HOL.o;unfold maxLen;omega) (by have:=HOL.o;omega) (by have:=ow.o.size;omega) ?_;intro p8 c8 w8 R8 K8;have B8:=(uW.o.bel ow.o).keep K8 (λe=>by have:=fQ HO7.o _ e;omega);have f6:=B8.frozen 6;have q6:w8.cell? (kb,6)=some Zp:=(by rw[B8.cell];show some kv.ov=_;rw[HXO.o.2]);have l8:=B8.lt;have H8:=xh (And.intro R8 (And.intro B8 (And.intro ow.o K8)));clear B8 R8 K8)
 have K9:=Keep.setCell w8 kb 6 (.slice p8 (O.length+2) c8);have B9:Blk (w8.setCell (kb,6) (.slice p8 (O.length+2) c8)) kb ({kv with ov:=.slice p8 (O.length+2) c8,xv:=.slice p6 (P.length+1) c6}.cells iv l3) 174:=H8.o.2.1.setCell (o:=6) _;generalize w8.setCell (kb,6) (.slice p8 (O.length+2) c8)=w9 at *
 have oQ:Hid (Keep (λq=>q=kb∨Zp.ownBlock=some q) w7 w9):=xh (((Keep.of_bel _ H8.o.2.2.1).tr (H8.o.2.2.2.mono λq h=>.inr h)).tr (K9.mono λq h=>.inl h));have HO9:Hid (xx w9 base (.slice p8 (O.length+2) c8) (O++[⟨l2,2,l1⟩,⟨l3,3,l1⟩])):=xh (by
  have h:=aZ H8.o.1 K9 (λg hg e=>by have e:g=kb:=e;omega);unfold xx;rw[List.flatMap_append,List.length_append];exact h)
 have hne:∀q cs t,Blk w7 q cs t→t≠357→¬q=kb→¬(q=kb∨Zp.ownBlock=some q):=λq cs t hq ht hqk e=>by
  rcases e with e|e
  ·exact hqk e
  ·obtain⟨_,cur,hb2⟩:=row_blk HO7.o e
   exact hb2.ne hq (λe=>ht e.symm) rfl
 have Wj:Hid (xA w9 base (.slice p6 (P.length+1) c6) (P++[⟨l1,.slice none 0 0,[]⟩])):=xh (fH HP7.o oQ.o λq cs hq=>hne q cs _ hq (by decide) λe=>by subst e;exact uW.o.ne hq (by decide) rfl);have Zq:Hid (Blk w9 g cs 167):=xh (Xz.o.keep oQ.o (hne g cs _ Xz.o (by decide) uH));have DC:=xh B9;clear B9 K9 hne c6o q6 f6 l8;have hgl:=HN.o.2.2.2;obtain⟨v1,c1⟩:∃v,w9.cell? (g,o+23+r)=some v:=⟨_,by rw[Zq.o.cell];exact bP (by omega)⟩;have f1:=Zq.o.frozen (o+23+r);have lg:=Zq.o.lt;have Um:=xh (Zq.o.setCell (o:=o+23+r) (.int .i64 l2));go_upto_region 46 with fail
 have zZ:=xh (Keep.setCell w9 g (o+23+r) (.int .i64 l2));generalize w9.setCell (g,o+23+r) (.int .i64 l2)=sI at *
 clear c1 f1 lg;obtain⟨v2,c2⟩:∃v,sI.cell? (g,o+23+m)=some v:=⟨_,by rw[Um.o.cell];exact bP (by simp;omega)⟩;have f2:=Um.o.frozen (o+23+m);have lg:=Um.o.lt;have XA:=xh (Um.o.setCell (o:=o+23+m) (.int .i64 l3));go_upto_region 47 with fail
 have ME:=xh (zZ.o.tr (Keep.setCell sI g (o+23+m) (.int .i64 l3)));generalize sI.setCell (g,o+23+m) (.int .i64 l3)=DI at *
 clear c2 f2 lg;have HR:Hid (∃ov xv,Xy base w kb g o kv iv n O P cs r m ov xv DI):=xh (by
  obtain⟨e1,e2,e3⟩:=Eu.o;subst e1 e2 e3;refine⟨.slice p8 (O.length+2) c8,.slice p6 (P.length+1) c6,DC.o.keep ME.o hkg,fH HO9.o ME.o λq cs hq e=>?_,fH Wj.o ME.o λq cs hq e=>?_,XA.o,?_⟩
  ·have e:q=g:=e
   subst e;exact Zq.o.ne hq (by decide) rfl
  ·have e:q=g:=e
   subst e;exact Zq.o.ne hq (by decide) rfl
  ·refine(((vW.o.mono λq h=>.inl h).tr (AJ.o.mono λq h=>?_)).tr (oQ.o.mono λq h=>?_)).tr (ME.o.mono λq h=>.inr (.inl h))
   ·exact h.elim .inl λh=>.inr (.inr (.inr (by rw[HXO.o.1];exact h)))
   ·exact h.elim .inl λh=>.inr (.inr (.inl (by rw[HXO.o.2];exact h))))
 go_wp2_with fail
 refine bodyPost_ret (v:=.tuple #[.int .i64 r,.int .i64 m,(),(0:Int)]) (by simp[results,results199,go_sem]) rfl ?_;exact⟨rfl,HR.o⟩
theorem MF(kb g cap:Nat)(pid:Int)(w:World)(c5:w.cell? (kb,5)=some (.slice (g,0) 1 cap))(h0:w.cell? (g,0)=some (.int .i64 pid)) :
 Calls prog 62 #[kb,pid] w (Z.e (.int .i64 0) w):=by
 go_enter func62,ntmps62;go_wp2_with fail
 refine wp_loop_rounds 1 ?_;rw[rounds_succ];go_wp2_with fail
 go_ret
 exact⟨rfl,rfl⟩
theorem Iy(kb g cap:Nat)(q pid:Int)(w:World)(c5:w.cell? (kb,5)=some (.slice (g,0) 1 cap))(h0:w.cell? (g,0)=some (.int .i64 q))(hq:q≠pid) :
 Calls prog 62 #[kb,pid] w (Z.e (.int .i64 (-1)) w):=by
 have hb:(q==pid)=false:=bK hq;clear hq;go_enter func62,ntmps62;go_wp2_with fail
 refine wp_loop_rounds 2 ?_;rw[rounds_succ];go_wp2_with fail
 rw[rounds_succ];go_wp2_with fail
 go_ret
 exact⟨rfl,rfl⟩
theorem MG(kb g cap:Nat)(st:Int)(w:World)(c5:w.cell? (kb,5)=some (.slice (g,0) 1 cap))(h2:w.cell? (g,2)=some (.int .i64 st))(hst:st≠1) :
 Calls prog 66 #[kb] w (Z.e (.tuple #[]) w):=by
 have hb:(st==1)=false:=bK hst;clear hst;go_enter func66,ntmps66;go_wp2_with fail
 refine wp_loop_rounds 2 ?_;rw[rounds_succ];go_wp2_with fail
 rw[rounds_succ];go_wp2_with fail
 go_end0
 exact⟨rfl,rfl⟩
theorem Un(kb g cap:Nat)(pid:Int)(kd:Int)(a b:Int)(s:ByteArray)(lp dp:Option Addr)(ln lc dn dc:Nat)(w:World)(vg:∀W,Bel w W→Calls prog 62 #[kb,pid] W (Z.e (.int .i64 (-1)) W)) :
 Calls prog 111 #[kb,pid,.agg #[kd,a,b,s,(lp,ln,lc),(dp,dn,dc)]] w λe w'=>oI w 18 e w':=by
 have BX:=Blk.new w [kd,a,b,s,(lp,ln,lc),(dp,dn,dc)] 264;have k1:Bel w (w.alloc (.cells #[kd,a,b,s,(lp,ln,lc),(dp,dn,dc)] 264)):=Bel.start _ _;change Blk (w.alloc (.cells #[kd,a,b,s,(lp,ln,lc),(dp,dn,dc)] 264)) w.heap.size _ _ at BX
 have rJ:=xh vg;clear vg;go_enter func111,ntmps111;go_upto_region 1 with fail
 generalize w.alloc (.cells #[kd,a,b,s,(lp,ln,lc),(dp,dn,dc)] 264)=w1 at *
 obtain⟨bx,hbx⟩:=e_x w.heap.size;rw[hbx]at BX⊢;have x0:=BX.c 0 rfl;have x1:=BX.c 1 rfl;have x2:=BX.c 2 rfl;have x3:=BX.c 3 rfl;have x4:=BX.c 4 rfl;have x5:=BX.c 5 rfl;have K1:=xh k1;clear BX k1 hbx;go_wp2_with (go_at_call 62;((with_reducible refine au (rJ.o _ K1.o) ?_);rintro e4 w4 ⟨rfl,rfl⟩))
 refine bodyPost_ret (v:=.tuple #[(0:Int),(0:Int),(),(18:Int)]) (by simp[results,results111,go_sem]) rfl ?_;exact⟨rfl,K1.o⟩
theorem Qf(kb g cap:Nat)(pid:Int)(kd:Int)(a b:Int)(s:ByteArray)(lp dp:Option Addr)(ln lc dn dc:Nat)(w:World)(c5:w.cell? (kb,5)=some (.slice (g,0) 1 cap))(h2:w.cell? (g,2)=some (.int .i64 0))(hkd:kd≤0∨kd=20∨22≤kd)(vg:∀W,Bel w W→Calls prog 62 #[kb,pid] W (Z.e (.int .i64 0) W)) :
 Calls prog 111 #[kb,pid,.agg #[kd,a,b,s,(lp,ln,lc),(dp,dn,dc)]] w λe w'=>oI w 23 e w':=by
 have BX:=Blk.new w [kd,a,b,s,(lp,ln,lc),(dp,dn,dc)] 264;have k1:Bel w (w.alloc (.cells #[kd,a,b,s,(lp,ln,lc),(dp,dn,dc)] 264)):=Bel.start _ _;change Blk (w.alloc (.cells #[kd,a,b,s,(lp,ln,lc),(dp,dn,dc)] 264)) w.heap.size _ _ at BX
 have rJ:=xh vg;clear vg;have n1:(kd==1)=false:=bK (by omega);have n2:(kd==2)=false:=bK (by omega);have n3:(kd==3)=false:=bK (by omega);have n4:(kd==4)=false:=bK (by omega);have n5:(kd==5)=false:=bK (by omega);have n6:(kd==6)=false:=bK (by omega);have n7:(kd==7)=false:=bK (by omega);have n8:(kd==8)=false:=bK (by omega);have n9:(kd==9)=false:=bK (by omega);have n10:(kd==10)=false:=bK (by omega);have n11:(kd==11)=false:=bK (by omega);have n12:(kd==12)=false:=bK (by omega);have n13:(kd==13)=false:=bK (by omega);have n14:(kd==14)=false:=bK (by omega);have n15:(kd==15)=false:=bK (by omega);have n16:(kd==16)=false:=bK (by omega);have n17:(kd==17)=false:=bK (by omega);have n18:(kd==18)=false:=bK (by omega);have n19:(kd==19)=false:=bK (by omega);have n21:(kd==21)=false:=bK (by omega);have H5:=xh λW (hW:Bel w W)=>And.intro (aa hW c5) (aa hW h2);clear hkd c5 h2;go_enter func111,ntmps111;go_upto_region 1 with fail
 generalize w.alloc (.cells #[kd,a,b,s,(lp,ln,lc),(dp,dn,dc)] 264)=w1 at *
 obtain⟨bx,hbx⟩:=e_x w.heap.size;rw[hbx]at BX⊢;have x0:=BX.c 0 rfl;have x1:=BX.c 1 rfl;have x2:=BX.c 2 rfl;have x3:=BX.c 3 rfl;have x4:=BX.c 4 rfl;have x5:=BX.c 5 rfl;have K1:=xh k1;clear BX k1 hbx;obtain⟨c5,h2⟩:=H5.o _ K1.o;go_wp2_with (go_at_call 62;((with_reducible refine au (rJ.o _ K1.o) ?_);rintro e4 w4 ⟨rfl,rfl⟩))
 refine bodyPost_ret (v:=.tuple #[(0:Int),(0:Int),(),(23:Int)]) (by simp[results,results111,go_sem]) rfl ?_;exact⟨rfl,K1.o⟩
theorem aau(kb g cap:Nat)(pid:Int)(a b:Int)(s:ByteArray)(lp dp:Option Addr)(ln lc dn dc:Nat)(Q:Int→Int→Option Addr→Nat→Nat→Int→World→Prop)(w:World)(c5:w.cell? (kb,5)=some (.slice (g,0) 1 cap))(h2:w.cell? (g,2)=some (.int .i64 0))(vg:∀W,Bel w W→Calls prog 62 #[kb,pid] W (Z.e (.int .i64 0) W))
 (hF:∀W,Bel w W→Calls prog 199 #[kb,g,.agg #[(9:Int),a,b,s,(lp,ln,lc),(dp,dn,dc)]] W (tJ Q)) :
 Calls prog 111 #[kb,pid,.agg #[(9:Int),a,b,s,(lp,ln,lc),(dp,dn,dc)]] w λe w'=>tJ Q e w':=by
 have BX:=Blk.new w [(9:Int),a,b,s,(lp,ln,lc),(dp,dn,dc)] 264;have k1:Bel w (w.alloc (.cells #[(9:Int),a,b,s,(lp,ln,lc),(dp,dn,dc)] 264)):=Bel.start _ _;change Blk (w.alloc (.cells #[(9:Int),a,b,s,(lp,ln,lc),(dp,dn,dc)] 264)) w.heap.size _ _ at BX
 have rJ:=xh vg;clear vg;have H5:=xh λW (hW:Bel w W)=>And.intro (aa hW c5) (aa hW h2);have HF:=xh hF;clear c5 h2 hF;go_enter func111,ntmps111;go_upto_region 1 with fail
 generalize w.alloc (.cells #[(9:Int),a,b,s,(lp,ln,lc),(dp,dn,dc)] 264)=w1 at *
 obtain⟨bx,hbx⟩:=e_x w.heap.size;rw[hbx]at BX⊢;have x0:=BX.c 0 rfl;have x1:=BX.c 1 rfl;have x2:=BX.c 2 rfl;have x3:=BX.c 3 rfl;have x4:=BX.c 4 rfl;have x5:=BX.c 5 rfl;have K1:=xh k1;clear BX k1 hbx;obtain⟨c5,h2⟩:=H5.o _ K1.o;go_wp2_with (first|(go_at_call 62;((with_reducible refine au (rJ.o _ K1.o) ?_);rintro e4 w4 ⟨rfl,rfl⟩))|(go_at_call 199;((with_reducible refine au (HF.o _ K1.o) ?_);rintro e6 w6 ⟨n,m,p,l,c,f,rfl,q⟩;have HQ:=xh q;clear q)))
 refine bodyPost_ret (v:=.tuple #[.int .i64 n,.int .i64 m,.slice p l c,.int .i64 f]) (by simp[results,results111,go_sem]) rfl ?_;exact⟨_,_,_,_,_,_,rfl,HQ.o⟩
theorem XB(kb g cap:Nat)(pid:Int)(a b:Int)(s:ByteArray)(lp dp:Option Addr)(ln lc dn dc:Nat)(Q:Int→Int→Option Addr→Nat→Nat→Int→World→Prop)(w:World)(c5:w.cell? (kb,5)=some (.slice (g,0) 1 cap))(h2:w.cell? (g,2)=some (.int .i64 0))(vg:∀W,Bel w W→Calls prog 62 #[kb,pid] W (Z.e (.int .i64 0) W))
 (hF:∀W,Bel w W→Calls prog 199 #[kb,g,.agg #[(10:Int),a,b,s,(lp,ln,lc),(dp,dn,dc)]] W (tJ Q)) :
 Calls prog 111 #[kb,pid,.agg #[(10:Int),a,b,s,(lp,ln,lc),(dp,dn,dc)]] w λe w'=>tJ Q e w':=by
 have BX:=Blk.new w [(10:Int),a,b,s,(lp,ln,lc),(dp,dn,dc)] 264;have k1:Bel w (w.alloc (.cells #[(10:Int),a,b,s,(lp,ln,lc),(dp,dn,dc)] 264)):=Bel.start _ _;change Blk (w.alloc (.cells #[(10:Int),a,b,s,(lp,ln,lc),(dp,dn,dc)] 264)) w.heap.size _ _ at BX
 have rJ:=xh vg;clear vg;have H5:=xh λW (hW:Bel w W)=>And.intro (aa hW c5) (aa hW h2);have HF:=xh hF;clear c5 h2 hF;go_enter func111,ntmps111;go_upto_region 1 with fail
 generalize w.alloc (.cells #[(10:Int),a,b,s,(lp,ln,lc),(dp,dn,dc)] 264)=w1 at *
 obtain⟨bx,hbx⟩:=e_x w.heap.size;rw[hbx]at BX⊢;have x0:=BX.c 0 rfl;have x1:=BX.c 1 rfl;have x2:=BX.c 2 rfl;have x3:=BX.c 3 rfl;have x4:=BX.c 4 rfl;have x5:=BX.c 5 rfl;have K1:=xh k1;clear BX k1 hbx;obtain⟨c5,h2⟩:=H5.o _ K1.o;go_wp2_with (first|(go_at_call 62;((with_reducible refine au (rJ.o _ K1.o) ?_);rintro e4 w4 ⟨rfl,rfl⟩))|(go_at_call 199;((with_reducible refine au (HF.o _ K1.o) ?_);rintro e6 w6 ⟨n,m,p,l,c,f,rfl,q⟩;have HQ:=xh q;clear q)))
 refine bodyPost_ret (v:=.tuple #[.int .i64 n,.int .i64 m,.slice p l c,.int .i64 f]) (by simp[results,results111,go_sem]) rfl ?_;exact⟨_,_,_,_,_,_,rfl,HQ.o⟩
theorem XC(kb g cap:Nat)(pid:Int)(a b:Int)(s:ByteArray)(lp dp:Option Addr)(ln lc dn dc:Nat)(Q:Int→Int→Option Addr→Nat→Nat→Int→World→Prop)(w:World)(c5:w.cell? (kb,5)=some (.slice (g,0) 1 cap))(h2:w.cell? (g,2)=some (.int .i64 0))(vg:∀W,Bel w W→Calls prog 62 #[kb,pid] W (Z.e (.int .i64 0) W))
 (hF:∀W,Bel w W→Calls prog 199 #[kb,g,.agg #[(11:Int),a,b,s,(lp,ln,lc),(dp,dn,dc)]] W (tJ Q)) :
 Calls prog 111 #[kb,pid,.agg #[(11:Int),a,b,s,(lp,ln,lc),(dp,dn,dc)]] w λe w'=>tJ Q e w':=by
 have BX:=Blk.new w [(11:Int),a,b,s,(lp,ln,lc),(dp,dn,dc)] 264;have k1:Bel w (w.alloc (.cells #[(11:Int),a,b,s,(lp,ln,lc),(dp,dn,dc)] 264)):=Bel.start _ _;change Blk (w.alloc (.cells #[(11:Int),a,b,s,(lp,ln,lc),(dp,dn,dc)] 264)) w.heap.size _ _ at BX
 have rJ:=xh vg;clear vg;have H5:=xh λW (hW:Bel w W)=>And.intro (aa hW c5) (aa hW h2);have HF:=xh hF;clear c5 h2 hF;go_enter func111,ntmps111;go_upto_region 1 with fail
 generalize w.alloc (.cells #[(11:Int),a,b,s,(lp,ln,lc),(dp,dn,dc)] 264)=w1 at *
 obtain⟨bx,hbx⟩:=e_x w.heap.size;rw[hbx]at BX⊢;have x0:=BX.c 0 rfl;have x1:=BX.c 1 rfl;have x2:=BX.c 2 rfl;have x3:=BX.c 3 rfl;have x4:=BX.c 4 rfl;have x5:=BX.c 5 rfl;have K1:=xh k1;clear BX k1 hbx;obtain⟨c5,h2⟩:=H5.o _ K1.o;go_wp2_with (first|(go_at_call 62;((with_reducible refine au (rJ.o _ K1.o) ?_);rintro e4 w4 ⟨rfl,rfl⟩))|(go_at_call 199;((with_reducible refine au (HF.o _ K1.o) ?_);rintro e6 w6 ⟨n,m,p,l,c,f,rfl,q⟩;have HQ:=xh q;clear q)))
 refine bodyPost_ret (v:=.tuple #[.int .i64 n,.int .i64 m,.slice p l c,.int .i64 f]) (by simp[results,results111,go_sem]) rfl ?_;exact⟨_,_,_,_,_,_,rfl,HQ.o⟩
theorem XD(kb g cap:Nat)(pid:Int)(a b:Int)(s:ByteArray)(lp dp:Option Addr)(ln lc dn dc:Nat)(Q:Int→Int→Option Addr→Nat→Nat→Int→World→Prop)(w:World)(c5:w.cell? (kb,5)=some (.slice (g,0) 1 cap))(h2:w.cell? (g,2)=some (.int .i64 0))(vg:∀W,Bel w W→Calls prog 62 #[kb,pid] W (Z.e (.int .i64 0) W))
 (hF:∀W,Bel w W→Calls prog 199 #[kb,g,.agg #[(13:Int),a,b,s,(lp,ln,lc),(dp,dn,dc)]] W (tJ Q)) :
 Calls prog 111 #[kb,pid,.agg #[(13:Int),a,b,s,(lp,ln,lc),(dp,dn,dc)]] w λe w'=>tJ Q e w':=by
 have BX:=Blk.new w [(13:Int),a,b,s,(lp,ln,lc),(dp,dn,dc)] 264;have k1:Bel w (w.alloc (.cells #[(13:Int),a,b,s,(lp,ln,lc),(dp,dn,dc)] 264)):=Bel.start _ _;change Blk (w.alloc (.cells #[(13:Int),a,b,s,(lp,ln,lc),(dp,dn,dc)] 264)) w.heap.size _ _ at BX
 have rJ:=xh vg;clear vg;have H5:=xh λW (hW:Bel w W)=>And.intro (aa hW c5) (aa hW h2);have HF:=xh hF;clear c5 h2 hF;go_enter func111,ntmps111;go_upto_region 1 with fail
 generalize w.alloc (.cells #[(13:Int),a,b,s,(lp,ln,lc),(dp,dn,dc)] 264)=w1 at *
 obtain⟨bx,hbx⟩:=e_x w.heap.size;rw[hbx]at BX⊢;have x0:=BX.c 0 rfl;have x1:=BX.c 1 rfl;have x2:=BX.c 2 rfl;have x3:=BX.c 3 rfl;have x4:=BX.c 4 rfl;have x5:=BX.c 5 rfl;have K1:=xh k1;clear BX k1 hbx;obtain⟨c5,h2⟩:=H5.o _ K1.o;go_wp2_with (first|(go_at_call 62;((with_reducible refine au (rJ.o _ K1.o) ?_);rintro e4 w4 ⟨rfl,rfl⟩))|(go_at_call 199;((with_reducible refine au (HF.o _ K1.o) ?_);rintro e6 w6 ⟨n,m,p,l,c,f,rfl,q⟩;have HQ:=xh q;clear q)))
 refine bodyPost_ret (v:=.tuple #[.int .i64 n,.int .i64 m,.slice p l c,.int .i64 f]) (by simp[results,results111,go_sem]) rfl ?_;exact⟨_,_,_,_,_,_,rfl,HQ.o⟩
theorem XE(kb g cap:Nat)(pid:Int)(a b:Int)(s:ByteArray)(lp dp:Option Addr)(ln lc dn dc:Nat)(Q:Int→Int→Option Addr→Nat→Nat→Int→World→Prop)(w:World)(c5:w.cell? (kb,5)=some (.slice (g,0) 1 cap))(h2:w.cell? (g,2)=some (.int .i64 0))(vg:∀W,Bel w W→Calls prog 62 #[kb,pid] W (Z.e (.int .i64 0) W))
 (hF:∀W,Bel w W→Calls prog 199 #[kb,g,.agg #[(14:Int),a,b,s,(lp,ln,lc),(dp,dn,dc)]] W (tJ Q)) :
 Calls prog 111 #[kb,pid,.agg #[(14:Int),a,b,s,(lp,ln,lc),(dp,dn,dc)]] w λe w'=>tJ Q e w':=by
 have BX:=Blk.new w [(14:Int),a,b,s,(lp,ln,lc),(dp,dn,dc)] 264;have k1:Bel w (w.alloc (.cells #[(14:Int),a,b,s,(lp,ln,lc),(dp,dn,dc)] 264)):=Bel.start _ _;change Blk (w.alloc (.cells #[(14:Int),a,b,s,(lp,ln,lc),(dp,dn,dc)] 264)) w.heap.size _ _ at BX
 have rJ:=xh vg;clear vg;have H5:=xh λW (hW:Bel w W)=>And.intro (aa hW c5) (aa hW h2);have HF:=xh hF;clear c5 h2 hF;go_enter func111,ntmps111;go_upto_region 1 with fail
 generalize w.alloc (.cells #[(14:Int),a,b,s,(lp,ln,lc),(dp,dn,dc)] 264)=w1 at *
 obtain⟨bx,hbx⟩:=e_x w.heap.size;rw[hbx]at BX⊢;have x0:=BX.c 0 rfl;have x1:=BX.c 1 rfl;have x2:=BX.c 2 rfl;have x3:=BX.c 3 rfl;have x4:=BX.c 4 rfl;have x5:=BX.c 5 rfl;have K1:=xh k1;clear BX k1 hbx;obtain⟨c5,h2⟩:=H5.o _ K1.o;go_wp2_with (first|(go_at_call 62;((with_reducible refine au (rJ.o _ K1.o) ?_);rintro e4 w4 ⟨rfl,rfl⟩))|(go_at_call 199;((with_reducible refine au (HF.o _ K1.o) ?_);rintro e6 w6 ⟨n,m,p,l,c,f,rfl,q⟩;have HQ:=xh q;clear q)))
 refine bodyPost_ret (v:=.tuple #[.int .i64 n,.int .i64 m,.slice p l c,.int .i64 f]) (by simp[results,results111,go_sem]) rfl ?_;exact⟨_,_,_,_,_,_,rfl,HQ.o⟩
end
end Go.Proofs.YtcnjjchlebmfiaaGreatDoor
