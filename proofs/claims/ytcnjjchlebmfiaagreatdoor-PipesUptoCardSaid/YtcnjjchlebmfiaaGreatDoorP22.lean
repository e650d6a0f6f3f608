/-.-/
import Derived.Test.YtcnjjchlebmfiaaGreatDoorP20
import Derived.Test.YtcnjjchlebmfiaaGreatDoorP21
set_option linter.unusedVariables false
set_option linter.unusedSimpArgs false
set_option maxRecDepth 100000
set_option maxHeartbeats 16000000
namespace Go.Proofs.YtcnjjchlebmfiaaGreatDoor
section
open Go.Proofs.Tryz Go.RowKit Go.MapKept Go.Maps Go.Shelf
theorem og:prog.built 475 []=some #[.slice none 0 0,.int .i64 0,.int .i64 0]:=by kernel_rfl
theorem MP(kb pb tb:Nat)(kd a b:Int)(s:ByteArray)(lp dp:Option Addr)(ln lc dn dc:Nat)(w:World)(h7:w.cell? (kb,7)=some (.pointer (tb,0)))
 (hF1:∀W,Bel w W→Calls prog 303 #[pb,(0:Int)] W (Z.b (.tuple #[(0:Int),.iface 48 (.int .i64 14)]) W)) :
 Calls prog 244 #[kb,pb,.agg #[kd,a,b,s,(lp,ln,lc),(dp,dn,dc)]] w (Z.b (.tuple #[.agg #[(0:Int),(0:Int),()],.iface 48 (.int .i64 14)]) w):=by
 have b0:=bL;have bn:=nZ;have bc:=og;have k2:Bel w ((w.alloc (.cells #[kd,a,b,s,(lp,ln,lc),(dp,dn,dc)] 68)).alloc (.cells #[(0:Int),(0:Int),()] 62)):=(Bel.start w _).ac _;have HK:=xh k2;have HB:Hid (Blk ((w.alloc (.cells #[kd,a,b,s,(lp,ln,lc),(dp,dn,dc)] 68)).alloc (.cells #[(0:Int),(0:Int),()] 62)) (w.heap.size+1) [(0:Int),(0:Int),()] 62):=xh (Blk.aT _ [(0:Int),(0:Int),()] _ (by simp));have H7:=xh h7;have Qe:=xh hF1;clear hF1;clear k2 h7;go_enter func244,ntmps244;go_wp2_with (go_at_call 303;((with_reducible refine au (Qe.o _ HK.o) ?_);rintro e w3 ⟨rfl,k3⟩;have H3:=xh (HK.o.tr k3);have x0:=(HB.o.bel k3).cell 0;have x1:=(HB.o.bel k3).cell 1;have x2:=(HB.o.bel k3).cell 2;have xf:=(HB.o.bel k3).frozen;have xl:=(HB.o.bel k3).lt;have HB3:=xh (HB.o.bel k3);clear k3))
 (try simp only[Exit.inBlock,Exit.then])
 exact dU (q:=w.heap.size+1) rfl rfl (((HB3.o.setCell (o:=0) _).setCell (o:=1) _).setCell (o:=2) _) rfl ⟨rfl,dP (dP (dP H3.o (by omega)) (by omega)) (by omega)⟩
theorem MQ(kb pb tb:Nat)(kd a b:Int)(s:ByteArray)(lp dp:Option Addr)(ln lc dn dc:Nat)(w:World)(h7:w.cell? (kb,7)=some (.pointer (tb,0)))
 (r:Nat)(hr:r<8)(hF1:∀W,Bel w W→Calls prog 303 #[pb,(0:Int)] W (Z.b (.tuple #[.int .i64 r,.nilIface]) W))
 (hF2:∀W,Bel w W→Calls prog 303 #[pb,.int .i64 ((r:Int)+1)] W (Z.b (.tuple #[(0:Int),.iface 48 (.int .i64 14)]) W)) :
 Calls prog 244 #[kb,pb,.agg #[kd,a,b,s,(lp,ln,lc),(dp,dn,dc)]] w (Z.b (.tuple #[.agg #[(0:Int),(0:Int),()],.iface 48 (.int .i64 14)]) w):=by
 have b0:=bL;have bn:=nZ;have bc:=og;have k2:Bel w ((w.alloc (.cells #[kd,a,b,s,(lp,ln,lc),(dp,dn,dc)] 68)).alloc (.cells #[(0:Int),(0:Int),()] 62)):=(Bel.start w _).ac _;have HK:=xh k2;have HB:Hid (Blk ((w.alloc (.cells #[kd,a,b,s,(lp,ln,lc),(dp,dn,dc)] 68)).alloc (.cells #[(0:Int),(0:Int),()] 62)) (w.heap.size+1) [(0:Int),(0:Int),()] 62):=xh (Blk.aT _ [(0:Int),(0:Int),()] _ (by simp));have H7:=xh h7;have hw:IntKind.i64.wrap ((r:Int)+1)=(r:Int)+1:=by rw[IntKind.wrap_i64];omega
 have Qe:=xh hF1;have OU:=xh hF2;clear hF1 hF2;clear k2 h7;go_enter func244,ntmps244;go_upto_region 4 with(go_at_call 303;((with_reducible refine au (Qe.o _ HK.o) ?_);rintro e w3 ⟨rfl,k3⟩;have H3:=xh (HK.o.tr k3);have x0:=(HB.o.bel k3).cell 0;have x1:=(HB.o.bel k3).cell 1;have x2:=(HB.o.bel k3).cell 2;have xf:=(HB.o.bel k3).frozen;have xl:=(HB.o.bel k3).lt;have HB3:=xh (HB.o.bel k3);clear k3))
 go_wp2_with (go_at_call 303;((with_reducible refine au (OU.o _ H3.o) ?_);rintro e w4 ⟨rfl,k4⟩;have H4:=xh (H3.o.tr k4);have iY:=xh (HB3.o.bel k4);clear x0 x1 x2 xf xl;have x0:=iY.o.cell 0;have x1:=iY.o.cell 1;have x2:=iY.o.cell 2;have xf:=iY.o.frozen;have xl:=iY.o.lt;clear k4))
 (try simp only[Exit.inBlock,Exit.then])
 exact dU (q:=w.heap.size+1) rfl rfl (((iY.o.setCell (o:=0) _).setCell (o:=1) _).setCell (o:=2) _) rfl ⟨rfl,dP (dP (dP H4.o (by omega)) (by omega)) (by omega)⟩
theorem IJ(kb pb tb:Nat)(kd a b:Int)(s:ByteArray)(lp dp:Option Addr)(ln lc dn dc:Nat)(w:World)(h7:w.cell? (kb,7)=some (.pointer (tb,0)))
 (r m:Nat)(hr:r<8)(hF1:∀W,Bel w W→Calls prog 303 #[pb,(0:Int)] W (Z.b (.tuple #[.int .i64 r,.nilIface]) W))
 (hF2:∀W,Bel w W→Calls prog 303 #[pb,.int .i64 ((r:Int)+1)] W (Z.b (.tuple #[.int .i64 m,.nilIface]) W))
 (hRo:∀W,Bel w W→Calls prog 297 #[tb,(2:Int)] W (Z.b (.bool false) W)) :
 Calls prog 244 #[kb,pb,.agg #[kd,a,b,s,(lp,ln,lc),(dp,dn,dc)]] w (Z.b (.tuple #[.agg #[(0:Int),(0:Int),()],.iface 48 (.int .i64 12)]) w):=by
 have b0:=bL;have bn:=nZ;have bc:=og;have k2:Bel w ((w.alloc (.cells #[kd,a,b,s,(lp,ln,lc),(dp,dn,dc)] 68)).alloc (.cells #[(0:Int),(0:Int),()] 62)):=(Bel.start w _).ac _;have HK:=xh k2;have HB:Hid (Blk ((w.alloc (.cells #[kd,a,b,s,(lp,ln,lc),(dp,dn,dc)] 68)).alloc (.cells #[(0:Int),(0:Int),()] 62)) (w.heap.size+1) [(0:Int),(0:Int),()] 62):=xh (Blk.aT _ [(0:Int),(0:Int),()] _ (by simp));have H7:=xh h7;have hw:IntKind.i64.wrap ((r:Int)+1)=(r:Int)+1:=by rw[IntKind.wrap_i64];omega
 have Qe:=xh hF1;have OU:=xh hF2;have OQ:=xh hRo;clear hF1 hF2 hRo;clear k2 h7;go_enter func244,ntmps244;go_upto_region 4 with(go_at_call 303;((with_reducible refine au (Qe.o _ HK.o) ?_);rintro e w3 ⟨rfl,k3⟩;have H3:=xh (HK.o.tr k3);have x0:=(HB.o.bel k3).cell 0;have x1:=(HB.o.bel k3).cell 1;have x2:=(HB.o.bel k3).cell 2;have xf:=(HB.o.bel k3).frozen;have xl:=(HB.o.bel k3).lt;have HB3:=xh (HB.o.bel k3);clear k3))
 go_upto_region 7 with(go_at_call 303;((with_reducible refine au (OU.o _ H3.o) ?_);rintro e w4 ⟨rfl,k4⟩;have H4:=xh (H3.o.tr k4);have iY:=xh (HB3.o.bel k4);clear x0 x1 x2 xf xl;have x0:=iY.o.cell 0;have x1:=iY.o.cell 1;have x2:=iY.o.cell 2;have xf:=iY.o.frozen;have xl:=iY.o.lt;have c7:=aa H4.o H7.o;clear k4))
 go_wp2_with (go_at_call 297;((with_reducible refine au (OQ.o _ H4.o) ?_);rintro e w5 ⟨rfl,k5⟩;have H5:=xh (H4.o.tr k5);have nH:=xh (iY.o.bel k5);clear x0 x1 x2 xf xl c7;have x0:=nH.o.cell 0;have x1:=nH.o.cell 1;have x2:=nH.o.cell 2;have xf:=nH.o.frozen;have xl:=nH.o.lt;have c7:=aa H5.o H7.o;clear k5))
 (try simp only[Exit.inBlock,Exit.then])
 exact dU (q:=w.heap.size+1) rfl rfl (((nH.o.setCell (o:=0) _).setCell (o:=1) _).setCell (o:=2) _) rfl ⟨rfl,dP (dP (dP H5.o (by omega)) (by omega)) (by omega)⟩
theorem Qu(kb pb tb:Nat)(kd a b:Int)(s:ByteArray)(lp dp:Option Addr)(ln lc dn dc:Nat)(w:World)(h7:w.cell? (kb,7)=some (.pointer (tb,0)))
 (r m:Nat)(hr:r<8)(hF1:∀W,Bel w W→Calls prog 303 #[pb,(0:Int)] W (Z.b (.tuple #[.int .i64 r,.nilIface]) W))
 (hF2:∀W,Bel w W→Calls prog 303 #[pb,.int .i64 ((r:Int)+1)] W (Z.b (.tuple #[.int .i64 m,.nilIface]) W))
 (R1 R2 R3:Nat→Nat→World→Prop)
 (hRo:∀W,Bel w W→Calls prog 297 #[tb,(2:Int)] W (Z.b (.bool true) W))
 (Er:∀W c,Bel w W→w.heap.size≤c→Blk W c [(),(0:Int),(0:Int)] 475→Blk W (w.heap.size+1) [(0:Int),(0:Int),()] 62→Calls prog 301 #[tb,c,true,true] W λe w'=>∃x y:Nat,e=.returned (.tuple #[x,y])∧R1 x y w')
 (hS1:∀x y W,R1 x y W→Calls prog 305 #[kb,pb,.int .i64 r,.iface 443 (.pointer (x,0))] W λe w'=>e=.returned (.tuple #[])∧R2 x y w')
 (hS2:∀x y W,R2 x y W→Calls prog 305 #[kb,pb,.int .i64 m,.iface 447 (.pointer (y,0))] W λe w'=>e=.returned (.tuple #[])∧R3 x y w')
 (hB3:∀x y W,R3 x y W→Blk W (w.heap.size+1) [(0:Int),(0:Int),()] 62) :
 Calls prog 244 #[kb,pb,.agg #[kd,a,b,s,(lp,ln,lc),(dp,dn,dc)]] w λe w'=>∃(x y:Nat) (w0:World),e=.returned (.tuple #[.agg #[.int .i64 r,.int .i64 m,()],.nilIface])∧R3 x y w0∧Keep (λz=>z=w.heap.size+1) w0 w':=by
 have b0:=bL;have bn:=nZ;have bc:=og;have k2:Bel w ((w.alloc (.cells #[kd,a,b,s,(lp,ln,lc),(dp,dn,dc)] 68)).alloc (.cells #[(0:Int),(0:Int),()] 62)):=(Bel.start w _).ac _;have HK:=xh k2;have HB:Hid (Blk ((w.alloc (.cells #[kd,a,b,s,(lp,ln,lc),(dp,dn,dc)] 68)).alloc (.cells #[(0:Int),(0:Int),()] 62)) (w.heap.size+1) [(0:Int),(0:Int),()] 62):=xh (Blk.aT _ [(0:Int),(0:Int),()] _ (by simp));have H7:=xh h7;have hw:IntKind.i64.wrap ((r:Int)+1)=(r:Int)+1:=by rw[IntKind.wrap_i64];omega
 have Qe:=xh hF1;have OU:=xh hF2;have OQ:=xh hRo;have HE0:=xh Er;have HS1:=xh hS1;have HS2:=xh hS2;have HB0:=xh hB3;clear hF1 hF2 hRo Er hS1 hS2 hB3;clear k2 h7;go_enter func244,ntmps244;go_upto_region 4 with(go_at_call 303;((with_reducible refine au (Qe.o _ HK.o) ?_);rintro e w3 ⟨rfl,k3⟩;have H3:=xh (HK.o.tr k3);have x0:=(HB.o.bel k3).cell 0;have x1:=(HB.o.bel k3).cell 1;have x2:=(HB.o.bel k3).cell 2;have xf:=(HB.o.bel k3).frozen;have xl:=(HB.o.bel k3).lt;have HB3:=xh (HB.o.bel k3);clear k3))
 go_upto_region 7 with(go_at_call 303;((with_reducible refine au (OU.o _ H3.o) ?_);rintro e w4 ⟨rfl,k4⟩;have H4:=xh (H3.o.tr k4);have iY:=xh (HB3.o.bel k4);clear x0 x1 x2 xf xl;have x0:=iY.o.cell 0;have x1:=iY.o.cell 1;have x2:=iY.o.cell 2;have xf:=iY.o.frozen;have xl:=iY.o.lt;have c7:=aa H4.o H7.o;clear k4))
 go_upto_region 9 with(go_at_call 297;((with_reducible refine au (OQ.o _ H4.o) ?_);rintro e w5 ⟨rfl,k5⟩;have H5:=xh (H4.o.tr k5);have nH:=xh (iY.o.bel k5);clear x0 x1 x2 xf xl c7;have x0:=nH.o.cell 0;have x1:=nH.o.cell 1;have x2:=nH.o.cell 2;have xf:=nH.o.frozen;have xl:=nH.o.lt;have c7:=aa H5.o H7.o;clear k5))
 have yB:=xh (HE0.o (w5.alloc (.cells #[(),(0:Int),(0:Int)] 475)) w5.heap.size (H5.o.ac _) H5.o.size (Blk.new w5 [(),(0:Int),(0:Int)] _) (nH.o.bel (Bel.start _ _)));go_upto_region 10 with(go_at_call 301;((with_reducible refine au yB.o ?_);rintro e w7 ⟨x,y,rfl,k7⟩;have H7':=xh k7;clear k7 x0 x1 x2 xf xl c7))
 go_upto_region 11 with(go_at_call 305;((with_reducible refine au (HS1.o _ _ _ H7'.o) ?_);rintro e w8 ⟨rfl,k8⟩;have H8:=xh k8;clear k8))
 go_upto_region 12 with(go_at_call 305;((with_reducible refine au (HS2.o _ _ _ H8.o) ?_);rintro e w9 ⟨rfl,k9⟩;have H9:=xh k9;clear k9))
 have DC:=xh (HB0.o _ _ _ H9.o);have x0:=DC.o.cell 0;have x1:=DC.o.cell 1;have x2:=DC.o.cell 2;have xf:=DC.o.frozen;have xl:=DC.o.lt;go_wp2_with fail
 (try simp only[Exit.inBlock,Exit.then])
 exact dU (q:=w.heap.size+1) rfl rfl (((DC.o.setCell (o:=0) _).setCell (o:=1) _).setCell (o:=2) _) rfl ⟨x,y,w9,rfl,H9.o,((Keep.setCell _ _ _ _).tr (Keep.setCell _ _ _ _)).tr (Keep.setCell _ _ _ _)⟩
theorem IK(n:Int):prog.built 62 [(0,.int .i64 n)]=some #[.int .i64 n,.int .i64 0,.slice none 0 0]:=by kernel_rfl
theorem wG(kb pb q F:Nat)(kd a b:Int)(s:ByteArray)(lp dp:Option Addr)(ln lc dn dc:Nat)(w:World)(hcf:∀(args:Array Value) (W:World),(callFunc F args).run prog W=.ok (.enter F args) W)(hq:w.cell? (q,0)=some (.func (.func F) #[] #[]))(R:Int→Value→World→Prop)
 (hF:∀W,Bel w W→w.heap.size+2≤W.heap.size→Blk W (w.heap.size+1) [(0:Int),(0:Int),()] 62→Calls prog F #[kb,pb,.agg #[kd,a,b,s,(lp,ln,lc),(dp,dn,dc)]] W λe w'=>∃n ev,e=.returned (.tuple #[.int .i64 n,ev])∧R n ev w'∧Blk w' (w.heap.size+1) [(0:Int),(0:Int),()] 62) :
 Calls prog 221 #[kb,pb,.agg #[kd,a,b,s,(lp,ln,lc),(dp,dn,dc)],q] w λe w'=>∃(n:Int) (ev:Value) (w0:World),e=.returned (.tuple #[.agg #[.int .i64 n,(0:Int),()],ev])∧R n ev w0∧Keep (λx=>x=w.heap.size+1) w0 w':=by
 have b1:=IK;have k2:Bel w ((w.alloc (.cells #[kd,a,b,s,(lp,ln,lc),(dp,dn,dc)] 68)).alloc (.cells #[(0:Int),(0:Int),()] 62)):=(Bel.start w _).ac _;have q2:=aa k2 hq;have HF:=xh (hF _ k2 (by simp) (Blk.aT _ [(0:Int),(0:Int),()] _ (by simp)));clear k2 hF;go_enter func221,ntmps221;go_wp2_with ((with_reducible refine au HF.o ?_);rintro e w3 ⟨n,ev,rfl,r3,h3⟩;have H3:=xh (And.intro r3 h3);have x0:=h3.cell 0;have x1:=h3.cell 1;have x2:=h3.cell 2;have xf:=h3.frozen;have xl:=h3.lt;clear r3 h3)
 (try simp only[Exit.inBlock,Exit.then])
 exact dU (q:=w.heap.size+1) rfl rfl (((H3.o.2.setCell (o:=0) _).setCell (o:=1) _).setCell (o:=2) _) rfl ⟨n,ev,w3,rfl,H3.o.1,((Keep.setCell _ _ _ _).tr (Keep.setCell _ _ _ _)).tr (Keep.setCell _ _ _ _)⟩
theorem AY(kb pb q F:Nat)(kd a b:Int)(s:ByteArray)(lp dp:Option Addr)(ln lc dn dc:Nat)(w:World)(hcf:∀(args:Array Value) (W:World),(callFunc F args).run prog W=.ok (.enter F args) W)(hq:w.cell? (q,0)=some (.func (.func F) #[] #[]))(R:Value→World→Prop)
 (hF:∀W,Bel w W→w.heap.size+2≤W.heap.size→Blk W (w.heap.size+1) [(0:Int),(0:Int),()] 62→Calls prog F #[kb,pb,.agg #[kd,a,b,s,(lp,ln,lc),(dp,dn,dc)]] W λe w'=>∃ev,e=.returned ev∧R ev w'∧Blk w' (w.heap.size+1) [(0:Int),(0:Int),()] 62) :
 Calls prog 225 #[kb,pb,.agg #[kd,a,b,s,(lp,ln,lc),(dp,dn,dc)],q] w λe w'=>∃(ev:Value) (w0:World),e=.returned (.tuple #[.agg #[(0:Int),(0:Int),()],ev])∧R ev w0∧Keep (λx=>x=w.heap.size+1) w0 w':=by
 have b0:=bL;have k2:Bel w ((w.alloc (.cells #[kd,a,b,s,(lp,ln,lc),(dp,dn,dc)] 68)).alloc (.cells #[(0:Int),(0:Int),()] 62)):=(Bel.start w _).ac _;have q2:=aa k2 hq;have HF:=xh (hF _ k2 (by simp) (Blk.aT _ [(0:Int),(0:Int),()] _ (by simp)));clear k2 hF;go_enter func225,ntmps225;go_wp2_with ((with_reducible refine au HF.o ?_);rintro e w3 ⟨ev,rfl,r3,h3⟩;have H3:=xh (And.intro r3 h3);have x0:=h3.cell 0;have x1:=h3.cell 1;have x2:=h3.cell 2;have xf:=h3.frozen;have xl:=h3.lt;clear r3 h3)
 (try simp only[Exit.inBlock,Exit.then])
 exact dU (q:=w.heap.size+1) rfl rfl (((H3.o.2.setCell (o:=0) _).setCell (o:=1) _).setCell (o:=2) _) rfl ⟨ev,w3,rfl,H3.o.1,((Keep.setCell _ _ _ _).tr (Keep.setCell _ _ _ _)).tr (Keep.setCell _ _ _ _)⟩
theorem MR(kb pb:Nat)(kd a b:Int)(s:ByteArray)(lp dp:Option Addr)(ln lc dn dc:Nat)(w:World)
 (hF:∀W,Bel w W→Calls prog 239 #[pb,a] W (Z.e (.tuple #[.nilIface,.iface 48 (.int .i64 13)]) W)) :
 Calls prog 238 #[kb,pb,.agg #[kd,a,b,s,(lp,ln,lc),(dp,dn,dc)]] w (Z.b (.iface 48 (.int .i64 13)) w):=by
 have k1:Bel w (w.alloc (.cells #[kd,a,b,s,(lp,ln,lc),(dp,dn,dc)] 68)):=Bel.start w _;have HK:=xh k1;have HF:=xh hF;clear k1 hF;go_enter func238,ntmps238;go_wp2_with (go_at_call 239;((with_reducible refine au (HF.o _ HK.o) ?_);rintro e w2 ⟨rfl,rfl⟩))
 go_ret
 exact⟨rfl,HK.o⟩
theorem MS(kb pb q:Nat)(t:TypeId)(kd a b:Int)(s:ByteArray)(lp dp:Option Addr)(ln lc dn dc:Nat)(w:World)
 (hF:∀W,Bel w W→Calls prog 239 #[pb,a] W (Z.e (.tuple #[.iface t (.pointer (q,0)),.nilIface]) W))(R:World→Prop)
 (hC:∀W,Bel w W→Calls prog 81 #[kb,pb,a] W λe w'=>e=.returned (.tuple #[])∧R w') :
 Calls prog 238 #[kb,pb,.agg #[kd,a,b,s,(lp,ln,lc),(dp,dn,dc)]] w λe w'=>e=.returned .nilIface∧R w':=by
 have k1:Bel w (w.alloc (.cells #[kd,a,b,s,(lp,ln,lc),(dp,dn,dc)] 68)):=Bel.start w _;have HK:=xh k1;have HF:=xh hF;have HC:=xh (hC _ k1);clear k1 hF hC;go_enter func238,ntmps238
 go_wp2_with (first
  | (go_at_call 239;((with_reducible refine au (HF.o _ HK.o) ?_);rintro e w2 ⟨rfl,rfl⟩))
  | (go_at_call 81;((with_reducible refine au HC.o ?_);rintro e w3 ⟨rfl,k3⟩;have H3:=xh k3;clear k3)))
 go_ret
 exact⟨rfl,H3.o⟩
theorem wH(F:Nat)(w:World):Calls prog 151 #[.func (.func F) #[] #[]] w λe w'=>e=.returned (.func (.func 221) #[] #[w.heap.size])∧w'.cell? (w.heap.size,0)=some (.func (.func F) #[] #[])∧w.heap.size<w'.heap.size∧Bel w w':=by
 have k1:Bel w (w.alloc (.cells #[.func (.func F) #[] #[]] 302)):=Bel.start w _;have q1:(w.alloc (.cells #[.func (.func F) #[] #[]] 302)).cell? (w.heap.size,0)=some (.func (.func F) #[] #[]):=(Blk.new w [.func (.func F) #[] #[]] 302).cell 0;have HK:=xh (And.intro k1 q1);clear k1 q1;go_enter func151,ntmps151;go_wp2
 go_ret
 exact⟨rfl,HK.o.2,by simp,HK.o.1⟩
theorem MU(F:Nat)(w:World):Calls prog 154 #[.func (.func F) #[] #[]] w λe w'=>e=.returned (.func (.func 225) #[] #[w.heap.size])∧w'.cell? (w.heap.size,0)=some (.func (.func F) #[] #[])∧w.heap.size<w'.heap.size∧Bel w w':=by
 have k1:Bel w (w.alloc (.cells #[.func (.func F) #[] #[]] 304)):=Bel.start w _;have q1:(w.alloc (.cells #[.func (.func F) #[] #[]] 304)).cell? (w.heap.size,0)=some (.func (.func F) #[] #[]):=(Blk.new w [.func (.func F) #[] #[]] 304).cell 0;have HK:=xh (And.intro k1 q1);clear k1 q1;go_enter func154,ntmps154;go_wp2
 go_ret
 exact⟨rfl,HK.o.2,by simp,HK.o.1⟩
theorem Cx(w:World):Calls prog 171 #[(10:Int)] w (Z.e (.func (.func 240) #[] #[]) w):=by
 go_enter func171,ntmps171;go_wp2
 go_ret
 exact⟨rfl,rfl⟩
theorem gV(w:World):Calls prog 88 #[(10:Int)] w (Z.e (.func (.func 240) #[] #[]) w):=by
 go_enter func88,ntmps88;go_wp2_with (go_at_call 171;((with_reducible refine au (Cx _) ?_);rintro e w2 ⟨rfl,rfl⟩))
 go_ret
 exact⟨rfl,rfl⟩
theorem Cy(w:World):Calls prog 171 #[(14:Int)] w (Z.e (.func (.func 244) #[] #[]) w):=by
 go_enter func171,ntmps171;go_wp2
 go_ret
 exact⟨rfl,rfl⟩
theorem l6(w:World):Calls prog 88 #[(14:Int)] w (Z.e (.func (.func 244) #[] #[]) w):=by
 go_enter func88,ntmps88;go_wp2_with (go_at_call 171;((with_reducible refine au (Cy _) ?_);rintro e w2 ⟨rfl,rfl⟩))
 go_ret
 exact⟨rfl,rfl⟩
theorem Aa(w:World):Calls prog 171 #[(9:Int)] w λe w'=>e=.returned (.func (.func 225) #[] #[w.heap.size])∧w'.cell? (w.heap.size,0)=some (.func (.func 238) #[] #[])∧w.heap.size<w'.heap.size∧Bel w w':=by
 go_enter func171,ntmps171;go_wp2_with (go_at_call 154;((with_reducible refine au (MU _ _) ?_);rintro e w2 ⟨rfl,h1,h2,h3⟩;have H2:=xh (And.intro h1 (And.intro h2 h3));clear h1 h2 h3))
 go_ret
 exact⟨rfl,H2.o⟩
theorem tV(w:World):Calls prog 88 #[(9:Int)] w λe w'=>e=.returned (.func (.func 225) #[] #[w.heap.size])∧w'.cell? (w.heap.size,0)=some (.func (.func 238) #[] #[])∧w.heap.size<w'.heap.size∧Bel w w':=by
 go_enter func88,ntmps88;go_wp2_with (go_at_call 171;((with_reducible refine au (Aa _) ?_);rintro e w2 ⟨rfl,h1,h2,h3⟩;have H2:=xh (And.intro h1 (And.intro h2 h3));clear h1 h2 h3))
 go_ret
 exact⟨rfl,H2.o⟩
theorem Ab(w:World):Calls prog 171 #[(11:Int)] w λe w'=>e=.returned (.func (.func 221) #[] #[w.heap.size])∧w'.cell? (w.heap.size,0)=some (.func (.func 241) #[] #[])∧w.heap.size<w'.heap.size∧Bel w w':=by
 go_enter func171,ntmps171;go_wp2_with (go_at_call 151;((with_reducible refine au (wH _ _) ?_);rintro e w2 ⟨rfl,h1,h2,h3⟩;have H2:=xh (And.intro h1 (And.intro h2 h3));clear h1 h2 h3))
 go_ret
 exact⟨rfl,H2.o⟩
theorem fU(w:World):Calls prog 88 #[(11:Int)] w λe w'=>e=.returned (.func (.func 221) #[] #[w.heap.size])∧w'.cell? (w.heap.size,0)=some (.func (.func 241) #[] #[])∧w.heap.size<w'.heap.size∧Bel w w':=by
 go_enter func88,ntmps88;go_wp2_with (go_at_call 171;((with_reducible refine au (Ab _) ?_);rintro e w2 ⟨rfl,h1,h2,h3⟩;have H2:=xh (And.intro h1 (And.intro h2 h3));clear h1 h2 h3))
 go_ret
 exact⟨rfl,H2.o⟩
theorem EJ(w:World):Calls prog 171 #[(13:Int)] w λe w'=>e=.returned (.func (.func 221) #[] #[w.heap.size])∧w'.cell? (w.heap.size,0)=some (.func (.func 243) #[] #[])∧w.heap.size<w'.heap.size∧Bel w w':=by
 go_enter func171,ntmps171;go_wp2_with (go_at_call 151;((with_reducible refine au (wH _ _) ?_);rintro e w2 ⟨rfl,h1,h2,h3⟩;have H2:=xh (And.intro h1 (And.intro h2 h3));clear h1 h2 h3))
 go_ret
 exact⟨rfl,H2.o⟩
theorem rO(w:World):Calls prog 88 #[(13:Int)] w λe w'=>e=.returned (.func (.func 221) #[] #[w.heap.size])∧w'.cell? (w.heap.size,0)=some (.func (.func 243) #[] #[])∧w.heap.size<w'.heap.size∧Bel w w':=by
 go_enter func88,ntmps88;go_wp2_with (go_at_call 171;((with_reducible refine au (EJ _) ?_);rintro e w2 ⟨rfl,h1,h2,h3⟩;have H2:=xh (And.intro h1 (And.intro h2 h3));clear h1 h2 h3))
 go_ret
 exact⟨rfl,H2.o⟩
theorem Cz(k:Int)(w:World)(hk:k<0∨62≤k):Calls prog 171 #[k] w (Z.e .nilFunc w):=by
 have q1:(k==1)=false:=bK (by omega);have q2:(k==2)=false:=bK (by omega);have q3:(k==3)=false:=bK (by omega);have q4:(k==4)=false:=bK (by omega);have q5:(k==5)=false:=bK (by omega);have q6:(k==6)=false:=bK (by omega);have q7:(k==7)=false:=bK (by omega);have q15:(k==15)=false:=bK (by omega);have q16:(k==16)=false:=bK (by omega);have q17:(k==17)=false:=bK (by omega);have q20:(k==20)=false:=bK (by omega);have q21:(k==21)=false:=bK (by omega);have q8:(k==8)=false:=bK (by omega);have q9:(k==9)=false:=bK (by omega);have q10:(k==10)=false:=bK (by omega);have q11:(k==11)=false:=bK (by omega);have q12:(k==12)=false:=bK (by omega);have q13:(k==13)=false:=bK (by omega);have q14:(k==14)=false:=bK (by omega);have q18:(k==18)=false:=bK (by omega);have q19:(k==19)=false:=bK (by omega);clear hk;go_enter func171,ntmps171;go_wp2
 go_ret
 exact⟨rfl,rfl⟩
theorem EK(k:Int)(w:World)(hk:k<0∨62≤k):Calls prog 88 #[k] w (Z.e .nilFunc w):=by
 have HO:=xh λW=>Cz k W hk;have q1:(k==1)=false:=bK (by omega);have q2:(k==2)=false:=bK (by omega);have q3:(k==3)=false:=bK (by omega);have q4:(k==4)=false:=bK (by omega);have q5:(k==5)=false:=bK (by omega);have q6:(k==6)=false:=bK (by omega);have q7:(k==7)=false:=bK (by omega);have q15:(k==15)=false:=bK (by omega);have q16:(k==16)=false:=bK (by omega);have q17:(k==17)=false:=bK (by omega);have q20:(k==20)=false:=bK (by omega);have q21:(k==21)=false:=bK (by omega);have q8:(k==8)=false:=bK (by omega);have q9:(k==9)=false:=bK (by omega);have q10:(k==10)=false:=bK (by omega);have q11:(k==11)=false:=bK (by omega);have q12:(k==12)=false:=bK (by omega);have q13:(k==13)=false:=bK (by omega);have q14:(k==14)=false:=bK (by omega);have q18:(k==18)=false:=bK (by omega);have q19:(k==19)=false:=bK (by omega);clear hk;go_enter func88,ntmps88;go_wp2_with (go_at_call 171;((with_reducible refine au (HO.o _) ?_);rintro e w2 ⟨rfl,rfl⟩))
 go_ret
 exact⟨rfl,rfl⟩
theorem Qv(F:Nat)(W:World):(binOp BinOp.eql 224 (.func (.func F) #[] #[]) .nilFunc).run prog W=.ok (.bool false) W:=by kernel_rfl
theorem Qw(F:Nat)(v:Value)(W:World):(binOp BinOp.eql 224 (.func (.func F) #[] #[v]) .nilFunc).run prog W=.ok (.bool false) W:=by kernel_rfl
theorem Qx(W:World):(binOp BinOp.eql 224 .nilFunc .nilFunc).run prog W=.ok (.bool true) W:=by kernel_rfl
theorem Uv(kb pb:Nat)(kd a b:Int)(s:ByteArray)(lp dp:Option Addr)(ln lc dn dc:Nat)(w:World)(hH:∀W,Calls prog 88 #[kd] W (Z.e .nilFunc W)) :
 Calls prog 51 #[kb,pb,.agg #[kd,a,b,s,(lp,ln,lc),(dp,dn,dc)]] w (Z.b (.tuple #[.agg #[(0:Int),(0:Int),()],.iface 48 (.int .i64 23)]) w):=by
 have b0:=bL;have e0:=Qv;have e1:=Qw;have en:=Qx;have k2:Bel w ((w.alloc (.cells #[kd,a,b,s,(lp,ln,lc),(dp,dn,dc)] 68)).alloc (.cells #[(0:Int),(0:Int),()] 62)):=(Bel.start w _).ac _;have HK:=xh k2;have HB:Hid (Blk ((w.alloc (.cells #[kd,a,b,s,(lp,ln,lc),(dp,dn,dc)] 68)).alloc (.cells #[(0:Int),(0:Int),()] 62)) (w.heap.size+1) [(0:Int),(0:Int),()] 62):=xh (Blk.aT _ [(0:Int),(0:Int),()] _ (by simp));have HH:=xh hH;clear k2 hH;go_enter func51,ntmps51;go_wp2_with (go_at_call 88;((with_reducible refine au (HH.o _) ?_);rintro e w2 ⟨rfl,rfl⟩))
 (try simp only[Exit.inBlock,Exit.then])
 exact dU (q:=w.heap.size+1) rfl rfl HB.o rfl ⟨rfl,HK.o⟩
theorem aax(kb pb:Nat)(F:Nat)(kd a b:Int)(s:ByteArray)(lp dp:Option Addr)(ln lc dn dc:Nat)(w:World)(hcf:∀(args:Array Value) (W:World),(callFunc F args).run prog W=.ok (.enter F args) W)(R:Int→Int→Option Addr→Nat→Nat→World→Prop)
 (hH:∀W,Calls prog 88 #[kd] W (Z.e (.func (.func F) #[] #[]) W))
 (hC:∀W,Bel w W→w.heap.size+2≤W.heap.size→Blk W (w.heap.size+1) [(0:Int),(0:Int),()] 62→Calls prog F #[kb,pb,.agg #[kd,a,b,s,(lp,ln,lc),(dp,dn,dc)]] W λe w'=>∃(n m:Int) (xp:Option Addr) (xn xc:Nat),e=.returned (.tuple #[.agg #[.int .i64 n,.int .i64 m,.slice xp xn xc],.nilIface])∧R n m xp xn xc w'∧Blk w' (w.heap.size+1) [(0:Int),(0:Int),()] 62) :
 Calls prog 51 #[kb,pb,.agg #[kd,a,b,s,(lp,ln,lc),(dp,dn,dc)]] w λe w'=>∃(n m:Int) (xp:Option Addr) (xn xc:Nat) (w0:World),e=.returned (.tuple #[.agg #[.int .i64 n,.int .i64 m,.slice xp xn xc],.nilIface])∧R n m xp xn xc w0∧Keep (λx=>x=w.heap.size+1) w0 w':=by
 have e0:=Qv;have e1:=Qw;have en:=Qx;have k2:Bel w ((w.alloc (.cells #[kd,a,b,s,(lp,ln,lc),(dp,dn,dc)] 68)).alloc (.cells #[(0:Int),(0:Int),()] 62)):=(Bel.start w _).ac _;have HK:=xh k2;have HB:Hid (Blk ((w.alloc (.cells #[kd,a,b,s,(lp,ln,lc),(dp,dn,dc)] 68)).alloc (.cells #[(0:Int),(0:Int),()] 62)) (w.heap.size+1) [(0:Int),(0:Int),()] 62):=xh (Blk.aT _ [(0:Int),(0:Int),()] _ (by simp));have HH:=xh hH;have HC:=xh hC;clear k2 hH hC;go_enter func51,ntmps51
 go_wp2_with (first
  | (go_at_call 88;((with_reducible refine au (HH.o _) ?_);rintro e w2 ⟨rfl,rfl⟩))
  | ((with_reducible refine au (HC.o _ HK.o (by simp) HB.o) ?_);rintro e w3 ⟨n,m,xp,xn,xc,rfl,r3,h3⟩;have H3:=xh (And.intro r3 h3);have x0:=h3.cell 0;have x1:=h3.cell 1;have x2:=h3.cell 2;have xf:=h3.frozen;have xl:=h3.lt;clear r3 h3))
 (try simp only[Exit.inBlock,Exit.then])
 exact dU (q:=w.heap.size+1) rfl rfl ((((H3.o.2.setCell (o:=0) _).setCell (o:=1) _).setCell (o:=2) _).alloc _) rfl ⟨n,m,xp,xn,xc,w3,rfl,H3.o.1,(((Keep.setCell _ _ _ _).tr (Keep.setCell _ _ _ _)).tr (Keep.setCell _ _ _ _)).tr (Keep.of_bel _ (Bel.start _ _))⟩
theorem Qy(kb pb:Nat)(F G:Nat)(kd a b:Int)(s:ByteArray)(lp dp:Option Addr)(ln lc dn dc:Nat)(w:World)(hcf:∀(args:Array Value) (W:World),(callFunc F args).run prog W=.ok (.enter F args) W)(R:Int→Int→Option Addr→Nat→Nat→World→Prop)
 (hH:∀W,Calls prog 88 #[kd] W λe w'=>e=.returned (.func (.func F) #[] #[W.heap.size])∧w'.cell? (W.heap.size,0)=some (.func (.func G) #[] #[])∧W.heap.size<w'.heap.size∧Bel W w')
 (hC:∀W,Bel w W→w.heap.size+2≤W.heap.size→Blk W (w.heap.size+1) [(0:Int),(0:Int),()] 62→∀q,w.heap.size≤q→W.cell? (q,0)=some (.func (.func G) #[] #[])→Calls prog F #[kb,pb,.agg #[kd,a,b,s,(lp,ln,lc),(dp,dn,dc)],q] W λe w'=>∃(n m:Int) (xp:Option Addr) (xn xc:Nat),e=.returned (.tuple #[.agg #[.int .i64 n,.int .i64 m,.slice xp xn xc],.nilIface])∧R n m xp xn xc w'∧Blk w' (w.heap.size+1) [(0:Int),(0:Int),()] 62) :
 Calls prog 51 #[kb,pb,.agg #[kd,a,b,s,(lp,ln,lc),(dp,dn,dc)]] w λe w'=>∃(n m:Int) (xp:Option Addr) (xn xc:Nat) (w0:World),e=.returned (.tuple #[.agg #[.int .i64 n,.int .i64 m,.slice xp xn xc],.nilIface])∧R n m xp xn xc w0∧Keep (λx=>x=w.heap.size+1) w0 w':=by
 have e0:=Qv;have e1:=Qw;have en:=Qx;have k2:Bel w ((w.alloc (.cells #[kd,a,b,s,(lp,ln,lc),(dp,dn,dc)] 68)).alloc (.cells #[(0:Int),(0:Int),()] 62)):=(Bel.start w _).ac _;have HK:=xh k2;have HB:Hid (Blk ((w.alloc (.cells #[kd,a,b,s,(lp,ln,lc),(dp,dn,dc)] 68)).alloc (.cells #[(0:Int),(0:Int),()] 62)) (w.heap.size+1) [(0:Int),(0:Int),()] 62):=xh (Blk.aT _ [(0:Int),(0:Int),()] _ (by simp));have BY:Blk ((w.alloc (.cells #[kd,a,b,s,(lp,ln,lc),(dp,dn,dc)] 68)).alloc (.cells #[(0:Int),(0:Int),()] 62)) w.heap.size [kd,a,b,s,(lp,ln,lc),(dp,dn,dc)] 68:=(Blk.new w _ _).alloc _;have HY:Hid (((w.alloc (.cells #[kd,a,b,s,(lp,ln,lc),(dp,dn,dc)] 68)).alloc (.cells #[(0:Int),(0:Int),()] 62)).cell? (w.heap.size,0)=some (.int .i64 kd)∧((w.alloc (.cells #[kd,a,b,s,(lp,ln,lc),(dp,dn,dc)] 68)).alloc (.cells #[(0:Int),(0:Int),()] 62)).cell? (w.heap.size,1)=some (.int .i64 a)∧((w.alloc (.cells #[kd,a,b,s,(lp,ln,lc),(dp,dn,dc)] 68)).alloc (.cells #[(0:Int),(0:Int),()] 62)).cell? (w.heap.size,2)=some (.int .i64 b)∧((w.alloc (.cells #[kd,a,b,s,(lp,ln,lc),(dp,dn,dc)] 68)).alloc (.cells #[(0:Int),(0:Int),()] 62)).cell? (w.heap.size,3)=some (.string s)∧((w.alloc (.cells #[kd,a,b,s,(lp,ln,lc),(dp,dn,dc)] 68)).alloc (.cells #[(0:Int),(0:Int),()] 62)).cell? (w.heap.size,4)=some (.slice lp ln lc)∧((w.alloc (.cells #[kd,a,b,s,(lp,ln,lc),(dp,dn,dc)] 68)).alloc (.cells #[(0:Int),(0:Int),()] 62)).cell? (w.heap.size,5)=some (.slice dp dn dc)):=xh ⟨BY.cell 0,BY.cell 1,BY.cell 2,BY.cell 3,BY.cell 4,BY.cell 5⟩;clear BY;have HH:=xh hH;have HC:=xh hC;clear k2 hH hC;go_enter func51,ntmps51
 go_wp2_with (first
  | (go_at_call 88;((with_reducible refine au (HH.o _) ?_);rintro e w2 ⟨rfl,q2,z2,k3⟩;have H2:=xh (And.intro (HK.o.tr k3) (And.intro (HB.o.bel k3) (And.intro q2 (And.intro z2 k3))));have y0:=aa k3 HY.o.1;have y1:=aa k3 HY.o.2.1;have y2:=aa k3 HY.o.2.2.1;have y3:=aa k3 HY.o.2.2.2.1;have y4:=aa k3 HY.o.2.2.2.2.1;have y5:=aa k3 HY.o.2.2.2.2.2;clear q2 z2 k3))
  | ((with_reducible refine au (HC.o _ H2.o.1 (by have:=H2.o.2.2.2.1;simp at this;omega) H2.o.2.1 (w.heap.size+1+1) (by omega) (by simpa using H2.o.2.2.1)) ?_);rintro e w3 ⟨n,m,xp,xn,xc,rfl,r3,h3⟩;have H3:=xh (And.intro r3 h3);have x0:=h3.cell 0;have x1:=h3.cell 1;have x2:=h3.cell 2;have xf:=h3.frozen;have xl:=h3.lt;clear r3 h3))
 (try simp only[Exit.inBlock,Exit.then])
 exact dU (q:=w.heap.size+1) rfl rfl ((((H3.o.2.setCell (o:=0) _).setCell (o:=1) _).setCell (o:=2) _).alloc _) rfl ⟨n,m,xp,xn,xc,w3,rfl,H3.o.1,(((Keep.setCell _ _ _ _).tr (Keep.setCell _ _ _ _)).tr (Keep.setCell _ _ _ _)).tr (Keep.of_bel _ (Bel.start _ _))⟩
theorem EL(n m:Int):prog.built 228 [(0,.int .i64 n),(1,.int .i64 m)]=some #[.int .i64 n,.int .i64 m]:=by kernel_rfl
theorem XF(kb pb:Nat)(F:Nat)(kd a b:Int)(s:ByteArray)(lp dp:Option Addr)(ln lc dn dc:Nat)(w:World)(hcf:∀(args:Array Value) (W:World),(callFunc F args).run prog W=.ok (.enter F args) W)(pid:Int)(f:Int)(R:World→Prop)(hg:∀W,R W→ErrVar W)(hpl:pb<w.heap.size)(hp:∀W,R W→W.cell? (pb,18)=some (.int .i64 pid))
 (hH:∀W,Calls prog 88 #[kd] W (Z.e (.func (.func F) #[] #[]) W))
 (hC:∀W,Bel w W→w.heap.size+2≤W.heap.size→Blk W (w.heap.size+1) [(0:Int),(0:Int),()] 62→Calls prog F #[kb,pb,.agg #[kd,a,b,s,(lp,ln,lc),(dp,dn,dc)]] W λe w'=>∃(n m:Int) (xp:Option Addr) (xn xc:Nat),e=.returned (.tuple #[.agg #[.int .i64 n,.int .i64 m,.slice xp xn xc],.iface 48 (.int .i64 f)])∧R w'∧Blk w' (w.heap.size+1) [(0:Int),(0:Int),()] 62) :
 Calls prog 51 #[kb,pb,.agg #[kd,a,b,s,(lp,ln,lc),(dp,dn,dc)]] w λe w'=>∃(c:Nat) (w0:World),e=.returned (.tuple #[.agg #[(0:Int),(0:Int),()],.iface 226 (.pointer (c,0))])∧Blk w' c [pid,f] 228∧R w0∧Keep (λx=>x=w.heap.size+1) w0 w'∧w.heap.size≤c:=by
 have e0:=Qv;have e1:=Qw;have en:=Qx;have k2:Bel w ((w.alloc (.cells #[kd,a,b,s,(lp,ln,lc),(dp,dn,dc)] 68)).alloc (.cells #[(0:Int),(0:Int),()] 62)):=(Bel.start w _).ac _;have HK:=xh k2;have HB:Hid (Blk ((w.alloc (.cells #[kd,a,b,s,(lp,ln,lc),(dp,dn,dc)] 68)).alloc (.cells #[(0:Int),(0:Int),()] 62)) (w.heap.size+1) [(0:Int),(0:Int),()] 62):=xh (Blk.aT _ [(0:Int),(0:Int),()] _ (by simp));have HH:=xh hH;have HC:=xh hC;have HG:=xh hg;have HP:=xh hp;have b0:=bL;have bce:=EL;clear k2 hH hC hg hp;go_enter func51,ntmps51
 go_upto_region 6 with(first
  | (go_at_call 88;((with_reducible refine au (HH.o _) ?_);rintro e w2 ⟨rfl,rfl⟩))
  | ((with_reducible refine au (HC.o _ HK.o (by simp) HB.o) ?_);rintro e w3 ⟨n,m,xp,xn,xc,rfl,r3,h3⟩;have H3:=xh (And.intro r3 h3);have x0:=h3.cell 0;have x1:=h3.cell 1;have x2:=h3.cell 2;have xf:=h3.frozen;have xl:=h3.lt;clear r3 h3))
 have B4:=H3.o.2.alloc (.cells #[.int .i64 n,.int .i64 m,.slice xp xn xc] 62);have k4:Bel w3 (w3.alloc (.cells #[.int .i64 n,.int .i64 m,.slice xp xn xc] 62)):=Bel.start w3 _;generalize w3.alloc (.cells #[.int .i64 n,.int .i64 m,.slice xp xn xc] 62)=w4 at *
 have g4:ErrVar w4.drew:=((HG.o _ H3.o.1).bel k4).bel (Bel.drew (Bel.refl _));have p4:w4.cell? (pb,18)=some (.int .i64 pid):=aa k4 (HP.o _ H3.o.1);have HT:=xh (And.intro g4 (And.intro (B4.bel (Bel.drew (Bel.refl _))) (k4.tr (Bel.drew (Bel.refl _)))));clear x0 x1 x2 xf xl B4 k4 g4;have P4:Hid (w4.drew.cell? (pb,18)=some (.int .i64 pid)):=xh (aa (Bel.drew (Bel.refl _)) p4);have hne:w.heap.size+1≠pb:=by omega
 go_region_held3 (λw'=>w'.cell? ⟨pb,18,none⟩=some (.int .i64 pid)) (first|(go_keep;done)|assumption|exact P4.o) ((go_at_call 14;((with_reducible refine au (vo f _ HT.o.1) ?_);rintro e w5 ⟨rfl,k5⟩;have H5:=xh k5;have B5:=xh (HT.o.2.1.bel k5);have p5:=aa k5 P4.o;have x0:=B5.o.cell 0;have x1:=B5.o.cell 1;have x2:=B5.o.cell 2;have xf:=B5.o.frozen;have xl:=B5.o.lt;clear k5)))
 all_goals
  go_wp2_with fail
  (try simp only[Exit.inBlock,Exit.then])
  exact dU (q:=w.heap.size+1) rfl rfl ((((B5.o.setCell (o:=0) _).setCell (o:=1) _).setCell (o:=2) _).alloc _) rfl ⟨w5.heap.size,w3,rfl,Blk.aT _ [pid,f] _ (by simp),H3.o.1,(Keep.of_bel _ (HT.o.2.2.tr H5.o)).tr ((((Keep.setCell _ _ _ _).tr (Keep.setCell _ _ _ _)).tr (Keep.setCell _ _ _ _)).tr (Keep.of_bel _ (Bel.start _ _))),by have h1:=H3.o.2.lt;have h2:=(HT.o.2.2.tr H5.o).size;omega⟩
theorem KJ(kb pb:Nat)(F G:Nat)(kd a b:Int)(s:ByteArray)(lp dp:Option Addr)(ln lc dn dc:Nat)(w:World)(hcf:∀(args:Array Value) (W:World),(callFunc F args).run prog W=.ok (.enter F args) W)(pid:Int)(f:Int)(R:World→Prop)(hg:∀W,R W→ErrVar W)(hpl:pb<w.heap.size)(hp:∀W,R W→W.cell? (pb,18)=some (.int .i64 pid))
 (hH:∀W,Calls prog 88 #[kd] W λe w'=>e=.returned (.func (.func F) #[] #[W.heap.size])∧w'.cell? (W.heap.size,0)=some (.func (.func G) #[] #[])∧W.heap.size<w'.heap.size∧Bel W w')
 (hC:∀W,Bel w W→w.heap.size+2≤W.heap.size→Blk W (w.heap.size+1) [(0:Int),(0:Int),()] 62→∀q,w.heap.size≤q→W.cell? (q,0)=some (.func (.func G) #[] #[])→Calls prog F #[kb,pb,.agg #[kd,a,b,s,(lp,ln,lc),(dp,dn,dc)],q] W λe w'=>∃(n m:Int) (xp:Option Addr) (xn xc:Nat),e=.returned (.tuple #[.agg #[.int .i64 n,.int .i64 m,.slice xp xn xc],.iface 48 (.int .i64 f)])∧R w'∧Blk w' (w.heap.size+1) [(0:Int),(0:Int),()] 62) :
 Calls prog 51 #[kb,pb,.agg #[kd,a,b,s,(lp,ln,lc),(dp,dn,dc)]] w λe w'=>∃(c:Nat) (w0:World),e=.returned (.tuple #[.agg #[(0:Int),(0:Int),()],.iface 226 (.pointer (c,0))])∧Blk w' c [pid,f] 228∧R w0∧Keep (λx=>x=w.heap.size+1) w0 w'∧w.heap.size≤c:=by
 have e0:=Qv;have e1:=Qw;have en:=Qx;have k2:Bel w ((w.alloc (.cells #[kd,a,b,s,(lp,ln,lc),(dp,dn,dc)] 68)).alloc (.cells #[(0:Int),(0:Int),()] 62)):=(Bel.start w _).ac _;have HK:=xh k2;have HB:Hid (Blk ((w.alloc (.cells #[kd,a,b,s,(lp,ln,lc),(dp,dn,dc)] 68)).alloc (.cells #[(0:Int),(0:Int),()] 62)) (w.heap.size+1) [(0:Int),(0:Int),()] 62):=xh (Blk.aT _ [(0:Int),(0:Int),()] _ (by simp));have BY:Blk ((w.alloc (.cells #[kd,a,b,s,(lp,ln,lc),(dp,dn,dc)] 68)).alloc (.cells #[(0:Int),(0:Int),()] 62)) w.heap.size [kd,a,b,s,(lp,ln,lc),(dp,dn,dc)] 68:=(Blk.new w _ _).alloc _;have HY:Hid (((w.alloc (.cells #[kd,a,b,s,(lp,ln,lc),(dp,dn,dc)] 68)).alloc (.cells #[(0:Int),(0:Int),()] 62)).cell? (w.heap.size,0)=some (.int .i64 kd)∧((w.alloc (.cells #[kd,a,b,s,(lp,ln,lc),(dp,dn,dc)] 68)).alloc (.cells #[(0:Int),(0:Int),()] 62)).cell? (w.heap.size,1)=some (.int .i64 a)∧((w.alloc (.cells #[kd,a,b,s,(lp,ln,lc),(dp,dn,dc)] 68)).alloc (.cells #[(0:Int),(0:Int),()] 62)).cell? (w.heap.size,2)=some (.int .i64 b)∧((w.alloc (.cells #[kd,a,b,s,(lp,ln,lc),(dp,dn,dc)] 68)).alloc (.cells #[(0:Int),(0:Int),()] 62)).cell? (w.heap.size,3)=some (.string s)∧((w.alloc (.cells #[kd,a,b,s,(lp,ln,lc),(dp,dn,dc)] 68)).alloc (.cells #[(0:Int),(0:Int),()] 62)).cell? (w.heap.size,4)=some (.slice lp ln lc)∧((w.alloc (.cells #[kd,a,b,s,(lp,ln,lc),(dp,dn,dc)] 68)).alloc (.cells #[(0:Int),(0:Int),()] 62)).cell? (w.heap.size,5)=some (.slice dp dn dc)):=xh ⟨BY.cell 0,BY.cell 1,BY.cell 2,BY.cell 3,BY.cell 4,BY.cell 5⟩;clear BY;have HH:=xh hH;have HC:=xh hC;have HG:=xh hg;have HP:=xh hp;have b0:=bL;have bce:=EL;clear k2 hH hC hg hp;go_enter func51,ntmps51
 go_upto_region 6 with(first
  | (go_at_call 88;((with_reducible refine au (HH.o _) ?_);rintro e w2 ⟨rfl,q2,z2,k3⟩;have H2:=xh (And.intro (HK.o.tr k3) (And.intro (HB.o.bel k3) (And.intro q2 (And.intro z2 k3))));have y0:=aa k3 HY.o.1;have y1:=aa k3 HY.o.2.1;have y2:=aa k3 HY.o.2.2.1;have y3:=aa k3 HY.o.2.2.2.1;have y4:=aa k3 HY.o.2.2.2.2.1;have y5:=aa k3 HY.o.2.2.2.2.2;clear q2 z2 k3))
  | ((with_reducible refine au (HC.o _ H2.o.1 (by have:=H2.o.2.2.2.1;simp at this;omega) H2.o.2.1 (w.heap.size+1+1) (by omega) (by simpa using H2.o.2.2.1)) ?_);rintro e w3 ⟨n,m,xp,xn,xc,rfl,r3,h3⟩;have H3:=xh (And.intro r3 h3);have x0:=h3.cell 0;have x1:=h3.cell 1;have x2:=h3.cell 2;have xf:=h3.frozen;have xl:=h3.lt;clear r3 h3))
 have B4:=H3.o.2.alloc (.cells #[.int .i64 n,.int .i64 m,.slice xp xn xc] 62);have k4:Bel w3 (w3.alloc (.cells #[.int .i64 n,.int .i64 m,.slice xp xn xc] 62)):=Bel.start w3 _;generalize w3.alloc (.cells #[.int .i64 n,.int .i64 m,.slice xp xn xc] 62)=w4 at *
 have g4:ErrVar w4.drew:=((HG.o _ H3.o.1).bel k4).bel (Bel.drew (Bel.refl _));have p4:w4.cell? (pb,18)=some (.int .i64 pid):=aa k4 (HP.o _ H3.o.1);have HT:=xh (And.intro g4 (And.intro (B4.bel (Bel.drew (Bel.refl _))) (k4.tr (Bel.drew (Bel.refl _)))));clear x0 x1 x2 xf xl B4 k4 g4 y0 y1 y2 y3 y4 y5;have P4:Hid (w4.drew.cell? (pb,18)=some (.int .i64 pid)):=xh (aa (Bel.drew (Bel.refl _)) p4);have hne:w.heap.size+1≠pb:=by omega
 go_region_held3 (λw'=>w'.cell? ⟨pb,18,none⟩=some (.int .i64 pid)) (first|(go_keep;done)|assumption|exact P4.o) ((go_at_call 14;((with_reducible refine au (vo f _ HT.o.1) ?_);rintro e w5 ⟨rfl,k5⟩;have H5:=xh k5;have B5:=xh (HT.o.2.1.bel k5);have p5:=aa k5 P4.o;have x0:=B5.o.cell 0;have x1:=B5.o.cell 1;have x2:=B5.o.cell 2;have xf:=B5.o.frozen;have xl:=B5.o.lt;clear k5)))
 all_goals
  go_wp2_with fail
  (try simp only[Exit.inBlock,Exit.then])
  exact dU (q:=w.heap.size+1) rfl rfl ((((B5.o.setCell (o:=0) _).setCell (o:=1) _).setCell (o:=2) _).alloc _) rfl ⟨w5.heap.size,w3,rfl,Blk.aT _ [pid,f] _ (by simp),H3.o.1,(Keep.of_bel _ (HT.o.2.2.tr H5.o)).tr ((((Keep.setCell _ _ _ _).tr (Keep.setCell _ _ _ _)).tr (Keep.setCell _ _ _ _)).tr (Keep.of_bel _ (Bel.start _ _))),by have h1:=H3.o.2.lt;have h2:=(HT.o.2.2.tr H5.o).size;omega⟩
theorem IL(kb pm:Nat)(kv:List (Int×Value))(pid:Int)(w:World)(MV : -9223372036854775808≤pid∧pid≤9223372036854775807)(c5:w.cell? (kb,5)=some (.map (some pm)))(hp:Mp nD w pm kv)(hg:dD kv pid=none) :
 Calls prog 41 #[kb,pid] w (Z.e (.tuple #[.pointer none,.iface 48 (.int .i64 18)]) w):=by
 have hlk:(Instr.lookup 103 (.map (some pm)) (.int .i64 pid) false).run prog w=.ok (.pointer none) w:=by
  have h1:=hp.lookup mM underlying103 pid (WalkArith.wf_i64 MV) false (yJ w);simp only[Bool.false_eq_true,if_false]at h1
  rw[hg]at h1;exact h1
 clear hp hg;go_enter func41,ntmps41;go_wp2_with fail
 go_ret2
 exact⟨rfl,rfl⟩
theorem Uw(kb:Nat)(pid er:Int)(kd a b:Int)(s:ByteArray)(lp dp:Option Addr)(ln lc dn dc:Nat)(w:World)
 (hr:∀W,Bel w W→Calls prog 41 #[kb,pid] W (Z.e (.tuple #[.pointer none,.iface 48 (.int .i64 er)]) W)) :
 Calls prog 30 #[kb,pid,.agg #[kd,a,b,s,(lp,ln,lc),(dp,dn,dc)]] w (Z.b (.tuple #[.agg #[(0:Int),(0:Int),()],.iface 48 (.int .i64 er)]) w):=by
 have b0:=bL;have k2:Bel w ((w.alloc (.cells #[kd,a,b,s,(lp,ln,lc),(dp,dn,dc)] 68)).alloc (.cells #[(0:Int),(0:Int),()] 62)):=(Bel.start w _).ac _;have HK:=xh k2;have HB:Hid (Blk ((w.alloc (.cells #[kd,a,b,s,(lp,ln,lc),(dp,dn,dc)] 68)).alloc (.cells #[(0:Int),(0:Int),()] 62)) (w.heap.size+1) [(0:Int),(0:Int),()] 62):=xh (Blk.aT _ [(0:Int),(0:Int),()] _ (by simp));have HR:=xh hr;clear k2 hr;go_enter func30,ntmps30;go_wp2_with (go_at_call 41;((with_reducible refine au (HR.o _ HK.o) ?_);rintro e w2 ⟨rfl,rfl⟩))
 (try simp only[Exit.inBlock,Exit.then])
 refine dU (q:=w.heap.size+1) (n:=0) (m:=0) (dp:=none) (dn:=0) (dc:=0) rfl rfl ?_ rfl ⟨rfl,HK.o⟩;exact HB.o
theorem Qz(kb pb:Nat)(pid:Int)(kd a b:Int)(s:ByteArray)(lp dp:Option Addr)(ln lc dn dc:Nat)(w:World)(R:Int→Int→Option Addr→Nat→Nat→Value→World→Prop)
 (hr:∀W,Bel w W→Calls prog 41 #[kb,pid] W (Z.e (.tuple #[pb,.nilIface]) W))
 (hD:∀W,Bel w W→w.heap.size+2≤W.heap.size→Blk W (w.heap.size+1) [(0:Int),(0:Int),()] 62→Calls prog 51 #[kb,pb,.agg #[kd,a,b,s,(lp,ln,lc),(dp,dn,dc)]] W λe w'=>∃(n m:Int) (xp:Option Addr) (xn xc:Nat) (ev:Value),e=.returned (.tuple #[.agg #[.int .i64 n,.int .i64 m,.slice xp xn xc],ev])∧R n m xp xn xc ev w'∧Blk w' (w.heap.size+1) [(0:Int),(0:Int),()] 62) :
 Calls prog 30 #[kb,pid,.agg #[kd,a,b,s,(lp,ln,lc),(dp,dn,dc)]] w λe w'=>∃(n m:Int) (xp:Option Addr) (xn xc:Nat) (ev:Value) (w0:World),e=.returned (.tuple #[.agg #[.int .i64 n,.int .i64 m,.slice xp xn xc],ev])∧R n m xp xn xc ev w0∧Keep (λx=>x=w.heap.size+1) w0 w':=by
 have b0:=bL;have k2:Bel w ((w.alloc (.cells #[kd,a,b,s,(lp,ln,lc),(dp,dn,dc)] 68)).alloc (.cells #[(0:Int),(0:Int),()] 62)):=(Bel.start w _).ac _;have HK:=xh k2;have HB:Hid (Blk ((w.alloc (.cells #[kd,a,b,s,(lp,ln,lc),(dp,dn,dc)] 68)).alloc (.cells #[(0:Int),(0:Int),()] 62)) (w.heap.size+1) [(0:Int),(0:Int),()] 62):=xh (Blk.aT _ [(0:Int),(0:Int),()] _ (by simp));have HR:=xh hr;have HD:=xh (hD _ k2 (by simp) HB.o);clear k2 hr hD;go_enter func30,ntmps30
 go_wp2_with (first
  | (go_at_call 41;((with_reducible refine au (HR.o _ HK.o) ?_);rintro e w2 ⟨rfl,rfl⟩))
  | (go_at_call 51;((with_reducible refine au HD.o ?_);rintro e w3 ⟨n,m,xp,xn,xc,ev,rfl,r3,h3⟩;have H3:=xh (And.intro r3 h3);have x0:=h3.cell 0;have x1:=h3.cell 1;have x2:=h3.cell 2;have xf:=h3.frozen;have xl:=h3.lt;clear r3 h3)))
 (try simp only[Exit.inBlock,Exit.then])
 exact dU (q:=w.heap.size+1) rfl rfl (((H3.o.2.setCell (o:=0) _).setCell (o:=1) _).setCell (o:=2) _) rfl ⟨n,m,xp,xn,xc,ev,w3,rfl,H3.o.1,((Keep.setCell _ _ _ _).tr (Keep.setCell _ _ _ _)).tr (Keep.setCell _ _ _ _)⟩
theorem CB(tk kb:Nat)(pid:Int)(kd a b:Int)(s:ByteArray)(lp dp:Option Addr)(ln lc dn dc:Nat)(w:World)(R:Int→Int→Option Addr→Nat→Nat→Value→World→Prop)(ht:w.cell? (tk,0)=some (.pointer (kb,0)))
 (hD:∀W,Bel w W→w.heap.size+2≤W.heap.size→Blk W (w.heap.size+1) [(0:Int),(0:Int),()] 62→Blk W w.heap.size [kd,a,b,s,(lp,ln,lc),(dp,dn,dc)] 68→Calls prog 30 #[kb,pid,.agg #[kd,a,b,s,(lp,ln,lc),(dp,dn,dc)]] W λe w'=>∃(n m:Int) (xp:Option Addr) (xn xc:Nat) (ev:Value),e=.returned (.tuple #[.agg #[.int .i64 n,.int .i64 m,.slice xp xn xc],ev])∧R n m xp xn xc ev w'∧w'.cell? (tk,0)=some (.pointer (kb,0))∧Blk w' w.heap.size [kd,a,b,s,(lp,ln,lc),(dp,dn,dc)] 68∧Blk w' (w.heap.size+1) [(0:Int),(0:Int),()] 62) :
 Calls prog 18 #[tk,pid,.agg #[kd,a,b,s,(lp,ln,lc),(dp,dn,dc)]] w λe w'=>∃(n m:Int) (xp:Option Addr) (xn xc:Nat) (ev:Value) (w0:World),e=.returned (.tuple #[.agg #[.int .i64 n,.int .i64 m,.slice xp xn xc],ev])∧R n m xp xn xc ev w0∧Keep (λx=>x=w.heap.size+1) w0 w':=by
 have b0:=bL;have k2:Bel w ((w.alloc (.cells #[kd,a,b,s,(lp,ln,lc),(dp,dn,dc)] 68)).alloc (.cells #[(0:Int),(0:Int),()] 62)):=(Bel.start w _).ac _;have HK:=xh k2;have HB:Hid (Blk ((w.alloc (.cells #[kd,a,b,s,(lp,ln,lc),(dp,dn,dc)] 68)).alloc (.cells #[(0:Int),(0:Int),()] 62)) (w.heap.size+1) [(0:Int),(0:Int),()] 62):=xh (Blk.aT _ [(0:Int),(0:Int),()] _ (by simp));have MW:Bel w ((w.alloc (.cells #[kd,a,b,s,(lp,ln,lc),(dp,dn,dc)] 68)).alloc (.cells #[(0:Int),(0:Int),()] 62)).drew:=k2.tr (Bel.drew (Bel.refl _));have BY:Blk ((w.alloc (.cells #[kd,a,b,s,(lp,ln,lc),(dp,dn,dc)] 68)).alloc (.cells #[(0:Int),(0:Int),()] 62)) w.heap.size [kd,a,b,s,(lp,ln,lc),(dp,dn,dc)] 68:=(Blk.new w _ _).alloc _;have HD:=xh (hD _ MW (by simp) (HB.o.bel (Bel.drew (Bel.refl _))) (BY.bel (Bel.drew (Bel.refl _))));have y0:=BY.cell 0;have y1:=BY.cell 1;have y2:=BY.cell 2;have y3:=BY.cell 3;have y4:=BY.cell 4;have y5:=BY.cell 5;have t2:=aa k2 ht;have htl:tk<w.heap.size:=by have:=World.block_lt_of_cell? _ _ ht;simpa using this
 have ht1:w.heap.size+1≠tk:=by omega
 clear k2 MW hD BY ht;go_enter func18,ntmps18;go_upto_region 1 with fail
 go_region_held3 (λw'=>w'.cell? ⟨tk,0,none⟩=some (.pointer (kb,0))∧w'.cell? ⟨w.heap.size,0,none⟩=some (.int .i64 kd)∧w'.cell? ⟨w.heap.size,1,none⟩=some (.int .i64 a)∧w'.cell? ⟨w.heap.size,2,none⟩=some (.int .i64 b)∧w'.cell? ⟨w.heap.size,3,none⟩=some (.string s)∧w'.cell? ⟨w.heap.size,4,none⟩=some (.slice lp ln lc)∧w'.cell? ⟨w.heap.size,5,none⟩=some (.slice dp dn dc)) (first|(go_keep;done)|exact⟨t2,y0,y1,y2,y3,y4,y5⟩) ((go_at_call 30;((with_reducible refine au HD.o ?_);rintro e w3 ⟨n,m,xp,xn,xc,ev,rfl,r3,h1,h2,h3⟩;have H3:=xh (And.intro r3 h3);have z0:=h2.cell 0;have z1:=h2.cell 1;have z2:=h2.cell 2;have z3:=h2.cell 3;have z4:=h2.cell 4;have z5:=h2.cell 5;have x0:=h3.cell 0;have x1:=h3.cell 1;have x2:=h3.cell 2;have xf:=h3.frozen;have xl:=h3.lt;clear r3 h3 h2)))
 all_goals
  go_wp2_with fail
  (try simp only[Exit.inBlock,Exit.then])
  exact dU (q:=w.heap.size+1) rfl rfl (((H3.o.2.setCell (o:=0) _).setCell (o:=1) _).setCell (o:=2) _) rfl ⟨n,m,xp,xn,xc,ev,w3,rfl,H3.o.1,((Keep.setCell _ _ _ _).tr (Keep.setCell _ _ _ _)).tr (Keep.setCell _ _ _ _)⟩
theorem MX(kb cb:Nat)(h ty:Value)(p:Option Addr)(n c:Nat)(w:World)(h8:w.cell? (kb,8)=some (.pointer (cb,0)))(hkc:kb≠cb)(hb:Blk w cb [h,ty,(p,n,c)] 151) :
 Calls prog 115 #[kb] w λe w'=>e=.returned (.slice p n c)∧Blk w' cb [h,ty,()] 151∧Keep (λq=>q=cb) w w':=by
 have c2:=hb.c 2 rfl;have f2:=hb.frozen;have hl:=hb.lt;have HB:=xh hb;clear hb;go_enter func115,ntmps115;go_wp2
 go_ret
 exact⟨rfl,HB.o.setCell (o:=2) _,Keep.setCell _ _ _ _⟩
theorem MZ(tk kb:Nat)(Q:Value→World→Prop)(w:World)(ht:w.cell? (tk,0)=some (.pointer (kb,0)))
 (hk:Calls prog 115 #[kb] w λe w'=>∃v,e=.returned v∧Q v w') :
 Calls prog 67 #[tk] w λe w'=>∃v,e=.returned v∧Q v w':=by
 have HK:=xh hk;clear hk;go_enter func67,ntmps67;go_wp2_with (go_at_call 115;((with_reducible refine au HK.o ?_);rintro e w2 ⟨v,rfl,k2⟩;have H2:=xh k2;clear k2))
 go_ret
 exact⟨v,rfl,H2.o⟩
theorem M0(tk kb:Nat)(Q:World→Prop)(w:World)(ht:w.cell? (tk,0)=some (.pointer (kb,0)))
 (hk:Calls prog 36 #[kb] w λe w'=>e=.returned (.tuple #[])∧Q w') :
 Calls prog 24 #[tk] w λe w'=>e=.returned (.tuple #[])∧Q w':=by
 have HK:=xh hk;clear hk;go_enter func24,ntmps24;go_wp2_with (go_at_call 36;((with_reducible refine au HK.o ?_);rintro e w2 ⟨rfl,k2⟩;have H2:=xh k2;clear k2))
 go_end0
 exact⟨rfl,H2.o⟩
theorem M3(tk kb:Nat)(p:Option Addr)(n c:Nat)(Q:World→Prop)(w:World)(ht:w.cell? (tk,0)=some (.pointer (kb,0)))
 (hk:Calls prog 37 #[kb,(p,n,c)] w λe w'=>e=.returned (.tuple #[])∧Q w') :
 Calls prog 25 #[tk,(p,n,c)] w λe w'=>e=.returned (.tuple #[])∧Q w':=by
 have HK:=xh hk;clear hk;go_enter func25,ntmps25;go_wp2_with (go_at_call 37;((with_reducible refine au HK.o ?_);rintro e w2 ⟨rfl,k2⟩;have H2:=xh k2;clear k2))
 go_end0
 exact⟨rfl,H2.o⟩
theorem M5(kb:Nat)(now:Int)(p:Option Addr)(c:Nat)(ks:List Value)(w:World)(hb:Blk w kb ks 111)(h10:ks[10]?=some (.int .i64 now))(h11:ks[11]?=some (.slice p 0 c)) :
 Calls prog 36 #[kb] w λe w'=>e=.returned (.tuple #[])∧∃now',Blk w' kb (ks.set 10 (.int .i64 now')) 111∧Keep (λq=>q=kb) w w':=by
 have c10:w.cell? (kb,10)=some (.int .i64 now):=by rw[hb.cell];exact h10
 have c11:w.cell? (kb,11)=some (.slice p 0 c):=by rw[hb.cell];exact h11
 have f0:=hb.frozen;have hl:=hb.lt;obtain⟨now',hw⟩:=e_x (IntKind.i64.wrap (now+1));have B1:=hb.setCell (o:=10) (.int .i64 now');have HB:=xh B1;have d11:(w.setCell (kb,10) (.int .i64 now')).cell? (kb,11)=some (.slice p 0 c):=by
  rw[World.cell?_setCell_other _ _ _ _ (by simp)];exact c11
 clear hb B1 h10 h11;go_enter func36,ntmps36;go_wp2_with fail
 go_loopw [] (λwr=>wr=w.setCell (kb,10) (.int .i64 now')) (λ_=>0)
 case atStart=>rfl
 case round=>
  have e11:wr.cell? (kb,11)=some (.slice p 0 c):=by rw[hrel];exact d11
  have HE:=xh hrel;clear hrel d11 c10 c11;go_wp2_with fail
  go_quiet (fail)
  go_wp2_with fail
  go_end0
  have HE2:=HE.o;subst HE2;exact⟨rfl,now',HB.o.bel (ah (Bel.refl _) _),(Keep.setCell _ _ _ _).tr (Keep.of_bel _ (ah (Bel.refl _) _))⟩
end
end Go.Proofs.YtcnjjchlebmfiaaGreatDoor
