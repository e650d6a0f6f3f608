/-.-/
import Derived.Test.YtcnjjchlebmfiaaGreatDoorP19
import Derived.Test.YtcnjjchlebmfiaaGreatDoorP21
set_option linter.all false
set_option maxRecDepth 100000
set_option maxHeartbeats 16000000
namespace Go.Proofs.YtcnjjchlebmfiaaGreatDoor
section
open Go.RowKit Go.MapKept Go.Maps Go.Shelf
end
section
open Go.Proofs.Tryz Go.RowKit Go.MapKept Go.Maps Go.Shelf
theorem Me(n:Int):prog.built 62 [(0,.int .i64 n)]=some #[.int .i64 n,.int .i64 0,.slice none 0 0]:=by kernel_rfl
theorem yT(kb pb q F:Nat)(kd a b:Int)(s:ByteArray)(lp dp:Option Addr)(ln lc dn dc:Nat)(w:World)(hcf:∀(args:Array Value) (W:World),(callFunc F args).run prog W=.ok (.enter F args) W)(hq:w.cell? (q,0)=some (.func (.func F) #[] #[]))(R:Int→Value→World→Prop)
 (hF:∀W,Bel w W→w.heap.size+2≤W.heap.size→Blk W (w.heap.size+1) [(0:Int),(0:Int),()] 62→Calls prog F #[kb,pb,.agg #[kd,a,b,s,(lp,ln,lc),(dp,dn,dc)]] W λe w'=>∃n ev,e=.returned (.tuple #[.int .i64 n,ev])∧R n ev w'∧Blk w' (w.heap.size+1) [(0:Int),(0:Int),()] 62) :
 Calls prog 221 #[kb,pb,.agg #[kd,a,b,s,(lp,ln,lc),(dp,dn,dc)],q] w λe w'=>∃(n:Int) (ev:Value) (w0:World),e=.returned (.tuple #[.agg #[.int .i64 n,(0:Int),()],ev])∧R n ev w0∧Keep (λx=>x=w.heap.size+1) w0 w':=by
 have b1:=Me;have k2:Bel w ((w.alloc (.cells #[kd,a,b,s,(lp,ln,lc),(dp,dn,dc)] 68)).alloc (.cells #[(0:Int),(0:Int),()] 62)):=(Bel.start w _).ac _;have q2:=af k2 hq;have HF:=xh (hF _ k2 (by simp) (Blk.dF _ [(0:Int),(0:Int),()] _ (by simp)));clear k2 hF;go_enter func221,ntmps221;go_wp2_with ((with_reducible refine aH HF.o ?_);rintro e w3 ⟨n,ev,rfl,r3,h3⟩;have H3:=xh (And.intro r3 h3);have x0:=h3.cell 0;have x1:=h3.cell 1;have x2:=h3.cell 2;have xf:=h3.frozen;have xl:=h3.lt;clear r3 h3)
 (try simp only[Exit.inBlock,Exit.then])
 exact gV (q:=w.heap.size+1) rfl rfl (((H3.o.2.setCell (o:=0) _).setCell (o:=1) _).setCell (o:=2) _) rfl ⟨n,ev,w3,rfl,H3.o.1,((Keep.setCell _ _ _ _).tr (Keep.setCell _ _ _ _)).tr (Keep.setCell _ _ _ _)⟩
theorem Eu(kb pb q F:Nat)(kd a b:Int)(s:ByteArray)(lp dp:Option Addr)(ln lc dn dc:Nat)(w:World)(hcf:∀(args:Array Value) (W:World),(callFunc F args).run prog W=.ok (.enter F args) W)(hq:w.cell? (q,0)=some (.func (.func F) #[] #[]))(R:Value→World→Prop)
 (hF:∀W,Bel w W→w.heap.size+2≤W.heap.size→Blk W (w.heap.size+1) [(0:Int),(0:Int),()] 62→Calls prog F #[kb,pb,.agg #[kd,a,b,s,(lp,ln,lc),(dp,dn,dc)]] W λe w'=>∃ev,e=.returned ev∧R ev w'∧Blk w' (w.heap.size+1) [(0:Int),(0:Int),()] 62) :
 Calls prog 225 #[kb,pb,.agg #[kd,a,b,s,(lp,ln,lc),(dp,dn,dc)],q] w λe w'=>∃(ev:Value) (w0:World),e=.returned (.tuple #[.agg #[(0:Int),(0:Int),()],ev])∧R ev w0∧Keep (λx=>x=w.heap.size+1) w0 w':=by
 have b0:=fE;have k2:Bel w ((w.alloc (.cells #[kd,a,b,s,(lp,ln,lc),(dp,dn,dc)] 68)).alloc (.cells #[(0:Int),(0:Int),()] 62)):=(Bel.start w _).ac _;have q2:=af k2 hq;have HF:=xh (hF _ k2 (by simp) (Blk.dF _ [(0:Int),(0:Int),()] _ (by simp)));clear k2 hF;go_enter func225,ntmps225;go_wp2_with ((with_reducible refine aH HF.o ?_);rintro e w3 ⟨ev,rfl,r3,h3⟩;have H3:=xh (And.intro r3 h3);have x0:=h3.cell 0;have x1:=h3.cell 1;have x2:=h3.cell 2;have xf:=h3.frozen;have xl:=h3.lt;clear r3 h3)
 (try simp only[Exit.inBlock,Exit.then])
 exact gV (q:=w.heap.size+1) rfl rfl (((H3.o.2.setCell (o:=0) _).setCell (o:=1) _).setCell (o:=2) _) rfl ⟨ev,w3,rfl,H3.o.1,((Keep.setCell _ _ _ _).tr (Keep.setCell _ _ _ _)).tr (Keep.setCell _ _ _ _)⟩
theorem rC(F:Nat)(w:World):Calls prog 151 #[.func (.func F) #[] #[]] w λe w'=>e=.returned (.func (.func 221) #[] #[w.heap.size])∧w'.cell? (w.heap.size,0)=some (.func (.func F) #[] #[])∧w.heap.size<w'.heap.size∧Bel w w':=by
 have k1:Bel w (w.alloc (.cells #[.func (.func F) #[] #[]] 302)):=Bel.start w _;have q1:(w.alloc (.cells #[.func (.func F) #[] #[]] 302)).cell? (w.heap.size,0)=some (.func (.func F) #[] #[]):=(Blk.new w [.func (.func F) #[] #[]] 302).cell 0;have HK:=xh (And.intro k1 q1);clear k1 q1;go_enter func151,ntmps151;go_wp2
 go_ret
 exact⟨rfl,HK.o.2,by simp,HK.o.1⟩
theorem Ew(F:Nat)(w:World):Calls prog 154 #[.func (.func F) #[] #[]] w λe w'=>e=.returned (.func (.func 225) #[] #[w.heap.size])∧w'.cell? (w.heap.size,0)=some (.func (.func F) #[] #[])∧w.heap.size<w'.heap.size∧Bel w w':=by
 have k1:Bel w (w.alloc (.cells #[.func (.func F) #[] #[]] 304)):=Bel.start w _;have q1:(w.alloc (.cells #[.func (.func F) #[] #[]] 304)).cell? (w.heap.size,0)=some (.func (.func F) #[] #[]):=(Blk.new w [.func (.func F) #[] #[]] 304).cell 0;have HK:=xh (And.intro k1 q1);clear k1 q1;go_enter func154,ntmps154;go_wp2
 go_ret
 exact⟨rfl,HK.o.2,by simp,HK.o.1⟩
theorem Gs(k:Int)(w:World)(hk:k<0∨62≤k):Calls prog 171 #[k] w (Z.e .nilFunc w):=by
 have q1:(k==1)=false:=dK (by omega);have q2:(k==2)=false:=dK (by omega);have q3:(k==3)=false:=dK (by omega);have q4:(k==4)=false:=dK (by omega);have q5:(k==5)=false:=dK (by omega);have q6:(k==6)=false:=dK (by omega);have q7:(k==7)=false:=dK (by omega);have q15:(k==15)=false:=dK (by omega);have q16:(k==16)=false:=dK (by omega);have q17:(k==17)=false:=dK (by omega);have q20:(k==20)=false:=dK (by omega);have q21:(k==21)=false:=dK (by omega);have q8:(k==8)=false:=dK (by omega);have q9:(k==9)=false:=dK (by omega);have q10:(k==10)=false:=dK (by omega);have q11:(k==11)=false:=dK (by omega);have q12:(k==12)=false:=dK (by omega);have q13:(k==13)=false:=dK (by omega);have q14:(k==14)=false:=dK (by omega);have q18:(k==18)=false:=dK (by omega);have q19:(k==19)=false:=dK (by omega);clear hk;go_enter func171,ntmps171;go_wp2
 go_ret
 exact⟨rfl,rfl⟩
theorem IX(k:Int)(w:World)(hk:k<0∨62≤k):Calls prog 88 #[k] w (Z.e .nilFunc w):=by
 have HO:=xh λW=>Gs k W hk;have q1:(k==1)=false:=dK (by omega);have q2:(k==2)=false:=dK (by omega);have q3:(k==3)=false:=dK (by omega);have q4:(k==4)=false:=dK (by omega);have q5:(k==5)=false:=dK (by omega);have q6:(k==6)=false:=dK (by omega);have q7:(k==7)=false:=dK (by omega);have q15:(k==15)=false:=dK (by omega);have q16:(k==16)=false:=dK (by omega);have q17:(k==17)=false:=dK (by omega);have q20:(k==20)=false:=dK (by omega);have q21:(k==21)=false:=dK (by omega);have q8:(k==8)=false:=dK (by omega);have q9:(k==9)=false:=dK (by omega);have q10:(k==10)=false:=dK (by omega);have q11:(k==11)=false:=dK (by omega);have q12:(k==12)=false:=dK (by omega);have q13:(k==13)=false:=dK (by omega);have q14:(k==14)=false:=dK (by omega);have q18:(k==18)=false:=dK (by omega);have q19:(k==19)=false:=dK (by omega);clear hk;go_enter func88,ntmps88;go_wp2_with (go_at_call 171;((with_reducible refine aH (HO.o _) ?_);rintro e w2 ⟨rfl,rfl⟩))
 go_ret
 exact⟨rfl,rfl⟩
theorem VV(F:Nat)(W:World):(binOp BinOp.eql 224 (.func (.func F) #[] #[]) .nilFunc).run prog W=.ok (.bool false) W:=by kernel_rfl
theorem VW(F:Nat)(v:Value)(W:World):(binOp BinOp.eql 224 (.func (.func F) #[] #[v]) .nilFunc).run prog W=.ok (.bool false) W:=by kernel_rfl
theorem VX(W:World):(binOp BinOp.eql 224 .nilFunc .nilFunc).run prog W=.ok (.bool true) W:=by kernel_rfl
theorem ZC(kb pb:Nat)(kd a b:Int)(s:ByteArray)(lp dp:Option Addr)(ln lc dn dc:Nat)(w:World)(hH:∀W,Calls prog 88 #[kd] W (Z.e .nilFunc W)) :
 Calls prog 51 #[kb,pb,.agg #[kd,a,b,s,(lp,ln,lc),(dp,dn,dc)]] w (Z.b (.tuple #[.agg #[(0:Int),(0:Int),()],.iface 48 (.int .i64 23)]) w):=by
 have b0:=fE;have e0:=VV;have e1:=VW;have en:=VX;obtain⟨HK,HB,HY⟩:=hbox kd a b s lp dp ln lc dn dc w _ rfl;have HH:=xh hH;clear hH;go_enter func51,ntmps51;go_wp2_with (go_at_call 88;((with_reducible refine aH (HH.o _) ?_);rintro e w2 ⟨rfl,rfl⟩))
 (try simp only[Exit.inBlock,Exit.then])
 exact gV (q:=w.heap.size+1) rfl rfl HB.out rfl ⟨rfl,HK.out⟩
theorem ad2(kb pb:Nat)(F:Nat)(kd a b:Int)(s:ByteArray)(lp dp:Option Addr)(ln lc dn dc:Nat)(w:World)(hcf:∀(args:Array Value) (W:World),(callFunc F args).run prog W=.ok (.enter F args) W)(R:Int→Int→Option Addr→Nat→Nat→World→Prop)
 (hH:∀W,Calls prog 88 #[kd] W (Z.e (.func (.func F) #[] #[]) W))
 (hC:∀W,Bel w W→w.heap.size+2≤W.heap.size→Blk W (w.heap.size+1) [(0:Int),(0:Int),()] 62→Calls prog F #[kb,pb,.agg #[kd,a,b,s,(lp,ln,lc),(dp,dn,dc)]] W λe w'=>∃(n m:Int) (xp:Option Addr) (xn xc:Nat),e=.returned (.tuple #[.agg #[.int .i64 n,.int .i64 m,.slice xp xn xc],.nilIface])∧R n m xp xn xc w'∧Blk w' (w.heap.size+1) [(0:Int),(0:Int),()] 62) :
 Calls prog 51 #[kb,pb,.agg #[kd,a,b,s,(lp,ln,lc),(dp,dn,dc)]] w λe w'=>∃(n m:Int) (xp:Option Addr) (xn xc:Nat) (w0:World),e=.returned (.tuple #[.agg #[.int .i64 n,.int .i64 m,.slice xp xn xc],.nilIface])∧R n m xp xn xc w0∧Keep (λx=>x=w.heap.size+1) w0 w':=by
 have e0:=VV;have e1:=VW;have en:=VX;obtain⟨HK,HB,HY⟩:=hbox kd a b s lp dp ln lc dn dc w _ rfl;have HH:=xh hH;have HC:=xh hC;clear hH hC;go_enter func51,ntmps51
 go_wp2_with (first
  | (go_at_call 88;((with_reducible refine aH (HH.o _) ?_);rintro e w2 ⟨rfl,rfl⟩))
  | ((with_reducible refine aH (HC.o _ HK.out (by simp) HB.out) ?_);rintro e w3 ⟨n,m,xp,xn,xc,rfl,r3,h3⟩;have H3:=xh (And.intro r3 h3);have x0:=h3.cell 0;have x1:=h3.cell 1;have x2:=h3.cell 2;have xf:=h3.frozen;have xl:=h3.lt;clear r3 h3))
 (try simp only[Exit.inBlock,Exit.then])
 exact gV (q:=w.heap.size+1) rfl rfl ((((H3.o.2.setCell (o:=0) _).setCell (o:=1) _).setCell (o:=2) _).alloc _) rfl ⟨n,m,xp,xn,xc,w3,rfl,H3.o.1,(((Keep.setCell _ _ _ _).tr (Keep.setCell _ _ _ _)).tr (Keep.setCell _ _ _ _)).tr (Keep.of_bel _ (Bel.start _ _))⟩
theorem VY(kb pb:Nat)(F G:Nat)(kd a b:Int)(s:ByteArray)(lp dp:Option Addr)(ln lc dn dc:Nat)(w:World)(hcf:∀(args:Array Value) (W:World),(callFunc F args).run prog W=.ok (.enter F args) W)(R:Int→Int→Option Addr→Nat→Nat→World→Prop)
 (hH:∀W,Calls prog 88 #[kd] W λe w'=>e=.returned (.func (.func F) #[] #[W.heap.size])∧w'.cell? (W.heap.size,0)=some (.func (.func G) #[] #[])∧W.heap.size<w'.heap.size∧Bel W w')
 (hC:∀W,Bel w W→w.heap.size+2≤W.heap.size→Blk W (w.heap.size+1) [(0:Int),(0:Int),()] 62→∀q,w.heap.size≤q→W.cell? (q,0)=some (.func (.func G) #[] #[])→Calls prog F #[kb,pb,.agg #[kd,a,b,s,(lp,ln,lc),(dp,dn,dc)],q] W λe w'=>∃(n m:Int) (xp:Option Addr) (xn xc:Nat),e=.returned (.tuple #[.agg #[.int .i64 n,.int .i64 m,.slice xp xn xc],.nilIface])∧R n m xp xn xc w'∧Blk w' (w.heap.size+1) [(0:Int),(0:Int),()] 62) :
 Calls prog 51 #[kb,pb,.agg #[kd,a,b,s,(lp,ln,lc),(dp,dn,dc)]] w λe w'=>∃(n m:Int) (xp:Option Addr) (xn xc:Nat) (w0:World),e=.returned (.tuple #[.agg #[.int .i64 n,.int .i64 m,.slice xp xn xc],.nilIface])∧R n m xp xn xc w0∧Keep (λx=>x=w.heap.size+1) w0 w':=by
 have e0:=VV;have e1:=VW;have en:=VX;obtain⟨HK,HB,HY⟩:=hbox kd a b s lp dp ln lc dn dc w _ rfl;have HH:=xh hH;have HC:=xh hC;clear hH hC;go_enter func51,ntmps51
 go_wp2_with (first
  | (go_at_call 88;((with_reducible refine aH (HH.o _) ?_);rintro e w2 ⟨rfl,q2,z2,k3⟩;have H2:=xh (And.intro (HK.out.tr k3) (And.intro (HB.out.bel k3) (And.intro q2 (And.intro z2 k3))));have y0:=af k3 HY.out.1;have y1:=af k3 HY.out.2.1;have y2:=af k3 HY.out.2.2.1;have y3:=af k3 HY.out.2.2.2.1;have y4:=af k3 HY.out.2.2.2.2.1;have y5:=af k3 HY.out.2.2.2.2.2;clear q2 z2 k3))
  | ((with_reducible refine aH (HC.o _ H2.o.1 (by have:=H2.o.2.2.2.1;simp at this;omega) H2.o.2.1 (w.heap.size+1+1) (by omega) (by simpa using H2.o.2.2.1)) ?_);rintro e w3 ⟨n,m,xp,xn,xc,rfl,r3,h3⟩;have H3:=xh (And.intro r3 h3);have x0:=h3.cell 0;have x1:=h3.cell 1;have x2:=h3.cell 2;have xf:=h3.frozen;have xl:=h3.lt;clear r3 h3))
 (try simp only[Exit.inBlock,Exit.then])
 exact gV (q:=w.heap.size+1) rfl rfl ((((H3.o.2.setCell (o:=0) _).setCell (o:=1) _).setCell (o:=2) _).alloc _) rfl ⟨n,m,xp,xn,xc,w3,rfl,H3.o.1,(((Keep.setCell _ _ _ _).tr (Keep.setCell _ _ _ _)).tr (Keep.setCell _ _ _ _)).tr (Keep.of_bel _ (Bel.start _ _))⟩
theorem I5(n m:Int):prog.built 228 [(0,.int .i64 n),(1,.int .i64 m)]=some #[.int .i64 n,.int .i64 m]:=by kernel_rfl
theorem abR(kb pb:Nat)(F:Nat)(kd a b:Int)(s:ByteArray)(lp dp:Option Addr)(ln lc dn dc:Nat)(w:World)(hcf:∀(args:Array Value) (W:World),(callFunc F args).run prog W=.ok (.enter F args) W)(pid:Int)(f:Int)(R:World→Prop)(hg:∀W,R W→ErrVar W)(hpl:pb<w.heap.size)(hp:∀W,R W→W.cell? (pb,18)=some (.int .i64 pid))
 (hH:∀W,Calls prog 88 #[kd] W (Z.e (.func (.func F) #[] #[]) W))
 (hC:∀W,Bel w W→w.heap.size+2≤W.heap.size→Blk W (w.heap.size+1) [(0:Int),(0:Int),()] 62→Calls prog F #[kb,pb,.agg #[kd,a,b,s,(lp,ln,lc),(dp,dn,dc)]] W λe w'=>∃(n m:Int) (xp:Option Addr) (xn xc:Nat),e=.returned (.tuple #[.agg #[.int .i64 n,.int .i64 m,.slice xp xn xc],.iface 48 (.int .i64 f)])∧R w'∧Blk w' (w.heap.size+1) [(0:Int),(0:Int),()] 62) :
 Calls prog 51 #[kb,pb,.agg #[kd,a,b,s,(lp,ln,lc),(dp,dn,dc)]] w λe w'=>∃(c:Nat) (w0:World),e=.returned (.tuple #[.agg #[(0:Int),(0:Int),()],.iface 226 (.pointer (c,0))])∧Blk w' c [pid,f] 228∧R w0∧Keep (λx=>x=w.heap.size+1) w0 w'∧w.heap.size≤c:=by
 have e0:=VV;have e1:=VW;have en:=VX;obtain⟨HK,HB,HY⟩:=hbox kd a b s lp dp ln lc dn dc w _ rfl;have HH:=xh hH;have HC:=xh hC;have HG:=xh hg;have HP:=xh hp;have b0:=fE;have bce:=I5;clear hH hC hg hp;go_enter func51,ntmps51
 go_upto_region 6 with(first
  | (go_at_call 88;((with_reducible refine aH (HH.o _) ?_);rintro e w2 ⟨rfl,rfl⟩))
  | ((with_reducible refine aH (HC.o _ HK.out (by simp) HB.out) ?_);rintro e w3 ⟨n,m,xp,xn,xc,rfl,r3,h3⟩;have H3:=xh (And.intro r3 h3);have x0:=h3.cell 0;have x1:=h3.cell 1;have x2:=h3.cell 2;have xf:=h3.frozen;have xl:=h3.lt;clear r3 h3))
 have B4:=H3.o.2.alloc (.cells #[.int .i64 n,.int .i64 m,.slice xp xn xc] 62);have k4:Bel w3 (w3.alloc (.cells #[.int .i64 n,.int .i64 m,.slice xp xn xc] 62)):=Bel.start w3 _;generalize w3.alloc (.cells #[.int .i64 n,.int .i64 m,.slice xp xn xc] 62)=w4 at *
 have g4:ErrVar w4.drew:=((HG.o _ H3.o.1).bel k4).bel (Bel.drew (Bel.refl _));have p4:w4.cell? (pb,18)=some (.int .i64 pid):=af k4 (HP.o _ H3.o.1);have HT:=xh (And.intro g4 (And.intro (B4.bel (Bel.drew (Bel.refl _))) (k4.tr (Bel.drew (Bel.refl _)))));clear x0 x1 x2 xf xl B4 k4 g4;have P4:Hid (w4.drew.cell? (pb,18)=some (.int .i64 pid)):=xh (af (Bel.drew (Bel.refl _)) p4);have hne:w.heap.size+1≠pb:=by omega
 go_region_held3 (λw'=>w'.cell? ⟨pb,18,none⟩=some (.int .i64 pid)) (first|(go_keep;done)|assumption|exact P4.o) ((go_at_call 14;((with_reducible refine aH (xU f _ HT.o.1) ?_);rintro e w5 ⟨rfl,k5⟩;have H5:=xh k5;have B5:=xh (HT.o.2.1.bel k5);have p5:=af k5 P4.o;have x0:=B5.o.cell 0;have x1:=B5.o.cell 1;have x2:=B5.o.cell 2;have xf:=B5.o.frozen;have xl:=B5.o.lt;clear k5)))
 all_goals
  go_wp2_with fail
  (try simp only[Exit.inBlock,Exit.then])
  exact gV (q:=w.heap.size+1) rfl rfl ((((B5.o.setCell (o:=0) _).setCell (o:=1) _).setCell (o:=2) _).alloc _) rfl ⟨w5.heap.size,w3,rfl,Blk.dF _ [pid,f] _ (by simp),H3.o.1,(Keep.of_bel _ (HT.o.2.2.tr H5.o)).tr ((((Keep.setCell _ _ _ _).tr (Keep.setCell _ _ _ _)).tr (Keep.setCell _ _ _ _)).tr (Keep.of_bel _ (Bel.start _ _))),by have h1:=H3.o.2.lt;have h2:=(HT.o.2.2.tr H5.o).size;omega⟩
theorem Ph(kb pb:Nat)(F G:Nat)(kd a b:Int)(s:ByteArray)(lp dp:Option Addr)(ln lc dn dc:Nat)(w:World)(hcf:∀(args:Array Value) (W:World),(callFunc F args).run prog W=.ok (.enter F args) W)(pid:Int)(f:Int)(R:World→Prop)(hg:∀W,R W→ErrVar W)(hpl:pb<w.heap.size)(hp:∀W,R W→W.cell? (pb,18)=some (.int .i64 pid))
 (hH:∀W,Calls prog 88 #[kd] W λe w'=>e=.returned (.func (.func F) #[] #[W.heap.size])∧w'.cell? (W.heap.size,0)=some (.func (.func G) #[] #[])∧W.heap.size<w'.heap.size∧Bel W w')
 (hC:∀W,Bel w W→w.heap.size+2≤W.heap.size→Blk W (w.heap.size+1) [(0:Int),(0:Int),()] 62→∀q,w.heap.size≤q→W.cell? (q,0)=some (.func (.func G) #[] #[])→Calls prog F #[kb,pb,.agg #[kd,a,b,s,(lp,ln,lc),(dp,dn,dc)],q] W λe w'=>∃(n m:Int) (xp:Option Addr) (xn xc:Nat),e=.returned (.tuple #[.agg #[.int .i64 n,.int .i64 m,.slice xp xn xc],.iface 48 (.int .i64 f)])∧R w'∧Blk w' (w.heap.size+1) [(0:Int),(0:Int),()] 62) :
 Calls prog 51 #[kb,pb,.agg #[kd,a,b,s,(lp,ln,lc),(dp,dn,dc)]] w λe w'=>∃(c:Nat) (w0:World),e=.returned (.tuple #[.agg #[(0:Int),(0:Int),()],.iface 226 (.pointer (c,0))])∧Blk w' c [pid,f] 228∧R w0∧Keep (λx=>x=w.heap.size+1) w0 w'∧w.heap.size≤c:=by
 have e0:=VV;have e1:=VW;have en:=VX;obtain⟨HK,HB,HY⟩:=hbox kd a b s lp dp ln lc dn dc w _ rfl;have HH:=xh hH;have HC:=xh hC;have HG:=xh hg;have HP:=xh hp;have b0:=fE;have bce:=I5;clear hH hC hg hp;go_enter func51,ntmps51
 go_upto_region 6 with(first
  | (go_at_call 88;((with_reducible refine aH (HH.o _) ?_);rintro e w2 ⟨rfl,q2,z2,k3⟩;have H2:=xh (And.intro (HK.out.tr k3) (And.intro (HB.out.bel k3) (And.intro q2 (And.intro z2 k3))));have y0:=af k3 HY.out.1;have y1:=af k3 HY.out.2.1;have y2:=af k3 HY.out.2.2.1;have y3:=af k3 HY.out.2.2.2.1;have y4:=af k3 HY.out.2.2.2.2.1;have y5:=af k3 HY.out.2.2.2.2.2;clear q2 z2 k3))
  | ((with_reducible refine aH (HC.o _ H2.o.1 (by have:=H2.o.2.2.2.1;simp at this;omega) H2.o.2.1 (w.heap.size+1+1) (by omega) (by simpa using H2.o.2.2.1)) ?_);rintro e w3 ⟨n,m,xp,xn,xc,rfl,r3,h3⟩;have H3:=xh (And.intro r3 h3);have x0:=h3.cell 0;have x1:=h3.cell 1;have x2:=h3.cell 2;have xf:=h3.frozen;have xl:=h3.lt;clear r3 h3))
 have B4:=H3.o.2.alloc (.cells #[.int .i64 n,.int .i64 m,.slice xp xn xc] 62);have k4:Bel w3 (w3.alloc (.cells #[.int .i64 n,.int .i64 m,.slice xp xn xc] 62)):=Bel.start w3 _;generalize w3.alloc (.cells #[.int .i64 n,.int .i64 m,.slice xp xn xc] 62)=w4 at *
 have g4:ErrVar w4.drew:=((HG.o _ H3.o.1).bel k4).bel (Bel.drew (Bel.refl _));have p4:w4.cell? (pb,18)=some (.int .i64 pid):=af k4 (HP.o _ H3.o.1);have HT:=xh (And.intro g4 (And.intro (B4.bel (Bel.drew (Bel.refl _))) (k4.tr (Bel.drew (Bel.refl _)))));clear x0 x1 x2 xf xl B4 k4 g4 y0 y1 y2 y3 y4 y5;have P4:Hid (w4.drew.cell? (pb,18)=some (.int .i64 pid)):=xh (af (Bel.drew (Bel.refl _)) p4);have hne:w.heap.size+1≠pb:=by omega
 go_region_held3 (λw'=>w'.cell? ⟨pb,18,none⟩=some (.int .i64 pid)) (first|(go_keep;done)|assumption|exact P4.o) ((go_at_call 14;((with_reducible refine aH (xU f _ HT.o.1) ?_);rintro e w5 ⟨rfl,k5⟩;have H5:=xh k5;have B5:=xh (HT.o.2.1.bel k5);have p5:=af k5 P4.o;have x0:=B5.o.cell 0;have x1:=B5.o.cell 1;have x2:=B5.o.cell 2;have xf:=B5.o.frozen;have xl:=B5.o.lt;clear k5)))
 all_goals
  go_wp2_with fail
  (try simp only[Exit.inBlock,Exit.then])
  exact gV (q:=w.heap.size+1) rfl rfl ((((B5.o.setCell (o:=0) _).setCell (o:=1) _).setCell (o:=2) _).alloc _) rfl ⟨w5.heap.size,w3,rfl,Blk.dF _ [pid,f] _ (by simp),H3.o.1,(Keep.of_bel _ (HT.o.2.2.tr H5.o)).tr ((((Keep.setCell _ _ _ _).tr (Keep.setCell _ _ _ _)).tr (Keep.setCell _ _ _ _)).tr (Keep.of_bel _ (Bel.start _ _))),by have h1:=H3.o.2.lt;have h2:=(HT.o.2.2.tr H5.o).size;omega⟩
theorem MG(kb pm:Nat)(kv:List (Int×Value))(pid:Int)(w:World)(zK : -9223372036854775808≤pid∧pid≤9223372036854775807)(c5:w.cell? (kb,5)=some (.map (some pm)))(hp:Mp kM w pm kv)(hg:bQ kv pid=none) :
 Calls prog 41 #[kb,pid] w (Z.e (.tuple #[.pointer none,.iface 48 (.int .i64 18)]) w):=by
 have hlk:(Instr.lookup 103 (.map (some pm)) (.int .i64 pid) false).run prog w=.ok (.pointer none) w:=by
  have h1:=hp.lookup iJ underlying103 pid (WalkArith.wf_i64 zK) false (rD w);simp only[Bool.false_eq_true,if_false]at h1
  rw[hg]at h1;exact h1
 clear hp hg;go_enter func41,ntmps41;go_wp2_with fail
 go_ret2
 exact⟨rfl,rfl⟩
theorem ZE(kb:Nat)(pid er:Int)(kd a b:Int)(s:ByteArray)(lp dp:Option Addr)(ln lc dn dc:Nat)(w:World)
 (hr:∀W,Bel w W→Calls prog 41 #[kb,pid] W (Z.e (.tuple #[.pointer none,.iface 48 (.int .i64 er)]) W)) :
 Calls prog 30 #[kb,pid,.agg #[kd,a,b,s,(lp,ln,lc),(dp,dn,dc)]] w (Z.b (.tuple #[.agg #[(0:Int),(0:Int),()],.iface 48 (.int .i64 er)]) w):=by
 have b0:=fE;obtain⟨HK,HB,HY⟩:=hbox kd a b s lp dp ln lc dn dc w _ rfl;have HR:=xh hr;clear hr;go_enter func30,ntmps30;go_wp2_with (go_at_call 41;((with_reducible refine aH (HR.o _ HK.out) ?_);rintro e w2 ⟨rfl,rfl⟩))
 (try simp only[Exit.inBlock,Exit.then])
 refine gV (q:=w.heap.size+1) (n:=0) (m:=0) (dp:=none) (dn:=0) (dc:=0) rfl rfl ?_ rfl ⟨rfl,HK.out⟩;exact HB.out
theorem VZ(kb pb:Nat)(pid:Int)(kd a b:Int)(s:ByteArray)(lp dp:Option Addr)(ln lc dn dc:Nat)(w:World)(R:Int→Int→Option Addr→Nat→Nat→Value→World→Prop)
 (hr:∀W,Bel w W→Calls prog 41 #[kb,pid] W (Z.e (.tuple #[pb,.nilIface]) W))
 (hD:∀W,Bel w W→w.heap.size+2≤W.heap.size→Blk W (w.heap.size+1) [(0:Int),(0:Int),()] 62→Calls prog 51 #[kb,pb,.agg #[kd,a,b,s,(lp,ln,lc),(dp,dn,dc)]] W λe w'=>∃(n m:Int) (xp:Option Addr) (xn xc:Nat) (ev:Value),e=.returned (.tuple #[.agg #[.int .i64 n,.int .i64 m,.slice xp xn xc],ev])∧R n m xp xn xc ev w'∧Blk w' (w.heap.size+1) [(0:Int),(0:Int),()] 62) :
 Calls prog 30 #[kb,pid,.agg #[kd,a,b,s,(lp,ln,lc),(dp,dn,dc)]] w λe w'=>∃(n m:Int) (xp:Option Addr) (xn xc:Nat) (ev:Value) (w0:World),e=.returned (.tuple #[.agg #[.int .i64 n,.int .i64 m,.slice xp xn xc],ev])∧R n m xp xn xc ev w0∧Keep (λx=>x=w.heap.size+1) w0 w':=by
 have b0:=fE;obtain⟨HK,HB,HY⟩:=hbox kd a b s lp dp ln lc dn dc w _ rfl;have HR:=xh hr;have HD:=xh (hD _ HK.out (by simp) HB.out);clear hr hD;go_enter func30,ntmps30
 go_wp2_with (first
  | (go_at_call 41;((with_reducible refine aH (HR.o _ HK.out) ?_);rintro e w2 ⟨rfl,rfl⟩))
  | (go_at_call 51;((with_reducible refine aH HD.o ?_);rintro e w3 ⟨n,m,xp,xn,xc,ev,rfl,r3,h3⟩;have H3:=xh (And.intro r3 h3);have x0:=h3.cell 0;have x1:=h3.cell 1;have x2:=h3.cell 2;have xf:=h3.frozen;have xl:=h3.lt;clear r3 h3)))
 (try simp only[Exit.inBlock,Exit.then])
 exact gV (q:=w.heap.size+1) rfl rfl (((H3.o.2.setCell (o:=0) _).setCell (o:=1) _).setCell (o:=2) _) rfl ⟨n,m,xp,xn,xc,ev,w3,rfl,H3.o.1,((Keep.setCell _ _ _ _).tr (Keep.setCell _ _ _ _)).tr (Keep.setCell _ _ _ _)⟩
theorem Gv(tk kb:Nat)(pid:Int)(kd a b:Int)(s:ByteArray)(lp dp:Option Addr)(ln lc dn dc:Nat)(w:World)(R:Int→Int→Option Addr→Nat→Nat→Value→World→Prop)(ht:w.cell? (tk,0)=some (.pointer (kb,0)))
 (hD:∀W,Bel w W→w.heap.size+2≤W.heap.size→Blk W (w.heap.size+1) [(0:Int),(0:Int),()] 62→Blk W w.heap.size [kd,a,b,s,(lp,ln,lc),(dp,dn,dc)] 68→Calls prog 30 #[kb,pid,.agg #[kd,a,b,s,(lp,ln,lc),(dp,dn,dc)]] W λe w'=>∃(n m:Int) (xp:Option Addr) (xn xc:Nat) (ev:Value),e=.returned (.tuple #[.agg #[.int .i64 n,.int .i64 m,.slice xp xn xc],ev])∧R n m xp xn xc ev w'∧w'.cell? (tk,0)=some (.pointer (kb,0))∧Blk w' w.heap.size [kd,a,b,s,(lp,ln,lc),(dp,dn,dc)] 68∧Blk w' (w.heap.size+1) [(0:Int),(0:Int),()] 62) :
 Calls prog 18 #[tk,pid,.agg #[kd,a,b,s,(lp,ln,lc),(dp,dn,dc)]] w λe w'=>∃(n m:Int) (xp:Option Addr) (xn xc:Nat) (ev:Value) (w0:World),e=.returned (.tuple #[.agg #[.int .i64 n,.int .i64 m,.slice xp xn xc],ev])∧R n m xp xn xc ev w0∧Keep (λx=>x=w.heap.size+1) w0 w':=by
 have b0:=fE;obtain⟨HK,HB,HY⟩:=hbox kd a b s lp dp ln lc dn dc w _ rfl;have QY:Bel w ((w.alloc (.cells #[kd,a,b,s,(lp,ln,lc),(dp,dn,dc)] 68)).alloc (.cells #[(0:Int),(0:Int),()] 62)).drew:=HK.out.tr (Bel.drew (Bel.refl _));have BY:Blk ((w.alloc (.cells #[kd,a,b,s,(lp,ln,lc),(dp,dn,dc)] 68)).alloc (.cells #[(0:Int),(0:Int),()] 62)) w.heap.size [kd,a,b,s,(lp,ln,lc),(dp,dn,dc)] 68:=(Blk.new w _ _).alloc _;have HD:=xh (hD _ QY (by simp) (HB.out.bel (Bel.drew (Bel.refl _))) (BY.bel (Bel.drew (Bel.refl _))));have y0:=BY.cell 0;have y1:=BY.cell 1;have y2:=BY.cell 2;have y3:=BY.cell 3;have y4:=BY.cell 4;have y5:=BY.cell 5;have t2:=af HK.out ht;have htl:tk<w.heap.size:=by have:=World.block_lt_of_cell? _ _ ht;simpa using this
 have ht1:w.heap.size+1≠tk:=by omega
 clear QY hD BY ht;go_enter func18,ntmps18;go_upto_region 1 with fail
 go_region_held3 (λw'=>w'.cell? ⟨tk,0,none⟩=some (.pointer (kb,0))∧w'.cell? ⟨w.heap.size,0,none⟩=some (.int .i64 kd)∧w'.cell? ⟨w.heap.size,1,none⟩=some (.int .i64 a)∧w'.cell? ⟨w.heap.size,2,none⟩=some (.int .i64 b)∧w'.cell? ⟨w.heap.size,3,none⟩=some (.string s)∧w'.cell? ⟨w.heap.size,4,none⟩=some (.slice lp ln lc)∧w'.cell? ⟨w.heap.size,5,none⟩=some (.slice dp dn dc)) (first|(go_keep;done)|exact⟨t2,y0,y1,y2,y3,y4,y5⟩) ((go_at_call 30;((with_reducible refine aH HD.o ?_);rintro e w3 ⟨n,m,xp,xn,xc,ev,rfl,r3,h1,h2,h3⟩;have H3:=xh (And.intro r3 h3);have z0:=h2.cell 0;have z1:=h2.cell 1;have z2:=h2.cell 2;have z3:=h2.cell 3;have z4:=h2.cell 4;have z5:=h2.cell 5;have x0:=h3.cell 0;have x1:=h3.cell 1;have x2:=h3.cell 2;have xf:=h3.frozen;have xl:=h3.lt;clear r3 h3 h2)))
 all_goals
  go_wp2_with fail
  (try simp only[Exit.inBlock,Exit.then])
  exact gV (q:=w.heap.size+1) rfl rfl (((H3.o.2.setCell (o:=0) _).setCell (o:=1) _).setCell (o:=2) _) rfl ⟨n,m,xp,xn,xc,ev,w3,rfl,H3.o.1,((Keep.setCell _ _ _ _).tr (Keep.setCell _ _ _ _)).tr (Keep.setCell _ _ _ _)⟩
theorem QZ(kb cb:Nat)(h ty:Value)(p:Option Addr)(n c:Nat)(w:World)(h8:w.cell? (kb,8)=some (.pointer (cb,0)))(hkc:kb≠cb)(hb:Blk w cb [h,ty,(p,n,c)] 151) :
 Calls prog 115 #[kb] w λe w'=>e=.returned (.slice p n c)∧Blk w' cb [h,ty,()] 151∧Keep (λq=>q=cb) w w':=by
 have c2:=hb.c 2 rfl;have f2:=hb.frozen;have hl:=hb.lt;have HB:=xh hb;clear hb;go_enter func115,ntmps115;go_wp2
 go_ret
 exact⟨rfl,HB.o.setCell (o:=2) _,Keep.setCell _ _ _ _⟩
theorem Q3(tk kb:Nat)(Q:Value→World→Prop)(w:World)(ht:w.cell? (tk,0)=some (.pointer (kb,0)))
 (hk:Calls prog 115 #[kb] w λe w'=>∃v,e=.returned v∧Q v w') :
 Calls prog 67 #[tk] w λe w'=>∃v,e=.returned v∧Q v w':=by
 have HK:=xh hk;clear hk;go_enter func67,ntmps67;go_wp2_with (go_at_call 115;((with_reducible refine aH HK.o ?_);rintro e w2 ⟨v,rfl,k2⟩;have H2:=xh k2;clear k2))
 go_ret
 exact⟨v,rfl,H2.o⟩
theorem Q4(tk kb:Nat)(Q:World→Prop)(w:World)(ht:w.cell? (tk,0)=some (.pointer (kb,0)))
 (hk:Calls prog 36 #[kb] w λe w'=>e=.returned (.tuple #[])∧Q w') :
 Calls prog 24 #[tk] w λe w'=>e=.returned (.tuple #[])∧Q w':=by
 have HK:=xh hk;clear hk;go_enter func24,ntmps24;go_wp2_with (go_at_call 36;((with_reducible refine aH HK.o ?_);rintro e w2 ⟨rfl,k2⟩;have H2:=xh k2;clear k2))
 go_end0
 exact⟨rfl,H2.o⟩
theorem Q5(tk kb:Nat)(p:Option Addr)(n c:Nat)(Q:World→Prop)(w:World)(ht:w.cell? (tk,0)=some (.pointer (kb,0)))
 (hk:Calls prog 37 #[kb,(p,n,c)] w λe w'=>e=.returned (.tuple #[])∧Q w') :
 Calls prog 25 #[tk,(p,n,c)] w λe w'=>e=.returned (.tuple #[])∧Q w':=by
 have HK:=xh hk;clear hk;go_enter func25,ntmps25;go_wp2_with (go_at_call 37;((with_reducible refine aH HK.o ?_);rintro e w2 ⟨rfl,k2⟩;have H2:=xh k2;clear k2))
 go_end0
 exact⟨rfl,H2.o⟩
theorem Q7(kb:Nat)(now:Int)(p:Option Addr)(c:Nat)(ks:List Value)(w:World)(hb:Blk w kb ks 111)(h10:ks[10]?=some (.int .i64 now))(h11:ks[11]?=some (.slice p 0 c)) :
 Calls prog 36 #[kb] w λe w'=>e=.returned (.tuple #[])∧∃now',Blk w' kb (ks.set 10 (.int .i64 now')) 111∧Keep (λq=>q=kb) w w':=by
 have c10:w.cell? (kb,10)=some (.int .i64 now):=by rw[hb.cell];exact h10
 have c11:w.cell? (kb,11)=some (.slice p 0 c):=by rw[hb.cell];exact h11
 have f0:=hb.frozen;have hl:=hb.lt;obtain⟨now',hw⟩:=e_x (IntKind.i64.wrap (now+1));have B1:=hb.setCell (o:=10) (.int .i64 now');have HB:=xh B1;have d11:(w.setCell (kb,10) (.int .i64 now')).cell? (kb,11)=some (.slice p 0 c):=by
  rw[World.cell?_setCell_other _ _ _ _ (by simp)];exact c11
 clear hb B1 h10 h11;go_enter func36,ntmps36;go_wp2_with fail
 go_loopw [] (λwr=>wr=w.setCell (kb,10) (.int .i64 now')) (λ_=>0)
 case atStart=>rfl
 case round=>
  have e11:wr.cell? (kb,11)=some (.slice p 0 c):=by rw[hrel];exact d11
  have HE:=xh hrel;clear hrel d11 c10 c11;go_wp2_with fail
  go_quiet (fail)
  go_wp2_with fail
  go_end0
  have HE2:=HE.o;subst HE2;exact⟨rfl,now',HB.o.bel (aj (Bel.refl _) _),(Keep.setCell _ _ _ _).tr (Keep.of_bel _ (aj (Bel.refl _) _))⟩
end
section
open Go.Proofs.Tryz Go.RowKit Go.Maps
section
variable {P:Program} {w:World}
theorem xM{ops:Array Oper}{o:Oper}{a:Act}{K:Act→World→Prop}{Q:Exit→Act→World→Prop}{E:Prop}(hgd:o.guard=none)(s x:Operand)(t tx:TypeId)
 (ho:o.op=.call {callee:=.builtin .append,args:= #[s,x],argTypes:= #[t,tx]})(i:TypeInfo)(z:Value)(ht:P.underlying t=some (.slice 5))(hi:P.info? 5=some i)(hz:i.zero=some z)(hs:i.size=1)(hb:i.bytes=1)(hzc:z.cells = #[.int .u8 0])
 (v xv:Value)(L M:List Int)(hsv:a.eval s=v)(hxv:a.eval x=xv)(hv:Buf w v L)(hM:∀y∈M,iR y)(hx:Src P 1 tx xv M.length (M.map (Value.int .u8)) w)(hlen:L.length+M.length≤100000000)
 (h:∀v' w',Buf w' v' (L++M)→qf w w' v (endOf v)→(∀g,aU v'=some g→aU v=some g∨w.heap.size≤g)→(∀p,v=.slice p L.length L.length→Bel w w')→(∀g,aU v'=some g→aU v=some g→∀j,endOf v j→endOf v' j)→K (a.put o.dst v') w'):if Region.wanted o (yielded ops a.tmps)=true then Oper.wp P o a w K Q else E:=by
 have hw:Region.wanted o (yielded ops a.tmps)=true:=by simp[Region.wanted,hgd]
 rw[if_pos hw];obtain⟨v',w',hrun,h1,h2,h3,h4,h5⟩:=qC (P:=P) (w:=w) t tx o.type i z ht hi hz hs hb hzc v xv L M hv hM hx hlen;unfold Oper.wp;simp[execOp,ho,resolve,invoke,builtin,hsv,hxv,hrun,Result.andThen]
 exact h v' w' h1 h2 h3 h4 h5
end
theorem Dz{w:World}{ops:Array Oper}{o:Oper}{a:Act}{K:Act→World→Prop}{Q:Exit→Act→World→Prop}{E:Prop}(hgd:o.guard=none)(s x:Operand)(ho:o.op=.call {callee:=.builtin .append,args:= #[s,x],argTypes:= #[59,59]})
 (v:Value)(p:Option Addr)(cap:Nat)(L M:List Int)(hsv:a.eval s=v)(hxv:a.eval x=.slice p M.length cap)(hv:Buf w v L)(hx:zQ w p M)(hlen:L.length+M.length≤100000000)
 (h:∀v' w',Buf w' v' (L++M)→qf w w' v (endOf v)→(∀g,aU v'=some g→aU v=some g∨w.heap.size≤g)→(∀p,v=.slice p L.length L.length→Bel w w')→(∀g,aU v'=some g→aU v=some g→∀j,endOf v j→endOf v' j)→K (a.put o.dst v') w'):if Region.wanted o (yielded ops a.tmps)=true then Oper.wp prog o a w K Q else E:=by
 obtain⟨i,hi,h1,h2,h3⟩:=FX;exact xM hgd s x _ _ ho i _ underlying59 hi h3 h1 h2 rfl v _ L M hsv hxv hv hx.1 (Zi underlying59 hx) hlen h
theorem Q8(kb cb:Nat)(h out v:Value)(L M:List Int)(p:Option Addr)(c:Nat)(w:World)(h8:w.cell? (kb,8)=some (.pointer (cb,0)))(hkc:cb≠kb)(hb:Blk w cb [h,v,out] 151)(hv:Buf w v L)(hM:zQ w p M)(hlen:L.length+M.length≤100000000)(hkv:∀g,aU v=some g→g≠kb) :
 Calls prog 37 #[kb,(p,M.length,c)] w λe w'=>e=.returned (.tuple #[])∧∃v' wa,Blk w' cb [h,v',out] 151∧Buf w' v' (L++M)∧qf w.drew wa v (endOf v)∧Keep (λq=>q=cb) wa w'∧(∀g,aU v'=some g→aU v=some g∨w.heap.size≤g)∧(∀g,aU v'=some g→aU v=some g→∀j,endOf v j→endOf v' j):=by
 obtain⟨q,cap,rfl,hlc,hcm⟩:=hv.slice;have c1:=hb.c 1 rfl;have hcl:=hb.lt;have kd:=Bel.drew (Bel.refl w);have HB:=xh (hb.bel kd);have HV:=xh (hv.bel kd);have HM:=xh (hM.bel kd);have HL:=xh hlen;have H8:=xh (af kd h8);have QW:=xh hkv;have HN:Hid (∀g,aU (.slice q L.length cap)=some g→g≠cb):=xh (hv.ne hb (by decide));have hkl:=World.block_lt_of_cell? _ _ h8;have HKL:=xh hkl;clear hb hv hM hlen hlc hcm hkv hkl kd;go_enter func37,ntmps37;go_upto_region 0 with fail
 refine wp_region_noPanic ?_;refine wp_region_held_drew (S:=λw'=>w'.cell? ⟨kb,8,none⟩=some (.pointer (cb,0))) (by kernel_rfl) H8.o (λhHeld=>?_);refine plan [0,1,2,3,4,5,6,7,8,9,11] ?_;repeat refine t0 rfl (by kernel_rfl) (by intro w hw;(try dsimp only at hw);go_simp;with_reducible rfl) (by assumption) (by(try simp only[Act.put,lits]);exact rfl) ?_
 refine iI ?_;refine rd 10 rfl (by kernel_rfl) (λK hK=>?_);go_simp;refine hK.out _ _ (by(first|(go_keep;done)|assumption|exact H8.o)) (λhH=>?_);clear hK K;(try simp only[Act.put,lits])
 refine rd 12 rfl (by kernel_rfl) (λK hK=>?_);refine Dz rfl (.tmp 14) (.tmp 15) rfl (.slice q L.length cap) p c L M rfl rfl HV.o HM.o HL.o ?_;intro v' wa h1 h2 h3 h4 h5;obtain⟨pa,la,xW,rfl⟩:∃pa la xW,v'=.slice pa la xW:=(let ⟨pa,xW,e,_⟩:=h1.slice;⟨pa,_,xW,e⟩);have HBA:Hid (Blk wa cb [h,.slice q L.length cap,out] 151):=xh (HB.o.keep h2.keep λe=>HN.o _ e rfl);have ca:=HBA.o.cell 1;have fa:=HBA.o.frozen;have la8:wa.cell? (kb,8)=some (.pointer (cb,0)):=((h2.keep.cell ⟨kb,8,none⟩ (by simpa using HKL.o) (λe=>QW.o _ e rfl)).trans H8.o);have HA:=xh (And.intro h1 (And.intro h2 (And.intro h3 h5)));clear h1 h2 h3 h4 h5;refine hK.out _ _ (by(first|(go_keep;done)|assumption|exact H8.o)) (λhH=>?_);clear hK K;(try simp only[Act.put,lits])
 refine plan [13,14] ?_;repeat refine t0 rfl (by kernel_rfl) (by intro w hw;(try dsimp only at hw);go_simp;with_reducible rfl) (by assumption) (by(try simp only[Act.put,lits]);exact rfl) ?_
 refine iI ?_;refine rd 15 rfl (by kernel_rfl) (λK hK=>?_);go_simp;refine hK.out _ _ (by(first|(go_keep;done)|assumption|exact H8.o)) (λhH=>?_);clear hK K;(try simp only[Act.put,lits])
 refine wpAnyH_done (by kernel_rfl) ?_ _;refine NoPanic.normal ?_
 go_end0
 exact⟨rfl,_,wa,HBA.o.setCell (o:=1) _,HA.o.1.keep (Keep.setCell _ _ _ _) (HA.o.1.ne HBA.o (by decide)),HA.o.2.1,Keep.setCell _ _ _ _,HA.o.2.2⟩
end
end Go.Proofs.YtcnjjchlebmfiaaGreatDoor
