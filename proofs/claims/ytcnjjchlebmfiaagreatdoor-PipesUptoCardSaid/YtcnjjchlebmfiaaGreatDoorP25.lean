/-.-/
import Derived.Test.YtcnjjchlebmfiaaGreatDoorP24
set_option linter.all false
set_option maxRecDepth 100000
set_option maxHeartbeats 16000000
namespace Go.Proofs.YtcnjjchlebmfiaaGreatDoor
section
open Go.Proofs.Tryz Go.RowKit Go.MapKept Go.Maps Go.Shelf
theorem RQ(kb pm pb:Nat)(kv:List (Int×Value))(pid:Int)(w:World)(MV : -9223372036854775808≤pid∧pid≤9223372036854775807)(c5:w.cell? (kb,5)=some (.map (some pm)))(hp:Mp nD w pm kv)(hg:dD kv pid=some (.pointer (pb,0)))(c20:w.cell? (pb,20)=some (.int .i64 0)) :
 Calls prog 41 #[kb,pid] w (Z.e (.tuple #[pb,.nilIface]) w):=by
 have hlk:(Instr.lookup 103 (.map (some pm)) (.int .i64 pid) false).run prog w=.ok (.pointer (pb,0)) w:=by
  have h1:=hp.lookup mM underlying103 pid (WalkArith.wf_i64 MV) false (yJ w);simp only[Bool.false_eq_true,if_false]at h1
  rw[hg]at h1;exact h1
 clear hp hg;go_enter func41,ntmps41;go_wp2_with fail
 go_ret2
 exact⟨rfl,rfl⟩
end
section
open Go.Proofs.Tryz Go.RowKit Go.MapKept Go.Maps
theorem kY.iZ{S:Nat→Prop}{w w':World}{p:Option Addr}{L:List Int}(h:kY w p L)(k:Keep S w w')(hs:∀g o,p=some ⟨g,o,none⟩→0<L.length→¬S g):kY w' p L:=⟨h.1,λh0=>by
 obtain⟨g,o,e,cs,hb,hc⟩:=h.2 h0;exact⟨g,o,e,cs,hb.keep k (hs g o e h0),hc⟩⟩
structure zD(E:PE)(s:St)(D:PD)(s':St)(n:Nat)(w:World)(D':PD)(w':World):Prop where
 pp:PP E w' s' D'
 kept:Keep (bJ E s D) w w'
 new:∀q,bJ E s' D' q→bJ E s D q∨n≤q
 old:∀q,bJ E s D q→q<w.heap.size
structure nP(E:PE)(s:St)(D:PD)(s':St)(n:Nat)(w:World)(N M:Int)(L:List Int)(N' M':Int)(p:Option Addr)(l c:Nat)(w':World):Prop where
 eN:N'=N
 eM:M'=M
 el:l=L.length
 st:∃D',zD E s D s' n w D' w'∧kY w' p L∧∀g o,p=some ⟨g,o,none⟩→0<L.length→bJ E s D g∧(ag D'.tv=some g→∀i,i<L.length→dV D'.tv (o+i))∧ag D'.uv≠some g
section
variable {E:PE} {s s':St} {D D':PD} {n n':Nat} {w w0 w' w'':World} {N M N' M':Int} {L:List Int} {p:Option Addr} {l c:Nat}
theorem zD.box(h:zD E s D s' n w D' w'){b:Nat}(k:Keep (λx=>x=b) w' w'')(hb:w.heap.size≤b)(hn:b<n):zD E s D s' n w D' w'':=
 ⟨h.pp.keep k λq hq e=>by
   have e:q=b:=e;rcases h.new q hq with h1|h1
   ·have:=h.old q h1;omega
   ·omega,h.kept.aY k λi hi=>.inr (by have hi:i=b:=hi;omega),h.new,h.old⟩
theorem zD.bel(h:zD E s D s' n w D' w')(k:Bel w0 w)(hp:PP E w0 s D)(hn:n'≤n):zD E s D s' n' w0 D' w':=
 ⟨h.pp,(Keep.of_bel _ k).tr h.kept,λq hq=>(h.new q hq).imp id λh=>aV hn h,λq hq=>hp.lt hq⟩
theorem nP.box(h:nP E s D s' n w N M L N' M' p l c w'){b:Nat}(k:Keep (λx=>x=b) w' w'')(hb:w.heap.size≤b)(hn:b<n):nP E s D s' n w N M L N' M' p l c w'':=by
 obtain⟨D',h1,h2,h3⟩:=h.st;exact⟨h.eN,h.eM,h.el,D',h1.box k hb hn,h2.iZ k (λg o e h0 e2=>by have e2:g=b:=e2;have:=h1.old g (h3 g o e h0).1;omega),h3⟩
theorem nP.bel(h:nP E s D s' n w N M L N' M' p l c w')(k:Bel w0 w)(hp:PP E w0 s D)(hn:n'≤n):nP E s D s' n' w0 N M L N' M' p l c w':=by
 obtain⟨D',h1,h2,h3⟩:=h.st;exact⟨h.eN,h.eM,h.el,D',h1.bel k hp hn,h2,h3⟩
theorem nP.kept(h:nP E s D s' n w N M L N' M' p l c w'):Keep (bJ E s D) w w':=by
 obtain⟨D',h1,_⟩:=h.st;exact h1.kept
theorem nP.weak(h:nP E s D s' n w N M L N' M' p l c w')(hn:n'≤n):nP E s D s' n' w N M L N' M' p l c w':=by
 obtain⟨D',h1,h2,h3⟩:=h.st;exact⟨h.eN,h.eM,h.el,D',⟨h1.pp,h1.kept,λq hq=>(h1.new q hq).imp id λh=>aV hn h,h1.old⟩,h2,h3⟩
theorem zD.ans(h:zD E s D s' n w D' w'):nP E s D s' n w N M [] N M none 0 0 w':=⟨rfl,rfl,rfl,D',h,⟨λ_ h=>(by cases h),λh=>absurd h (by simp)⟩,λ_ _ e=>(by cases e)⟩
end
def HOk(E:PE)(s:St)(D:PD)(s':St)(N M:Int)(L:List Int)(F:Nat)(kd a b:Int)(t:ByteArray)(lp dp:Option Addr)(ln lc dn dc:Nat)(W:World):Prop:=
 Calls prog F #[E.kb,E.pb,.agg #[kd,a,b,t,(lp,ln,lc),(dp,dn,dc)]] W λe w'=>∃(n m:Int) (xp:Option Addr) (xn xc:Nat),e=.returned (.tuple #[.agg #[.int .i64 n,.int .i64 m,.slice xp xn xc],.nilIface])∧nP E s D s' W.heap.size W N M L n m xp xn xc w'
def ZI(E:PE)(s:St)(D:PD)(s':St)(N M:Int)(L:List Int)(pid kd a b:Int)(t:ByteArray)(lp dp:Option Addr)(ln lc dn dc:Nat)(w:World):Prop:=
 Calls prog 18 #[E.tk,pid,.agg #[kd,a,b,t,(lp,ln,lc),(dp,dn,dc)]] w λe w'=>∃(n m:Int) (xp:Option Addr) (xn xc:Nat),e=.returned (.tuple #[.agg #[.int .i64 n,.int .i64 m,.slice xp xn xc],.nilIface])∧nP E s D s' w.heap.size w N M L n m xp xn xc w'
section
variable {E:PE} {s s':St} {D:PD} {w:World} (hx:ek E) (hp:PP E w s D) (hk:eH E w)
include hx hp hk
theorem Lu:∀W,Bel w W→Calls prog 41 #[E.kb,(1:Int)] W (Z.e (.tuple #[E.pb,.nilIface]) W):=λW hW=>
 RQ E.kb E.pm E.pb _ 1 W (by omega) ((hp.hk.bel hW).cell 5) (hx.Ll (hk.tr (Keep.of_bel _ hW))) (by simp[dD]) (by rw[(hp.hb.bel hW).cell];exact(qK hx.rl _ _).2)
theorem RS:E.tk<w.heap.size:=(hx.nN hk).lt
theorem U9:¬bJ E s D E.tk:=λhq=>hx.nv hx.ht (by unfold Tt;decide) (hp.lo _ hq)
theorem JF(N M:Int)(L:List Int)(kd a b:Int)(t:ByteArray)(lp dp:Option Addr)(ln lc dn dc:Nat)
 (hd:∀W,Bel w W→Calls prog 51 #[E.kb,E.pb,.agg #[kd,a,b,t,(lp,ln,lc),(dp,dn,dc)]] W λe w'=>∃(n m:Int) (xp:Option Addr) (xn xc:Nat),e=.returned (.tuple #[.agg #[.int .i64 n,.int .i64 m,.slice xp xn xc],.nilIface])∧nP E s D s' W.heap.size W N M L n m xp xn xc w') :
 ZI E s D s' N M L 1 kd a b t lp dp ln lc dn dc w:=by
 have htl:=RS hx hp hk;have htf:=U9 hx hp hk;refine(CB E.tk E.kb 1 kd a b t lp dp ln lc dn dc w (λn m xp xn xc ev w'=>ev=.nilIface∧nP E s D s' (w.heap.size+2) w N M L n m xp xn xc w') ((hx.nN hk).cell 0) λW hW hsz iX hcall=>?_).mono ?_
 ·refine(Qz E.kb E.pb 1 kd a b t lp dp ln lc dn dc W (λn m xp xn xc ev w'=>ev=.nilIface∧nP E s D s' (W.heap.size+2) W N M L n m xp xn xc w') (λW2 hW2=>Lu hx (hp.bel hW) (hk.tr (Keep.of_bel _ hW)) W2 hW2) λW2 hW2 hsz2 RU=>?_).mono ?_
  ·refine(hd W2 (hW.tr hW2)).mono ?_
   rintro e w' ⟨n,m,xp,xn,xc,rfl,h⟩;exact⟨n,m,xp,xn,xc,_,rfl,⟨rfl,h.bel hW2 (hp.bel hW) hsz2⟩,RU.keep h.kept λhq=>by have:=hp.lt hq;have:=hW.le;omega⟩
  ·rintro e w' ⟨n,m,xp,xn,xc,ev,w3,rfl,⟨rfl,h⟩,k⟩
   have h2:=h.box k (by omega) (by omega);refine⟨n,m,xp,xn,xc,_,rfl,⟨rfl,h2.bel hW hp (by omega)⟩,?_,?_,?_⟩
   ·rw[h2.kept.cell ⟨E.tk,0,none⟩ (Nat.lt_of_lt_of_le htl hW.le) htf]
    exact aa hW ((hx.nN hk).cell 0)
   ·exact hcall.keep h2.kept λhq=>by have:=hp.lt hq;omega
   ·exact iX.keep h2.kept λhq=>by have:=hp.lt hq;omega
 ·rintro e w' ⟨n,m,xp,xn,xc,ev,w3,rfl,⟨rfl,h⟩,k⟩
  exact⟨n,m,xp,xn,xc,rfl,(h.box k (by omega) (by omega)).weak (by omega)⟩
theorem JG(N M:Int)(L:List Int)(F:Nat)(kd a b:Int)(t:ByteArray)(lp dp:Option Addr)(ln lc dn dc:Nat)(hcf:∀(args:Array Value) (W:World),(callFunc F args).run prog W=.ok (.enter F args) W)
 (hH:∀W,Calls prog 88 #[kd] W (Z.e (.func (.func F) #[] #[]) W))(hC:∀W,Bel w W→HOk E s D s' N M L F kd a b t lp dp ln lc dn dc W) :
 ZI E s D s' N M L 1 kd a b t lp dp ln lc dn dc w:=by
 refine JF hx hp hk N M L kd a b t lp dp ln lc dn dc λW hW=>?_;refine(aax E.kb E.pb F kd a b t lp dp ln lc dn dc W hcf (λn m xp xn xc w'=>nP E s D s' (W.heap.size+2) W N M L n m xp xn xc w') hH λW2 hW2 hsz iX=>?_).mono ?_
 ·refine(hC W2 (hW.tr hW2)).mono ?_
  rintro e w' ⟨n,m,xp,xn,xc,rfl,h⟩;exact⟨n,m,xp,xn,xc,rfl,h.bel hW2 (hp.bel hW) hsz,iX.keep h.kept λhq=>by have:=hp.lt hq;have:=hW.le;omega⟩
 ·rintro e w' ⟨n,m,xp,xn,xc,w3,rfl,h,k⟩
  exact⟨n,m,xp,xn,xc,rfl,(h.box k (by omega) (by omega)).weak (by omega)⟩
theorem Dg(N:Int)(G:Nat)(kd a b:Int)(t:ByteArray)(lp dp:Option Addr)(ln lc dn dc:Nat)(hcf:∀(args:Array Value) (W:World),(callFunc G args).run prog W=.ok (.enter G args) W)
 (hH:∀W,Calls prog 88 #[kd] W λe w'=>e=.returned (.func (.func 221) #[] #[W.heap.size])∧w'.cell? (W.heap.size,0)=some (.func (.func G) #[] #[])∧W.heap.size<w'.heap.size∧Bel W w')
 (hC:∀W,Bel w W→Calls prog G #[E.kb,E.pb,.agg #[kd,a,b,t,(lp,ln,lc),(dp,dn,dc)]] W λe w'=>e=.returned (.tuple #[N,.nilIface])∧∃D',zD E s D s' W.heap.size W D' w') :
 ZI E s D s' N 0 [] 1 kd a b t lp dp ln lc dn dc w:=by
 refine JF hx hp hk N 0 [] kd a b t lp dp ln lc dn dc λW hW=>?_;refine(Qy E.kb E.pb 221 G kd a b t lp dp ln lc dn dc W (λargs W=>by kernel_rfl) (λn m xp xn xc w'=>nP E s D s' (W.heap.size+2) W N 0 [] n m xp xn xc w') hH λW2 hW2 hsz iX q hq hqc=>?_).mono ?_
 ·refine(wG E.kb E.pb q G kd a b t lp dp ln lc dn dc W2 hcf hqc (λn ev w'=>n=N∧ev=.nilIface∧∃D',zD E s D s' (W2.heap.size+2) W2 D' w') λW3 hW3 RX zF=>?_).mono ?_
  ·refine(hC W3 ((hW.tr hW2).tr hW3)).mono ?_
   rintro e w' ⟨rfl,D',h⟩;exact⟨_,_,rfl,⟨rfl,rfl,D',h.bel hW3 (hp.bel (hW.tr hW2)) RX⟩,zF.keep h.kept λhq=>by have:=hp.lt hq;have:=hW.le;have:=hW2.le;omega⟩
  ·rintro e w' ⟨n,ev,w3,rfl,⟨rfl,rfl,D',h⟩,k⟩
   have h2:=h.box k (by omega) (by omega);exact⟨_,_,_,_,_,rfl,(h2.bel hW2 (hp.bel hW) (by omega)).ans,iX.keep h2.kept λhq=>by have:=hp.lt hq;have:=hW.le;omega⟩
 ·rintro e w' ⟨n,m,xp,xn,xc,w3,rfl,h,k⟩
  exact⟨n,m,xp,xn,xc,rfl,(h.box k (by omega) (by omega)).weak (by omega)⟩
theorem RY(G:Nat)(kd a b:Int)(t:ByteArray)(lp dp:Option Addr)(ln lc dn dc:Nat)(hcf:∀(args:Array Value) (W:World),(callFunc G args).run prog W=.ok (.enter G args) W)
 (hH:∀W,Calls prog 88 #[kd] W λe w'=>e=.returned (.func (.func 225) #[] #[W.heap.size])∧w'.cell? (W.heap.size,0)=some (.func (.func G) #[] #[])∧W.heap.size<w'.heap.size∧Bel W w')
 (hC:∀W,Bel w W→Calls prog G #[E.kb,E.pb,.agg #[kd,a,b,t,(lp,ln,lc),(dp,dn,dc)]] W λe w'=>e=.returned .nilIface∧∃D',zD E s D s' W.heap.size W D' w') :
 ZI E s D s' 0 0 [] 1 kd a b t lp dp ln lc dn dc w:=by
 refine JF hx hp hk 0 0 [] kd a b t lp dp ln lc dn dc λW hW=>?_;refine(Qy E.kb E.pb 225 G kd a b t lp dp ln lc dn dc W (λargs W=>by kernel_rfl) (λn m xp xn xc w'=>nP E s D s' (W.heap.size+2) W 0 0 [] n m xp xn xc w') hH λW2 hW2 hsz iX q hq hqc=>?_).mono ?_
 ·refine(AY E.kb E.pb q G kd a b t lp dp ln lc dn dc W2 hcf hqc (λev w'=>ev=.nilIface∧∃D',zD E s D s' (W2.heap.size+2) W2 D' w') λW3 hW3 RX zF=>?_).mono ?_
  ·refine(hC W3 ((hW.tr hW2).tr hW3)).mono ?_
   rintro e w' ⟨rfl,D',h⟩;exact⟨_,rfl,⟨rfl,D',h.bel hW3 (hp.bel (hW.tr hW2)) RX⟩,zF.keep h.kept λhq=>by have:=hp.lt hq;have:=hW.le;have:=hW2.le;omega⟩
  ·rintro e w' ⟨ev,w3,rfl,⟨rfl,D',h⟩,k⟩
   have h2:=h.box k (by omega) (by omega);exact⟨_,_,_,_,_,rfl,(h2.bel hW2 (hp.bel hW) (by omega)).ans,iX.keep h2.kept λhq=>by have:=hp.lt hq;have:=hW.le;omega⟩
 ·rintro e w' ⟨n,m,xp,xn,xc,w3,rfl,h,k⟩
  exact⟨n,m,xp,xn,xc,rfl,(h.box k (by omega) (by omega)).weak (by omega)⟩
end
def FU(E:PE)(f pid kd a b:Int)(t:ByteArray)(lp dp:Option Addr)(ln lc dn dc:Nat)(w:World):Prop:=
 Calls prog 18 #[E.tk,pid,.agg #[kd,a,b,t,(lp,ln,lc),(dp,dn,dc)]] w λe w'=>∃ev,e=.returned (.tuple #[.agg #[(0:Int),(0:Int),()],ev])∧Bel w w'∧(ev=.iface 48 (.int .i64 f)∨∃c,ev=.iface 226 (.pointer (c,0))∧Blk w' c [(1:Int),f] 228∧w.heap.size≤c)
theorem dI{w w' w'':World}(k:Bel w w'){b:Nat}(k2:Keep (λx=>x=b) w' w'')(hb:w.heap.size≤b):Bel w w'':=by
 have k3:=(Keep.of_bel (λx=>x=b) k).tr k2;exact⟨k3.os,k3.tape,k3.output,k3.size,λx hx=>k3.block x hx (by omega)⟩
section
variable {E:PE} {s s':St} {D:PD} {w:World} (hx:ek E) (hp:PP E w s D) (hk:eH E w)
include hx hp hk
theorem xR(f:Int)(kd a b:Int)(t:ByteArray)(lp dp:Option Addr)(ln lc dn dc:Nat)
 (hd:∀W,Bel w W→Calls prog 51 #[E.kb,E.pb,.agg #[kd,a,b,t,(lp,ln,lc),(dp,dn,dc)]] W λe w'=>∃ev,e=.returned (.tuple #[.agg #[(0:Int),(0:Int),()],ev])∧Bel W w'∧(ev=.iface 48 (.int .i64 f)∨∃c,ev=.iface 226 (.pointer (c,0))∧Blk w' c [(1:Int),f] 228∧W.heap.size≤c)) :
 FU E f 1 kd a b t lp dp ln lc dn dc w:=by
 have htl:=RS hx hp hk;refine(CB E.tk E.kb 1 kd a b t lp dp ln lc dn dc w (λn m xp xn xc ev w'=>n=0∧m=0∧xp=none∧xn=0∧xc=0∧Bel w w'∧(ev=.iface 48 (.int .i64 f)∨∃c,ev=.iface 226 (.pointer (c,0))∧Blk w' c [(1:Int),f] 228∧w.heap.size+2≤c)) ((hx.nN hk).cell 0) λW hW hsz iX hcall=>?_).mono ?_
 ·refine(Qz E.kb E.pb 1 kd a b t lp dp ln lc dn dc W (λn m xp xn xc ev w'=>n=0∧m=0∧xp=none∧xn=0∧xc=0∧Bel W w'∧(ev=.iface 48 (.int .i64 f)∨∃c,ev=.iface 226 (.pointer (c,0))∧Blk w' c [(1:Int),f] 228∧W.heap.size+2≤c)) (λW2 hW2=>Lu hx (hp.bel hW) (hk.tr (Keep.of_bel _ hW)) W2 hW2) λW2 hW2 hsz2 RU=>?_).mono ?_
  ·refine(hd W2 (hW.tr hW2)).mono ?_
   rintro e w' ⟨ev,rfl,hb,hc⟩;refine⟨_,_,_,_,_,ev,rfl,⟨rfl,rfl,rfl,rfl,rfl,hW2.tr hb,hc.imp id ?_⟩,RU.bel hb⟩;rintro⟨c,h1,h2,h3⟩;exact⟨c,h1,h2,by omega⟩
  ·rintro e w' ⟨n,m,xp,xn,xc,ev,w3,rfl,⟨rfl,rfl,rfl,rfl,rfl,hb,hc⟩,k⟩
   have hb2:=dI hb k (by omega);refine⟨_,_,_,_,_,ev,rfl,⟨rfl,rfl,rfl,rfl,rfl,hW.tr hb2,hc.imp id ?_⟩,aa (hW.tr hb2) ((hx.nN hk).cell 0),hcall.bel hb2,iX.bel hb2⟩;rintro⟨c,h1,h2,h3⟩;exact⟨c,h1,h2.keep k (by show ¬c=_;omega),by omega⟩
 ·rintro e w' ⟨n,m,xp,xn,xc,ev,w3,rfl,⟨rfl,rfl,rfl,rfl,rfl,hb,hc⟩,k⟩
  refine⟨ev,rfl,dI hb k (by omega),hc.imp id ?_⟩;rintro⟨c,h1,h2,h3⟩;exact⟨c,h1,h2.keep k (by show ¬c=_;omega),by omega⟩
theorem RZ(kd a b:Int)(t:ByteArray)(lp dp:Option Addr)(ln lc dn dc:Nat)(hkd:kd<0∨62≤kd):FU E 23 1 kd a b t lp dp ln lc dn dc w:=
 xR hx hp hk 23 kd a b t lp dp ln lc dn dc λW hW=>(Uv E.kb E.pb kd a b t lp dp ln lc dn dc W λW2=>EK kd W2 hkd).mono λe w' h=>⟨_,h.1,h.2,.inl rfl⟩
theorem mF(f:Int)(F:Nat)(kd a b:Int)(t:ByteArray)(lp dp:Option Addr)(ln lc dn dc:Nat)(hcf:∀(args:Array Value) (W:World),(callFunc F args).run prog W=.ok (.enter F args) W)
 (hH:∀W,Calls prog 88 #[kd] W (Z.e (.func (.func F) #[] #[]) W))
 (hC:∀W,Bel w W→Calls prog F #[E.kb,E.pb,.agg #[kd,a,b,t,(lp,ln,lc),(dp,dn,dc)]] W λe w'=>∃(n m:Int) (xp:Option Addr) (xn xc:Nat),e=.returned (.tuple #[.agg #[.int .i64 n,.int .i64 m,.slice xp xn xc],.iface 48 (.int .i64 f)])∧Bel W w') :
 FU E f 1 kd a b t lp dp ln lc dn dc w:=by
 refine xR hx hp hk f kd a b t lp dp ln lc dn dc λW hW=>?_;refine(XF E.kb E.pb F kd a b t lp dp ln lc dn dc W hcf 1 f (λw'=>Bel w w'∧Bel W w') (λW2 h=>hx.Lm (hk.tr (Keep.of_bel _ h.1))) (Nat.lt_of_lt_of_le hp.hb.lt hW.le) (λW2 h=>by rw[(hp.hb.bel h.1).cell];exact(qK hx.rl _ _).1) hH λW2 hW2 hsz iX=>?_).mono ?_
 ·refine(hC W2 (hW.tr hW2)).mono ?_
  rintro e w' ⟨n,m,xp,xn,xc,rfl,h⟩;exact⟨n,m,xp,xn,xc,rfl,⟨(hW.tr hW2).tr h,hW2.tr h⟩,iX.bel h⟩
 ·rintro e w' ⟨c,w3,rfl,h1,⟨_,h2⟩,k,h3⟩
  exact⟨_,rfl,dI h2 k (by omega),.inr ⟨c,rfl,h1,h3⟩⟩
theorem gZ(f:Int)(G:Nat)(kd a b:Int)(t:ByteArray)(lp dp:Option Addr)(ln lc dn dc:Nat)(hcf:∀(args:Array Value) (W:World),(callFunc G args).run prog W=.ok (.enter G args) W)
 (hH:∀W,Calls prog 88 #[kd] W λe w'=>e=.returned (.func (.func 221) #[] #[W.heap.size])∧w'.cell? (W.heap.size,0)=some (.func (.func G) #[] #[])∧W.heap.size<w'.heap.size∧Bel W w')
 (hC:∀W,Bel w W→Calls prog G #[E.kb,E.pb,.agg #[kd,a,b,t,(lp,ln,lc),(dp,dn,dc)]] W λe w'=>∃n,e=.returned (.tuple #[.int .i64 n,.iface 48 (.int .i64 f)])∧Bel W w') :
 FU E f 1 kd a b t lp dp ln lc dn dc w:=by
 refine xR hx hp hk f kd a b t lp dp ln lc dn dc λW hW=>?_;refine(KJ E.kb E.pb 221 G kd a b t lp dp ln lc dn dc W (λargs W=>by kernel_rfl) 1 f (λw'=>Bel w w'∧Bel W w') (λW2 h=>hx.Lm (hk.tr (Keep.of_bel _ h.1))) (Nat.lt_of_lt_of_le hp.hb.lt hW.le) (λW2 h=>by rw[(hp.hb.bel h.1).cell];exact(qK hx.rl _ _).1) hH λW2 hW2 hsz iX q hq hqc=>?_).mono ?_
 ·refine(wG E.kb E.pb q G kd a b t lp dp ln lc dn dc W2 hcf hqc (λn ev w'=>ev=.iface 48 (.int .i64 f)∧Bel W2 w') λW3 hW3 RX zF=>?_).mono ?_
  ·refine(hC W3 ((hW.tr hW2).tr hW3)).mono ?_
   rintro e w' ⟨n,rfl,h⟩;exact⟨_,_,rfl,⟨rfl,hW3.tr h⟩,zF.bel h⟩
  ·rintro e w' ⟨n,ev,w3,rfl,⟨rfl,h⟩,k⟩
   have h2:=dI h k (by omega);exact⟨_,_,_,_,_,rfl,⟨(hW.tr hW2).tr h2,hW2.tr h2⟩,iX.bel h2⟩
 ·rintro e w' ⟨c,w3,rfl,h1,⟨_,h2⟩,k,h3⟩
  exact⟨_,rfl,dI h2 k (by omega),.inr ⟨c,rfl,h1,h3⟩⟩
theorem Dh(f:Int)(G:Nat)(kd a b:Int)(t:ByteArray)(lp dp:Option Addr)(ln lc dn dc:Nat)(hcf:∀(args:Array Value) (W:World),(callFunc G args).run prog W=.ok (.enter G args) W)
 (hH:∀W,Calls prog 88 #[kd] W λe w'=>e=.returned (.func (.func 225) #[] #[W.heap.size])∧w'.cell? (W.heap.size,0)=some (.func (.func G) #[] #[])∧W.heap.size<w'.heap.size∧Bel W w')
 (hC:∀W,Bel w W→Calls prog G #[E.kb,E.pb,.agg #[kd,a,b,t,(lp,ln,lc),(dp,dn,dc)]] W (Z.b (.iface 48 (.int .i64 f)) W)) :
 FU E f 1 kd a b t lp dp ln lc dn dc w:=by
 refine xR hx hp hk f kd a b t lp dp ln lc dn dc λW hW=>?_;refine(KJ E.kb E.pb 225 G kd a b t lp dp ln lc dn dc W (λargs W=>by kernel_rfl) 1 f (λw'=>Bel w w'∧Bel W w') (λW2 h=>hx.Lm (hk.tr (Keep.of_bel _ h.1))) (Nat.lt_of_lt_of_le hp.hb.lt hW.le) (λW2 h=>by rw[(hp.hb.bel h.1).cell];exact(qK hx.rl _ _).1) hH λW2 hW2 hsz iX q hq hqc=>?_).mono ?_
 ·refine(AY E.kb E.pb q G kd a b t lp dp ln lc dn dc W2 hcf hqc (λev w'=>ev=.iface 48 (.int .i64 f)∧Bel W2 w') λW3 hW3 RX zF=>?_).mono ?_
  ·refine(hC W3 ((hW.tr hW2).tr hW3)).mono ?_
   rintro e w' ⟨rfl,h⟩;exact⟨_,rfl,⟨rfl,hW3.tr h⟩,zF.bel h⟩
  ·rintro e w' ⟨ev,w3,rfl,⟨rfl,h⟩,k⟩
   have h2:=dI h k (by omega);exact⟨_,_,_,_,_,rfl,⟨(hW.tr hW2).tr h2,hW2.tr h2⟩,iX.bel h2⟩
 ·rintro e w' ⟨c,w3,rfl,h1,⟨_,h2⟩,k,h3⟩
  exact⟨_,rfl,dI h2 k (by omega),.inr ⟨c,rfl,h1,h3⟩⟩
theorem Va(pid kd a b:Int)(t:ByteArray)(lp dp:Option Addr)(ln lc dn dc:Nat)(h1:pid≠1)(MV : -9223372036854775808≤pid∧pid≤9223372036854775807):FU E 18 pid kd a b t lp dp ln lc dn dc w:=by
 have htl:=RS hx hp hk;refine(CB E.tk E.kb pid kd a b t lp dp ln lc dn dc w (λn m xp xn xc ev w'=>n=0∧m=0∧xp=none∧xn=0∧xc=0∧Bel w w'∧ev=.iface 48 (.int .i64 18)) ((hx.nN hk).cell 0) λW hW hsz iX hcall=>?_).mono ?_
 ·refine(Uw E.kb pid 18 kd a b t lp dp ln lc dn dc W λW2 hW2=>IL E.kb E.pm _ pid W2 MV (((hp.hk.bel hW).bel hW2).cell 5) (hx.Ll ((hk.tr (Keep.of_bel _ hW)).tr (Keep.of_bel _ hW2))) (by simp[dD];omega)).mono ?_
  rintro e w' ⟨rfl,hb⟩;exact⟨_,_,_,_,_,_,rfl,⟨rfl,rfl,rfl,rfl,rfl,hW.tr hb,rfl⟩,aa (hW.tr hb) ((hx.nN hk).cell 0),hcall.bel hb,iX.bel hb⟩
 ·rintro e w' ⟨n,m,xp,xn,xc,ev,w3,rfl,⟨rfl,rfl,rfl,rfl,rfl,hb,rfl⟩,k⟩
  exact⟨_,rfl,dI hb k (by omega),.inl rfl⟩
end
end
section
open Go.RowKit Go.MapKept Go.Maps
section
variable {E:PE} {s:St} {D:PD} {w w':World} {S:Nat→Prop}
theorem PP.jo(h:PP E w s D)(hk:eH E w)(k:Keep S w w')(hS:∀q,S q→q=E.cb∨ag D.tv=some q∨ag D.uv=some q)(tv' uv':Value)(t' o':List Int)(hc:Blk w' E.cb [.int .i64 ((s.fds.count Fd.jo:Nat):Int),tv',uv'] 151)(h1:Buf w' tv' t')(h2:Buf w' uv' o')
 (ap:∀g,ag tv'=some g→ag uv'≠some g)(f1:∀g,ag tv'=some g→ag D.tv=some g∨w.heap.size≤g)(f2:∀g,ag uv'=some g→ag D.uv=some g∨w.heap.size≤g) :
 PP E w' {s with typed:=t',out:=o'} {D with tv:=tv',uv:=uv'}:=by
 have hu:∀q cs t,Blk w q cs t→t≠151→t≠5→¬S q:=λq cs t hb n1 n2 hq=>by
  rcases hS q hq with e|e|e
  ·exact hb.ne h.hc n1 e
  ·obtain⟨_,hb2⟩:=h.tb.blk e;exact hb.ne hb2 n2 rfl
  ·obtain⟨_,hb2⟩:=h.ub.blk e;exact hb.ne hb2 n2 rfl
 have hpb:∀p∈s.pipes,∀g,ag (D.bv p.id)=some g→¬S g:=λp hp g hg hq=>by
  rcases hS g hq with e|e|e
  ·obtain⟨_,hb2⟩:=(h.nG p hp).b.blk hg;exact hb2.ne h.hc (by decide) e
  ·exact(h.zC p hp g hg).1 e
  ·exact(h.zC p hp g hg).2 e
 have hlt:∀p∈s.pipes,∀g,ag (D.bv p.id)=some g→g<w.heap.size:=λp hp g hg=>by
  obtain⟨_,hb2⟩:=(h.nG p hp).b.blk hg;exact hb2.lt
 refine⟨h.hk.keep k (hu _ _ _ h.hk (by decide) (by decide)),h.hb.keep k (hu _ _ _ h.hb (by decide) (by decide)),h.ho.keep k (hu _ _ _ h.ho (by decide) (by decide)),hc,h1,h2,λp hp=>?_,h.inj,ap,λp hp g hg=>?_,λq hq=>?_⟩
 ·have bA:=h.nG p hp
  have Di:xG w' D s.fds p:=bA.keep k (hu _ _ _ bA.c (by decide) (by decide)) (λhf=>hu _ _ _ (bA.r hf) (by decide) (by decide)) (λhf=>hu _ _ _ (bA.u hf) (by decide) (by decide)) (hpb p hp);exact⟨Di.c,Di.b,Di.r,Di.u⟩
 ·have hl:=hlt p hp g hg
  constructor
  ·intro e
   rcases f1 g e with e2|e2
   ·exact(h.zC p hp g hg).1 e2
   ·omega
  ·intro e
   rcases f2 g e with e2|e2
   ·exact(h.zC p hp g hg).2 e2
   ·omega
 ·have hsz:=hk.size
  rcases hq with e|e|e|e|e|e|e
  ·exact h.lo _ (.inl e)
  ·exact h.lo _ (.inr (.inl e))
  ·exact h.lo _ (.inr (.inr (.inl e)))
  ·exact h.lo _ (.inr (.inr (.inr (.inl e))))
  ·rcases f1 q e with e2|e2
   ·exact h.lo _ (.inr (.inr (.inr (.inr (.inl e2)))))
   ·exact .inl (aV hsz e2)
  ·rcases f2 q e with e2|e2
   ·exact h.lo _ (.inr (.inr (.inr (.inr (.inr (.inl e2))))))
   ·exact .inl (aV hsz e2)
  ·exact h.lo _ (.inr (.inr (.inr (.inr (.inr (.inr e))))))
theorem PP.zG{tv' uv':Value}{t' o':List Int}{n:Nat}(f1:∀g,ag tv'=some g→ag D.tv=some g∨n≤g)(f2:∀g,ag uv'=some g→ag D.uv=some g∨n≤g):∀q,bJ E {s with typed:=t',out:=o'} {D with tv:=tv',uv:=uv'} q→bJ E s D q∨n≤q:=λq hq=>by
 rcases hq with e|e|e|e|e|e|e
 ·exact .inl (.inl e)
 ·exact .inl (.inr (.inl e))
 ·exact .inl (.inr (.inr (.inl e)))
 ·exact .inl (.inr (.inr (.inr (.inl e))))
 ·exact(f1 q e).imp (λe=>.inr (.inr (.inr (.inr (.inl e))))) id
 ·exact(f2 q e).imp (λe=>.inr (.inr (.inr (.inr (.inr (.inl e)))))) id
 ·exact .inl (.inr (.inr (.inr (.inr (.inr (.inr e))))))
theorem uw(hS:∀q,S q→q=E.cb∨ag D.tv=some q∨ag D.uv=some q)(k:Keep S w w'):Keep (bJ E s D) w w':=k.mono λq hq=>by
 rcases hS q hq with e|e|e
 ·exact .inr (.inr (.inr (.inl e)))
 ·exact .inr (.inr (.inr (.inr (.inl e))))
 ·exact .inr (.inr (.inr (.inr (.inr (.inl e)))))
def rY(f:Nat→Value)(i:Nat)(v:Value):Nat→Value:=λj=>if j=i then v else f j
theorem iA(f:Nat→Value)(i:Nat)(v:Value):rY f i v i=v:=if_pos rfl
theorem oq(f:Nat→Value){i j:Nat}(v:Value)(h:j≠i):rY f i v j=f j:=if_neg h
theorem qN{ps:List dH}{i:Nat}{b:List Int}{q:dH}(h:q∈ku ps i b):∃p∈ps,q.id=p.id∧(p.id=i∧q.byt=b∨p.id≠i∧q=p):=by
 obtain⟨p,hp,rfl⟩:=List.mem_map.1 h;by_cases e:p.id=i
 ·exact⟨p,hp,by rw[if_pos e],.inl ⟨e,by rw[if_pos e]⟩⟩
 ·exact⟨p,hp,by rw[if_neg e],.inr ⟨e,by rw[if_neg e]⟩⟩
theorem PP.put(h:PP E w s D)(hk:eH E w){p:dH}(hp:p∈s.pipes)(k:Keep (λq=>q=D.ch p.id) w w')(v':Value)(b:List Int)(hc:Blk w' (D.ch p.id) [v',.int .i64 ((if Fd.rd p.id∈s.fds then 1 else 0:Nat):Int),.int .i64 ((if Fd.wr p.id∈s.fds then 1 else 0:Nat):Int)] 475)(hb:Buf w' v' b)
 (f1:∀g,ag v'=some g→ag (D.bv p.id)=some g∨w.heap.size≤g):PP E w' (s.put p.id b) {D with bv:=rY D.bv p.id v'}:=by
 have hu:∀q cs t,Blk w q cs t→t≠475→¬q=D.ch p.id:=λq cs t hb n1 hq=>hb.ne (h.nG p hp).c n1 hq;have hbf:∀v L,Buf w v L→∀g,ag v=some g→¬g=D.ch p.id:=λv L hv g hg e=>by
  obtain⟨_,hb2⟩:=hv.blk hg;exact hu _ _ _ hb2 (by decide) e
 have hblt:∀v L,Buf w v L→∀g,ag v=some g→g<w.heap.size:=λv L hv g hg=>by
  obtain⟨_,hb2⟩:=hv.blk hg;exact hb2.lt
 have ho:aj s.fds (ku s.pipes p.id b)=aj s.fds s.pipes:=FO _ _ _ _;refine⟨h.hk.keep k (hu _ _ _ h.hk (by decide)),h.hb.keep k (hu _ _ _ h.hb (by decide)),?_,h.hc.keep k (hu _ _ _ h.hc (by decide)),h.tb.keep k (hbf _ _ h.tb),h.ub.keep k (hbf _ _ h.ub),λq hq=>?_,λq hq r hr e=>?_,h.ap,λq hq g hg=>?_,λq hq=>?_⟩
 ·show Blk w' E.ob [.int .i64 ((aj s.fds (ku s.pipes p.id b)).length:Nat),_] _
  rw[ho];exact h.ho.keep k (hu _ _ _ h.ho (by decide))
 ·obtain⟨r,hr,e1,⟨e2,e3⟩|⟨e2,rfl⟩⟩:=qN hq
  ·have eq:q.id=p.id:=e1.trans e2
   have bA:=h.nG p hp;refine⟨?_,?_,?_,?_⟩
   ·show Blk w' (D.ch q.id) [rY D.bv p.id v' q.id,_,_] _
    rw[eq,iA];exact hc
   ·show Buf w' (rY D.bv p.id v' q.id) q.byt
    rw[eq,iA,e3];exact hb
   ·show Fd.rd q.id∈s.fds→Blk w' (D.re q.id) [.int .i64 ((s.fds.count (Fd.rd q.id):Nat):Int),.pointer (D.ch q.id,0)] _
    rw[eq];exact λhf=>(bA.r hf).keep k (hu _ _ _ (bA.r hf) (by decide))
   ·show Fd.wr q.id∈s.fds→Blk w' (D.we q.id) [.int .i64 ((s.fds.count (Fd.wr q.id):Nat):Int),.pointer (D.ch q.id,0)] _
    rw[eq];exact λhf=>(bA.u hf).keep k (hu _ _ _ (bA.u hf) (by decide))
  ·have bA:=h.nG q hr
   have Di:xG w' D s.fds q:=bA.keep k (λe=>e2 (h.inj q hr p hp e)) (λhf=>hu _ _ _ (bA.r hf) (by decide)) (λhf=>hu _ _ _ (bA.u hf) (by decide)) (hbf _ _ bA.b);have e3:rY D.bv p.id v' q.id=D.bv q.id:=oq _ _ e2;exact⟨by show Blk w' (D.ch q.id) [rY D.bv p.id v' q.id,_,_] _;rw[e3];exact Di.c,by show Buf w' (rY D.bv p.id v' q.id) q.byt;rw[e3];exact Di.b,Di.r,Di.u⟩
 ·obtain⟨q',hq',eq,_⟩:=qN hq
  obtain⟨r',hr',er,_⟩:=qN hr;rw[eq,er]at e⊢;exact h.inj q' hq' r' hr' e
 ·have hg:ag (rY D.bv p.id v' q.id)=some g:=hg
  obtain⟨r,hr,e1,⟨e2,e3⟩|⟨e2,rfl⟩⟩:=qN hq
  ·rw[e1.trans e2,iA]at hg
   rcases f1 g hg with h1|h1
   ·exact h.zC p hp g h1
   ·exact⟨λe=>by have:=hblt _ _ h.tb g e;omega,λe=>by have:=hblt _ _ h.ub g e;omega⟩
  ·rw[oq _ _ e2]at hg
   exact h.zC q hr g hg
 ·have hsz:=hk.size
  rcases hq with e|e|e|e|e|e|⟨q',hq',e⟩
  ·exact h.lo _ (.inl e)
  ·exact h.lo _ (.inr (.inl e))
  ·exact h.lo _ (.inr (.inr (.inl e)))
  ·exact h.lo _ (.inr (.inr (.inr (.inl e))))
  ·exact h.lo _ (.inr (.inr (.inr (.inr (.inl e)))))
  ·exact h.lo _ (.inr (.inr (.inr (.inr (.inr (.inl e))))))
  ·obtain⟨r,hr,e1,e2⟩:=qN hq'
   rw[e1]at e;rcases e with e|e|e|e
   ·exact h.lo _ (.inr (.inr (.inr (.inr (.inr (.inr ⟨r,hr,.inl e⟩))))))
   ·exact h.lo _ (.inr (.inr (.inr (.inr (.inr (.inr ⟨r,hr,.inr (.inl e)⟩))))))
   ·exact h.lo _ (.inr (.inr (.inr (.inr (.inr (.inr ⟨r,hr,.inr (.inr (.inl e))⟩))))))
   ·have e:ag (rY D.bv p.id v' r.id)=some q:=e
    by_cases e3:r.id=p.id
    ·rw[e3,iA]at e
     rcases f1 q e with e4|e4
     ·exact h.lo _ (.inr (.inr (.inr (.inr (.inr (.inr ⟨p,hp,.inr (.inr (.inr e4))⟩))))))
     ·exact .inl (aV hsz e4)
    ·rw[oq _ _ e3]at e
     exact h.lo _ (.inr (.inr (.inr (.inr (.inr (.inr ⟨r,hr,.inr (.inr (.inr e))⟩))))))
theorem PP.FV{p:dH}(hp:p∈s.pipes){v':Value}{b:List Int}{n:Nat}(f1:∀g,ag v'=some g→ag (D.bv p.id)=some g∨n≤g):∀q,bJ E (s.put p.id b) {D with bv:=rY D.bv p.id v'} q→bJ E s D q∨n≤q:=λq hq=>by
 rcases hq with e|e|e|e|e|e|⟨q',hq',e⟩
 ·exact .inl (.inl e)
 ·exact .inl (.inr (.inl e))
 ·exact .inl (.inr (.inr (.inl e)))
 ·exact .inl (.inr (.inr (.inr (.inl e))))
 ·exact .inl (.inr (.inr (.inr (.inr (.inl e)))))
 ·exact .inl (.inr (.inr (.inr (.inr (.inr (.inl e))))))
 ·obtain⟨r,hr,e1,e2⟩:=qN hq'
  rw[e1]at e;rcases e with e|e|e|e
  ·exact .inl (.inr (.inr (.inr (.inr (.inr (.inr ⟨r,hr,.inl e⟩))))))
  ·exact .inl (.inr (.inr (.inr (.inr (.inr (.inr ⟨r,hr,.inr (.inl e)⟩))))))
  ·exact .inl (.inr (.inr (.inr (.inr (.inr (.inr ⟨r,hr,.inr (.inr (.inl e))⟩))))))
  ·have e:ag (rY D.bv p.id v' r.id)=some q:=e
   by_cases e3:r.id=p.id
   ·rw[e3,iA]at e
    rcases f1 q e with e4|e4
    ·exact .inl (.inr (.inr (.inr (.inr (.inr (.inr ⟨p,hp,.inr (.inr (.inr e4))⟩))))))
    ·exact .inr e4
   ·rw[oq _ _ e3]at e
    exact .inl (.inr (.inr (.inr (.inr (.inr (.inr ⟨r,hr,.inr (.inr (.inr e))⟩))))))
theorem Dj{p:dH}(hp:p∈s.pipes):bJ E s D (D.ch p.id):=.inr (.inr (.inr (.inr (.inr (.inr ⟨p,hp,.inl rfl⟩)))))
theorem Vb{p:dH}(hp:p∈s.pipes)(h:Fd.rd p.id∈s.fds):bJ E s D (D.re p.id):=.inr (.inr (.inr (.inr (.inr (.inr ⟨p,hp,.inr (.inl ⟨h,rfl⟩)⟩)))))
theorem Vd{p:dH}(hp:p∈s.pipes)(h:Fd.wr p.id∈s.fds):bJ E s D (D.we p.id):=.inr (.inr (.inr (.inr (.inr (.inr ⟨p,hp,.inr (.inr (.inl ⟨h,rfl⟩))⟩)))))
theorem Lv{p:dH}(hp:p∈s.pipes){g:Nat}(h:ag (D.bv p.id)=some g):bJ E s D g:=.inr (.inr (.inr (.inr (.inr (.inr ⟨p,hp,.inr (.inr (.inr h))⟩)))))
end
end
section
open Go.Proofs.Tryz Go.RowKit Go.MapKept Go.Maps
theorem kL{l:List Fd}{r:Nat}{x y:Fd}(h:l[r]?=some .no)(hx:x≠ .no):(l.set r y).count x=l.count x+if y=x then 1 else 0:=by
 obtain⟨hr,he⟩:=bZ h;rw[List.count_set hr,he];have e1:(Fd.no==x)=false:=bK λe=>hx e.symm;rw[e1];simp[beq_iff_eq]
theorem wW{l:List Fd}{r:Nat}{x y:Fd}(h:l[r]?=some y)(hx:x≠ .no):(l.set r .no).count x+(if y=x then 1 else 0)=l.count x:=by
 obtain⟨hr,he⟩:=bZ h;rw[List.count_set hr,he];have e1:(Fd.no==x)=false:=bK λe=>hx e.symm;rw[e1];by_cases e:y=x
 ·subst e
  have:0<l.count y:=List.count_pos_iff.2 (List.mem_of_getElem? h);simp
  omega
 ·simp[e]
section
variable {E:PE} {s s':St} {D:PD} {w w':World} {S:Nat→Prop}
theorem xG.same{fds fds':List Fd}{p:dH}(h:xG w D fds p)(k:Keep S w w')(h1:¬S (D.ch p.id))(h2:Fd.rd p.id∈fds→¬S (D.re p.id))(h3:Fd.wr p.id∈fds→¬S (D.we p.id))(h4:∀g,ag (D.bv p.id)=some g→¬S g)(c1:fds'.count (Fd.rd p.id)=fds.count (Fd.rd p.id))(c2:fds'.count (Fd.wr p.id)=fds.count (Fd.wr p.id)):xG w' D fds' p:=by
 have m1:Fd.rd p.id∈fds'↔Fd.rd p.id∈fds:=by rw[←List.count_pos_iff,←List.count_pos_iff,c1]
 have m2:Fd.wr p.id∈fds'↔Fd.wr p.id∈fds:=by rw[←List.count_pos_iff,←List.count_pos_iff,c2]
 have hk:=h.keep k h1 h2 h3 h4;exact⟨by simp only[m1,m2];exact hk.c,hk.b,λhf=>by rw[c1];exact hk.r (m1.1 hf),λhf=>by rw[c2];exact hk.u (m2.1 hf)⟩
theorem PP.wX(h:PP E w s D)(k:Keep S w w')(fds':List Fd)(ps':List dH)(hsub:∀p∈ps',p∈s.pipes)(hS:∀q,S q→q=E.pb∨q=E.ob∨q=E.cb∨∃p∈s.pipes,q=D.ch p.id∨(Fd.rd p.id∈s.fds∧q=D.re p.id)∨(Fd.wr p.id∈s.fds∧q=D.we p.id))
 (hb:Blk w' E.pb (fM E D.re D.we fds') 120)(ho:Blk w' E.ob [.int .i64 ((aj fds' ps').length:Nat),.int .i64 E.l.c] 222)(hc:Blk w' E.cb [.int .i64 ((fds'.count Fd.jo:Nat):Int),D.tv,D.uv] 151)(adD:∀p∈ps',xG w' D fds' p)(RF:∀x∈fds',x=.no∨x∈s.fds) :
 PP E w' {s with fds:=fds',pipes:=ps'} D:=by
 have hty:∀q,S q→∃cs t,Blk w q cs t∧t≠111∧t≠5:=λq hq=>by
  rcases hS q hq with rfl|rfl|rfl|⟨p,hp,rfl|⟨hf,rfl⟩|⟨hf,rfl⟩⟩
  ·exact⟨_,_,h.hb,by decide⟩
  ·exact⟨_,_,h.ho,by decide⟩
  ·exact⟨_,_,h.hc,by decide⟩
  ·exact⟨_,_,(h.nG p hp).c,by decide⟩
  ·exact⟨_,_,(h.nG p hp).r hf,by decide⟩
  ·exact⟨_,_,(h.nG p hp).u hf,by decide⟩
 have hbuf:∀v L,Buf w v L→∀g,ag v=some g→¬S g:=λv L hv g hg hq=>by
  obtain⟨_,_,hb2,_,n2⟩:=hty g hq;obtain⟨_,hb3⟩:=hv.blk hg;exact hb2.ne hb3 n2 rfl
 refine⟨h.hk.keep k λhq=>?_,hb,ho,hc,h.tb.keep k (hbuf _ _ h.tb),h.ub.keep k (hbuf _ _ h.ub),adD,λp hp q hq e=>h.inj p (hsub p hp) q (hsub q hq) e,h.ap,λp hp=>h.zC p (hsub p hp),λq hq=>?_⟩
 ·obtain⟨_,_,hb2,n1,_⟩:=hty _ hq
  exact hb2.ne h.hk n1 rfl
 ·rcases hq with e|e|e|e|e|e|⟨p,hp,e|⟨hf,e⟩|⟨hf,e⟩|e⟩
  ·exact h.lo _ (.inl e)
  ·exact h.lo _ (.inr (.inl e))
  ·exact h.lo _ (.inr (.inr (.inl e)))
  ·exact h.lo _ (.inr (.inr (.inr (.inl e))))
  ·exact h.lo _ (.inr (.inr (.inr (.inr (.inl e)))))
  ·exact h.lo _ (.inr (.inr (.inr (.inr (.inr (.inl e))))))
  ·exact h.lo _ (.inr (.inr (.inr (.inr (.inr (.inr ⟨p,hsub p hp,.inl e⟩))))))
  ·exact h.lo _ (.inr (.inr (.inr (.inr (.inr (.inr ⟨p,hsub p hp,.inr (.inl ⟨(RF _ hf).resolve_left (by simp),e⟩)⟩))))))
  ·exact h.lo _ (.inr (.inr (.inr (.inr (.inr (.inr ⟨p,hsub p hp,.inr (.inr (.inl ⟨(RF _ hf).resolve_left (by simp),e⟩))⟩))))))
  ·exact h.lo _ (.inr (.inr (.inr (.inr (.inr (.inr ⟨p,hsub p hp,.inr (.inr (.inr e))⟩))))))
theorem PP.jU{fds':List Fd}{ps':List dH}{n:Nat}(hsub:∀p∈ps',p∈s.pipes)(RF:∀x∈fds',x=.no∨x∈s.fds):∀q,bJ E {s with fds:=fds',pipes:=ps'} D q→bJ E s D q∨n≤q:=λq hq=>.inl (by
 rcases hq with e|e|e|e|e|e|⟨p,hp,e|⟨hf,e⟩|⟨hf,e⟩|e⟩
 ·exact(.inl e)
 ·exact(.inr (.inl e))
 ·exact(.inr (.inr (.inl e)))
 ·exact(.inr (.inr (.inr (.inl e))))
 ·exact(.inr (.inr (.inr (.inr (.inl e)))))
 ·exact(.inr (.inr (.inr (.inr (.inr (.inl e))))))
 ·exact(.inr (.inr (.inr (.inr (.inr (.inr ⟨p,hsub p hp,.inl e⟩))))))
 ·exact(.inr (.inr (.inr (.inr (.inr (.inr ⟨p,hsub p hp,.inr (.inl ⟨(RF _ hf).resolve_left (by simp),e⟩)⟩))))))
 ·exact(.inr (.inr (.inr (.inr (.inr (.inr ⟨p,hsub p hp,.inr (.inr (.inl ⟨(RF _ hf).resolve_left (by simp),e⟩))⟩))))))
 ·exact(.inr (.inr (.inr (.inr (.inr (.inr ⟨p,hsub p hp,.inr (.inr (.inr e))⟩)))))))
theorem PP.jV(k:Keep S w w')(hS:∀q,S q→q=E.pb∨q=E.ob∨q=E.cb∨∃p∈s.pipes,q=D.ch p.id∨(Fd.rd p.id∈s.fds∧q=D.re p.id)∨(Fd.wr p.id∈s.fds∧q=D.we p.id)):Keep (bJ E s D) w w':=k.mono λq hq=>by
 rcases hS q hq with e|e|e|⟨p,hp,e|e|e⟩
 ·exact(.inr (.inl e))
 ·exact(.inr (.inr (.inl e)))
 ·exact(.inr (.inr (.inr (.inl e))))
 ·exact(.inr (.inr (.inr (.inr (.inr (.inr ⟨p,hp,.inl e⟩))))))
 ·exact(.inr (.inr (.inr (.inr (.inr (.inr ⟨p,hp,.inr (.inl e)⟩))))))
 ·exact(.inr (.inr (.inr (.inr (.inr (.inr ⟨p,hp,.inr (.inr (.inl e))⟩))))))
theorem PP.c7(h:PP E w s D):w.cell? (E.kb,7)=some (.pointer (E.ob,0)):=h.hk.cell 7
theorem PP.kp(h:PP E w s D):E.kb≠E.pb:=h.hk.ne h.hb (by decide)
theorem PP.JH(h:PP E w s D){p q:dH}(hp:p∈s.pipes)(hq:q∈s.pipes)(h1:Fd.rd p.id∈s.fds)(h2:Fd.rd q.id∈s.fds)(e:D.re p.id=D.re q.id):p.id=q.id:=by
 have b1:=(h.nG p hp).r h1;have b2:=(h.nG q hq).r h2;rw[e]at b1;have c1:=b1.cell 1;rw[b2.cell]at c1;simp at c1
 exact h.inj p hp q hq c1.symm
theorem PP.JI(h:PP E w s D){p q:dH}(hp:p∈s.pipes)(hq:q∈s.pipes)(h1:Fd.wr p.id∈s.fds)(h2:Fd.wr q.id∈s.fds)(e:D.we p.id=D.we q.id):p.id=q.id:=by
 have b1:=(h.nG p hp).u h1;have b2:=(h.nG q hq).u h2;rw[e]at b1;have c1:=b1.cell 1;rw[b2.cell]at c1;simp at c1
 exact h.inj p hp q hq c1.symm
end
section
variable {E:PE} {s:St} {D:PD} {w:World} (hx:ek E) (hp:PP E w s D) (hwf:s.Wf)
include hx hp hwf
theorem Sa(x:Fd):s.fds.count x≤8:=by rw[←hwf.fl];exact List.count_le_length
theorem FW(r:Nat)(f:Fd)(hr:s.fds[r]?=some .no)(hf:f∈s.fds)(hne:f≠ .no):∃t,∃a:Nat,(f.ob E.cb D.re D.we).v=.iface t (.pointer (a,0))∧
 Calls prog 305 #[E.kb,E.pb,.int .i64 r,.iface t (.pointer (a,0))] w λe w'=>e=.returned (.tuple #[])∧∃D',zD E s D {s with fds:=s.fds.set r f} w.heap.size w D' w':=by
 have tK:r<8:=by rw[←hwf.fl];exact(bZ hr).1
 have hpl:23+r<(fM E D.re D.we s.fds).length:=by rw[Bu hx.rl,hwf.fl];omega
 have hsub:∀x∈s.fds.set r f,x=.no∨x∈s.fds:=λx hxm=>(List.mem_or_eq_of_mem_set hxm).elim .inr λe=>.inr (e▸hf);have Dk:=FP hr hf;have hset:=qL hx.rl D.re D.we s.fds r f;have hcnt:∀x,x≠ .no→x≠f→(s.fds.set r f).count x=s.fds.count x:=λx h1 h2=>by rw[kL hr h1,if_neg λe=>h2 e.symm];rfl
 have hcf:(s.fds.set r f).count f=s.fds.count f+1:=by rw[kL hr hne,if_pos rfl]
 have h8:=λx=>Sa hx hp hwf x;have hbs:∀v,Blk (w.setCell (E.pb,23+r) v) E.pb ((fM E D.re D.we s.fds).set (23+r) v) 120:=λv=>hp.hb.setCell (o:=23+r) v;have iC:∀v,Keep (λq=>q=E.pb) w (w.setCell (E.pb,23+r) v):=λv=>Keep.setCell w E.pb (23+r) v;cases f with
 | no=>exact absurd rfl hne
 | jo=>
   refine⟨_,_,rfl,tL E.kb E.ob E.pb r E.cb _ _ w _ hp.c7 hp.kp hp.hb tK hpl ((MJ _ E.cb (s.fds.count Fd.jo) _ _ _ (hp.hc.keep (iC _) (hp.hc.ne hp.hb (by decide))) (by have:=h8 Fd.jo;omega)).mono ?_)⟩;rintro e w' ⟨rfl,h1,k1⟩;have k:=((iC (.iface 107 (.pointer (E.cb,0)))).mono (S':=λq=>q=E.pb∨q=E.cb) λ_ h=>.inl h).tr (k1.mono λ_ h=>.inr h);have hS:∀q,(q=E.pb∨q=E.cb)→q=E.pb∨q=E.ob∨q=E.cb∨∃p∈s.pipes,q=D.ch p.id∨(Fd.rd p.id∈s.fds∧q=D.re p.id)∨(Fd.wr p.id∈s.fds∧q=D.we p.id):=λq hq=>hq.elim .inl λe=>.inr (.inr (.inl e));have hn:∀q cs t,Blk w q cs t→t≠120→t≠151→¬(q=E.pb∨q=E.cb):=λq cs t hb n1 n2 hq=>hq.elim (hb.ne hp.hb n1) (hb.ne hp.hc n2);refine⟨rfl,D,hp.wX k (s.fds.set r .jo) s.pipes (λ_ h=>h) hS ?_ ?_ ?_ (λp bA=>?_) hsub,PP.jV k hS,PP.jU (λ_ h=>h) hsub,λq hq=>hp.lt hq⟩
   ·have:=(hbs (.iface 107 (.pointer (some ⟨E.cb,0,none⟩)))).keep k1 (hp.hb.ne hp.hc (by decide))
    rw[show(Value.iface 107 (.pointer (E.cb,0)))=(Fd.jo.ob E.cb D.re D.we).v from rfl,hset]at this;exact this
   ·rw[Dk];exact hp.ho.keep k (hn _ _ _ hp.ho (by decide) (by decide))
   ·rw[hcf];exact h1
   ·have hpi:=hp.nG p bA
    exact hpi.same k (hn _ _ _ hpi.c (by decide) (by decide)) (λhf=>hn _ _ _ (hpi.r hf) (by decide) (by decide)) (λhf=>hn _ _ _ (hpi.u hf) (by decide) (by decide)) (λg hg=>by obtain⟨_,hb⟩:=hpi.b.blk hg;exact hn _ _ _ hb (by decide) (by decide)) (hcnt _ (by simp) (by simp)) (hcnt _ (by simp) (by simp))
 | rd i=>
   obtain⟨p0,hp0,rfl⟩:=hwf.has _ hf i (.inl rfl);have rZ:=hp.nG p0 hp0;have hr0:=rZ.r hf;refine⟨_,_,rfl,tL E.kb E.ob E.pb r (D.re p0.id) _ _ w _ hp.c7 hp.kp hp.hb tK hpl ((EF _ (D.re p0.id) (s.fds.count (Fd.rd p0.id)) _ _ _ (hr0.keep (iC _) (hr0.ne hp.hb (by decide))) (by have:=h8 (Fd.rd p0.id);omega)).mono ?_)⟩;rintro e w' ⟨rfl,h1,k1⟩;have k:=((iC (.iface 443 (.pointer (D.re p0.id,0)))).mono (S':=λq=>q=E.pb∨q=D.re p0.id) λ_ h=>.inl h).tr (k1.mono λ_ h=>.inr h);have hS:∀q,(q=E.pb∨q=D.re p0.id)→q=E.pb∨q=E.ob∨q=E.cb∨∃p∈s.pipes,q=D.ch p.id∨(Fd.rd p.id∈s.fds∧q=D.re p.id)∨(Fd.wr p.id∈s.fds∧q=D.we p.id):=λq hq=>hq.elim .inl λe=>.inr (.inr (.inr ⟨p0,hp0,.inr (.inl ⟨hf,e⟩)⟩));have hn:∀q cs t,Blk w q cs t→t≠120→t≠446→¬(q=E.pb∨q=D.re p0.id):=λq cs t hb n1 n2 hq=>hq.elim (hb.ne hp.hb n1) (hb.ne hr0 n2);refine⟨rfl,D,hp.wX k (s.fds.set r (.rd p0.id)) s.pipes (λ_ h=>h) hS ?_ ?_ ?_ (λp bA=>?_) hsub,PP.jV k hS,PP.jU (λ_ h=>h) hsub,λq hq=>hp.lt hq⟩
   ·have:=(hbs (.iface 443 (.pointer (some ⟨D.re p0.id,0,none⟩)))).keep k1 (hp.hb.ne hr0 (by decide))
    rw[show(Value.iface 443 (.pointer (D.re p0.id,0)))=((Fd.rd p0.id).ob E.cb D.re D.we).v from rfl,hset]at this;exact this
   ·rw[Dk];exact hp.ho.keep k (hn _ _ _ hp.ho (by decide) (by decide))
   ·rw[hcnt _ (by simp) (by simp)];exact hp.hc.keep k (hn _ _ _ hp.hc (by decide) (by decide))
   ·have hpi:=hp.nG p bA
    by_cases e:p.id=p0.id
    ·have b1:=hpi.c.keep k (hn _ _ _ hpi.c (by decide) (by decide))
     have b2:=hpi.b.keep k (λg hg=>by obtain⟨_,hb⟩:=hpi.b.blk hg;exact hn _ _ _ hb (by decide) (by decide));have m1:Fd.rd p.id∈s.fds.set r (.rd p0.id)↔Fd.rd p.id∈s.fds:=by rw[fC hr (by simp)];exact⟨λh=>h.elim id λe2=>by rw[e2];exact hf,.inl⟩
     have m2:Fd.wr p.id∈s.fds.set r (.rd p0.id)↔Fd.wr p.id∈s.fds:=by rw[fC hr (by simp)];exact⟨λh=>h.elim id λe2=>(by cases e2),.inl⟩
     refine⟨by simp only[m1,m2];exact b1,b2,λ_=>?_,λh=>?_⟩
     ·rw[e,hcf];exact h1
     ·rw[hcnt _ (by simp) (by simp)];exact(hpi.u (m2.1 h)).keep k (hn _ _ _ (hpi.u (m2.1 h)) (by decide) (by decide))
    ·exact hpi.same k (hn _ _ _ hpi.c (by decide) (by decide)) (λh=>λhq=>hq.elim ((hpi.r h).ne hp.hb (by decide)) λe2=>e (hp.JH bA hp0 h hf e2)) (λhf=>hn _ _ _ (hpi.u hf) (by decide) (by decide)) (λg hg=>by obtain⟨_,hb⟩:=hpi.b.blk hg;exact hn _ _ _ hb (by decide) (by decide)) (hcnt _ (by simp) (by simpa using e)) (hcnt _ (by simp) (by simp))
 | wr i=>
   obtain⟨p0,hp0,rfl⟩:=hwf.has _ hf i (.inr rfl);have rZ:=hp.nG p0 hp0;have hr0:=rZ.u hf;refine⟨_,_,rfl,tL E.kb E.ob E.pb r (D.we p0.id) _ _ w _ hp.c7 hp.kp hp.hb tK hpl ((EG _ (D.we p0.id) (s.fds.count (Fd.wr p0.id)) _ _ _ (hr0.keep (iC _) (hr0.ne hp.hb (by decide))) (by have:=h8 (Fd.wr p0.id);omega)).mono ?_)⟩;rintro e w' ⟨rfl,h1,k1⟩;have k:=((iC (.iface 447 (.pointer (D.we p0.id,0)))).mono (S':=λq=>q=E.pb∨q=D.we p0.id) λ_ h=>.inl h).tr (k1.mono λ_ h=>.inr h);have hS:∀q,(q=E.pb∨q=D.we p0.id)→q=E.pb∨q=E.ob∨q=E.cb∨∃p∈s.pipes,q=D.ch p.id∨(Fd.rd p.id∈s.fds∧q=D.re p.id)∨(Fd.wr p.id∈s.fds∧q=D.we p.id):=λq hq=>hq.elim .inl λe=>.inr (.inr (.inr ⟨p0,hp0,.inr (.inr ⟨hf,e⟩)⟩));have hn:∀q cs t,Blk w q cs t→t≠120→t≠448→¬(q=E.pb∨q=D.we p0.id):=λq cs t hb n1 n2 hq=>hq.elim (hb.ne hp.hb n1) (hb.ne hr0 n2);refine⟨rfl,D,hp.wX k (s.fds.set r (.wr p0.id)) s.pipes (λ_ h=>h) hS ?_ ?_ ?_ (λp bA=>?_) hsub,PP.jV k hS,PP.jU (λ_ h=>h) hsub,λq hq=>hp.lt hq⟩
   ·have:=(hbs (.iface 447 (.pointer (some ⟨D.we p0.id,0,none⟩)))).keep k1 (hp.hb.ne hr0 (by decide))
    rw[show(Value.iface 447 (.pointer (D.we p0.id,0)))=((Fd.wr p0.id).ob E.cb D.re D.we).v from rfl,hset]at this;exact this
   ·rw[Dk];exact hp.ho.keep k (hn _ _ _ hp.ho (by decide) (by decide))
   ·rw[hcnt _ (by simp) (by simp)];exact hp.hc.keep k (hn _ _ _ hp.hc (by decide) (by decide))
   ·have hpi:=hp.nG p bA
    by_cases e:p.id=p0.id
    ·have b1:=hpi.c.keep k (hn _ _ _ hpi.c (by decide) (by decide))
     have b2:=hpi.b.keep k (λg hg=>by obtain⟨_,hb⟩:=hpi.b.blk hg;exact hn _ _ _ hb (by decide) (by decide));have m1:Fd.rd p.id∈s.fds.set r (.wr p0.id)↔Fd.rd p.id∈s.fds:=by rw[fC hr (by simp)];exact⟨λh=>h.elim id λe2=>(by cases e2),.inl⟩
     have m2:Fd.wr p.id∈s.fds.set r (.wr p0.id)↔Fd.wr p.id∈s.fds:=by rw[fC hr (by simp)];exact⟨λh=>h.elim id λe2=>by rw[e2];exact hf,.inl⟩
     refine⟨by simp only[m1,m2];exact b1,b2,λh=>?_,λ_=>?_⟩
     ·rw[hcnt _ (by simp) (by simp)];exact(hpi.r (m1.1 h)).keep k (hn _ _ _ (hpi.r (m1.1 h)) (by decide) (by decide))
     ·rw[e,hcf];exact h1
    ·exact hpi.same k (hn _ _ _ hpi.c (by decide) (by decide)) (λhf=>hn _ _ _ (hpi.r hf) (by decide) (by decide)) (λh=>λhq=>hq.elim ((hpi.u h).ne hp.hb (by decide)) λe2=>e (hp.JI bA hp0 h hf e2)) (λg hg=>by obtain⟨_,hb⟩:=hpi.b.blk hg;exact hn _ _ _ hb (by decide) (by decide)) (hcnt _ (by simp) (by simp)) (hcnt _ (by simp) (by simpa using e))
end
end
end Go.Proofs.YtcnjjchlebmfiaaGreatDoor
