/-.-/
import Derived.Test.YtcnjjchlebmfiaaGreatDoorP23
set_option linter.all false
set_option maxRecDepth 100000
set_option maxHeartbeats 16000000
namespace Go.Proofs.YtcnjjchlebmfiaaGreatDoor
section
open Go.Proofs.Tryz Go.RowKit Go.MapKept Go.Maps Go.Shelf
theorem V7(kb pm pb:Nat)(kv:List (Int×Value))(pid:Int)(w:World)(zK : -9223372036854775808≤pid∧pid≤9223372036854775807)(c5:w.cell? (kb,5)=some (.map (some pm)))(hp:Mp kM w pm kv)(hg:bQ kv pid=some (.pointer (pb,0)))(c20:w.cell? (pb,20)=some (.int .i64 0)) :
 Calls prog 41 #[kb,pid] w (Z.e (.tuple #[pb,.nilIface]) w):=by
 have hlk:(Instr.lookup 103 (.map (some pm)) (.int .i64 pid) false).run prog w=.ok (.pointer (pb,0)) w:=by
  have h1:=hp.lookup iJ underlying103 pid (WalkArith.wf_i64 zK) false (rD w);simp only[Bool.false_eq_true,if_false]at h1
  rw[hg]at h1;exact h1
 clear hp hg;go_enter func41,ntmps41;go_wp2_with fail
 go_ret2
 exact⟨rfl,rfl⟩
theorem Jl(kb pm pb:Nat)(kv:List (Int×Value))(pid st:Int)(w:World)(zK : -9223372036854775808≤pid∧pid≤9223372036854775807)(c5:w.cell? (kb,5)=some (.map (some pm)))(hp:Mp kM w pm kv)(hg:bQ kv pid=some (.pointer (pb,0)))(c20:w.cell? (pb,20)=some (.int .i64 st))(hs:st≠0) :
 Calls prog 41 #[kb,pid] w (Z.e (.tuple #[.pointer none,fH 24]) w):=by
 have hlk:(Instr.lookup 103 (.map (some pm)) (.int .i64 pid) false).run prog w=.ok (.pointer (pb,0)) w:=by
  have h1:=hp.lookup iJ underlying103 pid (WalkArith.wf_i64 zK) false (rD w);simp only[Bool.false_eq_true,if_false]at h1
  rw[hg]at h1;exact h1
 have hne:(st != 0)=true:=bne_iff_ne.2 hs;clear hp hg;go_enter func41,ntmps41;go_wp2_with fail
 go_ret2
 exact⟨rfl,rfl⟩
end
section
open Go.Proofs.Tryz Go.RowKit Go.MapKept Go.Maps
theorem zQ.sK{S:Nat→Prop}{w w':World}{p:Option Addr}{L:List Int}(h:zQ w p L)(k:Keep S w w')(hs:∀g o,p=some ⟨g,o,none⟩→0<L.length→¬S g):zQ w' p L:=⟨h.1,λh0=>by
 obtain⟨g,o,e,cs,hb,hc⟩:=h.2 h0;exact⟨g,o,e,cs,hb.keep k (hs g o e h0),hc⟩⟩
structure zW(E:XE)(ty:List Int)(s:List Xp)(D:XD)(s':List Xp)(n:Nat)(w:World)(D':XD)(w':World):Prop where
 pp:PX E w' s' ty D'
 kept:Keep (bH E s D) w w'
 new:∀q,bH E s' D' q→bH E s D q∨n≤q
 old:∀q,bH E s D q→q<w.heap.size
structure pJ(E:XE)(ty:List Int)(s:List Xp)(D:XD)(s':List Xp)(n:Nat)(w:World)(N M:Int)(L:List Int)(N' M':Int)(p:Option Addr)(l c:Nat)(w':World):Prop where
 eN:N'=N
 eM:M'=M
 el:l=L.length
 st:∃D',zW E ty s D s' n w D' w'∧zQ w' p L∧∀g o,p=some ⟨g,o,none⟩→0<L.length→n≤g∧¬bH E s' D' g
theorem rF{cb:Nat}{p:Xp}(h:p.rs.length=16)(sb:Nat):(uh cb p sb)[18]?=some (.int .i64 (p.pid:Int)):=by
 rw[show 18=17+1 from rfl,mM h];rfl
theorem abT{cb:Nat}{p:Xp}(h:p.rs.length=16)(hl:p.live=true)(sb:Nat):(uh cb p sb)[20]?=some (.int .i64 0):=by
 rw[show 20=17+3 from rfl,mM h];simp[jZ,Xp.st,hl]
section
variable {E:XE} {ty:List Int} {s s':List Xp} {D D':XD} {n n':Nat} {w w0 w' w'':World} {N M N' M':Int} {L:List Int} {p:Option Addr} {l c:Nat}
theorem zW.box(h:zW E ty s D s' n w D' w'){b:Nat}(k:Keep (λx=>x=b) w' w'')(hb:w.heap.size≤b)(hn:b<n):zW E ty s D s' n w D' w'':=
 ⟨h.pp.keep k λq hq e=>by
   have e:q=b:=e;rcases h.new q hq with h1|h1
   ·have:=h.old q h1;omega
   ·omega,h.kept.dY k λi hi=>.inr (by have hi:i=b:=hi;omega),h.new,h.old⟩
theorem zW.bel(h:zW E ty s D s' n w D' w')(k:Bel w0 w)(hp:PX E w0 s ty D)(hn:n'≤n):zW E ty s D s' n' w0 D' w':=
 ⟨h.pp,(Keep.of_bel _ k).tr h.kept,λq hq=>(h.new q hq).imp id λh=>bU hn h,λq hq=>hp.lt hq⟩
theorem pJ.box(h:pJ E ty s D s' n w N M L N' M' p l c w'){b:Nat}(k:Keep (λx=>x=b) w' w'')(hb:w.heap.size≤b)(hn:b<n):pJ E ty s D s' n w N M L N' M' p l c w'':=by
 obtain⟨D',h1,h2,h3⟩:=h.st;exact⟨h.eN,h.eM,h.el,D',h1.box k hb hn,h2.sK k (λg o e h0 e2=>by have e2:g=b:=e2;have:=(h3 g o e h0).1;omega),h3⟩
theorem pJ.bel(h:pJ E ty s D s' n w N M L N' M' p l c w')(k:Bel w0 w)(hp:PX E w0 s ty D)(hn:n'≤n):pJ E ty s D s' n' w0 N M L N' M' p l c w':=by
 obtain⟨D',h1,h2,h3⟩:=h.st;exact⟨h.eN,h.eM,h.el,D',h1.bel k hp hn,h2,λg o e h0=>⟨bU hn (h3 g o e h0).1,(h3 g o e h0).2⟩⟩
theorem pJ.kept(h:pJ E ty s D s' n w N M L N' M' p l c w'):Keep (bH E s D) w w':=by
 obtain⟨D',h1,_⟩:=h.st;exact h1.kept
theorem pJ.weak(h:pJ E ty s D s' n w N M L N' M' p l c w')(hn:n'≤n):pJ E ty s D s' n' w N M L N' M' p l c w':=by
 obtain⟨D',h1,h2,h3⟩:=h.st;exact⟨h.eN,h.eM,h.el,D',⟨h1.pp,h1.kept,λq hq=>(h1.new q hq).imp id λh=>bU hn h,h1.old⟩,h2,λg o e h0=>⟨bU hn (h3 g o e h0).1,(h3 g o e h0).2⟩⟩
theorem zW.ans(h:zW E ty s D s' n w D' w'):pJ E ty s D s' n w N M [] N M none 0 0 w':=⟨rfl,rfl,rfl,D',h,⟨λ_ h=>(by cases h),λh=>absurd h (by simp)⟩,λ_ _ e=>(by cases e)⟩
end
def agX(E:XE)(ty:List Int)(s:List Xp)(D:XD)(pb:Nat)(s':List Xp)(N M:Int)(L:List Int)(F:Nat)(kd a b:Int)(t:ByteArray)(lp dp:Option Addr)(ln lc dn dc:Nat)(W:World):Prop:=
 Calls prog F #[E.kb,pb,.agg #[kd,a,b,t,(lp,ln,lc),(dp,dn,dc)]] W λe w'=>∃(n m:Int) (xp:Option Addr) (xn xc:Nat),e=.returned (.tuple #[.agg #[.int .i64 n,.int .i64 m,.slice xp xn xc],.nilIface])∧pJ E ty s D s' W.heap.size W N M L n m xp xn xc w'
def zL(E:XE)(ty:List Int)(s:List Xp)(D:XD)(s':List Xp)(N M:Int)(L:List Int)(pid kd a b:Int)(t:ByteArray)(lp dp:Option Addr)(ln lc dn dc:Nat)(w:World):Prop:=
 Calls prog 18 #[E.tk,pid,.agg #[kd,a,b,t,(lp,ln,lc),(dp,dn,dc)]] w λe w'=>∃(n m:Int) (xp:Option Addr) (xn xc:Nat),e=.returned (.tuple #[.agg #[.int .i64 n,.int .i64 m,.slice xp xn xc],.nilIface])∧pJ E ty s D s' w.heap.size w N M L n m xp xn xc w'
section
variable {E:XE} {ty:List Int} {s s':List Xp} {D:XD} {w:World} (hx:eY E) (hp:PX E w s ty D) (hk:fB E w) (hw:lQ E.l.a.toNat E.l.b.toNat s) {x:Xp} (hxs:x∈s) (hl:x.live=true)
include hx hp hk hw hxs hl
theorem Po:∀W,Bel w W→Calls prog 41 #[E.kb,.int .i64 (x.pid:Int)] W (Z.e (.tuple #[.pointer (D.bl x.pid,0),.nilIface]) W):=λW hW=>by
 obtain⟨kv,hm,hpm⟩:=(hp.bel hW).map;have:=(hw.MH x hxs).2;have:=hx.la;exact V7 E.kb E.pm (D.bl x.pid) kv x.pid W (by omega) ((hp.hk.bel hW).cell 5) hm (I7 hw hpm hxs) (by rw[((hp.oC x hxs).bel hW).cell];exact abT (hw.reg x hxs).1 hl _)
theorem aa8:E.tk<w.heap.size:=(hx.oz hk).lt
theorem ZG:¬bH E s D E.tk:=λhq=>hx.nv hx.ht (by unfold V5;decide) (hp.lo _ hq)
theorem MK(N M:Int)(L:List Int)(kd a b:Int)(t:ByteArray)(lp dp:Option Addr)(ln lc dn dc:Nat)
 (hd:∀W,Bel w W→Calls prog 51 #[E.kb,.pointer (D.bl x.pid,0),.agg #[kd,a,b,t,(lp,ln,lc),(dp,dn,dc)]] W λe w'=>∃(n m:Int) (xp:Option Addr) (xn xc:Nat),e=.returned (.tuple #[.agg #[.int .i64 n,.int .i64 m,.slice xp xn xc],.nilIface])∧pJ E ty s D s' W.heap.size W N M L n m xp xn xc w') :
 zL E ty s D s' N M L (x.pid:Int) kd a b t lp dp ln lc dn dc w:=by
 have htl:=aa8 hx hp hk hw hxs hl;have htf:=ZG hx hp hk hw hxs hl;refine(Gv E.tk E.kb (x.pid:Int) kd a b t lp dp ln lc dn dc w (λn m xp xn xc ev w'=>ev=.nilIface∧pJ E ty s D s' (w.heap.size+2) w N M L n m xp xn xc w') ((hx.oz hk).cell 0) λW hW hsz hbox hcall=>?_).mono ?_
 ·refine(VZ E.kb (D.bl x.pid) (x.pid:Int) kd a b t lp dp ln lc dn dc W (λn m xp xn xc ev w'=>ev=.nilIface∧pJ E ty s D s' (W.heap.size+2) W N M L n m xp xn xc w') (λW2 hW2=>Po hx (hp.bel hW) (hk.tr (Keep.of_bel _ hW)) hw hxs hl W2 hW2) λW2 hW2 hsz2 V8=>?_).mono ?_
  ·refine(hd W2 (hW.tr hW2)).mono ?_
   rintro e w' ⟨n,m,xp,xn,xc,rfl,h⟩;exact⟨n,m,xp,xn,xc,_,rfl,⟨rfl,h.bel hW2 (hp.bel hW) hsz2⟩,V8.keep h.kept λhq=>by have:=hp.lt hq;have:=hW.le;omega⟩
  ·rintro e w' ⟨n,m,xp,xn,xc,ev,w3,rfl,⟨rfl,h⟩,k⟩
   have h2:=h.box k (by omega) (by omega);refine⟨n,m,xp,xn,xc,_,rfl,⟨rfl,h2.bel hW hp (by omega)⟩,?_,?_,?_⟩
   ·rw[h2.kept.cell ⟨E.tk,0,none⟩ (Nat.lt_of_lt_of_le htl hW.le) htf]
    exact af hW ((hx.oz hk).cell 0)
   ·exact hcall.keep h2.kept λhq=>by have:=hp.lt hq;omega
   ·exact hbox.keep h2.kept λhq=>by have:=hp.lt hq;omega
 ·rintro e w' ⟨n,m,xp,xn,xc,ev,w3,rfl,⟨rfl,h⟩,k⟩
  exact⟨n,m,xp,xn,xc,rfl,(h.box k (by omega) (by omega)).weak (by omega)⟩
theorem V9(N M:Int)(L:List Int)(F:Nat)(kd a b:Int)(t:ByteArray)(lp dp:Option Addr)(ln lc dn dc:Nat)(hcf:∀(args:Array Value) (W:World),(callFunc F args).run prog W=.ok (.enter F args) W)
 (hH:∀W,Calls prog 88 #[kd] W (Z.e (.func (.func F) #[] #[]) W))(hC:∀W,Bel w W→agX E ty s D (D.bl x.pid) s' N M L F kd a b t lp dp ln lc dn dc W) :
 zL E ty s D s' N M L (x.pid:Int) kd a b t lp dp ln lc dn dc w:=by
 refine MK hx hp hk hw hxs hl N M L kd a b t lp dp ln lc dn dc λW hW=>?_;refine(ad2 E.kb (D.bl x.pid) F kd a b t lp dp ln lc dn dc W hcf (λn m xp xn xc w'=>pJ E ty s D s' (W.heap.size+2) W N M L n m xp xn xc w') hH λW2 hW2 hsz hbox=>?_).mono ?_
 ·refine(hC W2 (hW.tr hW2)).mono ?_
  rintro e w' ⟨n,m,xp,xn,xc,rfl,h⟩;exact⟨n,m,xp,xn,xc,rfl,h.bel hW2 (hp.bel hW) hsz,hbox.keep h.kept λhq=>by have:=hp.lt hq;have:=hW.le;omega⟩
 ·rintro e w' ⟨n,m,xp,xn,xc,w3,rfl,h,k⟩
  exact⟨n,m,xp,xn,xc,rfl,(h.box k (by omega) (by omega)).weak (by omega)⟩
theorem Gz(N:Int)(G:Nat)(kd a b:Int)(t:ByteArray)(lp dp:Option Addr)(ln lc dn dc:Nat)(hcf:∀(args:Array Value) (W:World),(callFunc G args).run prog W=.ok (.enter G args) W)
 (hH:∀W,Calls prog 88 #[kd] W λe w'=>e=.returned (.func (.func 221) #[] #[W.heap.size])∧w'.cell? (W.heap.size,0)=some (.func (.func G) #[] #[])∧W.heap.size<w'.heap.size∧Bel W w')
 (hC:∀W,Bel w W→Calls prog G #[E.kb,.pointer (D.bl x.pid,0),.agg #[kd,a,b,t,(lp,ln,lc),(dp,dn,dc)]] W λe w'=>e=.returned (.tuple #[N,.nilIface])∧∃D',zW E ty s D s' W.heap.size W D' w') :
 zL E ty s D s' N 0 [] (x.pid:Int) kd a b t lp dp ln lc dn dc w:=by
 refine MK hx hp hk hw hxs hl N 0 [] kd a b t lp dp ln lc dn dc λW hW=>?_;refine(VY E.kb (D.bl x.pid) 221 G kd a b t lp dp ln lc dn dc W (λargs W=>by kernel_rfl) (λn m xp xn xc w'=>pJ E ty s D s' (W.heap.size+2) W N 0 [] n m xp xn xc w') hH λW2 hW2 hsz hbox q hq hqc=>?_).mono ?_
 ·refine(yT E.kb (D.bl x.pid) q G kd a b t lp dp ln lc dn dc W2 hcf hqc (λn ev w'=>n=N∧ev=.nilIface∧∃D',zW E ty s D s' (W2.heap.size+2) W2 D' w') λW3 hW3 hsz3 AX=>?_).mono ?_
  ·refine(hC W3 ((hW.tr hW2).tr hW3)).mono ?_
   rintro e w' ⟨rfl,D',h⟩;exact⟨_,_,rfl,⟨rfl,rfl,D',h.bel hW3 (hp.bel (hW.tr hW2)) hsz3⟩,AX.keep h.kept λhq=>by have:=hp.lt hq;have:=hW.le;have:=hW2.le;omega⟩
  ·rintro e w' ⟨n,ev,w3,rfl,⟨rfl,rfl,D',h⟩,k⟩
   have h2:=h.box k (by omega) (by omega);exact⟨_,_,_,_,_,rfl,(h2.bel hW2 (hp.bel hW) (by omega)).ans,hbox.keep h2.kept λhq=>by have:=hp.lt hq;have:=hW.le;omega⟩
 ·rintro e w' ⟨n,m,xp,xn,xc,w3,rfl,h,k⟩
  exact⟨n,m,xp,xn,xc,rfl,(h.box k (by omega) (by omega)).weak (by omega)⟩
theorem I8(G:Nat)(kd a b:Int)(t:ByteArray)(lp dp:Option Addr)(ln lc dn dc:Nat)(hcf:∀(args:Array Value) (W:World),(callFunc G args).run prog W=.ok (.enter G args) W)
 (hH:∀W,Calls prog 88 #[kd] W λe w'=>e=.returned (.func (.func 225) #[] #[W.heap.size])∧w'.cell? (W.heap.size,0)=some (.func (.func G) #[] #[])∧W.heap.size<w'.heap.size∧Bel W w')
 (hC:∀W,Bel w W→Calls prog G #[E.kb,.pointer (D.bl x.pid,0),.agg #[kd,a,b,t,(lp,ln,lc),(dp,dn,dc)]] W λe w'=>e=.returned .nilIface∧∃D',zW E ty s D s' W.heap.size W D' w') :
 zL E ty s D s' 0 0 [] (x.pid:Int) kd a b t lp dp ln lc dn dc w:=by
 refine MK hx hp hk hw hxs hl 0 0 [] kd a b t lp dp ln lc dn dc λW hW=>?_;refine(VY E.kb (D.bl x.pid) 225 G kd a b t lp dp ln lc dn dc W (λargs W=>by kernel_rfl) (λn m xp xn xc w'=>pJ E ty s D s' (W.heap.size+2) W 0 0 [] n m xp xn xc w') hH λW2 hW2 hsz hbox q hq hqc=>?_).mono ?_
 ·refine(Eu E.kb (D.bl x.pid) q G kd a b t lp dp ln lc dn dc W2 hcf hqc (λev w'=>ev=.nilIface∧∃D',zW E ty s D s' (W2.heap.size+2) W2 D' w') λW3 hW3 hsz3 AX=>?_).mono ?_
  ·refine(hC W3 ((hW.tr hW2).tr hW3)).mono ?_
   rintro e w' ⟨rfl,D',h⟩;exact⟨_,rfl,⟨rfl,D',h.bel hW3 (hp.bel (hW.tr hW2)) hsz3⟩,AX.keep h.kept λhq=>by have:=hp.lt hq;have:=hW.le;have:=hW2.le;omega⟩
  ·rintro e w' ⟨ev,w3,rfl,⟨rfl,D',h⟩,k⟩
   have h2:=h.box k (by omega) (by omega);exact⟨_,_,_,_,_,rfl,(h2.bel hW2 (hp.bel hW) (by omega)).ans,hbox.keep h2.kept λhq=>by have:=hp.lt hq;have:=hW.le;omega⟩
 ·rintro e w' ⟨n,m,xp,xn,xc,w3,rfl,h,k⟩
  exact⟨n,m,xp,xn,xc,rfl,(h.box k (by omega) (by omega)).weak (by omega)⟩
end
def jQ(E:XE)(f pid kd a b:Int)(t:ByteArray)(lp dp:Option Addr)(ln lc dn dc:Nat)(w:World):Prop:=
 Calls prog 18 #[E.tk,pid,.agg #[kd,a,b,t,(lp,ln,lc),(dp,dn,dc)]] w λe w'=>∃ev,e=.returned (.tuple #[.agg #[(0:Int),(0:Int),()],ev])∧Bel w w'∧(ev=.iface 48 (.int .i64 f)∨∃c,ev=.iface 226 (.pointer (c,0))∧Blk w' c [pid,f] 228∧w.heap.size≤c)
theorem fU{w w' w'':World}(k:Bel w w'){b:Nat}(k2:Keep (λx=>x=b) w' w'')(hb:w.heap.size≤b):Bel w w'':=by
 have k3:=(Keep.of_bel (λx=>x=b) k).tr k2;exact⟨k3.os,k3.tape,k3.output,k3.size,λx hx=>k3.block x hx (by omega)⟩
section
variable {E:XE} {ty:List Int} {s s':List Xp} {D:XD} {w:World} (hx:eY E) (hp:PX E w s ty D) (hk:fB E w) (hw:lQ E.l.a.toNat E.l.b.toNat s) {x:Xp} (hxs:x∈s) (hl:x.live=true)
include hx hp hk hw hxs hl
theorem zX(f:Int)(kd a b:Int)(t:ByteArray)(lp dp:Option Addr)(ln lc dn dc:Nat)
 (hd:∀W,Bel w W→Calls prog 51 #[E.kb,.pointer (D.bl x.pid,0),.agg #[kd,a,b,t,(lp,ln,lc),(dp,dn,dc)]] W λe w'=>∃ev,e=.returned (.tuple #[.agg #[(0:Int),(0:Int),()],ev])∧Bel W w'∧(ev=.iface 48 (.int .i64 f)∨∃c,ev=.iface 226 (.pointer (c,0))∧Blk w' c [.int .i64 (x.pid:Int),f] 228∧W.heap.size≤c)) :
 jQ E f (x.pid:Int) kd a b t lp dp ln lc dn dc w:=by
 have htl:=aa8 hx hp hk hw hxs hl;refine(Gv E.tk E.kb (x.pid:Int) kd a b t lp dp ln lc dn dc w (λn m xp xn xc ev w'=>n=0∧m=0∧xp=none∧xn=0∧xc=0∧Bel w w'∧(ev=.iface 48 (.int .i64 f)∨∃c,ev=.iface 226 (.pointer (c,0))∧Blk w' c [.int .i64 (x.pid:Int),f] 228∧w.heap.size+2≤c)) ((hx.oz hk).cell 0) λW hW hsz hbox hcall=>?_).mono ?_
 ·refine(VZ E.kb (D.bl x.pid) (x.pid:Int) kd a b t lp dp ln lc dn dc W (λn m xp xn xc ev w'=>n=0∧m=0∧xp=none∧xn=0∧xc=0∧Bel W w'∧(ev=.iface 48 (.int .i64 f)∨∃c,ev=.iface 226 (.pointer (c,0))∧Blk w' c [.int .i64 (x.pid:Int),f] 228∧W.heap.size+2≤c)) (λW2 hW2=>Po hx (hp.bel hW) (hk.tr (Keep.of_bel _ hW)) hw hxs hl W2 hW2) λW2 hW2 hsz2 V8=>?_).mono ?_
  ·refine(hd W2 (hW.tr hW2)).mono ?_
   rintro e w' ⟨ev,rfl,hb,hc⟩;refine⟨_,_,_,_,_,ev,rfl,⟨rfl,rfl,rfl,rfl,rfl,hW2.tr hb,hc.imp id ?_⟩,V8.bel hb⟩;rintro⟨c,h1,h2,h3⟩;exact⟨c,h1,h2,by omega⟩
  ·rintro e w' ⟨n,m,xp,xn,xc,ev,w3,rfl,⟨rfl,rfl,rfl,rfl,rfl,hb,hc⟩,k⟩
   have hb2:=fU hb k (by omega);refine⟨_,_,_,_,_,ev,rfl,⟨rfl,rfl,rfl,rfl,rfl,hW.tr hb2,hc.imp id ?_⟩,af (hW.tr hb2) ((hx.oz hk).cell 0),hcall.bel hb2,hbox.bel hb2⟩;rintro⟨c,h1,h2,h3⟩;exact⟨c,h1,h2.keep k (by show ¬c=_;omega),by omega⟩
 ·rintro e w' ⟨n,m,xp,xn,xc,ev,w3,rfl,⟨rfl,rfl,rfl,rfl,rfl,hb,hc⟩,k⟩
  refine⟨ev,rfl,fU hb k (by omega),hc.imp id ?_⟩;rintro⟨c,h1,h2,h3⟩;exact⟨c,h1,h2.keep k (by show ¬c=_;omega),by omega⟩
theorem We(kd a b:Int)(t:ByteArray)(lp dp:Option Addr)(ln lc dn dc:Nat)(hkd:kd<0∨62≤kd):jQ E 23 (x.pid:Int) kd a b t lp dp ln lc dn dc w:=
 zX hx hp hk hw hxs hl 23 kd a b t lp dp ln lc dn dc λW hW=>(ZC E.kb (D.bl x.pid) kd a b t lp dp ln lc dn dc W λW2=>IX kd W2 hkd).mono λe w' h=>⟨_,h.1,h.2,.inl rfl⟩
theorem GG(f:Int)(F:Nat)(kd a b:Int)(t:ByteArray)(lp dp:Option Addr)(ln lc dn dc:Nat)(hcf:∀(args:Array Value) (W:World),(callFunc F args).run prog W=.ok (.enter F args) W)
 (hH:∀W,Calls prog 88 #[kd] W (Z.e (.func (.func F) #[] #[]) W))
 (hC:∀W,Bel w W→Calls prog F #[E.kb,.pointer (D.bl x.pid,0),.agg #[kd,a,b,t,(lp,ln,lc),(dp,dn,dc)]] W λe w'=>∃(n m:Int) (xp:Option Addr) (xn xc:Nat),e=.returned (.tuple #[.agg #[.int .i64 n,.int .i64 m,.slice xp xn xc],.iface 48 (.int .i64 f)])∧Bel W w') :
 jQ E f (x.pid:Int) kd a b t lp dp ln lc dn dc w:=by
 refine zX hx hp hk hw hxs hl f kd a b t lp dp ln lc dn dc λW hW=>?_;refine(abR E.kb (D.bl x.pid) F kd a b t lp dp ln lc dn dc W hcf (x.pid:Int) f (λw'=>Bel w w'∧Bel W w') (λW2 h=>hx.Pm (hk.tr (Keep.of_bel _ h.1))) (Nat.lt_of_lt_of_le (hp.oC x hxs).lt hW.le) (λW2 h=>by rw[((hp.oC x hxs).bel h.1).cell];exact rF (hw.reg x hxs).1 _) hH λW2 hW2 hsz hbox=>?_).mono ?_
 ·refine(hC W2 (hW.tr hW2)).mono ?_
  rintro e w' ⟨n,m,xp,xn,xc,rfl,h⟩;exact⟨n,m,xp,xn,xc,rfl,⟨(hW.tr hW2).tr h,hW2.tr h⟩,hbox.bel h⟩
 ·rintro e w' ⟨c,w3,rfl,h1,⟨_,h2⟩,k,h3⟩
  exact⟨_,rfl,fU h2 k (by omega),.inr ⟨c,rfl,h1,h3⟩⟩
theorem jR(f:Int)(G:Nat)(kd a b:Int)(t:ByteArray)(lp dp:Option Addr)(ln lc dn dc:Nat)(hcf:∀(args:Array Value) (W:World),(callFunc G args).run prog W=.ok (.enter G args) W)
 (hH:∀W,Calls prog 88 #[kd] W λe w'=>e=.returned (.func (.func 221) #[] #[W.heap.size])∧w'.cell? (W.heap.size,0)=some (.func (.func G) #[] #[])∧W.heap.size<w'.heap.size∧Bel W w')
 (hC:∀W,Bel w W→Calls prog G #[E.kb,.pointer (D.bl x.pid,0),.agg #[kd,a,b,t,(lp,ln,lc),(dp,dn,dc)]] W λe w'=>∃n,e=.returned (.tuple #[.int .i64 n,.iface 48 (.int .i64 f)])∧Bel W w') :
 jQ E f (x.pid:Int) kd a b t lp dp ln lc dn dc w:=by
 refine zX hx hp hk hw hxs hl f kd a b t lp dp ln lc dn dc λW hW=>?_;refine(Ph E.kb (D.bl x.pid) 221 G kd a b t lp dp ln lc dn dc W (λargs W=>by kernel_rfl) (x.pid:Int) f (λw'=>Bel w w'∧Bel W w') (λW2 h=>hx.Pm (hk.tr (Keep.of_bel _ h.1))) (Nat.lt_of_lt_of_le (hp.oC x hxs).lt hW.le) (λW2 h=>by rw[((hp.oC x hxs).bel h.1).cell];exact rF (hw.reg x hxs).1 _) hH λW2 hW2 hsz hbox q hq hqc=>?_).mono ?_
 ·refine(yT E.kb (D.bl x.pid) q G kd a b t lp dp ln lc dn dc W2 hcf hqc (λn ev w'=>ev=.iface 48 (.int .i64 f)∧Bel W2 w') λW3 hW3 hsz3 AX=>?_).mono ?_
  ·refine(hC W3 ((hW.tr hW2).tr hW3)).mono ?_
   rintro e w' ⟨n,rfl,h⟩;exact⟨_,_,rfl,⟨rfl,hW3.tr h⟩,AX.bel h⟩
  ·rintro e w' ⟨n,ev,w3,rfl,⟨rfl,h⟩,k⟩
   have h2:=fU h k (by omega);exact⟨_,_,_,_,_,rfl,⟨(hW.tr hW2).tr h2,hW2.tr h2⟩,hbox.bel h2⟩
 ·rintro e w' ⟨c,w3,rfl,h1,⟨_,h2⟩,k,h3⟩
  exact⟨_,rfl,fU h2 k (by omega),.inr ⟨c,rfl,h1,h3⟩⟩
theorem wH(f:Int)(G:Nat)(kd a b:Int)(t:ByteArray)(lp dp:Option Addr)(ln lc dn dc:Nat)(hcf:∀(args:Array Value) (W:World),(callFunc G args).run prog W=.ok (.enter G args) W)
 (hH:∀W,Calls prog 88 #[kd] W λe w'=>e=.returned (.func (.func 225) #[] #[W.heap.size])∧w'.cell? (W.heap.size,0)=some (.func (.func G) #[] #[])∧W.heap.size<w'.heap.size∧Bel W w')
 (hC:∀W,Bel w W→Calls prog G #[E.kb,.pointer (D.bl x.pid,0),.agg #[kd,a,b,t,(lp,ln,lc),(dp,dn,dc)]] W (Z.b (.iface 48 (.int .i64 f)) W)) :
 jQ E f (x.pid:Int) kd a b t lp dp ln lc dn dc w:=by
 refine zX hx hp hk hw hxs hl f kd a b t lp dp ln lc dn dc λW hW=>?_;refine(Ph E.kb (D.bl x.pid) 225 G kd a b t lp dp ln lc dn dc W (λargs W=>by kernel_rfl) (x.pid:Int) f (λw'=>Bel w w'∧Bel W w') (λW2 h=>hx.Pm (hk.tr (Keep.of_bel _ h.1))) (Nat.lt_of_lt_of_le (hp.oC x hxs).lt hW.le) (λW2 h=>by rw[((hp.oC x hxs).bel h.1).cell];exact rF (hw.reg x hxs).1 _) hH λW2 hW2 hsz hbox q hq hqc=>?_).mono ?_
 ·refine(Eu E.kb (D.bl x.pid) q G kd a b t lp dp ln lc dn dc W2 hcf hqc (λev w'=>ev=.iface 48 (.int .i64 f)∧Bel W2 w') λW3 hW3 hsz3 AX=>?_).mono ?_
  ·refine(hC W3 ((hW.tr hW2).tr hW3)).mono ?_
   rintro e w' ⟨rfl,h⟩;exact⟨_,rfl,⟨rfl,hW3.tr h⟩,AX.bel h⟩
  ·rintro e w' ⟨ev,w3,rfl,⟨rfl,h⟩,k⟩
   have h2:=fU h k (by omega);exact⟨_,_,_,_,_,rfl,⟨(hW.tr hW2).tr h2,hW2.tr h2⟩,hbox.bel h2⟩
 ·rintro e w' ⟨c,w3,rfl,h1,⟨_,h2⟩,k,h3⟩
  exact⟨_,rfl,fU h2 k (by omega),.inr ⟨c,rfl,h1,h3⟩⟩
end
end
section
open Go.Proofs.Tryz Go.RowKit Go.MapKept Go.Maps Go.Shelf
def aeC(kd:Int)(G:Nat):Prop:=∀W,Calls prog 88 #[kd] W (Z.e (.func (.func G) #[] #[]) W)
def Xy(kd:Int)(F G:Nat):Prop:=∀W,Calls prog 88 #[kd] W λe w'=>e=.returned (.func (.func F) #[] #[W.heap.size])∧w'.cell? (W.heap.size,0)=some (.func (.func G) #[] #[])∧W.heap.size<w'.heap.size∧Bel W w'
theorem Bd:Xy 1 221 152:=λw=>by
 go_enter func88,ntmps88;go_wp2_with (go_at_call 151;((with_reducible refine aH (rC _ _) ?_);rintro e w2 ⟨rfl,h1,h2,h3⟩;have H2:=xh (And.intro h1 (And.intro h2 h3));clear h1 h2 h3))
 go_ret
 exact⟨rfl,H2.o⟩
theorem yc:Xy 17 221 167:=λw=>by
 go_enter func88,ntmps88;go_wp2_with (go_at_call 151;((with_reducible refine aH (rC _ _) ?_);rintro e w2 ⟨rfl,h1,h2,h3⟩;have H2:=xh (And.intro h1 (And.intro h2 h3));clear h1 h2 h3))
 go_ret
 exact⟨rfl,H2.o⟩
theorem Jk:Xy 2 225 155:=λw=>by
 go_enter func88,ntmps88;go_wp2_with (go_at_call 154;((with_reducible refine aH (Ew _ _) ?_);rintro e w2 ⟨rfl,h1,h2,h3⟩;have H2:=xh (And.intro h1 (And.intro h2 h3));clear h1 h2 h3))
 go_ret
 exact⟨rfl,H2.o⟩
theorem Jg:Xy 3 225 156:=λw=>by
 go_enter func88,ntmps88;go_wp2_with (go_at_call 154;((with_reducible refine aH (Ew _ _) ?_);rintro e w2 ⟨rfl,h1,h2,h3⟩;have H2:=xh (And.intro h1 (And.intro h2 h3));clear h1 h2 h3))
 go_ret
 exact⟨rfl,H2.o⟩
theorem Je:aeC 4 157:=λw=>by
 go_enter func88,ntmps88;go_wp2
 go_ret
 exact⟨rfl,rfl⟩
theorem Nz(w:World):Calls prog 171 #[(18:Int)] w (Z.e (.func (.func 245) #[] #[]) w):=by
 go_enter func171,ntmps171;go_wp2
 go_ret
 exact⟨rfl,rfl⟩
theorem xX:aeC 18 245:=λw=>by
 go_enter func88,ntmps88;go_wp2_with (go_at_call 171;((with_reducible refine aH (Nz _) ?_);rintro e w2 ⟨rfl,rfl⟩))
 go_ret
 exact⟨rfl,rfl⟩
theorem NC(w:World):Calls prog 171 #[(19:Int)] w λe w'=>e=.returned (.func (.func 221) #[] #[w.heap.size])∧w'.cell? (w.heap.size,0)=some (.func (.func 246) #[] #[])∧w.heap.size<w'.heap.size∧Bel w w':=by
 go_enter func171,ntmps171;go_wp2_with (go_at_call 151;((with_reducible refine aH (rC _ _) ?_);rintro e w2 ⟨rfl,h1,h2,h3⟩;have H2:=xh (And.intro h1 (And.intro h2 h3));clear h1 h2 h3))
 go_ret
 exact⟨rfl,H2.o⟩
theorem xZ:Xy 19 221 246:=λw=>by
 go_enter func88,ntmps88;go_wp2_with (go_at_call 171;((with_reducible refine aH (NC _) ?_);rintro e w2 ⟨rfl,h1,h2,h3⟩;have H2:=xh (And.intro h1 (And.intro h2 h3));clear h1 h2 h3))
 go_ret
 exact⟨rfl,H2.o⟩
section
variable (kb pb:Nat) (kd a b:Int) (s:ByteArray) (lp dp:Option Addr) (ln lc dn dc:Nat) (w:World)
theorem yh(R:Int→Value→World→Prop)(hF:∀W,Bel w W→Calls prog 153 #[kb,pb] W λe w'=>∃n ev,e=.returned (.tuple #[.int .i64 n,ev])∧R n ev w') :
 Calls prog 152 #[kb,pb,.agg #[.int .i64 kd,.int .i64 a,.int .i64 b,.string s,.slice lp ln lc,.slice dp dn dc]] w λe w'=>∃n ev,e=.returned (.tuple #[.int .i64 n,ev])∧R n ev w':=by
 have k1:Bel w (w.alloc (.cells #[.int .i64 kd,.int .i64 a,.int .i64 b,.string s,.slice lp ln lc,.slice dp dn dc] 68)):=Bel.start w _;have HF:=xh (hF _ k1);clear k1 hF;go_enter func152,ntmps152;go_wp2_with (go_at_call 153;((with_reducible refine aH HF.o ?_);rintro e w3 ⟨n,ev,rfl,r3⟩;have H3:=xh r3;clear r3))
 go_ret2
 exact⟨n,ev,rfl,H3.o⟩
theorem A8(R:Int→Value→World→Prop)(hF:∀W,Bel w W→Calls prog 168 #[kb,pb,.int .i64 a] W λe w'=>∃n ev,e=.returned (.tuple #[.int .i64 n,ev])∧R n ev w') :
 Calls prog 167 #[kb,pb,.agg #[.int .i64 kd,.int .i64 a,.int .i64 b,.string s,.slice lp ln lc,.slice dp dn dc]] w λe w'=>∃n ev,e=.returned (.tuple #[.int .i64 n,ev])∧R n ev w':=by
 have k1:Bel w (w.alloc (.cells #[.int .i64 kd,.int .i64 a,.int .i64 b,.string s,.slice lp ln lc,.slice dp dn dc] 68)):=Bel.start w _;have HF:=xh (hF _ k1);clear k1 hF;go_enter func167,ntmps167;go_wp2_with (go_at_call 168;((with_reducible refine aH HF.o ?_);rintro e w3 ⟨n,ev,rfl,r3⟩;have H3:=xh r3;clear r3))
 go_ret2
 exact⟨n,ev,rfl,H3.o⟩
theorem EI(R:Value→World→Prop)(hF:∀W,Bel w W→Calls prog 57 #[kb,pb,.string s,.slice lp ln lc] W λe w'=>∃ev,e=.returned ev∧R ev w') :
 Calls prog 155 #[kb,pb,.agg #[.int .i64 kd,.int .i64 a,.int .i64 b,.string s,.slice lp ln lc,.slice dp dn dc]] w λe w'=>∃ev,e=.returned ev∧R ev w':=by
 have k1:Bel w (w.alloc (.cells #[.int .i64 kd,.int .i64 a,.int .i64 b,.string s,.slice lp ln lc,.slice dp dn dc] 68)):=Bel.start w _;have HF:=xh (hF _ k1);clear k1 hF;go_enter func155,ntmps155;go_wp2_with (go_at_call 57;((with_reducible refine aH HF.o ?_);rintro e w3 ⟨ev,rfl,r3⟩;have H3:=xh r3;clear r3))
 go_ret
 exact⟨ev,rfl,H3.o⟩
def AZ(a:Int):Int:=uA a%256
theorem RI(c18:w.cell? (pb,18)=some (.int .i64 1)):Calls prog 156 #[kb,pb,.agg #[.int .i64 kd,.int .i64 a,.int .i64 b,.string s,.slice lp ln lc,.slice dp dn dc]] w (Z.b (.iface 48 (.int .i64 18)) w):=by
 have k1:Bel w (w.alloc (.cells #[.int .i64 kd,.int .i64 a,.int .i64 b,.string s,.slice lp ln lc,.slice dp dn dc] 68)):=Bel.start w _;have c18:=af k1 c18;have hpl:=World.block_lt_of_cell? _ _ c18;have HK:=xh k1;clear k1;go_enter func156,ntmps156;go_wp2
 go_ret
 exact⟨rfl,HK.o⟩
theorem RJ(pid:Int)(hp:pid≠1)(c18:w.cell? (pb,18)=some (.int .i64 pid))(R:World→Prop)(hF:∀W,Bel w W→Calls prog 43 #[kb,pb,.int .i64 (AZ a)] W λe w'=>e=.returned (.tuple #[])∧R w') :
 Calls prog 156 #[kb,pb,.agg #[.int .i64 kd,.int .i64 a,.int .i64 b,.string s,.slice lp ln lc,.slice dp dn dc]] w λe w'=>e=.returned .nilIface∧R w':=by
 have k1:Bel w (w.alloc (.cells #[.int .i64 kd,.int .i64 a,.int .i64 b,.string s,.slice lp ln lc,.slice dp dn dc] 68)):=Bel.start w _;have c18:=af k1 c18;have hpl:=World.block_lt_of_cell? _ _ c18;have HF:=xh (hF _ k1);have hpe:(pid==1)=false:=dK hp;have hwu:=lS a;have hw2:wrap64 ((uA a).tmod 256)=AZ a:=by rw[Int.tmod_eq_emod_of_nonneg (kQ a).1];unfold AZ wrap64;omega
 clear k1 hF hp;go_enter func156,ntmps156;go_wp2_with (go_at_call 43;((with_reducible refine aH HF.o ?_);rintro e w3 ⟨rfl,r3⟩;have H3:=xh r3;clear r3))
 go_ret
 exact⟨rfl,H3.o⟩
theorem EG(R:Int→Int→Value→World→Prop)(hF:∀W,Bel w W→w.heap.size+2≤W.heap.size→Blk W (w.heap.size+1) [(0:Int),(0:Int),()] 62→Calls prog 158 #[kb,pb] W λe w'=>∃n m ev,e=.returned (.tuple #[.agg #[.int .i64 n,.int .i64 m,()],ev])∧R n m ev w'∧Blk w' (w.heap.size+1) [(0:Int),(0:Int),()] 62) :
 Calls prog 157 #[kb,pb,.agg #[.int .i64 kd,.int .i64 a,.int .i64 b,.string s,.slice lp ln lc,.slice dp dn dc]] w λe w'=>∃(n m:Int) (ev:Value) (w0:World),e=.returned (.tuple #[.agg #[.int .i64 n,.int .i64 m,()],ev])∧R n m ev w0∧Keep (λx=>x=w.heap.size+1) w0 w':=by
 have k2:Bel w ((w.alloc (.cells #[.int .i64 kd,.int .i64 a,.int .i64 b,.string s,.slice lp ln lc,.slice dp dn dc] 68)).alloc (.cells #[(0:Int),(0:Int),()] 62)):=(Bel.start w _).ac _;have HF:=xh (hF _ k2 (by simp) (Blk.dF _ [(0:Int),(0:Int),()] _ (by simp)));clear k2 hF;go_enter func157,ntmps157;go_wp2_with (go_at_call 158;((with_reducible refine aH HF.o ?_);rintro e w3 ⟨n,m,ev,rfl,r3,h3⟩;have H3:=xh (And.intro r3 h3);have x0:=h3.cell 0;have x1:=h3.cell 1;have x2:=h3.cell 2;have xf:=h3.frozen;have xl:=h3.lt;clear r3 h3))
 (try simp only[Exit.inBlock,Exit.then])
 exact gV (q:=w.heap.size+1) rfl rfl (((H3.o.2.setCell (o:=0) _).setCell (o:=1) _).setCell (o:=2) _) rfl ⟨n,m,ev,w3,rfl,H3.o.1,((Keep.setCell _ _ _ _).tr (Keep.setCell _ _ _ _)).tr (Keep.setCell _ _ _ _)⟩
end
end
section
open Go.RowKit Go.Maps
def rG(m:ax)(n:Nat):Option Int:=(m n).map Pg.perm
def DI(m:ax)(a:Nat):Int:=((m (a/256)).map λp=>p.bytes.getD (a%256) 0).getD 0
theorem lq{m:ax}(h:bF m):ah (rG m) (DI m)=m:=by
 funext n
 unfold ah rG DI;cases e:m n with
 | none=>rfl
 | some p=>
   have hw:=h.wf n p e;simp only[Option.map_some]
   congr 1
   obtain⟨pp,pb⟩:=p;congr 1
   have hl:pb.length=256:=hw.len;apply List.ext_getElem?
   intro j;by_cases hj:j<256
   ·rw[fA,List.getElem?_range hj]
    simp only[Option.map_some]
    rw[show(256*n+j)/256=n from by omega,show(256*n+j)%256=j from by omega,e];simp only[Option.map_some,Option.getD_some,List.getD_eq_getElem?_getD]
    rw[bT (by omega)];rfl
   ·rw[List.getElem?_eq_none (by simp;omega),List.getElem?_eq_none (by omega)]
theorem sW{m:ax}(h:bF m)(a:Nat):0≤DI m a∧DI m a≤255:=by
 unfold DI;cases e:m (a/256)with
 | none=>simp
 | some p=>
   have hw:=h.wf _ p e;simp only[Option.map_some,Option.getD_some,List.getD_eq_getElem?_getD]
   cases e2:p.bytes[a%256]? with
   | none=>simp
   | some x=>have:=hw.byte x (List.mem_of_getElem? e2);exact⟨this.1,this.2⟩
theorem I9{m:ax}(h:bF m)(n:Nat)(hn:256≤n):rG m n=none:=by unfold rG;rw[h.below n hn];rfl
theorem Ja{m:ax}(h:bF m)(n:Nat)(p:Int)(hp:rG m n=some p):0≤p∧p≤7:=by
 unfold rG at hp;obtain⟨q,hq,rfl⟩:=Option.map_eq_some_iff.1 hp;exact(h.wf n q hq).perm
def lZ(m:ax)(A:Nat)(d:List Int):ax:=ah (rG m) (aW (DI m) A d)
def uD(m:ax)(A n:Nat):List Int:=(List.range n).map λi=>DI m (A+i)
theorem Wh{m:ax}(h:bF m)(A:Nat){d:List Int}(hd:∀x∈d,iR x):bF (lZ m A d):=⟨λn hn=>by unfold lZ ah;rw[I9 h n hn];rfl,λn p hp=>by
 unfold lZ ah at hp;obtain⟨q,hq,rfl⟩:=Option.map_eq_some_iff.1 hp;refine⟨by simp,λx hx=>?_,Ja h n q hq⟩;obtain⟨i,_,rfl⟩:=List.mem_map.1 hx;exact AY (sW h) hd _⟩
theorem uX(m:ax)(A:Nat)(d:List Int)(n:Nat):(lZ m A d n).isSome=(m n).isSome:=by
 unfold lZ ah rG;cases m n<;>rfl
theorem rH{m m':ax}(h:∀n,(m' n).isSome=(m n).isSome):ag m'=ag m:=by
 unfold ag;apply List.filter_congr
 intro n _;exact h n
def yU:ax:=λ_=>none
def Xp.kid(pid:Nat)(p:Xp):Xp:=if p.par=pid then{p with par:=1}else p
def Xp.zom(st:Int)(p:Xp):Xp:={p with live:=false,sv:=st,M:=yU}
def iw(pid:Nat)(st:Int)(ps:List Xp):List Xp:=ps.map λp=>if p.pid=pid then(p.kid pid).zom st else p.kid pid
def mZ(own:Nat)(p:Xp):Bool:=p.par==own&&!p.live
open Classical in
noncomputable def kN(l:List ByteArray):Bool:=decide (l.length≤8∧Good l)
inductive yV (lp lf:Nat) (T:List Nd) (ps:List Xp) (pid:Int):Int→Int→Int→ByteArray→List ByteArray→List Int→Int→Int→Int→List Int→List Xp→Prop
 | none (k a b:Int) (t:ByteArray) (l:List ByteArray) (d:List Int):(∀p∈ps,(p.pid:Int)≠pid)→yV lp lf T ps pid k a b t l d 0 0 18 [] ps
 | dead (k a b:Int) (t:ByteArray) (l:List ByteArray) (d:List Int) (p:Xp):p∈ps→(p.pid:Int)=pid→p.live=false→yV lp lf T ps pid k a b t l d 0 0 24 [] ps
 | call (k a b:Int) (t:ByteArray) (l:List ByteArray) (d:List Int) (p:Xp):p∈ps→(p.pid:Int)=pid→p.live=true→k<0∨62≤k→yV lp lf T ps pid k a b t l d 0 0 23 [] ps
 | Pq (a b:Int) (t:ByteArray) (l:List ByteArray) (d:List Int) (p:Xp):p∈ps→(p.pid:Int)=pid→p.live=true→lp≤ps.length→yV lp lf T ps pid 1 a b t l d 0 0 19 [] ps
 | ZH (a b:Int) (t:ByteArray) (l:List ByteArray) (d:List Int) (p:Xp):p∈ps→(p.pid:Int)=pid→p.live=true→ps.length<lp→lf<aI ps+p.n→yV lp lf T ps pid 1 a b t l d 0 0 7 [] ps
 | fork (a b:Int) (t:ByteArray) (l:List ByteArray) (d:List Int) (p:Xp) (r:Nat):p∈ps→(p.pid:Int)=pid→p.live=true→ps.length<lp→aI ps+p.n≤lf→1≤r→r≤lp→r-1≤ps.length→(∀j,1≤j→j<r→∃p,ps[j-1]?=some p∧p.pid=j)→(∀j p,ps[j]?=some p→p.pid≠r∧(j<r-1→p.pid<r)∧(r-1≤j→r<p.pid))→yV lp lf T ps pid 1 a b t l d r 0 0 [] (ps.take (r-1)++{p with pid:=r,par:=p.pid}::ps.drop (r-1))
 | ZI (a b:Int) (t:ByteArray) (l:List ByteArray) (d:List Int) (p:Xp):p∈ps→(p.pid:Int)=pid→p.live=true→dM T t.data.toList (kN l) p.n (aI ps) lf≠0→yV lp lf T ps pid 2 a b t l d 0 0 (dM T t.data.toList (kN l) p.n (aI ps) lf:Nat) [] ps
 | exec (a b:Int) (t:ByteArray) (l:List ByteArray) (d:List Int) (p:Xp) (i:Nat):ps[i]?=some p→(p.pid:Int)=pid→p.live=true→dM T t.data.toList (kN l) p.n (aI ps) lf=0→yV lp lf T ps pid 2 a b t l d 0 0 0 [] (ps.set i {p with pc:=numAt (aY T t.data.toList) 24 8,rs:=List.replicate 15 0++[iq (aK l) l.length],M:=aN (bG (aY T t.data.toList)) l})
 | ex1 (a b:Int) (t:ByteArray) (l:List ByteArray) (d:List Int) (p:Xp):p∈ps→(p.pid:Int)=pid→p.live=true→pid=1→yV lp lf T ps pid 3 a b t l d 0 0 18 [] ps
 | exit (a b:Int) (t:ByteArray) (l:List ByteArray) (d:List Int) (p:Xp):p∈ps→(p.pid:Int)=pid→p.live=true→pid≠1→yV lp lf T ps pid 3 a b t l d 0 0 0 [] (iw p.pid (AZ a) ps)
 | wno (a b:Int) (t:ByteArray) (l:List ByteArray) (d:List Int) (p:Xp):p∈ps→(p.pid:Int)=pid→p.live=true→(∀q∈ps,mZ p.pid q=false)→yV lp lf T ps pid 4 a b t l d 0 0 (if ps.any (λq=>q.par==p.pid)then 16 else 17) [] ps
 | wait (a b:Int) (t:ByteArray) (l:List ByteArray) (d:List Int) (p z:Xp) (i:Nat):p∈ps→(p.pid:Int)=pid→p.live=true→ps[i]?=some z→mZ p.pid z=true→(∀j q,j<i→ps[j]?=some q→mZ p.pid q=false)→yV lp lf T ps pid 4 a b t l d z.pid z.sv 0 [] (ps.take i++ps.drop (i+1))
 | ZJ (a b:Int) (t:ByteArray) (l:List ByteArray) (d:List Int) (p:Xp):p∈ps→(p.pid:Int)=pid→p.live=true→a<0∨64<a→yV lp lf T ps pid 17 a b t l d 0 0 6 [] ps
 | ZK (k tp:Nat) (b:Int) (t:ByteArray) (l:List ByteArray) (d:List Int) (p:Xp):p∈ps→(p.pid:Int)=pid→p.live=true→k≤64→kT p.M tp→lf<aI ps+k∨254<tp+k→yV lp lf T ps pid 17 k b t l d 0 0 7 [] ps
 | brk (k tp:Nat) (b:Int) (t:ByteArray) (l:List ByteArray) (d:List Int) (p:Xp) (i:Nat):ps[i]?=some p→(p.pid:Int)=pid→p.live=true→k≤64→kT p.M tp→aI ps+k≤lf→tp+k≤254→yV lp lf T ps pid 17 k b t l d (tp*256:Nat) 0 0 [] (ps.set i {p with M:=dD p.M tp k})
 | ZL (a b:Int) (t:ByteArray) (l:List ByteArray) (d:List Int) (p:Xp):p∈ps→(p.pid:Int)=pid→p.live=true→b<0∨4096<b→yV lp lf T ps pid 18 a b t l d 0 0 6 [] ps
 | ZM (a:Int) (n:Nat) (t:ByteArray) (l:List ByteArray) (d:List Int) (p:Xp):p∈ps→(p.pid:Int)=pid→p.live=true→n≤4096→gz p.M (uA a) n 4=false→yV lp lf T ps pid 18 a n t l d 0 0 7 [] ps
 | peek (a:Int) (n:Nat) (t:ByteArray) (l:List ByteArray) (d:List Int) (p:Xp):p∈ps→(p.pid:Int)=pid→p.live=true→n≤4096→gz p.M (uA a) n 4=true→yV lp lf T ps pid 18 a n t l d n 0 0 (uD p.M (uA a).toNat n) ps
 | ZN (a b:Int) (t:ByteArray) (l:List ByteArray) (d:List Int) (p:Xp):p∈ps→(p.pid:Int)=pid→p.live=true→4096<d.length→yV lp lf T ps pid 19 a b t l d 0 0 6 [] ps
 | ZO (a b:Int) (t:ByteArray) (l:List ByteArray) (d:List Int) (p:Xp):p∈ps→(p.pid:Int)=pid→p.live=true→d.length≤4096→gz p.M (uA a) d.length 2=false→yV lp lf T ps pid 19 a b t l d 0 0 7 [] ps
 | ZP (a b:Int) (t:ByteArray) (l:List ByteArray) (d:List Int) (p:Xp) (i:Nat):ps[i]?=some p→(p.pid:Int)=pid→p.live=true→d.length≤4096→gz p.M (uA a) d.length 2=true→yV lp lf T ps pid 19 a b t l d d.length 0 0 [] (ps.set i {p with M:=lZ p.M (uA a).toNat d})
theorem abU(m:ax):∃t,kT m t:=by
 have key:∀n,n≤254→∃t,(∀i,i<n→(m i).isSome=true→i<t)∧t≤n∧(t=0∨∃i,i<254∧(m i).isSome=true∧t=i+1):=by
  intro n
  induction n with
  | zero=>exact λ_=>⟨0,λi hi=>absurd hi (by omega),bM _,.inl rfl⟩
  | succ n ih=>
    intro hn;obtain⟨t,h1,h2,h3⟩:=ih (by omega);by_cases c:(m n).isSome=true
    ·refine⟨n+1,λi hi _=>hi,bM _,.inr ⟨n,by omega,c,rfl⟩⟩
    ·refine⟨t,λi hi hs=>?_,by omega,h3⟩
     rcases Nat.lt_or_ge i n with d|d
     ·exact h1 i d hs
     ·obtain rfl:i=n:=by omega
      exact absurd hs c
 obtain⟨t,h1,_,h3⟩:=key 254 (bM _);exact⟨t,h1,h3⟩
theorem Q9{lp lf:Nat}(T:List Nd){ps:List Xp}(h:lQ lp lf ps)(pid k a b:Int)(t:ByteArray)(l:List ByteArray)(d:List Int)(hk:k<0∨62≤k∨k=1∨k=2∨k=3∨k=4∨k=17∨k=18∨k=19):∃N M f L ps',yV lp lf T ps pid k a b t l d N M f L ps':=by
 by_cases hp:∀p∈ps,(p.pid:Int)≠pid
 ·exact⟨_,_,_,_,_,.none k a b t l d hp⟩
 ·obtain⟨p,hps,e⟩:∃p,p∈ps∧(p.pid:Int)=pid:=by
   apply Classical.byContradiction
   intro hn;exact hp λp hps e=>hn ⟨p,hps,e⟩
  cases hl:p.live with
  | false=>exact⟨_,_,_,_,_,.dead k a b t l d p hps e hl⟩
  | true=>
    obtain⟨i,hi⟩:=List.getElem?_of_mem hps;rcases hk with hk|hk|rfl|rfl|rfl|rfl|rfl|rfl|rfl
    ·exact⟨_,_,_,_,_,.call k a b t l d p hps e hl (.inl hk)⟩
    ·exact⟨_,_,_,_,_,.call k a b t l d p hps e hl (.inr hk)⟩
    ·rcases h.least with⟨h1,_⟩|⟨h1,r,h2,h3,h4,h5,h6⟩
     ·exact⟨_,_,_,_,_,.Pq a b t l d p hps e hl h1⟩
     ·rcases Nat.lt_or_ge lf (aI ps+p.n)with c|c
      ·exact⟨_,_,_,_,_,.ZH a b t l d p hps e hl h1 c⟩
      ·exact⟨_,_,_,_,_,.fork a b t l d p r hps e hl h1 c h2 h3 h4 h5 h6⟩
    ·by_cases c:dM T t.data.toList (kN l) p.n (aI ps) lf=0
     ·exact⟨_,_,_,_,_,.exec a b t l d p i hi e hl c⟩
     ·exact⟨_,_,_,_,_,.ZI a b t l d p hps e hl c⟩
    ·by_cases c:pid=1
     ·exact⟨_,_,_,_,_,.ex1 a b t l d p hps e hl c⟩
     ·exact⟨_,_,_,_,_,.exit a b t l d p hps e hl c⟩
    ·by_cases c:∀q∈ps,mZ p.pid q=false
     ·exact⟨_,_,_,_,_,.wno a b t l d p hps e hl c⟩
     ·obtain⟨z,hz,hzz⟩:∃z,z∈ps∧mZ p.pid z=true:=by
       apply Classical.byContradiction
       intro hn;exact c λq hq=>by
        cases e2:mZ p.pid q with
        | false=>rfl
        | true=>exact absurd ⟨q,hq,e2⟩ hn
      have key:∀(n j:Nat) (z:Xp),j≤n→ps[j]?=some z→mZ p.pid z=true→∃(i:Nat) (z:Xp),ps[i]?=some z∧mZ p.pid z=true∧∀j q,j<i→ps[j]?=some q→mZ p.pid q=false:=by
       intro n
       induction n with
       | zero=>exact λj z hj hz h2=>⟨j,z,hz,h2,λj' q h3=>absurd h3 (by omega)⟩
       | succ n ih=>
         intro j z hj hz h2;by_cases c2:∃j' q,j'<j∧ps[j']?=some q∧mZ p.pid q=true
         ·obtain⟨j',q,h3,h4,h5⟩:=c2
          exact ih j' q (by omega) h4 h5
         ·exact⟨j,z,hz,h2,λj' q h3 h4=>by
           cases e2:mZ p.pid q with
           | false=>rfl
           | true=>exact absurd ⟨j',q,h3,h4,e2⟩ c2⟩
      obtain⟨j,hj⟩:=List.getElem?_of_mem hz;obtain⟨i2,z2,h1,h2,h3⟩:=key j j z (bM _) hj hzz;exact⟨_,_,_,_,_,.wait a b t l d p z2 i2 hps e hl h1 h2 h3⟩
    ·by_cases c:a<0∨64<a
     ·exact⟨_,_,_,_,_,.ZJ a b t l d p hps e hl c⟩
     ·obtain⟨n,rfl⟩:∃n:Nat,a=n:=⟨a.toNat,by omega⟩
      obtain⟨tp,htp⟩:=abU p.M;by_cases c2:lf<aI ps+n∨254<tp+n
      ·exact⟨_,_,_,_,_,.ZK n tp b t l d p hps e hl (by omega) htp c2⟩
      ·exact⟨_,_,_,_,_,.brk n tp b t l d p i hi e hl (by omega) htp (by omega) (by omega)⟩
    ·by_cases c:b<0∨4096<b
     ·exact⟨_,_,_,_,_,.ZL a b t l d p hps e hl c⟩
     ·obtain⟨n,rfl⟩:∃n:Nat,b=n:=⟨b.toNat,by omega⟩
      cases c2:gz p.M (uA a) n 4 with
      | false=>exact⟨_,_,_,_,_,.ZM a n t l d p hps e hl (by omega) c2⟩
      | true=>exact⟨_,_,_,_,_,.peek a n t l d p hps e hl (by omega) c2⟩
    ·rcases Nat.lt_or_ge 4096 d.length with c|c
     ·exact⟨_,_,_,_,_,.ZN a b t l d p hps e hl c⟩
     ·cases c2:gz p.M (uA a) d.length 2 with
      | false=>exact⟨_,_,_,_,_,.ZO a b t l d p hps e hl c c2⟩
      | true=>exact⟨_,_,_,_,_,.ZP a b t l d p i hi e hl c c2⟩
theorem sZ{ps:List Xp}{i:Nat}{p q:Xp}(hi:ps[i]?=some p):aI (ps.set i q)+p.n=aI ps+q.n:=by
 induction ps generalizing i with
 | nil=>cases hi
 | cons a l ih=>
   cases i with
   | zero=>
     simp only[List.getElem?_cons_zero,Option.some.injEq]at hi
     subst hi;rw[List.set_cons_zero,dh,dh];omega
   | succ i=>
     rw[List.getElem?_cons_succ]at hi;have:=ih hi;rw[List.set_cons_succ,dh,dh];omega
theorem ny{ps:List Xp}{p:Xp}(h:p∈ps):p.n≤aI ps:=by
 induction ps with
 | nil=>cases h
 | cons a l ih=>
   rw[dh];rcases List.mem_cons.1 h with rfl|h2
   ·omega
   ·have:=ih h2;omega
section
variable {lp lf:Nat} {ps:List Xp}
theorem lQ.turn(h:lQ lp lf ps){i:Nat}{p q:Xp}(hi:ps[i]?=some p)(hl:p.live=true)(e1:q.pid=p.pid)(e2:q.par=p.par)(e3:q.live=true)(hr:q.rs.length=16∧(∀x∈q.rs,U x)∧U q.pc∧0≤q.sv∧q.sv≤255)(ho:bF q.M)(hs:∃y,254≤y∧(q.M y).isSome=true)(hf:aI ps-p.n+q.n≤lf):lQ lp lf (ps.set i q):=by
 have hm:(ps.set i q).map Xp.pid=ps.map Xp.pid:=by
  rw[List.map_set];apply List.ext_getElem?
  intro j;by_cases e:j=i
  ·subst e
   obtain⟨hl2,hp⟩:=bV hi;rw[List.getElem?_set_self (by simpa using hl2),fA,hi];simp[e1]
  ·rw[List.getElem?_set_ne (λh=>e h.symm)]
 have hmem:∀x∈ps.set i q,x∈ps∨x=q:=λx hx=>List.mem_or_eq_of_mem_set hx;have hp:=List.mem_of_getElem? hi;have hu:=sZ (q:=q) hi;have hpn:=ny hp;refine⟨?_,by rw[hm];exact h.sort,λx hx=>?_,λx hx=>?_,λx hx=>?_,λx hx=>?_,λx hx hxl=>?_,λx hx hxl=>?_,by omega⟩
 ·obtain⟨a,r,e,h1,h2⟩:=h.head
  subst e;cases i with
  | zero=>
    simp only[List.getElem?_cons_zero,Option.some.injEq]at hi
    subst hi;exact⟨q,r,rfl,e1.trans h1,e3⟩
  | succ i=>exact⟨a,r.set i q,rfl,h1,h2⟩
 ·rcases hmem x hx with h1|rfl
  ·exact h.MH x h1
  ·rw[e1];exact h.MH p hp
 ·rcases hmem x hx with h1|rfl
  ·exact h.par x h1
  ·rw[e2];exact h.par p hp
 ·rcases hmem x hx with h1|rfl
  ·exact h.reg x h1
  ·exact hr
 ·rcases hmem x hx with h1|rfl
  ·exact h.ok x h1
  ·exact ho
 ·rcases hmem x hx with h1|rfl
  ·exact h.live x h1 hxl
  ·exact hs
 ·rcases hmem x hx with h1|rfl
  ·exact h.dead x h1 hxl
  ·rw[e3]at hxl;cases hxl
theorem Pv(pid:Nat)(p:Xp):(p.kid pid).pid=p.pid:=by unfold Xp.kid;split<;>rfl
theorem dX(pid:Nat)(p:Xp):(p.kid pid).live=p.live∧(p.kid pid).M=p.M∧(p.kid pid).rs=p.rs∧(p.kid pid).pc=p.pc∧(p.kid pid).sv=p.sv:=by unfold Xp.kid;split<;>exact⟨rfl,rfl,rfl,rfl,rfl⟩
def gI(pid:Nat)(st:Int)(p:Xp):Xp:=if p.pid=pid then(p.kid pid).zom st else p.kid pid
theorem gX(pid:Nat)(st:Int)(p:Xp):(gI pid st p).pid=p.pid:=by
 unfold gI;split
 ·exact Pv pid p
 ·exact Pv pid p
theorem Wi:bF yU:=⟨λ_ _=>rfl,λn p hp=>by cases hp⟩
theorem wI:(ag yU).length=0:=by
 unfold ag yU;rw[List.length_eq_zero_iff,List.filter_eq_nil_iff];intro n _;simp
theorem abV(pid:Nat)(st:Int)(p:Xp):(gI pid st p).n≤p.n:=by
 unfold gI;split
 ·show(ag yU).length≤_
  rw[wI];omega
 ·unfold Xp.n
  rw[(dX pid p).2.1];exact bM _
theorem lQ.ended(h:lQ lp lf ps){pid:Nat}(zK:pid≠1){st:Int}(hst:0≤st∧st≤255):lQ lp lf (iw pid st ps):=by
 have hm:∀x∈iw pid st ps,∃p∈ps,x=gI pid st p:=λx hx=>by
  obtain⟨p,hp,e⟩:=List.mem_map.1 hx;exact⟨p,hp,e.symm⟩
 have hl:1≤lp:=by
  obtain⟨a,r,e,h1,_⟩:=h.head;have:=(h.MH a (by rw[e];exact List.mem_cons_self ..)).2;omega
 refine⟨?_,?_,λx hx=>?_,λx hx=>?_,λx hx=>?_,λx hx=>?_,λx hx hxl=>?_,λx hx hxl=>?_,?_⟩
 ·obtain⟨a,r,e,h1,h2⟩:=h.head
  subst e;refine⟨gI pid st a,r.map (gI pid st),rfl,(gX pid st a).trans h1,?_⟩;unfold gI;rw[if_neg (by omega),(dX pid a).1];exact h2
 ·have:(iw pid st ps).map Xp.pid=ps.map Xp.pid:=by
   unfold iw;rw[List.map_map];exact List.map_congr_left λp _=>gX pid st p
  rw[this];exact h.sort
 ·obtain⟨p,hp,rfl⟩:=hm x hx
  rw[gX];exact h.MH p hp
 ·obtain⟨p,hp,rfl⟩:=hm x hx
  have h1:=h.par p hp;have h2:(p.kid pid).par≤lp:=by unfold Xp.kid;split;exact hl;exact h1
  unfold gI;split
  ·exact h2
  ·exact h2
 ·obtain⟨p,hp,rfl⟩:=hm x hx
  have h1:=h.reg p hp;obtain⟨_,_,k3,k4,k5⟩:=dX pid p;unfold gI;split
  ·refine⟨?_,?_,?_,hst.1,hst.2⟩
   ·show(p.kid pid).rs.length=16;rw[k3];exact h1.1
   ·show ∀x∈(p.kid pid).rs,U x;rw[k3];exact h1.2.1
   ·show U (p.kid pid).pc;rw[k4];exact h1.2.2.1
  ·rw[k3,k4,k5];exact h1
 ·obtain⟨p,hp,rfl⟩:=hm x hx
  unfold gI;split
  ·exact Wi
  ·rw[(dX pid p).2.1];exact h.ok p hp
 ·obtain⟨p,hp,rfl⟩:=hm x hx
  unfold gI at hxl⊢;split at hxl
  ·cases hxl
  ·rename_i c
   rw[if_neg c,(dX pid p).2.1];rw[(dX pid p).1]at hxl;exact h.live p hp hxl
 ·obtain⟨p,hp,rfl⟩:=hm x hx
  unfold gI at hxl⊢;split
  ·exact λ_=>rfl
  ·rename_i c
   rw[if_neg c,(dX pid p).1]at hxl;rw[(dX pid p).2.1];exact h.dead p hp hxl
 ·refine bU ?_ h.fr
  have key:∀l:List Xp,aI (l.map (gI pid st))≤aI l:=λl=>by
   induction l with
   | nil=>exact bM _
   | cons a l ih=>
     rw[List.map_cons,dh,dh];have:=abV pid st a;omega
  exact key ps
theorem lQ.gone(h:lQ lp lf ps){i:Nat}{z:Xp}(hi:ps[i]?=some z)(hz:z.live=false):lQ lp lf (ps.take i++ps.drop (i+1)):=by
 have hsub:(ps.take i++ps.drop (i+1)).Sublist ps:=by
  have h1:(ps.drop (i+1)).Sublist (ps.drop i):=by
   rw[←List.drop_drop];exact List.drop_sublist _ _
  have h2:=(List.Sublist.refl (ps.take i)).append h1
  rwa [List.take_append_drop]at h2
 have hm:∀x∈ps.take i++ps.drop (i+1),x∈ps:=λx hx=>hsub.mem hx;refine⟨?_,h.sort.sublist (hsub.map Xp.pid),λx hx=>h.MH x (hm x hx),λx hx=>h.par x (hm x hx),λx hx=>h.reg x (hm x hx),λx hx=>h.ok x (hm x hx),λx hx=>h.live x (hm x hx),λx hx=>h.dead x (hm x hx),?_⟩
 ·obtain⟨a,r,e,h1,h2⟩:=h.head
  subst e;cases i with
  | zero=>
    simp only[List.getElem?_cons_zero,Option.some.injEq]at hi
    subst hi;rw[h2]at hz;cases hz
  | succ i=>exact⟨a,r.take i++r.drop (i+1),rfl,h1,h2⟩
 ·have h1:aI ps=aI (ps.take i)+aI (ps.drop i):=by rw[←gW,List.take_append_drop]
  have hl:=(bV hi).1;rw[List.drop_eq_getElem_cons hl,dh]at h1;rw[gW];have:=h.fr;omega
theorem lQ.born(h:lQ lp lf ps){p:Xp}(hp:p∈ps)(hl:p.live=true){r:Nat}(hr1:1≤r)(hr:r≤lp)(hA:r-1≤ps.length)(hin:∀j,1≤j→j<r→∃p,ps[j-1]?=some p∧p.pid=j)(hne:∀j p,ps[j]?=some p→p.pid≠r∧(j<r-1→p.pid<r)∧(r-1≤j→r<p.pid))(hf:aI ps+p.n≤lf):lQ lp lf (ps.take (r-1)++{p with pid:=r,par:=p.pid}::ps.drop (r-1)):=by
 obtain⟨c,hc⟩:∃c:Xp,c={p with pid:=r,par:=p.pid}:=⟨_,rfl⟩;rw[←hc];have e1:c.pid=r:=by rw[hc]
 have e2:c.par=p.pid:=by rw[hc]
 have e3:c.live=true:=by rw[hc];exact hl
 have e4:c.M=p.M∧c.rs=p.rs∧c.pc=p.pc∧c.sv=p.sv:=by rw[hc];exact⟨rfl,rfl,rfl,rfl⟩
 have hm:∀x∈ps.take (r-1)++c::ps.drop (r-1),x∈ps∨x=c:=λx hx=>by
  rcases List.mem_append.1 hx with h1|h1
  ·exact .inl (List.mem_of_mem_take h1)
  ·rcases List.mem_cons.1 h1 with h2|h2
   ·exact .inr h2
   ·exact .inl (List.mem_of_mem_drop h2)
 have hr2:2≤r:=by
  obtain⟨a,l,e,h1,_⟩:=h.head;have:=(hne 0 a (by rw[e];rfl)).1;omega
 have hps:=h.sort;rw[List.pairwise_map]at hps;refine⟨?_,?_,λx hx=>?_,λx hx=>?_,λx hx=>?_,λx hx=>?_,λx hx hxl=>?_,λx hx hxl=>?_,?_⟩
 ·obtain⟨a,l,e,h1,h2⟩:=h.head
  rw[e,show r-1=(r-2)+1 from by omega];exact⟨a,_,rfl,h1,h2⟩
 ·rw[List.pairwise_map,List.pairwise_append,List.pairwise_cons]
  refine⟨hps.sublist (List.take_sublist _ _),⟨λx hx=>?_,hps.sublist (List.drop_sublist _ _)⟩,λx hx y hy=>?_⟩
  ·obtain⟨j,hj⟩:=List.getElem?_of_mem hx
   rw[List.getElem?_drop]at hj;rw[e1];exact(hne _ x hj).2.2 (by omega)
  ·obtain⟨j,hj⟩:=List.getElem?_of_mem hx
   rw[List.getElem?_take]at hj;split at hj
   ·rename_i hjr
    have hx1:=(hne _ x hj).2.1 hjr;rcases List.mem_cons.1 hy with rfl|hy
    ·rw[e1];exact hx1
    ·obtain⟨j2,hj2⟩:=List.getElem?_of_mem hy
     rw[List.getElem?_drop]at hj2;have:=(hne _ y hj2).2.2 (by omega);omega
   ·cases hj
 ·rcases hm x hx with h1|rfl
  ·exact h.MH x h1
  ·rw[e1];exact⟨hr1,hr⟩
 ·rcases hm x hx with h1|rfl
  ·exact h.par x h1
  ·rw[e2];exact(h.MH p hp).2
 ·rcases hm x hx with h1|rfl
  ·exact h.reg x h1
  ·rw[e4.2.1,e4.2.2.1,e4.2.2.2];exact h.reg p hp
 ·rcases hm x hx with h1|rfl
  ·exact h.ok x h1
  ·rw[e4.1];exact h.ok p hp
 ·rcases hm x hx with h1|rfl
  ·exact h.live x h1 hxl
  ·rw[e4.1];exact h.live p hp hl
 ·rcases hm x hx with h1|rfl
  ·exact h.dead x h1 hxl
  ·rw[e3]at hxl;cases hxl
 ·have h1:aI ps=aI (ps.take (r-1))+aI (ps.drop (r-1)):=by rw[←gW,List.take_append_drop]
  have h2:c.n=p.n:=by unfold Xp.n;rw[e4.1]
  rw[gW,dh];omega
theorem tq(m:ax)(A n:Nat):(uD m A n).length=n:=by simp[uD]
theorem Rf{m:ax}(h:bF m)(t k:Nat)(ht:t+k≤254):bF (dD m t k):=⟨λn hn=>by unfold dD;rw[if_neg (by omega)];exact h.below n hn,λn p hp=>by
 unfold dD at hp;by_cases c:t≤n∧n<t+k
 ·rw[if_pos c]at hp
  cases hp
  exact⟨by simp[jS],λx hx=>by have e:x=0:=List.eq_of_mem_replicate hx;subst e;exact⟨by omega,by omega⟩,by simp[jS]⟩
 ·rw[if_neg c]at hp
  exact h.wf n p hp⟩
theorem filter_or{p q r:Nat→Bool}(l:List Nat)(h:∀a,p a=true→q a=true∨r a=true):(l.filter p).length≤(l.filter q).length+(l.filter r).length:=by
 induction l with
 | nil=>simp
 | cons a l ih=>
   simp only[List.filter_cons]
   have:=h a;cases hp:p a<;>cases hq:q a<;>cases hr:r a<;>simp_all<;>omega
theorem A7{L:List Nd}{path:List UInt8}{zY:Bool}{own used mf:Nat}(h:dM L path zY own used mf=0):zY=true∧used-own+(ag (bG (aY L path))).length+2≤mf:=by
 unfold dM at h;unfold aY;split at h
 ·rename_i h1;exact absurd h h1
 ·split at h
  ·cases h
  ·cases hx:L[(az L path).2.2.1-1]? with
   | none=>rw[hx]at h;cases h
   | some x=>
     rw[hx]at h;simp only at h
     split at h
     ·cases h
     ·split at h
      ·rename_i h3;exact absurd h h3
      ·split at h
       ·cases h
       ·rename_i h4
        split at h
        ·cases h
        ·rename_i h5
         exact⟨by simpa using h4,by simp only[Option.map_some,Option.getD_some];omega⟩
theorem ZQ(m:ax)(t k:Nat)(h:bF (dD m t k)):(ag (dD m t k)).length≤(ag m).length+k:=by
 unfold ag;have h2:((List.range 256).filter λn=>decide (t≤n∧n<t+k)).length≤k:=by
  have hs:((List.range 256).filter λn=>decide (t≤n∧n<t+k)).length≤((List.range k).map (t + ·)).length:=by
   apply List.Nodup.length_le_of_subset
   ·exact List.nodup_range.filter _
   ·intro x hx
    have:=(List.mem_filter.1 hx).2;simp at this
    exact List.mem_map.2 ⟨x-t,List.mem_range.2 (by omega),by omega⟩
  simpa using hs
 have:=filter_or (List.range 256) (p:=λn=>(dD m t k n).isSome) (q:=λn=>(m n).isSome) (r:=λn=>decide (t≤n∧n<t+k)) λa ha=>by
  by_cases c:t≤a∧a<t+k
  ·exact .inr (decide_eq_true c)
  ·refine .inl ?_
   unfold dD at ha
   rwa [if_neg c]at ha
 omega
theorem yV.wf{T:List Nd}{pid k a b:Int}{t:ByteArray}{l:List ByteArray}{d:List Int}{N M f:Int}{L:List Int}{ps':List Xp}(o:yV lp lf T ps pid k a b t l d N M f L ps')(h:lQ lp lf ps)(hd:∀x∈d,iR x)(hT:∀x∈T,∀y∈x.byt,0≤y∧y≤255):lQ lp lf ps'∧L.length≤4096∧f≠ -2∧(f≠0→L=[]):=by
 cases o with
 | none=>exact⟨h,by simp,by omega,λ_=>rfl⟩
 | dead=>exact⟨h,by simp,by omega,λ_=>rfl⟩
 | call=>exact⟨h,by simp,by omega,λ_=>rfl⟩
 | Pq=>exact⟨h,by simp,by omega,λ_=>rfl⟩
 | ZH=>exact⟨h,by simp,by omega,λ_=>rfl⟩
 | fork _ _ _ _ _ p r h1 h2 h3 h4 h5 h6 h7 h8 h9 h10=>exact⟨h.born h1 h3 h6 h7 h8 h9 h10 h5,by simp,by omega,λh=>absurd rfl h⟩
 | ZI=>exact⟨h,by simp,by omega,λ_=>rfl⟩
 | exec _ _ _ _ _ p i h1 h2 h3 h4=>
   refine⟨?_,by simp,by omega,λh=>absurd rfl h⟩;obtain⟨hld,x,hx,hB⟩:=nH h4;have hby:∀y∈aY T t.data.toList,0≤y∧y≤255:=by rw[hB];exact hT x hx
   obtain⟨hok,hlow⟩:=ni hby hld;have agY:kN l=true∧aI ps-p.n+(ag (bG (aY T t.data.toList))).length+2≤lf:=A7 h4;have hg:l.length≤8∧Good l:=by
    have:=agY.1
    simpa only[kN,decide_eq_true_eq]using this
   have hsp:=rJ l hg.2 hg.1;have hsb:=l9 l hg.2 hg.1;have hn:(ag (aN (bG (aY T t.data.toList)) l)).length=(ag (bG (aY T t.data.toList))).length+2:=by rw[iH _ _ hlow];simp
   have hr:=h.reg p (List.mem_of_getElem? h1);refine h.turn h1 h3 rfl rfl h3 ⟨by simp,λy hy=>?_,jo _ hby 24 8 (by omega),hr.2.2.2⟩ (wJ hok hg.2 hg.1) ⟨254,by omega,?_⟩ ?_
   ·rcases List.mem_append.1 hy with h5|h5
    ·have e:y=0:=List.eq_of_mem_replicate h5
     rw[e];unfold U;omega
    ·rw[List.mem_singleton.1 h5]
     unfold U;omega
   ·show(aN (bG (aY T t.data.toList)) l 254).isSome=true
    unfold aN;rw[if_pos (.inl rfl)];rfl
   ·show aI ps-p.n+(ag (aN (bG (aY T t.data.toList)) l)).length≤lf
    rw[hn];omega
 | ex1=>exact⟨h,by simp,by omega,λ_=>rfl⟩
 | exit _ _ _ _ _ p h1 h2 h3 h4=>exact⟨h.ended (by omega) (by unfold AZ;omega),by simp,by omega,λh=>absurd rfl h⟩
 | wno=>exact⟨h,by simp,by split<;>omega,λ_=>rfl⟩
 | wait _ _ _ _ _ p z i h1 h2 h3 h4 h5=>exact⟨h.gone h4 (by unfold mZ at h5;simp at h5;exact h5.2),by simp,by omega,λh=>absurd rfl h⟩
 | ZJ=>exact⟨h,by simp,by omega,λ_=>rfl⟩
 | ZK=>exact⟨h,by simp,by omega,λ_=>rfl⟩
 | brk k tp _ _ _ _ p i h1 h2 h3 h4 h5 h6 h7=>
   have hp:=List.mem_of_getElem? h1;have hok:=Rf (h.ok p hp) tp k h7;obtain⟨y,hy1,hy2⟩:=h.live p hp h3;have hn:=ZQ p.M tp k hok;have hu:=ny hp;refine⟨h.turn h1 h3 rfl rfl h3 (h.reg p hp) hok ⟨y,hy1,?_⟩ ?_,by simp,by omega,λh=>absurd rfl h⟩
   ·show(dD p.M tp k y).isSome=true
    unfold dD;rw[if_neg (by omega)];exact hy2
   ·show aI ps-p.n+(ag (dD p.M tp k)).length≤lf
    unfold Xp.n at hu⊢;omega
 | ZL=>exact⟨h,by simp,by omega,λ_=>rfl⟩
 | ZM=>exact⟨h,by simp,by omega,λ_=>rfl⟩
 | peek _ n _ _ _ p h1 h2 h3 h4 h5=>exact⟨h,by rw[tq];omega,by omega,λh=>absurd rfl h⟩
 | ZN=>exact⟨h,by simp,by omega,λ_=>rfl⟩
 | ZO=>exact⟨h,by simp,by omega,λ_=>rfl⟩
 | ZP _ _ _ _ _ p i h1 h2 h3 h4 h5=>
   have hp:=List.mem_of_getElem? h1;obtain⟨y,hy1,hy2⟩:=h.live p hp h3;have hn:=rH (uX p.M (uA a).toNat d);have hu:=ny hp;have hf:=h.fr;refine⟨h.turn h1 h3 rfl rfl h3 (h.reg p hp) (Wh (h.ok p hp) _ hd) ⟨y,hy1,?_⟩ ?_,by simp,by omega,λh=>absurd rfl h⟩
   ·show(lZ p.M (uA a).toNat d y).isSome=true
    rw[uX];exact hy2
   ·show aI ps-p.n+(ag (lZ p.M (uA a).toNat d)).length≤lf
    rw[hn];unfold Xp.n at hu⊢;omega
end
end
section
open Go.RowKit Go.MapKept Go.Maps
theorem Rh{w:World}{b q:Nat}{m:ax}{kv:List (Int×Value)}{a:Int}{x:Option Addr}(hs:Sp w b m)(hm:Mp kM w q kv)(hx:(a,Value.pointer x)∈kv):b≠q:=by
 rintro rfl;obtain⟨kv2,hm2,hg,hpos⟩:=hs;have Px:(a,Value.pointer x)∈kv2:=by
  obtain⟨es2,c2,hb2,_,he2,_⟩:=hm2;obtain⟨es,c,hb,_,he,_⟩:=hm;rw[hb]at hb2
  injection hb2 with hb2
  injection hb2 with e1 _
  subst e1;have h3:(kM.kf a,Value.pointer x)∈es.toList.map (λe=>(e.key,e.val)):=by rw[he];exact List.mem_map.2 ⟨_,hx,rfl⟩
  rw[he2]at h3;obtain⟨r,hr,e⟩:=List.mem_map.1 h3
  injection e with e1 e2
  have e3:r.1=a:=iK.inj _ _ e1;have:r=(a,Value.pointer x):=by rw[←e3,←e2]
  rwa [this]at hr
 obtain⟨n,hn⟩:=Int.eq_ofNat_of_zero_le (hpos _ Px);have hn:a=n:=hn;have h4:=jL hm2.nodup Px;rw[hn,hg n]at h4;cases e:m n with
 | none=>rw[e]at h4;cases h4
 | some p=>
   rw[e]at h4;simp[Pg.v]at h4
section
variable {E:XE} {w w':World} {ps:List Xp} {ty:List Int} {D:XD} {lp lf:Nat}
theorem PX.Wj(h:PX E w ps ty D){b:Nat}{m:ax}(hs:Sp w b m)(hne:ps≠[]):b≠E.pm:=by
 obtain⟨kv,hm,hp⟩:=h.map;cases ps with
 | nil=>exact absurd rfl hne
 | cons p r=>exact Rh hs hm (hp.mem_iff.2 (List.mem_cons_self ..))
theorem EC{q:Xp}{i:Nat}{p:Xp}(hi:ps[i]?=some p)(e1:q.pid=p.pid)(e2:q.live=p.live)(x:Nat):bH E (ps.set i q) D x↔bH E ps D x:=by
 unfold bH;have key:(∃r∈ps.set i q,x=D.bl r.pid∨(r.live=true∧x=D.sp r.pid))↔∃r∈ps,x=D.bl r.pid∨(r.live=true∧x=D.sp r.pid):=by
  have hp:=List.mem_of_getElem? hi;have hil:=(bV hi).1;constructor
  ·rintro⟨r,hr,h⟩
   rcases List.mem_or_eq_of_mem_set hr with h1|rfl
   ·exact⟨r,h1,h⟩
   ·exact⟨p,hp,by rw[←e1,←e2];exact h⟩
  ·rintro⟨r,hr,h⟩
   obtain⟨j,hj⟩:=List.getElem?_of_mem hr;by_cases e:j=i
   ·subst e
    rw[hi]at hj;cases hj
    exact⟨q,List.mem_of_getElem? (List.getElem?_set_self hil),by rw[e1,e2];exact h⟩
   ·exact⟨r,List.mem_of_getElem? ((List.getElem?_set_ne (λh=>e h.symm)).trans hj),h⟩
 rw[key]
theorem Py{q:Xp}{i:Nat}{p:Xp}(hi:ps[i]?=some p)(e1:q.pid=p.pid):(ps.set i q).map (je D)=ps.map (je D):=by
 rw[List.map_set];apply List.ext_getElem?
 intro j;by_cases e:j=i
 ·subst e
  have hil:=(bV hi).1;rw[List.getElem?_set_self (by simpa using hil),fA,hi];simp[je,e1]
 ·rw[List.getElem?_set_ne (λh=>e h.symm)]
theorem ED{q:Xp}{i:Nat}{p:Xp}(hi:ps[i]?=some p)(e2:q.live=p.live):dN (ps.set i q)=dN ps:=by
 induction ps generalizing i with
 | nil=>cases hi
 | cons a l ih=>
   cases i with
   | zero=>
     simp only[List.getElem?_cons_zero,Option.some.injEq]at hi
     subst hi;rw[List.set_cons_zero,gZ,gZ,e2]
   | succ i=>
     rw[List.getElem?_cons_succ]at hi;rw[List.set_cons_succ,gZ,gZ,ih hi]
theorem PX.Wl(h:PX E w ps ty D)(hw:lQ lp lf ps){i:Nat}{p:Xp}(hi:ps[i]?=some p)(hl:p.live=true)(M':ax)(k:Keep (λq=>q=D.sp p.pid∨q=E.kb) w w')(hs:Sp w' (D.sp p.pid) M')
 (hk:Blk w' E.kb (lV E.l.a E.l.b E.l.c E.l.d.toNat E.l.e.toNat E.pm E.tb E.ob E.cb (aI (ps.set i {p with M:=M'}):Nat) D.now (.slice none 0 0)) 111):PX E w' (ps.set i {p with M:=M'}) ty D:=by
 have hp:=List.mem_of_getElem? hi;have hs0:=h.rE p hp hl;obtain⟨kv0,hm0⟩:=mJ hs0;have hne:ps≠[]:=λe=>by rw[e]at hp;cases hp
 have hblk:∀q cs t,Blk w q cs t→t≠111→¬(q=D.sp p.pid∨q=E.kb):=λq cs t hb n1 hq=>hq.elim (hb.aP hm0) (hb.ne h.hk n1);obtain⟨kv,hm,hpm⟩:=h.map;have agZ:¬(E.pm=D.sp p.pid∨E.pm=E.kb):=λhq=>hq.elim (λe=>h.Wj hs0 hne e.symm) (λe=>h.hk.aP hm e.symm);have hmem:∀x∈ps.set i {p with M:=M'},x={p with M:=M'}∨(x∈ps∧x.pid≠p.pid):=λx hx=>by
  obtain⟨j,hj⟩:=List.getElem?_of_mem hx;by_cases e:j=i
  ·subst e
   rw[List.getElem?_set_self (bV hi).1]at hj;exact .inl (Option.some.inj hj).symm
  ·rw[List.getElem?_set_ne (λh=>e h.symm)]at hj
   exact .inr ⟨List.mem_of_getElem? hj,λe2=>e (hw.uniq hj hi e2)⟩
 have hbuf:∀{v:Value} {L:List Int},Buf w v L→Buf w' v L:=λhb=>hb.keep k λg hg=>by
  obtain⟨_,hb2⟩:=hb.blk hg;exact hblk _ _ _ hb2 (by decide)
 refine⟨hk,⟨kv,hm.of_block (k.block _ hm.lt agZ),by rw[Py (q:={p with M:=M'}) hi rfl];exact hpm⟩,λx hx=>?_,λx hx hxl=>?_,λx hx y hy hxl hyl e=>?_,?_,hbuf h.tb,hbuf h.ub,h.ap,λq hq=>h.lo q ((EC (q:={p with M:=M'}) hi rfl rfl q).1 hq)⟩
 ·rcases hmem x hx with rfl|⟨hx2,_⟩
  ·exact(h.oC p hp).keep k (hblk _ _ _ (h.oC p hp) (by decide))
  ·exact(h.oC x hx2).keep k (hblk _ _ _ (h.oC x hx2) (by decide))
 ·rcases hmem x hx with rfl|⟨hx2,hn⟩
  ·exact hs
  ·refine(h.rE x hx2 hxl).of_block (k.block _ (h.rE x hx2 hxl).lt λhq=>?_)
   rcases hq with e|e
   ·exact hn (h.inj x hx2 p hp hxl hl e)
   ·obtain⟨kv2,hm2⟩:=mJ (h.rE x hx2 hxl)
    exact h.hk.aP hm2 e.symm
 ·rcases hmem x hx with rfl|⟨hx2,_⟩<;>rcases hmem y hy with rfl|⟨hy2,_⟩
  ·rfl
  ·exact h.inj p hp y hy2 hl hyl e
  ·exact h.inj x hx2 p hp hxl hl e
  ·exact h.inj x hx2 y hy2 hxl hyl e
 ·rw[ED (q:={p with M:=M'}) hi rfl]
  exact h.hc.keep k (hblk _ _ _ h.hc (by decide))
end
end
end Go.Proofs.YtcnjjchlebmfiaaGreatDoor
