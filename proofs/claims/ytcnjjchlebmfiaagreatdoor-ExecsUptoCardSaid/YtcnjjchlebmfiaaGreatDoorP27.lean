/-.-/
import Derived.Test.YtcnjjchlebmfiaaGreatDoorP24
import Derived.Test.YtcnjjchlebmfiaaGreatDoorP26
import Derived.Shelf.SlMaps.Clone
set_option linter.all false
set_option maxRecDepth 100000
set_option maxHeartbeats 16000000
namespace Go.Proofs.YtcnjjchlebmfiaaGreatDoor
section
open Go.Proofs.Tryz Go.RowKit Go.MapKept Go.Maps
section
variable {E:XE} {ty:List Int} {s s':List Xp} {D:XD} {w:World} (hx:eY E) (hp:PX E w s ty D) (hk:fB E w) (hw:lQ E.l.a.toNat E.l.b.toNat s) {x:Xp} (hxs:x∈s) (hl:x.live=true)
include hx hp hk hw hxs hl
theorem Jb:w.cell? (D.bl x.pid,17)=some (.map (some (D.sp x.pid))):=by
 rw[(hp.oC x hxs).cell,show 17=17+0 from rfl,mM (hw.reg x hxs).1];simp[hl]
theorem pxF:Sp w (D.sp x.pid) (ah (rG x.M) (DI x.M)):=by
 rw[lq (hw.ok x hxs)];exact hp.rE x hxs hl
theorem ZR{w':World}(k:Bel w w'){n:Nat}:zW E ty s D s n w D w':=⟨hp.bel k,Keep.of_bel _ k,λq h=>.inl h,λq h=>hp.lt h⟩
theorem ML(a b:Int)(t:ByteArray)(lp dp:Option Addr)(ln lc dn dc:Nat)(hb:b<0∨4096<b):jQ E 6 x.pid 18 a b t lp dp ln lc dn dc w:=
 GG hx hp hk hw hxs hl 6 _ 18 a b t lp dp ln lc dn dc (λ_ _=>by kernel_rfl) xX λW hW=>by
  rcases hb with hb|hb
  ·exact(Ri E.kb (D.bl x.pid) 18 a b t lp dp ln lc dn dc W hb).mono λe w' h=>⟨_,_,_,_,_,h.1,h.2⟩
  ·exact(Rj E.kb (D.bl x.pid) 18 a b t lp dp ln lc dn dc W hb).mono λe w' h=>⟨_,_,_,_,_,h.1,h.2⟩
theorem Rk(a:Int)(n:Nat)(t:ByteArray)(lp dp:Option Addr)(ln lc dn dc:Nat)(hn:n≤4096)(hm:gz x.M (uA a) n 4=false):jQ E 7 x.pid 18 a n t lp dp ln lc dn dc w:=
 GG hx hp hk hw hxs hl 7 _ 18 a n t lp dp ln lc dn dc (λ_ _=>by kernel_rfl) xX λW hW=>by
  have h17:=Jb hx (hp.bel hW) (hk.tr (Keep.of_bel _ hW)) hw hxs hl;have hs:=pxF hx (hp.bel hW) (hk.tr (Keep.of_bel _ hW)) hw hxs hl;rw[←lq (hw.ok x hxs)]at hm;exact(Ro E.kb (D.bl x.pid) (D.sp x.pid) _ _ 18 a n t lp dp ln lc dn dc W (by omega) (by omega) h17 hs hm).mono λe w' h=>⟨_,_,_,_,_,h.1,h.2⟩
theorem Wn(a:Int)(n:Nat)(t:ByteArray)(lp dp:Option Addr)(ln lc dn dc:Nat)(hn:n≤4096)(hm:gz x.M (uA a) n 4=true):zL E ty s D s n 0 (uD x.M (uA a).toNat n) x.pid 18 a n t lp dp ln lc dn dc w:=
 V9 hx hp hk hw hxs hl n 0 (uD x.M (uA a).toNat n) _ 18 a n t lp dp ln lc dn dc (λ_ _=>by kernel_rfl) xX λW hW=>by
  have xY:=hp.bel hW;have hkW:=hk.tr (Keep.of_bel _ hW);have h17:=Jb hx xY hkW hw hxs hl;have hs:=pxF hx xY hkW hw hxs hl;rw[←lq (hw.ok x hxs)]at hm;refine(Wp E.kb (D.bl x.pid) (D.sp x.pid) _ _ 18 a n t lp dp ln lc dn dc W (by omega) (by omega) h17 hs hm).mono ?_;rintro e w' ⟨g,rfl,hg,hB,hb⟩;refine⟨n,0,_,_,_,rfl,rfl,rfl,by rw[tq];omega,D,ZR hx xY hkW hw hxs hl hb,⟨λy hy=>?_,λ_=>⟨g,0,rfl,_,hB,λi y hi=>?_⟩⟩,λg2 o2 e2 _=>?_⟩
  ·obtain⟨i,_,rfl⟩:=List.mem_map.1 hy
   have:=sW (hw.ok x hxs) ((uA a).toNat+i);exact⟨this.1,this.2⟩
  ·rw[Int.toNat_natCast,Nat.zero_add]
   unfold uD at hi;unfold rowOf;rw[fA]at hi⊢;obtain⟨j,hj,rfl⟩:=Option.map_eq_some_iff.1 hi;rw[hj];rfl
  ·cases e2
   exact⟨hg,λhq=>by have:=xY.lt hq;omega⟩
theorem MM(a b:Int)(t:ByteArray)(lp dp:Option Addr)(ln lc dn dc:Nat)(hd:4096<dn)(hd1:dn≤100000000):jQ E 6 x.pid 19 a b t lp dp ln lc dn dc w:=
 jR hx hp hk hw hxs hl 6 _ 19 a b t lp dp ln lc dn dc (λ_ _=>by kernel_rfl) xZ λW hW=>
  (MN E.kb (D.bl x.pid) 19 a b t lp dp ln lc dn dc W hd hd1).mono λe w' h=>⟨_,h.1,h.2⟩
theorem Rq(a b:Int)(t:ByteArray)(lp dp:Option Addr)(ln lc dn dc:Nat)(hd:dn≤4096)(hm:gz x.M (uA a) dn 2=false):jQ E 7 x.pid 19 a b t lp dp ln lc dn dc w:=
 jR hx hp hk hw hxs hl 7 _ 19 a b t lp dp ln lc dn dc (λ_ _=>by kernel_rfl) xZ λW hW=>by
  have h17:=Jb hx (hp.bel hW) (hk.tr (Keep.of_bel _ hW)) hw hxs hl;have hs:=pxF hx (hp.bel hW) (hk.tr (Keep.of_bel _ hW)) hw hxs hl;rw[←lq (hw.ok x hxs)]at hm;exact(Rt E.kb (D.bl x.pid) (D.sp x.pid) _ _ 19 a b t lp dp ln lc dn dc W hd h17 hs hm).mono λe w' h=>⟨_,h.1,h.2⟩
theorem Jc{w':World}{i:Nat}(hi:s[i]?=some x)(M':ax)(k:Keep (λq=>q=D.sp x.pid∨q=E.kb) w w')(hs:Sp w' (D.sp x.pid) M')
 (hkb:Blk w' E.kb (lV E.l.a E.l.b E.l.c E.l.d.toNat E.l.e.toNat E.pm E.tb E.ob E.cb (aI (s.set i {x with M:=M'}):Nat) D.now (.slice none 0 0)) 111){n:Nat}:zW E ty s D (s.set i {x with M:=M'}) n w D w':=
 ⟨hp.Wl hw hi hl M' k hs hkb,k.mono λq hq=>by
   rcases hq with rfl|rfl
   ·exact .inr (.inr (.inr (.inr (.inr ⟨x,hxs,.inr ⟨hl,rfl⟩⟩))))
   ·exact .inl rfl,λq hq=>.inl ((EC (q:={x with M:=M'}) hi rfl rfl q).1 hq),λq hq=>hp.lt hq⟩
theorem Wq{i:Nat}(hi:s[i]?=some x)(a b:Int)(t:ByteArray)(lp dp:Option Addr)(ln lc dc:Nat)(d:List Int)(hd:d.length≤4096)(hdc:d.length≤dc)(hby:BS w dp d)(hm:gz x.M (uA a) d.length 2=true):zL E ty s D (s.set i {x with M:=lZ x.M (uA a).toNat d}) d.length 0 [] x.pid 19 a b t lp dp ln lc d.length dc w:=
 Gz hx hp hk hw hxs hl d.length _ 19 a b t lp dp ln lc d.length dc (λ_ _=>by kernel_rfl) xZ λW hW=>by
  have xY:=hp.bel hW;have hkW:=hk.tr (Keep.of_bel _ hW);have h17:=Jb hx xY hkW hw hxs hl;have hs:=pxF hx xY hkW hw hxs hl;have hm2:=hm;rw[←lq (hw.ok x hxs)]at hm2;refine(Ws E.kb (D.bl x.pid) (D.sp x.pid) _ _ 19 a b t lp dp ln lc d.length dc W d rfl hd hdc (hby.bel hW) h17 hs hm2).mono ?_;rintro e w' ⟨rfl,hs2,k⟩;obtain⟨kv,Px⟩:=mJ hs;have hu:aI (s.set i {x with M:=lZ x.M (uA a).toNat d})=aI s:=by
   have h1:=sZ (q:={x with M:=lZ x.M (uA a).toNat d}) hi;have h2:({x with M:=lZ x.M (uA a).toNat d}:Xp).n=x.n:=by unfold Xp.n;rw[rH (uX x.M (uA a).toNat d)]
   omega
  exact⟨rfl,D,Jc hx xY hkW hw hxs hl hi (lZ x.M (uA a).toNat d) (k.mono λq hq=>.inl hq) hs2 (by rw[hu];exact xY.hk.keep k (xY.hk.aP Px))⟩
theorem Ru(a b:Int)(t:ByteArray)(lp dp:Option Addr)(ln lc dn dc:Nat)(ha:a<0∨64<a):jQ E 6 x.pid 17 a b t lp dp ln lc dn dc w:=
 jR hx hp hk hw hxs hl 6 _ 17 a b t lp dp ln lc dn dc (λ_ _=>by kernel_rfl) yc λW hW=>by
  refine(A8 E.kb (D.bl x.pid) 17 a b t lp dp ln lc dn dc W (λn ev w'=>n=0∧ev=.iface 48 (.int .i64 6)∧Bel W w') λW2 hW2=>?_).mono ?_
  ·exact(Wu E.kb (D.bl x.pid) a W2 ha).mono λe w' h=>⟨_,_,h.1,rfl,rfl,hW2.tr h.2⟩
  ·rintro e w' ⟨n,ev,rfl,rfl,rfl,h⟩
   exact⟨_,rfl,h⟩
theorem Wv(k tp:Nat)(Ba:k≤64)(htp:kT x.M tp):Calls prog 168 #[E.kb,.pointer (D.bl x.pid,0),.int .i64 k] w (Wx E.kb (D.sp x.pid) x.M w k tp (lV E.l.a E.l.b E.l.c E.l.d.toNat E.l.e.toNat E.pm E.tb E.ob E.cb (aI s:Nat) D.now (.slice none 0 0)) (aI s:Nat) E.l.b):=by
 have hlb:=hx.lb;have hfr:=hw.fr;exact abW E.kb (D.bl x.pid) (D.sp x.pid) x.M w k tp _ (aI s:Nat) E.l.b Ba htp hp.hk rfl rfl ⟨by omega,by omega⟩ ⟨by omega,by omega⟩ (Jb hx hp hk hw hxs hl) (hp.rE x hxs hl) (hw.ok x hxs).below (hp.hk.ne (hp.oC x hxs) (by decide))
theorem Wy(k tp:Nat)(b:Int)(t:ByteArray)(lp dp:Option Addr)(ln lc dn dc:Nat)(Ba:k≤64)(htp:kT x.M tp)(hf:E.l.b.toNat<aI s+k∨254<tp+k):jQ E 7 x.pid 17 k b t lp dp ln lc dn dc w:=
 jR hx hp hk hw hxs hl 7 _ 17 k b t lp dp ln lc dn dc (λ_ _=>by kernel_rfl) yc λW hW=>by
  refine(A8 E.kb (D.bl x.pid) 17 k b t lp dp ln lc dn dc W (λn ev w'=>n=0∧ev=.iface 48 (.int .i64 7)∧Bel W w') λW2 hW2=>?_).mono ?_
  ·refine(Wv hx (hp.bel (hW.tr hW2)) (hk.tr (Keep.of_bel _ (hW.tr hW2))) hw hxs hl k tp Ba htp).mono λe w' h=>?_
   have hlb:=hx.lb;obtain⟨h1,h2⟩:=h.1 (by omega);exact⟨_,_,h1,rfl,rfl,hW2.tr h2⟩
  ·rintro e w' ⟨n,ev,rfl,rfl,rfl,h⟩
   exact⟨_,rfl,h⟩
omit hx hp hk hw hxs hl in
theorem EE{m:ax}{tp k:Nat}(h:kT m tp)(hk:tp+k≤254):(ag (dD m tp k)).length=(ag m).length+k:=by
 obtain⟨X,Y,hs⟩:=Jd h;rw[hs.grow k hk,hs.eq];simp
 omega
theorem ZT{i:Nat}(hi:s[i]?=some x)(k tp:Nat)(b:Int)(t:ByteArray)(lp dp:Option Addr)(ln lc dn dc:Nat)(Ba:k≤64)(htp:kT x.M tp)(h1:aI s+k≤E.l.b.toNat)(h2:tp+k≤254):zL E ty s D (s.set i {x with M:=dD x.M tp k}) (tp*256:Nat) 0 [] x.pid 17 k b t lp dp ln lc dn dc w:=
 Gz hx hp hk hw hxs hl (tp*256:Nat) _ 17 k b t lp dp ln lc dn dc (λ_ _=>by kernel_rfl) yc λW hW=>by
  refine(A8 E.kb (D.bl x.pid) 17 k b t lp dp ln lc dn dc W (λn ev w'=>n=(tp*256:Nat)∧ev=.nilIface∧∃D',zW E ty s D (s.set i {x with M:=dD x.M tp k}) W.heap.size W D' w') λW2 hW2=>?_).mono ?_
  ·have xY:=hp.bel (hW.tr hW2)
   have hkW:=hk.tr (Keep.of_bel _ (hW.tr hW2));refine(Wv hx xY hkW hw hxs hl k tp Ba htp).mono λe w' h=>?_;have hlb:=hx.lb;obtain⟨e1,hs2,hkb,kk⟩:=h.2 (by omega) h2;have hu:aI (s.set i {x with M:=dD x.M tp k})=aI s+k:=by
    have h3:=sZ (q:={x with M:=dD x.M tp k}) hi;have h4:({x with M:=dD x.M tp k}:Xp).n=x.n+k:=EE htp h2;omega
   refine⟨_,_,e1,rfl,rfl,D,?_⟩;exact(Jc hx xY hkW hw hxs hl hi (dD x.M tp k) kk hs2 (by rw[hu];exact hkb)).bel hW2 (hp.bel hW) (bM _)
  ·rintro e w' ⟨n,ev,rfl,rfl,rfl,h⟩
   exact⟨rfl,h⟩
end
end
section
open Go.Proofs.Tryz Go.RowKit Go.MapKept Go.Maps Go.Shelf
theorem clone_any(sb:Nat)(m:ax)(w:World)(hs:Sp w sb m):Calls prog 224 #[.map (some sb)] w λe w'=>e=.returned (.map (some w.heap.size))∧Sp w' w.heap.size m∧Bel w w'∧w'.heap.size=w.heap.size+1:=by
 obtain⟨kv,⟨es,clock,h1,h2,h3,h4⟩,hg,hp⟩:=hs;have hq:=λw=>run_eql_map_nil_sl (P:=prog) w 113 _ _ (some sb) underlying113;have hcl:=run_maps_clone_sl (P:=prog) (w:=w) 113 h1;have k1:Bel w (w.alloc (.map es clock)):=Bel.start w _;have hn:(w.alloc (.map es clock)).heap[w.heap.size]?=some (.map es clock):=(heap_alloc w _).1;have H:=xh (And.intro k1 (And.intro hn (And.intro h2 (And.intro h3 (And.intro h4 (And.intro hg hp))))));clear h1 h2 h3 h4 hg hp k1 hn;go_enter func224,ntmps224;go_wp2
 rw[run_callFunc_extern func282 (by kernel_rfl) (by kernel_rfl) (by kernel_rfl) (e:=Extern.MapsClone.clone) (by kernel_rfl),hcl];simp only[Result.andThen]
 rw[Oper.upon_value];go_wp2
 rw[run_typeAssert_map_sl _ 113 20 _ _ _ underlying113];simp only[Result.andThen]
 rw[Oper.upon_value];go_wp2
 go_ret
 obtain⟨k1,hn,h2,h3,h4,hg,hp⟩:=H.o;exact⟨rfl,⟨kv,⟨es,clock,hn,h2,h3,h4⟩,hg,hp⟩,k1,by simp⟩
section
variable (kb pm q:Nat) (kv:List (Int×Value)) (w:World)
theorem yu(j:Int)(hj : -9223372036854775808≤j∧j≤9223372036854775807)(hq:w.cell? (q,0)=some (.pointer (kb,0)))(c5:w.cell? (kb,5)=some (.map (some pm)))(hp:Mp iK w pm kv):Calls prog 223 #[j,q] w (Z.e ((bQ kv j).getD (.pointer none)) w):=by
 have hlk:=hp.lookup iJ underlying103 j (WalkArith.wf_i64 hj) false (by kernel_rfl:(zeroValue 104).run prog w=.ok (.pointer none) w);simp only[Bool.false_eq_true,if_false]at hlk
 have hlk:(Instr.lookup 103 (.map (some pm)) (.int .i64 j) false).run prog w=.ok ((bQ kv j).getD (.pointer none)) w:=hlk;obtain⟨v,hv⟩:=e_x ((bQ kv j).getD (.pointer none));rw[hv]at hlk⊢;clear hp hv;go_enter func223,ntmps223;go_wp2
 go_ret
 exact⟨rfl,rfl⟩
def rU(kv:List (Int×Value))(lim:Nat):Prop:=∀j:Nat,1≤j→j≤lim→∃b:Nat,bQ kv (j:Int)=some (.pointer (b,0))
theorem JE(lim:Nat)(hl:lim≤1000)(hq:w.cell? (q,0)=some (.pointer (kb,0)))(c5:w.cell? (kb,5)=some (.map (some pm)))(hp:Mp iK w pm kv)(hn:rU kv lim) :
 Calls prog 222 #[(1:Int),.int .i64 ((lim:Int)+1),.func (.func 223) #[] #[q],.pointer none] w (Z.e (.tuple #[(0:Int),false]) w):=by
 have HF:=xh λ(j:Nat) (h1:1≤j) (h2:j≤lim)=>by
  have h:=yu kb pm q kv w j (by omega) hq c5 hp;obtain⟨b,hb⟩:=hn j h1 h2;rw[hb]at h;exact(⟨b,h⟩:∃b:Nat,Calls prog 223 #[.int .i64 j,q] w (Z.e (.pointer (b,0)) w))
 clear hq c5 hp hn;go_enter func222,ntmps222;go_upto_region 2 with fail
 go_loopw [10] (λi wr=>∃j:Nat,1≤j∧j≤lim+1∧i=.int .i64 j∧w=wr) (λi _=>lim+1-(intOf i).toNat)
 case atStart=>exact⟨1,bM _,by omega,rfl,rfl⟩
 case round=>
  obtain⟨j,h1,h2,rfl,rfl⟩:=hrel;by_cases hlt:j<lim+1
  ·obtain⟨b,hb⟩:=HF.o j h1 (by omega)
   have HB:=xh hb;clear hb;go_wp2_with ((with_reducible refine aH HB.o ?_);rintro e w2 ⟨rfl,rfl⟩)
   go_roundw
   case rel=>exact⟨j+1,by omega,by omega,by go_num,trivial⟩
   case measure=>simp[intOf]<;>omega
  ·obtain rfl:j=lim+1:=by omega
   go_wp2_with fail
   go_ret2
   exact⟨rfl,rfl⟩
theorem ER(lim r:Nat)(hl:lim≤1000)(hr1:1≤r)(hr:r≤lim)(hq:w.cell? (q,0)=some (.pointer (kb,0)))(c5:w.cell? (kb,5)=some (.map (some pm)))(hp:Mp iK w pm kv)(hn:rU kv (r-1))(hf:bQ kv (r:Int)=none) :
 Calls prog 222 #[(1:Int),.int .i64 ((lim:Int)+1),.func (.func 223) #[] #[q],.pointer none] w (Z.e (.tuple #[.int .i64 r,true]) w):=by
 have HF:=xh λ(j:Nat) (h1:1≤j) (h2:j≤r-1)=>by
  have h:=yu kb pm q kv w j (by omega) hq c5 hp;obtain⟨b,hb⟩:=hn j h1 h2;rw[hb]at h;exact(⟨b,h⟩:∃b:Nat,Calls prog 223 #[.int .i64 j,q] w (Z.e (.pointer (b,0)) w))
 have HR:Hid (Calls prog 223 #[.int .i64 r,q] w (Z.e (.pointer none) w)):=xh (by
  have h:=yu kb pm q kv w r (by omega) hq c5 hp;rw[hf]at h;exact h)
 clear hq c5 hp hn hf;go_enter func222,ntmps222;go_upto_region 2 with fail
 go_loopw [10] (λi wr=>∃j:Nat,1≤j∧j≤r∧i=.int .i64 j∧w=wr) (λi _=>r-(intOf i).toNat)
 case atStart=>exact⟨1,bM _,by omega,rfl,rfl⟩
 case round=>
  obtain⟨j,h1,h2,rfl,rfl⟩:=hrel;by_cases hlt:j<r
  ·obtain⟨b,hb⟩:=HF.o j h1 (by omega)
   have HB:=xh hb;clear hb;go_wp2_with ((with_reducible refine aH HB.o ?_);rintro e w2 ⟨rfl,rfl⟩)
   go_roundw
   case rel=>exact⟨j+1,by omega,by omega,by go_num,trivial⟩
   case measure=>simp[intOf]<;>omega
  ·obtain rfl:j=r:=by omega
   go_wp2_with ((with_reducible refine aH HR.o ?_);rintro e w2 ⟨rfl,rfl⟩)
   go_ret2
   exact⟨rfl,rfl⟩
end
def Xv:List Value:=.int .u64 0::(List.replicate 16 (Value.int .u64 0)++[.map none,.int .i64 0,.int .i64 0,.int .i64 0,.int .i64 0,.int .i64 0]++List.replicate 8 .nilIface)
theorem Tj(w:World):(zeroValue 120).run prog w=.ok (.agg Xv.toArray) w:=by kernel_rfl
def qj(ps:List Value)(own:Int)(r tu:Nat):List Value:=((ps.set 18 (.int .i64 r)).set 19 (.int .i64 own)).set 17 (.map (some tu))
section
variable (kb pb pm sb:Nat) (ks ps:List Value) (kv:List (Int×Value)) (m:ax) (own used mf:Int) (lim:Nat) (ob:Value) (w:World)
structure GH:Prop where
 hk:Blk w kb ks 111
 k0:ks[0]?=some (.int .i64 lim)
 k1:ks[1]?=some (.int .i64 mf)
 k5:ks[5]?=some (.map (some pm))
 k7:ks[7]?=some ob
 k9:ks[9]?=some (.int .i64 used)
 hp:Blk w pb ps 120
 pl:ps.length=31
 UZ:ps[17]?=some (.map (some sb))
 p18:ps[18]?=some (.int .i64 own)
 one:∀v∈ps,v.oneCell'=true
 hm:Mp iK w pm kv
 hs:Sp w sb m
 lo:∀n,256≤n→m n=none
 hl:lim≤1000
 hu:0≤used∧used≤1000000
 hf:0≤mf∧mf≤1000000
variable {kb pb pm sb ks ps kv m own used mf lim ob w}
theorem Rz(h:GH kb pb pm sb ks ps kv m own used mf lim ob w)(hn:rU kv lim):Calls prog 153 #[kb,pb] w (Z.b (.tuple #[(0:Int),.iface 48 (.int .i64 19)]) w):=by
 obtain⟨hk,k0,k1,k5,k7,k9,hp,pl,UZ,p18,one,hm,hs,lo,hl,hu,hf⟩:=h;have k1:Bel w (w.alloc (.cells #[kb] 81)):=Bel.start w _;have BK:=hk.bel k1;have c0:(w.alloc (.cells #[kb] 81)).cell? (kb,0)=some (.int .i64 lim):=(BK.cell 0).trans k0;have hkl:=BK.lt;have HL:=xh (JE kb pm w.heap.size kv (w.alloc (.cells #[kb] 81)) lim hl ((Blk.new w [kb] 81).cell 0) ((BK.cell 5).trans k5) (hm.bel k1) hn);have HK:=xh k1;clear hk k0 k1 k5 k7 k9 hp pl UZ p18 one hm hs lo hu hf hn BK;go_enter func153,ntmps153;go_wp2_with (go_at_call 222;((with_reducible refine aH HL.o ?_);rintro e w2 ⟨rfl,rfl⟩))
 go_ret2
 exact⟨rfl,HK.o⟩
theorem WA(h:GH kb pb pm sb ks ps kv m own used mf lim ob w)(r:Nat)(hr1:1≤r)(hr:r≤lim)(hn:rU kv (r-1))(hf0:bQ kv (r:Int)=none)(hfull:mf<used+(ag m).length):Calls prog 153 #[kb,pb] w (Z.b (.tuple #[(0:Int),.iface 48 (.int .i64 7)]) w):=by
 obtain⟨hk,k0,k1,k5,k7,k9,hp,pl,UZ,p18,one,hm,hs,lo,hl,hu,hf⟩:=h;have Tm:Bel w (w.alloc (.cells #[kb] 81)):=Bel.start w _;have BK:=hk.bel Tm;have c0:(w.alloc (.cells #[kb] 81)).cell? (kb,0)=some (.int .i64 lim):=(BK.cell 0).trans k0;have hkl:=BK.lt;have c2:=(Blk.new w [kb] 81).cell 0;have HL:=xh (ER kb pm w.heap.size kv (w.alloc (.cells #[kb] 81)) lim r hl hr1 hr c2 ((BK.cell 5).trans k5) (hm.bel Tm) hn hf0);have HK:=xh Tm;obtain⟨es,clock,hes,pI⟩:=(hs.bel Tm).heap lo;have hpn:=aT m;have c17:(w.alloc (.cells #[kb] 81)).cell? (pb,17)=some (.map (some sb)):=((hp.bel Tm).cell 17).trans UZ;have c9:=(BK.cell 9).trans k9;have c1:=(BK.cell 1).trans k1;have hpl:=(hp.bel Tm).lt;clear hk k0 k5 k7 k9 hp pl UZ p18 one hm hs lo hn hf0 BK;go_enter func153,ntmps153;go_upto_region 4 with(go_at_call 222;((with_reducible refine aH HL.o ?_);rintro e w2 ⟨rfl,rfl⟩))
 generalize w.alloc (.cells #[kb] 81)=w1 at *
 generalize w.heap.size=bq at *
 have hl1:∀n,(Builtin.len_ #[113] 3 #[.map (some sb)]).run prog (w1.drewN n)=.ok (.int .i64 ((ag m).length:Nat)) (w1.drewN n):=λn=>by
  have:=run_len_map (ty:=3) underlying113 (w:=w1.drewN n) hes;rw[pI]at this;exact this
 obtain⟨N,hN⟩:=e_x ((ag m).length);rw[hN]at hl1 hfull hpn;have wR:=xh λk=>(sN kb used mf N (w1.drewN k) c9 c1 (by omega) (by omega) (by omega));have hrd:decide (used+(N:Int)≤mf)=false:=decide_eq_false (by omega);rw[hrd]at wR;clear c9 c1;go_quiet ((go_at_call 102;exact Calls.quiet_of (wR.o _)))
 have qE:=xh (aj HK.o nq);generalize w1.drewN nq=w3 at *
 go_wp2
 go_ret2
 exact⟨rfl,qE.o⟩
def abk(kb pm:Nat)(ks ps:List Value)(kv:List (Int×Value))(m:ax)(own used:Int)(w:World)(S:Nat→Prop)(R:Nat→World→Prop)(r:Nat)(e:Ending)(w':World):Prop:=
 e=.returned (.tuple #[.int .i64 r,.nilIface])∧∃nb tu W,w.heap.size≤nb∧w.heap.size≤tu∧R 8 W∧Keep (λq=>q=pm) W w'∧Mp iK w' pm (mQ kv (r:Int) (.pointer (nb,0)))∧Blk w' nb (qj ps own r tu) 120∧Sp w' tu m∧Blk w' kb (ks.set 9 (.int .i64 (used+(ag m).length))) 111∧Keep (λq=>S q∨q=kb∨q=pm) w w'
theorem acj{l:List Value}(h:l.length=8):∃f0 f1 f2 f3 f4 f5 f6 f7,l=[f0,f1,f2,f3,f4,f5,f6,f7]:=
 match l,h with
 | [f0,f1,f2,f3,f4,f5,f6,f7],_=>⟨f0,f1,f2,f3,f4,f5,f6,f7,rfl⟩
theorem ack(v0 v1 v2 v3 v4 v5 v6 v7:Value)(j:Nat)(hj:j<8)(W:World):(Instr.index 118 (.agg #[v0,v1,v2,v3,v4,v5,v6,v7]) (.int .i64 j)).run prog W=.ok (([v0,v1,v2,v3,v4,v5,v6,v7].getD j .nilIface)) W:=by
 rcases show j=0∨j=1∨j=2∨j=3∨j=4∨j=5∨j=6∨j=7 by omega with rfl|rfl|rfl|rfl|rfl|rfl|rfl|rfl<;>kernel_rfl
theorem ZV(h:GH kb pb pm sb ks ps kv m own used mf lim ob w)(r:Nat)(hr1:1≤r)(hr:r≤lim)(hn:rU kv (r-1))(hf0:bQ kv (r:Int)=none)(hroom:used+(ag m).length≤mf)(S:Nat→Prop)(R:Nat→World→Prop)
 (hSk:¬S kb)(hSm:¬S pm)(hSn:∀q,w.heap.size≤q→¬S q)(hR0:∀W,Keep (λq=>q=kb) w W→R 0 W)(hv:∀i,i<8→ps[23+i]?=some .nilIface∨∃t x,ps[23+i]?=some (.iface t x))(hN:∀i W,i<8→ps[23+i]?=some .nilIface→R i W→R (i+1) W)
 (hH:∀i W t x,i<8→ps[23+i]?=some (.iface t x)→R i W→Keep (λq=>S q∨q=kb) w W→Calls prog 56 #[ob,.iface t x] W λe w'=>e=.returned (.tuple #[])∧R (i+1) w'∧Keep S W w') :
 Calls prog 153 #[kb,pb] w (abk kb pm ks ps kv m own used w S R r):=by
 obtain⟨hk,k0,k1,k5,k7,k9,hp,pl,UZ,p18,one,hm,hs,lo,hl,hu,hf⟩:=h;have Tm:Bel w (w.alloc (.cells #[kb] 81)):=Bel.start w _;have BK:=hk.bel Tm;have c0:(w.alloc (.cells #[kb] 81)).cell? (kb,0)=some (.int .i64 lim):=(BK.cell 0).trans k0;have hkl:=BK.lt;have c2:(w.alloc (.cells #[kb] 81)).cell? (w.heap.size,0)=some (.pointer (kb,0)):=(Blk.new w [kb] 81).cell 0;have UU:Hid (Blk (w.alloc (.cells #[kb] 81)) w.heap.size [kb] 81):=xh (Blk.new w [kb] 81);have HL:=xh (ER kb pm w.heap.size kv (w.alloc (.cells #[kb] 81)) lim r hl hr1 hr c2 ((BK.cell 5).trans k5) (hm.bel Tm) hn hf0);have HK:=xh Tm;obtain⟨es,clock,hes,pI⟩:=(hs.bel Tm).heap lo;have hpn:=aT m;have c17:(w.alloc (.cells #[kb] 81)).cell? (pb,17)=some (.map (some sb)):=((hp.bel Tm).cell 17).trans UZ;have c9:=(BK.cell 9).trans k9;have c1:=(BK.cell 1).trans k1;have hpl:=(hp.bel Tm).lt;have ahb:=World.block_lt_of_cell? _ _ c2;have hk0:=hk.lt;have hp0:=hp.lt;have hm0:=hm.lt;have hkp:kb≠pb:=hk.ne hp (by decide);have hkm:kb≠pm:=hk.aP hm;have HH:=xh (And.intro hk (And.intro hp (And.intro hm (And.intro hs (And.intro k7 (And.intro k5 k9))))));have HP:=xh (And.intro UZ (And.intro p18 (And.intro pl one)));have HS:=xh (And.intro hSk (And.intro hSm hSn));have HR0:=xh hR0;have HV:=xh hv;have HN:=xh hN;have HHD:=xh hH;have HLO:=xh lo;have HZ:=xh Tj;clear hk k0 k1 k5 k7 k9 hp pl UZ p18 one hm hs lo hn hf0 BK hSk hSm hSn hR0 hv hN hH;go_enter func153,ntmps153;go_upto_region 4 with(go_at_call 222;((with_reducible refine aH HL.o ?_);rintro e w2 ⟨rfl,rfl⟩))
 generalize w.alloc (.cells #[kb] 81)=w1 at *
 obtain⟨bq,hbq⟩:=e_x w.heap.size;rw[hbq]at c2 ahb UU⊢;have yt:=xh hbq;clear hbq;have hl1:∀n,(Builtin.len_ #[113] 3 #[.map (some sb)]).run prog (w1.drewN n)=.ok (.int .i64 ((ag m).length:Nat)) (w1.drewN n):=λn=>by
  have:=run_len_map (ty:=3) underlying113 (w:=w1.drewN n) hes;rw[pI]at this;exact this
 obtain⟨N,hN⟩:=e_x ((ag m).length);rw[hN]at hl1 hroom hpn;have HNN:=xh hN;have wR:=xh λk=>(sN kb used mf N (w1.drewN k) c9 c1 (by omega) (by omega) (by omega));have hrd:decide (used+(N:Int)≤mf)=true:=decide_eq_true (by omega);rw[hrd]at wR;clear c9 c1 hes pI hN;go_quiet ((go_at_call 102;exact Calls.quiet_of (wR.o _)))
 have qE:=xh (aj HK.o nq);have aet:=xh (UU.o.bel (aj (Bel.refl w1) nq));have c2:=af (aj (Bel.refl w1) nq) c2;have c17:=af (aj (Bel.refl w1) nq) c17;generalize w1.drewN nq=w3 at *
 clear hl1;go_upto_region 6 with fail
 have PV:=xh (HH.o.2.1.bel qE.o);have adW:=PV.o.lt;obtain⟨zs,hzs⟩:∃zs,zs=Xv:=⟨_,rfl⟩;have hz:=HZ.o;rw[←hzs]at hz;have oh:Hid (zs.length=31):=xh (by rw[hzs];simp[Xv]);obtain⟨nb,hnb⟩:=e_x w3.heap.size;have KU:=xh hnb;clear hzs hnb
 go_upto_region 7 with(first
  | (refine wpList_load_mid rfl 120 (.tmp 36) rfl pb 0 rfl ps _ (by have:=PV.o.range 0;simpa using this) underlying120 rfl (by rw[HP.o.2.2.1];kernel_rfl) ?_)
  | (refine aA rfl 120 (.tmp 8) (.tmp 37) rfl rfl w3.heap.size ps zs 120 (Blk.new w3 zs _) rfl rfl (by rw[HP.o.2.2.1];kernel_rfl) (oh.o.trans HP.o.2.2.1.symm) HP.o.2.2.2 ?_;intro w5 B5 K5))
 rw[KU.o]at B5 K5⊢;have K5a:Bel w3 w5:=jr (Bel.start w3 (.cells zs.toArray 120)) K5 (by rw[KU.o];exact bM _);have aeu:=xh (PV.o.bel K5a);have aan:=xh (aet.o.bel K5a);have c18:w5.cell? (pb,18)=some (.int .i64 own):=(aeu.o.cell 18).trans HP.o.2.1;have f5:=B5.out.frozen;have hn5:=B5.out.lt;have aev:pb≠nb:=by have:=KU.o;omega
 have ajl:nb≠pb:=λe=>aev e.symm;have c2:=af K5a c2;have hkq:Bel w w5:=qE.o.tr K5a;have ug:=xh hkq;have c17:=af K5a c17;have d18:w5.cell? (nb,18)=some (.int .i64 own):=(B5.out.cell 18).trans HP.o.2.1;obtain⟨v19,h19⟩:∃v,ps[19]?=some v:=⟨_,bT (by rw[HP.o.2.2.1];omega)⟩;have d19:w5.cell? (nb,19)=some v19:=(B5.out.cell 19).trans h19;clear K5 hkq K5a h19;go_upto_region 8 with fail
 have B6:=(B5.out.setCell (o:=18) (.int .i64 r)).setCell (o:=19) (.int .i64 own);have K6:Keep (λq=>q=nb) w5 ((w5.setCell (nb,18) (.int .i64 r)).setCell (nb,19) (.int .i64 own)):=(Keep.setCell _ _ _ _).tr (Keep.setCell _ _ _ _);generalize (w5.setCell (nb,18) (.int .i64 r)).setCell (nb,19) (.int .i64 own)=w6 at *
 have hwn:w.heap.size≤nb:=by rw[←KU.o];exact qE.o.size
 have mG:=xh (jr ug.o K6 hwn);have hqn:bq≠nb:=by have:=aet.o.lt;have:=KU.o;omega
 have ahc:=xh (aan.o.keep K6 hqn);have c17:w6.cell? (pb,17)=some (.map (some sb)):=(K6.cell ⟨pb,17,none⟩ aeu.o.lt (λe=>aev e)).trans c17;have ahd:=World.block_lt_of_cell? _ _ c17;have AL:=xh B6;have ahe:=xh (clone_any sb m w6 (HH.o.2.2.2.1.bel mG.o));have hn6:=B6.lt;clear B6 K6 c18 f5 hn5 d18 d19 c2 B5;go_upto_region 9 with(go_at_call 224;((with_reducible refine aH ahe.o ?_);rintro e w7 ⟨rfl,hs7,k7,z7⟩;have H7:=xh (And.intro hs7 (And.intro k7 z7));have B7:=AL.o.bel k7;have f7:=B7.frozen;have hn7:=B7.lt;obtain⟨v17,d17⟩:∃v,w7.cell? (nb,17)=some v:=⟨_,(B7.cell 17).trans (bT (by rw[List.length_set,List.length_set,HP.o.2.2.1];omega))⟩;clear hs7 k7 z7))
 obtain⟨tu,acm⟩:=e_x w6.heap.size;rw[acm]at H7⊢;have hws:w.heap.size≤tu:=by rw[←acm];exact mG.o.size
 have hns:tu≠nb:=by omega
 have B8:Blk (w7.setCell (nb,17) (.map (some tu))) nb (qj ps own r tu) 120:=B7.setCell (o:=17) (.map (some tu));have K8:=Keep.setCell w7 nb 17 (.map (some tu));have hs8:Sp (w7.setCell (nb,17) (.map (some tu))) tu m:=H7.o.1.keep K8 hns;have acn:=xh ((ahc.o.bel H7.o.2.1).keep K8 hqn);have Gu:=xh (jr (mG.o.tr H7.o.2.1) K8 hwn);generalize w7.setCell (nb,17) (.map (some tu))=w8 at *
 have zI:=xh (And.intro B8 hs8);have BK8:=HH.o.1.bel Gu.o;have c2:=acn.o.c 0 rfl;have aiR:=acn.o.lt;have c9:w8.cell? (kb,9)=some (.int .i64 used):=(BK8.cell 9).trans HH.o.2.2.2.2.2.2;have f9:=BK8.frozen 9;have aco:=BK8.lt;have ajm:=B8.lt;have ahf:w8.cell? (nb,17)=some (.map (some tu)):=by
  rw[B8.cell];unfold qj;rw[List.getElem?_set_self (by rw[List.length_set,List.length_set,HP.o.2.2.1];omega)]
 obtain⟨es,clock,hes,pI⟩:=hs8.heap HLO.o;rw[HNN.o]at pI;have hlm:(Builtin.len_ #[113] 3 #[.map (some tu)]).run prog {heap:=w8.heap,tape:=w8.tape,drawn:=w8.drawn+1,os:=w8.os,output:=w8.output}=.ok (.int .i64 (N:Nat)) {heap:=w8.heap,tape:=w8.tape,drawn:=w8.drawn+1,os:=w8.os,output:=w8.output}:=by
  have:=run_len_map (ty:=3) underlying113 (w:=w8.drewN 1) hes;rw[pI]at this;exact this
 have abQ:(Builtin.len_ #[113] 3 #[.map (some tu)]).run prog w8.drew=.ok (.int .i64 (N:Nat)) w8.drew:=hlm;have hwr:IntKind.i64.wrap (used+(N:Int))=used+N:=by rw[IntKind.wrap_i64];omega
 clear B7 f7 hn7 d17 B8 K8 hs8 BK8 hes pI c17 ahd hn6 acm;go_still_tail 11,(by kernel_rfl)
 change wpList _ _ _ _ _ w8.drew
 have c9:w8.drew.cell? (kb,9)=some (.int .i64 used):=c9;have f9:w8.drew.frozen? (kb,9)=false:=f9;have oM:Hid (Bel w8 w8.drew):=xh (Bel.drew (Bel.refl _));have ahg:kb<w8.drew.heap.size:=aco;clear c2 ahf hlm abQ;generalize w8.drew=w9 at *
 go_upto_region 10 with fail
 have K10:=Keep.setCell w9 kb 9 (.int .i64 (used+(N:Int)));have hnk:nb≠kb:=by omega
 have hsk:tu≠kb:=by omega
 have aew:=(HH.o.1.bel (Gu.o.tr oM.o)).setCell (o:=9) (.int .i64 (used+(N:Int)));have acp:=(zI.o.1.bel oM.o).keep K10 hnk;have aex:=(zI.o.2.bel oM.o).keep K10 hsk;have aey:=(acn.o.bel oM.o).keep K10 (λe=>by have e:bq=kb:=e;have:=yt.o;omega);have aez:Keep (λq=>q=kb) w (w9.setCell (kb,9) (.int .i64 (used+(N:Int)))):=(Keep.of_bel _ (Gu.o.tr oM.o)).tr K10;generalize w9.setCell (kb,9) (.int .i64 (used+(N:Int)))=w10 at *
 have Dx:=xh (And.intro aew (And.intro acp (And.intro aex (And.intro aey aez))));clear aew aex aey aez K10 c9 f9;have hfd:∃f0 f1 f2 f3 f4 f5 f6 f7,(qj ps own r tu).drop 23=[f0,f1,f2,f3,f4,f5,f6,f7]∧∀j,j<8→ps[23+j]?=some ([f0,f1,f2,f3,f4,f5,f6,f7].getD j .nilIface):=by
  have hd:(qj ps own r tu).drop 23=ps.drop 23:=by
   unfold qj;rw[List.drop_set_of_lt (by omega),List.drop_set_of_lt (by omega),List.drop_set_of_lt (by omega)]
  obtain⟨f0,f1,f2,f3,f4,f5,f6,f7,e⟩:=acj (l:=ps.drop 23) (by rw[List.length_drop,HP.o.2.2.1]);refine⟨f0,f1,f2,f3,f4,f5,f6,f7,hd.trans e,λj hj=>?_⟩;rw[←List.getElem?_drop,e];rcases show j=0∨j=1∨j=2∨j=3∨j=4∨j=5∨j=6∨j=7 by omega with rfl|rfl|rfl|rfl|rfl|rfl|rfl|rfl<;>rfl
 obtain⟨f0,f1,f2,f3,f4,f5,f6,f7,hfd1,aeA⟩:=hfd;have BH:w10.rangeAt nb 23 [f0,f1,f2,f3,f4,f5,f6,f7]:=by rw[←hfd1];exact acp.range 23
 have Ns:=xh BH;have QV:=xh aeA;clear hfd1 aeA BH acp;go_upto_region 11 with(refine wpList_load_mid rfl 118 (.tmp 64) rfl nb 23 rfl [f0,f1,f2,f3,f4,f5,f6,f7] _ Ns.o underlying118 rfl (by kernel_rfl) ?_)
 go_loopw [66] (λi wr=>∃k:Nat,k≤8∧i=.int .i64 k∧Hid (R k wr∧Keep S w10 wr)) (λi _=>8-(intOf i).toNat)
 case atStart=>exact⟨0,Nat.zero_le _,rfl,xh ⟨HR0.o _ Dx.o.2.2.2.2,Keep.refl _ _⟩⟩
 case round=>
  obtain⟨k,hk,rfl,HI⟩:=hrel;have kw:Keep (λq=>S q∨q=kb) w wr:=(Dx.o.2.2.2.2.mono λ_ h=>.inr h).tr (HI.out.2.mono λ_ h=>.inl h);have DF:=Dx.o.1.keep HI.out.2 HS.o.1;have BQr:=Dx.o.2.2.2.1.keep HI.out.2 (HS.o.2.2 bq (by have:=yt.o;omega));by_cases hlt:k<8
  ·have hix:=λW=>ack f0 f1 f2 f3 f4 f5 f6 f7 k hlt W
   have hfk:=QV.o k hlt;obtain⟨fv,hfv⟩:=e_x ([f0,f1,f2,f3,f4,f5,f6,f7].getD k .nilIface);rw[hfv]at hix hfk;have acr:=xh kw;have aes:=DF.lt;have c7:wr.cell? (kb,7)=some ob:=(DF.cell 7).trans (by rw[List.getElem?_set_ne (by omega)];exact HH.o.2.2.2.2.1);have c2:=BQr.c 0 rfl;have ahh:=BQr.lt;clear DF BQr kw hfv;rcases HV.o k hlt with hnil|⟨ty,x,hty⟩
   ·rw[hnil]at hfk
    cases hfk
    have HRN:=xh (HN.o k wr hlt hnil HI.out.1);clear hnil;go_wp2_with fail
    go_roundw
    case rel=>exact⟨k+1,by omega,by go_num,xh ⟨HRN.o,HI.out.2⟩⟩
    case measure=>simp[intOf]<;>omega
   ·rw[hty]at hfk
    cases hfk
    have HCA:=xh (HHD.o k wr ty x hlt hty HI.out.1 acr.o);clear hty;go_wp2_with (go_at_call 56;((with_reducible refine aH HCA.o ?_);rintro e w12 ⟨rfl,r12,k12⟩;have H12:=xh (And.intro r12 k12);clear r12 k12))
    go_roundw
    case rel=>exact⟨k+1,by omega,by go_num,xh ⟨H12.o.1,HI.out.2.tr H12.o.2⟩⟩
    case measure=>simp[intOf]<;>omega
  ·obtain rfl:k=8:=by omega
   have c5:wr.cell? (kb,5)=some (.map (some pm)):=(DF.cell 5).trans (by rw[List.getElem?_set_ne (by omega)];exact HH.o.2.2.2.2.2.1);have aes:=DF.lt;have c2:=BQr.c 0 rfl;have ahh:=BQr.lt;have hmr:Mp iK wr pm kv:=HH.o.2.2.1.of_block (kw.block pm hm0 (λe=>e.elim HS.o.2.1 (λe=>hkm e.symm)));obtain⟨es,clock,hup,hmp⟩:=hmr.update iJ underlying103 (r:Int) (WalkArith.wf_i64 (by omega)) (.pointer (nb,0));have hup:(Instr.mapUpdate 103 (.map (some pm)) (.int .i64 r) (.pointer (nb,0))).run prog wr=.ok () (Go.ChangeMaps.setBlock wr pm (.map es clock)):=hup;obtain⟨es0,Nu,hes0,_⟩:=hmr;have K13:=Keep.setBlock hes0 (.map es clock);have Ik:=xh (And.intro hmp K13);have acr:=xh kw;have BNr:=Dx.o.2.1.keep HI.out.2 (HS.o.2.2 nb hwn);have SNr:=Dx.o.2.2.1.keep HI.out.2 (HS.o.2.2 tu (by omega));have HBN:=xh (And.intro DF (And.intro BNr SNr));clear hes0 K13 hmp DF BQr kw BNr SNr;generalize Go.ChangeMaps.setBlock wr pm (.map es clock)=Zw at *
   go_wp2_with fail
   go_ret2
   unfold abk;have hnm:nb≠pm:=by omega
   have hsm:tu≠pm:=by omega
   refine⟨rfl,nb,tu,wr,hwn,hws,HI.out.1,Ik.o.2,Ik.o.1,HBN.o.2.1.keep Ik.o.2 hnm,HBN.o.2.2.keep Ik.o.2 hsm,?_,(acr.o.mono λq h=>h.elim .inl λe=>.inr (.inl e)).tr (Ik.o.2.mono λq h=>.inr (.inr h))⟩;rw[HNN.o];exact HBN.o.1.keep Ik.o.2 hkm
end
end
section
open Go.Proofs.Tryz Go.RowKit Go.MapKept Go.Maps
theorem ZU(cb:Nat)(p:Xp)(sb:Nat):∀v∈uh cb p sb,v.oneCell'=true:=λv hv=>by
 unfold uh jZ Gw at hv;simp only[List.mem_append,List.mem_cons,List.mem_map,List.not_mem_nil,or_false]at hv
 rcases hv with((rfl|⟨y,_,rfl⟩)|rfl)|(rfl|rfl|rfl|rfl|rfl)|hv
 all_goals first|rfl|skip
 split at hv
 ·unfold Dy qW at hv
  simp only[List.mem_cons,List.not_mem_nil,or_false]at hv
  rcases hv with rfl|rfl|rfl|rfl|rfl|rfl|rfl|rfl<;>rfl
 ·rw[List.eq_of_mem_replicate hv];rfl
theorem Rx{kv:List (Int×Value)}{a:Int}(h:bQ kv a=none)(v:Value):mQ kv a v=kv++[(a,v)]:=by
 unfold mQ;rw[if_neg (Ec h)]
theorem Pz(ps:List Xp):dN ps≤ps.length:=List.length_filter_le _ _
theorem Ry(cb:Nat){p:Xp}(h:p.rs.length=16)(hl:p.live=true)(sb tu r:Nat):qj (uh cb p sb) p.pid r tu=uh cb {p with pid:=r,par:=p.pid} tu:=by
 obtain⟨r0,r1,r2,r3,r4,r5,r6,r7,r8,r9,r10,r11,r12,r13,yf,vM,e⟩:=Bc h;unfold qj uh jZ Xp.st;simp only[e,hl]
 rfl
section
variable {E:XE} {ty:List Int} {s s':List Xp} {D:XD} {w:World} (hx:eY E) (hp:PX E w s ty D) (hk:fB E w) (hw:lQ E.l.a.toNat E.l.b.toNat s) {x:Xp} (hxs:x∈s) (hl:x.live=true)
include hx hp hk hw hxs hl
theorem yg{kv:List (Int×Value)}(hm:Mp kM w E.pm kv):GH E.kb (D.bl x.pid) E.pm (D.sp x.pid) (lV E.l.a E.l.b E.l.c E.l.d.toNat E.l.e.toNat E.pm E.tb E.ob E.cb (aI s:Nat) D.now (.slice none 0 0)) (uh E.cb x (D.sp x.pid)) kv x.M x.pid (aI s:Nat) E.l.b E.l.a.toNat (.pointer (E.ob,0)) w:=by
 have hla:=hx.la;have hlb:=hx.lb;have hfr:=hw.fr;refine⟨hp.hk,?_,rfl,rfl,rfl,rfl,hp.oC x hxs,Gx (hw.reg x hxs).1 _,?_,rF (hw.reg x hxs).1 _,ZU _ _ _,hm,hp.rE x hxs hl,(hw.ok x hxs).below,by omega,⟨by omega,by omega⟩,⟨by omega,by omega⟩⟩
 ·rw[show((E.l.a.toNat:Nat):Int)=E.l.a from by omega]
  rfl
 ·rw[←(hp.oC x hxs).cell]
  exact Jb hx hp hk hw hxs hl
theorem MO(a b:Int)(t:ByteArray)(lp dp:Option Addr)(ln lc dn dc:Nat)(hf:E.l.a.toNat≤s.length):jQ E 19 x.pid 1 a b t lp dp ln lc dn dc w:=
 jR hx hp hk hw hxs hl 19 _ 1 a b t lp dp ln lc dn dc (λ_ _=>by kernel_rfl) Bd λW hW=>by
  refine(yh E.kb (D.bl x.pid) 1 a b t lp dp ln lc dn dc W (λn ev w'=>n=0∧ev=.iface 48 (.int .i64 19)∧Bel W w') λW2 hW2=>?_).mono ?_
  ·have xY:=hp.bel (hW.tr hW2)
   have hkW:=hk.tr (Keep.of_bel _ (hW.tr hW2));obtain⟨kv,hm,hpm⟩:=xY.map;refine(Rz (yg hx xY hkW hw hxs hl hm) λj h1 h2=>?_).mono λe w' h=>⟨_,_,h.1,rfl,rfl,hW2.tr h.2⟩;rcases hw.least with⟨_,h3⟩|⟨h3,_⟩
   ·obtain⟨q,hq,e⟩:=h3 j h1 h2
    exact⟨_,by rw[←e];exact I7 hw hpm (List.mem_of_getElem? hq)⟩
   ·omega
  ·rintro e w' ⟨n,ev,rfl,rfl,rfl,h⟩
   exact⟨_,rfl,h⟩
theorem RD(a b:Int)(t:ByteArray)(lp dp:Option Addr)(ln lc dn dc:Nat)(hf:s.length<E.l.a.toNat)(hu:E.l.b.toNat<aI s+x.n):jQ E 7 x.pid 1 a b t lp dp ln lc dn dc w:=
 jR hx hp hk hw hxs hl 7 _ 1 a b t lp dp ln lc dn dc (λ_ _=>by kernel_rfl) Bd λW hW=>by
  refine(yh E.kb (D.bl x.pid) 1 a b t lp dp ln lc dn dc W (λn ev w'=>n=0∧ev=.iface 48 (.int .i64 7)∧Bel W w') λW2 hW2=>?_).mono ?_
  ·have xY:=hp.bel (hW.tr hW2)
   have hkW:=hk.tr (Keep.of_bel _ (hW.tr hW2));have hlb:=hx.lb;obtain⟨kv,hm,hpm⟩:=xY.map;rcases hw.least with⟨h3,_⟩|⟨_,r,h1,h2,h3,h4,h5⟩
   ·omega
   ·refine(WA (yg hx xY hkW hw hxs hl hm) r h1 h2 (λj h6 h7=>?_) (Gy hpm λq hq e=>?_) ?_).mono λe w' h=>⟨_,_,h.1,rfl,rfl,hW2.tr h.2⟩
    ·obtain⟨q,hq,e⟩:=h4 j h6 (by omega)
     exact⟨_,by rw[←e];exact I7 hw hpm (List.mem_of_getElem? hq)⟩
    ·obtain⟨j,hj⟩:=List.getElem?_of_mem hq
     exact(h5 j q hj).1 (by omega)
    ·unfold Xp.n at hu
     omega
  ·rintro e w' ⟨n,ev,rfl,rfl,rfl,h⟩
   exact⟨_,rfl,h⟩
omit hx hp hk hw hxs hl in
theorem kD{r:Nat}{c:Xp}{p:Xp}(h:p∈s.take (r-1)++c::s.drop (r-1)):p=c∨p∈s:=by
 rcases List.mem_append.1 h with h1|h1
 ·exact .inr (List.mem_of_mem_take h1)
 ·rcases List.mem_cons.1 h1 with h2|h2
  ·exact .inl h2
  ·exact .inr (List.mem_of_mem_drop h2)
theorem WB(r:Nat)(hr1:1≤r)(hr:r≤E.l.a.toNat)(hin:∀j,1≤j→j<r→∃p,s[j-1]?=some p∧p.pid=j)(hne:∀j p,s[j]?=some p→p.pid≠r∧(j<r-1→p.pid<r)∧(r-1≤j→r<p.pid))(hu:aI s+x.n≤E.l.b.toNat) :
 Calls prog 153 #[E.kb,.pointer (D.bl x.pid,0)] w λe w'=>e=.returned (.tuple #[.int .i64 r,.nilIface])∧∃D',zW E ty s D (s.take (r-1)++{x with pid:=r,par:=x.pid}::s.drop (r-1)) w.heap.size w D' w':=by
 obtain⟨kv,hm,hpm⟩:=hp.map;have hlb:=hx.lb;have hla:=hx.la;have hrs:=(hw.reg x hxs).1;have hlen:=hw.len;have hlv:=Pz s;have hnr:∀q∈s,q.pid≠r:=λq hq=>by
  obtain⟨j,hj⟩:=List.getElem?_of_mem hq;exact(hne j q hj).1
 have hf0:bQ kv (r:Int)=none:=Gy hpm λq hq e=>hnr q hq (by omega);have hcl:=hp.hc.lt;have hck:E.cb≠E.kb:=hp.hc.ne hp.hk (by decide);have hcp:E.cb≠E.pm:=hp.hc.aP hm;have hkp:E.kb≠E.pm:=hp.hk.aP hm;have hfd:∀i,(uh E.cb x (D.sp x.pid))[23+i]?=(Dy E.cb)[i]?:=λi=>by
  rw[show 23+i=17+(6+i)from by omega,mM hrs,hl];simp only[jZ,Gw,if_true]
  rw[show 6+i=i+6 from by omega];rfl
 refine(ZV (yg hx hp hk hw hxs hl hm) r hr1 hr (λj h6 h7=>?_) hf0 (by unfold Xp.n at hu;omega) (λq=>q=E.cb) (λi W=>Blk W E.cb [.int .i64 ((3*dN s+min i 3:Nat):Int),D.tv,D.uv] 151∧Keep (λq=>q=E.cb∨q=E.kb) w W) (λe=>hck e.symm) (λe=>hcp e.symm) (λq hq e=>by omega) (λW k=>⟨hp.hc.keep k hck,k.mono λq hq=>.inr hq⟩) (λi hi=>?_) (λi W hi h8 h9=>?_) λi W t v hi h8 h9 k=>?_).mono ?_
 ·obtain⟨q,hq,e⟩:=hin j h6 (by omega)
  exact⟨_,by rw[←e];exact I7 hw hpm (List.mem_of_getElem? hq)⟩
 ·rw[hfd]
  unfold Dy qW;rcases i with _|_|_|_|_|_|_|_|i
  ·exact .inr ⟨_,_,rfl⟩
  ·exact .inr ⟨_,_,rfl⟩
  ·exact .inr ⟨_,_,rfl⟩
  ·exact .inl rfl
  ·exact .inl rfl
  ·exact .inl rfl
  ·exact .inl rfl
  ·exact .inl rfl
  ·omega
 ·rw[hfd]at h8
  have h3:3≤i:=by
   rcases i with _|_|_|i
   ·cases h8
   ·cases h8
   ·cases h8
   ·omega
  rw[show min (i+1) 3=min i 3 from by omega];exact h9
 ·rw[hfd]at h8
  have h3:i<3∧t=107∧v=.pointer (E.cb,0):=by
   unfold Dy qW at h8;rcases i with _|_|_|_|_|_|_|_|i
   ·cases h8;exact⟨by omega,rfl,rfl⟩
   ·cases h8;exact⟨by omega,rfl,rfl⟩
   ·cases h8;exact⟨by omega,rfl,rfl⟩
   ·cases h8
   ·cases h8
   ·cases h8
   ·cases h8
   ·cases h8
   ·omega
  obtain⟨h3,rfl,rfl⟩:=h3;refine(QK _ E.cb (3*dN s+min i 3) _ _ W h9.1 (by omega)).mono ?_;rintro e w' ⟨rfl,hB,kk⟩;rw[show 3*dN s+min i 3+1=3*dN s+min (i+1) 3 from by omega]at hB;exact⟨rfl,⟨hB,h9.2.tr (kk.mono λq hq=>.inl hq)⟩,kk⟩
 ·rintro e w' ⟨rfl,nb,tu,W,hnb,hsb,hR,kpm,hm2,hnB,hsp2,hkB,kk⟩
  refine⟨rfl,{D with bl:=λj=>if j=r then nb else D.bl j,sp:=λj=>if j=r then tu else D.sp j},?_⟩;obtain⟨c,hc⟩:∃c:Xp,c={x with pid:=r,par:=x.pid}:=⟨_,rfl⟩;rw[←hc];have c1:c.pid=r:=by rw[hc]
  have c2:c.live=true:=by rw[hc];exact hl
  have c3:c.M=x.M:=by rw[hc]
  have c4:uh E.cb c tu=qj (uh E.cb x (D.sp x.pid)) x.pid r tu:=by rw[hc];exact(Ry E.cb hrs hl _ _ _).symm
  have hne0:s≠[]:=λe=>by rw[e]at hxs;cases hxs
  have hblk:∀q cs t,Blk w q cs t→t≠111→t≠151→¬(q=E.cb∨q=E.kb∨q=E.pm):=λq cs t hb n1 n2 hq=>by
   rcases hq with e|e|e
   ·exact hb.ne hp.hc n2 e
   ·exact hb.ne hp.hk n1 e
   ·exact hb.aP hm e
  have zM:∀q m,Sp w q m→¬(q=E.cb∨q=E.kb∨q=E.pm):=λq m hq hh=>by
   obtain⟨kv3,Px⟩:=mJ hq;rcases hh with e|e|e
   ·exact hp.hc.aP Px e.symm
   ·exact hp.hk.aP Px e.symm
   ·exact hp.Wj hq hne0 e
  have hbuf:∀{v:Value} {L:List Int},Buf w v L→Buf w' v L:=λhb=>hb.keep kk λg hg=>by
   obtain⟨_,hb2⟩:=hb.blk hg;exact hblk _ _ _ hb2 (by decide) (by decide)
  have hus:aI (s.take (r-1)++c::s.drop (r-1))=aI s+x.n:=by
   have h1:aI s=aI (s.take (r-1))+aI (s.drop (r-1)):=by rw[←gW,List.take_append_drop]
   have h2:c.n=x.n:=by unfold Xp.n;rw[c3]
   rw[gW,dh];omega
  have hls:dN (s.take (r-1)++c::s.drop (r-1))=dN s+1:=by
   have h1:dN s=dN (s.take (r-1))+dN (s.drop (r-1)):=by rw[←mY,List.take_append_drop]
   rw[mY,gZ,c2];simp only[if_true]
   omega
  have foot:∀q,bH E (s.take (r-1)++c::s.drop (r-1)) {D with bl:=λj=>if j=r then nb else D.bl j,sp:=λj=>if j=r then tu else D.sp j} q→bH E s D q∨w.heap.size≤q:=λq hq=>by
   rcases hq with e|e|e|e|e|⟨p,hp1,hp2⟩
   ·exact .inl (.inl e)
   ·exact .inl (.inr (.inl e))
   ·exact .inl (.inr (.inr (.inl e)))
   ·exact .inl (.inr (.inr (.inr (.inl e))))
   ·exact .inl (.inr (.inr (.inr (.inr (.inl e)))))
   ·rcases kD hp1 with rfl|hp3
    ·simp only[c1,if_true]at hp2
     rcases hp2 with rfl|⟨_,rfl⟩
     ·exact .inr hnb
     ·exact .inr hsb
    ·simp only[if_neg (hnr p hp3)]at hp2
     exact .inl (.inr (.inr (.inr (.inr (.inr ⟨p,hp3,hp2⟩)))))
  refine⟨⟨?_,⟨_,hm2,?_⟩,λp hp1=>?_,λp hp1 hp2=>?_,λp hp1 q hq1 hp2 hq2 e=>?_,?_,hbuf hp.tb,hbuf hp.ub,hp.ap,λq hq=>?_⟩,kk.mono λq hq=>?_,foot,λq hq=>hp.lt hq⟩
  ·rw[hus]
   exact hkB
  ·rw[Rx hf0,List.map_append,List.map_cons]
   refine(hpm.append_right _).trans ?_;have h1:s.map (je D)=(s.take (r-1)).map (je D)++(s.drop (r-1)).map (je D):=by rw[←List.map_append,List.take_append_drop]
   have h2:∀l:List Xp,(∀p∈l,p∈s)→l.map (je {D with bl:=λj=>if j=r then nb else D.bl j,sp:=λj=>if j=r then tu else D.sp j})=l.map (je D):=λl hl2=>List.map_congr_left λp hp1=>by
    unfold je;simp only[if_neg (hnr p (hl2 p hp1))]
   rw[h2 _ λp hp1=>List.mem_of_mem_take hp1,h2 _ λp hp1=>List.mem_of_mem_drop hp1,h1];have h3:je {D with bl:=λj=>if j=r then nb else D.bl j,sp:=λj=>if j=r then tu else D.sp j} c=((r:Int),.pointer (nb,0)):=by
    unfold je;simp only[c1,if_true]
   rw[h3,List.append_assoc];exact List.Perm.append_left _ (List.perm_append_comm.trans (List.Perm.refl _))
  ·rcases kD hp1 with rfl|hp3
   ·simp only[c1,if_true]
    rw[c4];exact hnB
   ·simp only[if_neg (hnr p hp3)]
    exact(hp.oC p hp3).keep kk (hblk _ _ _ (hp.oC p hp3) (by decide) (by decide))
  ·rcases kD hp1 with rfl|hp3
   ·simp only[c1,if_true]
    rw[c3];exact hsp2
   ·simp only[if_neg (hnr p hp3)]
    exact(hp.rE p hp3 hp2).of_block (kk.block _ (hp.rE p hp3 hp2).lt (zM _ _ (hp.rE p hp3 hp2)))
  ·rcases kD hp1 with rfl|hp3<;>rcases kD hq1 with rfl|hq3
   ·rfl
   ·simp only[c1,if_true,if_neg (hnr q hq3)]at e
    have:=(hp.rE q hq3 hq2).lt;omega
   ·simp only[c1,if_true,if_neg (hnr p hp3)]at e
    have:=(hp.rE p hp3 hp2).lt;omega
   ·simp only[if_neg (hnr p hp3),if_neg (hnr q hq3)]at e
    exact hp.inj p hp3 q hq3 hp2 hq2 e
  ·rw[hls,show 3*(dN s+1)=3*dN s+min 8 3 from by omega]
   exact hR.1.keep kpm hcp
  ·rcases foot q hq with h1|h1
   ·exact hp.lo q h1
   ·exact .inl (bU hk.size h1)
  ·rcases hq with rfl|rfl|rfl
   ·exact .inr (.inr (.inl rfl))
   ·exact .inl rfl
   ·exact .inr (.inl rfl)
theorem WC(a b:Int)(t:ByteArray)(lp dp:Option Addr)(ln lc dn dc:Nat)(r:Nat)(hr1:1≤r)(hr:r≤E.l.a.toNat)(hin:∀j,1≤j→j<r→∃p,s[j-1]?=some p∧p.pid=j)(hne:∀j p,s[j]?=some p→p.pid≠r∧(j<r-1→p.pid<r)∧(r-1≤j→r<p.pid))(hu:aI s+x.n≤E.l.b.toNat):zL E ty s D (s.take (r-1)++{x with pid:=r,par:=x.pid}::s.drop (r-1)) r 0 [] x.pid 1 a b t lp dp ln lc dn dc w:=
 Gz hx hp hk hw hxs hl r _ 1 a b t lp dp ln lc dn dc (λ_ _=>by kernel_rfl) Bd λW hW=>by
  refine(yh E.kb (D.bl x.pid) 1 a b t lp dp ln lc dn dc W (λn ev w'=>n=r∧ev=.nilIface∧∃D',zW E ty s D (s.take (r-1)++{x with pid:=r,par:=x.pid}::s.drop (r-1)) W.heap.size W D' w') λW2 hW2=>?_).mono ?_
  ·refine(WB hx (hp.bel (hW.tr hW2)) (hk.tr (Keep.of_bel _ (hW.tr hW2))) hw hxs hl r hr1 hr hin hne hu).mono ?_
   rintro e w' ⟨rfl,D',h⟩;exact⟨_,_,rfl,rfl,rfl,D',h.bel hW2 (hp.bel hW) hW2.le⟩
  ·rintro e w' ⟨n,ev,rfl,rfl,rfl,h⟩
   exact⟨rfl,h⟩
end
end
end Go.Proofs.YtcnjjchlebmfiaaGreatDoor
