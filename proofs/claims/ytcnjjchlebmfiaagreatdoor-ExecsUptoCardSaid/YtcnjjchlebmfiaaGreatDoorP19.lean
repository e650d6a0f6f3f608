/-.-/
import Derived.Test.YtcnjjchlebmfiaaGreatDoorP18
set_option linter.all false
set_option maxRecDepth 100000
set_option maxHeartbeats 16000000
namespace Go.Proofs.YtcnjjchlebmfiaaGreatDoor
section
open Go.Proofs.Tryz Go.RowKit Go.MapKept Go.Maps Go.Shelf
theorem Buf.ne{w:World}{v:Value}{L:List Int}(h:Buf w v L){q:Nat}{cs:List Value}{t:TypeId}(hb:Blk w q cs t)(ht:t≠5):∀g,aU v=some g→g≠q:=λg hg e=>by
 obtain⟨cs2,hb2⟩:=h.blk hg;exact hb2.ne hb (λe2=>ht e2.symm) e
theorem abP(q n m:Nat)(d:Int)(rest:List Value)(t:TypeId)(w:World)(hb:Blk w q (.int .i64 n::rest) t)(hd:(n:Int)+d=m)(hn:n≤1000000)(hm:m≤1000000) :
 Calls prog 392 #[q,d] w λe w'=>e=.returned (.int .i64 m)∧Blk w' q (.int .i64 m::rest) t∧Keep (λx=>x=q) w w':=by
 have c0:=hb.c 0 rfl;have f0:=hb.frozen;have HC:=xh hb;have hl:=hb.lt;have hw:IntKind.i64.wrap ((n:Int)+d)=m:=by rw[IntKind.wrap_i64,hd];omega
 clear hb;go_enter func392,ntmps392;go_wp2
 go_ret
 exact⟨rfl,HC.o.setCell (o:=0) _,Keep.setCell _ _ _ _⟩
theorem QK(ob:Option Addr)(q n:Nat)(rest:List Value)(t:TypeId)(w:World)(hc:Blk w q (.int .i64 n::rest) t)(hn:n≤1000) :
 Calls prog 56 #[.pointer ob,.iface 107 (.pointer (q,0))] w λe w'=>e=.returned (.tuple #[])∧Blk w' q (.int .i64 (n+1:Nat)::rest) t∧Keep (λx=>x=q) w w':=by
 have hme:∀w,(Go.method 667 107 (.pointer (q,0)) "tinyos/files.hold").run prog w=.ok (392,.pointer (q,0)) w:=λw=>by kernel_rfl
 have HH:=xh (abP q n (n+1) 1 rest t w hc (by omega) (by omega) (by omega));clear hc;go_enter func56,ntmps56;go_wp2_with (go_at_call 392;((with_reducible refine aH HH.o ?_);rintro e w1 ⟨rfl,B1,K1⟩;have H1:=xh (And.intro B1 K1);clear B1 K1))
 go_end0
 exact⟨rfl,H1.o.1,H1.o.2⟩
end
section
open Go.RowKit Go.MapKept Go.Maps Go.Shelf
end
section
open Go.Proofs.Tryz Go.RowKit Go.MapKept Go.Maps Go.Shelf
theorem fE:prog.built 62 []=some #[.int .i64 0,.int .i64 0,.slice none 0 0]:=by kernel_rfl
theorem Mc(n:Int)(p:Option Addr)(l c:Nat):prog.built 62 [(0,.int .i64 n),(2,.slice p l c)]=some #[.int .i64 n,.int .i64 0,.slice p l c]:=by kernel_rfl
theorem Md(n m:Int):prog.built 62 [(0,.int .i64 n),(1,.int .i64 m)]=some #[.int .i64 n,.int .i64 m,.slice none 0 0]:=by kernel_rfl
theorem gV{fn:Func}{p u:Tmp}(h:fn.results = #[.cell p 62,.tmp u]){R:Ending→World→Prop}{a:Act}{w:World}{q:Nat}{n m:Int}{dp:Option Addr}{dn dc:Nat}(hp:a.tmps.getD p undef=.pointer (q,0))
 (hb:Blk w q [n,m,(dp,dn,dc)] 62)(hd:a.defers=[])(hR:R (.returned (.tuple #[.agg #[n,m,(dp,dn,dc)],a.tmps.getD u undef])) w):bodyPost prog fn R .ret a w:=by
 refine bodyPost_ret (v:=.tuple #[.agg #[n,m,(dp,dn,dc)],a.tmps.getD u undef]) ?_ hd hR;have c0:=hb.c 0 rfl;have c1:=hb.c 1 rfl;have c2:=hb.c 2 rfl;rw[results_cell_tmp h,hp];go_simp
theorem hbox(kd a b:Int)(s:ByteArray)(lp dp:Option Addr)(ln lc dn dc:Nat)(w w2:World)(e:w2=(w.alloc (.cells #[kd,a,b,s,(lp,ln,lc),(dp,dn,dc)] 68)).alloc (.cells #[(0:Int),(0:Int),()] 62)):Hid (Bel w w2)∧Hid (Blk w2 (w.heap.size+1) [(0:Int),(0:Int),()] 62)∧Hid (w2.cell? (w.heap.size,0)=some (.int .i64 kd)∧w2.cell? (w.heap.size,1)=some (.int .i64 a)∧w2.cell? (w.heap.size,2)=some (.int .i64 b)∧w2.cell? (w.heap.size,3)=some (.string s)∧w2.cell? (w.heap.size,4)=some (.slice lp ln lc)∧w2.cell? (w.heap.size,5)=some (.slice dp dn dc)):=by
 subst e;have BY:=(Blk.new w [kd,a,b,s,(lp,ln,lc),(dp,dn,dc)] 68).alloc (.cells #[(0:Int),(0:Int),()] 62);exact⟨xh ((Bel.start w _).ac _),xh (Blk.dF _ [(0:Int),(0:Int),()] _ (by simp)),xh ⟨BY.cell 0,BY.cell 1,BY.cell 2,BY.cell 3,BY.cell 4,BY.cell 5⟩⟩
def uA(a:Int):Int:=a%18446744073709551616
theorem kQ(a:Int):0≤uA a∧uA a<18446744073709551616:=by unfold uA;omega
theorem lS(a:Int):IntKind.u64.wrap a=uA a:=IntKind.wrap_u64 a
theorem tV{perm:Nat→Option Int}{M:Nat→Int}{a n k:Int}(h:gz (ah perm M) a n k=true)(h0:0≤a)(hn:0<n):a+n≤65536∧∀x:Nat,a≤x→(x:Int)<a+n→(perm (x/256)).isSome=true:=by
 unfold gz at h;rw[if_neg (by omega)]at h;by_cases c:n<0∨65536≤a∨65536-a<n
 ·rw[if_pos c]at h;cases h
 ·rw[if_neg c]at h
  refine⟨by omega,λx h1 h2=>?_⟩;unfold kC at h;rw[List.all_eq_true]at h;have h3:=h (x/256-(a/256).toNat) (by rw[List.mem_range];unfold lastOf;omega);rw[show(a/256).toNat+(x/256-(a/256).toNat)=x/256 from by omega]at h3;cases e:perm (x/256)with
  | some p=>rfl
  | none=>
    unfold lX at h3;rw[show ah perm M (x/256)=none from by unfold ah;rw[e];rfl]at h3;simp[Pg.can,Pg.zero]at h3
    exact absurd (by unfold bits;simp;rfl) h3
theorem Tc(b:Nat)(u:Int)(w:World):Calls prog 126 #[.map (some b),.int .u64 u,(0:Int)] w λe w'=>∃g,e=.returned (.slice (g,0) 0 0)∧w.heap.size≤g∧Blk w' g [] 5∧Bel w w':=by
 have hmk:=λW=>PU 0 (by omega) 0 W rfl;have k1:Bel w (w.alloc (.cells #[] 5)):=Bel.start w _;have B1:=Blk.new w [] 5;have HK:=xh (And.intro k1 B1);clear k1 B1;go_enter func126,ntmps126;go_upto_region 3 with fail
 obtain⟨w1,hw1⟩:∃w1,w1=w.alloc (.cells #[] 5):=⟨_,rfl⟩;have HW:=xh hw1;rw[←hw1];clear hw1
 go_loopw [15] (λi wr=>i=.int .i64 0∧w1=wr) (λ_ _=>0)
 case atStart=>exact⟨rfl,rfl⟩
 case round=>
  obtain⟨rfl,rfl⟩:=hrel;go_wp2_with fail
  go_ret
  exact⟨_,rfl,bM _,by rw[HW.o];exact HK.o.2,by rw[HW.o];exact HK.o.1⟩
theorem Td(b:Nat)(u:Int)(p:Option Addr)(c:Nat)(w:World):Calls prog 84 #[.map (some b),.int .u64 u,.slice p 0 c] w (Z.e (.tuple #[]) w):=by
 go_enter func84,ntmps84;go_wp2
 go_loopw [1,2] (λa s wr=>a=.int .u64 u∧s=.slice p 0 c∧w=wr) (λ_ _ _=>0)
 case atStart=>exact⟨rfl,rfl,rfl⟩
 case round=>
  obtain⟨rfl,rfl,rfl⟩:=hrel;go_wp2
  go_end0
  exact⟨rfl,rfl⟩
theorem jr{w w' w'':World}(k:Bel w w'){b:Nat}(k2:Keep (λx=>x=b) w' w'')(hb:w.heap.size≤b):Bel w w'':=by
 have k3:=(Keep.of_bel (λx=>x=b) k).tr k2;exact⟨k3.os,k3.tape,k3.output,k3.size,λx hx=>k3.block x hx (by omega)⟩
section
variable (kb pb sb:Nat) (perm:Nat→Option Int) (M:Nat→Int) (kd a b:Int) (s:ByteArray) (lp dp:Option Addr) (ln lc dn dc:Nat) (w:World)
theorem Ri(hb:b<0):Calls prog 245 #[kb,pb,.agg #[.int .i64 kd,.int .i64 a,.int .i64 b,.string s,.slice lp ln lc,.slice dp dn dc]] w (Z.b (.tuple #[.agg #[(0:Int),(0:Int),()],.iface 48 (.int .i64 6)]) w):=by
 have b0:=fE;have k2:Bel w ((w.alloc (.cells #[.int .i64 kd,.int .i64 a,.int .i64 b,.string s,.slice lp ln lc,.slice dp dn dc] 68)).alloc (.cells #[(0:Int),(0:Int),()] 62)):=(Bel.start w _).ac _;have HK:=xh k2;clear k2;go_enter func245,ntmps245;go_wp2
 (try simp only[Exit.inBlock,Exit.then])
 exact gV (q:=w.heap.size+1) rfl rfl (Blk.dF _ [(0:Int),(0:Int),()] _ (by simp)) rfl ⟨rfl,HK.o⟩
theorem Rj(hb:4096<b):Calls prog 245 #[kb,pb,.agg #[.int .i64 kd,.int .i64 a,.int .i64 b,.string s,.slice lp ln lc,.slice dp dn dc]] w (Z.b (.tuple #[.agg #[(0:Int),(0:Int),()],.iface 48 (.int .i64 6)]) w):=by
 have b0:=fE;have k2:Bel w ((w.alloc (.cells #[.int .i64 kd,.int .i64 a,.int .i64 b,.string s,.slice lp ln lc,.slice dp dn dc] 68)).alloc (.cells #[(0:Int),(0:Int),()] 62)):=(Bel.start w _).ac _;have HK:=xh k2;clear k2;go_enter func245,ntmps245;go_wp2
 (try simp only[Exit.inBlock,Exit.then])
 exact gV (q:=w.heap.size+1) rfl rfl (Blk.dF _ [(0:Int),(0:Int),()] _ (by simp)) rfl ⟨rfl,HK.o⟩
theorem Ro(hb0:0≤b)(hb:b≤4096)(h17:w.cell? (pb,17)=some (.map (some sb)))(hs:Sp w sb (ah perm M))(hm:gz (ah perm M) (uA a) b 4=false):Calls prog 245 #[kb,pb,.agg #[.int .i64 kd,.int .i64 a,.int .i64 b,.string s,.slice lp ln lc,.slice dp dn dc]] w (Z.b (.tuple #[.agg #[(0:Int),(0:Int),()],.iface 48 (.int .i64 7)]) w):=by
 have b0:=fE;have k2:Bel w ((w.alloc (.cells #[.int .i64 kd,.int .i64 a,.int .i64 b,.string s,.slice lp ln lc,.slice dp dn dc] 68)).alloc (.cells #[(0:Int),(0:Int),()] 62)):=(Bel.start w _).ac _;have HK:=xh k2;have h17:=af k2 h17;have hpl:=World.block_lt_of_cell? _ _ h17;have HB:Hid (Blk ((w.alloc (.cells #[.int .i64 kd,.int .i64 a,.int .i64 b,.string s,.slice lp ln lc,.slice dp dn dc] 68)).alloc (.cells #[(0:Int),(0:Int),()] 62)) (w.heap.size+1) [(0:Int),(0:Int),()] 62):=xh (Blk.dF _ [(0:Int),(0:Int),()] _ (by simp));have hbb:decide (b<0)=false:=by simpa using hb0
 have Np:decide (4096<b)=false:=by simpa using hb
 have hwu:=lS a;have HM:=xh λW (hW:Bel w W)=>wQ sb (ah perm M) (uA a) b 4 W (hs.bel hW) (kQ a).1 (kQ a).2 (by omega) (by omega);rw[hm]at HM;clear k2 hs hm hb0 hb;go_enter func245,ntmps245;go_upto_region 3 with fail
 have ma:((w.alloc (.cells #[.int .i64 kd,.int .i64 a,.int .i64 b,.string s,.slice lp ln lc,.slice dp dn dc] 68)).alloc (.cells #[(0:Int),(0:Int),()] 62)).cell? (w.heap.size,1)=some (.int .i64 a):=((Blk.new w [.int .i64 kd,.int .i64 a,.int .i64 b,.string s,.slice lp ln lc,.slice dp dn dc] 68).alloc _).cell 1;have mb:((w.alloc (.cells #[.int .i64 kd,.int .i64 a,.int .i64 b,.string s,.slice lp ln lc,.slice dp dn dc] 68)).alloc (.cells #[(0:Int),(0:Int),()] 62)).cell? (w.heap.size,2)=some (.int .i64 b):=((Blk.new w [.int .i64 kd,.int .i64 a,.int .i64 b,.string s,.slice lp ln lc,.slice dp dn dc] 68).alloc _).cell 2;generalize DC:w.heap.size+1=qb at *
 generalize (w.alloc (.cells #[.int .i64 kd,.int .i64 a,.int .i64 b,.string s,.slice lp ln lc,.slice dp dn dc] 68)).alloc (.cells #[(0:Int),(0:Int),()] 62)=w2 at *
 have DL:=xh λk=>(HM.o (w2.drewN k) (aj HK.o k)).mono λe w' h=>And.intro h.1 h.2.symm;go_quiet ((go_at_call 124;exact Calls.quiet_of_same (DL.o _)))
 have qE:=xh (aj HK.o nq);have yt:=xh (HB.o.bel (aj (Bel.refl w2) nq));generalize w2.drewN nq=w3 at *
 have x0:=yt.o.cell 0;have x1:=yt.o.cell 1;have x2:=yt.o.cell 2;have xf:=yt.o.frozen;have xl:=yt.o.lt;go_wp2
 (try simp only[Exit.inBlock,Exit.then])
 exact gV (q:=qb) rfl rfl (((yt.o.setCell (o:=0) _).setCell (o:=1) _).setCell (o:=2) _) rfl ⟨rfl,jr qE.o (((Keep.setCell _ _ _ _).tr (Keep.setCell _ _ _ _)).tr (Keep.setCell _ _ _ _)) (by omega)⟩
theorem Wp(hb0:0≤b)(hb:b≤4096)(h17:w.cell? (pb,17)=some (.map (some sb)))(hs:Sp w sb (ah perm M))(hm:gz (ah perm M) (uA a) b 4=true):Calls prog 245 #[kb,pb,.agg #[.int .i64 kd,.int .i64 a,.int .i64 b,.string s,.slice lp ln lc,.slice dp dn dc]] w λe w'=>∃g,e=.returned (.tuple #[.agg #[.int .i64 b,(0:Int),.slice (g,0) b.toNat b.toNat],.nilIface])∧w.heap.size≤g∧Blk w' g (rowOf (λi=>M ((uA a).toNat+i)) b.toNat) 5∧Bel w w':=by
 obtain⟨n,rfl⟩:=Int.eq_ofNat_of_zero_le hb0;rw[Int.toNat_natCast];have b0:=fE;have bn:=Mc;have k2:Bel w ((w.alloc (.cells #[.int .i64 kd,.int .i64 a,.int .i64 n,.string s,.slice lp ln lc,.slice dp dn dc] 68)).alloc (.cells #[(0:Int),(0:Int),()] 62)):=(Bel.start w _).ac _;have HK:=xh k2;have hpn:pb≠w.heap.size+1:=by have:pb<w.heap.size:=World.block_lt_of_cell? _ _ h17;omega
 have h17:=af k2 h17;have hpl:=World.block_lt_of_cell? _ _ h17;have HB:Hid (Blk ((w.alloc (.cells #[.int .i64 kd,.int .i64 a,.int .i64 n,.string s,.slice lp ln lc,.slice dp dn dc] 68)).alloc (.cells #[(0:Int),(0:Int),()] 62)) (w.heap.size+1) [(0:Int),(0:Int),()] 62):=xh (Blk.dF _ [(0:Int),(0:Int),()] _ (by simp));have Np:decide (4096<(n:Int))=false:=by simpa using hb
 have hwu:=lS a;have HM:=xh λW (hW:Bel w W)=>wQ sb (ah perm M) (uA a) n 4 W (hs.bel hW) (kQ a).1 (kQ a).2 (by omega) (by omega);rw[hm]at HM;have hpk:∀W,Bel w W→Calls prog 126 #[.map (some sb),.int .u64 (uA a),.int .i64 n] W λe w'=>∃g,e=.returned (.slice (g,0) n n)∧W.heap.size≤g∧Blk w' g (rowOf (λi=>M ((uA a).toNat+i)) n) 5∧Bel W w':=λW hW=>by
  by_cases h0:n=0
  ·subst h0
   exact Tc sb (uA a) W
  ·obtain⟨h1,h2⟩:=tV hm (kQ a).1 (by omega)
   have h3:=Xu sb perm M (uA a).toNat n W (hs.bel hW) (by have:=(kQ a).1;omega) λx h4 h5=>h2 x (by have:=(kQ a).1;omega) (by have:=(kQ a).1;omega);rw[Int.toNat_of_nonneg (kQ a).1]at h3;exact h3
 have Eg:=xh hpk;clear k2 hs hm hb hpk;go_enter func245,ntmps245;go_upto_region 3 with fail
 have ma:((w.alloc (.cells #[.int .i64 kd,.int .i64 a,.int .i64 n,.string s,.slice lp ln lc,.slice dp dn dc] 68)).alloc (.cells #[(0:Int),(0:Int),()] 62)).cell? (w.heap.size,1)=some (.int .i64 a):=((Blk.new w [.int .i64 kd,.int .i64 a,.int .i64 n,.string s,.slice lp ln lc,.slice dp dn dc] 68).alloc _).cell 1;have mb:((w.alloc (.cells #[.int .i64 kd,.int .i64 a,.int .i64 n,.string s,.slice lp ln lc,.slice dp dn dc] 68)).alloc (.cells #[(0:Int),(0:Int),()] 62)).cell? (w.heap.size,2)=some (.int .i64 n):=((Blk.new w [.int .i64 kd,.int .i64 a,.int .i64 n,.string s,.slice lp ln lc,.slice dp dn dc] 68).alloc _).cell 2;generalize DC:w.heap.size+1=qb at *
 generalize hbx:w.heap.size=bx at *
 generalize (w.alloc (.cells #[.int .i64 kd,.int .i64 a,.int .i64 n,.string s,.slice lp ln lc,.slice dp dn dc] 68)).alloc (.cells #[(0:Int),(0:Int),()] 62)=w2 at *
 have DL:=xh λk=>(HM.o (w2.drewN k) (aj HK.o k)).mono λe w' h=>And.intro h.1 h.2.symm;go_quiet ((go_at_call 124;exact Calls.quiet_of_same (DL.o _)))
 have qE:=xh (aj HK.o nq);have yt:=xh (HB.o.bel (aj (Bel.refl w2) nq));have e1:=af (aj (Bel.refl w2) nq) ma;have e2:=af (aj (Bel.refl w2) nq) mb;have e17:=af (aj (Bel.refl w2) nq) h17;generalize w2.drewN nq=w3 at *
 clear ma mb h17 hpl DL HB;go_upto_region 5 with fail
 have hpl:=World.block_lt_of_cell? _ _ e17;have hbl:=World.block_lt_of_cell? _ _ e1;have hn1:bx≠qb:=by omega
 have hn2:qb≠bx:=by omega
 have hn4:qb≠pb:=λe=>hpn e.symm
 go_region_held3 (λw'=>w'.cell? ⟨bx,1,none⟩=some (.int .i64 a)∧w'.cell? ⟨bx,2,none⟩=some (.int .i64 n)∧w'.cell? ⟨pb,17,none⟩=some (.map (some sb)))
  (first|(go_keep;done)|assumption|(refine⟨?_,?_,?_⟩<;>first|(go_keep;done)|assumption))
  (first|(go_at_call 126;with_reducible refine aH (Eg.o _ (qE.o.tr (Bel.drew (Bel.refl _)))) ?_;rintro e4 w4 ⟨g,rfl,hg,hB,hk4⟩;have m1:w4.cell? (bx,1)=some (.int .i64 a):=af (Bel.tr (Bel.drew (Bel.refl _)) hk4) e1;have m2:w4.cell? (bx,2)=some (.int .i64 n):=af (Bel.tr (Bel.drew (Bel.refl _)) hk4) e2;have m17:w4.cell? (pb,17)=some (.map (some sb)):=af (Bel.tr (Bel.drew (Bel.refl _)) hk4) e17;have H4:=xh (And.intro hg (And.intro hB (And.intro hk4 (yt.o.bel (Bel.tr (Bel.drew (Bel.refl _)) hk4)))));have x0:=H4.o.2.2.2.cell 0;have x1:=H4.o.2.2.2.cell 1;have x2:=H4.o.2.2.2.cell 2;have xf:=H4.o.2.2.2.frozen;have xl:=H4.o.2.2.2.lt;clear hg hB hk4))
 go_wp2_with fail
 (try simp only[Exit.inBlock,Exit.then])
 have hk4:=qE.o.tr (Bel.tr (Bel.drew (Bel.refl _)) H4.o.2.2.1);have k5:Keep (λx=>x=qb) w4 (((w4.setCell (qb,0) (.int .i64 n)).setCell (qb,1) (.int .i64 0)).setCell (qb,2) (.slice (g,0) n n)):=((Keep.setCell _ _ _ _).tr (Keep.setCell _ _ _ _)).tr (Keep.setCell _ _ _ _);exact gV (q:=qb) rfl rfl (((H4.o.2.2.2.setCell (o:=0) _).setCell (o:=1) _).setCell (o:=2) _) rfl ⟨g,rfl,by have:=H4.o.1;have:=qE.o.size;simp at *;omega,H4.o.2.1.keep k5 (λe=>by have e:g=qb:=e;have:=H4.o.1;have:=yt.o.lt;simp at *;omega),jr hk4 k5 (by omega)⟩
theorem MN(hd:4096<dn)(hd1:dn≤100000000):Calls prog 246 #[kb,pb,.agg #[.int .i64 kd,.int .i64 a,.int .i64 b,.string s,.slice lp ln lc,.slice dp dn dc]] w (Z.b (.tuple #[(0:Int),.iface 48 (.int .i64 6)]) w):=by
 have k2:Bel w (w.alloc (.cells #[.int .i64 kd,.int .i64 a,.int .i64 b,.string s,.slice lp ln lc,.slice dp dn dc] 68)):=Bel.start w _;have HK:=xh k2;clear k2;go_enter func246,ntmps246;go_wp2
 go_ret2
 exact⟨rfl,HK.o⟩
theorem Rt(hd:dn≤4096)(h17:w.cell? (pb,17)=some (.map (some sb)))(hs:Sp w sb (ah perm M))(hm:gz (ah perm M) (uA a) dn 2=false):Calls prog 246 #[kb,pb,.agg #[.int .i64 kd,.int .i64 a,.int .i64 b,.string s,.slice lp ln lc,.slice dp dn dc]] w (Z.b (.tuple #[(0:Int),.iface 48 (.int .i64 7)]) w):=by
 have k2:Bel w (w.alloc (.cells #[.int .i64 kd,.int .i64 a,.int .i64 b,.string s,.slice lp ln lc,.slice dp dn dc] 68)):=Bel.start w _;have HK:=xh k2;have h17:=af k2 h17;have hpl:=World.block_lt_of_cell? _ _ h17;have Np:decide (4096<(dn:Int))=false:=by simpa using (by omega:(dn:Int)≤4096)
 have hwu:=lS a;have HM:=xh λW (hW:Bel w W)=>wQ sb (ah perm M) (uA a) dn 2 W (hs.bel hW) (kQ a).1 (kQ a).2 (by omega) (by omega);rw[hm]at HM;clear k2 hs hm;go_enter func246,ntmps246;go_upto_region 3 with fail
 have ma:(w.alloc (.cells #[.int .i64 kd,.int .i64 a,.int .i64 b,.string s,.slice lp ln lc,.slice dp dn dc] 68)).cell? (w.heap.size,1)=some (.int .i64 a):=(Blk.new w [.int .i64 kd,.int .i64 a,.int .i64 b,.string s,.slice lp ln lc,.slice dp dn dc] 68).cell 1;have mb:(w.alloc (.cells #[.int .i64 kd,.int .i64 a,.int .i64 b,.string s,.slice lp ln lc,.slice dp dn dc] 68)).cell? (w.heap.size,5)=some (.slice dp dn dc):=(Blk.new w [.int .i64 kd,.int .i64 a,.int .i64 b,.string s,.slice lp ln lc,.slice dp dn dc] 68).cell 5;generalize w.alloc (.cells #[.int .i64 kd,.int .i64 a,.int .i64 b,.string s,.slice lp ln lc,.slice dp dn dc] 68)=w2 at *
 have DL:=xh λk=>(HM.o (w2.drewN k) (aj HK.o k)).mono λe w' h=>And.intro h.1 h.2.symm;go_quiet ((go_at_call 124;exact Calls.quiet_of_same (DL.o _)))
 have qE:=xh (aj HK.o nq);generalize w2.drewN nq=w3 at *
 go_wp2
 go_ret2
 exact⟨rfl,qE.o⟩
theorem Ws(d:List Int)(hl:d.length=dn)(hd:dn≤4096)(hdc:dn≤dc)(hby:BS w dp d)(h17:w.cell? (pb,17)=some (.map (some sb)))(hs:Sp w sb (ah perm M))(hm:gz (ah perm M) (uA a) dn 2=true):Calls prog 246 #[kb,pb,.agg #[.int .i64 kd,.int .i64 a,.int .i64 b,.string s,.slice lp ln lc,.slice dp dn dc]] w λe w'=>e=.returned (.tuple #[.int .i64 dn,.nilIface])∧Sp w' sb (ah perm (aW M (uA a).toNat d))∧Keep (λq=>q=sb) w w':=by
 have k2:Bel w (w.alloc (.cells #[.int .i64 kd,.int .i64 a,.int .i64 b,.string s,.slice lp ln lc,.slice dp dn dc] 68)):=Bel.start w _;have HK:=xh k2;have hsl:sb<w.heap.size:=hs.lt;have h17:=af k2 h17;have hpl:=World.block_lt_of_cell? _ _ h17;have Np:decide (4096<(dn:Int))=false:=by simpa using (by omega:(dn:Int)≤4096)
 have hwu:=lS a;have HM:=xh λW (hW:Bel w W)=>wQ sb (ah perm M) (uA a) dn 2 W (hs.bel hW) (kQ a).1 (kQ a).2 (by omega) (by omega);rw[hm]at HM;have hpk:∀W,Bel w W→Calls prog 84 #[.map (some sb),.int .u64 (uA a),.slice dp dn dc] W λe w'=>e=.returned (.tuple #[])∧Sp w' sb (ah perm (aW M (uA a).toNat d))∧Keep (λq=>q=sb) W w':=λW hW=>by
  by_cases h0:dn=0
  ·have hd0:d=[]:=List.length_eq_zero_iff.1 (hl.trans h0)
   subst h0 hd0;refine(Td sb (uA a) dp dc W).mono ?_;rintro e w' ⟨rfl,rfl⟩;have e2:aW M (uA a).toNat []=M:=by funext x;unfold aW;rw[if_neg (by simp)]
   rw[e2];exact⟨rfl,hs.bel hW,Keep.refl _ _⟩
  ·obtain⟨h1,h2⟩:=tV hm (kQ a).1 (by omega)
   obtain⟨g,o,rfl,_,hb⟩:=(hby.bel hW).2 (by omega);have h3:=Bz sb perm M (uA a).toNat d (some ⟨g,o,none⟩) g o dc W (hs.bel hW) (by have:=(kQ a).1;omega) (λ_=>rfl) hb (by omega) λx h4 h5=>h2 x (by have:=(kQ a).1;omega) (by have:=(kQ a).1;omega);rw[Int.toNat_of_nonneg (kQ a).1,hl]at h3;exact h3
 have Eg:=xh hpk;clear k2 hs hm hpk hby;go_enter func246,ntmps246;go_upto_region 3 with fail
 have BX:=Blk.new w [.int .i64 kd,.int .i64 a,.int .i64 b,.string s,.slice lp ln lc,.slice dp dn dc] 68;have ma:(w.alloc (.cells #[.int .i64 kd,.int .i64 a,.int .i64 b,.string s,.slice lp ln lc,.slice dp dn dc] 68)).cell? (w.heap.size,1)=some (.int .i64 a):=BX.cell 1;have mb:(w.alloc (.cells #[.int .i64 kd,.int .i64 a,.int .i64 b,.string s,.slice lp ln lc,.slice dp dn dc] 68)).cell? (w.heap.size,5)=some (.slice dp dn dc):=BX.cell 5;generalize hbx:w.heap.size=bx at *
 generalize w.alloc (.cells #[.int .i64 kd,.int .i64 a,.int .i64 b,.string s,.slice lp ln lc,.slice dp dn dc] 68)=w2 at *
 clear BX;have DL:=xh λk=>(HM.o (w2.drewN k) (aj HK.o k)).mono λe w' h=>And.intro h.1 h.2.symm;go_quiet ((go_at_call 124;exact Calls.quiet_of_same (DL.o _)))
 have qE:=xh (aj HK.o nq);have e1:=af (aj (Bel.refl w2) nq) ma;have e5:=af (aj (Bel.refl w2) nq) mb;have e17:=af (aj (Bel.refl w2) nq) h17;generalize w2.drewN nq=w3 at *
 clear ma mb h17 hpl DL;go_upto_region 5 with fail
 have hpl:=World.block_lt_of_cell? _ _ e17;have hbl:=World.block_lt_of_cell? _ _ e1;go_still_tail 10,(by kernel_rfl)
 change wpList _ _ _ _ _ w3.drew
 go_wp2_with (go_at_call 84;with_reducible refine aH (Eg.o _ (qE.o.tr (Bel.drew (Bel.refl _)))) ?_;rintro e4 w4 ⟨rfl,hB,hk4⟩;have m5:w4.cell? (bx,5)=some (.slice dp dn dc):=(hk4.cell ⟨bx,5,none⟩ (World.block_lt_of_cell? _ _ (af (Bel.drew (Bel.refl w3)) e5)) (λe=>by have e:bx=sb:=e;omega)).trans (af (Bel.drew (Bel.refl w3)) e5);have H4:=xh (And.intro hB hk4);clear hB hk4)
 go_ret2
 exact⟨rfl,H4.o.1,(Keep.of_bel _ (qE.o.tr (Bel.drew (Bel.refl _)))).tr H4.o.2⟩
end
def kT(m:ax)(t:Nat):Prop:=(∀n,n<254→(m n).isSome=true→n<t)∧(t=0∨∃n,n<254∧(m n).isSome=true∧t=n+1)
theorem kT.le{m:ax}{t:Nat}(h:kT m t):t≤254:=by
 rcases h.2 with rfl|⟨n,h1,_,rfl⟩<;>omega
theorem kT.uniq{m:ax}{t u:Nat}(h:kT m t)(k:kT m u):t=u:=by
 rcases h.2 with rfl|⟨n,h1,h2,rfl⟩
 ·rcases k.2 with rfl|⟨n,h1,h2,rfl⟩
  ·rfl
  ·have:=h.1 n h1 h2;omega
 ·rcases k.2 with rfl|⟨l,h3,h4,rfl⟩
  ·have:=k.1 n h1 h2;omega
  ·have:=k.1 n h1 h2
   have:=h.1 l h3 h4;omega
def jS:Pg:=⟨6,List.replicate 256 0⟩
def dD(m:ax)(t n:Nat):ax:=λi=>if t≤i∧i<t+n then some jS else m i
theorem Nq(m:ax)(t:Nat):dD m t 0=m:=by
 funext i
 unfold dD;rw[if_neg (by omega)]
theorem Nr(m:ax)(t k:Nat):dD m t (k+1)=λi=>if i=t+k then some jS else dD m t k i:=by
 funext i
 unfold dD;by_cases e:i=t+k
 ·rw[if_pos e,if_pos (by omega)]
 ·rw[if_neg e]
  by_cases c:t≤i∧i<t+k
  ·rw[if_pos c,if_pos (by omega)]
  ·rw[if_neg c,if_neg (by omega)]
theorem Tf:prog.built 187 [(0,.int .u8 6)]=some jS.cells.toArray:=by
 have e:jS.cells=.int .u8 6::List.replicate 256 (Value.int .u8 0):=by unfold jS Pg.cells;rw[List.map_replicate]
 rw[e];exact(by kernel_rfl:prog.built 187 [(0,.int .u8 6)]=some (Value.int .u8 6::List.replicate 256 (Value.int .u8 0)).toArray)
theorem Ti(b:Nat)(m:ax)(n:Nat)(w:World)(hs:Sp w b m)(hn:n≤1000000):Calls prog 228 #[.map (some b),.int .i64 n] w λe w'=>e=.returned (.tuple #[])∧Sp w' b (λi=>if i=n then some jS else m i)∧Keep (λq=>q=b) w w':=by
 obtain⟨es,clock,hup,xN,hk4⟩:=hs.update n (by omega) jS;have HB:=xh Tf;have H4:=xh (And.intro xN hk4);rw[show jS.v=.agg jS.cells.toArray from rfl]at hup;obtain⟨cs,hcs⟩:=e_x jS.cells;rw[hcs]at hup HB;clear hs xN hk4 hcs;generalize hw4:Go.ChangeMaps.setBlock w b (.map es clock)=w4 at *
 clear hw4;go_enter func228,ntmps228;go_wp2_with (refine wpList_buildTo rfl 187 _ rfl (some 6) rfl _ (by simp only[List.map_toArray,List.map_cons,List.map_nil];exact HB.o) ?_)
 go_end0
 exact⟨rfl,H4.o⟩
def oG(m:ax)(left:Lit→Bool)(t:Nat):Prop:=(∀n,n<254→(m n).isSome=true→left (.int .i64 n)=false→n<t)∧(t=0∨∃n,n<254∧(m n).isSome=true∧t=n+1)
theorem oG.le{m:ax}{left:Lit→Bool}{t:Nat}(h:oG m left t):t≤254:=by
 rcases h.2 with rfl|⟨n,h1,_,rfl⟩<;>omega
theorem oG.top{m:ax}{left:Lit→Bool}{t:Nat}(h:oG m left t)(hl:∀x,left x=false):kT m t:=⟨λn h1 h2=>h.1 n h1 h2 (hl _),h.2⟩
theorem oG.step{m:ax}{left:Lit→Bool}{t:Nat}(h:oG m left t)(n:Nat)(hn:(m n).isSome=true):oG m (λz=>left z&&!z.sameKey (.int .i64 n)) (if n<254 then max t (n+1)else t):=by
 refine⟨λi h1 h2 h3=>?_,?_⟩
 ·dsimp only at h3
  rw[og]at h3;by_cases e:i=n
  ·subst e
   rw[if_pos h1];omega
  ·have h4:left (.int .i64 i)=false:=by
    have:decide ((i:Int)=(n:Int))=false:=by simp;omega
    rw[this]at h3
    simpa using h3
   have:=h.1 i h1 h2 h4;by_cases c:n<254
   ·rw[if_pos c];omega
   ·rw[if_neg c];exact this
 ·by_cases c:n<254
  ·rw[if_pos c]
   by_cases c2:t≤n+1
   ·rw[Nat.max_eq_right c2]
    exact .inr ⟨n,c,hn,rfl⟩
   ·rw[Nat.max_eq_left (by omega)]
    exact h.2
  ·rw[if_neg c]
   exact h.2
def Wx(kb sb:Nat)(m:ax)(w:World)(k t:Nat)(ks:List Value)(used mf:Int)(e:Ending)(w':World):Prop:=
 (mf<used+k∨254<t+k→e=.returned (.tuple #[(0:Int),.iface 48 (.int .i64 7)])∧Bel w w')∧
 (used+k≤mf→t+k≤254→e=.returned (.tuple #[.int .i64 (t*256:Nat),.nilIface])∧Sp w' sb (dD m t k)∧Blk w' kb (ks.set 9 (.int .i64 (used+k))) 111∧Keep (λq=>q=sb∨q=kb) w w')
section
variable (kb pb sb:Nat) (m:ax) (n:Int) (w:World)
theorem Wu(hn:n<0∨64<n):Calls prog 168 #[kb,pb,.int .i64 n] w (Z.b (.tuple #[(0:Int),.iface 48 (.int .i64 6)]) w):=by
 rcases hn with h|h
 ·go_enter func168,ntmps168
  go_wp2
  go_ret2
  exact⟨rfl,Bel.refl _⟩
 ·go_enter func168,ntmps168
  go_wp2
  go_ret2
  exact⟨rfl,Bel.refl _⟩
theorem abW(k:Nat)(t:Nat)(ks:List Value)(used mf:Int)(Ba:k≤64)(ht:kT m t)(hK:Blk w kb ks 111)(h9:ks[9]?=some (.int .i64 used))(h1:ks[1]?=some (.int .i64 mf))(hu:0≤used∧used≤1000000)(hmf:0≤mf∧mf≤1000000)
 (h17:w.cell? (pb,17)=some (.map (some sb)))(hs:Sp w sb m)(hb:∀n,256≤n→m n=none)(hkp:kb≠pb) :
 Calls prog 168 #[kb,pb,.int .i64 k] w (Wx kb sb m w k t ks used mf):=by
 have hs0:=hs;obtain⟨kv,hmp,hget,hpos⟩:=hs;have hl:kv.length≤maxLen:=by
  have h1:=(Sp.keys hb hmp hget hpos).length_eq;have h2:=aT m;simp only[jE]at h1
  unfold maxLen;omega
 have hown:=hmp.VE hl;have hsl:=hmp.lt;have hkl:=hK.lt;have hks:kb≠sb:=λe=>hK.aP hmp e;have HS:=xh hs0;have HG:=xh hget;have HM:=xh hmp;have HP:=xh hpos;have HB:=xh hb;have HL:=xh hl;have HK:=xh (And.intro hK (And.intro h9 h1));have HT:=xh ht;clear hget hmp hpos hb hl hs0 hK h9 h1 ht;have k0:decide ((k:Int)<0)=false:=by simp
 have k1:decide (64<(k:Int))=false:=by simp;omega
 go_enter func168,ntmps168;go_upto_region 4 with fail
 go_wp2_with (first
  | (at_range;refine wpList_range_own _ rfl _ 113 rfl 3 187 iJ underlying113 _ sb kv.length _ rfl hown ?_;intro w0 hrg0 hg0 hs0)
  | go_in)
 go_frame
 go_loopw [8] (λv wr=>∃(left:Lit→Bool) (cnt tt:Nat),v=.int .i64 tt∧wr.ranges prog 3 RV sb w.heap.size kv.length (DV kv) left cnt∧Hid (oG m left tt∧Bel w wr))
  (λ_ wr=>wr.rangeLeft sb w.heap.size)
 case atStart=>
  refine⟨_,_,0,rfl,hrg0,xh ⟨⟨λn h1 h2 h3=>?_,.inl rfl⟩,hg0.os,hg0.tape,hg0.output,hg0.size,λi hi=>hg0.block i hi (by simp)⟩⟩;rw[LJ (by rw[HG.o n,Option.isSome_map];exact h2)]at h3;cases h3
 case round=>
  obtain⟨left,cnt,tt,rfl,hrg,HI⟩:=hrel
  go_wp2_with (first
   | (at_next;refine wpList_next_ranges _ rfl _ rfl 3 iJ RV (Value.int .i64) id (λkey kl h=>abG h) (λv y h=>⟨v,rfl⟩) sb w.heap.size kv.length _ _ _ rfl hrg ?_ ?_)
   | go_in)
  ·intro _ hl0
   have htt:tt=t:=(HI.out.1.top hl0).uniq HT.o;subst htt;have kr:=HI.out.2;have hs1:=xh (HS.o.bel kr);have BK:=HK.o.1.bel kr;have UY:=xh BK;have c9:wr.cell? (kb,9)=some (.int .i64 used):=(BK.cell 9).trans HK.o.2.1;have c1:wr.cell? (kb,1)=some (.int .i64 mf):=(BK.cell 1).trans HK.o.2.2;have c17:=af kr h17;have hkl2:=BK.lt;have htl:=HT.o.le;have wR:=xh (sN kb used mf k wr c9 c1 (by omega) (by omega) (by omega));obtain⟨w8,hw8⟩:∃W,W=wr:=⟨_,rfl⟩;subst hw8;clear BK hrg c9 c1 h17;by_cases hroom:used+k≤mf
   ·have hrd:decide (used+(k:Int)≤mf)=true:=decide_eq_true hroom
    rw[hrd]at wR;by_cases htop:tt+k≤254
    ·have ht1:decide (254<(tt:Int)+k)=false:=by simp;omega
     go_upto_region 12 with(go_at_call 102;((with_reducible refine aH wR.o ?_);rintro e w2 ⟨rfl,nd,rfl⟩;have KD:=xh (aj (Bel.refl w8) nd);generalize w8.drewN nd=w2 at *))
     have hs2:=xh (hs1.out.bel KD.o);have c17:=af KD.o c17;have hpl2:=World.block_lt_of_cell? _ _ c17;have hps:pb≠sb:=λe=>by
      subst e;obtain⟨es,clock,h,_⟩:=HM.o;have h2:=(kr.tr KD.o).block pb HM.o.lt;rw[h]at h2;have h3:=c17;simp only[World.cell?,h2]at h3
      cases h3
     go_loopw [46] (λi wr=>∃j:Nat,j≤k∧i=.int .i64 j∧Hid (Sp wr sb (dD m tt j)∧Keep (λq=>q=sb) w2 wr)) (λi _=>k-(intOf i).toNat)
     case atStart=>exact⟨0,Nat.zero_le _,rfl,xh ⟨by rw[Nq];exact hs2.out,Keep.refl _ _⟩⟩
     case round=>
      obtain⟨j,hj,rfl,HJ⟩:=hrel;have ajk:wr.cell? (pb,17)=some (.map (some sb)):=(HJ.out.2.cell ⟨pb,17,none⟩ hpl2 (λe=>hps e)).trans c17;by_cases hlt:j<k
      ·have hgr:=Ti sb (dD m tt j) (tt+j) wr HJ.out.1 (by omega)
       rw[show((tt+j:Nat):Int)=(tt:Int)+j from by omega]at hgr;have HGR:=xh hgr;have hwj:IntKind.i64.wrap ((tt:Int)+j)=(tt:Int)+j:=by rw[IntKind.wrap_i64];omega
       clear hgr;go_wp2_with (go_at_call 228;((with_reducible refine aH HGR.o ?_);rintro e w5 ⟨rfl,hs5,k5⟩;have H5:=xh (And.intro hs5 k5);clear hs5 k5))
       go_roundw
       case rel=>exact⟨j+1,by omega,by go_num,xh ⟨by rw[Nr];exact H5.o.1,HJ.out.2.tr H5.o.2⟩⟩
       case measure=>simp[intOf]<;>omega
      ·obtain rfl:j=k:=by omega
       have DF:=(UY.o.bel KD.o).keep HJ.out.2 (λe=>hks e);have c9:wr.cell? (kb,9)=some (.int .i64 used):=(DF.cell 9).trans HK.o.2.1;have f9:=DF.frozen 9;have aes:=DF.lt;have Dp:=xh DF;clear DF;go_wp2_with fail
       go_ret2
       unfold Wx;refine⟨λh=>by omega,λ_ _=>⟨by rw[show((tt*256:Nat):Int)=(tt:Int)*256 from by omega];rfl,HJ.out.1.setCell _,Dp.o.setCell (o:=9) _,?_⟩⟩;exact((Keep.of_bel _ (kr.tr KD.o)).tr (HJ.out.2.mono λ_ h=>.inl h)).tr ((Keep.setCell _ _ _ _).mono λ_ h=>.inr h)
    ·have ht1:decide (254<(tt:Int)+k)=true:=by simp;omega
     go_wp2_with (go_at_call 102;((with_reducible refine aH wR.o ?_);rintro e w2 ⟨rfl,nd,rfl⟩;have KD:=xh (aj (Bel.refl w8) nd);generalize w8.drewN nd=w2 at *))
     go_ret2
     unfold Wx;exact⟨λ_=>⟨rfl,kr.tr KD.o⟩,λ_ h=>by omega⟩
   ·have hrd:decide (used+(k:Int)≤mf)=false:=decide_eq_false hroom
    rw[hrd]at wR;go_wp2_with (go_at_call 102;((with_reducible refine aH wR.o ?_);rintro e w2 ⟨rfl,nd,rfl⟩;have KD:=xh (aj (Bel.refl w8) nd);generalize w8.drewN nd=w2 at *))
    go_ret2
    unfold Wx;exact⟨λ_=>⟨rfl,kr.tr KD.o⟩,λh _=>by omega⟩
  ·intro x c kl y yp w1 cnt1 hkey hlx hR hat hrg1 hlt hg1 hs1 hen
   obtain⟨x',ex,rfl,hwx⟩:=Maps.keyOf_int_inv underlying3 hkey;cases ex
   have hy:y=.held c:=by
    have:=congrArg (Option.map Prod.fst) hR
    simpa [RV]using this.symm
   subst hy;have hgk:=VF HM.o HL.o hwx hat;obtain⟨n,rfl⟩:∃n:Nat,x=n:=by
    have hm:=jl.1 (by rw[hgk];rfl:(bQ kv x).isSome=true);obtain⟨q,hq,rfl⟩:=List.mem_map.1 hm;exact Int.eq_ofNat_of_zero_le (HP.o q hq)
   rw[HG.o n]at hgk;obtain⟨p,hp,rfl⟩:=Option.map_eq_some_iff.1 hgk;have VH:n<256:=by
    refine Classical.byContradiction λhc=>?_;rw[HB.o n (by omega)]at hp;cases hp
   have htl:=HI.out.1.le;have hst:=HI.out.1.step n (by rw[hp];rfl);have kr1:Bel w w1:=((Keep.of_bel (λ_=>False) HI.out.2).dY (S':=λq=>q=w.heap.size) ⟨hg1.os,hg1.tape,hg1.output,hg1.size,λi hi hn=>hg1.block i hi (by simpa using λe=>hn e)⟩ (λi hi=>.inr (by omega))).below _ (bM _) (λ_ h=>h.elim);have HST:=xh (And.intro hst kr1);have LK:=xh hrg;have LM:=xh hrg1;have HLT:=xh hlt;clear hs1 hgk hp hlx hR hat hrg1 hlt hg1 kr1 hkey hrg hst;by_cases S9:n<254
   ·rw[if_pos S9]at HST
    go_wp2_with fail
    go_roundw
    case rel=>exact⟨_,cnt1,max tt (n+1),by congr 1;omega,LM.o,HST⟩
    case measure=>rw[LM.o.left_eq,LK.o.left_eq];exact HLT.o
   ·rw[if_neg S9]at HST
    go_wp2_with fail
    go_roundw
    case rel=>exact⟨_,cnt1,tt,rfl,LM.o,HST⟩
    case measure=>rw[LM.o.left_eq,LK.o.left_eq];exact HLT.o
end
end
section
open Go.Proofs.Tryz Go.RowKit Go.MapKept Go.Maps Go.Shelf
open Go.ChangeMaps (setBlock heap_setBlock_same heap_setBlock_other)
section
variable {P:Program} {k:TypeId} {α:Type} [DecidableEq α] {E:kZ P k α} {w:World} {b:Nat} {kv:List (α×Value)} {t e:TypeId}
def yX(kv:List (α×Value))(a:α):List (α×Value):=kv.filter λp=>decide (p.1≠a)
theorem ES:∀{kv:List (α×Value)} {j:Nat} {a:α},(kv.map Prod.fst).Nodup→(kv.map Prod.fst)[j]?=some a→kv.eraseIdx j=yX kv a
 | [],j,a,_,h=>by cases h
 | p::l,0,a,hn,h=>by
   have h:p.1=a:=by simpa using h
   rw[List.map_cons,List.nodup_cons]at hn;unfold yX;rw[List.filter_cons,if_neg (by simp[h]),List.eraseIdx_cons_zero];refine(List.filter_eq_self.2 λq hq=>?_).symm;have:q.1≠a:=λe=>hn.1 (by rw[h,←e];exact List.mem_map.2 ⟨q,hq,rfl⟩)
   simpa using this
 | p::l,j+1,a,hn,h=>by
   rw[List.map_cons,List.nodup_cons]at hn;have h:(l.map Prod.fst)[j]?=some a:=by simpa using h
   have hpa:p.1≠a:=λe=>hn.1 (by rw[e];exact List.mem_of_getElem? h);rw[List.eraseIdx_cons_succ,ES hn.2 h];unfold yX;rw[List.filter_cons,if_pos (by simpa using hpa)]
theorem Mp.delete(K:Keyed P k)(ht:P.underlying t=some (.map k e))(h:Mp E w b kv)(a:α)(ha:E.ok a)(hm:a∈kv.map Prod.fst) :
 ∃es' clock',(∀ty,(Builtin.delete_ #[t,k] ty #[.map (some b),E.kf a]).run P w=.ok (.tuple #[]) (setBlock w b (.map es' clock')))∧Mp E (setBlock w b (.map es' clock')) b (yX kv a):=by
 have Nv:=h.nodup;have hok:=h.Xw;obtain⟨es,clock,h1,h2,h3,h4⟩:=h.find K a ha;rcases h4 with⟨hn,hne,hr⟩|⟨j,v0,hj,hjv,⟨e0,he0,hek⟩,hr⟩
 ·exact absurd hm hn
 ·refine⟨es.eraseIdxIfInBounds j,clock,?_,_,_,heap_setBlock_same h1 _,stamped_erase h2 _,?_,λp hp=>hok p (List.mem_filter.1 hp).1⟩
  ·intro ty
   simp[Builtin.delete_,run_underlying ht,MapKept.run_getObj_map h1,K.check w _ (E.read a ha),hr,MapKept.run_setObj_map _ h1,Result.andThen,setBlock]
  ·have hjs:j<es.size:=(Array.getElem?_eq_some_iff.1 he0).1
   rw[←ES Nv hj];unfold Array.eraseIdxIfInBounds;rw[dif_pos hjs,Array.toList_eraseIdx,Go.ChangeMaps.map_eraseIdx,h3,Go.ChangeMaps.map_eraseIdx]
end
theorem Nw{P:Program}{k:TypeId}{α:Type}{E:kZ P k α}{w:World}{b o pm:Nat}{v:Value}{kv:List (α×Value)}(h:w.cell? (b,o)=some v)(hm:Mp E w pm kv):b≠pm:=λe=>by
 subst e;obtain⟨es,clock,h2,_⟩:=hm;simp only[World.cell?,h2]at h
 cases h
structure iY where
 pid:Int
 b:Nat
 par:Int
 st:Int
 sv:Int
def iY.ent(x:iY):Int×Value:=(x.pid,.pointer (x.b,0))
structure iY.Ok(w:World)(x:iY):Prop where
 c19:w.cell? (x.b,19)=some (.int .i64 x.par)
 c20:w.cell? (x.b,20)=some (.int .i64 x.st)
 c21:w.cell? (x.b,21)=some (.int .i64 x.sv)
 pid:0≤x.pid∧x.pid≤1000
theorem iY.Ok.bel{w w':World}{x:iY}(h:x.Ok w)(k:Bel w w'):x.Ok w':=⟨af k h.c19,af k h.c20,af k h.c21,h.pid⟩
def uY(own:Int)(l:List iY):Int:=if l.any (λx=>x.par==own)then 16 else 17
theorem yw(own:Int)(l:List iY)(x:iY):uY own (l++[x])=if x.par=own then 16 else uY own l:=by
 unfold uY;rw[List.any_append];by_cases e:x.par=own
 ·simp[e]
 ·simp[e]
def oP(own:Int)(x:iY):Bool:=x.par==own&&x.st==2
def EF(kv:List (Int×Value))(pm:Nat)(own:Int)(L:List iY)(w:World)(e:Ending)(w':World):Prop:=
 match L.find? (oP own)with
 | some x=>e=.returned (.tuple #[.agg #[.int .i64 x.pid,.int .i64 x.sv,()],.nilIface])∧Mp iK w' pm (yX kv x.pid)∧Keep (λq=>q=pm) w w'
 | none=>e=.returned (.tuple #[.agg #[(0:Int),(0:Int),()],.iface 48 (.int .i64 (uY own L))])∧Bel w w'
theorem Xx{L:List iY}{kv:List (Int×Value)}{ss:List Int}(hs:(L.map iY.pid).Pairwise (·< ·))(hk:kv.Perm (L.map iY.ent))(h:ss.Perm (kv.map Prod.fst)):(ss.mergeSort λx y=>decide (x≤y))=L.map iY.pid:=by
 have h1:ss.Perm (L.map iY.pid):=h.trans (by have:=hk.map Prod.fst;rwa [List.map_map]at this);have h2:=(List.mergeSort_perm ss λx y=>decide (x≤y)).trans h1;refine List.Perm.eq_of_pairwise (le:=(·≤ ·)) (λa b _ _ h1 h2=>Int.le_antisymm h1 h2) ?_ (hs.imp λh=>Int.le_of_lt h) h2;have:=List.pairwise_mergeSort (le:=λx y:Int=>decide (x≤y)) (λa b c h1 h2=>by simp at *;omega) (λa b=>by simp;omega) ss;exact this.imp λh=>by simpa using h
theorem WG(kb pb pm:Nat)(kv:List (Int×Value))(own:Int)(L:List iY)(w:World)(c5:w.cell? (kb,5)=some (.map (some pm)))(c18:w.cell? (pb,18)=some (.int .i64 own))(hm:Mp iK w pm kv)(hkv:kv.Perm (L.map iY.ent))(hso:(L.map iY.pid).Pairwise (·< ·))(hl:L.length≤1000)(hok:∀x∈L,x.Ok w) :
 Calls prog 158 #[kb,pb] w (EF kv pm own L w):=by
 have b0:=fE;have bm:=Md;have hkl:=World.block_lt_of_cell? _ _ c5;have hpl:=World.block_lt_of_cell? _ _ c18;have hml:=hm.lt;have hkl2:kv.length=L.length:=by rw[hkv.length_eq,jE]
 have k1:Bel w (w.alloc (.cells #[(0:Int),(0:Int),()] 62)):=Bel.start w _;have HB1:=xh (Blk.new w [(0:Int),(0:Int),()] 62);have bP:=xh k1;have HM:=xh hm;have QW:=xh hkv;have Ij:=xh hso;have jW:=xh hok;have c5:=af k1 c5;have ahi:=World.block_lt_of_cell? _ _ c5;have HC:=xh (And.intro c5 (af k1 c18));clear hm hkv hso hok k1 c18;go_enter func158,ntmps158;go_upto_region 2 with fail
 obtain⟨bq,hbq⟩:=e_x w.heap.size;change Hid (Blk (w.alloc (.cells #[(0:Int),(0:Int),()] 62)) w.heap.size _ _)at HB1
 rw[hbq]at HB1⊢;have yt:=xh hbq;clear hbq;generalize w.alloc (.cells #[(0:Int),(0:Int),()] 62)=w1 at *
 go_upto_region 3 with(first
  | (go_at_call 39;refine(ET _ _).mono ?_;rintro e2 w2 ⟨rfl,rfl⟩)
  | (go_at_call 38;refine(y8 w1.heap.size pm kv _ ((HM.o.bel bP.o).alloc _) (by omega) (by simp) (by simp)).mono ?_;rintro e2 w2 ⟨v,ss,rfl,hss,hrow,k2⟩
     have hsl:ss.length=L.length:=by rw[hss.length_eq,jE];exact hkl2
     rw[Xx Ij.o QW.o hss,hsl]at hrow;obtain⟨gs,cap,rfl,hcap,hcm,hps⟩:=aG hrow;have vO:=xh hps;have iC:Hid (Bel w1 w2):=xh ((Bel.start w1 _).tr k2);clear hss hrow k2 hps hsl))
 clear c5
 go_loopw [6,18] (λev i wr=>∃k:Nat,k≤L.length∧i=.int .i64 k∧ev=.iface 48 (.int .i64 (uY own (L.take k)))∧Hid ((∀x∈L.take k,oP own x=false)∧Bel w2 wr)) (λ_ i _=>L.length-(intOf i).toNat)
 case atStart=>exact⟨0,Nat.zero_le _,rfl,rfl,xh ⟨λx h=>(by cases h),Bel.refl _⟩⟩
 case round=>
  obtain⟨k,hk,rfl,rfl,HI⟩:=hrel;obtain⟨wo,hwo⟩:∃W,W=wr:=⟨_,rfl⟩;subst hwo;have kw:Bel w1 wo:=iC.o.tr HI.out.2;have BQ:=HB1.o.bel kw;have aeB:=xh BQ;have ug:=xh (bP.o.tr kw);by_cases hlt:k<L.length
  ·obtain⟨gs',rfl,_,hb1,hcells,_⟩:=vO.o.resolve_left (by omega)
   obtain⟨⟨pid,b,par,st,sv⟩,hx⟩:∃x,L[k]=x:=⟨_,rfl⟩;have hxm:=hx▸List.getElem_mem hlt;have hok:=(jW.o _ hxm).bel ug.o;have hc:wo.cell? ⟨gs',k,none⟩=some (.int .i64 pid):=by
    rw[World.cell?_of_block (a:=⟨gs',k,none⟩) (HI.out.2.block gs' hb1),hcells k (by simpa using hlt)];simp[hlt,hx]
   have hc5:wo.cell? (kb,5)=some (.map (some pm)):=af kw HC.o.1;have c18:wo.cell? (pb,18)=some (.int .i64 own):=af kw HC.o.2;have zK:0≤pid∧pid≤1000:=hok.pid;have hmo:=HM.o.bel ug.o;have hlk:(Instr.lookup 103 (.map (some pm)) (.int .i64 pid) false).run prog wo=.ok (.pointer (b,0)) wo:=by
    have h1:=hmo.lookup iJ underlying103 pid (WalkArith.wf_i64 (by omega)) false (rD wo);rw[show bQ kv pid=some (.pointer (b,0))from jL HM.o.nodup (QW.o.mem_iff.2 (List.mem_map.2 ⟨_,hxm,rfl⟩))]at h1;simp only[Bool.false_eq_true,if_false]at h1
    exact h1
   have htk:L.take (k+1)=L.take k++[⟨pid,b,par,st,sv⟩]:=by rw[List.take_succ_eq_append_getElem hlt,hx]
   have c19:wo.cell? (b,19)=some (.int .i64 par):=hok.c19;have c20:wo.cell? (b,20)=some (.int .i64 st):=hok.c20;have c21:wo.cell? (b,21)=some (.int .i64 sv):=hok.c21;have hbl:=World.block_lt_of_cell? _ _ c19;have hpl2:=World.block_lt_of_cell? _ _ c18;have PW:=xh htk;have HXM:=xh (And.intro hx hxm);clear htk hx hxm hok hcells BQ kw;have hkn:∀x∈L.take (k+1),x∈L.take k∨x=⟨pid,b,par,st,sv⟩:=λx hx=>by
    rw[PW.o,List.mem_append]at hx;exact hx.imp id List.mem_singleton.1
   have HKN:=xh hkn;clear hkn;go_upto_region 6 with fail
   by_cases hpar:par=own
   ·subst hpar
    by_cases hst:st=2
    ·subst hst
     go_quiet (fail)
     have kq:Bel wo (wo.drewN nq):=aj (Bel.refl _) nq;have c21:=af kq c21;have c20:=af kq c20;have hbl:=World.block_lt_of_cell? _ _ c21;have Ny:=hmo.bel kq;have hbm:b≠pm:=Nw c21 Ny;have BQ4:=aeB.o.bel kq;have hqm:bq≠pm:=BQ4.aP Ny;have hc5:=af kq hc5;have ajn:=World.block_lt_of_cell? _ _ hc5;have qE:=xh (ug.o.tr kq);obtain⟨es,clock,hup,hmp⟩:=Ny.delete iJ underlying103 pid (WalkArith.wf_i64 (by omega)) (List.mem_map.2 ⟨_,QW.o.mem_iff.2 (List.mem_map.2 ⟨_,HXM.o.2,rfl⟩),rfl⟩);have hup:∀ty,(Builtin.delete_ #[103,3] ty #[.map (some pm),.int .i64 pid]).run prog (wo.drewN nq)=.ok (.tuple #[]) (Go.ChangeMaps.setBlock (wo.drewN nq) pm (.map es clock)):=hup;obtain⟨es0,Nu,hes0,_⟩:=Ny;have K13:=Keep.setBlock hes0 (.map es clock);have Ik:=xh (And.intro hmp K13);have BQ5:=BQ4.keep K13 hqm;have ahj:(Go.ChangeMaps.setBlock (wo.drewN nq) pm (.map es clock)).cell? (b,21)=some (.int .i64 sv):=(K13.cell ⟨b,21,none⟩ hbl hbm).trans c21;have ajo:=World.block_lt_of_cell? _ _ ahj;clear hes0 K13 hmp BQ4 c19 c21 c18 hc hmo kq;generalize Go.ChangeMaps.setBlock (wo.drewN nq) pm (.map es clock)=Zw at *
     generalize wo.drewN nq=w4 at *
     have x0:=BQ5.cell 0;have x1:=BQ5.cell 1;have x2:=BQ5.cell 2;have xf:=BQ5.frozen;have xl:=BQ5.lt;have ahk:=xh BQ5;clear BQ5;go_wp2
     (try simp only[Exit.inBlock,Exit.then])
     have k15:Keep (λq=>q=bq) Zw (((Zw.setCell (bq,0) (.int .i64 pid)).setCell (bq,1) (.int .i64 sv)).setCell (bq,2) (.slice none 0 0)):=((Keep.setCell _ _ _ _).tr (Keep.setCell _ _ _ _)).tr (Keep.setCell _ _ _ _);refine gV (q:=bq) rfl rfl (((ahk.o.setCell (o:=0) _).setCell (o:=1) _).setCell (o:=2) _) rfl ?_;have hn:L.find? (oP par)=some ⟨pid,b,par,2,sv⟩:=by
      have e:L=L.take k++(⟨pid,b,par,2,sv⟩::L.drop (k+1)):=by
       conv=>lhs;rw[←List.take_append_drop (k+1) L,PW.o,List.append_assoc]
       rfl
      rw[e,List.find?_append,List.find?_eq_none.2 (λx hx=>by rw[HI.out.1 x hx];simp)];simp[oP]
     unfold EF;rw[hn];refine⟨rfl,Ik.o.1.of_block (k15.block pm Ik.o.1.lt (λe=>hqm e.symm)),?_⟩;exact((Keep.of_bel _ qE.o).tr Ik.o.2).dY k15 λi hi=>.inr (by have hi:i=bq:=hi;rw[hi,←yt.o];exact bM _)
    ·have hse:(st==2)=false:=dK hst
     have hzk:oP par ⟨pid,b,par,st,sv⟩=false:=by simp[oP,hst]
     have HZK:=xh hzk;have Tn:=xh (yw par (L.take k) ⟨pid,b,par,st,sv⟩);clear hzk hst;go_quiet (fail)
     have kq:Bel wo (wo.drewN nq):=aj (Bel.refl _) nq;have c20:=af kq c20;have hbl:=World.block_lt_of_cell? _ _ c20;have qE:=xh kq;clear kq;generalize wo.drewN nq=w4 at *
     go_wp2_with fail
     go_roundw
     case rel=>exact⟨k+1,by omega,by go_num,by rw[PW.o,Tn.o,if_pos rfl],xh ⟨λx hx=>(HKN.o x hx).elim (HI.out.1 x) (λe=>by rw[e];exact HZK.o),HI.out.2.tr qE.o⟩⟩
     case measure=>simp[intOf]<;>omega
   ·have hpe:(par != own)=true:=bne_iff_ne.2 hpar
    have hzk:oP own ⟨pid,b,par,st,sv⟩=false:=by simp[oP,hpar]
    have HZK:=xh hzk;have Tn:=xh ((yw own (L.take k) ⟨pid,b,par,st,sv⟩).trans (if_neg hpar));clear hzk hpar;go_quiet (fail)
    have qE:Hid (Bel wo (wo.drewN nq)):=xh (aj (Bel.refl _) nq);generalize wo.drewN nq=w4 at *
    go_wp2_with fail
    go_roundw
    case rel=>exact⟨k+1,by omega,by go_num,by rw[PW.o,Tn.o],xh ⟨λx hx=>(HKN.o x hx).elim (HI.out.1 x) (λe=>by rw[e];exact HZK.o),HI.out.2.tr qE.o⟩⟩
    case measure=>simp[intOf]<;>omega
  ·obtain rfl:k=L.length:=by omega
   have x0:=BQ.cell 0;have x1:=BQ.cell 1;have x2:=BQ.cell 2;have xf:=BQ.frozen;have xl:=BQ.lt;clear BQ kw;go_wp2_with fail
   (try simp only[Exit.inBlock,Exit.then])
   refine gV (q:=bq) rfl rfl (((aeB.o.setCell (o:=0) _).setCell (o:=1) _).setCell (o:=2) _) rfl ?_;have hn:L.find? (oP own)=none:=List.find?_eq_none.2 λx hx=>by rw[HI.out.1 x (by rw[List.take_length];exact hx)];simp
   unfold EF;rw[hn];refine⟨by rw[List.take_length];rfl,jr ug.o (((Keep.setCell _ _ _ _).tr (Keep.setCell _ _ _ _)).tr (Keep.setCell _ _ _ _)) (by rw[yt.o];exact bM _)⟩
end
section
open Go.RowKit Go.MapKept Go.Maps
def VO(Q:Int→Int→Option Addr→Nat→Nat→Int→World→Prop)(e:Ending)(w':World):Prop:=∃(n m:Int) (p:Option Addr) (l c:Nat) (f:Int),e=.returned (.tuple #[.int .i64 n,.int .i64 m,.slice p l c,.int .i64 f])∧Q n m p l c f w'
def LZ(w:World)(f:Int)(e:Ending)(w':World):Prop:=e=.returned (.tuple #[(0:Int),(0:Int),(),f])∧Bel w w'
end
end Go.Proofs.YtcnjjchlebmfiaaGreatDoor
