/-.-/
import Derived.Test.YtcnjjchlebmfiaaGreatDoorP30
import Derived.Test.YtcnjjchlebmfiaaGreatDoorP32
set_option linter.all false
set_option maxRecDepth 100000
set_option maxHeartbeats 16000000
namespace Go.Proofs.YtcnjjchlebmfiaaGreatDoor
section
open Go.Proofs.Tryz Go.RowKit Go.MapKept Go.Maps
section
variable {E:XE} {ty:List Int} {s s':List Xp} {D:XD} {w:World} (hx:eY E) (hp:PX E w s ty D) (hk:fB E w) (hw:lQ E.l.a.toNat E.l.b.toNat s)
include hx hp hk hw
theorem PG(f pid kd a b:Int)(t:ByteArray)(lp dp:Option Addr)(ln lc dn dc:Nat)(hr:∀W,Bel w W→Calls prog 41 #[E.kb,pid] W (Z.e (.tuple #[.pointer none,.iface 48 (.int .i64 f)]) W)):jQ E f pid kd a b t lp dp ln lc dn dc w:=by
 have htl:E.tk<w.heap.size:=(hx.oz hk).lt;refine(Gv E.tk E.kb pid kd a b t lp dp ln lc dn dc w (λn m xp xn xc ev w'=>n=0∧m=0∧xp=none∧xn=0∧xc=0∧Bel w w'∧ev=.iface 48 (.int .i64 f)) ((hx.oz hk).cell 0) λW hW hsz hbox hcall=>?_).mono ?_
 ·refine(ZE E.kb pid f kd a b t lp dp ln lc dn dc W λW2 hW2=>hr W2 (hW.tr hW2)).mono ?_
  rintro e w' ⟨rfl,hb⟩;exact⟨_,_,_,_,_,_,rfl,⟨rfl,rfl,rfl,rfl,rfl,hW.tr hb,rfl⟩,af (hW.tr hb) ((hx.oz hk).cell 0),hcall.bel hb,hbox.bel hb⟩
 ·rintro e w' ⟨n,m,xp,xn,xc,ev,w3,rfl,⟨rfl,rfl,rfl,rfl,rfl,hb,rfl⟩,k⟩
  exact⟨_,rfl,fU hb k (by omega),.inl rfl⟩
theorem RP(pid kd a b:Int)(t:ByteArray)(lp dp:Option Addr)(ln lc dn dc:Nat)(zK : -9223372036854775808≤pid∧pid≤9223372036854775807)(h:∀p∈s,(p.pid:Int)≠pid):jQ E 18 pid kd a b t lp dp ln lc dn dc w:=
 PG hx hp hk hw 18 pid kd a b t lp dp ln lc dn dc λW hW=>by
  obtain⟨kv,hm,hpm⟩:=(hp.bel hW).map;exact MG E.kb E.pm kv pid W zK ((hp.hk.bel hW).cell 5) hm (Gy hpm h)
theorem WS{x:Xp}(hxs:x∈s)(hl:x.live=false)(kd a b:Int)(t:ByteArray)(lp dp:Option Addr)(ln lc dn dc:Nat):jQ E 24 x.pid kd a b t lp dp ln lc dn dc w:=
 PG hx hp hk hw 24 x.pid kd a b t lp dp ln lc dn dc λW hW=>by
  obtain⟨kv,hm,hpm⟩:=(hp.bel hW).map;have:=(hw.MH x hxs).2;have:=hx.la;exact Jl E.kb E.pm (D.bl x.pid) kv x.pid 2 W (by omega) ((hp.hk.bel hW).cell 5) hm (I7 hw hpm hxs) (by
   rw[((hp.oC x hxs).bel hW).cell,show 20=17+3 from rfl,mM (hw.reg x hxs).1];simp[jZ,Xp.st,hl]) (by omega)
theorem WT{pid k a b:Int}{t:ByteArray}{l:List ByteArray}{d:List Int}{N M f:Int}{L:List Int}(o:yV E.l.a.toNat E.l.b.toNat (aJ E.T) s pid k a b t l d N M f L s')(zK : -9223372036854775808≤pid∧pid≤9223372036854775807)(lp dp:Option Addr)(lc dc:Nat)(ht:t.size≤1000000)(hll:l.length≤1000)(htx:Eh w lp l)(hdc:d.length≤dc)(hby:BS w dp d)(hdl:d.length≤100000000) :
 (f=0∧zL E ty s D s' N M L pid k a b t lp dp l.length lc d.length dc w)∨(f≠0∧N=0∧M=0∧L=[]∧s'=s∧jQ E f pid k a b t lp dp l.length lc d.length dc w):=by
 cases o with
 | none _ _ _ _ _ _ h=>exact .inr ⟨by simp,rfl,rfl,rfl,rfl,RP hx hp hk hw _ _ _ _ _ _ _ _ _ _ _ zK h⟩
 | dead _ _ _ _ _ _ p h1 h2 h3=>subst h2;exact .inr ⟨by simp,rfl,rfl,rfl,rfl,WS hx hp hk hw h1 h3 _ _ _ _ _ _ _ _ _ _⟩
 | call _ _ _ _ _ _ p h1 h2 h3 h4=>subst h2;exact .inr ⟨by simp,rfl,rfl,rfl,rfl,We hx hp hk hw h1 h3 _ _ _ _ _ _ _ _ _ _ h4⟩
 | Pq _ _ _ _ _ p h1 h2 h3 h4=>subst h2;exact .inr ⟨by simp,rfl,rfl,rfl,rfl,MO hx hp hk hw h1 h3 _ _ _ _ _ _ _ _ _ h4⟩
 | ZH _ _ _ _ _ p h1 h2 h3 h4 h5=>subst h2;exact .inr ⟨by simp,rfl,rfl,rfl,rfl,RD hx hp hk hw h1 h3 _ _ _ _ _ _ _ _ _ h4 h5⟩
 | fork _ _ _ _ _ p r h1 h2 h3 h4 h5 h6 h7 h8 h9 h10=>subst h2;exact .inl ⟨rfl,WC hx hp hk hw h1 h3 _ _ _ _ _ _ _ _ _ r h6 h7 h9 h10 h5⟩
 | ZI _ _ _ _ _ p h1 h2 h3 h4=>subst h2;exact .inr ⟨by omega,rfl,rfl,rfl,rfl,RN hx hp hk hw h1 h3 _ _ _ _ _ _ _ _ _ ht hll htx h4⟩
 | exec _ _ _ _ _ p i h1 h2 h3 h4=>subst h2;exact .inl ⟨rfl,WR hx hp hk hw (List.mem_of_getElem? h1) h3 h1 _ _ _ _ _ _ _ _ _ ht hll htx h4⟩
 | ex1 _ _ _ _ _ p h1 h2 h3 h4=>subst h2;exact .inr ⟨by simp,rfl,rfl,rfl,rfl,RH hx hp hk hw h1 h3 _ _ _ _ _ _ _ _ _ (by omega)⟩
 | exit _ _ _ _ _ p h1 h2 h3 h4=>subst h2;exact .inl ⟨rfl,WM hx hp hk hw h1 h3 _ _ _ _ _ _ _ _ _ (by omega)⟩
 | wno _ _ _ _ _ p h1 h2 h3 h4=>subst h2;exact .inr ⟨by split<;>simp,rfl,rfl,rfl,rfl,WH hx hp hk hw h1 h3 _ _ _ _ _ _ _ _ _ h4⟩
 | wait _ _ _ _ _ p z i h1 h2 h3 h4 h5 h6=>subst h2;exact .inl ⟨rfl,WJ hx hp hk hw h1 h3 _ _ _ _ _ _ _ _ _ h4 h5 h6⟩
 | ZJ _ _ _ _ _ p h1 h2 h3 h4=>subst h2;exact .inr ⟨by simp,rfl,rfl,rfl,rfl,Ru hx hp hk hw h1 h3 _ _ _ _ _ _ _ _ _ h4⟩
 | ZK k tp _ _ _ _ p h1 h2 h3 h4 h5 h6=>subst h2;exact .inr ⟨by simp,rfl,rfl,rfl,rfl,Wy hx hp hk hw h1 h3 k tp _ _ _ _ _ _ _ _ h4 h5 h6⟩
 | brk k tp _ _ _ _ p i h1 h2 h3 h4 h5 h6 h7=>subst h2;exact .inl ⟨rfl,ZT hx hp hk hw (List.mem_of_getElem? h1) h3 h1 k tp _ _ _ _ _ _ _ _ h4 h5 h6 h7⟩
 | ZL _ _ _ _ _ p h1 h2 h3 h4=>subst h2;exact .inr ⟨by simp,rfl,rfl,rfl,rfl,ML hx hp hk hw h1 h3 _ _ _ _ _ _ _ _ _ h4⟩
 | ZM _ n _ _ _ p h1 h2 h3 h4 h5=>subst h2;exact .inr ⟨by simp,rfl,rfl,rfl,rfl,Rk hx hp hk hw h1 h3 _ n _ _ _ _ _ _ _ h4 h5⟩
 | peek _ n _ _ _ p h1 h2 h3 h4 h5=>subst h2;exact .inl ⟨rfl,Wn hx hp hk hw h1 h3 _ n _ _ _ _ _ _ _ h4 h5⟩
 | ZN _ _ _ _ _ p h1 h2 h3 h4=>subst h2;exact .inr ⟨by simp,rfl,rfl,rfl,rfl,MM hx hp hk hw h1 h3 _ _ _ _ _ _ _ _ _ h4 hdl⟩
 | ZO _ _ _ _ _ p h1 h2 h3 h4 h5=>subst h2;exact .inr ⟨by simp,rfl,rfl,rfl,rfl,Rq hx hp hk hw h1 h3 _ _ _ _ _ _ _ _ _ h4 h5⟩
 | ZP _ _ _ _ _ p i h1 h2 h3 h4 h5=>subst h2;exact .inl ⟨rfl,Wq hx hp hk hw (List.mem_of_getElem? h1) h3 h1 _ _ _ _ _ _ _ _ _ h4 hdc hby h5⟩
end
theorem Xh{w:World}{p:Option Addr}{l:List ByteArray}(h:Eh w p l)(hl:l.length≤1000)(cap:Nat):Calls prog 187 #[(p,l.length,cap)] w λe w'=>Bel w w'∧(kN l=true→∃g c,e=.returned (.tuple #[.slice (g,0) 2 c,.int .u64 (iq (aK l) l.length),(0:Int)])∧(∀j u,(dA l)[j]?=some u→w'.cell? ⟨g,j,none⟩=some u)∧(dA l).length=516∧(∀u∈dA l,u.oneCell'=true))∧(kN l=false→e=.returned (.tuple #[(),.int .u64 0,(6:Int)])):=by
 by_cases c:l.length≤8
 ·refine(Bl p cap l w (aa9 h) c).mono ?_
  rintro e w' ⟨h1,h2,h3⟩;refine⟨h1,λh4=>?_,λh4=>?_⟩
  ·simp only[kN,decide_eq_true_eq]at h4
   obtain⟨v,rfl,hrow⟩:=h2 h4.2;obtain⟨p,c,rfl,_,_,hp⟩:=aG hrow;obtain⟨g2,rfl,_,_,hc,_⟩:=hp.resolve_left (by omega);have hlen:(dA l).length=516:=by simp[dA,ak,wL]
   refine⟨g2,c,rfl,λj u hj=>?_,hlen,λu hu=>?_⟩
   ·have hjl:=(bV hj).1
    exact(hc j hjl).trans hj
   ·obtain⟨n,_,hn⟩:=List.mem_flatMap.1 hu
    exact jq _ _ u hn
  ·simp only[kN,decide_eq_false_iff_not]at h4
   exact h3 λh5=>h4 ⟨c,h5⟩
 ·refine(Ji p l.length cap w (by omega) hl).mono ?_
  rintro e w' ⟨rfl,rfl⟩;refine⟨Bel.refl _,λh4=>?_,λ_=>rfl⟩;simp only[kN,decide_eq_true_eq]at h4
  exact absurd h4.1 c
theorem SB(a b:List Value)(v:Value)(E sp:Int):jX (a++b) a.length v E sp=a++jX b 0 v E sp:=by
 unfold jX;rw[qo,qo,Bi,qo];try simp only[Nat.zero_add]
theorem SC{p q:Xp}(h:p.rs.length=16)(hl:p.live=true)(u v:Value)(pc sp:Int)(M:ax)(hq:q={p with pc:=pc,rs:=List.replicate 15 0++[sp],M:=M}):dL q v=jX (dL p u) 0 v pc sp:=by
 obtain⟨r0,r1,r2,r3,r4,r5,r6,r7,r8,r9,r10,r11,r12,r13,yf,vM,e2⟩:=Bc h;rw[hq];unfold dL qN Xp.st;simp only[e2,hl]
 rfl
theorem ab4{Q:QE}{ps:List Xp}{i:Nat}{p:Xp}{cs:List Value}(hi:ps[i]?=some p)(h16:∀x∈ps,x.rs.length=16)(hrows:cs.take (ps.length*31)=aZ Q ps)(hlen:ps.length*31≤cs.length):cs=cs.take (i*31)++(dL p (Q.pv p.pid)++cs.drop (i*31+31))∧(cs.take (i*31)).length=i*31:=by
 have hil:=(bV hi).1;have hmul:=Nat.mul_le_mul_right 31 (show i+1≤ps.length by omega);have hx31:=fJ (h16 p (List.mem_of_getElem? hi)) (Q.pv p.pid);have e1:(cs.drop (i*31)).take 31=dL p (Q.pv p.pid):=by
  apply List.ext_getElem?
  intro j;by_cases c:j<31
  ·have h2:=fP (λp=>dL p (Q.pv p.pid)) 31 ps (λp hp=>fJ (h16 p hp) _) i j c
   rw[hi]at h2;rw[List.getElem?_take_of_lt c,List.getElem?_drop,←List.getElem?_take_of_lt (show i*31+j<ps.length*31 by omega),hrows];exact h2
  ·rw[List.getElem?_eq_none (by simp;omega),List.getElem?_eq_none (by omega)]
 refine⟨?_,by rw[List.length_take];omega⟩;rw[←e1,←List.drop_drop,List.take_append_drop,List.take_append_drop]
theorem Xi{Q Q':QE}{ps:List Xp}{i:Nat}{p q:Xp}{cs R:List Value}(hi:ps[i]?=some p)(h16:∀x∈ps,x.rs.length=16)(hrows:cs.take (ps.length*31)=aZ Q ps)(hlen:ps.length*31≤cs.length)(hR:R.length=31)(hr:dL q (Q'.pv q.pid)=R)(hn:∀j x,j≠i→ps[j]?=some x→Q'.pv x.pid=Q.pv x.pid):(cs.take (i*31)++(R++cs.drop (i*31+31))).take (ps.length*31)=aZ Q' (ps.set i q):=by
 have hil:=(bV hi).1;have hmul:=Nat.mul_le_mul_right 31 (show i+1≤ps.length by omega);have h1:cs.take (i*31)=aZ Q' (ps.take i):=by
  have h3:=(lu (Q:=Q) h16 (show i≤ps.length by omega)).1;rw[←hrows,List.take_take,Nat.min_eq_left (by omega)]at h3;rw[h3];unfold aZ;refine jf λx hx=>?_;obtain⟨j,hj⟩:=List.getElem?_of_mem hx;rw[List.getElem?_take]at hj;split at hj
  ·rw[hn j x (by omega) hj]
  ·cases hj
 have h2:(cs.drop (i*31+31)).take (ps.length*31-(i*31+31))=aZ Q' (ps.drop (i+1)):=by
  have h3:=(lu (Q:=Q) h16 (show i+1≤ps.length by omega)).2;rw[←hrows,show(i+1)*31=i*31+31 from by omega,List.drop_take]at h3;rw[h3];unfold aZ;refine jf λx hx=>?_;obtain⟨j,hj⟩:=List.getElem?_of_mem hx;rw[List.getElem?_drop]at hj;rw[hn (i+1+j) x (by omega) hj]
 have hl1:(cs.take (i*31)).length=i*31:=by rw[List.length_take];omega
 have key:∀(A R D:List Value) (n:Nat),A.length+R.length≤n→(A++(R++D)).take n=A++(R++D.take (n-(A.length+R.length))):=λA R D n h=>by
  rw[List.take_append,List.take_of_length_le (l:=A) (by omega),List.take_append,List.take_of_length_le (l:=R) (by omega),Nat.sub_sub]
 rw[key _ _ _ _ (by rw[hl1,hR];omega),hl1,hR,h2,h1,←hr];rw[List.set_eq_take_append_cons_drop,if_pos hil];unfold aZ;rw[List.flatMap_append,List.flatMap_cons]
section
variable {E:XE} {w w':World} {ps:List Xp} {ty:List Int} {Q:QE} (hx:eY E) (hq:QX E w ps ty Q) (hk:fB E w) (hw:lQ E.l.a.toNat E.l.b.toNat ps)
include hx hq hk hw
theorem abf{i:Nat}{p:Xp}(hi:ps[i]?=some p)(hl:p.live=true)(nm:ByteArray)(l:List ByteArray)(lp:Option Addr)(lc:Nat)(hnm:nm.size≤1000000)(hll:l.length≤1000)(htx:Eh w lp l):Calls prog 105 #[E.rb,.pointer (Q.g,i*31),nm,(lp,l.length,lc)] w λe w'=>EN w Q.g (i*31) Q.cs (dM (aJ E.T) nm.data.toList (kN l) p.n (aI ps) E.l.b.toNat) (aY (aJ E.T) nm.data.toList) (dA l) (iq (aK l) l.length) e w':=by
 have hlb:=hx.lb;have hfr:=hw.fr;have hps:=List.mem_of_getElem? hi;have hmul:=Nat.mul_le_mul_right 31 (show i+1≤ps.length by have:=(bV hi).1;omega);have hlen:=hq.len;obtain⟨p2,c2,e2,_⟩:=(hq.pW p hps hl).pw;have h:=Bo E.rb Q.kv Q.iv E.L nm Q.g (i*31) p.n (aI ps) E.l.b.toNat ps.length 0 E.L.length (aS E.L).sum Q.cs p2 c2 (.slice lp l.length lc) (kN l) (iq (aK l) l.length) (dA l) w hq.dk (by rw[hq.lim.2];omega) (by omega) hnm (by rw[hx.sk];exact hx.bb) hq.row (by omega) (by
  rw[hq.at hw hi (by omega),wK (hw.reg p hps).1,hl,if_pos rfl,e2];rfl) (ny hps) (by omega) (hq.row.ne hq.dk.blk (by decide)) (by rw[←pq,hx.sk];exact hx.dir) (EJ hx hq hk hw) λW hW=>Xh (htx.bel hW) hll lc
 rw[←Am,←Jv,hx.sk]at h;exact h
theorem SE{i:Nat}{p:Xp}(hi:ps[i]?=some p)(hl:p.live=true)(a b:Int)(nm:ByteArray)(l:List ByteArray)(lp dp:Option Addr)(lc dn dc:Nat)(hnm:nm.size≤1000000)(hll:l.length≤1000)(htx:Eh w lp l)(h0:dM (aJ E.T) nm.data.toList (kN l) p.n (aI ps) E.l.b.toNat≠0):rO E (dM (aJ E.T) nm.data.toList (kN l) p.n (aI ps) E.l.b.toNat:Nat) p.pid 2 a b nm lp dp l.length lc dn dc w:=by
 have hlen:=qlen hx hq hk hw;refine(abg E.rb p.pid a b nm lp dp l.length lc dn dc Q.g Q.gc ps.length i (λn f' W=>n=0∧f'=(dM (aJ E.T) nm.data.toList (kN l) p.n (aI ps) E.l.b.toNat:Nat)∧Bel w W) w (qc5 hx hq hk hw) (bV hi).1 (by omega) (uZ hx hq hk hw hi hl) (mg hx hq hk hw hi) λW hW=>?_).mono ?_
 ·refine(abf hx (hq.bel hW) (hk.tr (Keep.of_bel _ hW)) hw hi hl nm l lp lc hnm hll (htx.bel hW)).mono λe w' h=>?_
  exact⟨_,_,h.1.1,rfl,rfl,hW.tr (h.2 h0)⟩
 ·rintro e w' ⟨n,f',rfl,rfl,rfl,h1⟩
  exact⟨rfl,h1⟩
theorem aac{i:Nat}{p:Xp}(hi:ps[i]?=some p)(hl:p.live=true)(a b:Int)(nm:ByteArray)(l:List ByteArray)(lp dp:Option Addr)(lc dn dc:Nat)(hnm:nm.size≤1000000)(hll:l.length≤1000)(htx:Eh w lp l)(h0:dM (aJ E.T) nm.data.toList (kN l) p.n (aI ps) E.l.b.toNat=0):Jq E ty ps Q (ps.set i {p with pc:=numAt (aY (aJ E.T) nm.data.toList) 24 8,rs:=List.replicate 15 0++[iq (aK l) l.length],M:=aN (bG (aY (aJ E.T) nm.data.toList)) l}) 0 0 [] p.pid 2 a b nm lp dp l.length lc dn dc w:=by
 have hlen:=qlen hx hq hk hw;have hps:=List.mem_of_getElem? hi;have h16:∀x∈ps,x.rs.length=16:=λx hx1=>(hw.reg x hx1).1;obtain⟨q,hqe⟩:∃q:Xp,q={p with pc:=numAt (aY (aJ E.T) nm.data.toList) 24 8,rs:=List.replicate 15 0++[iq (aK l) l.length],M:=aN (bG (aY (aJ E.T) nm.data.toList)) l}:=⟨_,rfl⟩;rw[←hqe];have q1:q.pid=p.pid:=by rw[hqe]
 have q2:q.live=true:=by rw[hqe];exact hl
 have q3:q.M=aN (bG (aY (aJ E.T) nm.data.toList)) l:=by rw[hqe]
 refine(abg E.rb p.pid a b nm lp dp l.length lc dn dc Q.g Q.gc ps.length i (λn f' W=>n=0∧f'=0∧∃Q',WW E ty ps Q (ps.set i q) w.heap.size w Q' W) w (qc5 hx hq hk hw) (bV hi).1 (by omega) (uZ hx hq hk hw hi hl) (mg hx hq hk hw hi) λW hW=>?_).mono ?_
 ·have uj:=hq.bel hW
  have hkW:=hk.tr (Keep.of_bel _ hW);refine(abf hx uj hkW hw hi hl nm l lp lc hnm hll (htx.bel hW)).mono λe w' h=>?_;obtain⟨⟨e1,kk,h2⟩,_⟩:=h;obtain⟨v,hrow,hB⟩:=h2 h0;obtain⟨hld,y,hy,hBy⟩:=nH h0;obtain⟨hok,hlow⟩:=ni (by rw[hBy];exact hx.tb y hy) hld;rw[h0]at e1;have hn:(ag q.M).length=(ag (bG (aY (aJ E.T) nm.data.toList))).length+2:=by rw[q3,iH _ _ hlow];simp
  have hrr:aQ q.M=aQ (bG (aY (aJ E.T) nm.data.toList))++dA l:=by rw[q3,vW _ _ hlow];rfl
  rw[←hn,←hrr]at hrow;obtain⟨hv,hvb⟩:=qm hrow (by omega);obtain⟨hcut,hcl⟩:=ab4 (Q:=Q) hi h16 hq.rows hq.len;have hx31:=fJ (h16 p hps) (Q.pv p.pid);have hR:=yj (dL p (Q.pv p.pid)) v (numAt (aY (aJ E.T) nm.data.toList) 24 8) (iq (aK l) l.length) hx31;have qK:jX Q.cs (i*31) v (numAt (aY (aJ E.T) nm.data.toList) 24 8) (iq (aK l) l.length)=Q.cs.take (i*31)++(jX (dL p (Q.pv p.pid)) 0 v (numAt (aY (aJ E.T) nm.data.toList) 24 8) (iq (aK l) l.length)++Q.cs.drop (i*31+31)):=by
   have h3:=SB (Q.cs.take (i*31)) (dL p (Q.pv p.pid)++Q.cs.drop (i*31+31)) v (numAt (aY (aJ E.T) nm.data.toList) 24 8) (iq (aK l) l.length);rw[←hcut,hcl,EO _ _ _ _ _ hx31]at h3;exact h3
  obtain⟨cs',hcs'⟩:=e_x (jX Q.cs (i*31) v (numAt (aY (aJ E.T) nm.data.toList) 24 8) (iq (aK l) l.length));rw[hcs']at hB qK;have hrows:cs'.take (ps.length*31)=aZ {Q with cs:=cs',pv:=λj=>if j=p.pid then v else Q.pv j} (ps.set i q):=by
   rw[qK];refine Xi hi h16 hq.rows hq.len hR ?_ λj x hj hxj=>if_neg λe=>hj (hw.uniq hxj hi e);show dL q (if q.pid=p.pid then v else Q.pv q.pid)=_
   rw[if_pos q1];exact SC (h16 p hps) hl _ _ _ _ _ hqe
  have hd:=QX.aba hx uj hkW hw hi hl q q1 q2 v cs' kk hv hvb hB (by
   rw[qK,List.length_append,List.length_append,hR,hcl,List.length_drop];have:=hq.len;have:=Nat.mul_le_mul_right 31 (show i+1≤ps.length by have:=(bV hi).1;omega);omega) hrows
  exact⟨_,_,e1,rfl,rfl,_,hd.qx,(Keep.of_bel _ hW).tr hd.kept,λq hq1=>(hd.new q hq1).imp id λh=>bU hW.size h⟩
 ·rintro e w' ⟨n,f',rfl,rfl,rfl,Q',h3⟩
  exact⟨_,_,_,_,_,_,rfl,rfl,rfl,rfl,rfl,Q',h3,⟨λ_ h=>(by cases h),λh=>absurd h (by simp)⟩,λ_ _ e=>(by cases e)⟩
end
end
section
open Go.RowKit Go.MapKept Go.Maps
section
variable {E:XE} {w w':World} {ps s':List Xp} {ty:List Int} {Q:QE} (hx:eY E) (hq:QX E w ps ty Q) (hk:fB E w) (hw:lQ E.l.a.toNat E.l.b.toNat ps)
include hx hq hk hw
theorem aad{pid k a b:Int}{t:ByteArray}{l:List ByteArray}{d:List Int}{N M f:Int}{L:List Int}(o:yV E.l.a.toNat E.l.b.toNat (aJ E.T) ps pid k a b t l d N M f L s')(lp dp:Option Addr)(lc dc:Nat)(ht:t.size≤1000000)(hll:l.length≤1000)(htx:Eh w lp l)(hby:zQ w dp d)(hdl:d.length≤100000000) :
 (f=0∧Jq E ty ps Q s' N M L pid k a b t lp dp l.length lc d.length dc w)∨(f≠0∧N=0∧M=0∧L=[]∧s'=ps∧rO E f pid k a b t lp dp l.length lc d.length dc w):=by
 have at_:∀{p:Xp},p∈ps→∃i,ps[i]?=some p:=λh=>List.getElem?_of_mem h;cases o with
 | none _ _ _ _ _ _ h=>exact .inr ⟨by simp,rfl,rfl,rfl,rfl,RS hx hq hk hw _ _ _ _ _ _ _ _ _ _ _ h⟩
 | dead _ _ _ _ _ _ p h1 h2 h3=>
   subst h2;obtain⟨i,hi⟩:=at_ h1;exact .inr ⟨by simp,rfl,rfl,rfl,rfl,RU hx hq hk hw hi h3 _ _ _ _ _ _ _ _ _ _⟩
 | call _ _ _ _ _ _ p h1 h2 h3 h4=>
   subst h2;obtain⟨i,hi⟩:=at_ h1;exact .inr ⟨by simp,rfl,rfl,rfl,rfl,RY hx hq hk hw hi h3 _ _ _ _ _ _ _ _ _ _ h4⟩
 | Pq _ _ _ _ _ p h1 h2 h3 h4=>
   subst h2;obtain⟨i,hi⟩:=at_ h1;exact .inr ⟨by simp,rfl,rfl,rfl,rfl,EM hx hq hk hw hi h3 _ _ _ _ _ _ _ _ _ _ (.inl ⟨rfl,h4⟩)⟩
 | ZH _ _ _ _ _ p h1 h2 h3 h4 h5=>
   subst h2;obtain⟨i,hi⟩:=at_ h1;exact .inr ⟨by simp,rfl,rfl,rfl,rfl,EM hx hq hk hw hi h3 _ _ _ _ _ _ _ _ _ _ (.inr ⟨rfl,h4,h5⟩)⟩
 | fork _ _ _ _ _ p r h1 h2 h3 h4 h5 h6 h7 h8 h9 h10=>
   subst h2;obtain⟨i,hi⟩:=at_ h1;exact .inl ⟨rfl,Z8 hx hq hk hw hi h3 _ _ _ _ _ _ _ _ _ r h4 h6 h7 h8 h9 h10 h5⟩
 | ZI _ _ _ _ _ p h1 h2 h3 h4=>
   subst h2;obtain⟨i,hi⟩:=at_ h1;exact .inr ⟨by omega,rfl,rfl,rfl,rfl,SE hx hq hk hw hi h3 _ _ _ _ _ _ _ _ _ ht hll htx h4⟩
 | exec _ _ _ _ _ p i h1 h2 h3 h4=>subst h2;exact .inl ⟨rfl,aac hx hq hk hw h1 h3 _ _ _ _ _ _ _ _ _ ht hll htx h4⟩
 | ex1 _ _ _ _ _ p h1 h2 h3 h4=>
   subst h2;obtain⟨i,hi⟩:=at_ h1;exact .inr ⟨by simp,rfl,rfl,rfl,rfl,Sv hx hq hk hw hi h3 (by omega) _ _ _ _ _ _ _ _ _⟩
 | exit _ _ _ _ _ p h1 h2 h3 h4=>
   subst h2;obtain⟨i,hi⟩:=at_ h1;exact .inl ⟨rfl,aab hx hq hk hw hi h3 (by omega) _ _ _ _ _ _ _ _ _⟩
 | wno _ _ _ _ _ p h1 h2 h3 h4=>
   subst h2;obtain⟨i,hi⟩:=at_ h1;exact .inr ⟨by split<;>simp,rfl,rfl,rfl,rfl,Sz hx hq hk hw hi h3 _ _ _ _ _ _ _ _ _ h4⟩
 | wait _ _ _ _ _ p z j h1 h2 h3 h4 h5 h6=>
   subst h2;obtain⟨i,hi⟩:=at_ h1;exact .inl ⟨rfl,Z9 hx hq hk hw hi h3 _ _ _ _ _ _ _ _ _ h4 h5 h6⟩
 | ZJ _ _ _ _ _ p h1 h2 h3 h4=>
   subst h2;obtain⟨i,hi⟩:=at_ h1;exact .inr ⟨by simp,rfl,rfl,rfl,rfl,Jt hx hq hk hw hi h3 _ _ _ _ _ _ _ _ _ _ (.inl ⟨rfl,h4⟩)⟩
 | ZK k tp _ _ _ _ p h1 h2 h3 h4 h5 h6=>
   subst h2;obtain⟨i,hi⟩:=at_ h1;exact .inr ⟨by simp,rfl,rfl,rfl,rfl,Jt hx hq hk hw hi h3 _ _ _ _ _ _ _ _ _ _ (.inr ⟨rfl,k,tp,rfl,h4,h5,h6⟩)⟩
 | brk k tp _ _ _ _ p i h1 h2 h3 h4 h5 h6 h7=>subst h2;exact .inl ⟨rfl,ab1 hx hq hk hw h1 h3 k tp _ _ _ _ _ _ _ _ h4 h5 h6 h7⟩
 | ZL _ _ _ _ _ p h1 h2 h3 h4=>
   subst h2;obtain⟨i,hi⟩:=at_ h1;exact .inr ⟨by simp,rfl,rfl,rfl,rfl,EK hx hq hk hw hi h3 _ _ _ _ _ _ _ _ _ _ (.inl ⟨rfl,h4⟩)⟩
 | ZM _ n _ _ _ p h1 h2 h3 h4 h5=>
   subst h2;obtain⟨i,hi⟩:=at_ h1;exact .inr ⟨by simp,rfl,rfl,rfl,rfl,EK hx hq hk hw hi h3 _ _ _ _ _ _ _ _ _ _ (.inr ⟨rfl,by omega,by omega,h5⟩)⟩
 | peek _ n _ _ _ p h1 h2 h3 h4 h5=>
   subst h2;obtain⟨i,hi⟩:=at_ h1;exact .inl ⟨rfl,Z4 hx hq hk hw hi h3 _ n _ _ _ _ _ _ _ h4 h5⟩
 | ZN _ _ _ _ _ p h1 h2 h3 h4=>
   subst h2;obtain⟨i,hi⟩:=at_ h1;exact .inr ⟨by simp,rfl,rfl,rfl,rfl,EL hx hq hk hw hi h3 _ _ _ _ _ _ _ _ _ _ (.inl ⟨rfl,h4,hdl⟩)⟩
 | ZO _ _ _ _ _ p h1 h2 h3 h4 h5=>
   subst h2;obtain⟨i,hi⟩:=at_ h1;exact .inr ⟨by simp,rfl,rfl,rfl,rfl,EL hx hq hk hw hi h3 _ _ _ _ _ _ _ _ _ _ (.inr ⟨rfl,h4,h5⟩)⟩
 | ZP _ _ _ _ _ p i h1 h2 h3 h4 h5=>subst h2;exact .inl ⟨rfl,Z5 hx hq hk hw h1 h3 _ _ _ _ _ _ _ _ _ h4 hby h5⟩
end
end
end Go.Proofs.YtcnjjchlebmfiaaGreatDoor
namespace Go.Proofs.YtcnjjchlebmfiaaGreatDoor
open Go.Proofs.Tryz
open Go.RowKit Go.Extern.Stop Go.Stop Go.Extern
namespace Rl
theorem aaY(v:Value)(w:World):(ReflectliteType.typeOf #[.iface 226 v]).run prog w=.ok (.iface 205 (.agg #[.pointer (6,226)])) w:=by kernel_rfl
theorem KO(w:World):(ReflectliteType.relation "AssignableTo" ReflectliteType.assignableTo #[.agg #[.pointer (6,226)],.iface 205 (.agg #[.pointer (6,48)])]).run prog w=.ok (.bool false) w:=by kernel_rfl
theorem aiN(v:Value)(xT:TypeId)(w:World):(Instr.typeAssert (.iface 226 v) xT 210 true).run prog w=.ok (.tuple #[.nilIface,false]) w:=run_typeAssert_lacksB underlying210 (by kernel_rfl) (by kernel_rfl) v xT w
theorem UL(v:Value)(xT:TypeId)(w:World):(Instr.typeAssert (.iface 226 v) xT 213 true).run prog w=.ok (.tuple #[.iface 226 v,true]) w:=run_typeAssert_hasB underlying213 (by kernel_rfl) v xT w
theorem methodUnwrap(v:Value)(w:World):(Go.method 667 226 v "Unwrap").run prog w=.ok (415,v) w:=by kernel_rfl
end Rl
theorem OU(c:Nat)(n:Int)(w:World)(h1:w.cell? (c,1)=some (.int .i64 n)) :
 Calls prog 415 #[c] w (Z.e (.iface 48 (.int .i64 n)) w):=by
 go_enter func415,ntmps415;go_wp2
 go_ret
 exact⟨rfl,rfl⟩
theorem aaZ(c:Nat)(n:Int)(t a:Addr)(old:Value)(w:World)(h1:w.cell? (c,1)=some (.int .i64 n))(ha:w.cell? a=some (.pointer (some t)))(ht0:w.cell? t=some old)(hf0:w.frozen? t=false) :
 Calls prog 48 #[.iface 226 (.pointer (c,0)),.iface 85 (.pointer (some t)),.agg #[.pointer (6,85),.pointer (some a),.int .u64 150],.iface 205 (.agg #[.pointer (6,48)])] w
  λev w'=>ev=.returned (.bool true)∧∃W1,Below w.heap.size w W1∧w'=W1.setCell t (.int .i64 n):=by
 have h76:=@run_callFunc_extern prog 45 _ (λargs=>ReflectliteValue.unpack (args.getD 0 (.tuple #[]))) func45 (by kernel_rfl) (by kernel_rfl) (by kernel_rfl) (by kernel_rfl);have aiK:=@run_callFunc_extern prog 85 _ ReflectliteType.typeOf func85 (by kernel_rfl) (by kernel_rfl) (by kernel_rfl) (by kernel_rfl);have aiL:=@run_callFunc_extern prog 403 _ (ReflectliteType.relation "AssignableTo" ReflectliteType.assignableTo) func403 (by kernel_rfl) (by kernel_rfl) (by kernel_rfl) (by kernel_rfl);have aiM:=@run_callFunc_extern prog 86 _ (ReflectliteValue.method (ReflectliteValue.valueError "reflectlite.Value.Elem" 0) ReflectliteValue.elem) func86 (by kernel_rfl) (by kernel_rfl) (by kernel_rfl) (by kernel_rfl);have h116:=@run_callFunc_extern prog 87 _ ReflectliteValue.set func87 (by kernel_rfl) (by kernel_rfl) (by kernel_rfl) (by kernel_rfl);have tO:=Rl.Qn;have tC:=Rl.aaY;have mA:=Rl.methodAssignableTo;have aE:=Rl.zB;have aC:=Rl.KO;have nA:=Rl.aiN;have hU:=Rl.UL;have mU:=Rl.methodUnwrap;have vE:=Rl.KN;have htl:t.block<w.heap.size:=World.block_lt_of_cell? _ _ ht0;have hal:a.block<w.heap.size:=World.block_lt_of_cell? _ _ ha;have hcl:c<w.heap.size:=by have:=World.block_lt_of_cell? _ _ h1;simpa using this
 have el:=Rl.YP a t (w.alloc (.cells #[.pointer (6,85),.pointer (some a),.int .u64 150] 133)) (by rw[World.cell?_alloc_lt _ _ a hal];exact ha)
 have st:=Rl.agd t ⟨w.heap.size+1,0,none⟩ n old ((w.alloc (.cells #[.pointer (6,85),.pointer (some a),.int .u64 150] 133)).alloc (.cells #[n] 48))
  (by rw[World.cell?_alloc_at _ _ _ _ (by simp)];rfl)
  (by rw[World.cell?_alloc_lt _ _ t (by simp;omega),World.cell?_alloc_lt _ _ t htl];exact ht0)
  (by rw[World.frozen?_alloc_old _ _ t (by simp;omega),World.frozen?_alloc_old _ _ t (Nat.ne_of_lt htl)];exact hf0)
 have un:=OU c n (w.alloc (.cells #[.pointer (6,85),.pointer (some a),.int .u64 150] 133)) (by rw[World.cell?_alloc_lt _ _ ⟨c,1,none⟩ hcl];exact h1);have UN:=xh un;clear un;go_enter func48,ntmps48;go_wp2
 refine wp_loop_rounds 2 ?_;rw[rounds_succ];go_wp2_with (go_at_call 415;refine UN.o.mono ?_;rintro e w' ⟨rfl,rfl⟩)
 rw[rounds_succ];go_wp2
 go_ret
 exact⟨rfl,_,((Below.refl _ _).alloc (bM _) _).alloc (by simp) _,rfl⟩
theorem MW(c:Nat)(n:Int)(w:World)(h1:w.cell? (c,1)=some (.int .i64 n)):Qo (.iface 226 (.pointer (c,0))) n w:=λw' t a old hb ha ht hf=>
 aaZ c n t a old w' ((hb.cell (p:=⟨c,1,none⟩) (by have:=World.block_lt_of_cell? _ _ h1;simpa using this)).trans h1) ha ht hf
end Go.Proofs.YtcnjjchlebmfiaaGreatDoor
namespace Go.Proofs.YtcnjjchlebmfiaaGreatDoor
section
open Go.Proofs.Tryz Go.RowKit Go.MapKept Go.Maps
def abh(E:XE)(ps:List Xp)(D:XD)(Q:QE)(p:Option Addr)(L:List Int):Prop:=∀g o,p=some ⟨g,o,none⟩→0<L.length→¬bH E ps D g∧¬rM E ps Q g
structure GN(E:XE)(w:World)(ps:List Xp)(D:XD)(Q:QE)(p q:Option Addr)(c d:Nat)(L:List Int):Prop where
 blk:Blk w E.wb [E.tk,E.rb,.slice p L.length c,.slice q L.length d,false] 96
 bp:BS w p L
 bq:BS w q L
 few:L.length≤1000000
 sp:abh E ps D Q p L
 sq:abh E ps D Q q L
structure XI(E:XE)(n:Nat)(w:World):Prop where
 kp:fB E w
 st:∃ps ty D Q,lQ E.l.a.toNat E.l.b.toNat ps∧PX E w ps ty D∧QX E w ps ty Q∧(∃p q c d L,GN E w ps D Q p q c d L)∧(∀x,bH E ps D x→¬rM E ps Q x)∧ty.length≤n
theorem GN.keep{S:Nat→Prop}{E:XE}{w w':World}{ps:List Xp}{D:XD}{Q:QE}{p q:Option Addr}{c d:Nat}{L:List Int}(h:GN E w ps D Q p q c d L)(k:Keep S w w')(h1:¬S E.wb)(h2:∀g o,p=some ⟨g,o,none⟩→0<L.length→¬S g)(h3:∀g o,q=some ⟨g,o,none⟩→0<L.length→¬S g):GN E w' ps D Q p q c d L:=
 ⟨h.blk.keep k h1,h.bp.dm k (λh0 b o e=>h2 b o e h0),h.bq.dm k (λh0 b o e=>h3 b o e h0),h.few,h.sp,h.sq⟩
theorem GN.bel{E:XE}{w w':World}{ps:List Xp}{D:XD}{Q:QE}{p q:Option Addr}{c d:Nat}{L:List Int}(h:GN E w ps D Q p q c d L)(k:Bel w w'):GN E w' ps D Q p q c d L:=h.keep (Keep.of_bel (λ_=>False) k) (λh=>h) (λ_ _ _ _ h=>h) λ_ _ _ _ h=>h
theorem XI.bel{E:XE}{n:Nat}{w w':World}(h:XI E n w)(k:Bel w w'):XI E n w':=by
 obtain⟨ps,ty,D,Q,h1,h2,h3,⟨p,q,c,d,L,h4⟩,h5⟩:=h.st;exact⟨h.kp.tr (Keep.of_bel _ k),ps,ty,D,Q,h1,h2.bel k,h3.bel k,⟨p,q,c,d,L,h4.bel k⟩,h5⟩
theorem XI.up{E:XE}{n m:Nat}{w:World}(h:XI E n w)(hm:n≤m):XI E m w:=by
 obtain⟨ps,ty,D,Q,h1,h2,h3,h4,h5,h6⟩:=h.st;exact⟨h.kp,ps,ty,D,Q,h1,h2,h3,h4,h5,by omega⟩
theorem wM{w:World}{p:Option Addr}{L:List Int}(h:BS w p L){g o:Nat}(e:p=some ⟨g,o,none⟩)(h0:0<L.length):g<w.heap.size:=by
 obtain⟨b,o2,e2,hl,_⟩:=h.2 h0;rw[e]at e2;cases e2
 exact hl
theorem yl(w:World)(p:Option Addr):BS w p []:=⟨λ_ h=>(by cases h),λh=>absurd h (by simp)⟩
theorem GR{t:TypeId}(h:TyG t):¬O9 t∧t≠96∧t≠252:=by
 unfold TyG at h;unfold O9;rcases h with rfl|rfl|rfl|rfl<;>decide
theorem PM{t:TypeId}(h:TyH t):¬O9 t∧t≠96:=by
 unfold TyH at h;unfold O9;rcases h with rfl|rfl|rfl|rfl<;>decide
section
variable {E:XE} {ps:List Xp} {ty:List Int} {D:XD} {Q:QE} {w w':World}
theorem PN(hx:eY E)(hp:PX E w ps ty D)(k:Keep (bH E ps D) w w'):Fr E.B w w':=k.mono λq hq=>⟨hx.ZF (hp.lo q hq),λcs t hb ht=>by
 rcases hp.typ hq with⟨cs2,t2,hb2,ht2⟩|⟨kv,hm⟩
 ·exact hb.ne hb2 (λe=>(GR ht2).1 (e▸ht)) rfl
 ·exact hb.aP hm rfl⟩
theorem Xj(hx:eY E)(hd:QX E w ps ty Q)(k:Keep (rM E ps Q) w w'):Fr E.B w w':=Fr.Gl k λq hq=>by
 obtain⟨cs,t,hb,ht⟩:=hd.typ hq;exact⟨hx.ZF (hd.lo q hq),cs,t,hb,(PM ht).1⟩
theorem Jw(hw:∃cs,Blk w E.wb cs 96)(hp:PX E w ps ty D):¬bH E ps D E.wb:=λhq=>by
 obtain⟨cs,hb⟩:=hw;rcases hp.typ hq with⟨cs2,t2,hb2,ht2⟩|⟨kv,hm⟩
 ·exact hb2.ne hb (GR ht2).2.1 rfl
 ·exact hb.aP hm rfl
theorem PO(hw:∃cs,Blk w E.wb cs 96)(hd:QX E w ps ty Q):¬rM E ps Q E.wb:=λhq=>by
 obtain⟨cs,hb⟩:=hw;obtain⟨_,t,hb2,ht⟩:=hd.typ hq;exact hb2.ne hb (PM ht).2 rfl
theorem wO(hp:PX E w ps ty D):∀q cs,Blk w q cs 252→¬bH E ps D q:=λq cs hb hq=>by
 rcases hp.typ hq with⟨cs2,t2,hb2,ht2⟩|⟨kv,hm⟩
 ·exact hb2.ne hb (GR ht2).2.2 rfl
 ·exact hb.aP hm rfl
theorem zZ(hx:eY E)(hp:PX E w ps ty D):∀n∈E.L,∀g,n.bv.ownBlock=some g→¬bH E ps D g:=λn hn g hg hq=>by
 obtain⟨_,cur,hc⟩:=(hx.aS n hn).1.lt hg;exact hx.nv hc (by unfold V5;decide) (hp.lo g hq)
end
def aeb(ev:Value)(f A:Int)(n1:Nat)(W:World):Prop:=
 (f=0∧ev=.nilIface)∨ev=.iface 48 (.int .i64 f)∨∃c,ev=.iface 226 (.pointer (c,0))∧Blk W c [A,f] 228∧n1≤c
structure XRx(E:XE)(ty:List Int)(ps:List Xp)(D:XD)(ps':List Xp)(w0:World)(n1:Nat)(A N M f:Int)(L:List Int)(N' M' f':Int)(dv ev:Value)(W:World):Prop where
 eN:N'=N
 eM:M'=M
 ef:f'=f
 tell:aeb ev f A n1 W
 ans:∃p c D',dv=.slice p L.length c∧(L=[]→p=none∧c=0∨f=0)∧BS W p L∧PX E W ps' ty D'∧(∀q,bH E ps' D' q→bH E ps D q∨n1≤q)∧∀g o,p=some ⟨g,o,none⟩→0<L.length→n1≤g∧¬bH E ps' D' g
 kept:Keep (λq=>bH E ps D q∨w0.heap.size≤q) w0 W
 size:n1≤W.heap.size
theorem XRx.keep{E:XE}{ty:List Int}{ps ps':List Xp}{D:XD}{w0:World}{n1:Nat}{A N M f:Int}{L:List Int}{N' M' f':Int}{dv ev:Value}{W W':World}(h:XRx E ty ps D ps' w0 n1 A N M f L N' M' f' dv ev W)(hp:PX E w0 ps ty D)(k:Keep (λq=>w0.heap.size≤q∧q<n1) W W'):XRx E ty ps D ps' w0 n1 A N M f L N' M' f' dv ev W':=by
 obtain⟨p,c,D',h1,h2,h3,h4,h5,h6⟩:=h.ans;refine⟨h.eN,h.eM,h.ef,?_,⟨p,c,D',h1,h2,h3.dm k (λh0 g o e hq=>?_),h4.keep k (λq hq hr=>?_),h5,h6⟩,h.kept.tr (k.mono λq hq=>.inr hq.1),bU h.size k.size⟩
 ·rcases h.tell with h7|h7|⟨c,h7,h8,h9⟩
  ·exact .inl h7
  ·exact .inr (.inl h7)
  ·exact .inr (.inr ⟨c,h7,h8.keep k (λhq=>by have:=hq.2;omega),h9⟩)
 ·have:=(h6 g o e h0).1
  have:=hq.2;omega
 ·rcases h5 q hq with h7|h7
  ·have:=hp.lt h7
   have:=hr.1;omega
  ·have:=hr.2
   omega
theorem DJ{c:jA}(h:c.weight≤200000):c.s.size≤200000∧c.l.length≤1000∧c.d.length≤200000:=by
 unfold jA.weight at h;split at h
 ·omega
 ·exact⟨by omega,by omega,by omega⟩
theorem aec(E:XE)(hx:eY E)(n:Nat)(A:Int)(c:jA)(hA : -9223372036854775808≤A∧A≤9223372036854775807)(hkd:c.kind<0∨62≤c.kind∨c.kind=1∨c.kind=2∨c.kind=3∨c.kind=4∨c.kind=17∨c.kind=18∨c.kind=19)(hcw:c.weight≤200000):DoS (XI E n) (XI E n) E.wb E.tk E.rb E.B A c:=by
 intro w0 w lp g lc hI hw hB hg htx hlp hgb hby;obtain⟨ps,ty,D,Q,hwf,hp,hd,⟨p,q,cc,dc,L0,lC⟩,hdis,hsz⟩:=hI.st;have hk0:=hI.kp;have hk:=hk0.tr (Keep.of_bel _ hw);have hpw:=hp.bel hw;obtain⟨hcs,hcl,hcd⟩:=DJ hcw;have hdb:zQ w (some ⟨g,0,none⟩) c.d:=⟨hby,λ_=>⟨g,0,rfl,_,hgb,λi x hi=>by
  rw[Nat.zero_add,fA,List.getElem?_append_left (bV hi).1,hi];rfl⟩⟩
 obtain⟨N,M,f,L,ps',ho⟩:=Q9 (aJ E.T) hwf A c.kind c.a c.b c.s c.l c.d hkd;obtain⟨w1,w4,w5,w6⟩:=ho.wf hwf hby hx.tb;have hold:∀q,bH E ps D q→q<w0.heap.size:=λq hq=>hp.lt hq;have aed:=zZ hx hp;refine⟨XRx E ty ps D ps' w0 w.heap.size A N M f L,⟨?_,?_,?_,?_,?_⟩,?_⟩
 ·intro N' M' f' dv ev W W' h k
  exact h.keep hp k
 ·intro N' M' f' dv ev W h
  have:=lC.blk.keep h.kept λhq=>hq.elim (Jw ⟨_,lC.blk⟩ hp) λe=>by have:=lC.blk.lt;omega
  exact⟨_,_,this⟩
 ·intro N' M' f' dv ev W h
  obtain⟨p,c,D',h1,_⟩:=h.ans;exact⟨p,_,c,h1⟩
 ·intro N' M' f' dv ev W h
  have hkW:fB E W:=hk0.tr (h.kept.mono λq hq=>hq.elim (hp.lo q) λe=>.inl (bU hk0.size e));have hev:=hx.Pm hkW;rw[h.ef];rcases h.tell with⟨rfl,rfl⟩|rfl|⟨c,rfl,h8,_⟩
  ·exact Bq W
  ·exact Bv _ _ f W (yZ f W) hev
  ·exact Bv _ _ f W (MW c f W (h8.cell 1)) hev
 ·intro N' M' f' dv ev W lp2 LX lc2 LY h hnW ag1 ag2 aji
  have hkW:fB E W:=hk0.tr (h.kept.mono λq hq=>hq.elim (hp.lo q) λe=>.inl (bU hk0.size e));have EP:QX E W ps ty Q:=hd.keep h.kept (λq hq hr=>hr.elim (λe=>hdis q e hq) λe=>by have:=hd.lt hq;omega) (λq cs hb hr=>hr.elim (wO hp q cs hb) λe=>by have:=hb.lt;omega) λm hm g hg hr=>hr.elim (aed m hm g hg) λe=>by
   obtain⟨_,cur,hc⟩:=(hd.dk.aS m hm).1.lt hg;have:=hc.lt;omega
  have aee:=lC.blk.keep h.kept λhq=>hq.elim (Jw ⟨_,lC.blk⟩ hp) λe=>by have:=lC.blk.lt;omega
  have ag3:Calls prog 111 #[E.rb,A,.agg #[.int .i64 c.kind,.int .i64 c.a,.int .i64 c.b,.string c.s,.slice lp2 c.l.length lc2,.slice LX c.d.length LY]] W λe w'=>∃q2 c2,e=.returned (.tuple #[.int .i64 N,.int .i64 M,.slice q2 L.length c2,.int .i64 f])∧∃Q',WW E ty ps Q ps' W.heap.size W Q' w'∧BS w' q2 L∧∀g o,q2=some ⟨g,o,none⟩→0<L.length→W.heap.size≤g∧¬rM E ps' Q' g:=by
   rcases aad hx EP hkW hwf ho lp2 LX lc2 LY (by omega) hcl ag1 ag2 (by omega)with⟨rfl,h1⟩|⟨_,rfl,rfl,rfl,rfl,h1⟩
   ·refine h1.mono ?_
    rintro e w' ⟨n',m',q',l',c',f2,rfl,rfl,rfl,rfl,rfl,h2⟩;exact⟨q',c',rfl,h2⟩
   ·refine h1.mono ?_
    rintro e w' ⟨rfl,hb⟩;exact⟨none,0,rfl,Q,PI hx EP hkW hwf hb,yl _ _,λ_ _ e=>(by cases e)⟩
  refine ag3.mono ?_;rintro e w' ⟨q',c',rfl,Q',h2,h3,h4⟩;obtain⟨pA,cA,D',rfl,hA2,hA3,hA4,hA5,hA6⟩:=h.ans;have ab5:∀q,rM E ps Q q→q<w0.heap.size:=λq hq=>hd.lt hq;have hPD:∀q,bH E ps' D' q→¬rM E ps Q q:=λq hq hr=>by
   rcases hA5 q hq with h5|h5
   ·exact hdis q h5 hr
   ·have:=ab5 q hr
    have:=hw.le;omega
  have hP':PX E w' ps' ty D':=hA4.keep h2.kept hPD;have hbp:BS w' pA L:=hA3.dm h2.kept λh0 g o e hr=>by
   have:=(hA6 g o e h0).1;have:=ab5 g hr;have:=hw.le;omega
  have aef:∀x,bH E ps' D' x→¬rM E ps' Q' x:=λx hx1 hx2=>by
   rcases h2.new x hx2 with h5|h5
   ·exact hPD x hx1 h5
   ·have:=hA4.lt hx1
    omega
  have Xk:=aee.keep h2.kept (PO ⟨_,aee⟩ EP);refine⟨pA,q',cA,c',L,by rw[h.eN,h.eM,h.ef],rfl,hbp,h3,by omega,by rw[h.ef];exact w5,λhf=>?_,⟨_,_,Xk⟩,Xj hx EP h2.kept,λW' hW'=>?_⟩
  ·rw[h.ef]at hf
   have hL:=w6 hf;rcases hA2 hL with⟨rfl,rfl⟩|h5
   ·rw[hL];rfl
   ·exact absurd h5 hf
  ·
   have k1:Keep (λq=>q=E.wb) w' ((W'.setCell (E.wb,2) (.slice pA L.length cA)).setCell (E.wb,3) (.slice q' L.length c')):=(Keep.of_bel _ hW').tr ((Keep.setCell W' E.wb 2 _).tr (Keep.setCell _ E.wb 3 _));have ag4:fB E w':=hkW.tr (h2.kept.mono λq hq=>EP.lo q hq);have b1:=((Xk.bel hW').setCell (o:=2) (.slice pA L.length cA)).setCell (o:=3) (.slice q' L.length c');have hu:∀q cs t,Blk w' q cs t→t≠96→¬q=E.wb:=λq cs t hb ht=>hb.ne Xk ht;have hnw:∀g o,(pA=some ⟨g,o,none⟩∨q'=some ⟨g,o,none⟩)→0<L.length→¬g=E.wb:=λg o e h0 e2=>by
    have h6:w.heap.size≤g:=by
     rcases e with e|e
     ·exact(hA6 g o e h0).1
     ·exact bU hnW (h4 g o e h0).1
    have:=lC.blk.lt;have:=hw.le;omega
   refine⟨ag4.tr (k1.mono λq hq=>by have hq:q=E.wb:=hq;subst hq;exact .inr (.inr (.inr (.inr (.inr (.inr (.inl rfl)))))))
    ,ps',ty,D',Q',w1,hP'.keep k1 (λq hq e=>Jw ⟨_,Xk⟩ hP' (by have e:q=E.wb:=e;exact e▸hq)),h2.qx.keep k1 (λq hq e=>PO ⟨_,Xk⟩ h2.qx (by have e:q=E.wb:=e;exact e▸hq)) (λq cs hb=>hu q cs _ hb (by decide)) (λm hm g hg e=>?_),⟨pA,q',cA,c',L,b1,hbp.dm k1 (λh0 g o e=>hnw g o (.inl e) h0),h3.dm k1 (λh0 g o e=>hnw g o (.inr e) h0),by omega,?_,?_⟩,aef,by omega⟩
   ·obtain⟨_,cur,hc⟩:=(h2.qx.dk.aS m hm).1.lt hg
    exact hu g _ _ hc (by decide) e
   ·intro g o e h0
    have h5:=hA6 g o e h0;refine⟨h5.2,λhg2=>?_⟩;rcases h2.new g hg2 with h6|h6
    ·have:=ab5 g h6
     have:=hw.le;omega
    ·have:=wM hA3 e h0
     omega
   ·intro g o e h0
    have h5:=h4 g o e h0;refine⟨λhg2=>?_,h5.2⟩;have:=hA4.lt hg2;omega
 ·
  rcases WT hx hpw hk hwf ho hA lp (some ⟨g,0,none⟩) lc (c.d.length+2) (by omega) hcl htx.txS (by omega) (Xl hdb) (by omega)with⟨hf,ht⟩|⟨hf,rfl,rfl,rfl,rfl,ht⟩
  ·refine ht.mono ?_
   rintro e w' ⟨n',m',xp,xn,xc,rfl,h1⟩;obtain⟨D',h2,h3,h4⟩:=h1.st;have e1:=h1.eN;have e2:=h1.eM;have e3:=h1.el;subst e1 e2 e3;refine⟨_,_,f,_,_,rfl,⟨rfl,rfl,rfl,.inl ⟨hf,rfl⟩,⟨xp,xc,D',rfl,λ_=>.inr hf,Xl h3,h2.pp,h2.new,h4⟩,?_,h2.kept.size⟩,PN hx hpw h2.kept,λq h5 h6=>h2.kept.block q h6 λhq=>by have:=hold q hq;omega⟩;exact(Keep.of_bel _ hw).tr (h2.kept.mono λq hq=>.inl hq)
  ·refine ht.mono ?_
   rintro e w' ⟨ev,rfl,hb,hev⟩;refine⟨0,0,f,_,ev,rfl,⟨rfl,rfl,rfl,?_,⟨none,0,D,rfl,λ_=>.inl ⟨rfl,rfl⟩,yl _ _,hpw.bel hb,λq hq=>.inl hq,λ_ _ e=>(by cases e)⟩,Keep.of_bel _ (hw.tr hb),hb.le⟩,Fr.bel hb,λq _ h6=>hb.block q h6⟩;rcases hev with rfl|⟨c,rfl,h8,h9⟩
   ·exact .inr (.inl rfl)
   ·exact .inr (.inr ⟨c,rfl,h8,h9⟩)
end
section
open Go.Proofs.Tryz Go.RowKit Go.Maps Go.Shelf
theorem Cb{w:World}{base:Nat}{v:Value}{R:List FileR}(h:FRows w base v R):∃p cap,v=.slice p R.length cap∧∀j r,R[j]?=some r→∃g,p=some ⟨g,0,none⟩∧base≤g∧g<w.heap.size∧w.cell? (g,j*3)=some (strV r.path)∧w.cell? (g,j*3+1)=some (.bool r.dir)∧w.cell? (g,j*3+2)=some r.bv:=by
 obtain⟨p,cap,rfl,_,_,hp⟩:=aG h.row;refine⟨p,cap,rfl,λj r hj=>?_⟩;have hlt:=(bV hj).1;obtain⟨g,rfl,h1,h2,h3,_⟩:=hp.resolve_left (by omega);have hc:∀i,i<3→w.cell? (g,j*3+i)=(r.cells)[i]?:=λi hi=>by
  rw[h3 _ (by rw[rowsLen];omega),fP FileR.cells 3 R (λx _=>rfl) j i hi,hj];rfl
 exact⟨g,rfl,h1,h2,hc 0 (by omega),hc 1 (by omega),hc 2 (by omega)⟩
def JO(R:List FileR)(j:Nat)(p:List UInt8):Bool:=(R.take j).any λr=>decide (r.path=p)
theorem TU{R:List FileR}{j:Nat}{r:FileR}(h:R[j]?=some r)(p:List UInt8):JO R (j+1) p=(JO R j p||decide (r.path=p)):=by
 unfold JO;rw[List.take_add_one,h];simp
def E5(R:List FileR):Nat→List UInt8
 | 0=>[]
 | m+1=>((R[m]?).map FileR.path).getD []
theorem XX{L:List Nd}{R:List FileR}(h:Fit L R){m:Nat}{r:FileR}(hr:R[m]?=some r):E5 R m<r.path:=by
 cases m with
 | zero=>
   have h1:=h.pos r (List.mem_iff_getElem?.2 ⟨0,hr⟩);cases hp:r.path with
   | nil=>exact absurd hp h1
   | cons x xs=>exact List.nil_lt_cons _ _
 | succ m=>
   obtain⟨hlt,he⟩:=bV hr;have h2:=List.pairwise_iff_getElem.1 h.strict m (m+1) (by omega) hlt (by omega);show((R[m]?).map FileR.path).getD []<r.path
   rw[bT (by omega:m<R.length),←he];exact h2
theorem toList_mk(l:List UInt8):(⟨l.toArray⟩:ByteArray).toList=l:=by simp
def aaz(base:Nat)(w:World)(r:FileR):Prop:=∀i,i<r.byt.length→∃g,r.p=some ⟨g,0,none⟩∧base≤g∧∃cs:List Value,Blk w g cs 5∧∀j,j<r.byt.length→∃x,cs[j]?=some (.int .u8 x)
structure rW(w w2:World)(lp:Option Addr)(R:List FileR)(W:World):Prop where
 bel:Bel w W
 row:∀g,lp=some ⟨g,0,none⟩→W.heap[g]?=w2.heap[g]?
 byt:∀r∈R,aaz w.heap.size W r
theorem aaz.set{base:Nat}{w:World}{r:FileR}(h:aaz base w r)(q k:Nat)(y:Int):aaz base (w.setCell (q,k) (.int .u8 y)) r:=λi hi=>by
 obtain⟨g,hp,hg,cs,hb,hx⟩:=h i hi;by_cases e:g=q
 ·subst e
  refine⟨g,hp,hg,_,hb.setCell _,λj hj=>?_⟩;obtain⟨x,h1⟩:=hx j hj;by_cases e2:k=j
  ·subst e2
   exact⟨y,List.getElem?_set_self (bV h1).1⟩
  ·exact⟨x,by rw[List.getElem?_set_ne e2];exact h1⟩
 ·exact⟨g,hp,hg,cs,hb.aB e _,hx⟩
theorem rW.set{w w2 W:World}{lp:Option Addr}{R:List FileR}{cap:Nat}(h:rW w w2 lp R W)(hF:FRows w2 w.heap.size (.slice lp R.length cap) R){q:Nat}{cs:List Value}(hb:Blk W q cs 5)(hq:w.heap.size≤q)(k:Nat)(y:Int):rW w w2 lp R (W.setCell (q,k) (.int .u8 y)):=by
 refine⟨h.bel.store hq _,λg hg=>?_,λr hr=>(h.byt r hr).set q k y⟩;subst hg;obtain⟨_,cur,hb2⟩:=row_blk hF.row (g:=g) rfl;have hb3:Blk W g cur 71:=(h.row g rfl).trans hb2;have hne:g≠q:=hb3.ne hb (by decide);exact((Keep.setCell W q k (.int .u8 y)).block g hb3.lt hne).trans (h.row g rfl)
theorem rW.drew{w w2 W:World}{lp:Option Addr}{R:List FileR}(h:rW w w2 lp R W):rW w w2 lp R W.drew:=⟨h.bel.drew,h.row,h.byt⟩
theorem rW.first{w w2 W:World}{lp:Option Addr}{R:List FileR}{cap:Nat}(hF:FRows w2 w.heap.size (.slice lp R.length cap) R)(h2:Bel w w2)(h:Bel w2 W):rW w w2 lp R W:=by
 refine⟨h2.tr h,λg hg=>?_,λr hr i hi=>?_⟩
 ·subst hg
  obtain⟨_,cur,hb2⟩:=row_blk hF.row (g:=g) rfl;exact h.block g hb2.lt
 ·obtain⟨h3,h4⟩:=hF.byt r hr
  rcases h3.2 with⟨_,h5⟩|⟨g,cp,cur,h5,h6,_,_,h7⟩
  ·rw[h5]at hi;cases hi
  ·have hp:r.p=some ⟨g,0,none⟩:=by unfold FileR.bv at h5;injection h5
   refine⟨g,hp,h4 g (by rw[h5];rfl),cur,h6.bel h,λj hj=>⟨r.byt[j],?_⟩⟩;have h8:(cur.take r.byt.length)[j]?=some (.int .u8 r.byt[j]):=by rw[h7.2,fA,bT hj];rfl
   rwa [List.getElem?_take_of_lt hj]at h8
theorem SK(wb tk rb g cap:Nat)(o1 o2 o3:Value)(L:List Nd)(w:World)(hW:Blk w wb [tk,rb,o1,o2,o3] 96)
 (hF:Calls prog 19 #[tk] w λe w'=>∃v,e=.returned v∧Bel w w'∧∃R,Fit L R∧FRows w' w.heap.size v R∧∀r∈R,r.byt.length≤1000000)
 (ht:oO w rb g cap L)(hl:L.length≤8000)(hl1:1≤L.length)(hd:Down L)(hc:Gh L)(hs:∀n∈L,n.name.size≤1000)(hb:∀n∈L,Rw w n.bv n.byt∧n.byt.length≤1000000)(us:List Int)(hu:us.length=5)
 (hk:∀W,Bel w W→Calls prog 16 #[tk] W (Z.b (.agg (us.map (Value.int .i64)).toArray) W))(hr:∀W,Bel w W→Calls prog 118 #[rb] W (Z.b (.agg (us.map (Value.int .i64)).toArray) W)) :
 Calls prog 70 #[wb] w (Z.b (.bool true) w):=by
 have c0:=hW.cell 0;have c1:=hW.cell 1;simp only[List.getElem?_cons_zero,List.getElem?_cons_succ]at c0 c1
 have c7:=ht.1;have c00:=c0;have c10:=c1
 have HUS:Hid (∃u0 u1 u2 u3 u4:Int,us=[u0,u1,u2,u3,u4]):=xh (match us,hu with
  | [u0,u1,u2,u3,u4],_=>⟨u0,u1,u2,u3,u4,rfl⟩)
 clear hu;have HF:=xh hF;have HT:=xh ht;have HD:=xh hd;have HC:=xh hc;have HS:=xh hs;have zT:=xh hb;have HUK:=xh hk;have HUR:=xh hr;clear hW hF ht hd hc hs hb hk hr;go_enter func70,ntmps70;go_upto_region 5 with(go_at_call 19;((with_reducible refine aH HF.o ?_);rintro e2 w2 ⟨lv,rfl,k2,R,hfit,hrows,hsmall⟩;have HR:=xh (And.intro hfit hrows);have acJ:=xh hsmall;have iC:=xh k2;clear hfit hrows hsmall k2))
 obtain⟨hfit,hrows⟩:=HR.o;obtain⟨lp,ae7,rfl,hlc⟩:=Cb hrows;have HLC:=xh hlc;have yz:=xh hfit;have rV:=xh hrows;have c1:=af iC.o c1;have c0:=af iC.o c0;have c7:=af iC.o c7;have hRl:R.length+1=L.length:=hfit.len;clear hfit hrows hlc HR
 go_loopw [4,6] (λn i wr=>∃k:Nat,k≤L.length∧i=.int .i64 k∧n=.int .i64 (k-1:Nat)∧Hid (Bel w2 wr)) (λ_ i _=>L.length-(intOf i).toNat)
 case atStart=>exact⟨0,Nat.zero_le _,rfl,rfl,xh (Bel.refl _)⟩
 case round=>
  obtain⟨k,hk,rfl,rfl,HB⟩:=hrel;have c1:=af HB.out c1;have c0:=af HB.out c0;have c7:=af HB.out c7;by_cases hlt:k<L.length
  ·have hn:=bT hlt
   obtain⟨n,hnn⟩:=e_x (L[k]);rw[hnn]at hn;have jb:=HT.o.2.2 k n hn;have hcc:∀j u,(n.cells k)[j]?=some u→wr.cell? (g,k*5+j)=some u:=λj u hu=>af HB.out (af iC.o (jb j u hu));have n0:wr.cell? (g,k*5)=some (.int .i64 (k+1:Nat)):=hcc 0 _ rfl;have n1:wr.cell? (g,k*5+1)=some (.int .i64 n.par):=hcc 1 _ rfl;have n2:wr.cell? (g,k*5+2)=some (.string n.name):=hcc 2 _ rfl;have n3:wr.cell? (g,k*5+3)=some (.bool n.dir):=hcc 3 _ rfl;have n4:wr.cell? (g,k*5+4)=some n.bv:=hcc 4 _ rfl;have hmem:n∈L:=List.mem_iff_getElem?.2 ⟨k,hn⟩;obtain⟨qb,qc,hbv,_⟩:=(zT.o n hmem).1.slice;rw[hbv]at n4;clear jb hcc;go_upto_region 8 with fail
   have BX0:=Blk.new wr [.int .i64 ((k:Int)+1),.int .i64 n.par,.string n.name,.bool n.dir,.slice qb n.byt.length qc] 252;have kx0:Bel wr (wr.alloc (.cells #[.int .i64 ((k:Int)+1),.int .i64 n.par,.string n.name,.bool n.dir,.slice qb n.byt.length qc] 252)):=Bel.start _ _;change Blk (wr.alloc (.cells #[.int .i64 ((k:Int)+1),.int .i64 n.par,.string n.name,.bool n.dir,.slice qb n.byt.length qc] 252)) wr.heap.size _ _ at BX0
   have c1:=af kx0 c1;have c0:=af kx0 c0;have c7:=af kx0 c7;have HB4:Hid (Bel w2 (wr.alloc (.cells #[.int .i64 ((k:Int)+1),.int .i64 n.par,.string n.name,.bool n.dir,.slice qb n.byt.length qc] 252))):=xh (HB.out.tr kx0);clear kx0 n0 n1 n2 n3 n4;generalize wr.alloc (.cells #[.int .i64 ((k:Int)+1),.int .i64 n.par,.string n.name,.bool n.dir,.slice qb n.byt.length qc] 252)=w4 at *
   generalize wr.heap.size=xb at *
   have x0:=BX0.c 0 rfl;have x1:=BX0.c 1 rfl;have x3:=BX0.c 3 rfl;have x4:=BX0.c 4 rfl;clear BX0;by_cases hk0:k=0
   ·subst hk0
    have hpar:n.par=0:=by have:=HD.o 0 n hn;omega
    rw[hpar]at x1;go_wp2_with fail
    go_roundw
    case rel=>exact⟨0+1,by omega,by go_num,rfl,HB4⟩
    case measure=>simp[intOf]<;>omega
   ·have hpar:n.par≠0:=HC.o k n hn hk0
    have abq:¬((n.par:Int)=0):=by omega
    have HPD:Hid (∀q,Calls prog 117 #[rb,.int .i64 ((k:Int)+1)] (w4.drewN q) λe w'=>e=.returned (strV (dW L (k+1)))∧w'=w4.drewN q):=xh λq=>(TV rb g cap L (w4.drewN q) ((HT.o.bel iC.o).bel (aj HB4.o q)) (k+1) (by omega) hl HD.o HS.o).mono λe w' h=>⟨h.1,h.2.symm⟩;go_upto_region 10 with fail
    go_quiet ((go_at_call 117;exact Calls.quiet_of_same (HPD.o _)))
    have k5:Bel w4 (w4.drewN nq):=aj (Bel.refl _) nq;have c1:=af k5 c1;have c0:=af k5 c0;have c7:=af k5 c7;have x3:=af k5 x3;have x4:=af k5 x4;have zU:Hid (Bel w2 (w4.drewN nq)):=xh (HB4.o.tr k5);clear k5 x0 x1;generalize w4.drewN nq=w5 at *
    obtain⟨p,hp⟩:∃p,p=dW L (k+1):=⟨_,rfl⟩;rw[←hp];rw[show strV p=.string ⟨p.toArray⟩from rfl];obtain⟨sp,hsp⟩:∃sp:ByteArray,sp=⟨p.toArray⟩:=⟨_,rfl⟩;rw[←hsp];have HP:=xh hp;have Hg:=xh hsp;clear hp hsp;go_wp2_with fail
    go_loopw [9,10] (λth j ws=>∃m:Nat,m≤R.length∧j=.int .i64 m∧th=.bool (JO R m p)∧Hid (Bel w5 ws)) (λ_ j _=>R.length-(intOf j).toNat)
    case atStart=>exact⟨0,Nat.zero_le _,rfl,rfl,xh (Bel.refl _)⟩
    case round=>
     obtain⟨m,hm,rfl,rfl,HBm⟩:=hrel;have x3:=af HBm.out x3;have x4:=af HBm.out x4;by_cases hmt:m<R.length
     ·have hr:=bT hmt
      obtain⟨r,hrr⟩:=e_x (R[m]);rw[hrr]at hr;obtain⟨gr,rfl,ahJ,acK,r0,r1,r2⟩:=HLC.o m r hr;have kk:Bel w2 _:=zU.o.tr HBm.out;have r0:=af kk r0;have r1:=af kk r1;have r2:=af kk r2;rw[show strV r.path=.string ⟨r.path.toArray⟩from rfl]at r0;obtain⟨sr,vN⟩:∃sr:ByteArray,sr=⟨r.path.toArray⟩:=⟨_,rfl⟩;rw[←vN]at r0;have HSU:Hid (JO R (m+1) p=(JO R m p||decide (r.path=p))):=xh (TU hr p);by_cases he:r.path=p
      ·have e2:sr=sp:=by rw[vN,Hg.o,he]
       subst e2;obtain⟨e3,e4⟩:=yz.o.fit m r hr k n hn hk0 (he.trans HP.o);rw[e3]at r1;rw[show r.bv=.slice r.p n.byt.length r.cap from by unfold FileR.bv;rw[e4]]at r2;obtain⟨qb2,qc2,ajG,_⟩:=(zT.o n hmem).1.slice;have hsm:∀W,Bel w5 W→∀q,Calls prog 68 #[.slice r.p n.byt.length r.cap,.slice qb n.byt.length qc] (W.drewN q) λe w'=>e=.returned (.bool true)∧∃m,w'=(W.drewN q).drewN m:=λW hW q=>nM r.p qb r.cap qc n.byt (W.drewN q) ((((rV.o.byt r (List.mem_iff_getElem?.2 ⟨m,hr⟩)).1.bs (by unfold FileR.bv;rw[e4])).bel (zU.o.tr hW)).bel (aj (Bel.refl W) q) |> λh=>e4▸h) (((zT.o n hmem).1.bs hbv).bel (iC.o.tr (zU.o.tr (aj hW q)))) (zT.o n hmem).2;have uB:=xh (hsm _ HBm.out);clear hsm;go_upto_region 16 with fail
       go_quiet ((go_at_call 68;exact Calls.quiet_of (uB.o _)))
       have k6:Bel wr (wr.drewN nq):=aj (Bel.refl _) nq;have x3:=af k6 x3;have r1:=af k6 r1;have AL:Hid (Bel w5 (wr.drewN nq)):=xh (HBm.out.tr k6);clear k6 r0 r2 x4;go_upto_region 17 with fail
       generalize wr.drewN nq=w6 at *
       go_quiet (fail)
       have zH:Hid (Bel w5 (w6.drewN nq)):=xh (AL.o.tr (aj (Bel.refl _) _));go_wp2_with fail
       go_roundw
       case rel=>exact⟨m+1,by omega,by go_num,by rw[HSU.o,decide_eq_true he,Bool.or_true],zH⟩
       case measure=>simp[intOf]<;>omega
      ·have e2:¬sr=sp:=λe=>he (by
        have:r.path.toArray=p.toArray:=by rw[vN,Hg.o]at e;exact congrArg ByteArray.data e
        simpa using this)
       have Io:=xh vN;have hb1:(sr.toList==sp.toList)=false:=by
        rw[beq_eq_false_iff_ne];intro e;apply he
        rw[vN,Hg.o]at e
        simpa using e
       clear vN;go_wp2_with fail
       go_roundw
       case rel=>exact⟨m+1,by omega,by go_num,by rw[HSU.o,decide_eq_false he,Bool.or_false],HBm⟩
       case measure=>simp[intOf]<;>omega
     ·obtain rfl:m=R.length:=by omega
      have hall:JO R R.length p=true:=by
       obtain⟨j,r,hj,hjp⟩:=yz.o.has k n hn hk0;unfold JO;rw[List.take_length,List.any_eq_true];exact⟨r,List.mem_iff_getElem?.2 ⟨j,hj⟩,decide_eq_true (hjp.trans HP.o.symm)⟩
      rw[hall];have HBk:Hid (Bel w2 wr):=xh (zU.o.tr HBm.out);go_wp2_with fail
      go_roundw
      case rel=>exact⟨k+1,by omega,by go_num,by go_num,HBk⟩
      case measure=>simp[intOf]<;>omega
  ·obtain rfl:k=L.length:=by omega
   have hn1:L.length-1=R.length:=by omega
   rw[hn1];have HX0:=xh (rW.first rV.o iC.o HB.out);go_wp2_with fail
   go_loopw [5,12] (λla j ws=>∃m:Nat,m≤R.length∧j=.int .i64 m∧la=strV (E5 R m)∧Hid (rW w w2 lp R ws)) (λ_ j _=>R.length-(intOf j).toNat)
   case atStart=>exact⟨0,Nat.zero_le _,rfl,rfl,HX0⟩
   case round=>
    obtain⟨m,hm,rfl,rfl,HX⟩:=hrel;by_cases hmt:m<R.length
    ·have hr:=bT hmt
     obtain⟨r,hrr⟩:=e_x (R[m]);rw[hrr]at hr;have hmr:r∈R:=List.mem_iff_getElem?.2 ⟨m,hr⟩;obtain⟨gr,rfl,ahJ,acK,r0,r1,r2⟩:=HLC.o m r hr;have hbk:=HX.out.row gr rfl;have r0:=(World.cell?_of_block (a:=⟨gr,m*3,none⟩) hbk).trans r0;have r2:=(World.cell?_of_block (a:=⟨gr,m*3+2,none⟩) hbk).trans r2;rw[show strV r.path=.string ⟨r.path.toArray⟩from rfl]at r0;obtain⟨sr,vN⟩:∃sr:ByteArray,sr=⟨r.path.toArray⟩:=⟨_,rfl⟩;rw[←vN]at r0;rw[show strV (E5 R m)=.string ⟨(E5 R m).toArray⟩from rfl];obtain⟨sl,hsl⟩:∃sl:ByteArray,sl=⟨(E5 R m).toArray⟩:=⟨_,rfl⟩;rw[←hsl];have Io:=xh vN;have ajH:=xh hsl;have hlt2:=XX yz.o hr;have hb1:Op.bytesLess sr.toList sl.toList=false:=by
      rw[vN,hsl,toList_mk,toList_mk,bytesLess_eq];exact decide_eq_false λh=>List.lt_irrefl _ (List.lt_trans h hlt2)
     have hb2:(sr.toList==sl.toList)=false:=by
      rw[vN,hsl,toList_mk,toList_mk,beq_eq_false_iff_ne];intro e;rw[e]at hlt2;exact absurd hlt2 (List.lt_irrefl _)
     clear vN hsl hlt2;have hbv:r.bv=.slice r.p r.byt.length r.cap:=rfl;rw[hbv]at r2;have hgf:=HX.out.bel.le;have ajI:=acJ.o r hmr;clear hbk r1 hbv;go_wp2_with fail
     go_loopw [13] (λi ws=>∃q:Nat,q≤r.byt.length∧i=.int .i64 q∧Hid (rW w w2 (some ⟨gr,0,none⟩) R ws)) (λi _=>r.byt.length-(intOf i).toNat)
     case atStart=>exact⟨0,Nat.zero_le _,rfl,HX⟩
     case round=>
      obtain⟨q,hq,rfl,HXq⟩:=hrel;obtain⟨_,_,e9,hz9⟩:=Cb rV.o;obtain⟨g9,e10,_,_,_,_,z2⟩:=hz9 m r hr;cases e9
      cases e10
      have r2:=(World.cell?_of_block (a:=⟨gr,m*3+2,none⟩) (HXq.out.row gr rfl)).trans z2;rw[show r.bv=.slice r.p r.byt.length r.cap from rfl]at r2;clear z2 hz9;by_cases hqt:q<r.byt.length
      ·obtain⟨gb,hp,hgb,cs,hb,hx⟩:=HXq.out.byt r hmr q hqt
       obtain⟨x,hx1⟩:=hx q hqt;rw[←hb.cell]at hx1;have fz:=hb.frozen q;rw[hp]at r2;have HXB:=xh (And.intro hb hgb);have hne:gb≠gr:=by
        obtain⟨_,cur,hb2⟩:=row_blk rV.o.row (g:=gr) rfl;have hb3:Blk wr gr cur 71:=(HXq.out.row gr rfl).trans hb2;exact(hb3.ne hb (by decide)).symm
       clear hb hx;go_upto_region 31 with fail
       go_still_tail 16,(by kernel_rfl)
       change wpList _ _ _ _ _ wr.drew
       go_wp2_with fail
       go_roundw
       case rel=>exact⟨q+1,by omega,by go_num,xh (HXq.out.drew.set rV.o HXB.o.1.drew HXB.o.2 q _)⟩
       case measure=>simp[intOf]<;>omega
      ·obtain rfl:q=r.byt.length:=by omega
       go_wp2_with fail
       go_roundw
       case rel=>exact⟨m+1,by omega,by go_num,by rw[show E5 R (m+1)=r.path from by show((R[m]?).map FileR.path).getD []=r.path;rw[hr];rfl,Io.o];rfl,HXq⟩
       case measure=>simp[intOf]<;>omega
    ·obtain rfl:m=R.length:=by omega
     have uy:Hid (Bel w wr):=xh HX.out.bel;have c0:=af uy.o c00;have c1:=af uy.o c10;obtain⟨u0,u1,u2,u3,u4,hus⟩:=HUS.o;have HU1:Hid (Calls prog 16 #[tk] wr λe w'=>e=.returned (.agg #[.int .i64 u0,.int .i64 u1,.int .i64 u2,.int .i64 u3,.int .i64 u4])∧Bel wr w'):=xh (by have:=HUK.o wr uy.o;rw[hus]at this;exact this);have HU2:Hid (∀W,Bel w W→Calls prog 118 #[rb] W (Z.b (.agg #[.int .i64 u0,.int .i64 u1,.int .i64 u2,.int .i64 u3,.int .i64 u4]) W)):=xh (λW hW=>by have:=HUR.o W hW;rw[hus]at this;exact this);go_upto_region 33 with(go_at_call 16;((with_reducible refine aH HU1.o ?_);rintro e3 w3 ⟨rfl,k3⟩;have jP:Hid (Bel wr w3):=xh k3;clear k3))
     have B4:=Blk.new w3 [.int .i64 u0,.int .i64 u1,.int .i64 u2,.int .i64 u3,.int .i64 u4] 23;have k4:Bel wr (w3.alloc (.cells #[.int .i64 u0,.int .i64 u1,.int .i64 u2,.int .i64 u3,.int .i64 u4] 23)):=jP.o.ac _;change Blk (w3.alloc (.cells #[.int .i64 u0,.int .i64 u1,.int .i64 u2,.int .i64 u3,.int .i64 u4] 23)) w3.heap.size _ _ at B4
     generalize w3.alloc (.cells #[.int .i64 u0,.int .i64 u1,.int .i64 u2,.int .i64 u3,.int .i64 u4] 23)=w4 at *
     generalize w3.heap.size=b4 at *
     have c1:=af k4 c1;have HB4:=xh B4;have qh:Hid (Bel w w4):=xh (uy.o.tr k4);clear B4 k4;go_upto_region 34 with(go_at_call 118;((with_reducible refine aH (HU2.o _ qh.o) ?_);rintro e5 w5 ⟨rfl,k5⟩;have pX:Hid (Bel w4 w5):=xh k5;clear k5))
     have B6:=Blk.new w5 [.int .i64 u0,.int .i64 u1,.int .i64 u2,.int .i64 u3,.int .i64 u4] 159;have k6:Bel w4 (w5.alloc (.cells #[.int .i64 u0,.int .i64 u1,.int .i64 u2,.int .i64 u3,.int .i64 u4] 159)):=pX.o.ac _;change Blk (w5.alloc (.cells #[.int .i64 u0,.int .i64 u1,.int .i64 u2,.int .i64 u3,.int .i64 u4] 159)) w5.heap.size _ _ at B6
     generalize w5.alloc (.cells #[.int .i64 u0,.int .i64 u1,.int .i64 u2,.int .i64 u3,.int .i64 u4] 159)=w6 at *
     generalize w5.heap.size=b6 at *
     have B4:=HB4.o.bel k6;have p0:=B4.c 0 rfl;have p1:=B4.c 1 rfl;have p2:=B4.c 2 rfl;have p3:=B4.c 3 rfl;have p4:=B4.c 4 rfl;have q0:=B6.c 0 rfl;have q1:=B6.c 1 rfl;have q2:=B6.c 2 rfl;have q3:=B6.c 3 rfl;have q4:=B6.c 4 rfl;have HF6:Hid (Bel w w6):=xh (qh.o.tr k6);clear B4 B6 k6;go_wp2_with fail
     go_ret
     exact⟨rfl,HF6.o⟩
end
section
open Go.Proofs.Tryz Go.RowKit Go.MapKept Go.Maps Go.Shelf
structure SG(E:XE):Prop where
 inv:rQ (aJ E.T)
 few:E.T.length≤101
def obX(cb:Nat)(live:Bool):List Ob:=if live then[.UX cb,.UX cb,.UX cb,.no,.no,.no,.no,.no]else List.replicate 8 .no
theorem aeg(cb:Nat)(l:Bool):(obX cb l).map Ob.v=Gw cb l:=by cases l<;>rfl
theorem GU(cb:Nat)(l:Bool):(obX cb l).length=8:=by cases l<;>rfl
theorem aeh(cb:Nat)(l:Bool)(j:Nat)(h1:j<(obX cb l).length)(h2:j<(RQ l).length):aae [] (obX cb l)[j] (RQ l)[j]:=by
 have hj:j<8:=by rw[GU]at h1;exact h1
 have key:∀x i,(obX cb l)[j]?=some x→(RQ l)[j]?=some i→aae [] x i:=by
  intro x i e1 e2;obtain rfl|rfl|rfl|rfl|rfl|rfl|rfl|rfl:j=0∨j=1∨j=2∨j=3∨j=4∨j=5∨j=6∨j=7:=by omega
  all_goals (cases l<;>(cases e1;cases e2;first|exact .inl ⟨rfl,rfl⟩|exact .inr ⟨rfl,by decide,rfl⟩))
 exact key _ _ (bT h1) (bT h2)
def GV(E:XE)(D:XD)(p:Xp):uG:=⟨p.pid,p.par,p.st,p.sv,0,p.pc,p.rs.map (Value.int .u64),.map (if p.live then some (D.sp p.pid)else none),(ag p.M).length,jg p.M (ag p.M),D.bl p.pid,obX E.cb p.live⟩
def pbX(E:XE)(D:XD)(Q:QE)(p:Xp):KT:=⟨GV E D p,p.rs,pW p.M,if p.live then Q.pv p.pid else .slice none 0 0,RQ p.live⟩
section
variable {E:XE} {w:World} {ps:List Xp} {ty:List Int} {D:XD} {Q:QE} (hx:eY E) (hp:PX E w ps ty D) (hd:QX E w ps ty Q) (hk:fB E w) (hw:lQ E.l.a.toNat E.l.b.toNat ps)
include hx hp hk hw
theorem Xm{p:Xp}(hps:p∈ps)(hl:p.live=false):ag p.M=[]:=by
 rw[show p.M=yU from funext (hw.dead p hps hl)];exact List.length_eq_zero_iff.1 wI
theorem ab6{p:Xp}(hps:p∈ps):Xn w (GV E D p):=by
 have hr:=hw.reg p hps;have hg:=hw.MH p hps;have hla:=hx.la;refine⟨?_,by simp[GV,hr.1],λv hv=>by obtain⟨z,_,rfl⟩:=List.mem_map.1 hv;rfl,GU _ _,⟨by simp only[GV];omega,by simp only[GV];omega⟩,?_,⟨_,rfl⟩,λW hW=>?_⟩
 ·simp only[GV,aeg]
  exact hp.oC p hps
 ·simp only[GV,Xp.st]
  split<;>omega
 ·simp only[GV]
  cases hl:p.live with
  | true=>
    simp only[if_true]
    exact SH (D.sp p.pid) p.M W ((hp.rE p hps hl).bel hW) (hw.ok p hps)
  | false=>
    simp only[Bool.false_eq_true,if_false]
    rw[Xm hx hp hk hw hps hl];refine(MX W).mono ?_;rintro e w' ⟨rfl,hb⟩;exact⟨_,rfl,World.ownsRow_nil _ _ _ _,hb⟩
theorem ab7:Calls prog 26 #[E.kb] w λe w'=>∃v r,e=.returned v∧r.length=(ps.map (GV E D)).length∧Bel w w'∧w'.ownsRow w.heap.size 42 24 v (ps.map (GV E D)).length (jD (ps.map (GV E D)) r)∧iZ w' w.heap.size (ps.map (GV E D)) r w'.heap.size:=by
 obtain⟨kv,hm,hpm⟩:=hp.map;have hlen:=hw.len;have hla:=hx.la;refine MZ E.kb _ _ _ _ _ E.pm E.tb E.ob E.cb (aI ps:Nat) D.now _ (ps.map (GV E D)) kv w hp.hk hm ?_ ?_ (by simp;omega) λx hx1=>?_
 ·rw[List.map_map]
  exact hpm
 ·rw[List.map_map]
  have h2:=hw.sort;rw[List.pairwise_map]at h2⊢;exact h2.imp λh=>by simp only[Function.comp_apply,GV];omega
 ·obtain⟨p,hps,rfl⟩:=List.mem_map.1 hx1
  exact ab6 hx hp hk hw hps
end
theorem aaf(E:XE)(hx:eY E)(n:Nat)(w:World)(h:XI E n w):Calls prog 69 #[E.wb] w (Z.b (.bool true) w):=by
 obtain⟨ps,ty,D,Q,hwf,hp,hd,⟨p,q,c,d,L,lC⟩,_⟩:=h.st;have hk:=h.kp;have hps:=ab7 hx hp hk hwf;have hlen:=qlen hx hd hk hwf;have hPS:(ps.map (pbX E D Q)).map KT.x=ps.map (GV E D):=by
  rw[List.map_map];rfl
 have hpl:(ps.map (pbX E D Q)).length=ps.length:=jE _;refine Jy E.wb E.tk E.rb Q.g Q.gc _ _ _ Q.kv.ov (ps.map (pbX E D Q)) [] w lC.blk ?_ (by rw[hpl];exact qc5 hx hd hk hwf) (by rw[hd.dk.blk.cell];rfl) ?_ (by simp) (by omega) ?_ (λi z hi=>?_) λz hz=>?_
 ·rw[hPS]
  refine(Na E.tk E.kb (λv w'=>∃r:List (Value×Value),r.length=(ps.map (GV E D)).length∧Bel w w'∧w'.ownsRow w.heap.size 42 24 v (ps.map (GV E D)).length (jD (ps.map (GV E D)) r)∧iZ w' w.heap.size (ps.map (GV E D)) r w'.heap.size) w (hx.oz hk) (hps.mono ?_)).mono ?_
  ·rintro e w' ⟨v,r,rfl,h1,h2,h3,h4⟩
   exact⟨v,rfl,r,h1,h2,h3,h4⟩
  ·rintro e w' ⟨v,rfl,r,h1,h2,h3,h4⟩
   exact⟨v,r,rfl,h1,h2,h3,h4⟩
 ·rw[hd.ov]
  exact⟨none,0,rfl,λh=>absurd h (by simp)⟩
 ·obtain⟨p,r,e,_⟩:=hwf.head
  rw[hpl,e];simp
 ·rw[fA]at hi
  obtain⟨p,hp1,rfl⟩:=Option.map_eq_some_iff.1 hi;intro j u hj;have ab8:=(hwf.reg p (List.mem_of_getElem? hp1)).1;have hj2:(dL p (Q.pv p.pid))[j]?=some u:=hj;have Nb:j<31:=by
   have:=(bV hj2).1;rw[fJ ab8]at this;exact this
  rw[hd.row.cell,hd.at hwf hp1 Nb];exact hj2
 ·obtain⟨p,hps1,rfl⟩:=List.mem_map.1 hz
  have ab8:=(hwf.reg p hps1).1;refine⟨ab8,rfl,(GX _).symm,(aag _).symm,ab9 _,acd (hwf.ok p hps1),?_,GU _ _,Jm _,λj h1 h2=>aeh _ _ _ _ _⟩;show Rd w (if p.live then Q.pv p.pid else .slice none 0 0) (pW p.M).length ((pW p.M).flatMap λq=>ak q.1 q.2)
  rw[aah,GX];cases hl:p.live with
  | true=>
    rw[if_pos rfl];obtain⟨p2,c2,e,h1⟩:=(hd.pW p hps1 hl).pw;refine⟨p2,c2,e,λh0=>?_⟩;obtain⟨g,cs,rfl,hb,hc⟩:=h1 h0;exact⟨g,rfl,hb.lt,λj hj=>by rw[hb.cell];exact hc j hj⟩
  | false=>
    have h0:=Xm hx hp hk hwf hps1 hl;rw[if_neg (by simp)];unfold aQ;rw[h0];exact⟨none,0,rfl,λh=>absurd h (by simp)⟩
theorem aai(E:XE)(hx:eY E)(hpl:SG E)(n:Nat)(w:World)(h:XI E n w):Calls prog 70 #[E.wb] w (Z.b (.bool true) w):=by
 obtain⟨ps,ty,D,Q,hwf,hp,hd,⟨p,q,c,d,L,lC⟩,_⟩:=h.st;have hk:=h.kp;have hTL:=hx.sk;have hinv:=hpl.inv;have h5:=hx.aa7 hk;have hLT:E.L.length=E.T.length:=by
  have:=congrArg List.length hTL
  simpa [iD,aJ]using this
 have hT1:=hpl.few;have hdown:=h5.tree.down;have hperm:=Es (aJ E.T) hdown hinv.conn;obtain⟨g,cap,hiv,PR,_⟩:=hd.dk.tree;have h10:=hd.dk.one;have hsum:cZ (iD E.L)≤100000:=by rw[hTL];exact hx.bb
 have hsb:∀n∈E.L,n.byt.length≤1000000:=λn hn=>by
  have h1:n.sk.byt.length≤cZ (iD E.L):=by
   unfold cZ;exact lD (List.mem_map.2 ⟨n.sk,List.mem_map.2 ⟨n,hn,rfl⟩,rfl⟩)
  have:n.sk.byt=n.byt:=rfl;rw[this]at h1;omega
 have hbs:(aS E.L).sum=cZ (aJ E.T):=by rw[GI,hTL]
 obtain⟨kv,hm,hpm⟩:=hp.map;have hkl:kv.length=ps.length:=by rw[hpm.length_eq,jE]
 refine SK E.wb E.tk E.rb g cap _ _ _ E.L w lC.blk ?_ PR (by omega) (by omega) (Xo (hTL▸hdown)) (λi n hi h0=>?_) (λn hn=>?_) (λn hn=>⟨(hd.dk.aS n hn).1,hsb n hn⟩) [((ps.length:Nat):Int),((aI ps:Nat):Int),((0:Nat):Int),(E.T.length:Int),(cZ (aJ E.T):Int)] rfl (λW hW=>?_) (λW hW=>?_)
 ·refine(Nc E.tk E.kb (λv w'=>Bel w w'∧∃R,Fit E.L R∧FRows w' w.heap.size v R∧∀r∈R,r.byt.length≤1000000) w (hx.oz hk) (Nh E.kb E.tb _ w (hp.hk.cell 6) ((Jz E.tb E.A E.T _ _ w h5 (by omega) (aaj h5.tree hinv.conn) hinv.size (by have e:=hperm.length_eq;have e2:(aJ E.T).length=E.T.length:=(by simp[aJ]);rw[e2]at e;simp at e;omega)).mono ?_)))
  rintro e w' ⟨v,rfl,⟨R,hR1,hR2,hR3⟩,hbel⟩;refine⟨v,rfl,hbel,R,ace h5.tree hinv.conn hTL hR1 hR2,hR3,λr hr=>?_⟩;have hmem:=hR1.mem_iff.1 (List.mem_map.2 ⟨r,hr,rfl⟩);obtain⟨x,_,hx⟩:=List.mem_map.1 hmem;have e4:r.byt=((E.T[x-1]?).map Pn.byt).getD []:=(congrArg (λq=>q.2.2) hx).symm;cases hq:E.T[x-1]? with
  | none=>rw[e4,hq];exact Nat.zero_le _
  | some p=>
    rw[e4,hq];have h1:p.nd.byt.length≤cZ (aJ E.T):=by
     unfold cZ;exact lD (List.mem_map.2 ⟨p.nd,List.mem_map.2 ⟨p,List.mem_iff_getElem?.2 ⟨_,hq⟩,rfl⟩,rfl⟩)
    have h2:=h5.small;have h3:=h5.mb;show p.nd.byt.length≤_
    omega
 ·exact hinv.conn i n.sk (Nj hTL hi) h0
 ·obtain⟨k,hk⟩:=List.mem_iff_getElem?.1 hn
  exact hinv.size n.sk (List.mem_iff_getElem?.2 ⟨k,Nj hTL hk⟩)
 ·refine SL E.tk E.kb _ _ _ _ _ (λ_=>True) W ((hx.oz hk).bel hW) λW2 hW2=>?_
  have:=SN E.kb _ _ _ _ _ E.pm E.tb E.ob E.cb _ _ _ kv E.A _ ((0:Nat):Int) _ W2 ((hp.hk.bel hW).bel hW2) ((hm.bel hW).bel hW2) ((h5.block.bel hW).bel hW2) (((hx.ad4 hk).bel hW).bel hW2);rw[hkl]at this;exact this
 ·have hu:=EJ hx (hd.bel hW) (hk.tr (Keep.of_bel _ hW)) hwf W (Bel.refl W)
  rw[hbs,hLT]at hu;exact hu
end
end Go.Proofs.YtcnjjchlebmfiaaGreatDoor
