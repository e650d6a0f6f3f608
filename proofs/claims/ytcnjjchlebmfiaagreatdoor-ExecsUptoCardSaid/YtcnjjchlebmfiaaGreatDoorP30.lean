/-.-/
import Derived.Test.YtcnjjchlebmfiaaGreatDoorP28
import Derived.Test.YtcnjjchlebmfiaaGreatDoorP29
set_option linter.all false
set_option maxRecDepth 100000
set_option maxHeartbeats 16000000
namespace Go.Proofs.YtcnjjchlebmfiaaGreatDoor
section
open Go.RowKit Go.MapKept Go.Maps
theorem qm{w:World}{base:Nat}{v:Value}{m:ax}(h:w.ownsRow base 260 258 v (ag m).length (aQ m))(h0:0<(ag m).length):UW w v m∧∀g,v.ownBlock=some g→base≤g:=by
 obtain⟨p,c,rfl,hnc,_,hp⟩:=aG h;obtain⟨g,rfl,hg,_,hc,_⟩:=hp.resolve_left (by omega);obtain⟨_,cs,hb⟩:=row_blk h (show(Value.slice (g,0) (ag m).length c).ownBlock=some g from rfl);refine⟨⟨⟨_,c,rfl,λ_=>⟨g,cs,rfl,hb,λj hj=>?_⟩⟩,g,_,c,rfl,hnc,cs,hb⟩,λg2 e=>?_⟩
 ·rw[←hb.cell]
  exact hc j hj
 ·cases e
  exact hg
theorem Sm{Q Q':QE}{ps:List Xp}{i:Nat}{p q:Xp}{v:Value}(hi:ps[i]?=some p)(h31:∀x∈ps,x.rs.length=16)(hn:∀j x,j≠i→ps[j]?=some x→Q'.pv x.pid=Q.pv x.pid)(hr:dL q (Q'.pv q.pid)=(dL p (Q.pv p.pid)).set 22 v):aZ Q' (ps.set i q)=(aZ Q ps).set (i*31+22) v:=by
 unfold aZ
 induction ps generalizing i with
 | nil=>cases hi
 | cons a l ih=>
   have ha:=fJ (h31 a (List.mem_cons_self ..)) (Q.pv a.pid);cases i with
   | zero=>
     simp only[List.getElem?_cons_zero,Option.some.injEq]at hi
     subst hi;rw[List.set_cons_zero,List.flatMap_cons,List.flatMap_cons,hr,List.set_append_left _ _ (by omega),Nat.zero_mul,Nat.zero_add];congr 1
     apply jf
     intro x hx;obtain⟨j,hj⟩:=List.getElem?_of_mem hx;rw[hn (j+1) x (by omega) (by simpa using hj)]
   | succ i=>
     rw[List.getElem?_cons_succ]at hi;rw[List.set_cons_succ,List.flatMap_cons,List.flatMap_cons,ih hi (λx hx=>h31 x (List.mem_cons_of_mem _ hx)) (λj x hj hx=>hn (j+1) x (by omega) (by simpa using hx)),List.set_append_right _ _ (by omega),ha,hn 0 a (by omega) rfl];congr 2
     omega
section
variable {E:XE} {w w':World} {ps:List Xp} {ty:List Int} {Q:QE} (hx:eY E) (hq:QX E w ps ty Q) (hk:fB E w) (hw:lQ E.l.a.toNat E.l.b.toNat ps)
include hx hq hk hw
theorem GL{p:Xp}(hps:p∈ps)(hl:p.live=true):0<(ag p.M).length:=by
 obtain⟨y,_,hy⟩:=hw.live p hps hl;have Js:y<256:=by
  rcases Nat.lt_or_ge y 256 with c|c
  ·exact c
  ·rw[(hw.ok p hps).below y c]at hy;cases hy
 exact List.length_pos_of_mem (kH.2 ⟨Js,hy⟩)
theorem qbk{i:Nat}{p:Xp}(hi:ps[i]?=some p)(hl:p.live=true):ad6 w E.rb Q.g (i*31) (Q.kv.cells Q.iv E.L.length) Q.cs E.l.b p.M (Q.pv p.pid):=by
 have hps:=List.mem_of_getElem? hi;have hlb:=hx.lb;refine⟨hq.dk.blk,by rw[←hq.lim.2];rfl,hq.row,?_,(hq.pW p hps hl).pw,hw.ok p hps,⟨by omega,by omega⟩,hw.live p hps hl,λp2 n c e=>?_⟩
 ·rw[hq.at hw hi (by omega),wK (hw.reg p hps).1,hl]
  rfl
 ·obtain⟨g,n2,c2,e2,h2,_⟩:=(hq.pW p hps hl).sl
  rw[e]at e2;cases e2
  exact h2
theorem Jt{i:Nat}{p:Xp}(hi:ps[i]?=some p)(hl:p.live=true)(f a b:Int)(t:ByteArray)(lp dp:Option Addr)(ln lc dn dc:Nat)(h:(f=6∧(a<0∨64<a))∨(f=7∧∃k tp:Nat,a=k∧k≤64∧kT p.M tp∧(E.l.b.toNat<aI ps+k∨254<tp+k))):rO E f p.pid 17 a b t lp dp ln lc dn dc w:=by
 have hlen:=qlen hx hq hk hw;have hlb:=hx.lb;have hfr:=hw.fr;refine(Xb E.rb p.pid a b t lp dp ln lc dn dc Q.g Q.gc ps.length i (λn f' W=>n=0∧f'=f∧Bel w W) w (qc5 hx hq hk hw) (bV hi).1 (by omega) (uZ hx hq hk hw hi hl) (mg hx hq hk hw hi) λW hW=>?_).mono ?_
 ·rcases h with⟨rfl,hb⟩|⟨rfl,k,tp,rfl,Ba,htp,hf⟩
  ·refine(Sr a hb).mono ?_
   rintro e w' ⟨rfl,h1⟩;exact⟨_,_,rfl,rfl,rfl,hW.tr h1⟩
  ·have uj:=hq.bel hW
   have hkW:=hk.tr (Keep.of_bel _ hW);refine(PK (qbk hx uj hkW hw hi hl) k tp Ba htp ps.length (aI ps) 0 E.L.length (aS E.L).sum (by omega) (EJ hx uj hkW hw)).mono λe w' h1=>?_;obtain⟨h2,h3⟩:=h1.1 (by omega);exact⟨_,_,h2,rfl,rfl,hW.tr h3⟩
 ·rintro e w' ⟨n,f',rfl,rfl,rfl,h1⟩
  exact⟨rfl,h1⟩
theorem QX.aba{i:Nat}{p:Xp}(hi:ps[i]?=some p)(hl:p.live=true)(q:Xp)(e1:q.pid=p.pid)(e2:q.live=true)(v:Value)(cs':List Value)(k:Keep (λy=>y=Q.g) w w')(hv:UW w' v q.M)(hvb:∀g,v.ownBlock=some g→w.heap.size≤g)(hB:Blk w' Q.g cs' 167)(hcl:cs'.length=Q.cs.length)
 (hrows:cs'.take (ps.length*31)=aZ {Q with cs:=cs',pv:=λj=>if j=p.pid then v else Q.pv j} (ps.set i q)):WW E ty ps Q (ps.set i q) w.heap.size w {Q with cs:=cs',pv:=λj=>if j=p.pid then v else Q.pv j} w':=by
 have hps:=List.mem_of_getElem? hi;have hblk:∀y cs t,Blk w y cs t→t≠167→¬y=Q.g:=λy cs t hb n1=>hb.ne hq.row n1;have hbuf:∀{v:Value} {L:List Int},Buf w v L→Buf w' v L:=λhb=>hb.keep k λg hg=>by
  obtain⟨_,hb2⟩:=hb.blk hg;exact hblk _ _ _ hb2 (by decide)
 have hmem:∀x∈ps.set i q,x=q∨(x∈ps∧x.pid≠p.pid):=λx hx=>by
  obtain⟨j,hj⟩:=List.getElem?_of_mem hx;by_cases e:j=i
  ·subst e
   rw[List.getElem?_set_self (bV hi).1]at hj;exact .inl (Option.some.inj hj).symm
  ·rw[List.getElem?_set_ne (λh=>e h.symm)]at hj
   exact .inr ⟨List.mem_of_getElem? hj,λe2=>e (hw.uniq hj hi e2)⟩
 have foot:∀y,rM E (ps.set i q) {Q with cs:=cs',pv:=λj=>if j=p.pid then v else Q.pv j} y→rM E ps Q y∨w.heap.size≤y:=λy hy=>by
  rcases hy with e|e|e|e|⟨r,hr1,hr2,hr3⟩
  ·exact .inl (.inl e)
  ·exact .inl (.inr (.inl e))
  ·exact .inl (.inr (.inr (.inl e)))
  ·exact .inl (.inr (.inr (.inr (.inl e))))
  ·rcases hmem r hr1 with rfl|⟨hr4,hn⟩
   ·simp only[e1,if_true]at hr3
    exact .inr (hvb y hr3)
   ·simp only[if_neg hn]at hr3
    exact .inl (.inr (.inr (.inr (.inr ⟨r,hr4,hr2,hr3⟩))))
 refine⟨⟨hq.dk.WU k (hblk _ _ _ hq.dk.blk (by decide)) (λy cs hb=>hblk y cs _ hb (by decide)) (λn hn g hg=>GK hx hq hk hw hn hg hq.row (by decide)),hq.lim,by rw[List.length_set];exact hq.pv,by rw[List.length_set];exact hq.gc,hq.ov,hq.xv,hB,by rw[List.length_set];exact hrows,by rw[List.length_set];show _≤cs'.length;rw[hcl];exact hq.len,λx hx1 hxl=>?_,λx hx1 y hy1 hxl hyl g hg1 hg2=>?_,hbuf hq.tb,hbuf hq.ub,hq.ap,λy hy=>?_⟩,k.mono λy hy=>.inr (.inl hy),foot⟩
 ·rcases hmem x hx1 with rfl|⟨hx2,hn⟩
  ·simp only[e1,if_true]
   exact hv
  ·simp only[if_neg hn]
   exact(hq.pW x hx2 hxl).keep k λg hg=>by
    obtain⟨_,hb2⟩:=(hq.pW x hx2 hxl).own hg;exact hblk _ _ _ hb2 (by decide)
 ·rcases hmem x hx1 with rfl|⟨hx2,hn⟩<;>rcases hmem y hy1 with rfl|⟨hy2,hn2⟩
  ·rfl
  ·simp only[e1,if_true]at hg1
   simp only[if_neg hn2]at hg2
   have h1:=hvb g hg1;obtain⟨_,hb2⟩:=(hq.pW y hy2 hyl).own hg2;have:=hb2.lt;omega
  ·simp only[e1,if_true]at hg2
   simp only[if_neg hn]at hg1
   have h1:=hvb g hg2;obtain⟨_,hb2⟩:=(hq.pW x hx2 hxl).own hg1;have:=hb2.lt;omega
  ·simp only[if_neg hn]at hg1
   simp only[if_neg hn2]at hg2
   exact hq.inj x hx2 y hy2 hxl hyl g hg1 hg2
 ·rcases foot y hy with h1|h1
  ·exact hq.lo y h1
  ·exact .inl (bU hk.size h1)
theorem ab1{i:Nat}{p:Xp}(hi:ps[i]?=some p)(hl:p.live=true)(k tp:Nat)(b:Int)(t:ByteArray)(lp dp:Option Addr)(ln lc dn dc:Nat)(Ba:k≤64)(htp:kT p.M tp)(h1:aI ps+k≤E.l.b.toNat)(h2:tp+k≤254):Jq E ty ps Q (ps.set i {p with M:=dD p.M tp k}) (tp*256:Nat) 0 [] p.pid 17 k b t lp dp ln lc dn dc w:=by
 have hlen:=qlen hx hq hk hw;have hlb:=hx.lb;have hfr:=hw.fr;have hps:=List.mem_of_getElem? hi;refine(Xb E.rb p.pid k b t lp dp ln lc dn dc Q.g Q.gc ps.length i (λn f' W=>n=(tp*256:Nat)∧f'=0∧∃Q',WW E ty ps Q (ps.set i {p with M:=dD p.M tp k}) w.heap.size w Q' W) w (qc5 hx hq hk hw) (bV hi).1 (by omega) (uZ hx hq hk hw hi hl) (mg hx hq hk hw hi) λW hW=>?_).mono ?_
 ·have uj:=hq.bel hW
  have hkW:=hk.tr (Keep.of_bel _ hW);refine(PK (qbk hx uj hkW hw hi hl) k tp Ba htp ps.length (aI ps) 0 E.L.length (aS E.L).sum (by omega) (EJ hx uj hkW hw)).mono λe w' h3=>?_;obtain⟨e1,v,hrow,hB,kk⟩:=h3.2 (by omega) h2;have hgl:=EE htp h2;rw[←hgl]at hrow;have hp0:=GL hx hq hk hw hps hl;obtain⟨hv,hvb⟩:=qm hrow (by omega);refine⟨_,_,e1,rfl,rfl,{Q with cs:=Q.cs.set (i*31+22) v,pv:=λj=>if j=p.pid then v else Q.pv j},?_⟩;have hrows:(Q.cs.set (i*31+22) v).take (ps.length*31)=aZ {Q with cs:=Q.cs.set (i*31+22) v,pv:=λj=>if j=p.pid then v else Q.pv j} (ps.set i {p with M:=dD p.M tp k}):=by
   have hr1:dL {p with M:=dD p.M tp k} v=(dL p (Q.pv p.pid)).set 22 v:=by
    obtain⟨r0,r1,r2,r3,r4,r5,r6,r7,r8,r9,r10,r11,r12,r13,yf,vM,e3⟩:=Bc (hw.reg p hps).1;unfold dL qN Xp.st;simp only[e3,hl]
    rfl
   have hr2:=Sm (Q:=Q) (Q':={Q with cs:=Q.cs.set (i*31+22) v,pv:=λj=>if j=p.pid then v else Q.pv j}) (q:={p with M:=dD p.M tp k}) (v:=v) hi (λx hx1=>(hw.reg x hx1).1) (λj x hj hxj=>if_neg λe=>hj (hw.uniq hxj hi e)) (by
    show dL {p with M:=dD p.M tp k} (if p.pid=p.pid then v else Q.pv p.pid)=_
    rw[if_pos rfl];exact hr1)
   rw[hr2,←hq.rows,List.take_set]
  have hd:=QX.aba hx uj hkW hw hi hl {p with M:=dD p.M tp k} rfl hl v (Q.cs.set (i*31+22) v) kk hv hvb hB (List.length_set ..) hrows;exact⟨hd.qx,(Keep.of_bel _ hW).tr hd.kept,λq hq1=>(hd.new q hq1).imp id λh=>bU hW.size h⟩
 ·rintro e w' ⟨n,f',rfl,rfl,rfl,Q',h3⟩
  exact⟨_,_,_,_,_,_,rfl,rfl,rfl,rfl,rfl,Q',h3,⟨λ_ h=>(by cases h),λh=>absurd h (by simp)⟩,λ_ _ e=>(by cases e)⟩
end
section
variable {E:XE} {w w':World} {ps:List Xp} {ty:List Int} {Q:QE} (hx:eY E) (hq:QX E w ps ty Q) (hk:fB E w) (hw:lQ E.l.a.toNat E.l.b.toNat ps)
include hx hq hk hw
theorem abb(j:Nat)(u:Value)(h:(aZ Q ps)[j]?=some u):w.cell? (Q.g,j)=some u:=by
 rw[←hq.rows]at h;rw[hq.row.cell];have hj:=(bV h).1;rw[List.getElem?_take_of_lt (by rw[List.length_take]at hj;omega)]at h;exact h
theorem ad7:∀u∈aZ Q ps,u.oneCell'=true:=λu hu=>by
 obtain⟨p,hps,hu⟩:=List.mem_flatMap.1 hu;cases hl:p.live with
 | true=>exact Jn (hq.pW p hps hl).one u hu
 | false=>
   have:dL p (Q.pv p.pid)=dL p (.slice none 0 0):=by unfold dL;rw[hl];rfl
   rw[this]at hu;exact Jn rfl u hu
theorem oD{i:Nat}{p:Xp}(hi:ps[i]?=some p){j:Nat}(hj:j<31):(aZ Q ps)[i*31+j]?=(dL p (Q.pv p.pid))[j]?:=by
 have h2:=fP (λp=>dL p (Q.pv p.pid)) 31 ps (λp hp=>fJ (hw.reg p hp).1 _) i j hj;rw[hi]at h2;exact h2
theorem qfk{i:Nat}{p:Xp}(hi:ps[i]?=some p)(hl:p.live=true):Z7 w E.rb Q.g Q.gc i (Q.kv.cells Q.iv E.L.length) (aZ Q ps) (nP ps) p.pid E.l.a E.l.b p.M (Q.pv p.pid):=by
 have hps:=List.mem_of_getElem? hi;have hlen:=qlen hx hq hk hw;have hla:=hx.la;have hlb:=hx.lb;have hpl:(nP ps).length=ps.length:=jE _;refine⟨hq.dk.blk,by rw[←hq.lim.1];rfl,by rw[←hq.lim.2];rfl,by rw[hpl,←hq.pv];rfl,λj x hj=>?_,by omega,by rw[hpl];exact hq.gc,by rw[hpl];exact pK hw,abb hx hq hk hw,ad7 hx hq hk hw,hq.row.ne hq.dk.blk (by decide),by rw[hpl];exact(bV hi).1,?_,?_,(hq.pW p hps hl).pw,GL hx hq hk hw hps hl,hw.ok p hps,⟨by omega,by omega⟩,⟨by omega,by omega⟩⟩
 ·obtain⟨q,hq2,rfl⟩:=pM hj
  rw[show j*31=j*31+0 from rfl,oD hx hq hk hw hq2 (by omega)];exact(kG _).1
 ·rw[show i*31=i*31+0 from rfl,oD hx hq hk hw hi (by omega)]
  exact(kG _).1
 ·rw[oD hx hq hk hw hi (by omega),wK (hw.reg p hps).1,hl]
  rfl
theorem EM{i:Nat}{p:Xp}(hi:ps[i]?=some p)(hl:p.live=true)(f a b:Int)(t:ByteArray)(lp dp:Option Addr)(ln lc dn dc:Nat)(h:(f=19∧E.l.a.toNat≤ps.length)∨(f=7∧ps.length<E.l.a.toNat∧E.l.b.toNat<aI ps+p.n)):rO E f p.pid 1 a b t lp dp ln lc dn dc w:=by
 have hlen:=qlen hx hq hk hw;have hla:=hx.la;have hlb:=hx.lb;have hfr:=hw.fr;have hpl:(nP ps).length=ps.length:=jE _;refine(abd E.rb p.pid a b t lp dp ln lc dn dc Q.g Q.gc ps.length i (λn f' W=>n=0∧f'=f∧Bel w W) w (qc5 hx hq hk hw) (bV hi).1 (by omega) (uZ hx hq hk hw hi hl) (mg hx hq hk hw hi) λW hW=>?_).mono ?_
 ·have uj:=hq.bel hW
  have hkW:=hk.tr (Keep.of_bel _ hW);have hfk:=qfk hx uj hkW hw hi hl;rcases h with⟨rfl,hf⟩|⟨rfl,hf1,hf2⟩
  ·refine(MR hfk (by omega)).mono ?_
   rintro e w' ⟨rfl,h1⟩;exact⟨_,_,rfl,rfl,rfl,hW.tr h1⟩
  ·refine(Su hfk (by omega) ps.length (aI ps) 0 E.L.length (aS E.L).sum (by omega) (EJ hx uj hkW hw) (by unfold Xp.n at hf2;omega)).mono ?_
   rintro e w' ⟨rfl,h1⟩;exact⟨_,_,rfl,rfl,rfl,hW.tr h1⟩
 ·rintro e w' ⟨n,f',rfl,rfl,rfl,h1⟩
  exact⟨rfl,h1⟩
theorem Sv{i:Nat}{p:Xp}(hi:ps[i]?=some p)(hl:p.live=true)(h1:p.pid=1)(a b:Int)(t:ByteArray)(lp dp:Option Addr)(ln lc dn dc:Nat):rO E 18 p.pid 3 a b t lp dp ln lc dn dc w:=by
 have hlen:=qlen hx hq hk hw;exact ab2 E.rb p.pid a b t lp dp ln lc dn dc Q.g Q.gc ps.length i w (qc5 hx hq hk hw) (bV hi).1 (by omega) (uZ hx hq hk hw hi hl) (by omega) (mg hx hq hk hw hi)
end
theorem MS{α:Type}{cs xs:List α}(h:∀j,j<xs.length→cs[j]?=xs[j]?):cs.take xs.length=xs∧xs.length≤cs.length:=by
 have hl:xs.length≤cs.length:=by
  rcases Nat.eq_zero_or_pos xs.length with e|e
  ·omega
  ·have h1:=h (xs.length-1) (by omega)
   rw[bT (l:=xs) (by omega)]at h1;have:=(bV h1).1;omega
 refine⟨List.ext_getElem? λj=>?_,hl⟩;by_cases c:j<xs.length
 ·rw[List.getElem?_take_of_lt c]
  exact h j c
 ·rw[List.getElem?_eq_none (by simp;omega),List.getElem?_eq_none (by omega)]
section
variable {E:XE} {w w':World} {ps:List Xp} {ty:List Int} {Q:QE} (hx:eY E) (hq:QX E w ps ty Q) (hk:fB E w) (hw:lQ E.l.a.toNat E.l.b.toNat ps)
include hx hq hk hw
theorem QX.moved(ps':List Xp)(pv':Nat→Value)(v:Value)(hrow:w'.ownsRow w.heap.size 167 31 v ps'.length (aZ {Q with pv:=pv'} ps'))(h0:0<ps'.length)(hrl:(aZ {Q with pv:=pv'} ps').length=ps'.length*31)(hB:Blk w' E.rb ((Q.kv.cells Q.iv E.L.length).set 5 v) 174)(k:Keep (λq=>q=E.rb) w w')
 (uF:∀p∈ps',p.live=true→UW w' (pv' p.pid) p.M)(hinj:∀p∈ps',∀q∈ps',p.live=true→q.live=true→∀g,(pv' p.pid).ownBlock=some g→(pv' q.pid).ownBlock=some g→p.pid=q.pid)(hnew:∀p∈ps',p.live=true→∀g,(pv' p.pid).ownBlock=some g→rM E ps Q g∨w.heap.size≤g):∃Q',WW E ty ps Q ps' w.heap.size w Q' w':=by
 obtain⟨p,c,rfl,hnc,_,hp⟩:=aG hrow;obtain⟨g,rfl,hg,_,hc,_⟩:=hp.resolve_left (by omega);obtain⟨_,cs,hb⟩:=row_blk hrow (show(Value.slice (g,0) ps'.length c).ownBlock=some g from rfl);obtain⟨h1,h2⟩:=MS (cs:=cs) (xs:=aZ {Q with pv:=pv'} ps') λj hj=>by rw[←hb.cell];exact hc j hj
 rw[hrl]at h1 h2;have hblk:∀y cs t,Blk w y cs t→t≠174→¬y=E.rb:=λy cs t hb n1=>hb.ne hq.dk.blk n1;have hbuf:∀{v:Value} {L:List Int},Buf w v L→Buf w' v L:=λhb=>hb.keep k λg hg=>by
  obtain⟨_,hb2⟩:=hb.blk hg;exact hblk _ _ _ hb2 (by decide)
 have foot:∀y,rM E ps' {Q with kv:={Q.kv with pv:=.slice (g,0) ps'.length c},g:=g,gc:=c,cs:=cs,pv:=pv'} y→rM E ps Q y∨w.heap.size≤y:=λy hy=>by
  rcases hy with e|e|e|e|⟨r,hr1,hr2,hr3⟩
  ·exact .inl (.inl e)
  ·exact .inr (by rw[e];exact hg)
  ·exact .inl (.inr (.inr (.inl e)))
  ·exact .inl (.inr (.inr (.inr (.inl e))))
  ·exact hnew r hr1 hr2 y hr3
 refine⟨{Q with kv:={Q.kv with pv:=.slice (g,0) ps'.length c},g:=g,gc:=c,cs:=cs,pv:=pv'},⟨⟨hB,xR hq.dk.row k λy cs hb=>hblk y cs _ hb (by decide),λn hn=>⟨(hq.dk.aS n hn).1.keep k λg2 hg2=>GK hx hq hk hw hn hg2 hq.dk.blk (by decide),(hq.dk.aS n hn).2⟩,hq.dk.few,hq.dk.one⟩,hq.lim,rfl,hnc,hq.ov,hq.xv,hb,h1,h2,uF,hinj,hbuf hq.tb,hbuf hq.ub,hq.ap,λy hy=>?_⟩,k.mono λy hy=>.inl hy,foot⟩;rcases foot y hy with h3|h3
 ·exact hq.lo y h3
 ·exact .inl (bU hk.size h3)
end
theorem lu{Q:QE}{ps:List Xp}(h:∀x∈ps,x.rs.length=16){A:Nat}(hA:A≤ps.length):(aZ Q ps).take (A*31)=aZ Q (ps.take A)∧(aZ Q ps).drop (A*31)=aZ Q (ps.drop A):=by
 have h1:aZ Q ps=aZ Q (ps.take A)++aZ Q (ps.drop A):=by
  unfold aZ;rw[←List.flatMap_append,List.take_append_drop]
 have h2:(aZ Q (ps.take A)).length=A*31:=by
  unfold aZ;rw[flat_length _ 31 _ λp hp=>fJ (h p (List.mem_of_mem_take hp)) _,List.length_take,Nat.min_eq_left hA]
 rw[h1,List.take_left' h2,List.drop_left' h2];exact⟨rfl,rfl⟩
theorem Ju{Q Q':QE}{ps:List Xp}(h:∀x∈ps,Q'.pv x.pid=Q.pv x.pid):aZ Q' ps=aZ Q ps:=by
 unfold aZ;exact jf λx hx=>by rw[h x hx]
section
variable {E:XE} {w w':World} {ps:List Xp} {ty:List Int} {Q:QE} (hx:eY E) (hq:QX E w ps ty Q) (hk:fB E w) (hw:lQ E.l.a.toNat E.l.b.toNat ps)
include hx hq hk hw
theorem Z8{i:Nat}{p:Xp}(hi:ps[i]?=some p)(hl:p.live=true)(a b:Int)(t:ByteArray)(lp dp:Option Addr)(ln lc dn dc:Nat)(r:Nat)(hf:ps.length<E.l.a.toNat)(hr1:1≤r)(hr:r≤E.l.a.toNat)(hA:r-1≤ps.length)(hin:∀j,1≤j→j<r→∃p,ps[j-1]?=some p∧p.pid=j)(hne:∀j p,ps[j]?=some p→p.pid≠r∧(j<r-1→p.pid<r)∧(r-1≤j→r<p.pid))(hu:aI ps+p.n≤E.l.b.toNat):Jq E ty ps Q (ps.take (r-1)++{p with pid:=r,par:=p.pid}::ps.drop (r-1)) r 0 [] p.pid 1 a b t lp dp ln lc dn dc w:=by
 have hlen:=qlen hx hq hk hw;have hla:=hx.la;have hlb:=hx.lb;have hfr:=hw.fr;have hps:=List.mem_of_getElem? hi;have hpl:(nP ps).length=ps.length:=jE _;have hnr:∀q∈ps,q.pid≠r:=λq hq1=>by
  obtain⟨j,hj⟩:=List.getElem?_of_mem hq1;exact(hne j q hj).1
 obtain⟨c,hc⟩:∃c:Xp,c={p with pid:=r,par:=p.pid}:=⟨_,rfl⟩;rw[←hc];have c1:c.pid=r:=by rw[hc]
 have c2:c.live=true:=by rw[hc];exact hl
 have c3:c.M=p.M:=by rw[hc]
 refine(abd E.rb p.pid a b t lp dp ln lc dn dc Q.g Q.gc ps.length i (λn f' W=>n=r∧f'=0∧∃Q',WW E ty ps Q (ps.take (r-1)++c::ps.drop (r-1)) w.heap.size w Q' W) w (qc5 hx hq hk hw) (bV hi).1 (by omega) (uZ hx hq hk hw hi hl) (mg hx hq hk hw hi) λW hW=>?_).mono ?_
 ·have uj:=hq.bel hW
  have hkW:=hk.tr (Keep.of_bel _ hW);refine(Xc (qfk hx uj hkW hw hi hl) (by omega) ps.length (aI ps) 0 E.L.length (aS E.L).sum (by omega) (EJ hx uj hkW hw) (by unfold Xp.n at hu;omega) r (r-1) hr1 (by omega) (λj h1 h2=>?_) (λy hy=>?_) (by omega) (λj y h1 h2=>?_) (λy h2=>?_)).mono ?_
  ·obtain⟨q,hq2,e⟩:=hin j h1 h2
   refine⟨j-1,by rw[Jo hq2,e],λk2 y h3 h4=>?_⟩;obtain⟨z,hz,rfl⟩:=pM h4;have:=hw.lt h3 hz hq2;omega
  ·obtain⟨q,hq1,rfl⟩:=List.mem_map.1 hy
   have:=hnr q hq1;omega
  ·obtain⟨q,hq1,rfl⟩:=pM h2
   have:=(hne j q hq1).2.1 h1;omega
  ·obtain⟨q,hq1,rfl⟩:=pM h2
   have:=(hne _ q hq1).2.2 (bM _);omega
  ·rintro e w' ⟨rfl,v,v2,hrow,uF,hB,kk⟩
   refine⟨_,_,rfl,rfl,rfl,?_⟩;obtain⟨hv,hvb⟩:=qm uF (GL hx hq hk hw hps hl);have h16:∀x∈ps,x.rs.length=16:=λx hx1=>(hw.reg x hx1).1;have ag0:rowAt (aZ Q ps) i=dL p (Q.pv p.pid):=by
    apply List.ext_getElem?
    intro j;by_cases cj:j<31
    ·rw[jI cj]
     exact oD hx hq hk hw hi cj
    ·rw[List.getElem?_eq_none (by rw[tJ (pK hw) (bV hi).1];omega),List.getElem?_eq_none (by rw[fJ (h16 p hps)];omega)]
   have hchild:GM (rowAt (aZ Q ps) i) p.pid r v2=dL c v2:=by
    rw[ag0,hc];obtain⟨r0,r1,r2,r3,r4,r5,r6,r7,r8,r9,r10,r11,r12,r13,yf,vM,e3⟩:=Bc (h16 p hps);unfold GM dL qN Xp.st;simp only[e3,hl]
    rfl
   have hall:(aZ Q ps).take ((r-1)*31)++GM (rowAt (aZ Q ps) i) p.pid r v2++(aZ Q ps).drop ((r-1)*31)=aZ {Q with pv:=λj=>if j=r then v2 else Q.pv j} (ps.take (r-1)++c::ps.drop (r-1)):=by
    rw[(lu h16 hA).1,(lu h16 hA).2,hchild];have e1:aZ {Q with pv:=λj=>if j=r then v2 else Q.pv j} (ps.take (r-1))=aZ Q (ps.take (r-1)):=Ju λx hx1=>if_neg (hnr x (List.mem_of_mem_take hx1));have e2:aZ {Q with pv:=λj=>if j=r then v2 else Q.pv j} (ps.drop (r-1))=aZ Q (ps.drop (r-1)):=Ju λx hx1=>if_neg (hnr x (List.mem_of_mem_drop hx1));rw[←e1,←e2];unfold aZ;rw[List.flatMap_append,List.flatMap_cons,List.append_assoc];congr 2
    show _=dL c (if c.pid=r then v2 else Q.pv c.pid)
    rw[if_pos c1]
   have hn1:(ps.take (r-1)++c::ps.drop (r-1)).length=ps.length+1:=by simp;omega
   have hwf:=hw.born hps hl hr1 hr hA hin hne hu;rw[←hc]at hwf;rw[hall,hpl,←hn1]at hrow;have k1:∀y∈ps.take (r-1)++c::ps.drop (r-1),y.live=true→UW w' ((λj=>if j=r then v2 else Q.pv j) y.pid) y.M:=λy hy hyl=>by
    rcases kD hy with rfl|hy2
    ·simp only[c1,if_true]
     rw[c3];exact hv
    ·simp only[if_neg (hnr y hy2)]
     exact(uj.pW y hy2 hyl).keep kk λg hg=>by
      obtain⟨_,hb2⟩:=(uj.pW y hy2 hyl).own hg;exact hb2.ne uj.dk.blk (by decide)
   have k2:∀y∈ps.take (r-1)++c::ps.drop (r-1),∀z∈ps.take (r-1)++c::ps.drop (r-1),y.live=true→z.live=true→∀g,((λj=>if j=r then v2 else Q.pv j) y.pid).ownBlock=some g→((λj=>if j=r then v2 else Q.pv j) z.pid).ownBlock=some g→y.pid=z.pid:=λy hy z hz hyl hzl g hg1 hg2=>by
    rcases kD hy with rfl|hy2<;>rcases kD hz with rfl|hz2
    ·rfl
    ·simp only[c1,if_true]at hg1
     simp only[if_neg (hnr z hz2)]at hg2
     have h1:=hvb g hg1;obtain⟨_,hb2⟩:=(uj.pW z hz2 hzl).own hg2;have:=hb2.lt;omega
    ·simp only[c1,if_true]at hg2
     simp only[if_neg (hnr y hy2)]at hg1
     have h1:=hvb g hg2;obtain⟨_,hb2⟩:=(uj.pW y hy2 hyl).own hg1;have:=hb2.lt;omega
    ·simp only[if_neg (hnr y hy2)]at hg1
     simp only[if_neg (hnr z hz2)]at hg2
     exact uj.inj y hy2 z hz2 hyl hzl g hg1 hg2
   have k3:∀y∈ps.take (r-1)++c::ps.drop (r-1),y.live=true→∀g,((λj=>if j=r then v2 else Q.pv j) y.pid).ownBlock=some g→rM E ps Q g∨W.heap.size≤g:=λy hy hyl g hg=>by
    rcases kD hy with rfl|hy2
    ·simp only[c1,if_true]at hg
     exact .inr (hvb g hg)
    ·simp only[if_neg (hnr y hy2)]at hg
     exact .inl (.inr (.inr (.inr (.inr ⟨y,hy2,hyl,hg⟩))))
   obtain⟨Q',hd⟩:=QX.moved hx uj hkW hw (ps.take (r-1)++c::ps.drop (r-1)) (λj=>if j=r then v2 else Q.pv j) v hrow (by omega) (pK hwf) hB kk k1 k2 k3;exact⟨Q',hd.qx,(Keep.of_bel _ hW).tr hd.kept,λq hq1=>(hd.new q hq1).imp id λh=>bU hW.size h⟩
 ·rintro e w' ⟨n,f',rfl,rfl,rfl,Q',h3⟩
  exact⟨_,_,_,_,_,_,rfl,rfl,rfl,rfl,rfl,Q',h3,⟨λ_ h=>(by cases h),λh=>absurd h (by simp)⟩,λ_ _ e=>(by cases e)⟩
end
def xd0:XD:=⟨λ_=>0,λ_=>0,.nilIface,.nilIface,0⟩
section
variable {E:XE} {w w':World} {ps:List Xp} {ty:List Int} {Q:QE} (hx:eY E) (hq:QX E w ps ty Q) (hk:fB E w) (hw:lQ E.l.a.toNat E.l.b.toNat ps)
include hx hq hk hw
theorem qwt:ad8 w E.rb Q.g Q.gc (Q.kv.cells Q.iv E.L.length) (aZ Q ps) (ps.map (toW xd0)):=by
 have hlen:=qlen hx hq hk hw;have hpl:(ps.map (toW xd0)).length=ps.length:=jE _;refine⟨hq.dk.blk,by rw[hpl,←hq.pv];rfl,λj y hj=>?_,by omega,by rw[hpl];exact hq.gc,by rw[hpl];exact pK hw,abb hx hq hk hw,ad7 hx hq hk hw,hq.row.ne hq.dk.blk (by decide)⟩;rw[fA]at hj;obtain⟨p,hp,rfl⟩:=Option.map_eq_some_iff.1 hj;exact⟨(oD hx hq hk hw hp (show 0<31 by omega)).trans (kG _).1,(oD hx hq hk hw hp (show 1<31 by omega)).trans (kG _).2.1,(oD hx hq hk hw hp (show 2<31 by omega)).trans (kG _).2.2.1,(oD hx hq hk hw hp (show 3<31 by omega)).trans (kG _).2.2.2⟩
theorem Sz{i:Nat}{p:Xp}(hi:ps[i]?=some p)(hl:p.live=true)(a b:Int)(t:ByteArray)(lp dp:Option Addr)(ln lc dn dc:Nat)(hz:∀q∈ps,mZ p.pid q=false):rO E (if ps.any (λq=>q.par==p.pid)then 16 else 17) p.pid 4 a b t lp dp ln lc dn dc w:=by
 have hlen:=qlen hx hq hk hw;have he:uY (p.pid:Int) (ps.map (toW xd0))=if ps.any (λq=>q.par==p.pid)then 16 else 17:=by
  unfold uY;rw[List.any_map];congr 2
  congr 1
  funext q
  simp only[Function.comp_apply,toW]
  by_cases e:q.par=p.pid
  ·rw[beq_iff_eq.2 e,beq_iff_eq.2 (by omega)]
  ·rw[dK e,dK (by omega)]
 refine(abe E.rb p.pid a b t lp dp ln lc dn dc Q.g Q.gc ps.length i (λn m xp l c f' W=>n=0∧m=0∧xp=none∧l=0∧c=0∧f'=uY (p.pid:Int) (ps.map (toW xd0))∧Bel w W) w (qc5 hx hq hk hw) (bV hi).1 (by omega) (uZ hx hq hk hw hi hl) (mg hx hq hk hw hi) λW hW=>?_).mono ?_
 ·refine(MV (qwt hx (hq.bel hW) (hk.tr (Keep.of_bel _ hW)) hw) p.pid λy hy=>?_).mono ?_
  ·obtain⟨q,ZY,rfl⟩:=List.mem_map.1 hy
   rw[tH];exact hz q ZY
  ·rintro e w' ⟨rfl,h1⟩
   exact⟨_,_,_,_,_,_,rfl,rfl,rfl,rfl,rfl,rfl,rfl,hW.tr h1⟩
 ·rintro e w' ⟨n,m,xp,l,c,f',rfl,rfl,rfl,rfl,rfl,rfl,rfl,h1⟩
  rw[he];exact⟨rfl,h1⟩
theorem Z9{i:Nat}{p:Xp}(hi:ps[i]?=some p)(hl:p.live=true)(a b:Int)(t:ByteArray)(lp dp:Option Addr)(ln lc dn dc:Nat){j:Nat}{z:Xp}(hj:ps[j]?=some z)(hz:mZ p.pid z=true)(hb:∀k q,k<j→ps[k]?=some q→mZ p.pid q=false):Jq E ty ps Q (ps.take j++ps.drop (j+1)) z.pid z.sv [] p.pid 4 a b t lp dp ln lc dn dc w:=by
 have hlen:=qlen hx hq hk hw;have hjl:=(bV hj).1;have hpl:(ps.map (toW xd0)).length=ps.length:=jE _;have hzl:z.live=false:=by unfold mZ at hz;simp at hz;exact hz.2
 have h16:∀x∈ps,x.rs.length=16:=λx hx1=>(hw.reg x hx1).1;refine(abe E.rb p.pid a b t lp dp ln lc dn dc Q.g Q.gc ps.length i (DXa E ty ps Q (ps.take j++ps.drop (j+1)) z.pid z.sv [] w) w (qc5 hx hq hk hw) (bV hi).1 (by omega) (uZ hx hq hk hw hi hl) (mg hx hq hk hw hi) λW hW=>?_);have uj:=hq.bel hW;have hkW:=hk.tr (Keep.of_bel _ hW);refine(Xd (qwt hx uj hkW hw) p.pid j (toW xd0 z) (by rw[fA,hj];rfl) (by rw[tH];exact hz) (λy hy=>?_)).mono ?_
 ·obtain⟨k,hk2⟩:=List.getElem?_of_mem hy
  rw[List.getElem?_take]at hk2;split at hk2
  ·rename_i hkj
   rw[fA]at hk2;obtain⟨q,hq2,rfl⟩:=Option.map_eq_some_iff.1 hk2;rw[tH];exact hb k q hkj hq2
  ·cases hk2
 ·rintro e w' ⟨rfl,v,hrow,hB,kk⟩
  have hmem:∀y∈ps.take j++ps.drop (j+1),y∈ps:=λy h=>by
   rcases List.mem_append.1 h with h1|h1
   ·exact List.mem_of_mem_take h1
   ·exact List.mem_of_mem_drop h1
  have hall:(aZ Q ps).take (j*31)++(aZ Q ps).drop ((j+1)*31)=aZ {Q with pv:=Q.pv} (ps.take j++ps.drop (j+1)):=by
   rw[(lu h16 (by omega)).1,(lu h16 (by omega)).2];unfold aZ;rw[List.flatMap_append]
  have hn1:(ps.take j++ps.drop (j+1)).length=ps.length-1:=by simp;omega
  have hwf:=hw.gone hj hzl;have hn0:0<(ps.take j++ps.drop (j+1)).length:=by
   obtain⟨y,r,e,_⟩:=hwf.head;rw[e];simp
  rw[hall,hpl,←hn1]at hrow;obtain⟨Q',hd⟩:=QX.moved hx uj hkW hw (ps.take j++ps.drop (j+1)) Q.pv v hrow hn0 (pK hwf) hB kk (λy hy hyl=>(uj.pW y (hmem y hy) hyl).keep kk λg hg=>by
   obtain⟨_,hb2⟩:=(uj.pW y (hmem y hy) hyl).own hg;exact hb2.ne uj.dk.blk (by decide)) (λy hy x hx1 hyl hxl g hg1 hg2=>uj.inj y (hmem y hy) x (hmem x hx1) hyl hxl g hg1 hg2) (λy hy hyl g hg=>.inl (.inr (.inr (.inr (.inr ⟨y,hmem y hy,hyl,hg⟩)))))
  exact⟨_,_,_,_,_,_,rfl,rfl,rfl,rfl,rfl,Q',⟨hd.qx,(Keep.of_bel _ hW).tr hd.kept,λq hq1=>(hd.new q hq1).imp id λh=>bU hW.size h⟩,⟨λ_ h=>(by cases h),λh=>absurd h (by simp)⟩,λ_ _ e=>(by cases e)⟩
end
end
section
open Go.Proofs.Tryz Go.RowKit Go.MapKept Go.Maps
theorem Bh(pid:Int)(cs:List Value)(k:Nat)(q:Int)(h:cs[k*31+1]?=some (.int .i64 q)):∀n,k<n→(gG pid cs n)[k*31+1]?=some (.int .i64 (if q=pid then 1 else q))
 | 0,hk=>absurd hk (by omega)
 | n+1,hk=>by
   rw[gG];by_cases e:k=n
   ·subst e
    have h1:=sV pid cs (k*31+1) k λi hi=>by omega
    rw[h]at h1;have hl:=(bV h1).1;by_cases c:q=pid
    ·subst c
     rw[if_pos h1,if_pos rfl,List.getElem?_set_self hl]
    ·rw[if_neg (by rw[h1];intro e;injection e with e;injection e with _ e;exact c e),if_neg c,h1]
   ·have ih:=Bh pid cs k q h n (by omega)
    split
    ·rw[List.getElem?_set_ne (by omega),ih]
    ·exact ih
theorem Bi{α:Type}(a b:List α)(o:Nat)(vs:List α):splice (a++b) (a.length+o) vs=a++splice b o vs:=by
 unfold splice;rw[List.take_length_add_append,show a.length+o+vs.length=a.length+(o+vs.length)from by omega,List.drop_length_add_append,List.append_assoc]
theorem qo{α:Type}(a b:List α)(o:Nat)(v:α):(a++b).set (a.length+o) v=a++b.set o v:=by
 rw[List.set_append_right _ _ (by omega),Nat.add_sub_cancel_left]
theorem Xe(a b:List Value)(st:Int):nN (a++b) a.length st=a++nN b 0 st:=by
 unfold nN;rw[qo,qo,qo,qo,Bi];try simp only[Nat.zero_add]
theorem Xf{b c:List Value}(h:b.length=31)(st:Int):nN (b++c) 0 st=nN b 0 st++c:=by
 unfold nN;simp only[Nat.zero_add]
 rw[List.set_append_left _ _ (by omega),List.set_append_left _ _ (by simp;omega),List.set_append_left _ _ (by simp;omega),List.set_append_left _ _ (by simp;omega),Bj _ _ _ _ (by simp;omega)]
theorem SA{p:Xp}(h:p.rs.length=16)(v:Value)(pid:Nat)(st:Int):dL (gI pid st p) v=(if p.pid=pid then nN (dL p v) 0 st else dL p v).set 1 (.int .i64 (if (p.par:Int)=pid then 1 else p.par)):=by
 obtain⟨r0,r1,r2,r3,r4,r5,r6,r7,r8,r9,r10,r11,r12,r13,yf,vM,e2⟩:=Bc h;obtain⟨p1,p2,p3,p4,p5,p6,p7⟩:=p;simp only at e2
 subst e2;have e:((p2:Int)=pid)=(p2=pid):=by simp only[eq_iff_iff];omega
 unfold gI Xp.kid;simp only[e]
 by_cases c1:p1=pid<;>by_cases c2:p2=pid
 ·simp only[if_pos c1,if_pos c2];cases p3<;>rfl
 ·simp only[if_pos c1,if_neg c2];cases p3<;>rfl
 ·simp only[if_neg c1,if_pos c2];cases p3<;>rfl
 ·simp only[if_neg c1,if_neg c2];cases p3<;>rfl
theorem tK{pid:Nat}{st:Int}{p:Xp}(h:(gI pid st p).live=true):p.live=true∧(gI pid st p).M=p.M:=by
 unfold gI at h⊢;split at h
 ·cases h
 ·rename_i c
  rw[if_neg c];exact⟨by rw[←(dX pid p).1];exact h,(dX pid p).2.1⟩
theorem rP{pid:Nat}{st:Int}{ps:List Xp}{x:Xp}(h:x∈iw pid st ps):∃p∈ps,x=gI pid st p:=by
 obtain⟨p,hp,e⟩:=List.mem_map.1 h;exact⟨p,hp,e.symm⟩
theorem Xg{Q Q':QE}{ps:List Xp}{i:Nat}{p:Xp}{cs:List Value}(st:Int)(hi:ps[i]?=some p)(h16:∀x∈ps,x.rs.length=16)(hu:∀j x,ps[j]?=some x→x.pid=p.pid→j=i)(hpv:Q'.pv=Q.pv)(hrows:cs.take (ps.length*31)=aZ Q ps)(hlen:ps.length*31≤cs.length):(gG p.pid (nN cs (i*31) st) ps.length).take (ps.length*31)=aZ Q' (iw p.pid st ps):=by
 have hil:=(bV hi).1;have hzl:(nN cs (i*31) st).length=cs.length:=wG cs (i*31) st (by have:=Nat.mul_le_mul_right 31 (show i+1≤ps.length by omega);omega);have hrl:(aZ Q ps).length=ps.length*31:=by
  unfold aZ;exact flat_length _ 31 _ λp hp=>fJ (h16 p hp) _
 have hz:∀k x j,ps[k]?=some x→j<31→(nN cs (i*31) st)[k*31+j]?=(if x.pid=p.pid then nN (dL x (Q.pv x.pid)) 0 st else dL x (Q.pv x.pid))[j]?:=λk x j hk hj=>by
  have hkl:=(bV hk).1;have hat:∀j,j<31→cs[k*31+j]?=(dL x (Q.pv x.pid))[j]?:=λj hj=>by
   have h2:=fP (λp=>dL p (Q.pv p.pid)) 31 ps (λp hp=>fJ (h16 p hp) _) k j hj;rw[hk]at h2;have h1:k*31+j<ps.length*31:=by have:=Nat.mul_le_mul_right 31 (show k+1≤ps.length by omega);omega
   rw[←List.getElem?_take_of_lt h1,hrows];exact h2
  by_cases e:x.pid=p.pid
  ·rw[if_pos e]
   obtain rfl:=hu k x hk e;rw[hi]at hk;cases hk
   have hx31:=fJ (h16 p (List.mem_of_getElem? hi)) (Q.pv p.pid);have hcut:cs=cs.take (k*31)++(dL p (Q.pv p.pid)++cs.drop (k*31+31)):=by
    have e1:(cs.drop (k*31)).take 31=dL p (Q.pv p.pid):=by
     apply List.ext_getElem?
     intro j;by_cases c:j<31
     ·rw[List.getElem?_take_of_lt c,List.getElem?_drop]
      exact hat j c
     ·rw[List.getElem?_eq_none (by simp;omega),List.getElem?_eq_none (by omega)]
    rw[←e1,←List.drop_drop,List.take_append_drop,List.take_append_drop]
   have hkl2:(cs.take (k*31)).length=k*31:=by rw[List.length_take];have:=Nat.mul_le_mul_right 31 (show k+1≤ps.length by omega);omega
   have hzc:nN cs (k*31) st=cs.take (k*31)++(nN (dL p (Q.pv p.pid)) 0 st++cs.drop (k*31+31)):=by
    have h3:=Xe (cs.take (k*31)) (dL p (Q.pv p.pid)++cs.drop (k*31+31)) st;rw[←hcut,hkl2,Xf hx31]at h3;exact h3
   rw[hzc,List.getElem?_append_right (by omega),hkl2,Nat.add_sub_cancel_left,List.getElem?_append_left (by rw[wG _ _ _ (by omega)];omega)]
  ·rw[if_neg e,←hat j hj]
   have hki:k≠i:=λe2=>e (by subst e2;rw[hi]at hk;cases hk;rfl);refine Gn cs (i*31) st (by have:=Nat.mul_le_mul_right 31 (show i+1≤ps.length by omega);omega) _ ?_;rcases Nat.lt_or_ge k i with c|c
   ·have:=Nat.mul_le_mul_right 31 (show k+1≤i by omega);omega
   ·have:=Nat.mul_le_mul_right 31 (show i+1≤k by omega);omega
 have hel:(iw p.pid st ps).length=ps.length:=jE _;have ad9:∀x∈iw p.pid st ps,x.rs.length=16:=λx hx=>by
  obtain⟨q,hq,rfl⟩:=rP hx;unfold gI;split
  ·show(q.kid p.pid).rs.length=16
   rw[(dX p.pid q).2.2.1];exact h16 q hq
  ·rw[(dX p.pid q).2.2.1]
   exact h16 q hq
 apply List.ext_getElem?
 intro n;by_cases c:n<ps.length*31
 ·obtain⟨k,j,rfl,hj⟩:∃k j,n=k*31+j∧j<31:=⟨n/31,n%31,by omega,by omega⟩
  have hk:k<ps.length:=by
   rcases Nat.lt_or_ge k ps.length with h|h
   ·exact h
   ·have:=Nat.mul_le_mul_right 31 h;omega
  have hkx:=bT hk;obtain⟨x,hx⟩:=e_x (ps[k]);rw[hx]at hkx;have hxm:=List.mem_of_getElem? hkx;rw[List.getElem?_take_of_lt c];have h2:=fP (λp=>dL p (Q'.pv p.pid)) 31 (iw p.pid st ps) (λx hx=>fJ (ad9 x hx) _) k j hj;have h3:(iw p.pid st ps)[k]?=some (gI p.pid st x):=by
   unfold iw;rw[fA,hkx];rfl
  rw[h3]at h2;refine Eq.trans ?_ h2.symm;show _=(dL (gI p.pid st x) (Q'.pv (gI p.pid st x).pid))[j]?
  rw[gX,hpv,SA (h16 x hxm)];by_cases ej:j=1
  ·subst ej
   have h4:=hz k x 1 hkx (by omega);have h5:(if x.pid=p.pid then nN (dL x (Q.pv x.pid)) 0 st else dL x (Q.pv x.pid))[1]?=some (.int .i64 (x.par:Int)):=by
    have hx31:=fJ (h16 x hxm) (Q.pv x.pid);split
    ·rw[Gn _ 0 st (by omega) 1 (.inl (by omega))]
     exact(kG _).2.1
    ·exact(kG _).2.1
   rw[Bh p.pid _ k x.par (h4.trans h5) ps.length hk,List.getElem?_set_self (by
    have:=(bV h5).1;exact this)]
  ·rw[List.getElem?_set_ne (λe=>ej e.symm),sV _ _ _ _ (λm hm e=>by omega)]
   exact hz k x j hkx hj
 ·rw[List.getElem?_eq_none (by rw[List.length_take];omega),List.getElem?_eq_none (by unfold aZ;rw[flat_length _ 31 _ λx hx=>fJ (ad9 x hx) _];omega)]
section
variable {E:XE} {w w':World} {ps:List Xp} {ty:List Int} {Q:QE} (hx:eY E) (hq:QX E w ps ty Q) (hk:fB E w) (hw:lQ E.l.a.toNat E.l.b.toNat ps)
include hx hq hk hw
theorem ab3{i:Nat}{p:Xp}(hi:ps[i]?=some p)(st:Int):Calls prog 193 #[E.rb,.int .i64 p.pid,st] w λe w'=>e=.returned (.tuple #[])∧∃Q',WW E ty ps Q (iw p.pid st ps) w.heap.size w Q' w':=by
 have hlen:=qlen hx hq hk hw;have hil:=(bV hi).1;have h16:∀x∈ps,x.rs.length=16:=λx hx1=>(hw.reg x hx1).1;refine(VR E.rb Q.g i ps.length Q.gc Q.kv Q.iv E.L Q.cs p.pid st w hq.dk hq.pv hq.row hq.len (λk hk2=>?_) hil (by omega) (mg hx hq hk hw hi w (Bel.refl w)) hq.ov hq.xv hx.par (λn hn=>by
  obtain⟨p,c,hv,_⟩:=(hq.dk.aS n hn).1.slice;exact⟨p,_,c,hv⟩)).mono ?_
 ·have hkx:=bT hk2
  exact⟨_,(hq.at hw hkx (show 1<31 by omega)).trans (kG _).2.1⟩
 ·rintro e w' ⟨rfl,Ak,hdk,hB,kk⟩
  have hel:(iw p.pid st ps).length=ps.length:=jE _;have hblk:∀y cs t,Blk w y cs t→t≠174→t≠167→¬(y=E.rb∨y=Q.g):=λy cs t hb n1 n2 h=>by
   rcases h with e|e
   ·exact hb.ne hq.dk.blk n1 e
   ·exact hb.ne hq.row n2 e
  have hbuf:∀{v:Value} {L:List Int},Buf w v L→Buf w' v L:=λhb=>hb.keep kk λg hg=>by
   obtain⟨_,hb2⟩:=hb.blk hg;exact hblk _ _ _ hb2 (by decide) (by decide)
  have foot:∀y,rM E (iw p.pid st ps) {Q with iv:=Ak,cs:=gG p.pid (nN Q.cs (i*31) st) ps.length} y→rM E ps Q y:=λy hy=>by
   rcases hy with e|e|e|e|⟨r,hr1,hr2,hr3⟩
   ·exact .inl e
   ·exact .inr (.inl e)
   ·exact .inr (.inr (.inl e))
   ·exact .inr (.inr (.inr (.inl e)))
   ·obtain⟨q,hq1,rfl⟩:=rP hr1
    rw[gX]at hr3;exact .inr (.inr (.inr (.inr ⟨q,hq1,(tK hr2).1,hr3⟩)))
  refine⟨rfl,{Q with iv:=Ak,cs:=gG p.pid (nN Q.cs (i*31) st) ps.length},⟨hdk,hq.lim,by rw[hel];exact hq.pv,by rw[hel];exact hq.gc,hq.ov,hq.xv,hB,?_,?_,λx hx1 hxl=>?_,λx hx1 y hy1 hxl hyl g hg1 hg2=>?_,hbuf hq.tb,hbuf hq.ub,hq.ap,λy hy=>hq.lo y (foot y hy)⟩,kk.mono λy hy=>hy.elim .inl λe=>.inr (.inl e),λy hy=>.inl (foot y hy)⟩
  ·rw[hel]
   exact Xg st hi h16 (λj x hj e=>hw.uniq hj hi e) rfl hq.rows hq.len
  ·show(iw p.pid st ps).length*31≤(gG _ _ _).length
   rw[hel,uV,wG _ _ _ (by have:=hq.len;have:=Nat.mul_le_mul_right 31 (show i+1≤ps.length by omega);omega)];exact hq.len
  ·obtain⟨q,hq1,rfl⟩:=rP hx1
   obtain⟨h1,h2⟩:=tK hxl;rw[gX,h2];exact(hq.pW q hq1 h1).keep kk λg hg=>by
    obtain⟨_,hb2⟩:=(hq.pW q hq1 h1).own hg;exact hblk _ _ _ hb2 (by decide) (by decide)
  ·obtain⟨q,hq1,rfl⟩:=rP hx1
   obtain⟨r,hr1,rfl⟩:=rP hy1;rw[gX]at hg1 hg2⊢;rw[gX];exact hq.inj q hq1 r hr1 (tK hxl).1 (tK hyl).1 g hg1 hg2
theorem aab{i:Nat}{p:Xp}(hi:ps[i]?=some p)(hl:p.live=true)(h1:p.pid≠1)(a b:Int)(t:ByteArray)(lp dp:Option Addr)(ln lc dn dc:Nat):Jq E ty ps Q (iw p.pid (AZ a) ps) 0 0 [] p.pid 3 a b t lp dp ln lc dn dc w:=by
 have hlen:=qlen hx hq hk hw;refine(aea E.rb p.pid a b t lp dp ln lc dn dc Q.g Q.gc ps.length i (λW=>∃Q',WW E ty ps Q (iw p.pid (AZ a) ps) w.heap.size w Q' W) w (qc5 hx hq hk hw) (bV hi).1 (by omega) (uZ hx hq hk hw hi hl) (by omega) (mg hx hq hk hw hi) λW hW=>?_).mono ?_
 ·refine(ab3 hx (hq.bel hW) (hk.tr (Keep.of_bel _ hW)) hw hi (AZ a)).mono ?_
  rintro e w' ⟨rfl,Q',hd⟩;exact⟨rfl,Q',hd.qx,(Keep.of_bel _ hW).tr hd.kept,λq hq1=>(hd.new q hq1).imp id λh=>bU hW.size h⟩
 ·rintro e w' ⟨rfl,Q',h3⟩
  exact⟨_,_,_,_,_,_,rfl,rfl,rfl,rfl,rfl,Q',h3,⟨λ_ h=>(by cases h),λh=>absurd h (by simp)⟩,λ_ _ e=>(by cases e)⟩
end
end
end Go.Proofs.YtcnjjchlebmfiaaGreatDoor
