/-.-/
import Derived.Test.YtcnjjchlebmfiaaGreatDoorP33
set_option linter.all false
set_option maxRecDepth 100000
set_option maxHeartbeats 16000000
namespace Go.Proofs.YtcnjjchlebmfiaaGreatDoor
section
open Go.Proofs.Tryz Go.RowKit Go.MapKept Go.Maps Go.Shelf
section
variable {E:XE} {ps:List Xp} {ty:List Int} {D:XD} {Q:QE} {w w':World}
theorem PX.tick(h:PX E w ps ty D)(k:Keep (λq=>q=E.kb) w w')(now:Int)(hk:Blk w' E.kb (lV E.l.a E.l.b E.l.c E.l.d.toNat E.l.e.toNat E.pm E.tb E.ob E.cb (aI ps:Nat) now (.slice none 0 0)) 111):PX E w' ps ty {D with now:=now}:=by
 have hu:∀{q cs t},Blk w q cs t→t≠111→¬q=E.kb:=λhb n1=>hb.ne h.hk n1;have hm:∀q,(∃kv,Mp iK w q kv)→¬q=E.kb:=λq ⟨kv,hm⟩ e=>h.hk.aP hm e.symm;have hbf:∀v L,Buf w v L→Buf w' v L:=λv L hv=>hv.keep k λg hg=>by obtain⟨_,hb⟩:=hv.blk hg;exact hu hb (by decide)
 obtain⟨kv,hmp,hpm⟩:=h.map;exact⟨hk,⟨kv,hmp.of_block (k.block _ hmp.lt (hm _ ⟨kv,hmp⟩)),hpm⟩,λp hp=>(h.oC p hp).keep k (hu (h.oC p hp) (by decide)),λp hp hl=>(h.rE p hp hl).of_block (k.block _ (h.rE p hp hl).lt (hm _ (mJ (h.rE p hp hl)))),h.inj,h.hc.keep k (hu h.hc (by decide)),hbf _ _ h.tb,hbf _ _ h.ub,h.ap,h.lo⟩
theorem PX.nR{tv' uv':Value}{n:Nat}(f1:∀g,aU tv'=some g→aU D.tv=some g∨n≤g)(f2:∀g,aU uv'=some g→aU D.uv=some g∨n≤g):∀q,bH E ps {D with tv:=tv',uv:=uv'} q→bH E ps D q∨n≤q:=λq hq=>by
 rcases hq with e|e|e|e|e|e
 ·exact .inl (.inl e)
 ·exact .inl (.inr (.inl e))
 ·exact .inl (.inr (.inr (.inl e)))
 ·exact(f1 q e).imp (λe=>.inr (.inr (.inr (.inl e)))) id
 ·exact(f2 q e).imp (λe=>.inr (.inr (.inr (.inr (.inl e))))) id
 ·exact .inl (.inr (.inr (.inr (.inr (.inr e)))))
theorem PX.UX{S:Nat→Prop}(h:PX E w ps ty D)(hk:fB E w)(k:Keep S w w')(hS:∀q,S q→q=E.cb∨aU D.tv=some q)(tv' uv':Value)(ty':List Int)(b1:Blk w' E.cb [.int .i64 ((3*dN ps:Nat):Int),tv',uv'] 151)(b2:Buf w' tv' ty')(b3:Buf w' uv' [])
 (ap:∀g,aU tv'=some g→aU uv'≠some g)(f1:∀g,aU tv'=some g→aU D.tv=some g∨w.heap.size≤g)(f2:∀g,aU uv'=some g→aU D.uv=some g∨w.heap.size≤g):PX E w' ps ty' {D with tv:=tv',uv:=uv'}:=by
 have hu:∀{q cs t},Blk w q cs t→t≠151→t≠5→¬S q:=λ{q cs t} hb n1 n2 hq=>by
  rcases hS q hq with e|e
  ·exact hb.ne h.hc n1 e
  ·obtain⟨_,hb2⟩:=h.tb.blk e;exact hb.ne hb2 n2 rfl
 have hm:∀q,(∃kv,Mp iK w q kv)→¬S q:=λq ⟨kv,hm⟩ hq=>by
  rcases hS q hq with e|e
  ·exact h.hc.aP hm e.symm
  ·obtain⟨_,hb2⟩:=h.tb.blk e;exact hb2.aP hm rfl
 obtain⟨kv,hmp,hpm⟩:=h.map;refine⟨h.hk.keep k (hu h.hk (by decide) (by decide)),⟨kv,hmp.of_block (k.block _ hmp.lt (hm _ ⟨kv,hmp⟩)),hpm⟩,λp hp=>(h.oC p hp).keep k (hu (h.oC p hp) (by decide) (by decide)),λp hp hl=>(h.rE p hp hl).of_block (k.block _ (h.rE p hp hl).lt (hm _ (mJ (h.rE p hp hl)))),h.inj,b1,b2,b3,ap,λq hq=>?_⟩;rcases PX.nR f1 f2 q hq with e|e
 ·exact h.lo q e
 ·exact .inl (bU hk.size e)
theorem QX.nR{tv' uv':Value}{n:Nat}(f1:∀g,aU tv'=some g→aU Q.kv.tv=some g∨n≤g)(f2:∀g,aU uv'=some g→aU Q.kv.uv=some g∨n≤g):∀q,rM E ps {Q with kv:={Q.kv with tv:=tv',uv:=uv'}} q→rM E ps Q q∨n≤q:=λq hq=>by
 rcases hq with e|e|e|e|e
 ·exact .inl (.inl e)
 ·exact .inl (.inr (.inl e))
 ·exact(f1 q e).imp (λe=>.inr (.inr (.inl e))) id
 ·exact(f2 q e).imp (λe=>.inr (.inr (.inr (.inl e)))) id
 ·exact .inl (.inr (.inr (.inr (.inr e))))
theorem QX.UX{S:Nat→Prop}(hx:eY E)(h:QX E w ps ty Q)(hk:fB E w)(k:Keep S w w')(hS:∀q,S q→q=E.rb∨aU Q.kv.tv=some q)(tv' uv':Value)(ty':List Int)(b1:Blk w' E.rb ({Q.kv with tv:=tv',uv:=uv'}.cells Q.iv E.L.length) 174)(b2:Buf w' tv' ty')(b3:Buf w' uv' [])
 (ap:∀g,aU tv'=some g→aU uv'≠some g)(f1:∀g,aU tv'=some g→aU Q.kv.tv=some g∨w.heap.size≤g)(f2:∀g,aU uv'=some g→aU Q.kv.uv=some g∨w.heap.size≤g):QX E w' ps ty' {Q with kv:={Q.kv with tv:=tv',uv:=uv'}}:=by
 have hu:∀{q cs t},Blk w q cs t→t≠174→t≠5→¬S q:=λ{q cs t} hb n1 n2 hq=>by
  rcases hS q hq with e|e
  ·exact hb.ne h.dk.blk n1 e
  ·obtain⟨_,hb2⟩:=h.tb.blk e;exact hb.ne hb2 n2 rfl
 have hib:∀n∈E.L,∀g,n.bv.ownBlock=some g→¬S g:=λn hn g hg hq=>by
  obtain⟨_,cur,hc⟩:=(hx.aS n hn).1.lt hg;refine hx.nv hc (by unfold V5;decide) (h.lo g ?_);rcases hS g hq with e|e
  ·exact .inl e
  ·exact .inr (.inr (.inl e))
 refine⟨⟨b1,xR h.dk.row k λq cs hb=>hu hb (by decide) (by decide),λn hn=>⟨(h.dk.aS n hn).1.keep k (hib n hn),(h.dk.aS n hn).2⟩,h.dk.few,h.dk.one⟩,h.lim,h.pv,h.gc,h.ov,h.xv,h.row.keep k (hu h.row (by decide) (by decide)),h.rows,h.len,λp hp hl=>(h.pW p hp hl).keep k λg hg=>?_,h.inj,b2,b3,ap,λq hq=>?_⟩
 ·obtain⟨_,hb2⟩:=(h.pW p hp hl).own hg
  exact hu hb2 (by decide) (by decide)
 ·rcases QX.nR f1 f2 q hq with e|e
  ·exact h.lo q e
  ·exact .inl (bU hk.size e)
end
theorem Nk(E:XE)(hx:eY E)(hpl:SG E)(n:Nat):Zq (XI E n) E.wb E.tk E.rb where
 bel:=λh k=>h.bel k
 blk:=λh=>by
  obtain⟨ps,ty,D,Q,hwf,hp,hd,⟨p,q,c,d,L,lC⟩,_⟩:=h.st;exact⟨p,q,c,d,L,lC.blk,lC.bp,lC.bq,lC.few⟩
 procs:=λh=>aaf E hx n _ h
 files:=λh=>aai E hx hpl n _ h
theorem acf(E:XE)(hx:eY E)(n:Nat)(w:World)(h:XI E n w):∃X:World→Prop,(∀W,X W→W.cell? (E.wb,1)=some (.pointer (E.rb,0)))∧
 (Calls prog 24 #[E.tk] w λe w'=>e=.returned (.tuple #[])∧X w'∧Fr E.B w w')∧∀W,X W→Calls prog 66 #[E.rb] W λe w'=>e=.returned (.tuple #[])∧XI E n w'∧Fr E.B W w':=by
 refine⟨XI E n,λW hW=>?_,?_,λW hW=>?_⟩
 ·obtain⟨ps,ty,D,Q,hwf,hp,hd,⟨p,q,c,d,L,lC⟩,_⟩:=hW.st
  exact lC.blk.cell 1
 ·obtain⟨ps,ty,D,Q,hwf,hp,hd,⟨p,q,c,d,L,lC⟩,hdis,h1⟩:=h.st
  refine Q4 E.tk E.kb _ w ((hx.oz h.kp).cell 0) ((Q7 E.kb D.now none 0 _ w hp.hk rfl rfl).mono ?_);rintro e w' ⟨rfl,now',hb,k⟩;have tN:Keep (bH E ps D) w w':=k.mono λq hq=>.inl hq;have hu:∀q cs t,Blk w q cs t→t≠111→¬q=E.kb:=λq cs t hb2 n1=>hb2.ne hp.hk n1;refine⟨rfl,⟨h.kp.tr (tN.mono λq hq=>hp.lo q hq),ps,ty,{D with now:=now'},Q,hwf,hp.tick k now' hb,hd.keep tN (λq hq hr=>hdis q hr hq) (wO hp) (zZ hx hp),⟨p,q,c,d,L,?_⟩,hdis,h1⟩,PN hx hp tN⟩;exact⟨lC.blk.keep k (hu _ _ _ lC.blk (by decide)),lC.bp.dm tN (λh0 g o e=>(lC.sp g o e h0).1),lC.bq.dm tN (λh0 g o e=>(lC.sq g o e h0).1),lC.few,lC.sp,lC.sq⟩
 ·obtain⟨ps,ty,D,Q,hwf,hp,hd,_⟩:=hW.st
  have hlen:=qlen hx hd hW.kp hwf;refine(SQ E.rb Q.g Q.gc (nP ps) W (WV hx hd hW.kp hwf) λj hj=>?_).mono ?_
  ·have hj2:j<ps.length:=by simpa [nP]using hj
   refine⟨_,qc2 hx hd hW.kp hwf (bT hj2),?_⟩;unfold Xp.st;split<;>omega
  ·rintro e w' ⟨rfl,rfl⟩
   exact⟨rfl,hW,Fr.bel (Bel.refl _)⟩
structure aei(E:XE)(ps:List Xp)(ty:List Int)(D:XD)(Q:QE)(d:List Int)(g:Nat)(p q:Option Addr)(cp cq:Nat)(L:List Int)(W:World):Prop where
 kp:fB E W
 st:∃D',PX E W ps (ty++d) D'∧(∀x,bH E ps D' x→bH E ps D x∨g<x)∧GN E W ps D' Q p q cp cq L
 dd:QX E W ps ty Q
theorem aej(E:XE)(hx:eY E)(n:Nat)(o:uz)(hn:n+o.d.length+1≤200400)(w0 w:World)(g:Nat)(hI:XI E n w0)(hw:Bel w0 w)(hg:w0.heap.size≤g)(hgb:Blk w g ((o.d++[71,72]).map (Value.int .u8)) 5)(hby:∀x∈o.d,iR x):∃Y:World→Prop,
 (Calls prog 25 #[E.tk,.slice (g,0) o.d.length (o.d.length+2)] w λe w'=>e=.returned (.tuple #[])∧Y w'∧Fr E.B w w'∧Blk w' g ((o.d++[71,72]).map (Value.int .u8)) 5)∧
 (∀W W',Y W→Keep (λq=>q=g) W W'→Y W')∧∀W,Y W→(∃cs,Blk W E.wb cs 96∧cs[1]?=some (.pointer (E.rb,0)))∧∃v,∃Lt:List Int,W.cell? (E.rb,9)=some v∧(∃ks,Blk W E.rb ks 174)∧Buf W v Lt∧Lt.length+o.d.length≤100000000∧
  ∀v' W',Buf W' v' (Lt++o.d)→qf W W' v (endOf v)→(∀g',aU v'=some g'→aU v=some g'∨W.heap.size≤g')→XI E (n+o.d.length+1) (W'.setCell (E.rb,9) v')∧Fr E.B W (W'.setCell (E.rb,9) v'):=by
 obtain⟨ps,ty,D,Q,hwf,hp,hd,⟨p,q,cp,cq,L,lC⟩,hdis,hsz⟩:=hI.st;have hk0:=hI.kp;have hk:=hk0.tr (Keep.of_bel _ hw);have hpw:=hp.bel hw;have hdw:=hd.bel hw;have Xq:=lC.bel hw;have hgl:=hgb.lt;have hold:∀x,bH E ps D x→x<w0.heap.size:=λx h=>hp.lt h;have abj:∀x,rM E ps Q x→x<w0.heap.size:=λx h=>hd.lt h;have hpl:∀x o',p=some ⟨x,o',none⟩→0<L.length→x<w0.heap.size:=λx o' e h0=>wM lC.bp e h0;have Xr:∀x o',q=some ⟨x,o',none⟩→0<L.length→x<w0.heap.size:=λx o' e h0=>wM lC.bq e h0;have hdb:zQ w (some ⟨g,0,none⟩) o.d:=⟨hby,λ_=>⟨g,0,rfl,_,hgb,λi x hi=>by
  rw[Nat.zero_add,fA,List.getElem?_append_left (bV hi).1,hi];rfl⟩⟩
 refine⟨aei E ps ty D Q o.d g p q cp cq L,?_,λW W' hY k=>?_,λW hY=>?_⟩
 ·refine(Q5 E.tk E.kb _ _ _ (λw'=>aei E ps ty D Q o.d g p q cp cq L w'∧Fr E.B w w'∧Blk w' g ((o.d++[71,72]).map (Value.int .u8)) 5) w ((hx.oz hk).cell 0) ((Q8 E.kb E.cb _ D.uv D.tv ty o.d (some ⟨g,0,none⟩) (o.d.length+2) w (hpw.hk.cell 8) (hpw.hc.ne hpw.hk (by decide)) hpw.hc hpw.tb hdb (by omega) (λx hx2=>by obtain⟨_,hb⟩:=hpw.tb.blk hx2;exact hb.ne hpw.hk (by decide))).mono ?_))
  rintro e w' ⟨rfl,v',wa,b1,b2,ka,k1,f1,f3⟩;have k2:Keep (λq=>q=E.cb∨aU D.tv=some q) w w':=((Keep.of_bel _ (Bel.drew (Bel.refl w))).tr (ka.keep.mono λq h=>.inr h)).tr (k1.mono λq h=>.inl h);have tN:Keep (bH E ps D) w w':=k2.mono λq h=>h.elim (λe=>.inr (.inr (.inl e))) λe=>.inr (.inr (.inr (.inl e)));have hu:Buf w' D.uv []:=hpw.ub.keep k2 λx hx2 hq=>hq.elim (λe=>by obtain⟨_,hb⟩:=hpw.ub.blk hx2;exact hb.ne hpw.hc (by decide) e) λe=>hp.ap x e hx2;have hcon:=hpw.UX hk k2 (λq h=>h) v' D.uv _ b1 b2 hu (λx e e2=>by
   rcases f1 x e with h|h
   ·exact hp.ap x h e2
   ·obtain⟨_,hb⟩:=hpw.ub.blk e2
    have:=hb.lt;omega) f1 (λx h=>.inl h)
  have hft:∀x,bH E ps {D with tv:=v',uv:=D.uv} x→bH E ps D x∨w.heap.size≤x:=PX.nR f1 (λx h=>.inl h);have hnp:∀x,bH E ps {D with tv:=v',uv:=D.uv} x→bH E ps D x∨g<x:=λx hx2=>(hft x hx2).imp id λh=>by omega
  refine⟨rfl,⟨hk.tr (tN.mono λq hq=>hpw.lo q hq),⟨_,hcon,hnp,⟨Xq.blk.keep tN (Jw ⟨_,Xq.blk⟩ hpw),Xq.bp.dm tN (λh0 g o e=>(lC.sp g o e h0).1),Xq.bq.dm tN (λh0 g o e=>(lC.sq g o e h0).1),Xq.few,λx o' e h0=>⟨λe2=>?_,(lC.sp x o' e h0).2⟩,λx o' e h0=>⟨λe2=>?_,(lC.sq x o' e h0).2⟩⟩⟩,hdw.keep tN (λq hq hr=>hdis q hr hq) (wO hpw) (zZ hx hpw)⟩,PN hx hpw tN,hgb.keep tN λhq=>by have:=hold g hq;omega⟩
  ·rcases hft x e2 with h|h
   ·exact(lC.sp x o' e h0).1 h
   ·have:=hpl x o' e h0
    have:=hw.le;omega
  ·rcases hft x e2 with h|h
   ·exact(lC.sq x o' e h0).1 h
   ·have:=Xr x o' e h0
    have:=hw.le;omega
 ·obtain⟨D',h1,h2,h3⟩:=hY.st
  refine⟨hY.kp.tr (k.mono λq hq=>.inl (by have hq:q=g:=hq;have:=hk0.size;omega)),⟨D',h1.keep k (λx hx2 e=>?_),h2,h3.keep k (λe=>?_) (λx o' e h0 e2=>?_) (λx o' e h0 e2=>?_)⟩,?_⟩
  ·have e:x=g:=e
   rcases h2 x hx2 with h|h
   ·have:=hold x h
    omega
   ·omega
  ·have e:E.wb=g:=e
   have:=lC.blk.lt;omega
  ·have e2:x=g:=e2
   have:=hpl x o' e h0;omega
  ·have e2:x=g:=e2
   have:=Xr x o' e h0;omega
  ·
   have hib:∀m∈E.L,∀x,m.bv.ownBlock=some x→¬x=g:=λm hm x hi e=>by
    obtain⟨_,cur,hb2⟩:=(hx.aS m hm).1.lt hi;have:=hb2.lt;have:=hk0.size;omega
   have hrow:=Zz hY.dd.dk.row k λx hi e=>by
    have e:x=g:=e;obtain⟨_,cur,hb2⟩:=row_blk hd.dk.row hi;have:=hb2.lt;omega
   have hY2:=hY.dd;have hns:∀x,rM E ps Q x→¬x=g:=λx hx2 e=>by
    have:=abj x hx2;omega
   exact⟨⟨hY2.dk.blk.keep k (hns _ (.inl rfl)),hrow,λm hm=>⟨(hY2.dk.aS m hm).1.keep k (hib m hm),(hY2.dk.aS m hm).2⟩,hY2.dk.few,hY2.dk.one⟩,hY2.lim,hY2.pv,hY2.gc,hY2.ov,hY2.xv,hY2.row.keep k (hns _ (.inr (.inl rfl))),hY2.rows,hY2.len,λx hx2 hl=>(hY2.pW x hx2 hl).keep k λy hy=>hns y (.inr (.inr (.inr (.inr ⟨x,hx2,hl,hy⟩)))),hY2.inj,hY2.tb.keep k (λy hy=>hns y (.inr (.inr (.inl hy)))),hY2.ub.keep k (λy hy=>hns y (.inr (.inr (.inr (.inl hy))))),hY2.ap,hY2.lo⟩
 ·obtain⟨D',h1,h2,h3⟩:=hY.st
  have EP:=hY.dd;have hxx:=EP.dk.blk;refine⟨⟨_,h3.blk,rfl⟩,Q.kv.tv,ty,by rw[hxx.cell];rfl,⟨_,hxx⟩,EP.tb,by omega,λv' W' b1 ka f1=>?_⟩;have k1:=Keep.setCell W' E.rb 9 v';have k2:Keep (λq=>q=E.rb∨aU Q.kv.tv=some q) W (W'.setCell (E.rb,9) v'):=(ka.keep.mono λq h=>.inr h).tr (k1.mono λq h=>.inl h);have hne:∀x,aU Q.kv.tv=some x→x≠E.rb:=λx hx2=>by
   obtain⟨_,hb⟩:=EP.tb.blk hx2;exact hb.ne hxx (by decide)
  have aek:Blk W' E.rb (Q.kv.cells Q.iv E.L.length) 174:=hxx.keep ka.keep λe=>hne _ e rfl;have b2:Buf (W'.setCell (E.rb,9) v') v' (ty++o.d):=b1.keep k1 λx hx2=>by obtain⟨_,hb⟩:=b1.blk hx2;exact hb.ne aek (by decide)
  have hu:Buf (W'.setCell (E.rb,9) v') Q.kv.uv []:=EP.ub.keep k2 λx hx2 hq=>hq.elim (λe=>by obtain⟨_,hb⟩:=EP.ub.blk hx2;exact hb.ne hxx (by decide) e) λe=>hd.ap x e hx2;have hcon:=QX.UX hx EP hY.kp k2 (λq h=>h) v' Q.kv.uv (ty++o.d) (aek.setCell (o:=9) v') b2 hu (λx e e2=>by
   rcases f1 x e with h|h
   ·exact hd.ap x h e2
   ·obtain⟨_,hb⟩:=EP.ub.blk e2
    have:=hb.lt;omega) f1 (λx h=>.inl h)
  have hft:=QX.nR (E:=E) (ps:=ps) (Q:=Q) (tv':=v') (uv':=Q.kv.uv) f1 (λx h=>.inl h);have tN:Keep (rM E ps Q) W (W'.setCell (E.rb,9) v'):=k2.mono λq h=>h.elim .inl λe=>.inr (.inr (.inl e));have JA:∀x,bH E ps D' x→¬rM E ps Q x:=λx hx2 hx3=>by
   rcases h2 x hx2 with h|h
   ·exact hdis x h hx3
   ·have:=abj x hx3
    omega
  have hP':=h1.keep tN JA;have hlen:(ty++o.d).length=ty.length+o.d.length:=List.length_append;refine⟨⟨hY.kp.tr (tN.mono λq hq=>EP.lo q hq),ps,_,D',_,hwf,hP',hcon,⟨p,q,cp,cq,L,h3.blk.keep tN (PO ⟨_,h3.blk⟩ EP),h3.bp.dm tN (λh0 g o e=>(h3.sp g o e h0).2),h3.bq.dm tN (λh0 g o e=>(h3.sq g o e h0).2),h3.few,λx o' e h0=>⟨(h3.sp x o' e h0).1,λe2=>?_⟩,λx o' e h0=>⟨(h3.sq x o' e h0).1,λe2=>?_⟩⟩,λx hx2 hx3=>?_,by omega⟩,Xj hx EP tN⟩
  ·rcases hft x e2 with h|h
   ·exact(h3.sp x o' e h0).2 h
   ·have:=wM h3.bp e h0
    omega
  ·rcases hft x e2 with h|h
   ·exact(h3.sq x o' e h0).2 h
   ·have:=wM h3.bq e h0
    omega
  ·rcases hft x hx3 with h|h
   ·exact JA x hx2 h
   ·have:=h1.lt hx2
    omega
theorem acg(E:XE)(hx:eY E)(n:Nat)(w:World)(hI:XI E n w):∃C:Value→World→Prop,(Calls prog 67 #[E.tk] w λe w'=>∃v,e=.returned v∧C v w'∧Fr E.B w w')∧
 ∀v W,C v W→W.cell? (E.wb,1)=some (.pointer (E.rb,0))∧W.frozen? (E.rb,10)=false∧∃p q c d,∃L:List Int,v=.slice p L.length c∧W.cell? (E.rb,10)=some (.slice q L.length d)∧BS W p L∧BS W q L∧L.length≤1000000∧∀m,XI E n ((W.drewN m).setCell (E.rb,10) (.slice none 0 0))∧Fr E.B W ((W.drewN m).setCell (E.rb,10) (.slice none 0 0)):=by
 obtain⟨ps,ty,D,Q,hwf,hp,hd,⟨p,q,cp,cq,L,lC⟩,hdis,hsz⟩:=hI.st;have hk:=hI.kp;obtain⟨pu,cu,hu,_⟩:=hp.ub.slice;obtain⟨qu,du,hqu,_⟩:=hd.ub.slice;refine⟨λv W=>v=D.uv∧fB E W∧PX E W ps ty {D with uv:=.slice none 0 0}∧QX E W ps ty Q∧GN E W ps {D with uv:=.slice none 0 0} Q p q cp cq L,?_,λv W h=>?_⟩
 ·have hcc:=hp.hc
  rw[hu]at hcc;refine Q3 E.tk E.kb _ w ((hx.oz hk).cell 0) ((QZ E.kb E.cb _ D.tv pu 0 cu w (hp.hk.cell 8) (hp.hk.ne hp.hc (by decide)) hcc).mono ?_);rintro e w' ⟨rfl,b1,k1⟩;have tN:Keep (bH E ps D) w w':=k1.mono λq h=>.inr (.inr (.inl h));have hnu:∀{q cs t},Blk w q cs t→t≠151→¬q=E.cb:=λhb n1=>hb.ne hp.hc n1;have ht:Buf w' D.tv ty:=hp.tb.keep k1 λx hx2=>by obtain⟨_,hb⟩:=hp.tb.blk hx2;exact hnu hb (by decide)
  have hft:∀x,bH E ps {D with tv:=D.tv,uv:=.slice none 0 0} x→bH E ps D x∨w.heap.size≤x:=PX.nR (λx h=>.inl h) (λx e=>by cases e);refine⟨_,rfl,⟨hu.symm,hk.tr (tN.mono λq hq=>hp.lo q hq),hp.UX hk k1 (λq h=>.inl h) D.tv (.slice none 0 0) ty b1 ht (Buf.nil w') (λx _ e2=>by cases e2) (λx h=>.inl h) (λx e=>by cases e),hd.keep tN (λq hq hr=>hdis q hr hq) (wO hp) (zZ hx hp),⟨lC.blk.keep tN (Jw ⟨_,lC.blk⟩ hp),lC.bp.dm tN (λh0 g o e=>(lC.sp g o e h0).1),lC.bq.dm tN (λh0 g o e=>(lC.sq g o e h0).1),lC.few,λx o' e h0=>⟨λe2=>?_,(lC.sp x o' e h0).2⟩,λx o' e h0=>⟨λe2=>?_,(lC.sq x o' e h0).2⟩⟩⟩,PN hx hp tN⟩
  ·rcases hft x e2 with h|h
   ·exact(lC.sp x o' e h0).1 h
   ·have:=wM lC.bp e h0
    omega
  ·rcases hft x e2 with h|h
   ·exact(lC.sq x o' e h0).1 h
   ·have:=wM lC.bq e h0
    omega
 ·obtain⟨rfl,hkW,hP,EP,hlW⟩:=h
  refine⟨hlW.blk.cell 1,EP.dk.blk.frozen 10,pu,qu,cu,du,[],hu,by rw[EP.dk.blk.cell,←hqu];rfl,yl _ _,yl _ _,by simp,λm=>?_⟩;have kb:=aj (Bel.refl W) m;have hdm:=EP.bel kb;have hkm:fB E (W.drewN m):=hkW.tr (Keep.of_bel _ kb);have k1:=Keep.setCell (W.drewN m) E.rb 10 (.slice none 0 0);have tN:Keep (rM E ps Q) (W.drewN m) ((W.drewN m).setCell (E.rb,10) (.slice none 0 0)):=k1.mono λq h=>.inl h;have hnu:∀{q cs t},Blk (W.drewN m) q cs t→t≠174→¬q=E.rb:=λhb n1=>hb.ne hdm.dk.blk n1;have hcon:=QX.UX hx hdm hkm k1 (λq h=>.inl h) Q.kv.tv (.slice none 0 0) ty (hdm.dk.blk.setCell (o:=10) _) (hdm.tb.keep k1 λx hx2=>by obtain⟨_,hb⟩:=hdm.tb.blk hx2;exact hnu hb (by decide)) (Buf.nil _) (λx _ e2=>by cases e2) (λx h=>.inl h) (λx e=>by cases e);have hft:=QX.nR (E:=E) (ps:=ps) (Q:=Q) (tv':=Q.kv.tv) (uv':=.slice none 0 0) (n:=(W.drewN m).heap.size) (λx h=>.inl h) (λx e=>by cases e);have JA:∀x,bH E ps {D with uv:=.slice none 0 0} x→¬rM E ps Q x:=λx hx2 hx3=>by
   refine hdis x ?_ hx3;rcases hx2 with e|e|e|e|e|e
   ·exact .inl e
   ·exact .inr (.inl e)
   ·exact .inr (.inr (.inl e))
   ·exact .inr (.inr (.inr (.inl e)))
   ·cases e
   ·exact .inr (.inr (.inr (.inr (.inr e))))
  have hP':=(hP.bel kb).keep tN JA;have hlm:=hlW.bel kb;have hwb:=hlm.blk;refine⟨⟨hkm.tr (tN.mono λq hq=>hdm.lo q hq),ps,ty,_,_,hwf,hP',hcon,⟨p,q,cp,cq,L,hlm.blk.keep tN (PO ⟨_,hwb⟩ hdm),hlm.bp.dm tN (λh0 g o e=>(hlm.sp g o e h0).2),hlm.bq.dm tN (λh0 g o e=>(hlm.sq g o e h0).2),hlm.few,λx o' e h0=>⟨(hlm.sp x o' e h0).1,λe2=>?_⟩,λx o' e h0=>⟨(hlm.sq x o' e h0).1,λe2=>?_⟩⟩,λx hx2 hx3=>?_,hsz⟩,(Fr.bel kb).tr (Xj hx hdm tN)⟩
  ·rcases hft x e2 with h|h
   ·exact(hlm.sp x o' e h0).2 h
   ·have:=wM hlm.bp e h0
    omega
  ·rcases hft x e2 with h|h
   ·exact(hlm.sq x o' e h0).2 h
   ·have:=wM hlm.bq e h0
    omega
  ·rcases hft x hx3 with h|h
   ·exact JA x hx2 h
   ·have:=(hP.bel kb).lt hx2
    omega
end
section
open Go.RowKit Go.MapKept Go.Maps Go.Shelf
theorem SV:∀k:Fin 62,ach 917534 (k.val:Int)=false→k.val=1∨k.val=2∨k.val=3∨k.val=4∨k.val=17∨k.val=18∨k.val=19:=by decide
theorem aci(E:XE)(hx:eY E)(hpl:SG E)(n:Nat)(o:uz)(hn:n+(o.c.weight+o.d.length)+1≤200400)(hw:o.c.weight+o.d.length≤200000)(hP:y7 917534 o):ael (XI E n) (XI E (n+(o.c.weight+o.d.length)+1)) E.wb E.tk E.rb E.B o:=by
 have aem:E.B≤E.wb:=hx.ZF (.inr (.inr (.inr (.inr (.inr (.inr (.inl rfl)))))));refine⟨aem,Nk E hx hpl n,Nk E hx hpl _,λh=>h.up (by omega),λ{w} hI hok hk0 hB=>?_,λ{w} hI hB=>acf E hx n w hI,λ{w0 w g} hI hw0 hB hg hgb hby=>?_,λ{w} hI hB=>?_⟩
 ·have ho:=hok w ((Bel.refl w).mono hB)
  have hkd:o.c.kind<0∨62≤o.c.kind∨o.c.kind=1∨o.c.kind=2∨o.c.kind=3∨o.c.kind=4∨o.c.kind=17∨o.c.kind=18∨o.c.kind=19:=by
   by_cases h1:o.c.kind<0
   ·exact .inl h1
   by_cases h2:62≤o.c.kind
   ·exact .inr (.inl h2)
   have h3:=SV ⟨o.c.kind.toNat,by omega⟩ (by
    have:=hP.2 hk0 (by omega) (by omega);rw[show(((⟨o.c.kind.toNat,by omega⟩:Fin 62).val:Nat):Int)=o.c.kind from Int.toNat_of_nonneg (by omega)];exact this)
   have h4:((o.c.kind.toNat:Nat):Int)=o.c.kind:=Int.toNat_of_nonneg (by omega);simp only at h3
   omega
  refine(Zp (XI E n) (XI E n) E.wb E.tk E.rb E.B o (Nk E hx hpl n) aem (aec E hx n o.a o.c ho.aw hkd (by omega)) w hI hok (by omega) (by omega) hB).mono ?_;rintro e w' ⟨rfl,h1,h2⟩;exact⟨rfl,h1.up (by omega),h2⟩
 ·obtain⟨Y,h1,h2,h3⟩:=aej E hx n o (by omega) w0 w g hI hw0 hg hgb hby
  refine⟨Y,h1,h2,λW hY=>?_⟩;obtain⟨h4,v,Lt,h5,h6,h7,h8,h9⟩:=h3 W hY;exact⟨h4,v,Lt,h5,h6,h7,h8,λv' W' a b c=>⟨(h9 v' W' a b c).1.up (by omega),(h9 v' W' a b c).2⟩⟩
 ·obtain⟨C,h1,h2⟩:=acg E hx n w hI
  refine⟨C,h1,λv W hC=>?_⟩;obtain⟨h3,h4,p,q,c,d,L,h5,h6,h7,h8,h9,h10⟩:=h2 v W hC;exact⟨h3,h4,p,q,c,d,L,h5,h6,h7,h8,h9,λm=>⟨(h10 m).1.up (by omega),(h10 m).2⟩⟩
theorem aen(E:XE)(hx:eY E)(hpl:SG E):Law (XI E) E.wb E.B (y7 917534) where
 bel:=λh k=>h.bel k
 up:=λh k=>h.up k
 blk:=λh=>by
  obtain⟨ps,ty,D,Q,hwf,hp,hd,⟨p,q,c,d,L,lC⟩,_⟩:=h.st;exact⟨_,_,_,_,lC.blk⟩
 step:=λn w o hI hok hP hn hw hB=>SY (XI E n) _ E.wb E.tk E.rb E.B o (aci E hx hpl n o hn hw hP) w hI hok hP.1 (by omega) hB
theorem aak(E sp:Int)(sb:Nat)(r:List Value):Ld E sp sb++r=.int .u64 E::(List.replicate 15 0++[sp]).map (Value.int .u64)++[.map (some sb)]++r:=by
 simp[Ld]
theorem Xt(E sp:Int)(v:Value):jX nY 0 v E sp=qN 1 0 0 0 0 E (List.replicate 15 0++[sp]) v [-1,-1,-1,0,0,0,0,0]:=rfl
theorem JB{l:fD}{F:List aF}(h:bD l F=0):(0≤l.c∧l.c≤100000)∧(1≤l.a∧l.a≤16)∧(1≤l.b∧l.b≤1000)∧(0≤l.e∧l.e≤100000):=by
 unfold bD at h;by_cases h1:l.okA=false
 ·rw[if_pos h1]at h;cases h
 ·rw[if_neg h1]at h
  have h0:l.okA=true:=by cases e:l.okA with|true=>rfl|false=>exact absurd e h1
  by_cases h2:l.okB=false
  ·rw[if_pos h2]at h;cases h
  ·have h3:l.okB=true:=by cases e:l.okB with|true=>rfl|false=>exact absurd e h2
   have h4:=of_decide_eq_true h3;have h5:=of_decide_eq_true h0;exact⟨⟨h4.1,h4.2.1⟩,by omega,by omega,by omega⟩
theorem aal(wb tk kb rb B:Nat)(l:fD)(F:List aF)(w:World)(hW:Blk w wb [tk,rb,(),(),false] 96)(ht:Blk w tk [kb] 83)
 (hP:gy w B kb l.a l.b l.c l.d.toNat l.e.toNat F)(hD:uN w rb l F)(h0:bD l F=0)(hF:F.length≤100)(hev:ErrVar w)(hrb:B≤rb)(hwb:B≤wb)(hB:B≤w.heap.size)(hW0:∃W0:World,W0.heap.size=B∧Bel W0 w∧eX W0∧iG W0):∃E:XE,E.wb=wb∧E.B=B∧eY E∧SG E∧XI E 0 w:=by
 obtain⟨pm,tb,ob,cb,pb,sb,A,T,h1,h2,h3,h4,h5,h6,h7,h8,h9,h10,h11,h12,h13,h14,h15⟩:=hP;obtain⟨iv,L,s,pb2,pc2,cells,v,dk,hsk,hroot,hsum,hs,hb,hpc,hkp,htk,hrow⟩:=hD;obtain⟨hlc,hla,hlb,hle⟩:=JB h0;have hTL:iD L=aJ T:=hsk.trans h6.symm;have hBe:aY L fF=aY (aJ T) fF:=by rw[←hTL,Jv]
 have hex:=Nl h0;rw[←h6]at hex;obtain⟨hld,x,hx,hxe⟩:=nH hex;have htb:∀x∈aJ T,∀y∈x.byt,0≤y∧y≤255:=λx hx y hy=>by
  obtain⟨p,hp,rfl⟩:=List.mem_map.1 hx;obtain⟨i,hi⟩:=List.mem_iff_getElem?.1 hp;exact(h5.tree.aS i p hi).1 y hy
 have hby:∀y∈aY (aJ T) fF,0≤y∧y≤255:=by
  rw[hxe];exact htb x hx
 obtain⟨hok,hlow⟩:=ni hby hld;have hm:=wJ hok lW (by decide:bW.length≤8);rw[hBe]at htk hrow;have hn:ag (aN (bG (aY (aJ T) fF)) bW)=ag (bG (aY (aJ T) fF))++[254,255]:=iH _ _ hlow;have hlen:(ag (aN (bG (aY (aJ T) fF)) bW)).length=(ag (bG (aY (aJ T) fF))).length+2:=by rw[hn];simp
 have hfr:=(A7 hex).2;rw[←hlen]at h1 hrow;have S9:(aN (bG (aY (aJ T) fF)) bW 254).isSome=true:=by
  unfold aN;rw[if_pos (.inl rfl)];rfl
 obtain⟨m,hmm⟩:=e_x (aN (bG (aY (aJ T) fF)) bW);rw[hmm]at h1 h8 hrow hm hlen S9;have aeo:=jo _ hby 24 8 (by omega);have hspb:=rJ bW lW (by decide);have ajj:=l9 bW lW (by decide);obtain⟨pc,aep⟩:=e_x (numAt (aY (aJ T) fF) 24 8);obtain⟨sp,aeq⟩:=e_x (iq (aK bW) 1);rw[aep]at aeo;have ag5:U sp:=by
  have e:iq (aK bW) bW.length=sp:=aeq;rw[e]at hspb;unfold U;omega
 rw[aep,aeq]at h7 htk;rw[Xt]at htk;rw[aak]at h7;have hcl:31≤cells.length:=by
  have:=congrArg List.length htk;rw[List.length_take,JC (by simp) (by simp)]at this;omega
 obtain⟨hinv,hlen2⟩:=rQ.first.files (mi:=l.d.toNat) (mb:=l.e.toNat) F;rw[←h6]at hinv hlen2;have hfew:T.length≤101:=by
  have:(aJ T).length=T.length:=by simp[aJ]
  rw[this]at hlen2;simp at hlen2
  omega
 have hLT:L.length=T.length:=by
  have:=congrArg List.length hTL
  simpa [iD,aJ]using this
 obtain⟨uF,hvb⟩:=qm hrow (by omega);obtain⟨gp,gn,gc,hv,hgn,gcs,hgb⟩:=uF.sl;have aam:∃k n,gcs[0]?=some (.int k n):=by
  obtain⟨p2,c2,e2,h3⟩:=uF.pw;obtain⟨g2,cs2,e3,hb2,hc⟩:=h3 (by omega);rw[hv]at e2;cases e2
  cases e3
  have e4:cs2=gcs:=by
   unfold Blk at hb2 hgb;rw[hb2]at hgb
   injection hgb with hgb
   injection hgb with hgb _
   exact congrArg Array.toList hgb
  subst e4;cases hpn:ag m with
  | nil=>rw[hpn]at hlen;simp at hlen
  | cons a r=>
    have hr0:(aQ m)[0]?=some (.int .i64 a):=by
     unfold aQ;rw[hpn];rfl
    have hl0:0<(aQ m).length:=(bV hr0).1;exact⟨_,_,(hc 0 hl0).trans hr0⟩
 obtain⟨W0,aer,ag6,ag7,ag8⟩:=hW0;have hup:∀W,Below B w W→Bel W0 W:=λW k=>by
  have h:Below W0.heap.size W0 w:=ag6;rw[aer]at h;have:=h.trans k;rw[←aer]at this;exact this
 obtain⟨E,hE⟩:∃E:XE,E=⟨B,wb,tk,kb,rb,pm,tb,ob,cb,pb,sb,pb2,gp,l,A,T,L,w⟩:=⟨_,rfl⟩;have hgB:B≤gp:=by have:=hvb gp (by rw[hv];rfl);omega
 have ag9:B≤pb2:=by omega
 have hfix:eY E:=by
  subst hE;refine⟨⟨_,h1,_,_,rfl⟩,⟨_,h7,_,_,rfl⟩,⟨_,h4,_,_,rfl⟩,⟨_,dk.blk,_,_,rfl⟩,⟨_,hb,.i64,1,?_⟩,⟨_,hW,_,rfl⟩,⟨_,hgb,aam⟩,h2,⟨m,h8,254,S9⟩,⟨hB,h11,h12,h10,hrb,ag9,hwb,hgB,h15,h13⟩,ht,h3,h5,hev,dk.aS,hTL,⟨dk.one,by show L.length≤101;omega⟩,λi m hi h1=>?_,hla,hlb,hlc,λW k=>ag7.bel (hup W k),λW k=>ag8.bel (hup W k),htb,?_,?_⟩
  ·rw[←List.getElem?_take_of_lt (show 0<31 by omega),htk]
   rfl
  ·have:=hinv.conn i m.sk (Nj hTL hi) (by omega)
   have e:m.sk.par=m.par:=rfl;omega
  ·rw[←hTL,pq];exact hroot
  ·rw[←hTL];exact hsum
 have aha:SG E:=by subst hE;exact⟨hinv,hfew⟩
 obtain⟨p0,hp0⟩:∃p0:Xp,p0=⟨1,0,true,0,pc,List.replicate 15 0++[sp],m⟩:=⟨_,rfl⟩;have hmem:∀p∈[p0],p=p0:=λp hp=>List.mem_singleton.1 hp;have JD:aI [p0]=(ag m).length:=by rw[dh,hp0];rfl
 refine⟨E,by rw[hE],by rw[hE],hfix,aha,⟨by rw[hE];exact Keep.refl _ _,[p0],[],⟨λ_=>pb,λ_=>sb,.slice none 0 0,.slice none 0 0,0⟩,⟨s,iv,pb2,pc2,cells,λ_=>v⟩,?_,?_,?_,⟨none,none,0,0,[],?_⟩,?_,by simp⟩⟩
 ·subst hE
  refine⟨⟨p0,[],rfl,by rw[hp0],by rw[hp0]⟩,List.pairwise_singleton _ _,λp hp=>?_,λp hp=>?_,λp hp=>?_,λp hp=>?_,λp hp _=>?_,λp hp hl=>?_,?_⟩
  ·rw[hmem p hp,hp0];show 1≤1∧1≤l.a.toNat;omega
  ·rw[hmem p hp,hp0];exact Nat.zero_le _
  ·rw[hmem p hp,hp0]
   refine⟨by simp,λy hy=>?_,aeo,Int.le_refl 0,(by show(0:Int)≤255;decide)⟩;rcases List.mem_append.1 hy with h|h
   ·have e:y=0:=List.eq_of_mem_replicate h
    rw[e];unfold U;omega
   ·rw[List.mem_singleton.1 h]
    exact ag5
  ·rw[hmem p hp,hp0];exact hm
  ·rw[hmem p hp,hp0];exact⟨254,by omega,S9⟩
  ·rw[hmem p hp,hp0]at hl;cases hl
  ·rw[JD]
   show _≤l.b.toNat
   omega
 ·subst hE
  refine⟨by rw[JD];exact h1,⟨_,h2,List.Perm.of_eq (by rw[hp0];rfl)⟩,λp hp=>?_,λp hp _=>?_,λp hp q hq _ _ _=>by rw[hmem p hp,hmem q hq],?_,Buf.nil w,Buf.nil w,λ_ h=>(by cases h),λq hq=>?_⟩
  ·rw[hmem p hp,hp0];exact h7
  ·rw[hmem p hp,hp0];exact h8
  ·rw[show dN [p0]=1 from by rw[hp0];rfl];exact h4
  ·rcases hq with e|e|e|e|e|⟨p,_,e|⟨_,e⟩⟩
   ·exact .inr (.inl e)
   ·exact .inr (.inr (.inr (.inr (.inr (.inr (.inr (.inr (.inl e))))))))
   ·exact .inr (.inr (.inr (.inl e)))
   ·cases e
   ·cases e
   ·exact .inr (.inr (.inl e))
   ·exact .inr (.inr (.inr (.inr (.inr (.inr (.inr (.inr (.inr e))))))))
 ·subst hE hs
  refine⟨dk,⟨rfl,rfl⟩,rfl,hpc,rfl,rfl,hb,?_,by simpa using hcl,λp hp _=>?_,λp hp q hq _ _ _ _ _=>by rw[hmem p hp,hmem q hq],Buf.nil w,Buf.nil w,λ_ h=>(by cases h),λq hq=>?_⟩
  ·rw[hp0,List.length_singleton,Nat.one_mul]
   show cells.take 31=dL _ v++[]
   rw[List.append_nil];exact htk
  ·rw[hmem p hp,hp0];exact uF
  ·rcases hq with e|e|e|e|⟨p,_,_,e⟩
   ·exact .inr (.inr (.inr (.inr (.inl e))))
   ·exact .inr (.inr (.inr (.inr (.inr (.inl e)))))
   ·cases e
   ·cases e
   ·have e:v.ownBlock=some q:=e
    rw[hv]at e;have e2:gp=q:=by simpa [Value.ownBlock]using e
    exact .inr (.inr (.inr (.inr (.inr (.inr (.inr (.inl e2.symm)))))))
 ·subst hE
  exact⟨hW,yl _ _,yl _ _,by simp,λ_ _ e=>(by cases e),λ_ _ e=>(by cases e)⟩
 ·subst hE hs
  intro q hq hr;have hq2:(∃cs t,Blk w q cs t∧t≠174∧t≠167∧t≠260)∨∃kv,Mp iK w q kv:=by
   rcases hq with e|e|e|e|e|⟨p,_,e|⟨_,e⟩⟩
   ·subst e;exact .inl ⟨_,_,h1,by decide⟩
   ·subst e;exact .inr ⟨_,h2⟩
   ·subst e;exact .inl ⟨_,_,h4,by decide⟩
   ·cases e
   ·cases e
   ·subst e;exact .inl ⟨_,_,h7,by decide⟩
   ·subst e;exact .inr (mJ h8)
  have hr2:∃cs t,Blk w q cs t∧(t=174∨t=167∨t=260):=by
   rcases hr with e|e|e|e|⟨p,_,_,e⟩
   ·subst e;exact⟨_,_,dk.blk,.inl rfl⟩
   ·subst e;exact⟨_,_,hb,.inr (.inl rfl)⟩
   ·cases e
   ·cases e
   ·have e:v.ownBlock=some q:=e
    rw[hv]at e;have e2:gp=q:=by simpa [Value.ownBlock]using e
    subst e2;exact⟨_,_,hgb,.inr (.inr rfl)⟩
  obtain⟨cs2,t2,hb2,ht2⟩:=hr2;rcases hq2 with⟨cs,t,hb3,n1,n2,n3⟩|⟨kv,hm2⟩
  ·refine hb2.ne hb3 (λe=>?_) rfl
   rcases ht2 with h|h|h
   ·exact n1 (e.symm.trans h)
   ·exact n2 (e.symm.trans h)
   ·exact n3 (e.symm.trans h)
  ·exact hb2.aP hm2 rfl
end
section
open Go.Proofs.Tryz Go.RowKit
theorem Ea(z:Value)(n:Nat):madeCells #[z] n=(List.replicate n z).toArray:=lK z n▸by simp[madeCells,Builtin.zeroCells]
theorem OV(n:Nat)(hn:n≤1000000)(x:Int)(w:World)(hx:x=n):(Instr.makeSlice 59 (.int .i64 x) (.int .i64 x)).run prog w=.ok (.slice (w.heap.size,0) n n) (w.alloc (.cells (List.replicate n (Value.int .u8 0)).toArray 5)):=by
 obtain⟨i,hi,h1,h2,h3⟩:=info_parts CY;subst hx;have:=run_makeSlice (P:=prog) (w:=w) 59 5 i (.int .u8 0) underlying59 hi h1 .i64 .i64 n n (by omega) (by omega) (by rw[h2];omega) (by rw[h3];omega) (by omega);rw[h2,Nat.mul_one,show(Value.int .u8 0).cells = #[Value.int .u8 0]from rfl,Ea]at this;exact this
def KP:List Int:=[127,69,76,70,2,1,1]++List.replicate 253 0
def kX:List Int:=(((((((((((((((KP).set 16 2).set 18 243).set 20 1).set 25 1).set 32 64).set 52 64).set 54 56).set 56 1).set 64 1).set 68 5).set 73 1).set 81 1).set 96 4).set 104 4).set 256 22
theorem Ye(w:World):Calls prog 21 #[] w λe w'=>(∃g,e=.returned (.slice (g,0) 260 260)∧w.heap.size≤g∧Blk w' g (kX.map (Value.int .u8)) 5)∧Bel w w':=by
 obtain⟨zs,hzs⟩:=e_x (List.replicate 260 (Value.int .u8 0));have hmk:=λW=>OV 260 (by omega) 260 W rfl;rw[hzs]at hmk;have HZ:=xh hzs;clear hzs;go_enter func21,ntmps21;go_upto_region 2 with fail
 have k1:Bel w (w.alloc (.cells zs.toArray 5)):=Bel.start w _;have B1:=Blk.new w zs 5;generalize w.alloc (.cells zs.toArray 5)=w1 at *
 obtain⟨g,hg⟩:=e_x w.heap.size;rw[hg]at B1⊢;have hgw:w.heap.size≤g:=by omega
 have HB1:=xh B1;have bP:=xh k1;clear hg B1 k1 hmk;go_upto_region 3 with(refine qH rfl (.tmp 3) (.const (.string ⟨#[127,69,76,70,2,1,1]⟩)) 59 9 rfl 5 underlying59 (by kernel_rfl) g 0 260 260 ⟨#[127,69,76,70,2,1,1]⟩ rfl rfl zs 5 HB1.o (by decide) (by rw[←HZ.o];decide) ?_;intro w2 B2' K2)
 have B2:Blk w2 g (KP.map (Value.int .u8)) 5:=by
  have:=B2'.out;rw[←HZ.o]at this;exact this
 have c16:w2.cell? (g,16)=some (.int .u8 0):=by rw[B2.cell];rfl
 have c18:w2.cell? (g,18)=some (.int .u8 0):=by rw[B2.cell];rfl
 have c20:w2.cell? (g,20)=some (.int .u8 0):=by rw[B2.cell];rfl
 have c25:w2.cell? (g,25)=some (.int .u8 0):=by rw[B2.cell];rfl
 have c32:w2.cell? (g,32)=some (.int .u8 0):=by rw[B2.cell];rfl
 have c52:w2.cell? (g,52)=some (.int .u8 0):=by rw[B2.cell];rfl
 have c54:w2.cell? (g,54)=some (.int .u8 0):=by rw[B2.cell];rfl
 have c56:w2.cell? (g,56)=some (.int .u8 0):=by rw[B2.cell];rfl
 have c64:w2.cell? (g,64)=some (.int .u8 0):=by rw[B2.cell];rfl
 have c68:w2.cell? (g,68)=some (.int .u8 0):=by rw[B2.cell];rfl
 have c73:w2.cell? (g,73)=some (.int .u8 0):=by rw[B2.cell];rfl
 have c81:w2.cell? (g,81)=some (.int .u8 0):=by rw[B2.cell];rfl
 have c96:w2.cell? (g,96)=some (.int .u8 0):=by rw[B2.cell];rfl
 have akq:w2.cell? (g,104)=some (.int .u8 0):=by rw[B2.cell];rfl
 have akr:w2.cell? (g,256)=some (.int .u8 0):=by rw[B2.cell];rfl
 have f2:=B2.frozen;have hl:=B2.lt;have HB2:=xh B2;have iC:Hid (Bel w w2):=xh (Below.trans bP.o (K2.below _ bP.o.size (λq hq=>by have hq:q=g:=hq;omega)));clear B2 B2' K2;go_wp2
 go_ret
 refine⟨⟨g,rfl,hgw,?_⟩,(((((((((((((((iC.o).store (p:=⟨g,16,none⟩) hgw _).store (p:=⟨g,18,none⟩) hgw _).store (p:=⟨g,20,none⟩) hgw _).store (p:=⟨g,25,none⟩) hgw _).store (p:=⟨g,32,none⟩) hgw _).store (p:=⟨g,52,none⟩) hgw _).store (p:=⟨g,54,none⟩) hgw _).store (p:=⟨g,56,none⟩) hgw _).store (p:=⟨g,64,none⟩) hgw _).store (p:=⟨g,68,none⟩) hgw _).store (p:=⟨g,73,none⟩) hgw _).store (p:=⟨g,81,none⟩) hgw _).store (p:=⟨g,96,none⟩) hgw _).store (p:=⟨g,104,none⟩) hgw _).store (p:=⟨g,256,none⟩) hgw _⟩;have B:=(((((((((((((((HB2.o).setCell (o:=16) (.int .u8 2)).setCell (o:=18) (.int .u8 243)).setCell (o:=20) (.int .u8 1)).setCell (o:=25) (.int .u8 1)).setCell (o:=32) (.int .u8 64)).setCell (o:=52) (.int .u8 64)).setCell (o:=54) (.int .u8 56)).setCell (o:=56) (.int .u8 1)).setCell (o:=64) (.int .u8 1)).setCell (o:=68) (.int .u8 5)).setCell (o:=73) (.int .u8 1)).setCell (o:=81) (.int .u8 1)).setCell (o:=96) (.int .u8 4)).setCell (o:=104) (.int .u8 4)).setCell (o:=256) (.int .u8 22);unfold kX;simp only[List.map_set]
 exact B
end
section
open Go.RowKit Go.Maps Go.Shelf
def lG:fD:=⟨2,10,2,3,1000⟩
def JY:ByteArray:=⟨#[47,105,110,105,116]⟩
def yE(p:Option Addr)(cap:Nat):List aF:=[⟨JY,false,p,cap,kX⟩]
def CG:List Nd:=[dZ,⟨1,⟨#[105,110,105,116]⟩,false,kX,eU⟩]
theorem JZ:ay kX=true:=by kernel_rfl
theorem Ul:gJ kX=true:=by kernel_rfl
theorem acT:(dQ kX).toNat=1:=by kernel_rfl
theorem Og:dS kX=true:=by kernel_rfl
theorem Um:jh kX=0:=by
 unfold jh;rw[JZ,Ul,acT,Og];rw[if_neg (by simp),if_neg (by simp),if_pos (λk hk=>?_),if_pos rfl];obtain rfl:k=0:=by omega
 intro n _ _;rfl
theorem J3(p:Option Addr)(cap:Nat):bK 3 1000 [dZ] (yE p cap)=(0,CG):=by kernel_rfl
theorem CJ:(az CG fF).2.2.2=0∧(az CG fF).2.2.1=2:=⟨by kernel_rfl,by kernel_rfl⟩
theorem Oh:(ag (bG kX)).length=1:=by kernel_rfl
theorem Oi:dM CG fF true 0 0 10=0:=by
 unfold dM;rw[CJ.1,CJ.2];rw[if_neg (by simp),if_neg (by simp)];simp only[CG,Nat.reduceSub,List.getElem?_cons_succ,List.getElem?_cons_zero]
 rw[if_neg (by simp),Um,if_neg (by simp),if_neg (by simp),Oh,if_neg (by simp)]
theorem Oe(p:Option Addr)(cap:Nat):bD lG (yE p cap)=0:=by
 unfold bD;rw[show lG.okA=true from by kernel_rfl,show lG.okB=true from by kernel_rfl,show lG.d.toNat=3 from rfl,show lG.e.toNat=1000 from rfl,show lG.b.toNat=10 from rfl,J3];rw[if_neg (by simp),if_neg (by simp),if_neg (by decide),if_neg (by simp)];exact Oi
end
section
open Go.Proofs.Tryz Go.RowKit Go.Maps Go.Shelf
theorem aaD(g b:Nat)(W:World)(hb:Blk W b [.string JY,false,.slice (some ⟨g,0,none⟩) 260 260] 71)(hg:Blk W g (kX.map (Value.int .u8)) 5):uP W (yE (some ⟨g,0,none⟩) 260) (.slice (some ⟨b,0,none⟩) 1 1):=by
 have hlen:kX.length=260:=by kernel_rfl
 have hby:∀x∈kX,0≤x∧x≤255:=by
  have:kX.all (λx=>decide (0≤x∧x≤255))=true:=by kernel_rfl
  intro x hx;exact of_decide_eq_true (List.all_eq_true.1 this x hx)
 refine⟨by simp[yE],⟨_,_,rfl,λi f hf=>?_⟩,λf hf=>?_⟩
 ·have hi:i=0:=by have:=(bV hf).1;simp[yE]at this;omega
  subst hi;cases hf
  refine⟨b,rfl,λj u hj=>?_⟩;rw[Nat.zero_mul,Nat.zero_add,hb.cell,←hlen];exact hj
 ·have hf':f=⟨JY,false,some ⟨g,0,none⟩,260,kX⟩:=List.mem_singleton.1 hf
  subst hf';refine⟨⟨hby,λ_=>⟨g,0,rfl,hg.lt,⟨λi hi=>?_,hby⟩⟩⟩,by show kX.length≤260;omega,by show kX.length≤200000;omega,by show JY.size≤1000000;decide,λb' o hb=>?_⟩
  ·rw[Nat.zero_add,hg.cell,fA]
  ·cases hb
   exact hg.lt
theorem Uk(g b:Nat)(w1 W:World)(k:Bel w1 W)(hb:Blk W b [.string JY,false,.slice (some ⟨g,0,none⟩) 260 260] 71)(hg:Blk W g (kX.map (Value.int .u8)) 5)(hmx:eX w1)(hfix:iG w1) :
 Calls prog 20 #[.agg #[(2:Int),(10:Int),(2:Int),(3:Int),(1000:Int)],.slice (some ⟨b,0,none⟩) 1 1] W λe w'=>∃tk:Nat,e=.returned (.tuple #[tk,.nilIface])∧Bel W w':=by
 refine aH (Eo lG (yE (some ⟨g,0,none⟩) 260) (.slice (some ⟨b,0,none⟩) 1 1) W (λW' hW=>aaD g b W' (hb.bel hW) (hg.bel hW)) (hmx.bel k) (hfix.bel k)) ?_;rintro e w' ⟨h1,_,h3⟩;obtain⟨tk,kb,rfl,_⟩:=h3 (Oe _ _);exact⟨tk,rfl,h1⟩
theorem TI(w:World)(hmx:eX w)(hfix:iG w):Calls prog 8 #[] w (Z.b (.bool true) w):=by
 have HV:=xh (And.intro hmx hfix);clear hmx hfix;go_enter func8,ntmps8
 go_wp2_with (first
  | (go_at_call 21;((with_reducible refine aH (Ye _) ?_);rintro e w1 ⟨⟨g,rfl,hg,hB⟩,hk⟩;have H1:=xh (And.intro hB hk);clear hg hB hk))
  | (go_at_call 20;((with_reducible refine aH (Uk g w1.heap.size w _ (H1.o.2.ac _) (Blk.new w1 _ _) (H1.o.1.alloc _) HV.o.1 HV.o.2) ?_);rintro e w3 ⟨tk,rfl,hk⟩;have jP:=xh ((H1.o.2.ac _).tr hk);clear hk))
  | (go_at_call 14;((with_reducible refine aH (Bq _) ?_);rintro e w4 ⟨rfl,hk⟩;have qh:=xh (jP.o.tr hk);clear hk)))
 go_ret
 exact⟨rfl,qh.o⟩
end
section
open Go.Proofs.Tryz Go.RowKit Go.MapKept Go.Maps Go.Shelf
theorem TG(l:fD)(F:List aF)(p:Option Addr)(cap:Nat)(ops:List uz)(sp:Option Addr)(sc:Nat)(w:World)(hr:∀(i:Nat) (f:aF),F[i]?=some f→∃g o,p=some ⟨g,o,none⟩∧w.rangeAt g (o+i*3) [.string f.path,.bool f.dir,.slice f.p f.byt.length f.cap])(hl:F.length≤1048576)
 (hs:∀f∈F,BS w f.p f.byt∧f.byt.length≤1048576∧f.path.size≤1048576∧f.byt.length≤f.cap∧(0<f.byt.length→∀b o,f.p=some ⟨b,o,none⟩→b<w.heap.size))(hmx:eX w)(hfix:iG w)(hev:ErrVar w)(hsc:FU w sp ops)(hk0:ops.length≤1048576) :
 Calls prog 7 #[.agg #[.int .i64 l.a,.int .i64 l.b,.int .i64 l.c,.int .i64 l.d,.int .i64 l.e,(p,F.length,cap)],(sp,ops.length,sc)] w (Z.b (.bool true) w):=by
 have hpl:=λ(W:World) (hW:Bel w W)=>NM 917534 (by decide) l F p cap ops sp sc W (λi f hf=>by
  obtain⟨g,o,h1,h2⟩:=hr i f hf;exact⟨g,o,h1,λj u hj=>af hW (h2 j u hj)⟩) hl (λf hf=>⟨(hs f hf).1.bel hW,(hs f hf).2.1,(hs f hf).2.2.1,(hs f hf).2.2.2.1,λh0 b o hb=>Nat.lt_of_lt_of_le ((hs f hf).2.2.2.2 h0 b o hb) hW.size⟩) (hmx.bel hW) (hfix.bel hW) (hev.bel hW) (hsc.bel hW) hk0 (λB wb tk kb rb W2 h1 h2 h3 h4 h5 h6 h7 h8 h9 h10 h11=>by
   obtain⟨E,rfl,rfl,q1,q2,q3⟩:=aal wb tk kb rb B l F W2 h1 h2 h3 h4 h5 h6 h7 h8 h9 h10 h11;exact⟨XI E,aen E q1 q2,q3⟩)
 have XM:=xh hpl;have HLV:=xh λW (hW:Bel w W)=>TI W (hmx.bel hW) (hfix.bel hW);clear hpl hr hl hs hmx hfix hev hsc hk0;go_enter func7,ntmps7;have BX:=Blk.new w [.int .i64 l.a,.int .i64 l.b,.int .i64 l.c,.int .i64 l.d,.int .i64 l.e,(p,F.length,cap)] 26;have kx:Bel w (w.alloc (.cells #[.int .i64 l.a,.int .i64 l.b,.int .i64 l.c,.int .i64 l.d,.int .i64 l.e,(p,F.length,cap)] 26)):=Bel.start _ _;change Blk (w.alloc (.cells #[.int .i64 l.a,.int .i64 l.b,.int .i64 l.c,.int .i64 l.d,.int .i64 l.e,(p,F.length,cap)] 26)) w.heap.size _ _ at BX
 go_upto_region 1 with fail
 generalize w.alloc (.cells #[.int .i64 l.a,.int .i64 l.b,.int .i64 l.c,.int .i64 l.d,.int .i64 l.e,(p,F.length,cap)] 26)=w2 at *
 obtain⟨xb,hxb⟩:=e_x w.heap.size;rw[hxb]at BX⊢;have uy:=xh BX;have HK:Hid (Bel w w2):=xh kx;clear BX kx hxb;go_upto_region 2 with(go_at_call 8;((with_reducible refine aH (HLV.o _ HK.o) ?_);rintro e w3 ⟨rfl,hk3⟩;have H3:=xh (HK.o.tr hk3);have HB3:=xh (uy.o.bel hk3);clear hk3))
 have HB:=HB3.o;have x0:=HB.c 0 rfl;have x1:=HB.c 1 rfl;have x2:=HB.c 2 rfl;have x3:=HB.c 3 rfl;have x4:=HB.c 4 rfl;have x5:=HB.c 5 rfl;clear HB;have HPY:=xh (XM.o w3 H3.o);go_wp2_with (go_at_call 22;((with_reducible refine aH HPY.o ?_);rintro e7 w7 ⟨rfl,k7⟩;have H7:=xh k7;clear k7))
 go_ret
 exact⟨rfl,H3.o.tr H7.o⟩
end
end Go.Proofs.YtcnjjchlebmfiaaGreatDoor
