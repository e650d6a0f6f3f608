/-.-/
import Derived.Test.YtcnjjchlebmfiaaGreatDoorP27
set_option linter.all false
set_option maxRecDepth 100000
set_option maxHeartbeats 16000000
namespace Go.Proofs.YtcnjjchlebmfiaaGreatDoor
section
open Go.Proofs.Tryz Go.RowKit Go.MapKept Go.Maps
def toW(D:XD)(p:Xp):iY:=⟨p.pid,D.bl p.pid,p.par,p.st,p.sv⟩
theorem tH(D:XD)(own:Nat)(p:Xp):oP (own:Int) (toW D p)=mZ own p:=by
 unfold oP mZ toW Xp.st;have h1:((p.par:Int)==(own:Int))=(p.par==own):=by
  by_cases e:p.par=own
  ·rw[beq_iff_eq.2 e,beq_iff_eq.2 (by omega)]
  ·rw[dK e,dK (by omega)]
 simp only[h1]
 cases p.live<;>simp
theorem WE{α:Type}{l:List α}{i:Nat}{z:α}(h:l[i]?=some z):l=l.take i++z::l.drop (i+1):=by
 obtain⟨hl,e⟩:=bV h;rw[←e,←List.drop_eq_getElem_cons hl,List.take_append_drop]
section
variable {E:XE} {ty:List Int} {s s':List Xp} {D:XD} {w:World} (hx:eY E) (hp:PX E w s ty D) (hk:fB E w) (hw:lQ E.l.a.toNat E.l.b.toNat s) {x:Xp} (hxs:x∈s) (hl:x.live=true)
include hx hp hk hw hxs hl
theorem PD{kv:List (Int×Value)}(hm:Mp kM w E.pm kv)(hpm:kv.Perm (s.map (je D))):Calls prog 158 #[E.kb,.pointer (D.bl x.pid,0)] w (EF kv E.pm x.pid (s.map (toW D)) w):=by
 have hlen:=hw.len;have hla:=hx.la;refine WG E.kb (D.bl x.pid) E.pm kv x.pid (s.map (toW D)) w (hp.hk.cell 5) (by rw[(hp.oC x hxs).cell];exact rF (hw.reg x hxs).1 _) hm ?_ ?_ (by simp;omega) λy hy=>?_
 ·rw[List.map_map]
  exact hpm
 ·rw[List.map_map]
  have h2:=hw.sort;rw[List.pairwise_map]at h2⊢;exact h2.imp λh=>by simp only[Function.comp_apply,toW];omega
 ·obtain⟨p,hps,rfl⟩:=List.mem_map.1 hy
  have hr:=(hw.reg p hps).1;have hg:=(hw.MH p hps).2;have hb:=hp.oC p hps;refine⟨?_,?_,?_,⟨by simp only[toW];omega,by simp only[toW];omega⟩⟩
  ·show w.cell? (D.bl p.pid,19)=_
   rw[hb.cell,show 19=17+2 from rfl,mM hr];rfl
  ·show w.cell? (D.bl p.pid,20)=_
   rw[hb.cell,show 20=17+3 from rfl,mM hr];rfl
  ·show w.cell? (D.bl p.pid,21)=_
   rw[hb.cell,show 21=17+4 from rfl,mM hr];rfl
theorem WH(a b:Int)(t:ByteArray)(lp dp:Option Addr)(ln lc dn dc:Nat)(hz:∀q∈s,mZ x.pid q=false):jQ E (if s.any (λq=>q.par==x.pid)then 16 else 17) x.pid 4 a b t lp dp ln lc dn dc w:=
 GG hx hp hk hw hxs hl _ _ 4 a b t lp dp ln lc dn dc (λ_ _=>by kernel_rfl) Je λW hW=>by
  have hf:(s.map (toW D)).find? (oP (x.pid:Int))=none:=by
   rw[List.find?_eq_none];intro y hy;obtain⟨p,hps,rfl⟩:=List.mem_map.1 hy;rw[tH,hz p hps]
   decide
  have he:uY (x.pid:Int) (s.map (toW D))=if s.any (λq=>q.par==x.pid)then 16 else 17:=by
   unfold uY;rw[List.any_map];congr 2
   congr 1
   funext p
   simp only[Function.comp_apply,toW]
   by_cases e:p.par=x.pid
   ·rw[beq_iff_eq.2 e,beq_iff_eq.2 (by omega)]
   ·rw[dK e,dK (by omega)]
  refine(EG E.kb (D.bl x.pid) 4 a b t lp dp ln lc dn dc W (λn m ev w'=>n=0∧m=0∧ev=.iface 48 (.int .i64 (uY (x.pid:Int) (s.map (toW D))))∧Bel W w') λW2 hW2 _ hB=>?_).mono ?_
  ·obtain⟨kv,hm,hpm⟩:=(hp.bel (hW.tr hW2)).map
   refine(PD hx (hp.bel (hW.tr hW2)) (hk.tr (Keep.of_bel _ (hW.tr hW2))) hw hxs hl hm hpm).mono λe w' h=>?_;unfold EF at h;rw[hf]at h;exact⟨_,_,_,h.1,⟨rfl,rfl,rfl,hW2.tr h.2⟩,hB.bel h.2⟩
  ·rintro e w' ⟨n,m,ev,w3,rfl,⟨rfl,rfl,rfl,h⟩,k⟩
   rw[he];exact⟨_,_,_,_,_,rfl,fU h k (by omega)⟩
theorem ZW{i:Nat}{z:Xp}(hi:s[i]?=some z)(hz:mZ x.pid z=true)(hb:∀j q,j<i→s[j]?=some q→mZ x.pid q=false):(s.map (toW D)).find? (oP (x.pid:Int))=some (toW D z):=by
 rw[WE hi,List.map_append,List.find?_append];rw[show(List.map (toW D) (s.take i)).find? (oP (x.pid:Int))=none from List.find?_eq_none.2 λy hy=>by
  obtain⟨p,hps,rfl⟩:=List.mem_map.1 hy;obtain⟨j,hj⟩:=List.getElem?_of_mem hps;rw[List.getElem?_take]at hj;split at hj
  ·rename_i hji
   rw[tH,hb j p hji hj]
   decide
  ·cases hj]
 rw[Option.none_or,List.map_cons,List.find?_cons_of_pos];rw[tH];exact hz
theorem WI{w':World}{kv:List (Int×Value)}{i:Nat}{z:Xp}(hm:Mp kM w E.pm kv)(hpm:kv.Perm (s.map (je D)))(hi:s[i]?=some z)(hz:z.live=false)(hm2:Mp kM w' E.pm (yX kv z.pid))(k:Keep (λq=>q=E.pm) w w'){n:Nat}:zW E ty s D (s.take i++s.drop (i+1)) n w D w':=by
 have hzs:=List.mem_of_getElem? hi;have hsp:=WE hi;have hne0:s≠[]:=λe=>by rw[e]at hxs;cases hxs
 have hmem:∀p∈s.take i++s.drop (i+1),p∈s:=λp h=>by
  rcases List.mem_append.1 h with h1|h1
  ·exact List.mem_of_mem_take h1
  ·exact List.mem_of_mem_drop h1
 have hn0:z.n=0:=by
  unfold Xp.n;rw[show z.M=yU from funext (hw.dead z hzs hz)];exact wI
 have hus:aI (s.take i++s.drop (i+1))=aI s:=by
  have h1:aI s=aI (s.take i++z::s.drop (i+1)):=by rw[←hsp]
  rw[h1,gW,gW,dh];omega
 have hls:dN (s.take i++s.drop (i+1))=dN s:=by
  have h1:dN s=dN (s.take i++z::s.drop (i+1)):=by rw[←hsp]
  rw[h1,mY,mY,gZ,hz];simp
 have hblk:∀q cs t,Blk w q cs t→¬q=E.pm:=λq cs t hb=>hb.aP hm;have hbuf:∀{v:Value} {L:List Int},Buf w v L→Buf w' v L:=λhb=>hb.keep k λg hg=>by
  obtain⟨_,hb2⟩:=hb.blk hg;exact hblk _ _ _ hb2
 have foot:∀q,bH E (s.take i++s.drop (i+1)) D q→bH E s D q:=λq hq=>by
  rcases hq with e|e|e|e|e|⟨p,hp1,hp2⟩
  ·exact .inl e
  ·exact .inr (.inl e)
  ·exact .inr (.inr (.inl e))
  ·exact .inr (.inr (.inr (.inl e)))
  ·exact .inr (.inr (.inr (.inr (.inl e))))
  ·exact .inr (.inr (.inr (.inr (.inr ⟨p,hmem p hp1,hp2⟩))))
 have hdel:yX kv (z.pid:Int) |>.Perm ((s.take i++s.drop (i+1)).map (je D)):=by
  unfold yX;refine(hpm.filter _).trans ?_;have h1:∀l:List Xp,(∀p∈l,p.pid≠z.pid)→(l.map (je D)).filter (λp=>decide (p.1≠(z.pid:Int)))=l.map (je D):=λl hl2=>by
   rw[List.filter_eq_self];intro y hy;obtain⟨p,hps,rfl⟩:=List.mem_map.1 hy;have:=hl2 p hps;exact decide_eq_true (show((p.pid:Nat):Int)≠z.pid by omega)
  have h2:∀p∈s.take i,p.pid≠z.pid:=λp hps e=>by
   obtain⟨j,hj⟩:=List.getElem?_of_mem hps;rw[List.getElem?_take]at hj;split at hj
   ·rename_i hji
    have:=hw.uniq hj hi e;omega
   ·cases hj
  have h3:∀p∈s.drop (i+1),p.pid≠z.pid:=λp hps e=>by
   obtain⟨j,hj⟩:=List.getElem?_of_mem hps;rw[List.getElem?_drop]at hj;have:=hw.uniq hj hi e;omega
  have h4:(s.map (je D))=(s.take i).map (je D)++je D z::(s.drop (i+1)).map (je D):=by
   rw[←List.map_cons,←List.map_append,←hsp]
  rw[h4,List.filter_append,List.filter_cons,List.map_append,h1 _ h2,if_neg (by simp[je]),h1 _ h3]
 refine⟨⟨?_,⟨_,hm2,hdel⟩,λp hp1=>(hp.oC p (hmem p hp1)).keep k (hblk _ _ _ (hp.oC p (hmem p hp1))),λp hp1 hp2=>(hp.rE p (hmem p hp1) hp2).of_block (k.block _ (hp.rE p (hmem p hp1) hp2).lt (hp.Wj (hp.rE p (hmem p hp1) hp2) hne0)),λp hp1 q hq1=>hp.inj p (hmem p hp1) q (hmem q hq1),?_,hbuf hp.tb,hbuf hp.ub,hp.ap,λq hq=>hp.lo q (foot q hq)⟩,k.mono λq hq=>.inr (.inl hq),λq hq=>.inl (foot q hq),λq hq=>hp.lt hq⟩
 ·rw[hus]
  exact hp.hk.keep k (hblk _ _ _ hp.hk)
 ·rw[hls]
  exact hp.hc.keep k (hblk _ _ _ hp.hc)
theorem WJ(a b:Int)(t:ByteArray)(lp dp:Option Addr)(ln lc dn dc:Nat){i:Nat}{z:Xp}(hi:s[i]?=some z)(hz:mZ x.pid z=true)(hb:∀j q,j<i→s[j]?=some q→mZ x.pid q=false):zL E ty s D (s.take i++s.drop (i+1)) z.pid z.sv [] x.pid 4 a b t lp dp ln lc dn dc w:=
 V9 hx hp hk hw hxs hl z.pid z.sv [] _ 4 a b t lp dp ln lc dn dc (λ_ _=>by kernel_rfl) Je λW hW=>by
  have hzl:z.live=false:=by unfold mZ at hz;simp at hz;exact hz.2
  refine(EG E.kb (D.bl x.pid) 4 a b t lp dp ln lc dn dc W (λn m ev w'=>n=z.pid∧m=z.sv∧ev=.nilIface∧zW E ty s D (s.take i++s.drop (i+1)) (W.heap.size+2) W D w') λW2 hW2 hsz hB=>?_).mono ?_
  ·have xY:=hp.bel (hW.tr hW2)
   have hkW:=hk.tr (Keep.of_bel _ (hW.tr hW2));obtain⟨kv,hm,hpm⟩:=xY.map;refine(PD hx xY hkW hw hxs hl hm hpm).mono λe w' h=>?_;unfold EF at h;rw[ZW hx xY hkW hw hxs hl hi hz hb]at h;obtain⟨e1,e2,e3⟩:=h;have hst:=WI hx xY hkW hw hxs hl hm hpm hi hzl e2 e3 (n:=W2.heap.size);exact⟨_,_,_,e1,⟨rfl,rfl,rfl,hst.bel hW2 (hp.bel hW) hsz⟩,hB.keep e3 (hB.aP hm)⟩
  ·rintro e w' ⟨n,m,ev,w3,rfl,⟨rfl,rfl,rfl,h⟩,k⟩
   exact⟨_,_,_,_,_,rfl,((h.box k (by omega) (by omega)).ans).weak (by omega)⟩
end
theorem EH(cb:Nat){p:Xp}(h:p.rs.length=16)(sb pid:Nat):pG (pid:Int) (uh cb p sb)=uh cb (p.kid pid) sb:=by
 have h19:(uh cb p sb)[19]?=some (.int .i64 (p.par:Int)):=by
  rw[show 19=17+2 from rfl,mM h];rfl
 unfold pG;rw[h19];unfold Xp.kid;by_cases e:p.par=pid
 ·rw[if_pos e,if_pos (by rw[e])]
  obtain⟨r0,r1,r2,r3,r4,r5,r6,r7,r8,r9,r10,r11,r12,r13,yf,vM,e2⟩:=Bc h;unfold uh jZ Xp.st;simp only[e2]
  rfl
 ·rw[if_neg e,if_neg (by intro h2;injection h2 with h2;injection h2 with _ h2;omega)]
theorem WL(cb:Nat){p:Xp}(h:p.rs.length=16)(hl:p.live=true)(sb:Nat)(st:Int):QM (uh cb p sb) st=uh cb (p.zom st) sb:=by
 obtain⟨r0,r1,r2,r3,r4,r5,r6,r7,r8,r9,r10,r11,r12,r13,yf,vM,e2⟩:=Bc h;unfold QM AP uh jZ Xp.st Xp.zom Gw;simp only[e2,hl]
 rfl
theorem ZX(pid:Nat)(st:Int)(p:Xp):(p.zom st).kid pid=(p.kid pid).zom st:=by
 unfold Xp.kid Xp.zom;by_cases e:p.par=pid
 ·rw[if_pos e,if_pos e]
 ·rw[if_neg e,if_neg e]
noncomputable def csX(E:XE)(D:XD)(s:List Xp)(b:Nat):List Value:=((s.find? λp=>decide (D.bl p.pid=b)).map λp=>uh E.cb p (D.sp p.pid)).getD []
theorem RF{s:List Xp}{x:Xp}(hp:(s.map Xp.pid).Pairwise (·< ·))(hx:x∈s)(st:Int):aI (iw x.pid st s)+x.n=aI s:=by
 induction s with
 | nil=>cases hx
 | cons a l ih=>
   rw[List.map_cons,List.pairwise_cons]at hp;have h1:iw x.pid st (a::l)=gI x.pid st a::iw x.pid st l:=rfl;rw[h1,dh,dh];rcases List.mem_cons.1 hx with rfl|h2
   ·have h3:(gI x.pid st x).n=0:=by
     unfold gI;rw[if_pos rfl];exact wI
    have h4:aI (iw x.pid st l)=aI l:=by
     have key:∀l:List Xp,(∀q∈l,q.pid≠x.pid)→aI (iw x.pid st l)=aI l:=λl hl=>by
      induction l with
      | nil=>rfl
      | cons b l ih2=>
        have h5:iw x.pid st (b::l)=gI x.pid st b::iw x.pid st l:=rfl;rw[h5,dh,dh,ih2 λq hq=>hl q (List.mem_cons_of_mem _ hq)];congr 1
        unfold gI Xp.n;rw[if_neg (hl b (List.mem_cons_self ..)),(dX _ _).2.1]
     exact key l λq hq=>by
      have:=hp.1 q.pid (List.mem_map.2 ⟨q,hq,rfl⟩);omega
    omega
   ·have h3:=ih hp.2 h2
    have h4:(gI x.pid st a).n=a.n:=by
     have:=hp.1 x.pid (List.mem_map.2 ⟨x,h2,rfl⟩);unfold gI Xp.n;rw[if_neg (by omega),(dX _ _).2.1]
    omega
theorem RG{s:List Xp}{x:Xp}(hp:(s.map Xp.pid).Pairwise (·< ·))(hx:x∈s)(hl:x.live=true)(st:Int):dN (iw x.pid st s)+1=dN s:=by
 induction s with
 | nil=>cases hx
 | cons a l ih=>
   rw[List.map_cons,List.pairwise_cons]at hp;have h1:iw x.pid st (a::l)=gI x.pid st a::iw x.pid st l:=rfl;rw[h1,gZ,gZ];rcases List.mem_cons.1 hx with rfl|h2
   ·have h3:(gI x.pid st x).live=false:=by
     unfold gI;rw[if_pos rfl];rfl
    have h4:dN (iw x.pid st l)=dN l:=by
     have key:∀l:List Xp,(∀q∈l,q.pid≠x.pid)→dN (iw x.pid st l)=dN l:=λl hl=>by
      induction l with
      | nil=>rfl
      | cons b l ih2=>
        have h5:iw x.pid st (b::l)=gI x.pid st b::iw x.pid st l:=rfl;rw[h5,gZ,gZ,ih2 λq hq=>hl q (List.mem_cons_of_mem _ hq)];congr 1
        unfold gI;rw[if_neg (hl b (List.mem_cons_self ..)),(dX _ _).1]
     exact key l λq hq=>by
      have:=hp.1 q.pid (List.mem_map.2 ⟨q,hq,rfl⟩);omega
    rw[h3,h4,hl];simp
    omega
   ·have h3:=ih hp.2 h2
    have h4:(gI x.pid st a).live=a.live:=by
     have:=hp.1 x.pid (List.mem_map.2 ⟨x,h2,rfl⟩);unfold gI;rw[if_neg (by omega),(dX _ _).1]
    rw[h4];omega
section
variable {E:XE} {ty:List Int} {s s':List Xp} {D:XD} {w:World} (hx:eY E) (hp:PX E w s ty D) (hk:fB E w) (hw:lQ E.l.a.toNat E.l.b.toNat s) {x:Xp} (hxs:x∈s) (hl:x.live=true)
include hx hp hk hw hxs hl
theorem abX{p:Xp}(hps:p∈s):csX E D s (D.bl p.pid)=uh E.cb p (D.sp p.pid):=by
 unfold csX;cases e:s.find? λq=>decide (D.bl q.pid=D.bl p.pid)with
 | none=>
   rw[List.find?_eq_none]at e;exact absurd (decide_eq_true rfl) (e p hps)
 | some q=>
   have h1:=List.find?_some e;have h2:=List.mem_of_find?_eq_some e;have h3:D.bl q.pid=D.bl p.pid:=of_decide_eq_true h1;have h4:=hp.apart hw h2 hps h3;obtain⟨i,hi⟩:=List.getElem?_of_mem h2;obtain⟨j,hj⟩:=List.getElem?_of_mem hps;have h5:=hw.uniq hi hj h4;subst h5;rw[hi]at hj;cases hj
   rfl
theorem abY(st:Int):Calls prog 43 #[E.kb,.pointer (D.bl x.pid,0),st] w λe w'=>e=.returned (.tuple #[])∧zW E ty s D (iw x.pid st s) w.heap.size w D w':=by
 obtain⟨kv,hm,hpm⟩:=hp.map;have hla:=hx.la;have hlb:=hx.lb;have hlen:=hw.len;have hfr:=hw.fr;have hlv:=Pz s;have hrs:=(hw.reg x hxs).1;have hent:∀y∈kv,∃p∈s,je D p=y:=λy hy=>by
  obtain⟨p,hps,e⟩:=List.mem_map.1 (hpm.mem_iff.1 hy);exact⟨p,hps,e⟩
 obtain⟨l0,hl0⟩:∃l0:List (Int×Nat),l0=kv.map λy=>(y.1,D.bl y.1.toNat):=⟨_,rfl⟩;have hkv:l0.map (λy=>(y.1,Value.pointer (y.2,0)))=kv:=by
  rw[hl0,List.map_map]
  conv=>rhs;rw[←List.map_id kv]
  apply List.map_congr_left
  intro y hy;obtain⟨p,_,rfl⟩:=hent y hy;simp[je]
 have hmem0:∀y∈l0,∃p∈s,y=((p.pid:Int),D.bl p.pid):=λy hy=>by
  rw[hl0]at hy;obtain⟨z,hz,rfl⟩:=List.mem_map.1 hy;obtain⟨p,hps,rfl⟩:=hent z hz;exact⟨p,hps,by simp[je]⟩
 have hin0:∀p∈s,((p.pid:Int),D.bl p.pid)∈l0:=λp hps=>by
  rw[hl0];exact List.mem_map.2 ⟨je D p,hpm.mem_iff.2 (List.mem_map.2 ⟨p,hps,rfl⟩),by simp[je]⟩
 have hnd:(l0.map (·.2)).Nodup:=by
  have h1:(l0.map (·.2)).Perm (s.map λp=>D.bl p.pid):=by
   rw[hl0,List.map_map];refine(hpm.map _).trans ?_;rw[List.map_map];refine List.Perm.of_eq (List.map_congr_left λp _=>?_);simp[je]
  refine h1.nodup_iff.2 ?_;have h2:=hw.sort;rw[List.pairwise_map]at h2;unfold List.Nodup;rw[List.pairwise_map];refine List.Pairwise.imp_of_mem ?_ h2;intro p q hp1 hq1 h3 e;have:=hp.apart hw hp1 hq1 e;omega
 have hlen0:l0.length=s.length:=by rw[hl0,jE,hpm.length_eq,jE]
 have hcs:∀p∈s,csX E D s (D.bl p.pid)=uh E.cb p (D.sp p.pid):=λp hps=>abX hx hp hk hw hxs hl hps;have hus:=RF hw.sort hxs st;have hls:=RG hw.sort hxs hl st;have hm':Mp kM w E.pm (l0.map λy=>(y.1,.pointer (y.2,0))):=by rw[hkv];exact hm
 have hc0:Blk w E.cb [.int .i64 ((3*dN (iw x.pid st s)+3:Nat):Int),D.tv,D.uv] 151:=by
  rw[show 3*dN (iw x.pid st s)+3=3*dN s from by omega];exact hp.hc
 refine(VT E.kb E.pm E.tb E.ob E.cb (D.bl x.pid) (D.sp x.pid) E.l.a E.l.b E.l.c E.l.d.toNat E.l.e.toNat (aI s:Nat) D.now (.slice none 0 0) l0 (csX E D s) x.pid x.M st (3*dN (iw x.pid st s)) D.tv D.uv w hp.hk hm' (λy hy=>?_) hnd (by omega) (hin0 x hxs) ?_ ?_ ?_ (hp.rE x hxs hl) (hw.ok x hxs).below ⟨by omega,by omega⟩ (by omega) hc0).mono ?_
 ·obtain⟨p,hps,rfl⟩:=hmem0 y hy
  show Blk w (D.bl p.pid) (csX E D s (D.bl p.pid)) _∧_
  rw[hcs p hps];refine⟨hp.oC p hps,Gx (hw.reg p hps).1 _,p.par,?_⟩;rw[show 19=17+2 from rfl,mM (hw.reg p hps).1];rfl
 ·rw[hcs x hxs,←(hp.oC x hxs).cell]
  exact Jb hx hp hk hw hxs hl
 ·rw[hcs x hxs]
  exact rF hrs _
 ·rw[hcs x hxs]
  obtain⟨r0,r1,r2,r3,r4,r5,r6,r7,r8,r9,r10,r11,r12,r13,yf,vM,e2⟩:=Bc hrs;unfold uh jZ Gw;simp only[e2,hl]
  rfl
 ·rintro e w' ⟨rfl,hkB,hcB,hB,kk⟩
  have hne0:s≠[]:=λe=>by rw[e]at hxs;cases hxs
  have hKs:∀q,(q=E.kb∨q=E.cb∨q∈l0.map (·.2))→q=E.kb∨q=E.cb∨∃p∈s,q=D.bl p.pid:=λq hq=>by
   rcases hq with e|e|e
   ·exact .inl e
   ·exact .inr (.inl e)
   ·obtain⟨y,hy,rfl⟩:=List.mem_map.1 e
    obtain⟨p,hps,rfl⟩:=hmem0 y hy;exact .inr (.inr ⟨p,hps,rfl⟩)
  have kk2:Keep (λq=>q=E.kb∨q=E.cb∨∃p∈s,q=D.bl p.pid) w w':=kk.mono hKs;have Jf:∀q,(∃kv,Mp iK w q kv)→¬(q=E.kb∨q=E.cb∨∃p∈s,q=D.bl p.pid):=λq ⟨kv3,Px⟩ hq=>by
   rcases hq with e|e|⟨p,hps,e⟩
   ·exact hp.hk.aP Px e.symm
   ·exact hp.hc.aP Px e.symm
   ·exact(hp.oC p hps).aP Px e.symm
  have hbuf:∀{v:Value} {L:List Int},Buf w v L→Buf w' v L:=λhb=>hb.keep kk2 λg hg hq=>by
   obtain⟨_,hb2⟩:=hb.blk hg;rcases hq with e|e|⟨p,hps,e⟩
   ·exact hb2.ne hp.hk (by decide) e
   ·exact hb2.ne hp.hc (by decide) e
   ·exact hb2.ne (hp.oC p hps) (by decide) e
  have hmm:∀y∈iw x.pid st s,∃p∈s,y=gI x.pid st p:=λy hy=>by
   obtain⟨p,hps,e⟩:=List.mem_map.1 hy;exact⟨p,hps,e.symm⟩
  have hlive:∀p∈s,(gI x.pid st p).live=true→p.live=true∧(gI x.pid st p).M=p.M∧p.pid≠x.pid:=λp hps h=>by
   unfold gI at h⊢;by_cases e:p.pid=x.pid
   ·rw[if_pos e]at h;cases h
   ·rw[if_neg e]at h⊢
    rw[(dX _ _).1]at h;exact⟨h,(dX _ _).2.1,e⟩
  have foot:∀q,bH E (iw x.pid st s) D q→bH E s D q:=λq hq=>by
   rcases hq with e|e|e|e|e|⟨y,hy,hy2⟩
   ·exact .inl e
   ·exact .inr (.inl e)
   ·exact .inr (.inr (.inl e))
   ·exact .inr (.inr (.inr (.inl e)))
   ·exact .inr (.inr (.inr (.inr (.inl e))))
   ·obtain⟨p,hps,rfl⟩:=hmm y hy
    rw[gX]at hy2;refine .inr (.inr (.inr (.inr (.inr ⟨p,hps,?_⟩))));rcases hy2 with h1|⟨h1,h2⟩
    ·exact .inl h1
    ·exact .inr ⟨(hlive p hps h1).1,h2⟩
  refine⟨rfl,⟨?_,⟨kv,hm.of_block (kk2.block _ hm.lt (Jf _ ⟨kv,hm⟩)),?_⟩,λy hy=>?_,λy hy hyl=>?_,λy hy z hz hyl hzl e=>?_,hcB,hbuf hp.tb,hbuf hp.ub,hp.ap,λq hq=>hp.lo q (foot q hq)⟩,kk2.mono λq hq=>?_,λq hq=>.inl (foot q hq),λq hq=>hp.lt hq⟩
  ·have h1:((aI s:Nat):Int)-(ag x.M).length=((aI (iw x.pid st s):Nat):Int):=by unfold Xp.n at hus;omega
   rw[←h1];exact hkB
  ·refine hpm.trans (List.Perm.of_eq ?_)
   unfold iw;rw[List.map_map];apply List.map_congr_left
   intro p _;show je D p=je D (gI x.pid st p)
   unfold je;rw[gX]
  ·obtain⟨p,hps,rfl⟩:=hmm y hy
   have h1:=hB _ (hin0 p hps);rw[gX];have h2:pG (x.pid:Int) (Ez (csX E D s) (D.bl x.pid) st (D.bl p.pid))=uh E.cb (gI x.pid st p) (D.sp p.pid):=by
    unfold Ez gI;by_cases e:p.pid=x.pid
    ·obtain⟨i,hi⟩:=List.getElem?_of_mem hps
     obtain⟨j,hj⟩:=List.getElem?_of_mem hxs;have h5:=hw.uniq hi hj e;subst h5;rw[hi]at hj;cases hj
     rw[if_pos rfl,if_pos rfl,hcs x hxs,WL E.cb hrs hl,EH E.cb (by exact hrs),ZX]
    ·rw[if_neg e,if_neg (λe2=>e (hp.apart hw hps hxs e2)),hcs p hps,EH E.cb (hw.reg p hps).1]
   rw[←h2];exact h1
  ·obtain⟨p,hps,rfl⟩:=hmm y hy
   obtain⟨h1,h2,_⟩:=hlive p hps hyl;rw[gX,h2];exact(hp.rE p hps h1).of_block (kk2.block _ (hp.rE p hps h1).lt (Jf _ (mJ (hp.rE p hps h1))))
  ·obtain⟨p,hps,rfl⟩:=hmm y hy
   obtain⟨q,ZY,rfl⟩:=hmm z hz;rw[gX,gX]at e⊢;exact hp.inj p hps q ZY (hlive p hps hyl).1 (hlive q ZY hzl).1 e
  ·rcases hq with rfl|rfl|⟨p,hps,rfl⟩
   ·exact .inl rfl
   ·exact .inr (.inr (.inl rfl))
   ·exact .inr (.inr (.inr (.inr (.inr ⟨p,hps,.inl rfl⟩))))
theorem RH(a b:Int)(t:ByteArray)(lp dp:Option Addr)(ln lc dn dc:Nat)(h1:x.pid=1):jQ E 18 x.pid 3 a b t lp dp ln lc dn dc w:=
 wH hx hp hk hw hxs hl 18 _ 3 a b t lp dp ln lc dn dc (λ_ _=>by kernel_rfl) Jg λW hW=>
  RI E.kb (D.bl x.pid) 3 a b t lp dp ln lc dn dc W (by rw[((hp.oC x hxs).bel hW).cell,rF (hw.reg x hxs).1,h1];rfl)
theorem WM(a b:Int)(t:ByteArray)(lp dp:Option Addr)(ln lc dn dc:Nat)(h1:x.pid≠1):zL E ty s D (iw x.pid (AZ a) s) 0 0 [] x.pid 3 a b t lp dp ln lc dn dc w:=
 I8 hx hp hk hw hxs hl _ 3 a b t lp dp ln lc dn dc (λ_ _=>by kernel_rfl) Jg λW hW=>by
  refine(RJ E.kb (D.bl x.pid) 3 a b t lp dp ln lc dn dc W x.pid (by omega) (by rw[((hp.oC x hxs).bel hW).cell];exact rF (hw.reg x hxs).1 _) (λw'=>∃D',zW E ty s D (iw x.pid (AZ a) s) W.heap.size W D' w') λW2 hW2=>?_);refine(abY hx (hp.bel (hW.tr hW2)) (hk.tr (Keep.of_bel _ (hW.tr hW2))) hw hxs hl (AZ a)).mono ?_;rintro e w' ⟨rfl,h⟩;exact⟨rfl,D,h.bel hW2 (hp.bel hW) hW2.le⟩
end
end
section
open Go.Proofs.Tryz Go.RowKit Go.Maps Go.Shelf
structure jA where
 kind:Int
 a:Int
 b:Int
 s:ByteArray
 l:List ByteArray
 lp:Option Addr
 lc:Nat
 d:List Int
 dp:Option Addr
 dc:Nat
structure uz where
 kind:Int
 a:Int
 b:Int
 c:jA
 d:List Int
 dp:Option Addr
 dc:Nat
def jA.cells(c:jA):List Value:=[.int .i64 c.kind,.int .i64 c.a,.int .i64 c.b,.string c.s,.slice c.lp c.l.length c.lc,.slice c.dp c.d.length c.dc]
def uz.cells(o:uz):List Value:=[.int .i64 o.kind,.int .i64 o.a,.int .i64 o.b,.int .i64 o.c.kind,.int .i64 o.c.a,.int .i64 o.c.b,.string o.c.s,.slice o.c.lp o.c.l.length o.c.lc,.slice o.c.dp o.c.d.length o.c.dc,.slice o.dp o.d.length o.dc]
def Eh(w:World)(p:Option Addr)(l:List ByteArray):Prop:=∀(i:Nat) (s:ByteArray),l[i]?=some s→∃g o,p=some ⟨g,o,none⟩∧w.cell? ⟨g,o+i,none⟩=some (.string s)
theorem Eh.bel{w w':World}{p:Option Addr}{l:List ByteArray}(h:Eh w p l)(k:Bel w w'):Eh w' p l:=λi s hi=>by
 obtain⟨g,o,e,hc⟩:=h i s hi;exact⟨g,o,e,af k hc⟩
theorem UT.txS{w:World}{p:Option Addr}{l:List ByteArray}(h:UT w p l):Eh w p l:=λ_ _ hi=>h.cell hi
structure vT(w:World)(o:uz):Prop where
 l:Eh w o.c.lp o.c.l
 cd:BS w o.c.dp o.c.d
 d:BS w o.dp o.d
 n1:o.c.s.size≤1048576
 n2:o.c.l.length≤1048576∧o.c.l.length≤o.c.lc
 n3:∀s∈o.c.l,s.size≤1048576
 n4:o.c.d.length≤1048576∧o.c.d.length≤o.c.dc
 n5:o.d.length≤1048576∧o.d.length≤o.dc
 z:o.c.lp=none→o.c.lc=0
 aw : -9223372036854775808≤o.a∧o.a≤9223372036854775807
def FU(w:World)(p:Option Addr)(l:List uz):Prop:=(∀(i:Nat) (x:uz),l[i]?=some x→∃g o,p=some ⟨g,o,none⟩∧w.rangeAt g (o+i*10) x.cells)∧∀x∈l,vT w x
theorem vT.bel{w w':World}{o:uz}(h:vT w o)(k:Bel w w'):vT w' o:=
 ⟨h.l.bel k,h.cd.bel k,h.d.bel k,h.n1,h.n2,h.n3,h.n4,h.n5,h.z,h.aw⟩
theorem FU.bel{w w':World}{p:Option Addr}{l:List uz}(h:FU w p l)(k:Bel w w'):FU w' p l:=by
 refine⟨λi x hi=>?_,λx hx=>(h.2 x hx).bel k⟩;obtain⟨g,o,e,hc⟩:=h.1 i x hi;exact⟨g,o,e,λj u hj=>af k (hc j u hj)⟩
theorem FU.at{w:World}{p:Option Addr}{l:List uz}(h:FU w p l){i:Nat}{x:uz}(hi:l[i]?=some x):∃g o,p=some ⟨g,o,none⟩∧w.rangeAt g (o+i*10) x.cells∧vT w x:=by
 obtain⟨g,o,e,hc⟩:=h.1 i x hi;exact⟨g,o,e,hc,h.2 x (List.mem_of_getElem? hi)⟩
def zN(l:List ByteArray):Nat:=(l.map ByteArray.size).sum
theorem Uw{l:List ByteArray}{k:Nat}{s:ByteArray}(h:l[k]?=some s):zN (l.take (k+1))=zN (l.take k)+s.size:=by
 unfold zN;rw[List.take_add_one,h];simp
def jA.weight(c:jA):Nat:=if 1000<c.l.length then 200001 else c.s.size+c.d.length+zN c.l
theorem Ot(c:jA)(w:World)(hl:Eh w c.lp c.l)(n1:c.s.size≤1048576)(n2:c.l.length≤1048576)(n3:∀s∈c.l,s.size≤1048576)(n4:c.d.length≤1048576) :
 Calls prog 23 #[.agg c.cells.toArray] w (Z.b (.int .i64 (c.weight:Nat)) w):=by
 obtain⟨kind,a,b,s,l,lp,lc,d,dp,dc⟩:=c
 dsimp only at hl n1 n2 n3 n4
 change Calls prog 23 #[.agg #[.int .i64 kind,.int .i64 a,.int .i64 b,.string s,.slice lp l.length lc,.slice dp d.length dc]] w _
 have HL:=xh λW (hW:Bel w W)=>hl.bel hW;have HN3:=xh n3;clear hl n3;go_enter func23,ntmps23;go_upto_region 1 with fail
 have k1:Bel w (w.alloc (.cells #[.int .i64 kind,.int .i64 a,.int .i64 b,.string s,.slice lp l.length lc,.slice dp d.length dc] 68)):=Bel.start _ _;have BX:=Blk.new w [.int .i64 kind,.int .i64 a,.int .i64 b,.string s,.slice lp l.length lc,.slice dp d.length dc] 68;change Blk (w.alloc (.cells #[.int .i64 kind,.int .i64 a,.int .i64 b,.string s,.slice lp l.length lc,.slice dp d.length dc] 68)) w.heap.size _ _ at BX
 generalize w.alloc (.cells #[.int .i64 kind,.int .i64 a,.int .i64 b,.string s,.slice lp l.length lc,.slice dp d.length dc] 68)=w1 at *
 generalize w.heap.size=bx at *
 have x3:=BX.c 3 rfl;have x4:=BX.c 4 rfl;have x5:=BX.c 5 rfl;have K1:=xh k1;clear k1 BX;by_cases h1:1000<l.length
 ·have hd:decide ((1000:Int)<l.length)=true:=by simp;omega
  go_wp2_with fail
  go_ret
  exact⟨by simp only[jA.weight,if_pos h1];rfl,K1.o⟩
 ·have hd:decide ((1000:Int)<l.length)=false:=by simp;omega
  go_wp2_with fail
  go_loopw [3,4] (λn i wr=>∃k:Nat,k≤l.length∧i=.int .i64 k∧n=.int .i64 (s.size+d.length+zN (l.take k):Nat)∧zN (l.take k)≤1048576*k∧wr=w1) (λ_ i _=>l.length-(intOf i).toNat)
  case atStart=>exact⟨0,Nat.zero_le _,rfl,by simp[zN],by simp[zN],rfl⟩
  case round=>
   obtain⟨k,hk,rfl,rfl,hb,hw⟩:=hrel;rw[hw];clear hw;by_cases hlt:k<l.length
   ·have hf:=bT hlt
    obtain⟨t,ht⟩:=e_x (l[k]);rw[ht]at hf;obtain⟨g,o,rfl,hc⟩:=(HL.o _ K1.o) _ _ hf;have hst:=Uw hf;have hts:=HN3.o t (List.mem_of_getElem? hf);go_wp2_with fail
    go_roundw
    case rel=>exact⟨k+1,by omega,by go_num,by rw[hst];go_num,by omega,by first|exact trivial|rfl⟩
    case measure=>simp[intOf]<;>omega
   ·obtain rfl:k=l.length:=by omega
    rw[List.take_length];go_wp2_with fail
    go_ret
    exact⟨by show _=Ending.returned (.int .i64 ((if 1000<l.length then 200001 else s.size+d.length+zN l:Nat)));rw[if_neg h1];rfl,K1.o⟩
def lF(l:List uz):Nat:=(l.map λo=>o.c.weight+o.d.length).sum
theorem Fh{l:List uz}{k:Nat}{o:uz}(h:l[k]?=some o):lF (l.take (k+1))=lF (l.take k)+(o.c.weight+o.d.length):=by
 unfold lF;rw[List.take_add_one,h];simp
theorem Ux{w:World}{o:uz}(h:vT w o):o.c.weight≤1100000000:=by
 unfold jA.weight;split
 ·omega
 ·rename_i hl
  have h1:∀l:List ByteArray,(∀s∈l,s.size≤1048576)→zN l≤1048576*l.length:=λl=>by
   induction l with
   | nil=>intro _;simp[zN]
   | cons a l ih=>
     intro h;have h2:=ih λs hs=>h s (List.mem_cons_of_mem _ hs);have h3:=h a List.mem_cons_self;simp only[zN,List.map_cons,List.sum_cons,List.length_cons]at h2⊢
     omega
  have:=h1 _ h.n3;have:=h.n1;have:=h.n4.1;omega
def yC(F:List aF)(l:List uz):Bool:=decide (l.length≤400∧F.length≤100∧pR F+lF l≤200000)
theorem N7(a b c d e:Int)(F:List aF)(p:Option Addr)(cap:Nat)(ops:List uz)(sp:Option Addr)(sc:Nat)(w:World)(hsc:FU w sp ops)(hk0:ops.length≤1048576)(hr:∀(i:Nat) (f:aF),F[i]?=some f→∃g o,p=some ⟨g,o,none⟩∧w.rangeAt g (o+i*3) [.string f.path,.bool f.dir,.slice f.p f.byt.length f.cap])(hl:F.length≤1048576)(hs:∀f∈F,f.path.size≤1048576∧f.byt.length≤1048576) :
 Calls prog 9 #[.agg #[a,b,c,d,e,(p,F.length,cap)],(sp,ops.length,sc)] w (Z.b (.bool (yC F ops)) w):=by
 have HR:=xh hr;have HS:=xh hs;have HSC:=xh λW (hW:Bel w W)=>hsc.bel hW;clear hr hs hsc;by_cases h0:ops.length≤400
 ·have hd0:decide ((400:Int)<ops.length)=false:=by simp;omega
  by_cases h1:F.length≤100
  ·have hd:decide ((100:Int)<F.length)=false:=by simp;omega
   go_enter func9,ntmps9;have BX:=Blk.new w [a,b,c,d,e,(p,F.length,cap)] 26;have kx:Bel w (w.alloc (.cells #[a,b,c,d,e,(p,F.length,cap)] 26)):=Bel.start _ _;change Blk (w.alloc (.cells #[a,b,c,d,e,(p,F.length,cap)] 26)) w.heap.size _ _ at BX
   go_upto_region 3 with fail
   generalize w.alloc (.cells #[a,b,c,d,e,(p,F.length,cap)] 26)=w2 at *
   generalize hxb:w.heap.size=xb at *
   have x5:=BX.c 5 rfl;have HK:Hid (Bel w w2):=xh kx;clear kx BX;go_wp2_with fail
   go_loopw [5,6] (λn i wr=>∃k q:Nat,k≤F.length∧i=.int .i64 k∧n=.int .i64 (pR (F.take k):Nat)∧pR (F.take k)≤2097152*k∧wr=w2.drewN q) (λ_ i _=>F.length-(intOf i).toNat)
   case atStart=>exact⟨0,0,Nat.zero_le _,rfl,rfl,bM _,rfl⟩
   case round=>
    obtain⟨k,q,hk,rfl,rfl,hb,rfl⟩:=hrel;by_cases hlt:k<F.length
    ·have hf:=bT hlt
     obtain⟨f,hff⟩:=e_x (F[k]);rw[hff]at hf;obtain⟨g,o,rfl,jb⟩:=HR.o k f hf;obtain⟨hs1,hs2⟩:=HS.o f (List.mem_iff_getElem?.2 ⟨k,hf⟩);have r0:w2.cell? (g,o+k*3)=some (.string f.path):=af HK.o (jb 0 _ rfl);have r2:w2.cell? (g,o+k*3+2)=some (.slice f.p f.byt.length f.cap):=af HK.o (jb 2 _ rfl);have hst:=Ou hf;have hw1:IntKind.i64.wrap (((pR (F.take k):Nat):Int)+(f.path.size:Int))=((pR (F.take k):Nat):Int)+(f.path.size:Int):=by rw[IntKind.wrap_i64];omega
     have hw2:IntKind.i64.wrap (((pR (F.take k):Nat):Int)+(f.path.size:Int)+(f.byt.length:Int))=((pR (F.take k):Nat):Int)+(f.path.size:Int)+(f.byt.length:Int):=by rw[IntKind.wrap_i64];omega
     clear jb;go_upto_region 7 with fail
     go_quiet (fail)
     go_wp2_with fail
     go_roundw
     case rel=>exact⟨k+1,q+nq,by omega,by go_num,by rw[hst];go_num,by omega,by simp[World.drewN_drewN]⟩
     case measure=>simp[intOf]<;>omega
    ·obtain rfl:k=F.length:=by omega
     rw[List.take_length]at hb⊢;have HQ:Hid (Bel w (w2.drewN q)):=xh (aj HK.o q);go_wp2_with fail
     generalize w2.drewN q=w3 at *
     obtain⟨n,hn⟩:=e_x (pR F);rw[hn]at hb⊢;have HNN:=xh hn;clear hn
     go_loopw [5,7] (λm i wr=>∃j:Nat,j≤ops.length∧i=.int .i64 j∧m=.int .i64 (n+lF (ops.take j):Nat)∧lF (ops.take j)≤1200000000*j∧Hid (Bel w wr)) (λ_ i _=>ops.length-(intOf i).toNat)
     case atStart=>exact⟨0,Nat.zero_le _,rfl,by simp[lF],by simp[lF],HQ⟩
     case round=>
      obtain⟨j,hj,rfl,rfl,hjb,HB⟩:=hrel;by_cases hlt:j<ops.length
      ·have hf:=bT hlt
       obtain⟨⟨ai0,oa,oo,⟨kind,ca,cb,s,l,lp,lc,dd,dp,dc⟩,od,oV,pF⟩,hoo⟩:∃o,ops[j]=o:=⟨_,rfl⟩;rw[hoo]at hf;obtain⟨g,o,rfl,jb,hok⟩:=(HSC.o _ HB.out).at hf;have hst:=Fh hf;have hwl:=Ux hok;have r3:wr.cell? (g,o+j*10+3)=some (.int .i64 kind):=jb 3 _ rfl;have r4:wr.cell? (g,o+j*10+4)=some (.int .i64 ca):=jb 4 _ rfl;have r5:wr.cell? (g,o+j*10+5)=some (.int .i64 cb):=jb 5 _ rfl;have r6:wr.cell? (g,o+j*10+6)=some (.string s):=jb 6 _ rfl;have r7:wr.cell? (g,o+j*10+7)=some (.slice lp l.length lc):=jb 7 _ rfl;have r8:wr.cell? (g,o+j*10+8)=some (.slice dp dd.length dc):=jb 8 _ rfl;have r9:wr.cell? (g,o+j*10+9)=some (.slice oV od.length pF):=jb 9 _ rfl;have HWT:Hid (Calls prog 23 #[.agg #[.int .i64 kind,.int .i64 ca,.int .i64 cb,.string s,.slice lp l.length lc,.slice dp dd.length dc]] wr λe w'=>e=.returned (.int .i64 (jA.weight ⟨kind,ca,cb,s,l,lp,lc,dd,dp,dc⟩:Nat))∧Bel wr w'):=xh (Ot ⟨kind,ca,cb,s,l,lp,lc,dd,dp,dc⟩ wr hok.l hok.n1 hok.n2.1 hok.n3 hok.n4.1);have R9:=xh λW (hW:Bel wr W)=>af hW r9;have hod:od.length≤1048576:=hok.n5.1;obtain⟨wt,hwt⟩:=e_x (jA.weight ⟨kind,ca,cb,s,l,lp,lc,dd,dp,dc⟩)
       dsimp only at hst hwl
       rw[hwt]at HWT hst hwl;obtain⟨so,hso⟩:=e_x (lF (ops.take j));rw[hso]at hst hjb⊢;have HST:=xh hst;have hw1:IntKind.i64.wrap (((n+so:Nat):Int)+(wt:Nat))=((n+so+wt:Nat):Int):=by rw[IntKind.wrap_i64];omega
       have hw2:IntKind.i64.wrap (((n+so+wt:Nat):Int)+(od.length:Nat))=((n+so+wt+od.length:Nat):Int):=by rw[IntKind.wrap_i64];omega
       clear jb hok hwt hso hst hf hoo r9;go_upto_region 12 with(go_at_call 23;((with_reducible refine aH HWT.o ?_);rintro e4 w4 ⟨rfl,k4⟩;have H4:=xh (HB.out.tr k4);have r9:=R9.o _ k4;clear k4))
       clear r3 r4 r5 r6 r7 r8;go_wp2_with fail
       go_roundw
       case rel=>exact⟨j+1,by omega,by go_num,by rw[HST.o];congr 1;omega,by rw[HST.o];omega,H4⟩
       case measure=>simp[intOf]<;>omega
      ·obtain rfl:j=ops.length:=by omega
       rw[List.take_length];rw[List.take_length]at hjb;have hsm:yC F ops=decide (((n+lF ops:Nat):Int)≤200000):=by
        unfold yC;rw[HNN.o];apply decide_eq_decide.2
        constructor
        ·intro h;omega
        ·intro h;exact⟨h0,h1,by omega⟩
       have uB:=xh hsm;clear hsm;go_wp2_with fail
       go_ret
       exact⟨by rw[uB.o];rfl,HB.out⟩
  ·have hd:decide ((100:Int)<F.length)=true:=by simp;omega
   go_enter func9,ntmps9;go_wp2_with fail
   go_ret
   refine⟨?_,Bel.start _ _⟩;rw[show yC F ops=false from decide_eq_false λh=>h1 h.2.1];rfl
 ·have hd:decide ((400:Int)<ops.length)=true:=by simp;omega
  go_enter func9,ntmps9;go_wp2_with fail
  go_ret
  refine⟨?_,Bel.start _ _⟩;rw[show yC F ops=false from decide_eq_false λh=>h0 h.1];rfl
end
section
open Go.Proofs.Tryz Go.RowKit Go.MapKept Go.Maps
theorem Jh(p:Option Addr)(n cap:Nat)(w:World)(hn:8<n)(hm:n≤1000) :
 Calls prog 100 #[(p,n,cap)] w (Z.b (.tuple #[.map none,.int .u64 0,fH 6]) w):=by
 go_enter func100,ntmps100;go_wp2
 refine bodyPost_ret (v:=.tuple #[.map none,.int .u64 0,fH 6]) (by simp[results,results100,go_sem]) rfl ⟨rfl,?_⟩;exact(((Below.refl _ _).alloc (bM _) _).alloc (by simp) _).alloc (by simp;omega) _
theorem Ji(p:Option Addr)(n cap:Nat)(w:World)(hn:8<n)(hm:n≤1000) :
 Calls prog 187 #[(p,n,cap)] w (Z.e (.tuple #[(),.int .u64 0,(6:Int)]) w):=by
 go_enter func187,ntmps187;go_wp2
 go_ret3
 exact⟨rfl,rfl⟩
theorem aa9{w:World}{p:Option Addr}{l:List ByteArray}(h:Eh w p l):SS w.heap.size w p l:=λh0=>by
 obtain⟨g,o,e,hc⟩:=h 0 _ (bT h0);refine⟨g,o,e,World.block_lt_of_cell? _ _ hc,λj hj=>?_⟩;obtain⟨g2,o2,e2,hc2⟩:=h j _ (bT hj);rw[e]at e2;cases e2
 exact hc2
theorem WN{w:World}{p:Option Addr}{l:List ByteArray}(h:Eh w p l)(hl:l.length≤1000)(cap:Nat):Calls prog 100 #[(p,l.length,cap)] w λe w'=>Bel w w'∧(kN l=true→∃mb,e=.returned (.tuple #[.map (some mb),.int .u64 (iq (aK l) l.length),.nilIface])∧Sp w' mb (ah dR (nO l)))∧(kN l=false→∃v,e=.returned (.tuple #[v,.int .u64 0,fH 6])):=by
 by_cases c:l.length≤8
 ·refine(Ar p cap l w (aa9 h) c).mono ?_
  rintro e w' ⟨h1,h2,h3⟩;refine⟨h1,λh4=>?_,λh4=>?_⟩
  ·simp only[kN,decide_eq_true_eq]at h4
   exact h2 h4.2
  ·simp only[kN,decide_eq_false_iff_not]at h4
   exact⟨_,h3 λh5=>h4 ⟨c,h5⟩⟩
 ·refine(Jh p l.length cap w (by omega) hl).mono ?_
  rintro e w' ⟨rfl,h1⟩;refine⟨h1,λh4=>?_,λ_=>⟨_,rfl⟩⟩;simp only[kN,decide_eq_true_eq]at h4
  exact absurd h4.1 c
theorem WO(cb:Nat){p:Xp}(h:p.rs.length=16)(hl:p.live=true)(sb mb:Nat)(pc sp:Int)(M:ax):Ld pc sp mb++(uh cb p sb).drop 18=uh cb {p with pc:=pc,rs:=List.replicate 15 0++[sp],M:=M} mb:=by
 obtain⟨r0,r1,r2,r3,r4,r5,r6,r7,r8,r9,r10,r11,r12,r13,yf,vM,e2⟩:=Bc h;unfold Ld uh jZ Xp.st Gw;simp only[e2,hl]
 rfl
section
variable {E:XE} {ty:List Int} {s s':List Xp} {D:XD} {w:World} (hx:eY E) (hp:PX E w s ty D) (hk:fB E w) (hw:lQ E.l.a.toNat E.l.b.toNat s) {x:Xp} (hxs:x∈s) (hl:x.live=true)
include hx hp hk hw hxs hl
theorem WQ{w':World}{i:Nat}(hi:s[i]?=some x)(q:Xp)(e1:q.pid=x.pid)(e2:q.live=true)(mb:Nat)(hmb:w.heap.size≤mb)(k:Keep (λy=>y=E.kb∨y=D.bl x.pid) w w')(hs:Sp w' mb q.M)
 (hkb:Blk w' E.kb (lV E.l.a E.l.b E.l.c E.l.d.toNat E.l.e.toNat E.pm E.tb E.ob E.cb (aI (s.set i q):Nat) D.now (.slice none 0 0)) 111)(hpb:Blk w' (D.bl x.pid) (uh E.cb q mb) 120):zW E ty s D (s.set i q) w.heap.size w {D with sp:=λj=>if j=x.pid then mb else D.sp j} w':=by
 have hmem:∀y∈s.set i q,y=q∨(y∈s∧y.pid≠x.pid):=λy hy=>by
  obtain⟨j,hj⟩:=List.getElem?_of_mem hy;by_cases e:j=i
  ·subst e
   rw[List.getElem?_set_self (bV hi).1]at hj;exact .inl (Option.some.inj hj).symm
  ·rw[List.getElem?_set_ne (λh=>e h.symm)]at hj
   exact .inr ⟨List.mem_of_getElem? hj,λe2=>e (hw.uniq hj hi e2)⟩
 obtain⟨kv,hm,hpm⟩:=hp.map;have Jf:∀y,(∃kv,Mp iK w y kv)→¬(y=E.kb∨y=D.bl x.pid):=λy ⟨kv3,Px⟩ hq=>by
  rcases hq with e|e
  ·exact hp.hk.aP Px e.symm
  ·exact(hp.oC x hxs).aP Px e.symm
 have hbuf:∀{v:Value} {L:List Int},Buf w v L→Buf w' v L:=λhb=>hb.keep k λg hg hq=>by
  obtain⟨_,hb2⟩:=hb.blk hg;rcases hq with e|e
  ·exact hb2.ne hp.hk (by decide) e
  ·exact hb2.ne (hp.oC x hxs) (by decide) e
 have foot:∀y,bH E (s.set i q) {D with sp:=λj=>if j=x.pid then mb else D.sp j} y→bH E s D y∨w.heap.size≤y:=λy hy=>by
  rcases hy with e|e|e|e|e|⟨p,hp1,hp2⟩
  ·exact .inl (.inl e)
  ·exact .inl (.inr (.inl e))
  ·exact .inl (.inr (.inr (.inl e)))
  ·exact .inl (.inr (.inr (.inr (.inl e))))
  ·exact .inl (.inr (.inr (.inr (.inr (.inl e)))))
  ·rcases hmem p hp1 with rfl|⟨hp3,hn⟩
   ·simp only[e1,if_true]at hp2
    rcases hp2 with rfl|⟨_,rfl⟩
    ·exact .inl (.inr (.inr (.inr (.inr (.inr ⟨x,hxs,.inl rfl⟩)))))
    ·exact .inr hmb
   ·simp only[if_neg hn]at hp2
    exact .inl (.inr (.inr (.inr (.inr (.inr ⟨p,hp3,hp2⟩)))))
 refine⟨⟨hkb,⟨kv,hm.of_block (k.block _ hm.lt (Jf _ ⟨kv,hm⟩)),?_⟩,λp hp1=>?_,λp hp1 hp2=>?_,λp hp1 r hr1 hp2 hr2 e=>?_,?_,hbuf hp.tb,hbuf hp.ub,hp.ap,λy hy=>?_⟩,k.mono λy hy=>?_,foot,λy hy=>hp.lt hy⟩
 ·have:=Py (D:=D) (q:=q) hi e1
  exact hpm.trans (List.Perm.of_eq this.symm)
 ·rcases hmem p hp1 with rfl|⟨hp3,hn⟩
  ·simp only[e1,if_true]
   exact hpb
  ·simp only[if_neg hn]
   exact(hp.oC p hp3).keep k λhq=>by
    rcases hq with e|e
    ·exact(hp.oC p hp3).ne hp.hk (by decide) e
    ·exact hn (hp.apart hw hp3 hxs e)
 ·rcases hmem p hp1 with rfl|⟨hp3,hn⟩
  ·simp only[e1,if_true]
   exact hs
  ·simp only[if_neg hn]
   exact(hp.rE p hp3 hp2).of_block (k.block _ (hp.rE p hp3 hp2).lt (Jf _ (mJ (hp.rE p hp3 hp2))))
 ·rcases hmem p hp1 with rfl|⟨hp3,hn⟩<;>rcases hmem r hr1 with rfl|⟨hr3,hn2⟩
  ·rfl
  ·simp only[e1,if_true,if_neg hn2]at e
   have:=(hp.rE r hr3 hr2).lt;omega
  ·simp only[e1,if_true,if_neg hn]at e
   have:=(hp.rE p hp3 hp2).lt;omega
  ·simp only[if_neg hn,if_neg hn2]at e
   exact hp.inj p hp3 r hr3 hp2 hr2 e
 ·rw[ED hi (e2.trans hl.symm)]
  exact hp.hc.keep k λhq=>by
   rcases hq with e|e
   ·exact hp.hc.ne hp.hk (by decide) e
   ·exact hp.hc.ne (hp.oC x hxs) (by decide) e
 ·rcases foot y hy with h1|h1
  ·exact hp.lo y h1
  ·exact .inl (bU hk.size h1)
 ·rcases hy with rfl|rfl
  ·exact .inl rfl
  ·exact .inr (.inr (.inr (.inr (.inr ⟨x,hxs,.inl rfl⟩))))
theorem PE(nm:ByteArray)(l:List ByteArray)(lp:Option Addr)(lc:Nat)(hnm:nm.size≤1000000)(hll:l.length≤1000)(htx:Eh w lp l):Calls prog 57 #[E.kb,.pointer (D.bl x.pid,0),nm,(lp,l.length,lc)] w λe w'=>Jj w E.kb (D.bl x.pid) (lV E.l.a E.l.b E.l.c E.l.d.toNat E.l.e.toNat E.pm E.tb E.ob E.cb (aI s:Nat) D.now (.slice none 0 0)) (uh E.cb x (D.sp x.pid)) (dM (aJ E.T) nm.data.toList (kN l) x.n (aI s) E.l.b.toNat) (aY (aJ E.T) nm.data.toList) l (iq (aK l) l.length) (aI s) x.n e w':=by
 have hlb:=hx.lb;have hfr:=hw.fr;refine Em E.kb E.tb (D.bl x.pid) E.A E.T E.l.d.toNat E.l.e.toNat E.l.b.toNat x.n (aI s) _ _ nm (.slice lp l.length lc) (kN l) (iq (aK l) l.length) l (some (D.sp x.pid)) x.M w (hx.aa7 hk) hp.hk (by simp[lV]) rfl rfl ?_ (by omega) (by omega) (ny hxs) (hp.oC x hxs) (Gx (hw.reg x hxs).1 _) ?_ (hp.rE x hxs hl) rfl (hw.ok x hxs).below hnm (hx.mx _ (hx.below hk)) (hx.fx _ (hx.below hk)) λW hW=>?_
 ·rw[show((E.l.b.toNat:Nat):Int)=E.l.b from by omega]
  rfl
 ·rw[←(hp.oC x hxs).cell]
  exact Jb hx hp hk hw hxs hl
 ·exact WN (htx.bel hW) hll lc
theorem RN(a b:Int)(nm:ByteArray)(l:List ByteArray)(lp dp:Option Addr)(lc dn dc:Nat)(hnm:nm.size≤1000000)(hll:l.length≤1000)(htx:Eh w lp l)(h0:dM (aJ E.T) nm.data.toList (kN l) x.n (aI s) E.l.b.toNat≠0):jQ E (dM (aJ E.T) nm.data.toList (kN l) x.n (aI s) E.l.b.toNat:Nat) x.pid 2 a b nm lp dp l.length lc dn dc w:=
 wH hx hp hk hw hxs hl _ _ 2 a b nm lp dp l.length lc dn dc (λ_ _=>by kernel_rfl) Jk λW hW=>by
  refine(EI E.kb (D.bl x.pid) 2 a b nm lp dp l.length lc dn dc W (λev w'=>ev=.iface 48 (.int .i64 (dM (aJ E.T) nm.data.toList (kN l) x.n (aI s) E.l.b.toNat:Nat))∧Bel W w') λW2 hW2=>?_).mono ?_
  ·refine(PE hx (hp.bel (hW.tr hW2)) (hk.tr (Keep.of_bel _ (hW.tr hW2))) hw hxs hl nm l lp lc hnm hll (htx.bel (hW.tr hW2))).mono λe w' h=>?_
   obtain⟨h1,h2⟩:=h.1 h0;exact⟨_,h1,rfl,hW2.tr h2⟩
  ·rintro e w' ⟨ev,rfl,rfl,h⟩
   exact⟨rfl,h⟩
theorem WR{i:Nat}(hi:s[i]?=some x)(a b:Int)(nm:ByteArray)(l:List ByteArray)(lp dp:Option Addr)(lc dn dc:Nat)(hnm:nm.size≤1000000)(hll:l.length≤1000)(htx:Eh w lp l)(h0:dM (aJ E.T) nm.data.toList (kN l) x.n (aI s) E.l.b.toNat=0):zL E ty s D (s.set i {x with pc:=numAt (aY (aJ E.T) nm.data.toList) 24 8,rs:=List.replicate 15 0++[iq (aK l) l.length],M:=aN (bG (aY (aJ E.T) nm.data.toList)) l}) 0 0 [] x.pid 2 a b nm lp dp l.length lc dn dc w:=
 I8 hx hp hk hw hxs hl _ 2 a b nm lp dp l.length lc dn dc (λ_ _=>by kernel_rfl) Jk λW hW=>by
  refine(EI E.kb (D.bl x.pid) 2 a b nm lp dp l.length lc dn dc W (λev w'=>ev=.nilIface∧∃D',zW E ty s D (s.set i {x with pc:=numAt (aY (aJ E.T) nm.data.toList) 24 8,rs:=List.replicate 15 0++[iq (aK l) l.length],M:=aN (bG (aY (aJ E.T) nm.data.toList)) l}) W.heap.size W D' w') λW2 hW2=>?_).mono ?_
  ·have xY:=hp.bel (hW.tr hW2)
   have hkW:=hk.tr (Keep.of_bel _ (hW.tr hW2));refine(PE hx xY hkW hw hxs hl nm l lp lc hnm hll (htx.bel (hW.tr hW2))).mono λe w' h=>?_;obtain⟨e1,mb,hmb,hs2,kk,hkb,hpb⟩:=h.2 h0;obtain⟨hld,y,hy,hB⟩:=nH h0;obtain⟨hok,hlow⟩:=ni (by rw[hB];exact hx.tb y hy) hld;have hn:(ag (aN (bG (aY (aJ E.T) nm.data.toList)) l)).length=(ag (bG (aY (aJ E.T) nm.data.toList))).length+2:=by rw[iH _ _ hlow];simp
   obtain⟨q,hq⟩:∃q:Xp,q={x with pc:=numAt (aY (aJ E.T) nm.data.toList) 24 8,rs:=List.replicate 15 0++[iq (aK l) l.length],M:=aN (bG (aY (aJ E.T) nm.data.toList)) l}:=⟨_,rfl⟩;have hqn:q.n=(ag (bG (aY (aJ E.T) nm.data.toList))).length+2:=by unfold Xp.n;rw[hq];exact hn
   have hu:=sZ (q:=q) hi;have hum:=ny hxs;rw[←hq];refine⟨_,e1,rfl,_,(WQ hx xY hkW hw hxs hl hi q (by rw[hq]) (by rw[hq];exact hl) mb hmb kk (by rw[hq];exact hs2) ?_ ?_).bel hW2 (hp.bel hW) hW2.le⟩
   ·rw[show aI (s.set i q)=aI s-x.n+((ag (bG (aY (aJ E.T) nm.data.toList))).length+2)from by omega]
    exact hkb
   ·rw[hq,←WO E.cb (hw.reg x hxs).1 hl (D.sp x.pid)]
    exact hpb
  ·rintro e w' ⟨ev,rfl,rfl,h⟩
   exact⟨rfl,h⟩
end
end
end Go.Proofs.YtcnjjchlebmfiaaGreatDoor
namespace Go.Proofs.YtcnjjchlebmfiaaGreatDoor
open Go.Proofs.Tryz
open Go.ChangeShapes Go.WideShapes Go.ChangeAt Go.RowKit Go.Deep
namespace Bk
variable {H:Type}
theorem one_le(d:DataW H):1≤Rows.uptoBulk d:=by
 cases d with
 | lit l=>cases l<;>simp[Rows.uptoBulk]
 | nil=>simp[Rows.uptoBulk]
 | ptr d=>simp[Rows.uptoBulk]
 | slice elems spare=>simp[Rows.uptoBulk]
 | agg parts=>simp[Rows.uptoBulk]
 | iface t d=>simp[Rows.uptoBulk]
 | map entries=>simp[Rows.uptoBulk]
 | held h=>simp[Rows.uptoBulk]
theorem vP{d:DataW H}:∀{l:List (DataW H)},d∈l→Rows.uptoBulk d≤Rows.uptoBulkAll l
 | x::r,h=>by
   simp only[Rows.uptoBulkAll]
   rcases List.mem_cons.1 h with rfl|e
   ·omega
   ·have:=vP e;omega
theorem length_le:∀l:List (DataW H),l.length≤Rows.uptoBulkAll l
 | []=>by simp[Rows.uptoBulkAll]
 | x::r=>by have:=one_le x;have:=length_le r;simp only[Rows.uptoBulkAll,List.length_cons];omega
theorem vS(elems spare:List (DataW H)):elems.length+spare.length+1≤Rows.uptoBulk (.slice elems spare):=by
 have h1:=length_le elems;have h2:=length_le spare;simp only[Rows.uptoBulk]
 omega
theorem FP{d:DataW H}{elems spare:List (DataW H)}(h:d∈elems):Rows.uptoBulk d≤Rows.uptoBulk (.slice elems spare):=by
 have:=vP h;simp only[Rows.uptoBulk]
 omega
theorem qR{d:DataW H}{parts:List (DataW H)}(h:d∈parts):Rows.uptoBulk d≤Rows.uptoBulk (.agg parts):=by
 have:=vP h;simp only[Rows.uptoBulk]
 omega
theorem xH(bytes:List UInt8):Rows.uptoBulk (DataW.lit (H:=H) (.string bytes))=bytes.length+1:=by simp[Rows.uptoBulk]
end Bk
section
variable {H:Type} {enc:TypeId×Value→H} {W:World}
theorem qU{K fuel:Nat}{v:Value}{y:DataW H×List MemPlace}(h:DataW.trod enc prog W 0 (λ_=>true) true fuel 59 [v]=some y)(hw:Rows.uptoBulk y.1≤K) :
 ∃(q:Option Addr) (L:List Int) (cap:Nat),v=.slice q L.length cap∧BS W q L∧L.length≤cap∧L.length≤K∧(0<L.length→∀b o,q=some ⟨b,o,none⟩→b<W.heap.size):=by
 rcases open_ints underlying59 underlying5 (by kernel_rfl) h with⟨hcs,hx⟩|⟨a,len',cap',zs,hcs,_,hl,hm,hz,hx,hcell,hwz⟩
 ·obtain rfl:=List.singleton_inj.1 hcs
  exact⟨none,[],0,rfl,⟨λx hx=>(by cases hx),λh=>absurd h (by simp)⟩,Nat.zero_le _,Nat.zero_le _,λh=>absurd h (by simp)⟩
 ·obtain rfl:=List.singleton_inj.1 hcs
  simp only[if_true]at hz
  have hlz:len'≤zs.length:=by omega
  have hreach:zs.length≤K:=by
   rw[hx]at hw;have:=bU (Bk.vS (H:=H) (ChangeShapes.lits .u8 (zs.take len')) (ChangeShapes.lits .u8 (zs.drop len'))) hw;simp[ChangeShapes.lits]at this
   omega
  obtain⟨ab,ao,spot⟩:=a;by_cases h0:0<zs.length
  ·have hspot:spot=none:=by simpa [Addr.add]using World.cell?_spot (hcell 0 h0)
   subst hspot;have hc:∀i,i<len'→W.cell? ⟨ab,ao+i,none⟩=((zs.take len')[i]?).map (Value.int .u8):=λi hi=>by
    have:=hcell i (by omega);rw[Addr.add_lit]at this;rw[this,List.getElem?_take,if_pos hi,List.getD_eq_getElem?_getD,bT (by omega)];rfl
   have hlt:ab<W.heap.size:=by
    have:=World.block_lt_of_cell? _ _ (hcell 0 h0)
    simpa [Addr.add]using this
   refine⟨_,zs.take len',cap',by simp;omega,⟨λx hx=>U9 (hwz x (List.mem_of_mem_take hx)),λh0=>⟨ab,ao,rfl,hlt,⟨λi hi=>hc i (by simp at hi;omega),λx hx=>U9 (hwz x (List.mem_of_mem_take hx))⟩⟩⟩,by simp;omega,by simp;omega,λ_ b o e=>by cases e;exact hlt⟩
  ·obtain rfl:len'=0:=by omega
   exact⟨_,[],cap',rfl,⟨λx hx=>(by cases hx),λh=>absurd h (by simp)⟩,Nat.zero_le _,Nat.zero_le _,λh=>absurd h (by simp)⟩
theorem Iw{K fuel:Nat}{v:Value}{y:DataW H×List MemPlace}(h:DataW.trod enc prog W 0 (λ_=>true) true fuel 66 [v]=some y)(hw:Rows.uptoBulk y.1≤K) :
 ∃(q:Option Addr) (L:List ByteArray) (cap:Nat),v=.slice q L.length cap∧Eh W q L∧L.length≤cap∧L.length≤K∧(∀s∈L,s.size≤K)∧(q=none→cap=0):=by
 rcases open_strs underlying66 underlying9 (by kernel_rfl) h with⟨hcs,hx⟩|⟨a,len,cap,m,Sx,hcs,_,hl,hm,hmm,hx,hi⟩
 ·obtain rfl:=List.singleton_inj.1 hcs
  exact⟨none,[],0,rfl,λi s h=>(by cases h),Nat.zero_le _,Nat.zero_le _,λs h=>(by cases h),λ_=>rfl⟩
 ·obtain rfl:=List.singleton_inj.1 hcs
  simp only[if_true]at hmm
  subst hmm;rw[hx]at hw;have h1:=bU (Bk.vS (H:=H) _ _) hw;simp at h1
  have hget:∀(i:Nat) (s:ByteArray),((List.range len).map Sx)[i]?=some s→i<len∧s=Sx i:=λi s hs=>by
   have hlt:=(bV hs).1;simp at hlt
   rw[fA,List.getElem?_range hlt]at hs;cases hs
   exact⟨hlt,rfl⟩
  refine⟨some a,(List.range len).map Sx,m,by simp,λi s hs=>?_,by simpa using hl,by simp;omega,λs hs=>?_,λe=>by cases e⟩
  ·obtain⟨hil,rfl⟩:=hget i s hs
   have hc:=(hi i (by omega)).1;obtain⟨ab,ao,spot⟩:=a;have hspot:spot=none:=by simpa [Addr.add]using World.cell?_spot (hi 0 (by omega)).1
   subst hspot;rw[Addr.add_lit]at hc;exact⟨ab,ao,rfl,hc⟩
  ·obtain⟨i,hi2⟩:=List.mem_iff_getElem?.1 hs
   obtain⟨hil,rfl⟩:=hget i s hi2;have:=bU (Bk.FP (H:=H) (spare:=(List.range (m-len)).map λj=>.lit (.string (Sx (len+j)).data.toList)) (List.mem_map.2 ⟨i,List.mem_range.2 hil,rfl⟩)) hw;rw[Bk.xH]at this;have e:(Sx i).data.toList.length=(Sx i).size:=by simp
   omega
structure Va(K:Nat)(W:World)(f:aF):Prop where
 bs:BS W f.p f.byt
 len:f.byt.length≤K
 path:f.path.size≤K
 cap:f.byt.length≤f.cap
 lt:0<f.byt.length→∀b o,f.p=some ⟨b,o,none⟩→b<W.heap.size
theorem Iy{K fuel:Nat}{v:Value}{y:DataW H×List MemPlace}(h:DataW.trod enc prog W 0 (λ_=>true) true fuel 24 [v]=some y)(hw:Rows.uptoBulk y.1≤K) :
 ∃(q:Option Addr) (F:List aF) (cap:Nat),v=.slice q F.length cap∧F.length≤K∧(∀(i:Nat) (f:aF),F[i]?=some f→∃g o,q=some ⟨g,o,none⟩∧W.rangeAt g (o+i*3) [.string f.path,.bool f.dir,.slice f.p f.byt.length f.cap])∧∀f∈F,Va K W f:=by
 rcases Iu underlying24 underlying71 (by kernel_rfl) (by kernel_rfl) h with⟨hcs,hx⟩|⟨a,len,cap,m,D,hcs,hl,hm,hmm,hx,hi⟩
 ·obtain rfl:=List.singleton_inj.1 hcs
  exact⟨none,[],0,rfl,Nat.zero_le _,λi f h=>(by cases h),λf h=>(by cases h)⟩
 ·obtain rfl:=List.singleton_inj.1 hcs
  simp only[if_true]at hmm
  subst hmm;rw[hx]at hw;have h1:=bU (Bk.vS (H:=H) _ _) hw;simp at h1
  have hex:∀i,∃f:aF,i<len→(W.cell? (a.add (i*3))=some (.string f.path)∧W.cell? (a.add (i*3+1))=some (.bool f.dir)∧W.cell? (a.add (i*3+2))=some (.slice f.p f.byt.length f.cap)∧Va K W f):=λi=>by
   by_cases hil:i<len
   ·obtain⟨ys,n,hD,hyl,hf⟩:=hi i (by omega)
    have hwD:Rows.uptoBulk (D i)≤K:=bU (Bk.FP (H:=H) (List.mem_map.2 ⟨i,List.mem_range.2 hil,rfl⟩)) hw;obtain⟨v0,y0,c0,k0,t0⟩:=hf 0 _ rfl;obtain⟨v1,y1,c1,k1,t1⟩:=hf 1 _ rfl;obtain⟨v2,y2,c2,k2,t2⟩:=hf 2 _ rfl;have hys:ys=[y0,y1,y2]:=by
     match ys,hyl with
     | [z0,z1,z2],_=>cases k0;cases k1;cases k2;rfl
    rw[hD,hys]at hwD;obtain⟨s,e0,x0,_⟩:=DataW.trod_string underlying9 t0;obtain⟨b,e1,x1⟩:=DataW.trod_bool underlying4 t1;obtain⟨q,L,c,rfl,b1,b2,b3,b4⟩:=qU t2 (bU (Bk.qR (H:=H) (by simp)) hwD);obtain rfl:=List.singleton_inj.1 e0;obtain rfl:=List.singleton_inj.1 e1;refine⟨⟨s,b,q,c,L⟩,λ_=>⟨c0,c1,c2,b1,b3,?_,b2,b4⟩⟩;have:=bU (Bk.qR (H:=H) (d:=y0.1) (by simp)) hwD;rw[x0,Bk.xH]at this;have e:s.data.toList.length=s.size:=by simp
    show s.size≤K
    omega
   ·exact⟨⟨⟨#[]⟩,false,none,0,[]⟩,λh=>absurd h hil⟩
  obtain⟨Ff,hFf⟩:=Classical.skolem.1 hex;have hget:∀(i:Nat) (f:aF),((List.range len).map Ff)[i]?=some f→i<len∧f=Ff i:=λi f hf=>by
   have hlt:=(bV hf).1;simp at hlt
   rw[fA,List.getElem?_range hlt]at hf;cases hf
   exact⟨hlt,rfl⟩
  refine⟨some a,(List.range len).map Ff,m,by simp,by simp;omega,λi f hf=>?_,λf hf=>?_⟩
  ·obtain⟨hil,rfl⟩:=hget i f hf
   obtain⟨h0,h1,h2,_⟩:=hFf i hil;have h00:=(hFf 0 (by omega)).1;obtain⟨ab,ao,spot⟩:=a;have hspot:spot=none:=by simpa [Addr.add]using World.cell?_spot h00
   subst hspot;refine⟨ab,ao,rfl,λj u hj=>?_⟩;rw[Addr.add_lit]at h0 h1 h2
   match j,hj with
   | 0,hj=>cases hj;exact h0
   | 1,hj=>cases hj;rw[Nat.add_assoc];exact h1
   | 2,hj=>cases hj;rw[Nat.add_assoc];exact h2
  ·obtain⟨i,hi2⟩:=List.mem_iff_getElem?.1 hf
   obtain⟨hil,rfl⟩:=hget i f hi2;exact(hFf i hil).2.2.2
theorem Y3{n:Int}(h:(Lit.int .i64 n).wf=true) : -9223372036854775808≤n∧n≤9223372036854775807:=by
 simp[Lit.wf,IntKind.min,IntKind.max,IntKind.signed,IntKind.bits]at h;omega
theorem Du{K base fuel:Nat}{v:Value}{y:DataW H×List MemPlace}(hv:Value.okWide prog W .any base 26 v)(h:DataW.trod enc prog W 0 (λ_=>true) true fuel 26 v.cells.toList=some y)(hw:Rows.uptoBulk y.1≤K) :
 ∃(l:fD) (q:Option Addr) (F:List aF) (cap:Nat),v=.agg #[.int .i64 l.a,.int .i64 l.b,.int .i64 l.c,.int .i64 l.d,.int .i64 l.e,.slice q F.length cap]∧F.length≤K∧(∀(i:Nat) (f:aF),F[i]?=some f→∃g o,q=some ⟨g,o,none⟩∧W.rangeAt g (o+i*3) [.string f.path,.bool f.dir,.slice f.p f.byt.length f.cap])∧∀f∈F,Va K W f:=by
 obtain⟨cs,rfl,hsz⟩:=okWide_struct underlying26 hv;obtain⟨L⟩:=cs;have hL:L.length=6:=hsz.trans (by kernel_rfl)
 match L,hL with
 | [c0,c1,c2,c3,c4,c5],_=>
   obtain⟨xs,n,_,hx,_,hlen,hg⟩:=DataW.trod_struct underlying26 h;have g0:=hg 0 _ rfl;have g1:=hg 1 _ rfl
   match xs,hlen with
   | [z0,z1],_=>
     have g0':DataW.trod enc prog W 0 (λ_=>true) true n 23 [c0,c1,c2,c3,c4]=some z0:=g0;have g1':DataW.trod enc prog W 0 (λ_=>true) true n 24 [c5]=some z1:=g1;obtain⟨us,n',_,hux,_,hul,UO⟩:=DataW.trod_struct underlying23 g0';have hs:∀i,i<5→(us[i]?).isSome=true:=λi hi=>by
      have:us.length=5:=hul;rw[bT (by omega)];rfl
     obtain⟨a,rfl⟩:=Aj underlying3 (show DataW.trod enc prog W 0 (λ_=>true) true n' 3 [c0]=us[0]? from UO 0 _ rfl) (hs 0 (by omega));obtain⟨b,rfl⟩:=Aj underlying3 (show DataW.trod enc prog W 0 (λ_=>true) true n' 3 [c1]=us[1]? from UO 1 _ rfl) (hs 1 (by omega));obtain⟨c,rfl⟩:=Aj underlying3 (show DataW.trod enc prog W 0 (λ_=>true) true n' 3 [c2]=us[2]? from UO 2 _ rfl) (hs 2 (by omega));obtain⟨d,rfl⟩:=Aj underlying3 (show DataW.trod enc prog W 0 (λ_=>true) true n' 3 [c3]=us[3]? from UO 3 _ rfl) (hs 3 (by omega));obtain⟨e,rfl⟩:=Aj underlying3 (show DataW.trod enc prog W 0 (λ_=>true) true n' 3 [c4]=us[4]? from UO 4 _ rfl) (hs 4 (by omega));obtain⟨q,F,cap,rfl,h1,h2,h3⟩:=Iy (K:=K) g1' (by
      rw[hx]at hw;exact bU (Bk.qR (H:=H) (by simp)) hw)
     exact⟨⟨a,b,c,d,e⟩,q,F,cap,rfl,h1,h2,h3⟩
theorem Vb{K fuel:Nat}{cs:List Value}{y:DataW H×List MemPlace}(hl:cs.length=10)(h:DataW.trod enc prog W 0 (λ_=>true) true fuel 79 cs=some y)(hw:Rows.uptoBulk y.1≤K)(hK:K≤1048576):∃o:uz,cs=o.cells∧vT W o:=by
 match cs,hl with
 | [c0,c1,c2,c3,c4,c5,c6,c7,c8,c9],_=>
   obtain⟨xs,n,_,hx,_,hlen,hg⟩:=DataW.trod_struct underlying79 h;have g0:=hg 0 _ rfl;have g1:=hg 1 _ rfl;have g2:=hg 2 _ rfl;have g3:=hg 3 _ rfl;have g4:=hg 4 _ rfl
   match xs,hlen with
   | [z0,z1,z2,z3,z4],_=>
     rw[hx]at hw;have g0':DataW.trod enc prog W 0 (λ_=>true) true n 3 [c0]=some z0:=g0;have g1':DataW.trod enc prog W 0 (λ_=>true) true n 3 [c1]=some z1:=g1;have g2':DataW.trod enc prog W 0 (λ_=>true) true n 3 [c2]=some z2:=g2;have g3':DataW.trod enc prog W 0 (λ_=>true) true n 68 [c3,c4,c5,c6,c7,c8]=some z3:=g3;have g4':DataW.trod enc prog W 0 (λ_=>true) true n 59 [c9]=some z4:=g4;obtain⟨kd,e0,_,_⟩:=DataW.trod_int underlying3 g0';obtain⟨oa,e1,_,w1⟩:=DataW.trod_int underlying3 g1';obtain⟨ob,e2,_,_⟩:=DataW.trod_int underlying3 g2';obtain rfl:=List.singleton_inj.1 e0;obtain rfl:=List.singleton_inj.1 e1;obtain rfl:=List.singleton_inj.1 e2;have hw4:Rows.uptoBulk z4.1≤K:=bU (Bk.qR (H:=H) (by simp)) hw;have hw3:Rows.uptoBulk z3.1≤K:=bU (Bk.qR (H:=H) (by simp)) hw;obtain⟨dp,dd,dc,rfl,d1,d2,d3,_⟩:=qU g4' hw4;obtain⟨us,n',_,hux,_,hul,UO⟩:=DataW.trod_struct underlying68 g3';have u0:=UO 0 _ rfl;have u1:=UO 1 _ rfl;have u2:=UO 2 _ rfl;have u3:=UO 3 _ rfl;have u4:=UO 4 _ rfl;have u5:=UO 5 _ rfl
     match us,hul with
     | [x0,x1,x2,x3,x4,x5],_=>
       rw[hux]at hw3;have u0':DataW.trod enc prog W 0 (λ_=>true) true n' 65 [c3]=some x0:=u0;have u1':DataW.trod enc prog W 0 (λ_=>true) true n' 3 [c4]=some x1:=u1;have u2':DataW.trod enc prog W 0 (λ_=>true) true n' 3 [c5]=some x2:=u2;have u3':DataW.trod enc prog W 0 (λ_=>true) true n' 9 [c6]=some x3:=u3;have u4':DataW.trod enc prog W 0 (λ_=>true) true n' 66 [c7]=some x4:=u4;have u5':DataW.trod enc prog W 0 (λ_=>true) true n' 59 [c8]=some x5:=u5;obtain⟨ck,f0,_,_⟩:=DataW.trod_int underlying65 u0';obtain⟨ca,f1,_,_⟩:=DataW.trod_int underlying3 u1';obtain⟨cb,f2,_,_⟩:=DataW.trod_int underlying3 u2';obtain⟨s,f3,sx,_⟩:=DataW.trod_string underlying9 u3';obtain rfl:=List.singleton_inj.1 f0;obtain rfl:=List.singleton_inj.1 f1;obtain rfl:=List.singleton_inj.1 f2;obtain rfl:=List.singleton_inj.1 f3;have hs:s.size≤K:=by
        have:=bU (Bk.qR (H:=H) (d:=x3.1) (by simp)) hw3;rw[sx,Bk.xH]at this;have e:s.data.toList.length=s.size:=by simp
        omega
       obtain⟨lp,ls,lc,rfl,l1,l2,l3,l4,l5⟩:=Iw u4' (bU (Bk.qR (H:=H) (d:=x4.1) (by simp)) hw3);obtain⟨p,cd,cc,rfl,c1,c2,c3,_⟩:=qU u5' (bU (Bk.qR (H:=H) (d:=x5.1) (by simp)) hw3);exact⟨⟨kd,oa,ob,⟨ck,ca,cb,s,ls,lp,lc,cd,p,cc⟩,dd,dp,dc⟩,rfl,l1,c1,d1,bU hs hK,⟨bU l3 hK,l2⟩,λt ht=>bU (l4 t ht) hK,⟨bU c3 hK,c2⟩,⟨bU d3 hK,d2⟩,l5,Y3 w1⟩
theorem FQ{K fuel:Nat}{v:Value}{y:DataW H×List MemPlace}(h:DataW.trod enc prog W 0 (λ_=>true) true fuel 27 [v]=some y)(hw:Rows.uptoBulk y.1≤K)(hK:K≤1048576) :
 ∃(q:Option Addr) (ops:List uz) (cap:Nat),v=.slice q ops.length cap∧ops.length≤K∧FU W q ops:=by
 rcases open_slice underlying27 h with⟨hcs,hx⟩|⟨a,len,cap,m,n,D,Pl,hcs,hb,hl,hm,hmm,hx,hi⟩
 ·obtain rfl:=List.singleton_inj.1 hcs
  exact⟨none,[],0,rfl,Nat.zero_le _,λi f h=>(by cases h),λf h=>(by cases h)⟩
 ·obtain rfl:=List.singleton_inj.1 hcs
  simp only[if_true]at hmm
  subst hmm;rw[hx]at hw;have h1:=bU (Bk.vS (H:=H) _ _) hw;simp at h1
  have hC:prog.cellsOf 79=10:=by kernel_rfl
  have hex:∀i,∃o:uz,i<len→((∀j,j<10→W.cell? (a.add (i*10+j))=o.cells[j]?)∧vT W o):=λi=>by
   by_cases hil:i<len
   ·obtain⟨cs',hc,ht'⟩:=hi i (by omega)
    rw[hC]at hc;obtain⟨_,hcl,hat⟩:=World.cells?_some hc;have hwD:Rows.uptoBulk (D i)≤K:=bU (Bk.FP (H:=H) (List.mem_map.2 ⟨i,List.mem_range.2 hil,rfl⟩)) hw;obtain⟨o,ho,hok⟩:=Vb (by omega) ht' hwD hK;refine⟨o,λ_=>⟨λj hj=>?_,hok⟩⟩;rw[←ho,←Go.Deep.add_add,hat j hj]
   ·exact⟨⟨0,0,0,⟨0,0,0,⟨#[]⟩,[],none,0,[],none,0⟩,[],none,0⟩,λh=>absurd h hil⟩
  obtain⟨Of,hOf⟩:=Classical.skolem.1 hex;have hget:∀(i:Nat) (o:uz),((List.range len).map Of)[i]?=some o→i<len∧o=Of i:=λi o ho=>by
   have hlt:=(bV ho).1;simp at hlt
   rw[fA,List.getElem?_range hlt]at ho;cases ho
   exact⟨hlt,rfl⟩
  refine⟨some a,(List.range len).map Of,m,by simp,by simp;omega,λi o ho=>?_,λo ho=>?_⟩
  ·obtain⟨hil,rfl⟩:=hget i o ho
   obtain⟨h2,_⟩:=hOf i hil;have h0:=(hOf 0 (by omega)).1 0 (by omega);have h00:(Of 0).cells[0]?=some (.int .i64 (Of 0).kind):=rfl;rw[h00]at h0;obtain⟨ab,ao,spot⟩:=a;have hspot:spot=none:=by simpa [Addr.add]using World.cell?_spot h0
   subst hspot;refine⟨ab,ao,rfl,λj u hj=>?_⟩;have agn:j<10:=by have:=(bV hj).1;simpa [uz.cells]using this
   have:=h2 j agn;rw[Addr.add_lit,hj]at this;rw[Nat.add_assoc];exact this
  ·obtain⟨i,hi2⟩:=List.mem_iff_getElem?.1 ho
   obtain⟨hil,rfl⟩:=hget i o hi2;exact(hOf i hil).2
end
end Go.Proofs.YtcnjjchlebmfiaaGreatDoor
