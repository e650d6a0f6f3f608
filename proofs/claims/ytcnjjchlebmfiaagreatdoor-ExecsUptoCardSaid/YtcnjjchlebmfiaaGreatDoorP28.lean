/-.-/
import Derived.Test.YtcnjjchlebmfiaaGreatDoorP26
import Derived.Test.YtcnjjchlebmfiaaGreatDoorP24
set_option linter.all false
set_option maxRecDepth 100000
set_option maxHeartbeats 16000000
namespace Go.Proofs.YtcnjjchlebmfiaaGreatDoor
section
open Go.RowKit Go.MapKept Go.Maps
def RQ(live:Bool):List Int:=if live then[-1,-1,-1,0,0,0,0,0]else List.replicate 8 0
theorem Jm(l:Bool):(RQ l).length=8:=by cases l<;>rfl
def dL(p:Xp)(v:Value):List Value:=qN p.pid p.par p.st p.sv 0 p.pc p.rs (if p.live then v else .slice none 0 0) (RQ p.live)
theorem fJ{p:Xp}(h:p.rs.length=16)(v:Value):(dL p v).length=31:=by
 unfold dL qN;simp[h,Jm]
theorem wK{p:Xp}(h:p.rs.length=16)(v:Value):(dL p v)[22]?=some (if p.live then v else .slice none 0 0):=by
 obtain⟨r0,r1,r2,r3,r4,r5,r6,r7,r8,r9,r10,r11,r12,r13,yf,vM,e2⟩:=Bc h;unfold dL qN;simp only[e2]
 rfl
theorem Jn{p:Xp}{v:Value}(hv:v.oneCell'=true):∀u∈dL p v,u.oneCell'=true:=λu hu=>by
 unfold dL qN at hu;simp only[List.mem_append,List.mem_cons,List.mem_map,List.not_mem_nil,or_false]at hu
 rcases hu with(((rfl|rfl|rfl|rfl|rfl|rfl)|⟨y,_,rfl⟩)|rfl)|⟨y,_,rfl⟩
 all_goals first|rfl|skip
 split
 ·exact hv
 ·rfl
structure QE where
 kv:KV
 iv:Value
 g:Nat
 gc:Nat
 cs:List Value
 pv:Nat→Value
def aZ(Q:QE)(ps:List Xp):List Value:=ps.flatMap λp=>dL p (Q.pv p.pid)
def rM(E:XE)(ps:List Xp)(Q:QE)(q:Nat):Prop:=
 q=E.rb∨q=Q.g∨aU Q.kv.tv=some q∨aU Q.kv.uv=some q∨∃p∈ps,p.live=true∧(Q.pv p.pid).ownBlock=some q
structure UW(w:World)(v:Value)(m:ax):Prop where
 pw:Be w v m
 sl:∃g n c,v=.slice (g,0) n c∧n≤c∧∃cs,Blk w g cs 260
theorem UW.own{w:World}{v:Value}{m:ax}(h:UW w v m){q:Nat}(hq:v.ownBlock=some q):∃cs,Blk w q cs 260:=by
 obtain⟨g,n,c,rfl,_,hb⟩:=h.sl;have:g=q:=by simpa [Value.ownBlock]using hq
 rw[←this];exact hb
theorem UW.one{w:World}{v:Value}{m:ax}(h:UW w v m):v.oneCell'=true:=by
 obtain⟨g,n,c,rfl,_⟩:=h.sl;rfl
theorem UW.keep{S:Nat→Prop}{w w':World}{v:Value}{m:ax}(h:UW w v m)(k:Keep S w w')(hs:∀q,v.ownBlock=some q→¬S q):UW w' v m:=by
 refine⟨h.pw.keep k hs,?_⟩;obtain⟨g,n,c,rfl,h2,cs,hb⟩:=h.sl;exact⟨g,n,c,rfl,h2,cs,hb.keep k (hs g rfl)⟩
structure QX(E:XE)(w:World)(ps:List Xp)(ty:List Int)(Q:QE):Prop where
 dk:DK w E.rb Q.kv Q.iv E.L
 lim:Q.kv.a=E.l.a∧Q.kv.b=E.l.b
 pv:Q.kv.pv=.slice (Q.g,0) ps.length Q.gc
 gc:ps.length≤Q.gc
 ov:Q.kv.ov=.slice none 0 0
 xv:Q.kv.xv=.slice none 0 0
 row:Blk w Q.g Q.cs 167
 rows:Q.cs.take (ps.length*31)=aZ Q ps
 len:ps.length*31≤Q.cs.length
 pW:∀p∈ps,p.live=true→UW w (Q.pv p.pid) p.M
 inj:∀p∈ps,∀q∈ps,p.live=true→q.live=true→∀g,(Q.pv p.pid).ownBlock=some g→(Q.pv q.pid).ownBlock=some g→p.pid=q.pid
 tb:Buf w Q.kv.tv ty
 ub:Buf w Q.kv.uv []
 ap:∀g,aU Q.kv.tv=some g→aU Q.kv.uv≠some g
 lo:∀q,rM E ps Q q→MI E q
def TyH(t:TypeId):Prop:=t=174∨t=167∨t=260∨t=5
section
variable {E:XE} {w w':World} {ps:List Xp} {ty:List Int} {Q:QE} {S:Nat→Prop} {lp lf:Nat}
theorem QX.typ(h:QX E w ps ty Q){q:Nat}(hq:rM E ps Q q):∃cs t,Blk w q cs t∧TyH t:=by
 unfold TyH;rcases hq with rfl|rfl|hq|hq|⟨p,hp,hl,hq⟩
 ·exact⟨_,_,h.dk.blk,by decide⟩
 ·exact⟨_,_,h.row,by decide⟩
 ·obtain⟨cs,hb⟩:=h.tb.blk hq;exact⟨_,_,hb,by decide⟩
 ·obtain⟨cs,hb⟩:=h.ub.blk hq;exact⟨_,_,hb,by decide⟩
 ·obtain⟨cs,hb⟩:=(h.pW p hp hl).own hq;exact⟨_,_,hb,by decide⟩
theorem QX.lt(h:QX E w ps ty Q){q:Nat}(hq:rM E ps Q q):q<w.heap.size:=by
 obtain⟨_,_,hb,_⟩:=h.typ hq;exact hb.lt
theorem DK.WU{kb:Nat}{s:KV}{iv:Value}{L:List Nd}(h:DK w kb s iv L)(k:Keep S w w')(h1:¬S kb)(h2:∀q cs,Blk w q cs 252→¬S q)(h3:∀n∈L,∀g,n.bv.ownBlock=some g→¬S g):DK w' kb s iv L:=
 ⟨h.blk.keep k h1,xR h.row k h2,λn hn=>⟨(h.aS n hn).1.keep k (h3 n hn),(h.aS n hn).2⟩,h.few,h.one⟩
theorem QX.keep(h:QX E w ps ty Q)(k:Keep S w w')(hs:∀q,rM E ps Q q→¬S q)(hi:∀q cs,Blk w q cs 252→¬S q)(hb:∀n∈E.L,∀g,n.bv.ownBlock=some g→¬S g):QX E w' ps ty Q:=
 ⟨h.dk.WU k (hs _ (.inl rfl)) hi hb,h.lim,h.pv,h.gc,h.ov,h.xv,h.row.keep k (hs _ (.inr (.inl rfl))),h.rows,h.len,λp hp hl=>(h.pW p hp hl).keep k λq hq=>hs q (.inr (.inr (.inr (.inr ⟨p,hp,hl,hq⟩)))),h.inj,h.tb.keep k (λg hg=>hs g (.inr (.inr (.inl hg)))),h.ub.keep k (λg hg=>hs g (.inr (.inr (.inr (.inl hg))))),h.ap,h.lo⟩
theorem QX.bel(h:QX E w ps ty Q)(k:Bel w w'):QX E w' ps ty Q:=h.keep (Keep.of_bel (λ_=>False) k) (λ_ _ h=>h) (λ_ _ _ h=>h) λ_ _ _ _ h=>h
theorem pK(hw:lQ lp lf ps):(aZ Q ps).length=ps.length*31:=by
 unfold aZ;exact flat_length _ 31 _ λp hp=>fJ (hw.reg p hp).1 _
theorem QX.at(h:QX E w ps ty Q)(hw:lQ lp lf ps){i:Nat}{p:Xp}(hi:ps[i]?=some p){j:Nat}(hj:j<31):Q.cs[i*31+j]?=(dL p (Q.pv p.pid))[j]?:=by
 have hl:=(bV hi).1;have h1:i*31+j<ps.length*31:=by have:=Nat.mul_le_mul_right 31 (show i+1≤ps.length by omega);omega
 have h2:=fP (λp=>dL p (Q.pv p.pid)) 31 ps (λp hp=>fJ (hw.reg p hp).1 _) i j hj;rw[hi]at h2;have h3:(Q.cs.take (ps.length*31))[i*31+j]?=Q.cs[i*31+j]?:=List.getElem?_take_of_lt h1;rw[←h3,h.rows];exact h2
end
end
section
open Go.Proofs.Tryz Go.RowKit Go.MapKept Go.Maps
def nP(ps:List Xp):List Int:=ps.map λp=>(p.pid:Int)
theorem Jo{ps:List Xp}{i:Nat}{p:Xp}(h:ps[i]?=some p):(nP ps)[i]?=some (p.pid:Int):=by unfold nP;rw[fA,h];rfl
theorem pM{ps:List Xp}{i:Nat}{x:Int}(h:(nP ps)[i]?=some x):∃p,ps[i]?=some p∧x=p.pid:=by
 unfold nP at h;rw[fA]at h;obtain⟨p,hp,rfl⟩:=Option.map_eq_some_iff.1 h;exact⟨p,hp,rfl⟩
theorem kG{p:Xp}(v:Value):(dL p v)[0]?=some (.int .i64 (p.pid:Int))∧(dL p v)[1]?=some (.int .i64 (p.par:Int))∧(dL p v)[2]?=some (.int .i64 p.st)∧(dL p v)[3]?=some (.int .i64 p.sv):=⟨rfl,rfl,rfl,rfl⟩
section
variable {E:XE} {w:World} {ps:List Xp} {ty:List Int} {Q:QE} (hx:eY E) (hq:QX E w ps ty Q) (hk:fB E w) (hw:lQ E.l.a.toNat E.l.b.toNat ps)
include hx hq hk hw
theorem qc5:w.cell? (E.rb,5)=some (.slice (Q.g,0) ps.length Q.gc):=by rw[hq.dk.blk.cell,←hq.pv];rfl
theorem qlen:ps.length≤16:=by have:=hw.len;have:=hx.la;omega
theorem WV:yY w E.rb Q.g Q.gc (nP ps):=⟨by rw[show(nP ps).length=ps.length from jE _];exact qc5 hx hq hk hw,λj x hj=>by
 obtain⟨p,hp,rfl⟩:=pM hj;rw[hq.row.cell,show j*31=j*31+0 from rfl,hq.at hw hp (by omega)];exact(kG _).1,by rw[show(nP ps).length=ps.length from jE _];have:=qlen hx hq hk hw;omega⟩
theorem mg{i:Nat}{p:Xp}(hi:ps[i]?=some p):∀W,Bel w W→Calls prog 62 #[E.rb,.int .i64 (p.pid:Int)] W (Z.e (.int .i64 i) W):=λW hW=>
 Jp E.rb Q.g Q.gc i (nP ps) p.pid W ((WV hx hq hk hw).bel hW) (Jo hi) λj x hj hxj=>by
  obtain⟨q,hq2,rfl⟩:=pM hxj;have:=hw.lt hj hq2 hi;omega
theorem qc2{i:Nat}{p:Xp}(hi:ps[i]?=some p):w.cell? (Q.g,i*31+2)=some (.int .i64 p.st):=by
 rw[hq.row.cell,hq.at hw hi (by omega)];exact(kG _).2.2.1
theorem ad5{i:Nat}{p:Xp}(hi:ps[i]?=some p)(hl:p.live=true):w.cell? (Q.g,i*31+22)=some (Q.pv p.pid):=by
 rw[hq.row.cell,hq.at hw hi (by omega),wK (hw.reg p (List.mem_of_getElem? hi)).1,hl];rfl
theorem EJ:∀W,Bel w W→Calls prog 118 #[E.rb] W (Z.b (.agg (fM ps.length (aI ps) 0 E.L.length (aS E.L).sum).toArray) W):=λW hW=>by
 obtain⟨g,cap,hiv,htr,hg⟩:=(hq.dk).tree;have hfew:=hq.dk.few;have hlen:=qlen hx hq hk hw;have hfr:=hw.fr;have hlb:=hx.lb;have hpl:(ps.map Xp.n).length=ps.length:=jE _;have hbb:(aS E.L).sum≤100000:=by rw[GI,hx.sk];exact hx.bb
 have h:=Bf E.rb g cap E.L W (htr.bel hW) (ps.map Xp.n) (some ⟨Q.g,0,none⟩) none Q.gc 0 0 (by rw[hpl];exact af hW (qc5 hx hq hk hw)) (by rw[hpl];exact hq.gc) (λi n hi=>?_) (af hW (by rw[hq.dk.blk.cell];show some Q.kv.ov=_;rw[hq.ov])) (λn hn=>by
  obtain⟨p,c,hv,_⟩:=(hq.dk.aS n hn).1.slice;exact⟨p,c,hv⟩) (by show aI ps≤1000000;omega) (by omega) (by omega) (by omega) (by omega)
 ·rw[hpl]at h
  exact h
 ·rw[fA]at hi
  obtain⟨p,hp,rfl⟩:=Option.map_eq_some_iff.1 hi;have hps:=List.mem_of_getElem? hp;have hc:w.cell? (Q.g,i*31+22)=some (if p.live then Q.pv p.pid else .slice none 0 0):=by
   rw[hq.row.cell,hq.at hw hp (by omega),wK (hw.reg p hps).1]
  cases hl:p.live with
  | true=>
    obtain⟨p2,c2,e,_⟩:=(hq.pW p hps hl).pw;rw[hl,e]at hc;exact⟨Q.g,p2,c2,rfl,af hW hc⟩
  | false=>
    have h0:p.n=0:=by
     unfold Xp.n;rw[show p.M=yU from funext (hw.dead p hps hl)];exact wI
    rw[hl]at hc;rw[h0];exact⟨Q.g,none,0,rfl,af hW hc⟩
end
structure WW(E:XE)(ty:List Int)(ps:List Xp)(Q:QE)(ps':List Xp)(n:Nat)(w:World)(Q':QE)(w':World):Prop where
 qx:QX E w' ps' ty Q'
 kept:Keep (rM E ps Q) w w'
 new:∀q,rM E ps' Q' q→rM E ps Q q∨n≤q
def DXa(E:XE)(ty:List Int)(ps:List Xp)(Q:QE)(ps':List Xp)(N M:Int)(L:List Int)(w:World)(n m:Int)(p:Option Addr)(l _c:Nat)(f:Int)(W:World):Prop:=
 n=N∧m=M∧f=0∧l=L.length∧∃Q',WW E ty ps Q ps' w.heap.size w Q' W∧BS W p L∧∀g o,p=some ⟨g,o,none⟩→0<L.length→w.heap.size≤g∧¬rM E ps' Q' g
def Jq(E:XE)(ty:List Int)(ps:List Xp)(Q:QE)(ps':List Xp)(N M:Int)(L:List Int)(pid kd a b:Int)(t:ByteArray)(lp dp:Option Addr)(ln lc dn dc:Nat)(w:World):Prop:=
 Calls prog 111 #[E.rb,pid,.agg #[kd,a,b,t,(lp,ln,lc),(dp,dn,dc)]] w λe w'=>VO (DXa E ty ps Q ps' N M L w) e w'
def rO(E:XE)(f pid kd a b:Int)(t:ByteArray)(lp dp:Option Addr)(ln lc dn dc:Nat)(w:World):Prop:=
 Calls prog 111 #[E.rb,pid,.agg #[kd,a,b,t,(lp,ln,lc),(dp,dn,dc)]] w λe w'=>LZ w f e w'
section
variable {E:XE} {w:World} {ps:List Xp} {ty:List Int} {Q:QE} (hx:eY E) (hq:QX E w ps ty Q) (hk:fB E w) (hw:lQ E.l.a.toNat E.l.b.toNat ps)
include hx hq hk hw
theorem RS(pid kd a b:Int)(t:ByteArray)(lp dp:Option Addr)(ln lc dn dc:Nat)(h:∀p∈ps,(p.pid:Int)≠pid):rO E 18 pid kd a b t lp dp ln lc dn dc w:=
 ZZ E.rb pid kd a b t lp dp ln lc dn dc w λW hW=>Bg E.rb Q.g Q.gc (nP ps) pid W ((WV hx hq hk hw).bel hW) λx hxm=>by
  obtain⟨p,hps,rfl⟩:=List.mem_map.1 hxm;exact h p hps
theorem RU{i:Nat}{p:Xp}(hi:ps[i]?=some p)(hl:p.live=false)(kd a b:Int)(t:ByteArray)(lp dp:Option Addr)(ln lc dn dc:Nat):rO E 24 p.pid kd a b t lp dp ln lc dn dc w:=by
 have hlen:=qlen hx hq hk hw;exact RX E.rb p.pid kd 2 a b t lp dp ln lc dn dc Q.g Q.gc ps.length i w (qc5 hx hq hk hw) (bV hi).1 (by omega) (by rw[qc2 hx hq hk hw hi];simp[Xp.st,hl]) (by omega) (mg hx hq hk hw hi)
theorem uZ{i:Nat}{p:Xp}(hi:ps[i]?=some p)(hl:p.live=true):w.cell? (Q.g,i*31+2)=some (.int .i64 0):=by rw[qc2 hx hq hk hw hi];simp[Xp.st,hl]
theorem RY{i:Nat}{p:Xp}(hi:ps[i]?=some p)(hl:p.live=true)(kd a b:Int)(t:ByteArray)(lp dp:Option Addr)(ln lc dn dc:Nat)(hkd:kd<0∨62≤kd):rO E 23 p.pid kd a b t lp dp ln lc dn dc w:=by
 have hlen:=qlen hx hq hk hw;exact WX E.rb p.pid kd a b t lp dp ln lc dn dc Q.g Q.gc ps.length i w (qc5 hx hq hk hw) (bV hi).1 (by omega) (uZ hx hq hk hw hi hl) hkd (mg hx hq hk hw hi)
theorem abZ{i:Nat}{p:Xp}(hi:ps[i]?=some p)(hl:p.live=true):DPg w Q.g (i*31) (Q.pv p.pid) p.M:=
 ⟨ad5 hx hq hk hw hi hl,(hq.pW p (List.mem_of_getElem? hi) hl).pw.rd,hw.ok p (List.mem_of_getElem? hi)⟩
theorem PI{w':World}(k:Bel w w'){n:Nat}:WW E ty ps Q ps n w Q w':=⟨hq.bel k,Keep.of_bel _ k,λ_ h=>.inl h⟩
theorem EK{i:Nat}{p:Xp}(hi:ps[i]?=some p)(hl:p.live=true)(f a b:Int)(t:ByteArray)(lp dp:Option Addr)(ln lc dn dc:Nat)(h:(f=6∧(b<0∨4096<b))∨(f=7∧0≤b∧b≤4096∧gz p.M (uA a) b 4=false)):rO E f p.pid 18 a b t lp dp ln lc dn dc w:=by
 have hlen:=qlen hx hq hk hw;refine(WY E.rb p.pid a b t lp dp ln lc dn dc Q.g Q.gc ps.length i (λn m xp l c f' W=>n=0∧m=0∧xp=none∧l=0∧c=0∧f'=f∧Bel w W) w (qc5 hx hq hk hw) (bV hi).1 (by omega) (uZ hx hq hk hw hi hl) (mg hx hq hk hw hi) λW hW=>?_).mono ?_
 ·rcases h with⟨rfl,hb⟩|⟨rfl,hb0,hb,hm⟩
  ·refine(MP E.rb Q.g (i*31) 18 a b t lp dp ln lc dn dc W hb).mono ?_
   rintro e w' ⟨rfl,h1⟩;exact⟨_,_,_,_,_,_,rfl,rfl,rfl,rfl,rfl,rfl,rfl,hW.tr h1⟩
  ·refine(RZ E.rb Q.g (i*31) 18 a b t lp dp ln lc dn dc W (Q.pv p.pid) p.M hb0 hb ((abZ hx hq hk hw hi hl).bel hW) hm).mono ?_
   rintro e w' ⟨rfl,h1⟩;exact⟨_,_,_,_,_,_,rfl,rfl,rfl,rfl,rfl,rfl,rfl,hW.tr h1⟩
 ·rintro e w' ⟨n,m,xp,l,c,f',rfl,rfl,rfl,rfl,rfl,rfl,rfl,h1⟩
  exact⟨rfl,h1⟩
end
end
section
open Go.RowKit Go.MapKept Go.Maps
theorem Si{Q:QE}{ps:List Xp}{i:Nat}{p q:Xp}(hi:ps[i]?=some p)(h:dL q (Q.pv q.pid)=dL p (Q.pv p.pid)):aZ Q (ps.set i q)=aZ Q ps:=by
 unfold aZ
 induction ps generalizing i with
 | nil=>cases hi
 | cons a l ih=>
   cases i with
   | zero=>
     simp only[List.getElem?_cons_zero,Option.some.injEq]at hi
     subst hi;rw[List.set_cons_zero,List.flatMap_cons,List.flatMap_cons,h]
   | succ i=>
     rw[List.getElem?_cons_succ]at hi;rw[List.set_cons_succ,List.flatMap_cons,List.flatMap_cons,ih hi]
theorem Jr{E:XE}{ps:List Xp}{Q:QE}{q:Xp}{i:Nat}{p:Xp}(hi:ps[i]?=some p)(e1:q.pid=p.pid)(e2:q.live=p.live)(x:Nat):rM E (ps.set i q) Q x↔rM E ps Q x:=by
 unfold rM;have key:(∃r∈ps.set i q,r.live=true∧(Q.pv r.pid).ownBlock=some x)↔∃r∈ps,r.live=true∧(Q.pv r.pid).ownBlock=some x:=by
  have hp:=List.mem_of_getElem? hi;have hil:=(bV hi).1;constructor
  ·rintro⟨r,hr,h⟩
   rcases List.mem_or_eq_of_mem_set hr with h1|rfl
   ·exact⟨r,h1,h⟩
   ·exact⟨p,hp,by rw[←e1,←e2];exact h⟩
  ·rintro⟨r,hr,h⟩
   obtain⟨j,hj⟩:=List.getElem?_of_mem hr;by_cases e:j=i
   ·subst e
    rw[hi]at hj;cases hj
    exact⟨q,List.mem_of_getElem? (List.getElem?_set_self hil),by rw[e1,e2];exact h⟩
   ·exact⟨r,List.mem_of_getElem? ((List.getElem?_set_ne (λh=>e h.symm)).trans hj),h⟩
 rw[key]
section
variable {E:XE} {w w':World} {ps:List Xp} {ty:List Int} {Q:QE} (hx:eY E) (hq:QX E w ps ty Q) (hk:fB E w) (hw:lQ E.l.a.toNat E.l.b.toNat ps)
include hx hq hk hw
theorem GK{n:Nd}(hn:n∈E.L){g:Nat}(hg:n.bv.ownBlock=some g){q:Nat}{cs:List Value}{t:TypeId}(hb:Blk w q cs t)(ht:t≠5):g≠q:=by
 obtain⟨_,cur,hc⟩:=(hq.dk.aS n hn).1.lt hg;exact hc.ne hb (λe=>ht e.symm)
theorem QX.Wl{i:Nat}{p:Xp}(hi:ps[i]?=some p)(hl:p.live=true)(M':ax)(k:Keep (λq=>(Q.pv p.pid).ownBlock=some q) w w')(hp':Be w' (Q.pv p.pid) M'):QX E w' (ps.set i {p with M:=M'}) ty Q:=by
 have hps:=List.mem_of_getElem? hi;have uF:=hq.pW p hps hl;have hblk:∀q cs t,Blk w q cs t→t≠260→¬(Q.pv p.pid).ownBlock=some q:=λq cs t hb n1 e=>by
  obtain⟨_,hb2⟩:=uF.own e;exact hb.ne hb2 n1 rfl
 have hbuf:∀{v:Value} {L:List Int},Buf w v L→Buf w' v L:=λhb=>hb.keep k λg hg=>by
  obtain⟨_,hb2⟩:=hb.blk hg;exact hblk _ _ _ hb2 (by decide)
 have hmem:∀x∈ps.set i {p with M:=M'},x={p with M:=M'}∨(x∈ps∧x.pid≠p.pid):=λx hx=>by
  obtain⟨j,hj⟩:=List.getElem?_of_mem hx;by_cases e:j=i
  ·subst e
   rw[List.getElem?_set_self (bV hi).1]at hj;exact .inl (Option.some.inj hj).symm
  ·rw[List.getElem?_set_ne (λh=>e h.symm)]at hj
   exact .inr ⟨List.mem_of_getElem? hj,λe2=>e (hw.uniq hj hi e2)⟩
 refine⟨hq.dk.WU k (hblk _ _ _ hq.dk.blk (by decide)) (λq cs hb=>hblk q cs _ hb (by decide)) (λn hn g hg=>?_),hq.lim,by rw[List.length_set];exact hq.pv,by rw[List.length_set];exact hq.gc,hq.ov,hq.xv,hq.row.keep k (hblk _ _ _ hq.row (by decide)),by rw[List.length_set,Si (q:={p with M:=M'}) hi rfl];exact hq.rows,by rw[List.length_set];exact hq.len,λx hx1 hxl=>?_,λx hx1 y hy1 hxl hyl g hg1 hg2=>?_,hbuf hq.tb,hbuf hq.ub,hq.ap,λq hq1=>hq.lo q ((Jr (q:={p with M:=M'}) hi rfl rfl q).1 hq1)⟩
 ·intro e
  obtain⟨_,hb2⟩:=uF.own e;exact GK hx hq hk hw hn hg hb2 (by decide) rfl
 ·rcases hmem x hx1 with rfl|⟨hx2,hn⟩
  ·obtain⟨g,n,c,e,h2,cs,hb⟩:=uF.sl
   obtain⟨p1,c1,e1,h1⟩:=hp';refine⟨⟨p1,c1,e1,h1⟩,?_⟩;show ∃g n c,Q.pv p.pid=_∧_
   have hmp:0<(ag p.M).length:=by
    obtain⟨y,_,hy⟩:=hw.live p hps hl;have Js:y<256:=by
     rcases Nat.lt_or_ge y 256 with c|c
     ·exact c
     ·rw[(hw.ok p hps).below y c]at hy;cases hy
    exact List.length_pos_of_mem (kH.2 ⟨Js,hy⟩)
   obtain⟨p2,c2,e2,h3⟩:=uF.pw;have hn1:(ag p.M).length=(ag M').length:=by
    rw[e1]at e2
    injection e2 with _ e2 _
    exact e2.symm
   obtain⟨g5,cs5,e5,hb5,_⟩:=h1 (by omega);rw[e1,e5];refine⟨g5,_,_,rfl,?_,cs5,hb5⟩;rw[e1]at e
   injection e with _ ee1 ee2
   omega
  ·exact(hq.pW x hx2 hxl).keep k λg hg e=>hn (hq.inj x hx2 p hps hxl hl g hg e)
 ·rcases hmem x hx1 with rfl|⟨hx2,_⟩<;>rcases hmem y hy1 with rfl|⟨hy2,_⟩
  ·rfl
  ·exact hq.inj p hps y hy2 hl hyl g hg1 hg2
  ·exact hq.inj x hx2 p hps hxl hl g hg1 hg2
  ·exact hq.inj x hx2 y hy2 hxl hyl g hg1 hg2
omit hx hq hk hw in
theorem Sj{base:Nat}{v:Value}{n:Nat}{L:List Int}(h:w.ownsRow base 5 1 v n (L.map (Value.int .u8)))(hn:L.length=n)(hL:∀x∈L,0≤x∧x≤255):∃p c,v=.slice p n c∧BS w p L∧∀g o,p=some ⟨g,o,none⟩→0<L.length→base≤g:=by
 obtain⟨p,c,rfl,_,_,hp⟩:=aG h;refine⟨p,c,rfl,⟨hL,λh0=>?_⟩,λg o e h0=>?_⟩
 ·obtain⟨g2,rfl,_,_,hc,_⟩:=hp.resolve_left (by omega)
  have h1:=hc 0 (by simp;omega);rw[fA,bT h0]at h1;refine⟨g2,0,rfl,World.block_lt_of_cell? _ _ h1,⟨λi hi=>?_,hL⟩⟩;rw[Nat.zero_add,hc i (by simpa using hi),fA]
 ·obtain⟨g2,rfl,_,_,hc,_⟩:=hp.resolve_left (by omega)
  cases e
  exact(row_blk h rfl).1
theorem Z4{i:Nat}{p:Xp}(hi:ps[i]?=some p)(hl:p.live=true)(a:Int)(n:Nat)(t:ByteArray)(lp dp:Option Addr)(ln lc dn dc:Nat)(hn:n≤4096)(hm:gz p.M (uA a) n 4=true):Jq E ty ps Q ps n 0 (uD p.M (uA a).toNat n) p.pid 18 a n t lp dp ln lc dn dc w:=by
 have hlen:=qlen hx hq hk hw;have hps:=List.mem_of_getElem? hi;refine(WY E.rb p.pid a n t lp dp ln lc dn dc Q.g Q.gc ps.length i (DXa E ty ps Q ps n 0 (uD p.M (uA a).toNat n) w) w (qc5 hx hq hk hw) (bV hi).1 (by omega) (uZ hx hq hk hw hi hl) (mg hx hq hk hw hi) λW hW=>?_);have hd:=(abZ hx hq hk hw hi hl).bel hW;rw[←lq (hw.ok p hps)]at hd hm;refine(WZ E.rb Q.g (i*31) 18 a n t lp dp ln lc dn dc W (Q.pv p.pid) (rG p.M) (DI p.M) n rfl hn hd hm).mono ?_;rintro e w' ⟨v,rfl,hr,hb⟩;have hr2:w'.ownsRow W.heap.size 5 1 v n ((uD p.M (uA a).toNat n).map (Value.int .u8)):=by
  unfold uD;rw[List.map_map];exact hr
 obtain⟨xp,c,rfl,hbs,hg⟩:=Sj hr2 (tq _ _ _) λy hy=>by
  obtain⟨j,_,rfl⟩:=List.mem_map.1 hy;exact sW (hw.ok p hps) _
 refine⟨_,_,_,_,_,_,rfl,rfl,rfl,rfl,(tq _ _ _).symm,Q,PI hx hq hk hw (hW.tr hb),hbs,λg o e h0=>?_⟩;have h1:=hg g o e h0;have h2:=hW.size;exact⟨by omega,λhf=>by have:=hq.lt hf;omega⟩
theorem EL{i:Nat}{p:Xp}(hi:ps[i]?=some p)(hl:p.live=true)(f a b:Int)(t:ByteArray)(lp dp:Option Addr)(ln lc dn dc:Nat)(h:(f=6∧4096<dn∧dn≤100000000)∨(f=7∧dn≤4096∧gz p.M (uA a) dn 2=false)):rO E f p.pid 19 a b t lp dp ln lc dn dc w:=by
 have hlen:=qlen hx hq hk hw;refine(W9 E.rb p.pid a b t lp dp ln lc dn dc Q.g Q.gc ps.length i (λn f' W=>n=0∧f'=f∧Bel w W) w (qc5 hx hq hk hw) (bV hi).1 (by omega) (uZ hx hq hk hw hi hl) (mg hx hq hk hw hi) λW hW=>?_).mono ?_
 ·rcases h with⟨rfl,hb,hb2⟩|⟨rfl,hb,hm⟩
  ·refine(MQ E.rb Q.g (i*31) 19 a b t lp dp ln lc dn dc W hb hb2).mono ?_
   rintro e w' ⟨rfl,h1⟩;exact⟨_,_,rfl,rfl,rfl,hW.tr h1⟩
  ·refine(Sl E.rb Q.g (i*31) 19 a b t lp dp ln lc dn dc W (Q.pv p.pid) p.M hb ((abZ hx hq hk hw hi hl).bel hW) hm).mono ?_
   rintro e w' ⟨rfl,h1⟩;exact⟨_,_,rfl,rfl,rfl,hW.tr h1⟩
 ·rintro e w' ⟨n,f',rfl,rfl,rfl,h1⟩
  exact⟨rfl,h1⟩
theorem Z5{i:Nat}{p:Xp}(hi:ps[i]?=some p)(hl:p.live=true)(a b:Int)(t:ByteArray)(lp dp:Option Addr)(ln lc dc:Nat)(d:List Int)(hd:d.length≤4096)(hby:zQ w dp d)(hm:gz p.M (uA a) d.length 2=true):Jq E ty ps Q (ps.set i {p with M:=lZ p.M (uA a).toNat d}) d.length 0 [] p.pid 19 a b t lp dp ln lc d.length dc w:=by
 have hlen:=qlen hx hq hk hw;have hps:=List.mem_of_getElem? hi;refine(W9 E.rb p.pid a b t lp dp ln lc d.length dc Q.g Q.gc ps.length i (λn f' W=>n=d.length∧f'=0∧WW E ty ps Q (ps.set i {p with M:=lZ p.M (uA a).toNat d}) w.heap.size w Q W) w (qc5 hx hq hk hw) (bV hi).1 (by omega) (uZ hx hq hk hw hi hl) (mg hx hq hk hw hi) λW hW=>?_).mono ?_
 ·have uj:=hq.bel hW
  have hkW:=hk.tr (Keep.of_bel _ hW);have uF:=uj.pW p hps hl;have hpw:=uF.pw;have hm2:=hm;rw[←lq (hw.ok p hps)]at hm2 hpw;refine(Xa E.rb Q.g (i*31) 19 a b t lp dp ln lc d.length dc W (Q.pv p.pid) (rG p.M) (DI p.M) d rfl hd (hby.bel hW) (ad5 hx uj hkW hw hi hl) hpw (λq e=>uF.own e) (sW (hw.ok p hps)) (I9 (hw.ok p hps)) (Ja (hw.ok p hps)) hm2).mono ?_;rintro e w' ⟨rfl,hP,kk⟩;refine⟨_,_,rfl,rfl,rfl,⟨QX.Wl hx uj hkW hw hi hl (lZ p.M (uA a).toNat d) kk hP,(Keep.of_bel _ hW).tr (kk.mono λq hq1=>.inr (.inr (.inr (.inr ⟨p,hps,hl,hq1⟩)))),λq hq1=>.inl ((Jr (q:={p with M:=lZ p.M (uA a).toNat d}) hi rfl rfl q).1 hq1)⟩⟩
 ·rintro e w' ⟨n,f',rfl,rfl,rfl,h1⟩
  exact⟨_,_,_,_,_,_,rfl,rfl,rfl,rfl,rfl,Q,h1,⟨λ_ h=>(by cases h),λh=>absurd h (by simp)⟩,λ_ _ e=>(by cases e)⟩
end
end
end Go.Proofs.YtcnjjchlebmfiaaGreatDoor
