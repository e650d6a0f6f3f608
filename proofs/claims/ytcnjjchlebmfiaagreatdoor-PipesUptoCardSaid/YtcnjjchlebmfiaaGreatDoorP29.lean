/-.-/
import Derived.Test.YtcnjjchlebmfiaaGreatDoorP24
import Derived.Test.YtcnjjchlebmfiaaGreatDoorP28
set_option linter.all false
set_option maxRecDepth 100000
set_option maxHeartbeats 16000000
namespace Go.Proofs.YtcnjjchlebmfiaaGreatDoor
section
open Go.Proofs.Tryz Go.RowKit Go.MapKept Go.Maps
structure QD where
 kv:KV
 iv:Value
 bd:Nat→Value
 cs:List Value
def dX(E:PE)(s:St)(Q:QD)(q:Nat):Prop:=
 q=E.rb∨q=E.g∨ag Q.kv.tv=some q∨ag Q.kv.uv=some q∨Q.kv.ov.ownBlock=some q∨Q.kv.xv.ownBlock=some q∨∃p∈s.pipes,ag (Q.bd p.id)=some q
structure DD(E:PE)(w:World)(s:St)(Q:QD):Prop where
 blk:Blk w E.rb (Q.kv.cells Q.iv s.last) 174
 Dn:w.ownsRow (E.rb+1) 252 5 Q.iv E.L.length (bE 0 E.L)
 lim:Q.kv.a=E.l.a∧Q.kv.b=E.l.b∧Q.kv.c=E.l.c∧Q.kv.d=E.l.d∧Q.kv.e=E.l.e
 pv:Q.kv.pv=.slice (E.g,0) 1 E.gc
 oj:xx w E.w0.heap.size Q.kv.ov (aj s.fds s.pipes)
 Ou:xA w E.w0.heap.size Q.kv.xv (dR Q.bd s.pipes)
 tb:Buf w Q.kv.tv s.typed
 ub:Buf w Q.kv.uv s.out
 bb:∀p∈s.pipes,Buf w (Q.bd p.id) p.byt
 row:Blk w E.g Q.cs 167
 take:Q.cs.take 31=kJ 1 0 0 0 0 E.pc E.rs E.pv (s.fds.map Fd.id)
 len:31≤Q.cs.length
 ap:∀g,ag Q.kv.tv=some g→ag Q.kv.uv≠some g
 zC:∀p∈s.pipes,∀g,ag (Q.bd p.id)=some g→ag Q.kv.tv≠some g∧ag Q.kv.uv≠some g
 lo:∀q,dX E s Q q→JD E q
def TyD(t:TypeId):Prop:=t=174∨t=167∨t=357∨t=421∨t=5
section
variable {E:PE} {s:St} {Q:QD} {w w':World} {S:Nat→Prop}
theorem DD.typ(h:DD E w s Q){q:Nat}(hq:dX E s Q q):∃cs t,Blk w q cs t∧TyD t:=by
 unfold TyD;rcases hq with rfl|rfl|hq|hq|hq|hq|⟨p,hp,hq⟩
 ·exact⟨_,_,h.blk,by decide⟩
 ·exact⟨_,_,h.row,by decide⟩
 ·obtain⟨cs,hb⟩:=h.tb.blk hq;exact⟨_,_,hb,by decide⟩
 ·obtain⟨cs,hb⟩:=h.ub.blk hq;exact⟨_,_,hb,by decide⟩
 ·obtain⟨_,cs,hb⟩:=row_blk h.oj hq;exact⟨_,_,hb,by decide⟩
 ·obtain⟨_,cs,hb⟩:=row_blk h.Ou hq;exact⟨_,_,hb,by decide⟩
 ·obtain⟨cs,hb⟩:=(h.bb p hp).blk hq;exact⟨_,_,hb,by decide⟩
theorem DD.lt(h:DD E w s Q){q:Nat}(hq:dX E s Q q):q<w.heap.size:=by
 obtain⟨_,_,hb,_⟩:=h.typ hq;exact hb.lt
theorem jf{base:Nat}{e:TypeId}{size:Nat}{v:Value}{n:Nat}{xs:List Value}(h:w.ownsRow base e size v n xs)(k:Keep S w w')(hs:∀g,v.ownBlock=some g→¬S g):w'.ownsRow base e size v n xs:=by
 refine⟨h.1,?_⟩;rcases h.2 with h2|⟨g,cap,cur,rfl,h3,h4,h5⟩
 ·exact .inl h2
 ·refine .inr ⟨g,cap,cur,rfl,h3,?_,h5⟩
  have hlt:g<w.heap.size:=by
   by_cases hl:g<w.heap.size
   ·exact hl
   ·rw[Array.getElem?_eq_none (by omega)]at h4;cases h4
  rw[k.block g hlt (hs g rfl)];exact h4
theorem DD.WK(h:DD E w s Q)(k:Keep S w w')(hs:∀q,dX E s Q q→¬S q)(hi:∀g,Q.iv.ownBlock=some g→¬S g):DD E w' s Q:=
 ⟨h.blk.keep k (hs _ (.inl rfl)),jf h.Dn k hi,h.lim,h.pv,jf h.oj k λg hg=>hs g (.inr (.inr (.inr (.inr (.inl hg))))),jf h.Ou k λg hg=>hs g (.inr (.inr (.inr (.inr (.inr (.inl hg)))))),h.tb.keep k (λg hg=>hs g (.inr (.inr (.inl hg)))),h.ub.keep k (λg hg=>hs g (.inr (.inr (.inr (.inl hg))))),
   λp hp=>(h.bb p hp).keep k λg hg=>hs g (.inr (.inr (.inr (.inr (.inr (.inr ⟨p,hp,hg⟩)))))),h.row.keep k (hs _ (.inr (.inl rfl))),h.take,h.len,h.ap,h.zC,h.lo⟩
theorem DD.keep(h:DD E w s Q)(k:Keep S w w')(hs:∀q,dX E s Q q→¬S q)(hi:∀q cs,Blk w q cs 252→¬S q):DD E w' s Q:=h.WK k hs λg hg=>by
 obtain⟨_,cs,hb⟩:=row_blk h.Dn hg;exact hi g cs hb
theorem DD.bel(h:DD E w s Q)(k:Bel w w'):DD E w' s Q:=h.keep (Keep.of_bel (λ_=>False) k) (λ_ _ h=>h) λ_ _ _ h=>h
theorem DD.dq(h:DD E w s Q)(hx:ek E)(hk:eH E w):DQ w E.rb Q.kv Q.iv s.last E.L:=⟨h.blk,h.Dn,hx.Lp hk,by have:=hx.few;omega,hx.few.1⟩
theorem DD.at(h:DD E w s Q){j:Nat}(hj:j<31):w.cell? (E.g,j)=(kJ 1 0 0 0 0 E.pc E.rs E.pv (s.fds.map Fd.id))[j]?:=by
 rw[h.row.cell,←h.take,List.getElem?_take_of_lt hj]
theorem Lx(hr:E.rs.length=16)(ids:List Int)(i:Nat):(kJ 1 0 0 0 0 E.pc E.rs E.pv ids)[23+i]?=(ids[i]?).map (Value.int .i64):=by
 unfold kJ;rw[List.getElem?_append_right (by simp[hr]),dA];simp[hr]
theorem uy(hr:E.rs.length=16)(ids:List Int)(i:Nat)(x:Int):(kJ 1 0 0 0 0 E.pc E.rs E.pv ids).set (23+i) (.int .i64 x)=kJ 1 0 0 0 0 E.pc E.rs E.pv (ids.set i x):=by
 unfold kJ;rw[List.set_append_right _ _ (by simp[hr]),List.map_set];congr 2
 simp[hr]
theorem DD.Vh(h:DD E w s Q)(hx:ek E)(hwf:s.Wf){n:Nat}{f:Fd}(hf:s.fds[n]?=some f):w.cell? (E.g,0+23+n)=some (.int .i64 f.id):=by
 have hn:n<8:=by rw[←hwf.fl];exact(bZ hf).1
 rw[Nat.zero_add,h.at (by omega),Lx hx.rl,dA,hf];rfl
theorem DD.c5(h:DD E w s Q):w.cell? (E.rb,5)=some (.slice (E.g,0) 1 E.gc):=by rw[h.blk.cell,←h.pv];rfl
theorem DD.c6(h:DD E w s Q):w.cell? (E.rb,6)=some Q.kv.ov:=by rw[h.blk.cell];rfl
theorem DD.c8(h:DD E w s Q):w.cell? (E.rb,8)=some Q.kv.xv:=by rw[h.blk.cell];rfl
theorem LA(h:s.Wf):∀(i:Nat) (x:Int),(s.fds.map Fd.id)[i]?=some x→∃f:Fd,s.fds[i]?=some f∧x=f.id:=λi x hi=>by
 rw[dA]at hi;obtain⟨f,hf,rfl⟩:=Option.map_eq_some_iff.1 hi;exact⟨f,hf,rfl⟩
theorem zH{f:Fd}(h:f≠ .no):f.id≠0:=by
 cases f with
 | no=>exact absurd rfl h
 | jo=>simp[Fd.id]
 | rd i=>simp[Fd.id];omega
 | wr i=>simp[Fd.id];omega
theorem FZ{α:Type}(f:α→Int){l:List α}{x:α}(hx:x∈l):∃(r:Nat) (y:α),l[r]?=some y∧f y=f x∧∀(i:Nat) (z:α),i<r→l[i]?=some z→f z≠f x:=by
 induction l with
 | nil=>cases hx
 | cons a l ih=>
   by_cases e:f a=f x
   ·exact⟨0,a,rfl,e,λi z hi=>absurd hi (by omega)⟩
   ·have hx2:x∈l:=(List.mem_cons.1 hx).resolve_left λe2=>e (by rw[e2])
    obtain⟨r,y,h1,h2,h3⟩:=ih hx2;refine⟨r+1,y,by simpa using h1,h2,λi z hi hz=>?_⟩;cases i with
    | zero=>simp at hz;rw[←hz];exact e
    | succ i=>exact h3 i z (by omega) (by simpa using hz)
theorem jg{fds:List Fd}{ps:List dH}{o:Oj}:o∈aj fds ps↔∃p∈ps,(Fd.rd p.id∈fds∧o=⟨(p.id:Int)+1,2,p.id⟩)∨(Fd.wr p.id∈fds∧o=⟨(p.id:Int)+2,3,p.id⟩):=by
 unfold aj;rw[List.mem_flatMap];constructor
 ·rintro⟨p,hp,ho⟩
  refine⟨p,hp,?_⟩;unfold bW at ho;rcases List.mem_append.1 ho with h|h
  ·split at h
   ·rename_i hc;exact .inl ⟨hc,List.mem_singleton.1 h⟩
   ·cases h
  ·split at h
   ·rename_i hc;exact .inr ⟨hc,List.mem_singleton.1 h⟩
   ·cases h
 ·rintro⟨p,hp,⟨h,rfl⟩|⟨h,rfl⟩⟩
  ·exact⟨p,hp,List.mem_append_left _ (by rw[if_pos h];exact List.mem_singleton.2 rfl)⟩
  ·exact⟨p,hp,List.mem_append_right _ (by rw[if_pos h];exact List.mem_singleton.2 rfl)⟩
theorem Dp(hwf:s.Wf){x y:Oj}(hx:x∈aj s.fds s.pipes)(hy:y∈aj s.fds s.pipes)(e:y.id=x.id):y=x:=by
 obtain⟨p,hp,h⟩:=jg.1 hx;obtain⟨q,hq,h'⟩:=jg.1 hy;have hpq:=lJ hwf.ids p hp q hq;rcases h with⟨_,rfl⟩|⟨_,rfl⟩<;>rcases h' with⟨_,rfl⟩|⟨_,rfl⟩<;>simp at e<;>rcases hpq with h1|h1|h1<;>(try subst h1)<;>first|rfl|omega
theorem LB(hwf:s.Wf)(bd:Nat→Value){p:dH}(hp:p∈s.pipes):∃r:Nat,s.pipes[r]?=some p∧(dR bd s.pipes)[r]?=some ⟨p.id,bd p.id,p.byt⟩∧∀(i:Nat) (x:Pp),i<r→(dR bd s.pipes)[i]?=some x→x.id≠(p.id:Int):=by
 obtain⟨r,y,h1,h2,h3⟩:=FZ (λx:dH=>(x.id:Int)) hp;have hy:y=p:=by
  rcases lJ hwf.ids y (List.mem_of_getElem? h1) p hp with h|h|h
  ·exact h
  ·have h2:(y.id:Int)=p.id:=h2;omega
  ·have h2:(y.id:Int)=p.id:=h2;omega
 subst hy;refine⟨r,h1,by unfold dR;rw[dA,h1];rfl,λi x hi hx=>?_⟩;unfold dR at hx;rw[dA]at hx;obtain⟨z,hz,rfl⟩:=Option.map_eq_some_iff.1 hx;exact h3 i z hi hz
theorem Ga:∀(l:List Pp) (r:Nat) (x y:Pp),l[r]?=some x→y.id=x.id→(l.set r y).flatMap Pp.cells=(l.flatMap Pp.cells).set (r*2+1) y.bv
 | [],_,_,_,h,_=>by simp at h
 | a::l,0,x,y,h,e=>by
   simp at h
   subst h;simp[Pp.cells,e]
 | a::l,r+1,x,y,h,e=>by
   have ih:=Ga l r x y (by simpa using h) e;rw[List.set_cons_succ,List.flatMap_cons,List.flatMap_cons,ih];simp only[Pp.cells,List.cons_append,List.nil_append]
   rw[show(r+1)*2+1=(r*2+1)+1+1 from by omega,List.set_cons_succ,List.set_cons_succ]
theorem Vi{gp n cap:Nat}{base:Nat}{v u:Value}{l:List Pp}{cs:List Value}{r:Nat}{x y:Pp}(h:xA w base v l)(hv:v=.slice (gp,0) n cap)(hb:Blk w gp cs 421)(hb2:Blk w' gp (cs.set (r*2+1) u) 421)(hr:l[r]?=some x)(hy:y.id=x.id)(hu:y.bv=u):xA w' base v (l.set r y):=by
 unfold xA at *
 refine⟨by rw[Kw,List.length_set],?_⟩;rcases h.2 with⟨h2,_⟩|⟨g,cap',cur,e,h3,h4,h5,h6,h7,h8⟩
 ·rw[hv]at h2;cases h2
 ·rw[hv]at e
  cases e
  have hc:cur=cs.toArray:=by
   unfold Blk at hb;rw[hb]at h4
   injection h4 with h4
   injection h4 with h4
   exact h4.symm
  subst hc;refine .inr ⟨gp,cap,(cs.set (r*2+1) u).toArray,by rw[hv,List.length_set],h3,hb2,by rw[List.length_set];exact h5,h6,by simpa using h7,?_⟩;rw[List.length_set,Ga l r x y hr hy,hu];have h8:cs.take (l.length*2)=l.flatMap Pp.cells:=h8;show(cs.set (r*2+1) u).take (l.length*2)=_
  rw[List.take_set,h8]
theorem JM(hwf:s.Wf)(bd:Nat→Value){p:dH}(hp:p∈s.pipes){r:Nat}(hr:s.pipes[r]?=some p)(u:Value)(b:List Int):dR (λj=>if j=p.id then u else bd j) (ku s.pipes p.id b)=(dR bd s.pipes).set r ⟨p.id,u,b⟩:=by
 unfold dR ku;rw[List.map_map];apply List.ext_getElem?
 intro i;rw[dA,List.getElem?_set,fJ,dA];have hrl:=(bZ hr).1;by_cases e:r=i
 ·subst e
  rw[if_pos rfl,if_pos hrl,hr];simp
 ·rw[if_neg e]
  cases hq:s.pipes[i]? with
  | none=>rfl
  | some q=>
    have hne:q.id≠p.id:=by
     intro e2;have h1:=hwf.ids;rw[List.pairwise_iff_getElem]at h1;obtain⟨hi,hqe⟩:=bZ hq;obtain⟨_,hpe⟩:=bZ hr;rcases Nat.lt_or_gt_of_ne e with h|h
     ·have:=h1 r i hrl hi h;rw[hqe,hpe]at this;omega
     ·have:=h1 i r hi hrl h;rw[hqe,hpe]at this;omega
    simp[hne]
end
section
variable {E:PE} {s:St} {Q:QD} {w:World} (hx:ek E) (hd:DD E w s Q) (hk:eH E w) (hwf:s.Wf)
include hx hd hwf
theorem Dq{a:Int}(h:Ls s.fds a):∀W,Bel w W→Calls prog 272 #[E.rb,E.g,a] W (Z.b (.tuple #[.agg #[(0:Int),(0:Int),(0:Int),(0:Int)],false]) W):=λW hW=>by
 rcases h with h|h|⟨n,rfl,hn,hf⟩
 ·exact Ky E.rb E.g 0 a W (.inl h)
 ·exact Ky E.rb E.g 0 a W (.inr h)
 ·exact Xt E.rb E.g 0 n W hn ((hd.bel hW).Vh hx hwf hf)
theorem ou{n:Nat}(hf:s.fds[n]?=some .jo):∀W,Bel w W→Calls prog 272 #[E.rb,E.g,.int .i64 n] W (Z.b (.tuple #[.agg #[(0:Int),(4:Int),(0:Int),(0:Int)],true]) W):=λW hW=>
 Ue E.rb E.g 0 n W (by rw[←hwf.fl];exact(bZ hf).1) ((hd.bel hW).Vh hx hwf hf)
theorem LC{n:Nat}{f:Fd}(hf:s.fds[n]?=some f){o:Oj}(ho:o∈aj s.fds s.pipes)(hi:f.id=o.id):∀W,Bel w W→Calls prog 272 #[E.rb,E.g,.int .i64 n] W (Z.b (.tuple #[.agg #[.int .i64 o.id,.int .i64 o.kind,.int .i64 o.of,(0:Int)],true]) W):=λW hW=>by
 obtain⟨r,y,h1,h2,h3⟩:=FZ Oj.id ho;have hy:=Dp hwf ho (List.mem_of_getElem? h1) h2;subst hy;have h0:y.id≠0∧y.id≠ -1:=by
  obtain⟨p,hp,h⟩:=jg.1 ho;have:=hwf.FN p hp;rcases h with⟨_,e⟩|⟨_,e⟩<;>rw[e]<;>simp<;>omega
 refine Uf E.rb E.g 0 n E.w0.heap.size r Q.kv.ov (aj s.fds s.pipes) y W (by rw[←hwf.fl];exact(bZ hf).1) (by rw[←hi];exact(hd.bel hW).Vh hx hwf hf) h0.1 h0.2 (hd.bel hW).c6 (hd.bel hW).oj (by have:=je hwf;omega) h1 h3 λW2 hW2=>((hd.bel hW).bel hW2).oj
theorem vO{n:Nat}{p:dH}(hp:p∈s.pipes)(hf:s.fds[n]?=some (.rd p.id)):∀W,Bel w W→Calls prog 272 #[E.rb,E.g,.int .i64 n] W (Z.b (.tuple #[.agg #[.int .i64 ((p.id:Int)+1),(2:Int),.int .i64 p.id,(0:Int)],true]) W):=
 LC hx hd hwf hf (o:=⟨(p.id:Int)+1,2,p.id⟩) (jg.2 ⟨p,hp,.inl ⟨List.mem_of_getElem? hf,rfl⟩⟩) rfl
theorem sw{n:Nat}{p:dH}(hp:p∈s.pipes)(hf:s.fds[n]?=some (.wr p.id)):∀W,Bel w W→Calls prog 272 #[E.rb,E.g,.int .i64 n] W (Z.b (.tuple #[.agg #[.int .i64 ((p.id:Int)+2),(3:Int),.int .i64 p.id,(0:Int)],true]) W):=
 LC hx hd hwf hf (o:=⟨(p.id:Int)+2,3,p.id⟩) (jg.2 ⟨p,hp,.inr ⟨List.mem_of_getElem? hf,rfl⟩⟩) rfl
theorem nR{r from_:Nat}(h:xH s.fds from_ r):∀W,Bel w W→Calls prog 274 #[E.g,.int .i64 from_] W (Z.e (.int .i64 r) W):=λW hW=>by
 have tK:r<8:=by rw[←hwf.fl];exact(bZ h.2.1).1
 refine PW E.g 0 from_ r (s.fds.map Fd.id) W (λi x hi=>?_) (by rw[fJ,hwf.fl]) h.1 tK (λi x h1 h2 hi=>?_) (by rw[dA,h.2.1];rfl)
 ·obtain⟨f,hf,rfl⟩:=LA hwf i x hi
  exact(hd.bel hW).Vh hx hwf hf
 ·obtain⟨f,hf,rfl⟩:=LA hwf i x hi
  exact zH λe=>h.2.2 i h1 h2 (e▸hf)
theorem sD{from_:Nat}(h8:from_≤8)(h:Ol s.fds from_):∀W,Bel w W→Calls prog 274 #[E.g,.int .i64 from_] W (Z.e (.int .i64 (-1)) W):=λW hW=>by
 refine Ig E.g 0 from_ (s.fds.map Fd.id) W (λi x hi=>?_) (by rw[fJ,hwf.fl]) h8 (λi x h1 hi=>?_)
 ·obtain⟨f,hf,rfl⟩:=LA hwf i x hi
  exact(hd.bel hW).Vh hx hwf hf
 ·obtain⟨f,hf,rfl⟩:=LA hwf i x hi
  exact zH λe=>h i h1 (e▸hf)
end
structure JN(E:PE)(s:St)(Q:QD)(s':St)(w:World)(Q':QD)(w':World):Prop where
 dd:DD E w' s' Q'
 kept:Keep (dX E s Q) w w'
 new:∀q,dX E s' Q' q→dX E s Q q∨w.heap.size≤q∨∃cs t,Blk w' q cs t∧(t=357∨t=421)
 old:∀q,dX E s Q q→q<w.heap.size
def zI(E:PE)(s:St)(Q:QD)(s':St)(N M f:Int)(L:List Int)(w:World):Ending→World→Prop:=
 tJ λn m p l _ f' w'=>n=N∧m=M∧f'=f∧l=L.length∧∃Q',JN E s Q s' w Q' w'∧kY w' p L∧∀g o,p=some ⟨g,o,none⟩→0<L.length→w.heap.size≤g∧¬dX E s' Q' g
section
variable {E:PE} {s s':St} {Q Q':QD} {w w0 w':World} {N M f:Int} {L:List Int} {e:Ending}
theorem JN.bel(h:JN E s Q s' w Q' w')(k:Bel w0 w)(hd:DD E w0 s Q):JN E s Q s' w0 Q' w':=
 ⟨h.dd,(Keep.of_bel _ k).tr h.kept,λq hq=>(h.new q hq).imp id λh=>h.imp (aV k.le) id,λq hq=>hd.lt hq⟩
theorem zI.bel(h:zI E s Q s' N M f L w e w')(k:Bel w0 w)(hd:DD E w0 s Q):zI E s Q s' N M f L w0 e w':=by
 obtain⟨n,m,p,l,c,f',rfl,h1,h2,h3,h4,Q',h5,h6,h7⟩:=h;exact⟨n,m,p,l,c,f',rfl,h1,h2,h3,h4,Q',h5.bel k hd,h6,λg o e h0=>⟨aV k.le (h7 g o e h0).1,(h7 g o e h0).2⟩⟩
theorem JN.ans(h:JN E s Q s' w Q' w'):zI E s Q s' N M f [] w (.returned (.tuple #[.int .i64 N,.int .i64 M,(),.int .i64 f])) w':=
 ⟨N,M,none,0,0,f,rfl,rfl,rfl,rfl,rfl,Q',h,⟨λ_ h=>(by cases h),λh=>absurd h (by simp)⟩,λ_ _ e=>(by cases e)⟩
theorem oI.ok(h:oI w f e w')(hd:DD E w s Q):zI E s Q s 0 0 f [] w e w':=by
 obtain⟨rfl,hb⟩:=h;exact JN.ans ⟨hd.bel hb,Keep.of_bel _ hb,λq hq=>.inl hq,λq hq=>hd.lt hq⟩
end
section
variable {E:PE} {s:St} {Q:QD} {w w':World} {S:Nat→Prop}
theorem DD.jo(h:DD E w s Q)(hk:eH E w)(k:Keep S w w')(hS:∀q,S q→q=E.rb∨ag Q.kv.tv=some q∨ag Q.kv.uv=some q)(tv' uv':Value)(t' o':List Int)(hc:Blk w' E.rb ({Q.kv with tv:=tv',uv:=uv'}.cells Q.iv s.last) 174)(h1:Buf w' tv' t')(h2:Buf w' uv' o')
 (ap:∀g,ag tv'=some g→ag uv'≠some g)(f1:∀g,ag tv'=some g→ag Q.kv.tv=some g∨w.heap.size≤g)(f2:∀g,ag uv'=some g→ag Q.kv.uv=some g∨w.heap.size≤g) :
 JN E s Q {s with typed:=t',out:=o'} w {Q with kv:={Q.kv with tv:=tv',uv:=uv'}} w':=by
 have hu:∀q cs t,Blk w q cs t→t≠174→t≠5→¬S q:=λq cs t hb n1 n2 hq=>by
  rcases hS q hq with e|e|e
  ·exact hb.ne h.blk n1 e
  ·obtain⟨_,hb2⟩:=h.tb.blk e;exact hb.ne hb2 n2 rfl
  ·obtain⟨_,hb2⟩:=h.ub.blk e;exact hb.ne hb2 n2 rfl
 have hbf:∀p∈s.pipes,∀g,ag (Q.bd p.id)=some g→¬S g:=λp hp g hg hq=>by
  rcases hS g hq with e|e|e
  ·obtain⟨_,hb2⟩:=(h.bb p hp).blk hg;exact hb2.ne h.blk (by decide) e
  ·exact(h.zC p hp g hg).1 e
  ·exact(h.zC p hp g hg).2 e
 have hlt:∀p∈s.pipes,∀g,ag (Q.bd p.id)=some g→g<w.heap.size:=λp hp g hg=>by
  obtain⟨_,hb2⟩:=(h.bb p hp).blk hg;exact hb2.lt
 have iD:∀q,dX E {s with typed:=t',out:=o'} {Q with kv:={Q.kv with tv:=tv',uv:=uv'}} q→dX E s Q q∨w.heap.size≤q:=λq hq=>by
  rcases hq with e|e|e|e|e|e|e
  ·exact .inl (.inl e)
  ·exact .inl (.inr (.inl e))
  ·exact(f1 q e).imp (λe=>.inr (.inr (.inl e))) id
  ·exact(f2 q e).imp (λe=>.inr (.inr (.inr (.inl e)))) id
  ·exact .inl (.inr (.inr (.inr (.inr (.inl e)))))
  ·exact .inl (.inr (.inr (.inr (.inr (.inr (.inl e))))))
  ·exact .inl (.inr (.inr (.inr (.inr (.inr (.inr e))))))
 refine⟨⟨hc,fH h.Dn k λq cs hb=>hu q cs _ hb (by decide) (by decide),h.lim,h.pv,jf h.oj k λg hg=>?_,jf h.Ou k λg hg=>?_,h1,h2,λp hp=>(h.bb p hp).keep k (hbf p hp),h.row.keep k (hu _ _ _ h.row (by decide) (by decide)),h.take,h.len,ap,λp hp g hg=>?_,λq hq=>?_⟩,k.mono λq hq=>?_,λq hq=>(iD q hq).imp id .inl,λq hq=>h.lt hq⟩
 ·obtain⟨_,cs,hb⟩:=row_blk h.oj hg;exact hu _ _ _ hb (by decide) (by decide)
 ·obtain⟨_,cs,hb⟩:=row_blk h.Ou hg;exact hu _ _ _ hb (by decide) (by decide)
 ·have hl:=hlt p hp g hg
  exact⟨λe=>(f1 g e).elim (h.zC p hp g hg).1 λe2=>by omega,λe=>(f2 g e).elim (h.zC p hp g hg).2 λe2=>by omega⟩
 ·exact(iD q hq).elim (h.lo q) λe=>.inl (aV hk.size e)
 ·rcases hS q hq with e|e|e
  ·exact .inl e
  ·exact .inr (.inr (.inl e))
  ·exact .inr (.inr (.inr (.inl e)))
theorem DD.put(h:DD E w s Q)(hk:eH E w)(hwf:s.Wf){p:dH}(hp:p∈s.pipes){gp n cap r:Nat}{cs:List Value}(hv:Q.kv.xv=.slice (gp,0) n cap)(hb:Blk w gp cs 421)(hr:s.pipes[r]?=some p)(k:Keep (λq=>q=gp) w w')(v':Value)(b:List Int)(hc:Blk w' gp (cs.set (r*2+1) v') 421)(h1:Buf w' v' b)
 (f1:∀g,ag v'=some g→ag (Q.bd p.id)=some g∨w.heap.size≤g) :
 JN E s Q (s.put p.id b) w {Q with bd:=λj=>if j=p.id then v' else Q.bd j} w':=by
 have hu:∀q cs t,Blk w q cs t→t≠421→¬q=gp:=λq cs t hb2 n1=>hb2.ne hb n1;have hbf:∀v L,Buf w v L→∀g,ag v=some g→¬g=gp:=λv L hv g hg=>by
  obtain⟨_,hb2⟩:=hv.blk hg;exact hu _ _ _ hb2 (by decide)
 have hblt:∀v L,Buf w v L→∀g,ag v=some g→g<w.heap.size:=λv L hv g hg=>by
  obtain⟨_,hb2⟩:=hv.blk hg;exact hb2.lt
 have hbd:∀q∈(s.put p.id b).pipes,∃q'∈s.pipes,q.id=q'.id∧((q'.id=p.id∧q.byt=b∧(if q.id=p.id then v' else Q.bd q.id)=v')∨(q'.id≠p.id∧q=q'∧(if q.id=p.id then v' else Q.bd q.id)=Q.bd q'.id)):=λq hq=>by
  obtain⟨q',hq',rfl⟩:=List.mem_map.1 (show q∈s.pipes.map _ from hq);by_cases e:q'.id=p.id
  ·rw[if_pos e];exact⟨q',hq',rfl,.inl ⟨e,rfl,if_pos e⟩⟩
  ·rw[if_neg e];exact⟨q',hq',rfl,.inr ⟨e,rfl,if_neg e⟩⟩
 have iD:∀q,dX E (s.put p.id b) {Q with bd:=λj=>if j=p.id then v' else Q.bd j} q→dX E s Q q∨w.heap.size≤q:=λq hq=>by
  rcases hq with e|e|e|e|e|e|⟨z,hz,e⟩
  ·exact .inl (.inl e)
  ·exact .inl (.inr (.inl e))
  ·exact .inl (.inr (.inr (.inl e)))
  ·exact .inl (.inr (.inr (.inr (.inl e))))
  ·exact .inl (.inr (.inr (.inr (.inr (.inl e)))))
  ·exact .inl (.inr (.inr (.inr (.inr (.inr (.inl e))))))
  ·have e:ag (if z.id=p.id then v' else Q.bd z.id)=some q:=e
   obtain⟨q',hq',e1,⟨e2,_,e3⟩|⟨e2,_,e3⟩⟩:=hbd z hz
   ·rw[e3]at e
    exact(f1 q e).imp (λe=>.inr (.inr (.inr (.inr (.inr (.inr ⟨p,hp,e⟩)))))) id
   ·rw[e3]at e
    exact .inl (.inr (.inr (.inr (.inr (.inr (.inr ⟨q',hq',e⟩))))))
 obtain⟨r',hr1,hr2,_⟩:=LB hwf Q.bd hp;have hget:(dR Q.bd s.pipes)[r]?=some ⟨p.id,Q.bd p.id,p.byt⟩:=by unfold dR;rw[dA,hr];rfl
 refine⟨⟨h.blk.keep k (hu _ _ _ h.blk (by decide)),fH h.Dn k λq cs hb2=>hu q cs _ hb2 (by decide),h.lim,h.pv,?_,?_,h.tb.keep k (hbf _ _ h.tb),h.ub.keep k (hbf _ _ h.ub),λq hq=>?_,h.row.keep k (hu _ _ _ h.row (by decide)),h.take,h.len,h.ap,λq hq g hg=>?_,λq hq=>?_⟩,k.mono λq hq=>?_,λq hq=>(iD q hq).imp id .inl,λq hq=>h.lt hq⟩
 ·show xx w' _ _ (aj s.fds (ku s.pipes p.id b))
  rw[FO];exact jf h.oj k λg hg=>by obtain⟨_,cs,hb2⟩:=row_blk h.oj hg;exact hu _ _ _ hb2 (by decide)
 ·show xA w' _ _ (dR (λj=>if j=p.id then v' else Q.bd j) (ku s.pipes p.id b))
  rw[JM hwf Q.bd hp hr];exact Vi h.Ou hv hb hc hget rfl rfl
 ·show Buf w' (if q.id=p.id then v' else Q.bd q.id) q.byt
  obtain⟨q',hq',e1,⟨e2,e4,e3⟩|⟨e2,e4,e3⟩⟩:=hbd q hq
  ·rw[e3,e4];exact h1
  ·rw[e3,e4];exact(h.bb q' hq').keep k (hbf _ _ (h.bb q' hq'))
 ·have hg:ag (if q.id=p.id then v' else Q.bd q.id)=some g:=hg
  obtain⟨q',hq',e1,⟨e2,e4,e3⟩|⟨e2,e4,e3⟩⟩:=hbd q hq
  ·rw[e3]at hg
   rcases f1 g hg with h2|h2
   ·exact h.zC p hp g h2
   ·exact⟨λe=>by have:=hblt _ _ h.tb g e;omega,λe=>by have:=hblt _ _ h.ub g e;omega⟩
  ·rw[e3]at hg;exact h.zC q' hq' g hg
 ·exact(iD q hq).elim (h.lo q) λe=>.inl (aV hk.size e)
 ·have hq:q=gp:=hq
  subst hq;exact .inr (.inr (.inr (.inr (.inr (.inl (by rw[hv];rfl))))))
end
section
variable {E:PE} {s:St} {Q:QD} {w:World} (hx:ek E) (hd:DD E w s Q) (hk:eH E w) (hwf:s.Wf)
include hx hd hk hwf
theorem JO(n:Nat)(b:Int)(t:ByteArray)(lp dp:Option Addr)(ln lc dn dc:Nat)(f:Fd)(hf:s.fds[n]?=some f)(hne:f≠ .no):Calls prog 199 #[E.rb,E.g,.agg #[(9:Int),.int .i64 n,b,t,(lp,ln,lc),(dp,dn,dc)]] w (zI E s Q (s.shut (s.fds.set n .no)) 0 0 0 [] w):=by
 have V6:n<8:=by rw[←hwf.fl];exact(bZ hf).1
 have hsub:∀x∈s.fds.set n .no,x=.no∨x∈s.fds:=λx hxm=>(List.mem_or_eq_of_mem_set hxm).elim .inr .inl;have hc:Q.cs[0+23+n]?=some (.int .i64 f.id):=by rw[←hd.row.cell];exact hd.Vh hx hwf hf
 refine(Cv E.rb E.g 0 b t lp dp ln lc dn dc n f.id Q.cs (λw'=>∃Q',JN E s Q (s.shut (s.fds.set n .no)) w Q' w') w V6 hd.row hc (zH hne) λW W' hW hW'=>?_).mono ?_
 ·have bF:=hd.bel hW
  have k1:Keep (λq=>q=E.g) w W':=((Keep.of_bel _ hW).tr (Keep.setCell W E.g (0+23+n) _)).tr (Keep.of_bel _ hW');have hrow:Blk W' E.g (Q.cs.set (0+23+n) (.int .i64 0)) 167:=(bF.row.setCell (o:=0+23+n) _).bel hW';have hkW:eH E W':=hk.tr (k1.mono λq hq=>by have hq:q=E.g:=hq;subst hq;exact .inr (.inr (.inr (.inr (.inr (.inr (.inl rfl)))))));have hu:∀{q cs t},Blk w q cs t→t≠167→¬q=E.g:=λhb2 n1=>hb2.ne hd.row n1;have hblk:=hd.blk.keep k1 (hu hd.blk (by decide));have hdq:DQ W' E.rb Q.kv Q.iv s.last E.L:=⟨hblk,fH hd.Dn k1 λq cs hb2=>hu hb2 (by decide),hx.Lp hkW,by have:=hx.few;omega,hx.few.1⟩;have hoj:=jf hd.oj k1 λg hg=>by obtain⟨_,cs,hb2⟩:=row_blk hd.oj hg;exact hu hb2 (by decide)
  have adE:=jf hd.Ou k1 λg hg=>by obtain⟨_,cs,hb2⟩:=row_blk hd.Ou hg;exact hu hb2 (by decide)
  have qg:∀v L,Buf w v L→Buf W' v L:=λv L hv=>hv.keep k1 λg hg=>by obtain⟨_,hb2⟩:=hv.blk hg;exact hu hb2 (by decide)
  have htake:(Q.cs.set (0+23+n) (.int .i64 0)).take 31=kJ 1 0 0 0 0 E.pc E.rs E.pv ((s.fds.set n .no).map Fd.id):=by
   rw[List.take_set,hd.take,Nat.zero_add,uy hx.rl,List.map_set];rfl
  have hmem:∀m∈E.L,∃p k c,m.bv=.slice p k c:=λm hm=>by
   obtain⟨p,c,e,_⟩:=(hx.aN m hm).1.slice;exact⟨p,_,c,e⟩
  refine(Io E.rb E.g E.gc E.w0.heap.size E.w0.heap.size s.last Q.kv Q.iv E.L (aj s.fds s.pipes) (dR Q.bd s.pipes) ((s.fds.set n .no).map Fd.id) W' hdq hd.pv (λi x hi=>?_) (by simp[hwf.fl]) (hd.row.ne hd.blk (by decide)) hoj adE (je hwf) (by unfold dR;rw[fJ];exact qM hwf) (λx hx2=>?_) (λx hx2=>?_) hx.par hmem).mono ?_
  ·have hi8:i<8:=by have:=(bZ hi).1;simp[hwf.fl]at this;exact this
   rw[hrow.cell,←List.getElem?_take_of_lt (show 23+i<31 by omega),htake,Lx hx.rl,hi];rfl
  ·obtain⟨p,_,⟨_,rfl⟩|⟨_,rfl⟩⟩:=jg.1 hx2<;>simp
  ·unfold dR at hx2
   obtain⟨p,hp,rfl⟩:=List.mem_map.1 hx2;obtain⟨q,c,e,_⟩:=(hd.bb p hp).slice;exact⟨q,_,c,e⟩
  ·rintro e w' ⟨rfl,ov,xv,zU,q1,q2,q3,k2⟩
   refine⟨rfl,⟨{Q.kv with ov:=ov,xv:=xv},zU,Q.bd,Q.cs.set (0+23+n) (.int .i64 0)⟩,?_⟩;rw[JC hwf hsub]at q2 q3;rw[Oi hwf]at q3;have afh:=hd.blk.lt;have hle:w.heap.size≤W'.heap.size:=k1.size;have hb2:∀v L,Buf W' v L→Buf w' v L:=λv L hv=>hv.keep k2 λg hg=>by obtain⟨_,hb2⟩:=hv.blk hg;exact hb2.ne hblk (by decide)
   have hps:∀p∈(s.shut (s.fds.set n .no)).pipes,p∈s.pipes:=λp hp=>(List.mem_filter.1 hp).1;have iD:∀q,dX E (s.shut (s.fds.set n .no)) ⟨{Q.kv with ov:=ov,xv:=xv},zU,Q.bd,Q.cs.set (0+23+n) (.int .i64 0)⟩ q→dX E s Q q∨w.heap.size≤q:=λq hq=>by
    rcases hq with e|e|e|e|e|e|⟨z,hz,e⟩
    ·exact .inl (.inl e)
    ·exact .inl (.inr (.inl e))
    ·exact .inl (.inr (.inr (.inl e)))
    ·exact .inl (.inr (.inr (.inr (.inl e))))
    ·exact .inr (aV hle (row_blk q2 e).1)
    ·exact .inr (aV hle (row_blk q3 e).1)
    ·exact .inl (.inr (.inr (.inr (.inr (.inr (.inr ⟨z,hps z hz,e⟩))))))
   refine⟨⟨q1.blk,q1.row,hd.lim,hd.pv,q2.mono (aV hk.size hle),q3.mono (aV hk.size hle),hb2 _ _ (qg _ _ hd.tb),hb2 _ _ (qg _ _ hd.ub),λp hp=>hb2 _ _ (qg _ _ (hd.bb p (hps p hp))),hrow.keep k2 (hrow.ne hblk (by decide)),htake,by rw[List.length_set];exact hd.len,hd.ap,λp hp=>hd.zC p (hps p hp),λq hq=>?_⟩,?_,λq hq=>(iD q hq).imp id .inl,λq hq=>hd.lt hq⟩
   ·exact(iD q hq).elim (hd.lo q) λe=>.inl (aV hk.size e)
   ·refine((k1.mono (S':=λq=>q=E.g∨q=E.rb) λ_ h=>.inl h).tr (k2.mono λ_ h=>.inr h)).mono λq hq=>hq.elim (λe=>.inr (.inl e)) .inl
 ·rintro e w' ⟨rfl,Q',h⟩
  exact h.ans
theorem Gb{hb:Nat}{T:TypeId}{hs:List Value}{idx:Nat}{v:Value}{L:List Int}{m:Nat}{e:Ending}{w':World}{s':St}(h:Qc w hb T hs idx v L m e w')(hm:m≤L.length)(hL:∀x∈L,fP x)(hst:∀v',Blk w' hb (hs.set idx v') T→Buf w' v' (L.drop m)→ag v'=ag v→Keep (λq=>q=hb) w w'→∃Q',JN E s Q s' w Q' w'∧∀q,dX E s' Q' q→dX E s Q q):zI E s Q s' m 0 0 (L.take m) w e w':=by
 obtain⟨p,c,v',rfl,h1,h2,h3,h4,h5⟩:=h;obtain⟨Q',h6,h7⟩:=hst v' h2 h3 h4 h5;have hlen:(L.take m).length=m:=by simp;omega
 refine⟨_,_,p,m,c,_,rfl,rfl,rfl,rfl,hlen.symm,Q',h6,⟨λx hx2=>hL x (List.mem_of_mem_take hx2),λh0=>?_⟩,λg o e h0=>?_⟩
 ·rcases h1.2 with⟨_,h8⟩|⟨g,cap,cur,e,h8,h9,_,_,_,h10⟩
  ·omega
  ·cases e
   refine⟨g,0,rfl,cur.toList,h9,λi x hi=>?_⟩;have hi2:=(bZ hi).1;have:=congrArg (λl=>l[i]?) h10;simp only[dA,hi]at this
   rw[List.getElem?_take_of_lt (by omega)]at this;rw[Nat.zero_add];exact this
 ·subst e
  have h8:=(row_blk h1 (g:=g) rfl).1;exact⟨h8,λhq=>by have:=h6.old g (h7 g hq);omega⟩
theorem qh{p:dH}(hp:p∈s.pipes):∃(gp cap:Nat) (cs:List Value) (r:Nat),Q.kv.xv=.slice (gp,0) s.pipes.length cap∧Blk w gp cs 421∧s.pipes[r]?=some p∧cs[r*2+1]?=some (Q.bd p.id)∧r<s.pipes.length∧s.pipes.length≤1000∧gp≠E.rb∧(dR Q.bd s.pipes)[r]?=some ⟨p.id,Q.bd p.id,p.byt⟩∧∀(i:Nat) (x:Pp),i<r→(dR Q.bd s.pipes)[i]?=some x→x.id≠(p.id:Int):=by
 obtain⟨r,h1,h2,h3⟩:=LB hwf Q.bd hp;have hrl:=(bZ h1).1;have hlen:(dR Q.bd s.pipes).length=s.pipes.length:=by unfold dR;simp
 have bA:=hd.Ou;unfold xA at bA;rw[hlen]at bA;rcases bA.2 with⟨_,h4⟩|⟨g,cap,cur,e,h5,h6,_,_,_,h10⟩
 ·omega
 ·have hb:Blk w g cur.toList 421:=h6
  refine⟨g,cap,cur.toList,r,e,hb,h1,?_,hrl,qM hwf,hb.ne hd.blk (by decide),h2,h3⟩;have:(cur.toList.take (s.pipes.length*2))[r*2+1]?=((dR Q.bd s.pipes).flatMap Pp.cells)[r*2+1]?:=congrArg (λl=>l[r*2+1]?) h10;rw[List.getElem?_take_of_lt (by omega),Cm _ r 1 _ h2 (by omega)]at this;exact this
theorem Gc(p:dH)(hp:p∈s.pipes):((aP (p.id:Int) 2 (aj s.fds s.pipes):Nat))=(if Fd.rd p.id∈s.fds then 1 else 0)∧aP (p.id:Int) 3 (aj s.fds s.pipes)=(if Fd.wr p.id∈s.fds then 1 else 0):=by
 obtain⟨e1,e2⟩:=rX s.fds p.id s.pipes hwf.ids;rw[e1,e2];have h:∃q∈s.pipes,q.id=p.id:=⟨p,hp,rfl⟩;simp only[h,true_and,and_self]
end
section
variable {E:PE} {s:St} {Q:QD} {w:World} (hx:ek E) (hd:DD E w s Q) (hk:eH E w) (hwf:s.Wf)
include hx hd hk hwf
theorem uz{p:dH}(hp:p∈s.pipes){r:Nat}(h1:(dR Q.bd s.pipes)[r]?=some ⟨p.id,Q.bd p.id,p.byt⟩)(h2:∀(i:Nat) (x:Pp),i<r→(dR Q.bd s.pipes)[i]?=some x→x.id≠(p.id:Int)):∀W,Bel w W→Calls prog 324 #[E.rb,.int .i64 p.id] W (Z.e (.int .i64 r) W):=λW hW=>
 Mo E.rb E.w0.heap.size r p.id Q.kv.xv (dR Q.bd s.pipes) W (hd.bel hW).c8 (hd.bel hW).Ou (by have:=qM hwf;unfold dR;rw[fJ];omega) ⟨_,h1,rfl⟩ h2
theorem uA{S:Nat→Prop}(kind:Int)(id:Int)(hS1:¬S E.rb)(hS2:∀g,Q.kv.ov.ownBlock=some g→¬S g):∀W,Keep S w W→Calls prog 326 #[E.rb,id,kind] W (Z.e (.int .i64 (aP id kind (aj s.fds s.pipes))) W):=λW hW=>by
 refine Ij E.rb E.w0.heap.size id kind Q.kv.ov (aj s.fds s.pipes) W ?_ (jf hd.oj hW hS2) (by have:=je hwf;omega);rw[(hd.blk.keep hW hS1).cell];rfl
theorem Ov(n k m:Nat)(t:ByteArray)(lp dp:Option Addr)(ln lc dn dc:Nat)(hf:s.fds[n]?=some .jo)(hk4:k≤4096)(h0:0<s.typed.length∨k=0)(hm:m=min k s.typed.length):Calls prog 199 #[E.rb,E.g,.agg #[(10:Int),.int .i64 n,.int .i64 k,t,(lp,ln,lc),(dp,dn,dc)]] w (zI E s Q {s with typed:=s.typed.drop m} m 0 0 (s.typed.take m) w):=by
 refine gU E.rb E.g 0 n k t lp dp ln lc dn dc _ w λW hW=>?_;have bF:=hd.bel hW;have hkW:=hk.tr (Keep.of_bel _ hW);refine(Mw E.rb E.g 0 10 n t lp dp ln lc dn dc 0 4 0 (Q.kv.cells Q.iv s.last) Q.kv.tv s.typed k m W bF.blk rfl bF.tb hk4 h0 hm (ou hx bF hwf hf)).mono λe w' h=>?_;refine(Gb hx bF hkW hwf h (by omega) bF.tb.byte λv' b1 b2 b3 k1=>?_).bel hW hd;have hst:=bF.jo hkW k1 (λq h=>.inl h) v' Q.kv.uv (s.typed.drop m) s.out b1 b2 (bF.ub.keep k1 λg hg=>by obtain⟨_,hb⟩:=bF.ub.blk hg;exact hb.ne bF.blk (by decide)) (λg hg=>hd.ap g (b3▸hg)) (λg hg=>.inl (b3▸hg)) (λg hg=>.inl hg);refine⟨_,hst,λq hq=>?_⟩;rcases hq with e|e|e|e|e|e|e
 ·exact .inl e
 ·exact .inr (.inl e)
 ·exact .inr (.inr (.inl (b3▸e)))
 ·exact .inr (.inr (.inr (.inl e)))
 ·exact .inr (.inr (.inr (.inr (.inl e))))
 ·exact .inr (.inr (.inr (.inr (.inr (.inl e)))))
 ·exact .inr (.inr (.inr (.inr (.inr (.inr e)))))
theorem JP(n k m:Nat)(p:dH)(t:ByteArray)(lp dp:Option Addr)(ln lc dn dc:Nat)(bA:p∈s.pipes)(hf:s.fds[n]?=some (.rd p.id))(hk4:k≤4096)(h0:0<p.byt.length∨Fd.wr p.id∉s.fds∨k=0)(hm:m=min k p.byt.length):Calls prog 199 #[E.rb,E.g,.agg #[(10:Int),.int .i64 n,.int .i64 k,t,(lp,ln,lc),(dp,dn,dc)]] w (zI E s Q (s.put p.id (p.byt.drop m)) m 0 0 (p.byt.take m) w):=by
 refine gU E.rb E.g 0 n k t lp dp ln lc dn dc _ w λW hW=>?_;have bF:=hd.bel hW;have hkW:=hk.tr (Keep.of_bel _ hW);obtain⟨gp,cap,cs,r,e1,e2,e3,e4,e5,e6,e7,e8,e9⟩:=qh hx bF hkW hwf bA;have hoS:∀g,Q.kv.ov.ownBlock=some g→¬g=gp:=λg hg=>by obtain⟨_,cs',hb⟩:=row_blk bF.oj hg;exact hb.ne e2 (by decide)
 obtain⟨d1,d2⟩:=Gc hx bF hkW hwf p bA;have hb:=bF.bb p bA;refine(Ir E.rb E.g 0 10 n t lp dp ln lc dn dc _ 2 p.id gp s.pipes.length cap r (if Fd.wr p.id∈s.fds then 1 else 0) cs (Q.bd p.id) p.byt k m W (λW2 k2=>?_) e5 e6 e2 e4 (uz hx bF hkW hwf bA e8 e9) (λW2 k2=>?_) hb hk4 ?_ hm (vO hx bF hwf bA hf)).mono λe w' h=>?_
 ·rw[(bF.blk.keep k2 (λe=>e7 e.symm)).cell,←e1];rfl
 ·have:=uA hx bF hkW hwf 3 p.id (λe=>e7 e.symm) hoS W2 k2
  rw[d2]at this;exact this
 ·rcases h0 with h|h|h
  ·exact .inl h
  ·exact .inr (.inl (if_neg h))
  ·exact .inr (.inr h)
 ·refine(Gb hx bF hkW hwf h (by omega) hb.byte λv' b1 b2 b3 k1=>?_).bel hW hd
  have hst:=bF.put hkW hwf bA e1 e2 e3 k1 v' (p.byt.drop m) b1 b2 λg hg=>.inl (b3▸hg);refine⟨_,hst,λq hq=>?_⟩;rcases hq with e|e|e|e|e|e|⟨z,hz,e⟩
  ·exact .inl e
  ·exact .inr (.inl e)
  ·exact .inr (.inr (.inl e))
  ·exact .inr (.inr (.inr (.inl e)))
  ·exact .inr (.inr (.inr (.inr (.inl e))))
  ·exact .inr (.inr (.inr (.inr (.inr (.inl e)))))
  ·have e:ag (if z.id=p.id then v' else Q.bd z.id)=some q:=e
   by_cases c:z.id=p.id
   ·rw[if_pos c,b3]at e
    exact .inr (.inr (.inr (.inr (.inr (.inr ⟨p,bA,e⟩)))))
   ·rw[if_neg c]at e
    obtain⟨q',hq',rfl⟩:=List.mem_map.1 (show z∈s.pipes.map _ from hz);by_cases c2:q'.id=p.id
    ·rw[if_pos c2]at c;exact absurd c2 c
    ·rw[if_neg c2]at e
     exact .inr (.inr (.inr (.inr (.inr (.inr ⟨q',hq',e⟩)))))
theorem vP(N f:Int)(s':St)(a b:Int)(t:ByteArray)(lp dp:Option Addr)(ln lc dn dc:Nat)(h:∀W,Bel w W→Calls prog 271 #[E.rb,E.g,.agg #[(11:Int),a,b,t,(lp,ln,lc),(dp,dn,dc)]] W λe w'=>e=.returned (.tuple #[N,f])∧∃Q',JN E s Q s' W Q' w'):Calls prog 199 #[E.rb,E.g,.agg #[(11:Int),a,b,t,(lp,ln,lc),(dp,dn,dc)]] w (zI E s Q s' N 0 f [] w):=by
 refine(Cu E.rb E.g 0 a b t lp dp ln lc dn dc (λn f' w'=>n=N∧f'=f∧∃Q',JN E s Q s' w Q' w') w λW hW=>(h W hW).mono ?_).mono ?_
 ·rintro e w' ⟨rfl,Q',h2⟩
  exact⟨_,_,rfl,rfl,rfl,Q',h2.bel hW hd⟩
 ·rintro e w' ⟨n,m,p,l,c,f',rfl,rfl,rfl,rfl,rfl,rfl,rfl,Q',h2⟩
  exact h2.ans
theorem jK(f:Int)(a b:Int)(t:ByteArray)(lp dp:Option Addr)(ln lc dn dc:Nat)(h:∀W,Bel w W→Calls prog 271 #[E.rb,E.g,.agg #[(11:Int),a,b,t,(lp,ln,lc),(dp,dn,dc)]] W (Z.b (.tuple #[(0:Int),f]) W)):Calls prog 199 #[E.rb,E.g,.agg #[(11:Int),a,b,t,(lp,ln,lc),(dp,dn,dc)]] w (zI E s Q s 0 0 f [] w):=
 vP hx hd hk hwf 0 f s a b t lp dp ln lc dn dc λW hW=>(h W hW).mono λe w' h2=>⟨h2.1,Q,(hd.bel hW).bel h2.2,Keep.of_bel _ h2.2,λq hq=>.inl hq,λq hq=>(hd.bel hW).lt hq⟩
theorem JQ(n:Nat)(b:Int)(d:List Int)(t:ByteArray)(lp dp:Option Addr)(ln lc dc:Nat)(hf:s.fds[n]?=some .jo)(hd4:d.length≤4096)(hb:kY w dp d)(hlen:s.out.length+d.length≤100000000):Calls prog 199 #[E.rb,E.g,.agg #[(11:Int),.int .i64 n,b,t,(lp,ln,lc),(dp,d.length,dc)]] w (zI E s Q {s with out:=s.out++d} d.length 0 0 [] w):=by
 refine vP hx hd hk hwf _ _ _ n b t lp dp ln lc d.length dc λW hW=>?_;have bF:=hd.bel hW;have hkW:=hk.tr (Keep.of_bel _ hW);refine(Iu E.rb E.g 0 11 n b t lp dp ln lc d.length dc 0 4 0 (Q.kv.cells Q.iv s.last) Q.kv.uv s.out d W bF.blk rfl bF.ub (hb.bel hW) rfl hd4 hlen (ou hx bF hwf hf)).mono ?_;rintro e w' ⟨rfl,v',wa,b1,b2,ka,k1,f2⟩;have k2:Keep (λq=>q=E.rb∨ag Q.kv.uv=some q) W w':=(ka.keep.mono λq h=>.inr h).tr (k1.mono λq h=>.inl h);have ht:Buf w' Q.kv.tv s.typed:=bF.tb.keep k2 λg hg hq=>hq.elim (λe=>by obtain⟨_,hb⟩:=bF.tb.blk hg;exact hb.ne bF.blk (by decide) e) λe=>hd.ap g hg e;refine⟨rfl,_,bF.jo hkW k2 (λq h=>h.imp id .inr) Q.kv.tv v' s.typed _ b1 ht b2 (λg hg e=>?_) (λg hg=>.inl hg) f2⟩;rcases f2 g e with h|h
 ·exact hd.ap g hg h
 ·obtain⟨_,hb⟩:=bF.tb.blk hg
  have:=hb.lt;omega
theorem Gd(n m:Nat)(b:Int)(d:List Int)(p:dH)(t:ByteArray)(lp dp:Option Addr)(ln lc dc:Nat)(bA:p∈s.pipes)(hf:s.fds[n]?=some (.wr p.id))(hd4:d.length≤4096)(hrd:Fd.rd p.id∈s.fds)(h0:p.byt.length<64∨d.length=0)(hm:m=min (64-p.byt.length) d.length)(hb:kY w dp d)(hdc:d.length≤dc):Calls prog 199 #[E.rb,E.g,.agg #[(11:Int),.int .i64 n,b,t,(lp,ln,lc),(dp,d.length,dc)]] w (zI E s Q (s.put p.id (p.byt++d.take m)) m 0 0 [] w):=by
 refine vP hx hd hk hwf _ _ _ n b t lp dp ln lc d.length dc λW hW=>?_;have bF:=hd.bel hW;have hkW:=hk.tr (Keep.of_bel _ hW);obtain⟨gp,cap,cs,r,e1,e2,e3,e4,e5,e6,e7,e8,e9⟩:=qh hx bF hkW hwf bA;obtain⟨d1,d2⟩:=Gc hx bF hkW hwf p bA;rw[if_pos hrd]at d1;refine(MB E.rb E.g 0 11 n b t lp dp ln lc d.length dc _ 3 p.id gp s.pipes.length cap r 1 cs (Q.bd p.id) p.byt d m W (λW2 k2=>?_) e5 e6 e2 e4 (bF.bb p bA) (hwf.b64 p bA) hd4 (uz hx bF hkW hwf bA e8 e9) (λW2 k2=>?_) (λe=>e7 e.symm) (by omega) (by omega) (hb.bel hW) rfl hdc h0 hm (sw hx bF hwf bA hf)).mono ?_
 ·rw[(bF.bel k2).blk.cell,←e1];rfl
 ·have:=uA hx bF hkW hwf (S:=λ_=>False) 2 p.id (λh=>h) (λ_ _ h=>h) W2 (Keep.of_bel _ k2)
  rw[d1]at this;exact this
 ·rintro e w' ⟨rfl,v',b1,b2,k1,f1⟩
  exact⟨rfl,_,bF.put hkW hwf bA e1 e2 e3 k1 v' _ b1 b2 λg hg=>.inr (f1 g hg)⟩
theorem DD.dup{w':World}{r:Nat}{f:Fd}(hr:s.fds[r]?=some .no)(hf:f∈s.fds)(h:aat w ⟨E.g,0+23+r,none⟩ (.int .i64 f.id) w'):∃Q',JN E s Q {s with fds:=s.fds.set r f} w Q' w':=by
 obtain⟨W,hW,rfl⟩:=h;have tK:r<8:=by rw[←hwf.fl];exact(bZ hr).1
 have k1:Keep (λq=>q=E.g) w (W.setCell (E.g,0+23+r) (.int .i64 f.id)):=(Keep.of_bel _ hW).tr (Keep.setCell W E.g (0+23+r) _);have hu:∀{q cs t},Blk w q cs t→t≠167→¬q=E.g:=λhb2 n1=>hb2.ne hd.row n1;have qg:∀v L,Buf w v L→Buf (W.setCell (E.g,0+23+r) (.int .i64 f.id)) v L:=λv L hv=>hv.keep k1 λg hg=>by obtain⟨_,hb2⟩:=hv.blk hg;exact hu hb2 (by decide)
 refine⟨{Q with cs:=Q.cs.set (0+23+r) (.int .i64 f.id)},⟨hd.blk.keep k1 (hu hd.blk (by decide)),fH hd.Dn k1 λq cs hb2=>hu hb2 (by decide),hd.lim,hd.pv,?_,jf hd.Ou k1 λg hg=>?_,qg _ _ hd.tb,qg _ _ hd.ub,λp hp=>qg _ _ (hd.bb p hp),(hd.bel hW).row.setCell (o:=0+23+r) _,?_,by rw[List.length_set];exact hd.len,hd.ap,hd.zC,hd.lo⟩,k1.mono λq hq=>.inr (.inl hq),λq hq=>.inl hq,λq hq=>hd.lt hq⟩
 ·show xx _ _ _ (aj (s.fds.set r f) s.pipes)
  rw[FP hr hf];exact jf hd.oj k1 λg hg=>by obtain⟨_,cs,hb2⟩:=row_blk hd.oj hg;exact hu hb2 (by decide)
 ·obtain⟨_,cs,hb2⟩:=row_blk hd.Ou hg;exact hu hb2 (by decide)
 ·show(Q.cs.set (0+23+r) (.int .i64 f.id)).take 31=kJ 1 0 0 0 0 E.pc E.rs E.pv ((s.fds.set r f).map Fd.id)
  rw[List.take_set,hd.take,Nat.zero_add,uy hx.rl,List.map_set]
theorem DD.piped{w':World}{r m:Nat}{ov xv:Value}(hr:s.fds[r]?=some .no)(hm:s.fds[m]?=some .no)(hrm:r≠m)(h:Xy E.w0.heap.size w E.rb E.g 0 Q.kv Q.iv s.last (aj s.fds s.pipes) (dR Q.bd s.pipes) Q.cs r m ov xv w'):∃Q',JN E s Q (s.piped r m) w Q' w':=by
 have tK:r<8:=by rw[←hwf.fl];exact(bZ hr).1
 have Ul:m<8:=by rw[←hwf.fl];exact(bZ hm).1
 have hS:∀q,(q=E.rb∨q=E.g∨Q.kv.ov.ownBlock=some q∨Q.kv.xv.ownBlock=some q)→dX E s Q q:=λq hq=>by
  rcases hq with e|e|e|e
  ·exact .inl e
  ·exact .inr (.inl e)
  ·exact .inr (.inr (.inr (.inr (.inl e))))
  ·exact .inr (.inr (.inr (.inr (.inr (.inl e)))))
 have hu:∀{q cs t},Blk w q cs t→t≠174→t≠167→t≠357→t≠421→¬(q=E.rb∨q=E.g∨Q.kv.ov.ownBlock=some q∨Q.kv.xv.ownBlock=some q):=λhb n1 n2 n3 n4 hq=>by
  rcases hq with e|e|e|e
  ·exact hb.ne hd.blk n1 e
  ·exact hb.ne hd.row n2 e
  ·obtain⟨_,cs,hb2⟩:=row_blk hd.oj e;exact hb.ne hb2 n3 rfl
  ·obtain⟨_,cs,hb2⟩:=row_blk hd.Ou e;exact hb.ne hb2 n4 rfl
 have qg:∀v L,Buf w v L→Buf w' v L:=λv L hv=>hv.keep h.kept λg hg=>by obtain⟨_,hb2⟩:=hv.blk hg;exact hu hb2 (by decide) (by decide) (by decide) (by decide)
 have Ve:∀p∈s.pipes,p.id≠s.last+1:=λp bA=>by have:=hwf.FN p bA;omega
 have hps:∀p∈(s.piped r m).pipes,p∈s.pipes∧(if p.id=s.last+1 then Value.slice none 0 0 else Q.bd p.id)=Q.bd p.id∨p=⟨s.last+1,[]⟩∧(if p.id=s.last+1 then Value.slice none 0 0 else Q.bd p.id)=Value.slice none 0 0:=λp bA=>by
  rcases List.mem_append.1 (show p∈s.pipes++[⟨s.last+1,[]⟩]from bA)with h2|h2
  ·exact .inl ⟨h2,if_neg (Ve p h2)⟩
  ·have h2:=List.mem_singleton.1 h2
   subst h2;exact .inr ⟨rfl,if_pos rfl⟩
 have hbl:=λ(q:Nat) (e:ov.ownBlock=some q)=>row_blk h.obj e;have hpl:=λ(q:Nat) (e:xv.ownBlock=some q)=>row_blk h.nG e;have iD:∀q,dX E (s.piped r m) ⟨{Q.kv with ov:=ov,xv:=xv},Q.iv,λj=>if j=s.last+1 then .slice none 0 0 else Q.bd j,(Q.cs.set (0+23+r) (.int .i64 (s.last+2:Nat))).set (0+23+m) (.int .i64 (s.last+3:Nat))⟩ q→dX E s Q q∨E.w0.heap.size≤q∧(∃cs t,Blk w' q cs t∧(t=357∨t=421)):=λq hq=>by
  rcases hq with e|e|e|e|e|e|⟨z,hz,e⟩
  ·exact .inl (.inl e)
  ·exact .inl (.inr (.inl e))
  ·exact .inl (.inr (.inr (.inl e)))
  ·exact .inl (.inr (.inr (.inr (.inl e))))
  ·obtain⟨h1,cs,h2⟩:=hbl q e
   exact .inr ⟨h1,cs,_,h2,.inl rfl⟩
  ·obtain⟨h1,cs,h2⟩:=hpl q e
   exact .inr ⟨h1,cs,_,h2,.inr rfl⟩
  ·have e:ag (if z.id=s.last+1 then Value.slice none 0 0 else Q.bd z.id)=some q:=e
   rcases hps z hz with⟨h2,h3⟩|⟨h2,h3⟩
   ·rw[h3]at e
    exact .inl (.inr (.inr (.inr (.inr (.inr (.inr ⟨z,h2,e⟩))))))
   ·rw[h3]at e;cases e
 have hpe:dR (λj=>if j=s.last+1 then Value.slice none 0 0 else Q.bd j) (s.piped r m).pipes=dR Q.bd s.pipes++[⟨((s.last+1:Nat):Int),.slice none 0 0,[]⟩]:=by
  show List.map _ (s.pipes++[⟨s.last+1,[]⟩])=_
  rw[List.map_append];unfold dR;congr 1
  ·apply List.map_congr_left
   intro p hp;simp only[if_neg (Ve p hp)]
  ·simp
 refine⟨⟨{Q.kv with ov:=ov,xv:=xv},Q.iv,λj=>if j=s.last+1 then .slice none 0 0 else Q.bd j,(Q.cs.set (0+23+r) (.int .i64 (s.last+2:Nat))).set (0+23+m) (.int .i64 (s.last+3:Nat))⟩,⟨h.blk,fH hd.Dn h.kept λq cs hb=>hu hb (by decide) (by decide) (by decide) (by decide),hd.lim,hd.pv,?_,?_,qg _ _ hd.tb,qg _ _ hd.ub,λp hp=>?_,h.row,?_,by rw[List.length_set,List.length_set];exact hd.len,hd.ap,λp hp g hg=>?_,λq hq=>?_⟩,h.kept.mono hS,λq hq=>(iD q hq).imp id λh=>.inr h.2,λq hq=>hd.lt hq⟩
 ·rw[zB hwf hr hm hrm]
  exact h.obj
 ·show xA w' _ xv (dR (λj=>if j=s.last+1 then Value.slice none 0 0 else Q.bd j) (s.piped r m).pipes)
  rw[hpe];exact h.nG
 ·show Buf w' (if p.id=s.last+1 then Value.slice none 0 0 else Q.bd p.id) p.byt
  rcases hps p hp with⟨h2,h3⟩|⟨rfl,h3⟩
  ·rw[h3];exact qg _ _ (hd.bb p h2)
  ·rw[h3];exact Buf.nil w'
 ·show((Q.cs.set (0+23+r) (.int .i64 (s.last+2:Nat))).set (0+23+m) (.int .i64 (s.last+3:Nat))).take 31=kJ 1 0 0 0 0 E.pc E.rs E.pv ((s.piped r m).fds.map Fd.id)
  rw[List.take_set,List.take_set,hd.take,Nat.zero_add,uy hx.rl,uy hx.rl];show _=kJ 1 0 0 0 0 E.pc E.rs E.pv (((s.fds.set r (.rd (s.last+1))).set m (.wr (s.last+1))).map Fd.id)
  rw[List.map_set,List.map_set];rfl
 ·have hg:ag (if p.id=s.last+1 then Value.slice none 0 0 else Q.bd p.id)=some g:=hg
  rcases hps p hp with⟨h2,h3⟩|⟨rfl,h3⟩
  ·rw[h3]at hg;exact hd.zC p h2 g hg
  ·rw[h3]at hg;cases hg
 ·exact(iD q hq).elim (hd.lo q) λe=>.inl e.1
end
section
variable {E:PE} {s:St} {Q:QD} {w:World} (hx:ek E) (hd:DD E w s Q) (hk:eH E w) (hwf:s.Wf)
include hx hd hk hwf
theorem YM:∀W,Bel w W→Calls prog 62 #[E.rb,(1:Int)] W (Z.e (.int .i64 0) W):=λW hW=>
 MF E.rb E.g E.gc 1 W (hd.bel hW).c5 (by rw[(hd.bel hW).at (by omega)];rfl)
theorem DF:w.cell? (E.g,2)=some (.int .i64 0):=by rw[hd.at (by omega)];rfl
theorem YN{k a b:Int}{d:List Int}{N M f:Int}{L:List Int}{s':St}(o:vN E.l.c.toNat s k a b d N M f L s')(t:ByteArray)(lp dp:Option Addr)(ln lc dc:Nat)(hb:kY w dp d)(hdc:d.length≤dc)(hlen:s.out.length+d.length≤100000000)(hlast:s.last≤900000) :
 Calls prog 111 #[E.rb,(1:Int),.agg #[k,a,b,t,(lp,ln,lc),(dp,d.length,dc)]] w (zI E s Q s' N M f L w):=by
 have hkW:∀{W},Bel w W→eH E W:=λhW=>hk.tr (Keep.of_bel _ hW);have hc2:=DF hx hd hk hwf;have vg:=YM hx hd hk hwf;have D9:∀(a b:Int),(∀W,Bel w W→Calls prog 199 #[E.rb,E.g,.agg #[(9:Int),a,b,t,(lp,ln,lc),(dp,d.length,dc)]] W (zI E s Q s' N M f L w))→_:=λa b h=>aau E.rb E.g E.gc 1 a b t lp dp ln lc d.length dc _ w hd.c5 hc2 vg h;have YO:∀(a b:Int),(∀W,Bel w W→Calls prog 199 #[E.rb,E.g,.agg #[(10:Int),a,b,t,(lp,ln,lc),(dp,d.length,dc)]] W (zI E s Q s' N M f L w))→_:=λa b h=>XB E.rb E.g E.gc 1 a b t lp dp ln lc d.length dc _ w hd.c5 hc2 vg h;have WL:∀(a b:Int),(∀W,Bel w W→Calls prog 199 #[E.rb,E.g,.agg #[(11:Int),a,b,t,(lp,ln,lc),(dp,d.length,dc)]] W (zI E s Q s' N M f L w))→_:=λa b h=>XC E.rb E.g E.gc 1 a b t lp dp ln lc d.length dc _ w hd.c5 hc2 vg h;have D13:∀(a b:Int),(∀W,Bel w W→Calls prog 199 #[E.rb,E.g,.agg #[(13:Int),a,b,t,(lp,ln,lc),(dp,d.length,dc)]] W (zI E s Q s' N M f L w))→_:=λa b h=>XD E.rb E.g E.gc 1 a b t lp dp ln lc d.length dc _ w hd.c5 hc2 vg h;have D14:∀(a b:Int),(∀W,Bel w W→Calls prog 199 #[E.rb,E.g,.agg #[(14:Int),a,b,t,(lp,ln,lc),(dp,d.length,dc)]] W (zI E s Q s' N M f L w))→_:=λa b h=>XE E.rb E.g E.gc 1 a b t lp dp ln lc d.length dc _ w hd.c5 hc2 vg h;cases o with
 | call _ _ _ _ h=>exact(Qf E.rb E.g E.gc 1 k a b t lp dp ln lc _ dc w hd.c5 hc2 (by omega) vg).mono λe w' h=>h.ok hd
 | bad _ _ _ _ hkk h=>
   rcases hkk with rfl|rfl|rfl|rfl
   ·refine D9 a b λW hW=>?_
    have bF:=hd.bel hW;rcases h with h|h|⟨n,rfl,hn,hf⟩
    ·exact(uY E.rb E.g 0 a b t lp dp ln lc _ dc W h).mono λe w' h=>(h.ok bF).bel hW hd
    ·exact(uZ E.rb E.g 0 a b t lp dp ln lc _ dc W h).mono λe w' h=>(h.ok bF).bel hW hd
    ·exact(xB E.rb E.g 0 b t lp dp ln lc _ dc n W hn (bF.Vh hx hwf hf)).mono λe w' h=>(h.ok bF).bel hW hd
   ·refine YO a b λW hW=>gU E.rb E.g 0 a b t lp dp ln lc _ dc _ W λW2 hW2=>?_
    have bF:=hd.bel (hW.tr hW2);exact(Qb E.rb E.g 0 10 a b t lp dp ln lc _ dc 0 0 0 W2 (Dq hx bF hwf h)).mono λe w' h=>(oI.ok h bF).bel (hW.tr hW2) hd
   ·refine WL a b λW hW=>au (jK hx (hd.bel hW) (hkW hW) hwf 13 a b t lp dp ln lc _ dc λW2 hW2=>Mx E.rb E.g 0 11 a b t lp dp ln lc _ dc 0 0 0 W2 (Dq hx ((hd.bel hW).bel hW2) hwf h)) λe w' h=>h.bel hW hd
   ·refine D13 a b λW hW=>?_
    have bF:=hd.bel hW;exact(zY E.rb E.g 0 a b t lp dp ln lc _ dc 0 0 0 W (Dq hx bF hwf h)).mono λe w' h=>(h.ok bF).bel hW hd
 | close n _ _ f hf hne=>exact D9 n b λW hW=>(JO hx (hd.bel hW) (hkW hW) hwf n b t lp dp ln lc _ dc f hf hne).mono λe w' h=>h.bel hW hd
 | rwr n i _ _ hf=>
   refine YO n b λW hW=>gU E.rb E.g 0 n b t lp dp ln lc _ dc _ W λW2 hW2=>?_;have bF:=hd.bel (hW.tr hW2);obtain⟨p,hp,rfl⟩:=hwf.has _ (List.mem_of_getElem? hf) i (.inr rfl);exact(Ip E.rb E.g 0 10 n b t lp dp ln lc _ dc _ 3 _ W2 (sw hx bF hwf hp hf)).mono λe w' h=>(oI.ok h bF).bel (hW.tr hW2) hd
 | YF n _ _ f hf hne hw hbb=>
   refine YO n b λW hW=>gU E.rb E.g 0 n b t lp dp ln lc _ dc _ W λW2 hW2=>?_;have bF:=hd.bel (hW.tr hW2);have hend:∀(i0 i1 i2:Int),i1≠3→(∀W,Bel W2 W→Calls prog 272 #[E.rb,E.g,.int .i64 n] W (Z.b (.tuple #[.agg #[.int .i64 i0,.int .i64 i1,.int .i64 i2,(0:Int)],true]) W))→Calls prog 270 #[E.rb,E.g,.agg #[(10:Int),.int .i64 n,b,t,(lp,ln,lc),(dp,d.length,dc)]] W2 (zI E s Q s 0 0 6 [] w):=λi0 i1 i2 h1 hof=>by
    rcases hbb with h|h
    ·exact(Ms E.rb E.g 0 10 n b t lp dp ln lc _ dc i0 i1 i2 W2 h h1 hof).mono λe w' h=>(oI.ok h bF).bel (hW.tr hW2) hd
    ·exact(Mt E.rb E.g 0 10 n b t lp dp ln lc _ dc i0 i1 i2 W2 h h1 hof).mono λe w' h=>(oI.ok h bF).bel (hW.tr hW2) hd
   cases f with
   | no=>exact absurd rfl hne
   | wr i=>exact absurd rfl (hw i)
   | jo=>exact hend _ _ _ (by decide) (ou hx bF hwf hf)
   | rd i=>
     obtain⟨p,hp,rfl⟩:=hwf.has _ (List.mem_of_getElem? hf) i (.inl rfl);exact hend _ _ _ (by decide) (vO hx bF hwf hp hf)
 | RI n _ _ hf h0 h4 ht=>
   refine YO n b λW hW=>gU E.rb E.g 0 n b t lp dp ln lc _ dc _ W λW2 hW2=>?_;have bF:=hd.bel (hW.tr hW2);exact(Cq E.rb E.g 0 10 n b t lp dp ln lc _ dc 0 4 0 (Q.kv.cells Q.iv s.last) Q.kv.tv W2 bF.blk rfl (by have:=bF.tb;rw[ht]at this;exact this) h0 h4 (ou hx bF hwf hf)).mono λe w' h=>(oI.ok h bF).bel (hW.tr hW2) hd
 | U7 n kk m _ hf h4 h0 hm=>exact YO n kk λW hW=>(Ov hx (hd.bel hW) (hkW hW) hwf n kk m t lp dp ln lc _ dc hf h4 h0 hm).mono λe w' h=>h.bel hW hd
 | YG n _ _ p bA hf h0 h4 ht hwr=>
   refine YO n b λW hW=>gU E.rb E.g 0 n b t lp dp ln lc _ dc _ W λW2 hW2=>?_;have bF:=hd.bel (hW.tr hW2);have uB:=hkW (hW.tr hW2);obtain⟨gp,cap,cs,r,e1,e2,e3,e4,e5,e6,e7,e8,e9⟩:=qh hx bF uB hwf bA;have hoS:∀g,Q.kv.ov.ownBlock=some g→¬g=gp:=λg hg=>by obtain⟨_,cs',hb⟩:=row_blk bF.oj hg;exact hb.ne e2 (by decide)
   obtain⟨d1,d2⟩:=Gc hx bF uB hwf p bA;rw[if_pos hwr]at d2;have hbb:=bF.bb p bA;rw[ht]at hbb;refine(Cs E.rb E.g 0 10 n b t lp dp ln lc _ dc _ 2 p.id gp s.pipes.length cap r 1 cs (Q.bd p.id) W2 (λW3 k2=>?_) e5 e6 e2 e4 (uz hx bF uB hwf bA e8 e9) (λW3 k2=>?_) hbb h0 h4 (by omega) (by omega) (vO hx bF hwf bA hf)).mono λe w' h=>(oI.ok h bF).bel (hW.tr hW2) hd
   ·rw[(bF.blk.keep k2 (λe=>e7 e.symm)).cell,←e1];rfl
   ·have:=uA hx bF uB hwf 3 p.id (λe=>e7 e.symm) hoS W3 k2
    rw[d2]at this;exact this
 | rrd n kk m _ p bA hf h4 h0 hm=>exact YO n kk λW hW=>(JP hx (hd.bel hW) (hkW hW) hwf n kk m p t lp dp ln lc _ dc bA hf h4 h0 hm).mono λe w' h=>h.bel hW hd
 | wrd n i _ _ hf=>
   obtain⟨p,hp,rfl⟩:=hwf.has _ (List.mem_of_getElem? hf) i (.inl rfl);exact WL n b λW hW=>(jK hx (hd.bel hW) (hkW hW) hwf 13 n b t lp dp ln lc _ dc λW2 hW2=>Es E.rb E.g 0 11 n b t lp dp ln lc _ dc _ 2 _ W2 (vO hx ((hd.bel hW).bel hW2) hwf hp hf)).mono λe w' h=>h.bel hW hd
 | YH n _ _ f hf hne hw hbb=>
   cases f with
   | no=>exact absurd rfl hne
   | rd i=>exact absurd rfl (hw i)
   | jo=>exact WL n b λW hW=>(jK hx (hd.bel hW) (hkW hW) hwf 6 n b t lp dp ln lc _ dc λW2 hW2=>yD E.rb E.g 0 11 n b t lp dp ln lc _ dc 0 4 0 W2 hbb (by decide) (ou hx ((hd.bel hW).bel hW2) hwf hf)).mono λe w' h=>h.bel hW hd
   | wr i=>
     obtain⟨p,hp,rfl⟩:=hwf.has _ (List.mem_of_getElem? hf) i (.inr rfl);exact WL n b λW hW=>(jK hx (hd.bel hW) (hkW hW) hwf 6 n b t lp dp ln lc _ dc λW2 hW2=>yD E.rb E.g 0 11 n b t lp dp ln lc _ dc _ 3 _ W2 hbb (by decide) (sw hx ((hd.bel hW).bel hW2) hwf hp hf)).mono λe w' h=>h.bel hW hd
 | U8 n _ _ hf h4=>exact WL n b λW hW=>(JQ hx (hd.bel hW) (hkW hW) hwf n b d t lp dp ln lc dc hf h4 (hb.bel hW) hlen).mono λe w' h=>h.bel hW hd
 | RJ n _ _ p bA hf h4 hr=>
   refine WL n b λW hW=>(jK hx (hd.bel hW) (hkW hW) hwf 15 n b t lp dp ln lc _ dc λW2 hW2=>?_).mono λe w' h=>h.bel hW hd;have bF:=(hd.bel hW).bel hW2;have uB:=hkW (hW.tr hW2);obtain⟨gp,cap,cs,r,e1,e2,e3,e4,e5,e6,e7,e8,e9⟩:=qh hx bF uB hwf bA;obtain⟨d1,d2⟩:=Gc hx bF uB hwf p bA;rw[if_neg hr]at d1;refine Et E.rb E.g 0 11 n b t lp dp ln lc _ dc _ 3 p.id gp s.pipes.length cap r 0 cs (Q.bd p.id) p.byt W2 (λW3 k2=>?_) e5 e6 e2 e4 (bF.bb p bA) (hwf.b64 p bA) h4 (uz hx bF uB hwf bA e8 e9) (λW3 k2=>?_) rfl (sw hx bF hwf bA hf)
   ·rw[(bF.bel k2).blk.cell,←e1];rfl
   ·have:=uA hx bF uB hwf (S:=λ_=>False) 2 p.id (λh=>h) (λ_ _ h=>h) W3 (Keep.of_bel _ k2)
    rw[d1]at this;exact this
 | JE n _ _ p bA hf h4 hr h64 h0=>
   refine WL n b λW hW=>(jK hx (hd.bel hW) (hkW hW) hwf 16 n b t lp dp ln lc _ dc λW2 hW2=>?_).mono λe w' h=>h.bel hW hd;have bF:=(hd.bel hW).bel hW2;have uB:=hkW (hW.tr hW2);obtain⟨gp,cap,cs,r,e1,e2,e3,e4,e5,e6,e7,e8,e9⟩:=qh hx bF uB hwf bA;obtain⟨d1,d2⟩:=Gc hx bF uB hwf p bA;rw[if_pos hr]at d1;refine Ct E.rb E.g 0 11 n b t lp dp ln lc _ dc _ 3 p.id gp s.pipes.length cap r 1 cs (Q.bd p.id) p.byt W2 (λW3 k2=>?_) e5 e6 e2 e4 (bF.bb p bA) (hwf.b64 p bA) h4 (uz hx bF uB hwf bA e8 e9) (λW3 k2=>?_) (by omega) (by omega) h64 h0 (sw hx bF hwf bA hf)
   ·rw[(bF.bel k2).blk.cell,←e1];rfl
   ·have:=uA hx bF uB hwf (S:=λ_=>False) 2 p.id (λh=>h) (λ_ _ h=>h) W3 (Keep.of_bel _ k2)
    rw[d1]at this;exact this
 | wok n m _ _ p bA hf h4 hr h0 hm=>exact WL n b λW hW=>(Gd hx (hd.bel hW) (hkW hW) hwf n m b d p t lp dp ln lc dc bA hf h4 hr h0 hm (hb.bel hW) hdc).mono λe w' h=>h.bel hW hd
 | RL n _ _ f hf hne hno=>
   refine D13 n b λW hW=>?_;have bF:=hd.bel hW;have hfr:=sD hx bF hwf (from_:=0) (by omega) hno;have hend:∀(i0 i1 i2:Int),(∀W2,Bel W W2→Calls prog 272 #[E.rb,E.g,.int .i64 n] W2 (Z.b (.tuple #[.agg #[.int .i64 i0,.int .i64 i1,.int .i64 i2,(0:Int)],true]) W2))→Calls prog 199 #[E.rb,E.g,.agg #[(13:Int),.int .i64 n,b,t,(lp,ln,lc),(dp,d.length,dc)]] W (zI E s Q s 0 0 14 [] w):=λi0 i1 i2 hof=>
    (xC E.rb E.g 0 n b t lp dp ln lc _ dc i0 i1 i2 W hof (by simpa using hfr)).mono λe w' h=>(h.ok bF).bel hW hd
   cases f with
   | no=>exact absurd rfl hne
   | jo=>exact hend _ _ _ (ou hx bF hwf hf)
   | rd i=>
     obtain⟨p,hp,rfl⟩:=hwf.has _ (List.mem_of_getElem? hf) i (.inl rfl);exact hend _ _ _ (vO hx bF hwf hp hf)
   | wr i=>
     obtain⟨p,hp,rfl⟩:=hwf.has _ (List.mem_of_getElem? hf) i (.inr rfl);exact hend _ _ _ (sw hx bF hwf hp hf)
 | dup n r _ _ f hf hne hr=>
   refine D13 n b λW hW=>?_;have bF:=hd.bel hW;have hfr:=nR hx bF hwf hr;have V6:n<8:=by rw[←hwf.fl];exact(bZ hf).1
   have tK:r<8:=by rw[←hwf.fl];exact(bZ hr.2.1).1
   have hcn:Q.cs[0+23+n]?=some (.int .i64 f.id):=by rw[←hd.row.cell];exact hd.Vh hx hwf hf
   have hcr:Q.cs[0+23+r]?=some (.int .i64 0):=by rw[←hd.row.cell];exact hd.Vh hx hwf hr.2.1
   have hend:∀(i0 i1 i2:Int),(∀W2,Bel W W2→Calls prog 272 #[E.rb,E.g,.int .i64 n] W2 (Z.b (.tuple #[.agg #[.int .i64 i0,.int .i64 i1,.int .i64 i2,(0:Int)],true]) W2))→Calls prog 199 #[E.rb,E.g,.agg #[(13:Int),.int .i64 n,b,t,(lp,ln,lc),(dp,d.length,dc)]] W (zI E s Q {s with fds:=s.fds.set r f} r 0 0 [] w):=λi0 i1 i2 hof=>by
    refine(Iw E.rb E.g 0 b t lp dp ln lc _ dc i0 i1 i2 n r f.id 0 Q.cs W hof (by simpa using hfr) V6 tK bF.row hcn hcr).mono ?_;rintro e w' ⟨rfl,h⟩;obtain⟨Q',h2⟩:=DD.dup hx bF (hkW hW) hwf hr.2.1 (List.mem_of_getElem? hf) h;exact(h2.bel hW hd).ans
   cases f with
   | no=>exact absurd rfl hne
   | jo=>exact hend _ _ _ (ou hx bF hwf hf)
   | rd i=>
     obtain⟨p,hp,rfl⟩:=hwf.has _ (List.mem_of_getElem? hf) i (.inl rfl);exact hend _ _ _ (vO hx bF hwf hp hf)
   | wr i=>
     obtain⟨p,hp,rfl⟩:=hwf.has _ (List.mem_of_getElem? hf) i (.inr rfl);exact hend _ _ _ (sw hx bF hwf hp hf)
 | pno _ _ _ hno=>
   refine D14 a b λW hW=>?_;have bF:=hd.bel hW;have hfr:=sD hx bF hwf (from_:=0) (by omega) hno;exact(yG E.rb E.g 0 a b t lp dp ln lc _ dc W (by simpa using hfr)).mono λe w' h=>(h.ok bF).bel hW hd
 | YI r _ _ _ hr hno=>
   refine D14 a b λW hW=>?_;have bF:=hd.bel hW;have tK:r<8:=by rw[←hwf.fl];exact(bZ hr.2.1).1
   have hfr:=nR hx bF hwf hr;have hfn:=sD hx bF hwf (from_:=r+1) (by omega) hno;exact(yH E.rb E.g 0 a b t lp dp ln lc _ dc r W tK (by simpa using hfr) (by simpa using hfn)).mono λe w' h=>(h.ok bF).bel hW hd
 | RN r m _ _ _ hr hm hl=>
   refine D14 a b λW hW=>?_;have bF:=hd.bel hW;have tK:r<8:=by rw[←hwf.fl];exact(bZ hr.2.1).1
   have Ul:m<8:=by rw[←hwf.fl];exact(bZ hm.2.1).1
   have hfr:=nR hx bF hwf hr;have hfm:=nR hx bF hwf hm;obtain⟨po,co,hov,_⟩:=bF.oj.cell;have hoc:((E.l.c.toNat:Nat):Int)=E.l.c:=Int.toNat_of_nonneg hx.lc.1;exact(ve E.rb E.g 0 a b t lp dp ln lc _ dc r m (aj s.fds s.pipes).length E.l.c.toNat co po W tK Ul (je hwf) hl (by rw[bF.blk.cell,hoc,←hd.lim.2.2.1];rfl) (by rw[bF.c6,hov]) (by simpa using hfr) (by simpa using hfm)).mono λe w' h=>(h.ok bF).bel hW hd
 | pipe r m _ _ _ hr hm hl=>
   refine D14 a b λW hW=>?_;have bF:=hd.bel hW;have Ul:m<8:=by rw[←hwf.fl];exact(bZ hm.2.1).1
   have hfr:=nR hx bF hwf hr;have hfm:=nR hx bF hwf hm;have hoc:((E.l.c.toNat:Nat):Int)=E.l.c:=Int.toNat_of_nonneg hx.lc.1;have hrl:E.rb<E.w0.heap.size:=by obtain⟨_,hb,_⟩:=hx.br;exact hb.lt
   refine(Ex E.rb E.g 0 a b t lp dp ln lc _ dc r m s.last E.l.c.toNat Q.kv Q.iv (aj s.fds s.pipes) (dR Q.bd s.pipes) Q.cs W (by have:=hm.1;omega) Ul bF.blk (by rw[hd.lim.2.2.1,hoc]) E.w0.heap.size (by omega) (hkW hW).size bF.oj bF.Ou (je hwf) (by unfold dR;rw[fJ];exact qM hwf) hl hlast bF.row (by have:=hd.len;omega) (by simpa using hfr) (by simpa using hfm)).mono ?_;rintro e w' ⟨rfl,ov,xv,h⟩;obtain⟨Q',h2⟩:=DD.piped hx bF (hkW hW) hwf hr.2.1 hm.2.1 (by have:=hm.1;omega) h;exact(h2.bel hW hd).ans
end
end
end Go.Proofs.YtcnjjchlebmfiaaGreatDoor
