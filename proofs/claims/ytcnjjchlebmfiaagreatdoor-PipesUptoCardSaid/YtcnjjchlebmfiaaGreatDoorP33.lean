/-.-/
import Derived.Test.YtcnjjchlebmfiaaGreatDoorP31
import Derived.Test.YtcnjjchlebmfiaaGreatDoorP26
import Derived.Test.YtcnjjchlebmfiaaGreatDoorP29
import Derived.Test.YtcnjjchlebmfiaaGreatDoorP32
set_option linter.all false
set_option maxRecDepth 100000
set_option maxHeartbeats 16000000
namespace Go.Proofs.YtcnjjchlebmfiaaGreatDoor
section
open Go.Proofs.Tryz Go.RowKit Go.MapKept Go.Maps Go.Shelf
def aac(J:World→Prop)(wb tk rb B:Nat)(N M f:Int)(dv:Value)(W:World)(e:Ending)(w':World):Prop:=∃p q cp cq,∃L:List Int,e=.returned (.tuple #[N,M,.slice q L.length cq,f])∧dv=.slice p L.length cp∧BS w' p L∧BS w' q L∧L.length≤1000000∧f≠ -2∧(f≠0→dv=.slice none 0 0)∧(∃ov wv,Blk w' wb [tk,rb,ov,wv,false] 96)∧Fr B W w'∧
 ∀W',Bel w' W'→J ((W'.setCell (wb,2) dv).setCell (wb,3) (.slice q L.length cq))
structure DoC(J:World→Prop)(wb tk rb B n0 n1:Nat)(A:Int)(c:iH)(X:Int→Int→Int→Value→Value→World→Prop):Prop where
 keep:∀{N M f:Int} {dv ev:Value} {W W':World},X N M f dv ev W→Keep (λq=>n0≤q∧q<n1) W W'→X N M f dv ev W'
 wb1:∀{N M f:Int} {dv ev:Value} {W:World},X N M f dv ev W→∃ov wv,Blk W wb [tk,rb,ov,wv,false] 96
 dv:∀{N M f:Int} {dv ev:Value} {W:World},X N M f dv ev W→∃p n c,dv=.slice p n c
 tell:∀{N M f:Int} {dv ev:Value} {W:World},X N M f dv ev W→Calls prog 14 #[ev] W (Z.b (.int .i64 f) W)
 doc:∀{N M f:Int} {dv ev:Value} {W:World} {lp dp:Option Addr} {lc dc:Nat},X N M f dv ev W→n1≤W.heap.size→VM W lp c.l→kY W dp c.d→c.d.length≤dc→Calls prog 111 #[rb,.int .i64 A,.agg #[.int .i64 c.kind,.int .i64 c.a,.int .i64 c.b,.string c.s,.slice lp c.l.length lc,.slice dp c.d.length dc]] W (aac J wb tk rb B N M f dv W)
def DoS(I J:World→Prop)(wb tk rb B:Nat)(A:Int)(c:iH):Prop:=
 ∀(w0 w:World) (lp:Option Addr) (g lc:Nat),I w0→Bel w0 w→B≤w0.heap.size→w0.heap.size≤g→Tc w lp c.l→(∀b o,lp=some ⟨b,o,none⟩→w0.heap.size≤b)→Blk w g ((c.d++[71,72]).map (Value.int .u8)) 5→(∀x∈c.d,fP x)→∃X,DoC J wb tk rb B w0.heap.size w.heap.size A c X∧
  Calls prog 18 #[tk,A,.agg #[.int .i64 c.kind,.int .i64 c.a,.int .i64 c.b,.string c.s,.slice lp c.l.length lc,.slice (g,0) c.d.length (c.d.length+2)]] w λe w'=>∃N M f dv ev,e=.returned (.tuple #[.agg #[.int .i64 N,.int .i64 M,dv],ev])∧X N M f dv ev w'∧Fr B w w'∧∀q,w0.heap.size≤q→q<w.heap.size→w'.heap[q]?=w.heap[q]?
theorem gQ(w:World)(o:Obj):Bel w (w.drew.alloc o):=(Bel.drew (Bel.refl w)).tr (Bel.start _ o)
theorem TU{S:Nat→Prop}{w w':World}{a1 a2 a3 a4 a5 a6 a7 a8:Addr}{v1 v2 v3 v4 v5 v6 v7 v8:Value}(h:w.cell? a1=some v1∧w.cell? a2=some v2∧w.cell? a3=some v3∧w.cell? a4=some v4∧w.cell? a5=some v5∧w.cell? a6=some v6∧w.cell? a7=some v7∧w.cell? a8=some v8)(k:Keep S w w')(hs:¬S a1.block∧¬S a2.block∧¬S a3.block∧¬S a4.block∧¬S a5.block∧¬S a6.block∧¬S a7.block∧¬S a8.block):w'.cell? a1=some v1∧w'.cell? a2=some v2∧w'.cell? a3=some v3∧w'.cell? a4=some v4∧w'.cell? a5=some v5∧w'.cell? a6=some v6∧w'.cell? a7=some v7∧w'.cell? a8=some v8:=
 have c:∀(a:Addr) (v:Value),w.cell? a=some v→¬S a.block→w'.cell? a=some v:=λa v h hn=>(k.cell a (World.block_lt_of_cell? _ _ h) hn).trans h
 ⟨c _ _ h.1 hs.1,c _ _ h.2.1 hs.2.1,c _ _ h.2.2.1 hs.2.2.1,c _ _ h.2.2.2.1 hs.2.2.2.1,c _ _ h.2.2.2.2.1 hs.2.2.2.2.1,c _ _ h.2.2.2.2.2.1 hs.2.2.2.2.2.1,c _ _ h.2.2.2.2.2.2.1 hs.2.2.2.2.2.2.1,c _ _ h.2.2.2.2.2.2.2 hs.2.2.2.2.2.2.2⟩
theorem Cj{w6 W w7:World}{n0 q:Nat}{cs:List Value}{t:TypeId}(h:Blk w6 q cs t)(k:Bel w6 W)(r:∀q,n0≤q→q<W.heap.size→w7.heap[q]?=W.heap[q]?)(hq:n0≤q):Blk w7 q cs t:=(r q hq (Nat.lt_of_lt_of_le h.lt k.size)).trans (h.bel k)
def acd(J:World→Prop)(wb tk rb B n0:Nat)(A:Int)(c:iH)(w:World)(e:Ending)(w':World):Prop:=
 ∃X,DoC J wb tk rb B n0 w.heap.size A c X∧∃N M f dv ev,e=.returned (.tuple #[.agg #[.int .i64 N,.int .i64 M,dv],ev])∧X N M f dv ev w'∧Fr B w w'∧∀q,n0≤q→q<w.heap.size→w'.heap[q]?=w.heap[q]?
theorem PX{w:World}{a1 a2 a3 a4 a5 a6 a7 a8:Addr}{v1 v2 v3 v4 v5 v6 v7 v8:Value}(h:w.cell? a1=some v1∧w.cell? a2=some v2∧w.cell? a3=some v3∧w.cell? a4=some v4∧w.cell? a5=some v5∧w.cell? a6=some v6∧w.cell? a7=some v7∧w.cell? a8=some v8)(o:Obj):(w.alloc o).cell? a1=some v1∧(w.alloc o).cell? a2=some v2∧(w.alloc o).cell? a3=some v3∧(w.alloc o).cell? a4=some v4∧(w.alloc o).cell? a5=some v5∧(w.alloc o).cell? a6=some v6∧(w.alloc o).cell? a7=some v7∧(w.alloc o).cell? a8=some v8:=
 have k:=Bel.start w o
 ⟨aa k h.1,aa k h.2.1,aa k h.2.2.1,aa k h.2.2.2.1,aa k h.2.2.2.2.1,aa k h.2.2.2.2.2.1,aa k h.2.2.2.2.2.2.1,aa k h.2.2.2.2.2.2.2⟩
def Em(q:Option Addr)(ls:List ByteArray)(w0:World)(j:Nat)(wr:World):Prop:=
 (∀x,q=some ⟨x,0,none⟩→∃cs,Blk wr x cs 9∧∀k,j≤k→k<ls.length→cs[k]?=(ls.map Value.string)[k]?)∧Keep (λx=>q=some ⟨x,0,none⟩) w0 wr
theorem Em.next{qb:Nat}{ls:List ByteArray}{w0 wr wq:World}{j:Nat}(h:Em (some ⟨qb,0,none⟩) ls w0 j wr)(k:Bel wr wq)(v:Value):Em (some ⟨qb,0,none⟩) ls w0 (j+1) (wq.setCell (qb,j) v):=by
 refine⟨λx hx=>?_,(h.2.tr (Keep.of_bel _ k)).tr ((Keep.setCell wq qb j v).mono λx hx=>by have hx:x=qb:=hx;subst hx;rfl)⟩;have e:x=qb:=by cases hx;rfl
 subst e;obtain⟨cs,hb,hc⟩:=h.1 x rfl;refine⟨_,(hb.bel k).setCell (o:=j) v,λi h1 h2=>?_⟩;rw[List.getElem?_set_ne (by omega)];exact hc i (by omega) h2
theorem Ck{w w':World}{q:Nat}{cs:List Value}{t:TypeId}(h:Blk w q cs t)(e:w'.heap[q]?=w.heap[q]?):Blk w' q cs t:=e.trans h
theorem TV(I J:World→Prop)(wb tk rb B:Nat)(o:rq)(hQ:TW I wb tk rb)(hwB:B≤wb)(hD:DoS I J wb tk rb B o.a o.c)(w:World)(hI:I w)(hok:∀W,Below B w W→sM W o)(hsz:o.c.weight≤200000)(aad:o.c.kind≠20)(hB:B≤w.heap.size) :
 Calls prog 64 #[wb,.agg o.cells.toArray] w λe w'=>e=.returned (.bool true)∧J w'∧Fr B w w':=by
 obtain⟨kind,oa,oo,⟨ck,ca,cb,s,ls,lp,lc,dd,dp,dc⟩,od,mZ,nE⟩:=o;change Calls prog 64 #[wb,.agg #[.int .i64 kind,.int .i64 oa,.int .i64 oo,.int .i64 ck,.int .i64 ca,.int .i64 cb,.string s,.slice lp ls.length lc,.slice dp dd.length dc,.slice mZ od.length nE]] w _
 dsimp only at hD hsz aad
 have hdl:dd.length≤200000:=by
  unfold iH.weight at hsz;split at hsz
  ·omega
  ·dsimp only at hsz;omega
 have hll:ls.length≤1000:=by
  unfold iH.weight at hsz;split at hsz
  ·omega
  ·rename_i h;dsimp only at h;omega
 have HQ:=xh hQ;have HI:=xh hI;have ji:=xh hok;have HB:=xh hB;have HD:=xh hD;have Zf:=xh hwB;obtain⟨p0,q0,c0,d0,L0,hb0,_,_,_⟩:=hQ.blk hI;have Xh:=hb0.lt;have k1:Bel w (w.alloc (.cells #[.int .i64 kind,.int .i64 oa,.int .i64 oo,.int .i64 ck,.int .i64 ca,.int .i64 cb,.string s,.slice lp ls.length lc,.slice dp dd.length dc,.slice mZ od.length nE] 79)):=Bel.start _ _;have BX:Blk (w.alloc (.cells #[.int .i64 kind,.int .i64 oa,.int .i64 oo,.int .i64 ck,.int .i64 ca,.int .i64 cb,.string s,.slice lp ls.length lc,.slice dp dd.length dc,.slice mZ od.length nE] 79)) w.heap.size [.int .i64 kind,.int .i64 oa,.int .i64 oo,.int .i64 ck,.int .i64 ca,.int .i64 cb,.string s,.slice lp ls.length lc,.slice dp dd.length dc,.slice mZ od.length nE] 79:=Blk.new w _ _;have v0:(w.alloc (.cells #[.int .i64 kind,.int .i64 oa,.int .i64 oo,.int .i64 ck,.int .i64 ca,.int .i64 cb,.string s,.slice lp ls.length lc,.slice dp dd.length dc,.slice mZ od.length nE] 79)).cell? (wb,0)=some (.pointer (tk,0)):=(hb0.bel k1).cell 0;clear hQ hI hok hB hb0 hD hwB hsz;go_enter func64,ntmps64;go_upto_region 1 with fail
 generalize w.alloc (.cells #[.int .i64 kind,.int .i64 oa,.int .i64 oo,.int .i64 ck,.int .i64 ca,.int .i64 cb,.string s,.slice lp ls.length lc,.slice dp dd.length dc,.slice mZ od.length nE] 79)=w1 at *
 obtain⟨bx,hbx⟩:=e_x w.heap.size;rw[hbx]at BX⊢;have fG:=xh BX;have Me:=xh hbx;have bG:=xh k1;have x3:=BX.c 3 rfl;have x4:=BX.c 4 rfl;have x5:=BX.c 5 rfl;have x6:=BX.c 6 rfl;have x7:=BX.c 7 rfl;have x8:=BX.c 8 rfl;have ace:=BX.lt;clear BX k1 hbx;go_upto_region 2 with fail
 have k2:Bel w1 (w1.alloc (.cells #[.int .i64 ck,.int .i64 ca,.int .i64 cb,.string s,.slice lp ls.length lc,.slice dp dd.length dc] 68)):=Bel.start _ _;have B2:Blk (w1.alloc (.cells #[.int .i64 ck,.int .i64 ca,.int .i64 cb,.string s,.slice lp ls.length lc,.slice dp dd.length dc] 68)) w1.heap.size [.int .i64 ck,.int .i64 ca,.int .i64 cb,.string s,.slice lp ls.length lc,.slice dp dd.length dc] 68:=Blk.new w1 _ _;generalize w1.alloc (.cells #[.int .i64 ck,.int .i64 ca,.int .i64 cb,.string s,.slice lp ls.length lc,.slice dp dd.length dc] 68)=w2 at *
 obtain⟨bc,hbc⟩:=e_x w1.heap.size;rw[hbc]at B2⊢;have PY:=xh hbc;have gq:=xh (bG.o.tr k2);have Zg:=xh (fG.o.bel k2);have Kt:=xh B2;have c5:=B2.c 5 rfl;have v02:=aa k2 v0;clear x3 x4 x5 x6 x7 x8 k2 B2 hbc v0;have aeA:Hid (∀W,Below B w W→sM W ⟨kind,oa,oo,⟨ck,ca,cb,s,ls,lp,lc,dd,dp,dc⟩,od,mZ,nE⟩):=xh ji.o;have hbd:=(ji.o w2 (gq.o.mono HB.o)).cd;have OQ:=xh (uV dp dc dd w2 hbd hdl);clear hbd;go_upto_region 3 with(go_at_call 58;((with_reducible refine au OQ.o ?_);rintro e3 w3 ⟨g,rfl,hg,hBg,k3⟩;have H3:=xh k3;have HG:=xh (And.intro hg hBg);clear hg hBg k3))
 have B3:=Kt.o.bel H3.o;have Zh:=B3.c 5 rfl;have f5:=B3.frozen 5;have l5:=B3.lt;have hgc:bc<g:=by have:=Kt.o.lt;have:=HG.o.1;omega
 clear c5;go_upto_region 4 with fail
 have B4:Blk (w3.setCell (bc,5) (.slice (g,0) dd.length (dd.length+2))) bc [.int .i64 ck,.int .i64 ca,.int .i64 cb,.string s,.slice lp ls.length lc,.slice (g,0) dd.length (dd.length+2)] 68:=B3.setCell (o:=5) _;have K4:Bel w (w3.setCell (bc,5) (.slice (g,0) dd.length (dd.length+2))):=dP (gq.o.tr H3.o) (by have:=PY.o;have:=bG.o.size;omega);have G4:=HG.o.2.keep (Keep.setCell w3 bc 5 (.slice (g,0) dd.length (dd.length+2))) (by show ¬g=bc;omega);have X4:=(Zg.o.bel H3.o).keep (Keep.setCell w3 bc 5 (.slice (g,0) dd.length (dd.length+2))) (by have:=Zg.o.lt;have:=fG.o.lt;have:=PY.o;show ¬bx=bc;omega);generalize w3.setCell (bc,5) (.slice (g,0) dd.length (dd.length+2))=w4 at *
 have c4:=B4.c 4 rfl;have iY:=xh B4;have TY:=xh G4;have HX4:=xh X4;have oM:=xh K4;have HTX:=xh (ji.o w4 (K4.mono HB.o)).l;have HLZ:Hid (lp=none→lc=0):=xh (ji.o w4 (K4.mono HB.o)).z;clear B4 G4 X4 K4 B3 Zh f5 l5 v02;have lbc:bc<w4.heap.size:=iY.o.lt;go_upto_region 6 with(at_builtin;refine sW rfl (.tmp 29) (.tmp 31) 66 rfl underlying66 TM rfl lp lc ls rfl HTX.o HLZ.o (by omega) ?_;intro q cq w5 R5 k5;have H5:=xh (And.intro R5 k5);have Zi:=(iY.o.bel k5).c 4 rfl;have f4:=(iY.o.bel k5).frozen 4;have l4:=(iY.o.bel k5).lt;clear R5 k5)
 clear c4;go_upto_region 7 with fail
 have K56:=Keep.setCell w5 bc 4 (.slice q ls.length cq);have B6:Blk (w5.setCell (bc,4) (.slice q ls.length cq)) bc [.int .i64 ck,.int .i64 ca,.int .i64 cb,.string s,.slice q ls.length cq,.slice (g,0) dd.length (dd.length+2)] 68:=(iY.o.bel H5.o.2).setCell (o:=4) _;have K6:Bel w (w5.setCell (bc,4) (.slice q ls.length cq)):=dP (oM.o.tr H5.o.2) (by have:=PY.o;have:=bG.o.size;omega);have G6:=(TY.o.bel H5.o.2).keep K56 (by show ¬g=bc;omega);have X6:=(HX4.o.bel H5.o.2).keep K56 (by have:=fG.o.lt;have:=PY.o;show ¬bx=bc;omega);have R6:=aZ H5.o.1 K56 (λg hg e=>by have e:g=bc:=e;omega);generalize w5.setCell (bc,4) (.slice q ls.length cq)=w6 at *
 have yx:=xh B6;have HG6:=xh G6;have Xi:=xh X6;have pz:=xh K6;have GG:=xh R6;have HW4:Hid (w.heap.size≤w4.heap.size):=xh oM.o.size;clear B6 K6 G6 X6 R6 K56 Zi f4 l4 lbc;have kd:Bel w w6.drew:=Bel.drew pz.o;have rd:Bel w6 w6.drew:=Bel.drew (Bel.refl _);have TZ:∀b o,q=some ⟨b,o,none⟩→w.heap.size≤b:=λb o hq=>by
  subst hq;have h:w4.heap.size≤b:=fQ GG.o b (by
   obtain⟨p',c',e,_,_,hp⟩:=aD GG.o;cases e
   rcases hp with⟨_,hp,_⟩|⟨g',hp,_⟩
   ·cases hp
   ·cases hp;rfl)
  have:=HW4.o;omega
 have hgw:w.heap.size≤g:=by have:=HG.o.1;have:=gq.o.size;omega
 have hDo:∀W,Bel w6 W→Calls prog 18 #[tk,.int .i64 oa,.agg #[.int .i64 ck,.int .i64 ca,.int .i64 cb,.string s,.slice q ls.length cq,.slice (g,0) dd.length (dd.length+2)]] W (acd J wb tk rb B w.heap.size oa ⟨ck,ca,cb,s,ls,lp,lc,dd,dp,dc⟩ W):=λW hW=>by
  obtain⟨X,hX,hDo⟩:=HD.o w W q g cq HI.o (pz.o.tr hW) HB.o hgw ((Ia GG.o rfl).bel hW) TZ (HG6.o.bel hW) (ji.o w (Below.refl _ _)).cd.1;exact hDo.mono λe w' k=>⟨X,hX,k⟩
 obtain⟨pw,qw,cw,dw,Lw,hwb,_,_,_⟩:=HQ.o.blk HI.o;have v0:w6.cell? (wb,0)=some (.pointer (tk,0)):=aa pz.o (hwb.cell 0);have b0:=yx.o.c 0 rfl;have b1:=yx.o.c 1 rfl;have b2:=yx.o.c 2 rfl;have b3:=yx.o.c 3 rfl;have b4:=yx.o.c 4 rfl;have b5:=yx.o.c 5 rfl;have x1:=Xi.o.c 1 rfl;have HDO:=xh hDo;have HQB:=xh TZ;have HGW:=xh hgw;have Ik:Hid (w.heap.size≤bc∧bc<w6.heap.size∧w.heap.size≤bx∧bx<w6.heap.size):=xh (by have:=PY.o;have:=bG.o.size;have:=yx.o.lt;have:=Xi.o.lt;have:=Me.o;omega);have GH:=xh (Xi.o.bel rd);have uI:=xh (yx.o.bel rd);have d0:=aa rd v0;have HS0:Hid (w6.drew.cell? (wb,0)=some (.pointer (tk,0))∧w6.drew.cell? (bx,1)=some (.int .i64 oa)∧w6.drew.cell? (bc,0)=some (.int .i64 ck)∧w6.drew.cell? (bc,1)=some (.int .i64 ca)∧w6.drew.cell? (bc,2)=some (.int .i64 cb)∧w6.drew.cell? (bc,3)=some (.string s)∧w6.drew.cell? (bc,4)=some (.slice q ls.length cq)∧w6.drew.cell? (bc,5)=some (.slice (g,0) dd.length (dd.length+2))):=xh ⟨d0,aa rd x1,aa rd b0,aa rd b1,aa rd b2,aa rd b3,aa rd b4,aa rd b5⟩;clear kd rd TZ hgw hDo hwb d0;have Xj:Hid (w.heap.size≤w6.heap.size):=xh pz.o.size;have jD:Hid (¬wb=w6.heap.size∧¬bx=w6.heap.size∧¬bc=w6.heap.size∧¬bc=w6.heap.size∧¬bc=w6.heap.size∧¬bc=w6.heap.size∧¬bc=w6.heap.size∧¬bc=w6.heap.size):=xh (by have:=Ik.o;have:=pz.o.size;omega);have Zj:Hid (∀ob,(w6.drew.alloc ob).cell? (wb,0)=some (.pointer (tk,0))∧(w6.drew.alloc ob).cell? (bx,1)=some (.int .i64 oa)∧(w6.drew.alloc ob).cell? (bc,0)=some (.int .i64 ck)∧(w6.drew.alloc ob).cell? (bc,1)=some (.int .i64 ca)∧(w6.drew.alloc ob).cell? (bc,2)=some (.int .i64 cb)∧(w6.drew.alloc ob).cell? (bc,3)=some (.string s)∧(w6.drew.alloc ob).cell? (bc,4)=some (.slice q ls.length cq)∧(w6.drew.alloc ob).cell? (bc,5)=some (.slice (g,0) dd.length (dd.length+2))):=xh (PX HS0.o);have HZB:Hid (Blk (w6.drew.alloc (.cells #[(0:Int),(0:Int),()] 62)) w6.heap.size [(0:Int),(0:Int),()] 62):=xh (Blk.new w6.drew _ _);go_region_held3 (λw'=>w'.cell? ⟨wb,0,none⟩=some (.pointer (tk,0))∧w'.cell? ⟨bx,1,none⟩=some (.int .i64 oa)∧w'.cell? ⟨bc,0,none⟩=some (.int .i64 ck)∧w'.cell? ⟨bc,1,none⟩=some (.int .i64 ca)∧w'.cell? ⟨bc,2,none⟩=some (.int .i64 cb)∧w'.cell? ⟨bc,3,none⟩=some (.string s)∧w'.cell? ⟨bc,4,none⟩=some (.slice q ls.length cq)∧w'.cell? ⟨bc,5,none⟩=some (.slice (g,0) dd.length (dd.length+2))) (first|exact HS0.o|exact HS7.o|exact Zj.o _|exact HS9.o _|exact HS8.o _ _ _|(go_keep;done)) (((go_at_call 18;((first|(with_reducible refine au (HDO.o _ (Bel.drew (Bel.refl _))) ?_)|(with_reducible refine au (HDO.o _ (gQ _ _)) ?_));rintro e7 w7 ⟨X,hX,N,M,f,dv,ev,rfl,x7,k7,r7⟩;obtain⟨rG,xy,rH,rfl⟩:=hX.dv x7;have HX7:=xh (Cj Xi.o (by first|exact Bel.drew (Bel.refl _)|exact gQ _ _) r7 Ik.o.2.2.1);have uW:=xh (Cj yx.o (by first|exact Bel.drew (Bel.refl _)|exact gQ _ _) r7 Ik.o.1);obtain⟨ov7,wv7,hw7⟩:=hX.wb1 x7;have HW7:=xh hw7;have HS7:Hid (w7.cell? ⟨wb,0,none⟩=some (.pointer (tk,0))∧w7.cell? ⟨bx,1,none⟩=some (.int .i64 oa)∧w7.cell? ⟨bc,0,none⟩=some (.int .i64 ck)∧w7.cell? ⟨bc,1,none⟩=some (.int .i64 ca)∧w7.cell? ⟨bc,2,none⟩=some (.int .i64 cb)∧w7.cell? ⟨bc,3,none⟩=some (.string s)∧w7.cell? ⟨bc,4,none⟩=some (.slice q ls.length cq)∧w7.cell? ⟨bc,5,none⟩=some (.slice (g,0) dd.length (dd.length+2))):=xh ⟨hw7.cell 0,HX7.o.cell 1,uW.o.cell 0,uW.o.cell 1,uW.o.cell 2,uW.o.cell 3,uW.o.cell 4,uW.o.cell 5⟩;have HS9:=xh (PX HS7.o);have HS8:=xh λu0 u1 u2=>TU HS7.o ((Keep.setCell w7 w6.heap.size 0 u0).tr ((Keep.setCell _ w6.heap.size 1 u1).tr (Keep.setCell _ w6.heap.size 2 u2))) jD.o;(first|(have VX:=xh (Cj HZB.o (Bel.refl _) r7 Xj.o);have z0:=(show w7.cell? ⟨w6.heap.size,0,none⟩=some (.int .i64 0)from VX.o.cell 0);have z1:=(show w7.cell? ⟨w6.heap.size,1,none⟩=some (.int .i64 0)from VX.o.cell 1);have z2:=(show w7.cell? ⟨w6.heap.size,2,none⟩=some (.slice none 0 0)from VX.o.cell 2);have zf:=VX.o.frozen;have zl:=VX.o.lt)|skip);have H7:=xh (And.intro hX (And.intro x7 (And.intro k7 r7)));clear hX x7 k7 r7 hw7))))
 have HZ8:Hid (Blk (w7.alloc (.cells #[.int .i64 N,.int .i64 M,.slice rG xy rH] 62)) w7.heap.size [.int .i64 N,.int .i64 M,.slice rG xy rH] 62):=xh (Blk.new w7 _ _);have OP:Hid (X N M f (.slice rG xy rH) ev (w7.alloc (.cells #[.int .i64 N,.int .i64 M,.slice rG xy rH] 62))):=xh (H7.o.1.keep H7.o.2.1 (Keep.of_bel _ (Bel.start w7 _)));have HF8:Hid (Fr B w (w7.alloc (.cells #[.int .i64 N,.int .i64 M,.slice rG xy rH] 62))):=xh (((Fr.bel (pz.o.tr (Bel.drew (Bel.refl _)))).tr H7.o.2.2.1).tr (Fr.bel (Bel.start w7 _)));have Xk:Hid (∀q,w.heap.size≤q→q<w6.heap.size→(w7.alloc (.cells #[.int .i64 N,.int .i64 M,.slice rG xy rH] 62)).heap[q]?=w6.heap[q]?):=xh (λq h1 h2=>((Bel.start w7 _).block q (Nat.lt_of_lt_of_le h2 H7.o.2.2.1.size)).trans (H7.o.2.2.2 q h1 h2));have HN1:Hid (∃n1,DoC J wb tk rb B w.heap.size n1 oa ⟨ck,ca,cb,s,ls,lp,lc,dd,dp,dc⟩ X∧n1≤(w7.alloc (.cells #[.int .i64 N,.int .i64 M,.slice rG xy rH] 62)).heap.size∧w6.heap.size≤n1):=xh (⟨_,H7.o.1,aV H7.o.2.2.1.size (Bel.start w7 _).size,bH _⟩);clear HS9 HS8;try clear z0 z1 z2 zf zl VX
 generalize (w7.alloc (.cells #[.int .i64 N,.int .i64 M,.slice rG xy rH] 62))=w8 at *
 obtain⟨bz,hbz⟩:=e_x w7.heap.size;have HBZ:Hid (w6.heap.size≤bz):=xh (by rw[←hbz];exact H7.o.2.2.1.size);rw[hbz]at HZ8⊢;clear hbz
 rotate_left
 have HZ8:Hid (Blk (((w7.setCell (w6.heap.size,0) (.int .i64 N)).setCell (w6.heap.size,1) (.int .i64 M)).setCell (w6.heap.size,2) (.slice rG xy rH)) w6.heap.size [.int .i64 N,.int .i64 M,.slice rG xy rH] 62):=xh (((VX.o.setCell (o:=0) _).setCell (o:=1) _).setCell (o:=2) _);have OP:Hid (X N M f (.slice rG xy rH) ev (((w7.setCell (w6.heap.size,0) (.int .i64 N)).setCell (w6.heap.size,1) (.int .i64 M)).setCell (w6.heap.size,2) (.slice rG xy rH))):=xh (H7.o.1.keep H7.o.2.1 (((Keep.setCell w7 w6.heap.size 0 (.int .i64 N)).tr ((Keep.setCell _ w6.heap.size 1 (.int .i64 M)).tr (Keep.setCell _ w6.heap.size 2 (.slice rG xy rH)))).mono λq h=>(by have h:q=w6.heap.size:=h;have:=Xj.o;subst h;exact⟨this,by simp⟩)));have HF8:Hid (Fr B w (((w7.setCell (w6.heap.size,0) (.int .i64 N)).setCell (w6.heap.size,1) (.int .i64 M)).setCell (w6.heap.size,2) (.slice rG xy rH))):=xh (((Fr.bel (pz.o.tr (gQ _ _))).tr H7.o.2.2.1).aY ((Keep.setCell w7 w6.heap.size 0 (.int .i64 N)).tr ((Keep.setCell _ w6.heap.size 1 (.int .i64 M)).tr (Keep.setCell _ w6.heap.size 2 (.slice rG xy rH)))) λq h=>.inr (by have h:q=w6.heap.size:=h;have:=Xj.o;omega));have Xk:Hid (∀q,w.heap.size≤q→q<w6.heap.size→(((w7.setCell (w6.heap.size,0) (.int .i64 N)).setCell (w6.heap.size,1) (.int .i64 M)).setCell (w6.heap.size,2) (.slice rG xy rH)).heap[q]?=w6.heap[q]?):=xh (λq h1 h2=>(((Keep.setCell w7 w6.heap.size 0 (.int .i64 N)).tr ((Keep.setCell _ w6.heap.size 1 (.int .i64 M)).tr (Keep.setCell _ w6.heap.size 2 (.slice rG xy rH)))).block q (Nat.lt_of_lt_of_le (Nat.lt_of_lt_of_le h2 (by simp)) H7.o.2.2.1.size) (λh=>by have h:q=w6.heap.size:=h;omega)).trans ((H7.o.2.2.2 q h1 (Nat.lt_of_lt_of_le h2 (by simp))).trans ((gQ w6 _).block q h2)));have HN1:Hid (∃n1,DoC J wb tk rb B w.heap.size n1 oa ⟨ck,ca,cb,s,ls,lp,lc,dd,dp,dc⟩ X∧n1≤(((w7.setCell (w6.heap.size,0) (.int .i64 N)).setCell (w6.heap.size,1) (.int .i64 M)).setCell (w6.heap.size,2) (.slice rG xy rH)).heap.size∧w6.heap.size≤n1):=xh (⟨_,H7.o.1,aV H7.o.2.2.1.size ((Keep.setCell w7 w6.heap.size 0 (.int .i64 N)).tr ((Keep.setCell _ w6.heap.size 1 (.int .i64 M)).tr (Keep.setCell _ w6.heap.size 2 (.slice rG xy rH)))).size,by simp⟩);clear HS9 HS8;try clear z0 z1 z2 zf zl VX
 generalize (((w7.setCell (w6.heap.size,0) (.int .i64 N)).setCell (w6.heap.size,1) (.int .i64 M)).setCell (w6.heap.size,2) (.slice rG xy rH))=w8 at *
 obtain⟨bz,hbz⟩:=e_x w6.heap.size;have HBZ:Hid (w6.heap.size≤bz):=xh (Nat.le_of_eq hbz);rw[hbz]at HZ8⊢;clear hbz
 all_goals
  obtain⟨n1,hDC,hn1,hn6⟩:=HN1.o;have VY:=xh hDC;have HT:=xh (hDC.tell OP.o);have HXB:=xh (Ck Xi.o (Xk.o bx Ik.o.2.2.1 Ik.o.2.2.2));have Td:=xh (Ck yx.o (Xk.o bc Ik.o.1 Ik.o.2.1));have T9:=xh (Ck HG6.o (Xk.o g HGW.o HG6.o.lt));have HN6:=xh (And.intro hn1 hn6);have hB8:B≤w8.heap.size:=aV HB.o HF8.o.size;have HB8:=xh hB8;clear hDC HN1 hn1 hn6 hB8 v0 b0 b1 b2 b3 b4 b5 x1
  go_upto_region 9 with(first
   | (go_at_call 14;((with_reducible refine au HT.o ?_);rintro e8 w9 ⟨rfl,k9⟩;have K9:=xh k9;clear k9))
   | (go_at_call 61;((with_reducible refine au (PN _ _) ?_);rintro e9 sI ⟨rfl,rfl⟩)))
  have Xl:Below B w w9:=(HF8.o.below HB.o).trans (K9.o.mono HB8.o);have HST:=xh (qB g dp dc dd w9 (T9.o.bel K9.o) (ji.o w9 Xl).cd hdl);have x8:=(HXB.o.bel K9.o).c 8 rfl;have acf:=xh Xl;clear Xl;go_upto_region 10 with(go_at_call 59;((with_reducible refine au HST.o ?_);rintro e10 sI ⟨rfl,k10⟩;have PZ:=xh k10;clear k10))
  clear x8;have aae:Hid (g<w6.heap.size):=xh HG6.o.lt;have acg:Hid (X N M f (.slice rG xy rH) ev sI):=xh (VY.o.keep OP.o ((Keep.of_bel _ K9.o).tr (PZ.o.mono λx hx=>by
   have hx:x=g:=hx;subst hx;exact⟨HGW.o,Nat.lt_of_lt_of_le aae.o HN6.o.2⟩)))
  have hxg:bx≠g:=by
   intro e;subst e;exact HXB.o.ne T9.o (by decide) rfl
  have hcg:bc≠g:=by
   intro e;subst e;exact Td.o.ne T9.o (by decide) rfl
  have hzg:bz≠g:=by have:=HBZ.o;have:=aae.o;omega
  have VZ:=xh ((HXB.o.bel K9.o).keep PZ.o λe=>hxg e);have aaf:=xh ((Td.o.bel K9.o).keep PZ.o λe=>hcg e);have ach:=xh ((HZ8.o.bel K9.o).keep PZ.o λe=>hzg e);have Ku:Hid (Below B w sI):=xh (acf.o.trans (PZ.o.below B (aV HB8.o K9.o.size) λx hx=>by have hx:x=g:=hx;have:=HGW.o;have:=HB.o;omega));have aci:Hid (Fr B w sI):=xh (((HF8.o.tr (Fr.bel K9.o))).aY PZ.o λx hx=>.inr (by have hx:x=g:=hx;have:=HGW.o;omega));have Ua:Hid (∀x,q=some ⟨x,0,none⟩→w.heap.size≤x∧x<w6.heap.size∧∃cs,Blk w6 x cs 9∧∀k,k<ls.length→cs[k]?=(ls.map Value.string)[k]?):=xh λx hx=>by
   subst hx;obtain⟨p',c',e,_,_,hp⟩:=aD GG.o;cases e
   rcases hp with⟨_,hp,_⟩|⟨g',hp,_,hl,hc,_⟩
   ·cases hp
   ·cases hp
    obtain⟨_,cs,hb⟩:=row_blk GG.o (g:=x) rfl;refine⟨HQB.o x 0 rfl,hl,cs,hb,λk hk=>?_⟩;rw[←hb.cell];exact hc k (by simpa using hk)
  have HQS:Hid (0<ls.length→∃qb,q=some ⟨qb,0,none⟩):=xh λh0=>by
   obtain⟨p',c',e,_,_,hp⟩:=aD GG.o;cases e
   rcases hp with⟨h,_⟩|⟨g',hp,_⟩
   ·omega
   ·exact⟨g',hp⟩
  have HM0:Hid (Em q ls sI 0 sI):=xh ⟨λx hx=>by
   obtain⟨h1,h2,cs,hb,hc⟩:=Ua.o x hx;refine⟨cs,((Blk.bel (Ck hb (Xk.o x h1 h2)) K9.o).keep PZ.o λe=>?_),λk _ hk=>hc k hk⟩;have e:x=g:=e;subst e;exact hb.ne HG6.o (by decide) rfl,Keep.refl _ _⟩
  have uO:Hid (∀s∈ls,s.size≤1048576):=xh (ji.o w (Below.refl _ _)).n3;have aeB:ls.length≤1000:=hll;go_upto_region 11 with fail
  go_loopw [11,12] (λok i wr=>∃j:Nat,j≤ls.length∧ok=.bool true∧i=.int .i64 j∧Hid (Em q ls sI j wr)) (λ_ i _=>ls.length-(intOf i).toNat)
  case atStart=>exact⟨0,Nat.zero_le _,rfl,rfl,HM0⟩
  case round=>
   obtain⟨j,hj,rfl,rfl,HM⟩:=hrel;by_cases hlt:j<ls.length
   ·obtain⟨qb,rfl⟩:=HQS.o (by omega)
    obtain⟨cs,hcs,hcc⟩:=HM.out.1 qb rfl;obtain⟨sj,hsj⟩:∃sj,ls[j]?=some sj:=⟨_,bP hlt⟩;have hbw:Below B w wr:=Ku.o.trans (HM.out.2.below B (aV HB.o Ku.o.size) λx hx=>by
     have:=(Ua.o x hx).1;have:=HB.o;omega)
    obtain⟨g2,o2,rfl,hc2⟩:=(ji.o wr hbw).l _ _ hsj;have cw:wr.cell? ⟨qb,j,none⟩=some (.string sj):=by rw[hcs.cell,hcc j (bH _) hlt,dA,hsj];rfl
    have fw:=hcs.frozen j;have lw:=hcs.lt;have x7:wr.cell? (bx,7)=some (.slice (some ⟨g2,o2,none⟩) ls.length lc):=(VZ.o.keep HM.out.2 λe=>by
     cases e
     obtain⟨_,_,cs',hb',_⟩:=Ua.o bx rfl;exact Xi.o.ne hb' (by decide) rfl).cell 7
    have hss:(sj.toList==sj.toList)=true:=beq_self_eq_true _;have hj0:(0:Int)≤j:=by omega
    have hj1:(j:Int)<ls.length:=by omega
    have Zc:=xh (And.intro hcs hcc);clear hcs hcc hsj hbw;go_upto_region 13 with fail
    go_quiet (fail)
    have hbq:Bel wr (wr.drewN nq):=ah (Bel.refl _) nq;have yz:=xh hbq;have cw:=aa hbq cw;have fw:=((Zc.o.1).bel hbq).frozen j;have lw:=((Zc.o.1).bel hbq).lt;generalize wr.drewN nq=wq at *
    clear hbq x7 hc2;go_wp2_with fail
    go_roundw
    case rel=>exact⟨j+1,by omega,rfl,by go_num,xh (HM.out.next yz.o _)⟩
    case measure=>simp[intOf]<;>omega
   ·obtain rfl:j=ls.length:=by omega
    have hbw:Below B w wr:=Ku.o.trans (HM.out.2.below B (aV HB.o Ku.o.size) λx hx=>by
     have:=(Ua.o x hx).1;have:=HB.o;omega)
    have HXr:Hid (X N M f (.slice rG xy rH) ev wr):=xh (VY.o.keep acg.o (HM.out.2.mono λx hx=>⟨(Ua.o x hx).1,Nat.lt_of_lt_of_le (Ua.o x hx).2.1 HN6.o.2⟩));have hne:∀(x:Nat) (cs:List Value) (t:TypeId),Blk w6 x cs t→t≠9→¬q=some ⟨x,0,none⟩:=λx cs t hb ht e=>by
     obtain⟨_,_,cs',hb',_⟩:=Ua.o x e;exact hb.ne hb' ht rfl
    have Il:=xh (VZ.o.keep HM.out.2 (hne bx _ _ Xi.o (by decide)));have acj:=xh (aaf.o.keep HM.out.2 (hne bc _ _ yx.o (by decide)));have HZr:=xh (ach.o.keep HM.out.2 λe=>by have:=(Ua.o bz e).2.1;have:=HBZ.o;omega);have HFr:Hid (Fr B w wr):=xh (aci.o.aY HM.out.2 λx hx=>.inr (Ua.o x hx).1);have iV:Hid (Calls prog 109 #[.agg #[.int .i64 ck,.int .i64 ca,.int .i64 cb,.string s,.slice lp ls.length lc,.slice dp dd.length dc]] wr λe w'=>∃GI DF,e=.returned (.agg #[.int .i64 ck,.int .i64 ca,.int .i64 cb,.string s,.slice lp ls.length lc,.slice GI dd.length DF])∧(kY w' GI dd∧dd.length≤DF)∧Bel wr w'):=xh (PO ⟨ck,ca,cb,s,ls,lp,lc,dd,dp,dc⟩ wr (ji.o wr hbw).cd (by show dd.length≤1048576;omega));have oK:=xh hbw;have x3:=Il.o.c 3 rfl;have x4:=Il.o.c 4 rfl;have x5:=Il.o.c 5 rfl;have x6:=Il.o.c 6 rfl;have x7:=Il.o.c 7 rfl;have x8:=Il.o.c 8 rfl;clear hbw hne;go_upto_region 16 with(go_at_call 109;((with_reducible refine au iV.o ?_);rintro e11 DI ⟨GI,DF,rfl,hby,k11⟩;have H11:=xh (And.intro hby k11);clear hby k11))
    have k12:Bel DI (DI.alloc (.cells #[.int .i64 ck,.int .i64 ca,.int .i64 cb,.string s,.slice lp ls.length lc,.slice GI dd.length DF] 264)):=Bel.start _ _;have B12:Blk (DI.alloc (.cells #[.int .i64 ck,.int .i64 ca,.int .i64 cb,.string s,.slice lp ls.length lc,.slice GI dd.length DF] 264)) DI.heap.size [.int .i64 ck,.int .i64 ca,.int .i64 cb,.string s,.slice lp ls.length lc,.slice GI dd.length DF] 264:=Blk.new DI _ _;generalize DI.alloc (.cells #[.int .i64 ck,.int .i64 ca,.int .i64 cb,.string s,.slice lp ls.length lc,.slice GI dd.length DF] 264)=En at *
    obtain⟨bq,hbq⟩:=e_x DI.heap.size;rw[hbq]at B12⊢;have ack:=xh B12;have rF:=xh (H11.o.2.tr k12);have xK:=xh (H11.o.1.1.bel k12);have Xc:=xh H11.o.1.2;have c0:=(acj.o.bel rF.o).c 0 rfl;have aej:(ck==20)=false:=bK aad;clear x3 x4 x5 x6 x7 x8 k12 B12 hbq;go_upto_region 19 with fail
    clear c0;have kd:Bel En En.drew:=Bel.drew (Bel.refl _);have aag:Hid (X N M f (.slice rG xy rH) ev En.drew):=xh (VY.o.keep HXr.o (Keep.of_bel _ (rF.o.tr kd)));obtain⟨aeC,aeD,aah⟩:=VY.o.wb1 aag.o;have P5:Below B w En.drew:=oK.o.trans ((rF.o.tr kd).mono (aV HB.o oK.o.size));have aai:n1≤En.drew.heap.size:=by
     have h1:=HN6.o.1;have h2:=K9.o.size;have h3:=PZ.o.size;have h4:=HM.out.2.size;have h5:=(rF.o.tr kd).size;omega
    have xz:Hid (Calls prog 111 #[rb,.int .i64 oa,.agg #[.int .i64 ck,.int .i64 ca,.int .i64 cb,.string s,.slice lp ls.length lc,.slice GI dd.length DF]] En.drew (aac J wb tk rb B N M f (.slice rG xy rH) En.drew)):=xh (VY.o.doc (lp:=lp) (dp:=GI) (lc:=lc) (dc:=DF) aag.o aai (ji.o En.drew P5).l (xK.o.bel kd) Xc.o);have aaj:=xh (Il.o.bel (rF.o.tr kd));have yA:=xh (ack.o.bel kd);have aak:=xh (HZr.o.bel (rF.o.tr kd));have acm:Hid (En.drew.cell? (wb,1)=some (.pointer (rb,0))∧En.drew.cell? (bx,1)=some (.int .i64 oa)∧En.drew.cell? (bq,0)=some (.int .i64 ck)∧En.drew.cell? (bq,1)=some (.int .i64 ca)∧En.drew.cell? (bq,2)=some (.int .i64 cb)∧En.drew.cell? (bq,3)=some (.string s)∧En.drew.cell? (bq,4)=some (.slice lp ls.length lc)∧En.drew.cell? (bq,5)=some (.slice GI dd.length DF)):=xh ⟨aah.cell 1,aaj.o.cell 1,yA.o.cell 0,yA.o.cell 1,yA.o.cell 2,yA.o.cell 3,yA.o.cell 4,yA.o.cell 5⟩;clear kd aah P5 aai;go_region_held3 (λw'=>w'.cell? ⟨wb,1,none⟩=some (.pointer (rb,0))∧w'.cell? ⟨bx,1,none⟩=some (.int .i64 oa)∧w'.cell? ⟨bq,0,none⟩=some (.int .i64 ck)∧w'.cell? ⟨bq,1,none⟩=some (.int .i64 ca)∧w'.cell? ⟨bq,2,none⟩=some (.int .i64 cb)∧w'.cell? ⟨bq,3,none⟩=some (.string s)∧w'.cell? ⟨bq,4,none⟩=some (.slice lp ls.length lc)∧w'.cell? ⟨bq,5,none⟩=some (.slice GI dd.length DF)) (first|exact acm.o|exact acn.o|(go_keep;done)) (((go_at_call 111;((with_reducible refine au xz.o ?_);rintro e13 OT ⟨p13,q13,aco,Xm,Ub,rfl,hdv,hb1,hb2,V5,hf2,hf0,⟨aeE,acp,Xn⟩,k13,aal⟩;have HDV:=xh hdv;have aam:=xh (aaj.o.fr k13 (by unfold Kv;decide));have Mk:=xh (yA.o.fr k13 (by unfold Kv;decide));have Xo:=xh (aak.o.fr k13 (by unfold Kv;decide));have acr:=xh Xn;have acn:Hid (OT.cell? ⟨wb,1,none⟩=some (.pointer (rb,0))∧OT.cell? ⟨bx,1,none⟩=some (.int .i64 oa)∧OT.cell? ⟨bq,0,none⟩=some (.int .i64 ck)∧OT.cell? ⟨bq,1,none⟩=some (.int .i64 ca)∧OT.cell? ⟨bq,2,none⟩=some (.int .i64 cb)∧OT.cell? ⟨bq,3,none⟩=some (.string s)∧OT.cell? ⟨bq,4,none⟩=some (.slice lp ls.length lc)∧OT.cell? ⟨bq,5,none⟩=some (.slice GI dd.length DF)):=xh ⟨Xn.cell 1,aam.o.cell 1,Mk.o.cell 0,Mk.o.cell 1,Mk.o.cell 2,Mk.o.cell 3,Mk.o.cell 4,Mk.o.cell 5⟩;have Xp:=xh (And.intro hb1 (And.intro hb2 (And.intro V5 (And.intro hf2 (And.intro hf0 (And.intro k13 aal))))));clear hdv hb1 hb2 V5 hf2 hf0 Xn k13 aal))))
    obtain⟨hd1,hd2,hd3⟩:rG=p13∧xy=Ub.length∧rH=aco:=by have h:=HDV.o;cases h;exact⟨rfl,rfl,rfl⟩
    subst hd1;subst hd2;subst hd3;have aeF:(f== -2)=false:=bK Xp.o.2.2.2.1;have z2:=Xo.o.c 2 rfl;have qV:=xh (fB rG q13 rH Xm Ub OT Xp.o.1 Xp.o.2.1 Xp.o.2.2.1);go_upto_region 24 with(go_at_call 68;((with_reducible refine au qV.o ?_);rintro e14 w14 ⟨rfl,nd,rfl⟩))
    have P6:Bel OT (OT.drewN nd):=ah (Bel.refl _) nd;have Xq:=xh P6;have z2':=aa P6 z2;generalize OT.drewN nd=w14 at *
    have Ml:=acr.o.bel P6;have c2:=Ml.c 2 rfl;have f2:=Ml.frozen 2;have l2:=Ml.lt;have hwz:wb≠bz:=Ml.ne (Xo.o.bel P6) (by decide);have Te:bz≠wb:=λe=>hwz e.symm;have aan:=xh Ml;clear z2 P6 Ml;go_upto_region 25 with fail
    have Uc:Blk (w14.setCell (wb,2) (.slice rG Ub.length rH)) wb [tk,rb,(.slice rG Ub.length rH),acp,false] 96:=aan.o.setCell (o:=2) _;have K15:=Keep.setCell w14 wb 2 (.slice rG Ub.length rH);have HJ:=xh (Xp.o.2.2.2.2.2.2 w14 Xq.o);have acs:=xh ((Xo.o.bel Xq.o).keep K15 λe=>Te e);generalize w14.setCell (wb,2) (.slice rG Ub.length rH)=w15 at *
    have c3:=Uc.c 3 rfl;have f3:=Uc.frozen 3;have l3:=Uc.lt;have acu:=xh K15;clear c2 f2 l2 z2' Uc K15;go_upto_region 26 with fail
    have K16:=Keep.setCell w15 wb 3 (.slice q13 Ub.length Xm);have Xr:=xh (acs.o.keep K16 λe=>Te e);have acv:=xh (acu.o.tr K16);generalize w15.setCell (wb,3) (.slice q13 Ub.length Xm)=w16 at *
    have y0:=Xr.o.c 0 rfl;have y1:=Xr.o.c 1 rfl;have y2:=Xr.o.c 2 rfl;have Ud:Hid (J w16∧Fr B w w16):=xh ⟨HJ.o,(((HFr.o.tr (Fr.bel (rF.o.tr (Bel.drew (Bel.refl _))))).tr Xp.o.2.2.2.2.2.1).tr (Fr.bel Xq.o)).tr (Fr.xL acv.o λx hx=>by
     have hx:x=wb:=hx;subst hx;exact⟨Zf.o,_,_,aan.o,by unfold Kv;decide⟩)⟩
    clear c3 f3 l3 K16;by_cases hfz:f=0
    ·have hfb:(f==0)=true:=by simpa using hfz
     clear hfz;go_wp2_with fail
     go_ret
     exact⟨rfl,Ud.o⟩
    ·have hfb:(f==0)=false:=bK hfz
     have hnil:=Xp.o.2.2.2.2.1 hfz;have hL:Ub=[]:=by
      have h:=hnil
      injection h with _ h2 _
      exact List.eq_nil_of_length_eq_zero h2
     subst hL;obtain⟨hp1,hp2⟩:rG=none∧rH=0:=by injection hnil with h1 h2 h3;exact⟨h1,h3⟩
     subst hp1;subst hp2;have y2:w16.cell? (bz,2)=some (.slice none 0 0):=y2;clear hfz hnil;have hen:∀W,(binOp BinOp.eql 59 (.slice none 0 0) (.slice none 0 0)).run prog W=.ok (.bool true) W:=λW=>by kernel_rfl
     go_wp2_with fail
     go_ret
     exact⟨rfl,Ud.o⟩
end
end Go.Proofs.YtcnjjchlebmfiaaGreatDoor
namespace Go.Proofs.YtcnjjchlebmfiaaGreatDoor
open Go.Proofs.Tryz
open Go.RowKit Go.Extern.Stop Go.Stop Go.Extern
namespace Rl
theorem VH(v:Value)(w:World):(ReflectliteType.typeOf #[.iface 226 v]).run prog w=.ok (.iface 205 (.agg #[.pointer (6,226)])) w:=by kernel_rfl
theorem Gz(w:World):(ReflectliteType.relation "AssignableTo" ReflectliteType.assignableTo #[.agg #[.pointer (6,226)],.iface 205 (.agg #[.pointer (6,48)])]).run prog w=.ok (.bool false) w:=by kernel_rfl
theorem aeg(v:Value)(xT:TypeId)(w:World):(Instr.typeAssert (.iface 226 v) xT 210 true).run prog w=.ok (.tuple #[.nilIface,false]) w:=run_typeAssert_lacksB underlying210 (by kernel_rfl) (by kernel_rfl) v xT w
theorem OI(v:Value)(xT:TypeId)(w:World):(Instr.typeAssert (.iface 226 v) xT 213 true).run prog w=.ok (.tuple #[.iface 226 v,true]) w:=run_typeAssert_hasB underlying213 (by kernel_rfl) v xT w
theorem Dw(v:Value)(w:World):(Go.method 667 226 v "Unwrap").run prog w=.ok (415,v) w:=by kernel_rfl
end Rl
theorem Ke(c:Nat)(n:Int)(w:World)(h1:w.cell? (c,1)=some (.int .i64 n)) :
 Calls prog 415 #[c] w (Z.e (.iface 48 (.int .i64 n)) w):=by
 go_enter func415,ntmps415;go_wp2
 go_ret
 exact⟨rfl,rfl⟩
theorem VI(c:Nat)(n:Int)(t a:Addr)(old:Value)(w:World)(h1:w.cell? (c,1)=some (.int .i64 n))(ha:w.cell? a=some (.pointer (some t)))(ht0:w.cell? t=some old)(hf0:w.frozen? t=false) :
 Calls prog 48 #[.iface 226 (.pointer (c,0)),.iface 85 (.pointer (some t)),.agg #[.pointer (6,85),.pointer (some a),.int .u64 150],.iface 205 (.agg #[.pointer (6,48)])] w
  λev w'=>ev=.returned (.bool true)∧∃W1,Below w.heap.size w W1∧w'=W1.setCell t (.int .i64 n):=by
 have h76:=@run_callFunc_extern prog 45 _ (λargs=>ReflectliteValue.unpack (args.getD 0 (.tuple #[]))) func45 (by kernel_rfl) (by kernel_rfl) (by kernel_rfl) (by kernel_rfl);have aed:=@run_callFunc_extern prog 85 _ ReflectliteType.typeOf func85 (by kernel_rfl) (by kernel_rfl) (by kernel_rfl) (by kernel_rfl);have aee:=@run_callFunc_extern prog 403 _ (ReflectliteType.relation "AssignableTo" ReflectliteType.assignableTo) func403 (by kernel_rfl) (by kernel_rfl) (by kernel_rfl) (by kernel_rfl);have aef:=@run_callFunc_extern prog 86 _ (ReflectliteValue.method (ReflectliteValue.valueError "reflectlite.Value.Elem" 0) ReflectliteValue.elem) func86 (by kernel_rfl) (by kernel_rfl) (by kernel_rfl) (by kernel_rfl);have h116:=@run_callFunc_extern prog 87 _ ReflectliteValue.set func87 (by kernel_rfl) (by kernel_rfl) (by kernel_rfl) (by kernel_rfl);have tO:=Rl.LJ;have tC:=Rl.VH;have mA:=Rl.lN;have aE:=Rl.xe;have aC:=Rl.Gz;have nA:=Rl.aeg;have hU:=Rl.OI;have mU:=Rl.Dw;have vE:=Rl.Gy;have htl:t.block<w.heap.size:=World.block_lt_of_cell? _ _ ht0;have hal:a.block<w.heap.size:=World.block_lt_of_cell? _ _ ha;have hcl:c<w.heap.size:=by have:=World.block_lt_of_cell? _ _ h1;simpa using this
 have el:=Rl.SL a t (w.alloc (.cells #[.pointer (6,85),.pointer (some a),.int .u64 150] 133)) (by rw[World.cell?_alloc_lt _ _ a hal];exact ha)
 have st:=Rl.abN t ⟨w.heap.size+1,0,none⟩ n old ((w.alloc (.cells #[.pointer (6,85),.pointer (some a),.int .u64 150] 133)).alloc (.cells #[n] 48))
  (by rw[World.cell?_alloc_at _ _ _ _ (by simp)];rfl)
  (by rw[World.cell?_alloc_lt _ _ t (by simp;omega),World.cell?_alloc_lt _ _ t htl];exact ht0)
  (by rw[World.frozen?_alloc_old _ _ t (by simp;omega),World.frozen?_alloc_old _ _ t (Nat.ne_of_lt htl)];exact hf0)
 have un:=Ke c n (w.alloc (.cells #[.pointer (6,85),.pointer (some a),.int .u64 150] 133)) (by rw[World.cell?_alloc_lt _ _ ⟨c,1,none⟩ hcl];exact h1);have UN:=xh un;clear un;go_enter func48,ntmps48;go_wp2
 refine wp_loop_rounds 2 ?_;rw[rounds_succ];go_wp2_with (go_at_call 415;refine UN.o.mono ?_;rintro e w' ⟨rfl,rfl⟩)
 rw[rounds_succ];go_wp2
 go_ret
 exact⟨rfl,_,((Below.refl _ _).alloc (bH _) _).alloc (by simp) _,rfl⟩
theorem JR(c:Nat)(n:Int)(w:World)(h1:w.cell? (c,1)=some (.int .i64 n)):LK (.iface 226 (.pointer (c,0))) n w:=λw' t a old hb ha ht hf=>
 VI c n t a old w' ((hb.cell (p:=⟨c,1,none⟩) (by have:=World.block_lt_of_cell? _ _ h1;simpa using this)).trans h1) ha ht hf
end Go.Proofs.YtcnjjchlebmfiaaGreatDoor
namespace Go.Proofs.YtcnjjchlebmfiaaGreatDoor
section
open Go.Proofs.Tryz Go.RowKit Go.MapKept Go.Maps
def abp(D:PD)(Q:QD)(p:Option Addr)(L:List Int):Prop:=∀g o,p=some ⟨g,o,none⟩→0<L.length→(ag D.tv=some g→∀i,i<L.length→dV D.tv (o+i))∧ag D.uv≠some g∧ag Q.kv.tv≠some g∧ag Q.kv.uv≠some g
def abq(D:PD)(Q:QD)(p:Option Addr)(L:List Int):Prop:=∀g o,p=some ⟨g,o,none⟩→0<L.length→ag D.tv≠some g∧ag D.uv≠some g∧ag Q.kv.tv≠some g∧ag Q.kv.uv≠some g
structure Dr(E:PE)(w:World)(D:PD)(Q:QD)(p q:Option Addr)(c d:Nat)(L:List Int):Prop where
 blk:Blk w E.wb [E.tk,E.rb,.slice p L.length c,.slice q L.length d,false] 96
 bp:kY w p L
 bq:kY w q L
 few:L.length≤1000000
 sp:abp D Q p L
 sq:abq D Q q L
structure PI(E:PE)(n:Nat)(w:World):Prop where
 kp:eH E w
 st:∃s D Q,s.Wf∧PP E w s D∧DD E w s Q∧(∃p q c d L,Dr E w D Q p q c d L)∧(∀x,bJ E s D x→¬dX E s Q x)∧s.typed.length+s.out.length≤n∧s.last≤200+3*n
theorem Dr.keep{S:Nat→Prop}{E:PE}{w w':World}{D:PD}{Q:QD}{p q:Option Addr}{c d:Nat}{L:List Int}(h:Dr E w D Q p q c d L)(k:Keep S w w')(h1:¬S E.wb)(h2:∀g o,p=some ⟨g,o,none⟩→0<L.length→¬S g)(h3:∀g o,q=some ⟨g,o,none⟩→0<L.length→¬S g):Dr E w' D Q p q c d L:=
 ⟨h.blk.keep k h1,h.bp.iZ k h2,h.bq.iZ k h3,h.few,h.sp,h.sq⟩
theorem Dr.bel{E:PE}{w w':World}{D:PD}{Q:QD}{p q:Option Addr}{c d:Nat}{L:List Int}(h:Dr E w D Q p q c d L)(k:Bel w w'):Dr E w' D Q p q c d L:=h.keep (Keep.of_bel (λ_=>False) k) (λh=>h) (λ_ _ _ _ h=>h) λ_ _ _ _ h=>h
theorem PI.bel{E:PE}{n:Nat}{w w':World}(h:PI E n w)(k:Bel w w'):PI E n w':=by
 obtain⟨s,D,Q,h1,h2,h3,⟨p,q,c,d,L,h4⟩,h5⟩:=h.st;exact⟨h.kp.tr (Keep.of_bel _ k),s,D,Q,h1,h2.bel k,h3.bel k,⟨p,q,c,d,L,h4.bel k⟩,h5⟩
theorem PI.up{E:PE}{n m:Nat}{w:World}(h:PI E n w)(hm:n≤m):PI E m w:=by
 obtain⟨s,D,Q,h1,h2,h3,h4,h5,h6,h7⟩:=h.st;exact⟨h.kp,s,D,Q,h1,h2,h3,h4,h5,by omega,by omega⟩
theorem Vj{t:TypeId}(h:WJ t):¬Kv t:=by
 unfold WJ at h;unfold Kv;rcases h with rfl|rfl|rfl|rfl|rfl|rfl|rfl|rfl<;>decide
theorem Vk{t:TypeId}(h:TyD t):¬Kv t:=by
 unfold TyD at h;unfold Kv;rcases h with rfl|rfl|rfl|rfl|rfl<;>decide
section
variable {E:PE} {s:St} {D:PD} {Q:QD} {w w':World}
theorem Vl(hx:ek E)(hp:PP E w s D)(k:Keep (bJ E s D) w w'):Fr E.B w w':=Fr.xL k λq hq=>by
 obtain⟨cs,t,hb,ht⟩:=hp.typ hq;exact⟨hx.abn (hp.lo q hq),cs,t,hb,Vj ht⟩
theorem YP(hx:ek E)(hd:DD E w s Q)(k:Keep (dX E s Q) w w'):Fr E.B w w':=Fr.xL k λq hq=>by
 obtain⟨cs,t,hb,ht⟩:=hd.typ hq;exact⟨hx.abn (hd.lo q hq),cs,t,hb,Vk ht⟩
theorem Sc(hw:∃cs,Blk w E.wb cs 96)(hp:PP E w s D):¬bJ E s D E.wb:=λhq=>by
 obtain⟨cs,hb⟩:=hw;obtain⟨_,t,hb2,ht⟩:=hp.typ hq;refine hb2.ne hb ?_ rfl;unfold WJ at ht;rcases ht with rfl|rfl|rfl|rfl|rfl|rfl|rfl|rfl<;>decide
theorem Vm(hw:∃cs,Blk w E.wb cs 96)(hd:DD E w s Q):¬dX E s Q E.wb:=λhq=>by
 obtain⟨cs,hb⟩:=hw;obtain⟨_,t,hb2,ht⟩:=hd.typ hq;refine hb2.ne hb ?_ rfl;unfold TyD at ht;rcases ht with rfl|rfl|rfl|rfl|rfl<;>decide
theorem DD.xU(hp:PP E w s D):∀q cs,Blk w q cs 252→¬bJ E s D q:=λq cs hb hq=>by
 obtain⟨_,t,hb2,ht⟩:=hp.typ hq;refine hb2.ne hb ?_ rfl;unfold WJ at ht;rcases ht with rfl|rfl|rfl|rfl|rfl|rfl|rfl|rfl<;>decide
end
def abr(ev:Value)(f:Int)(n1:Nat)(W:World):Prop:=
 (f=0∧ev=.nilIface)∨ev=.iface 48 (.int .i64 f)∨∃c,ev=.iface 226 (.pointer (c,0))∧Blk W c [(1:Int),f] 228∧n1≤c
structure XR(E:PE)(s:St)(D:PD)(s':St)(w0:World)(n1:Nat)(N M f:Int)(L:List Int)(N' M' f':Int)(dv ev:Value)(W:World):Prop where
 eN:N'=N
 eM:M'=M
 ef:f'=f
 tell:abr ev f n1 W
 ans:∃p c D',dv=.slice p L.length c∧(L=[]→p=none∧c=0∨f=0)∧kY W p L∧PP E W s' D'∧(∀q,bJ E s' D' q→bJ E s D q∨n1≤q)∧∀g o,p=some ⟨g,o,none⟩→0<L.length→bJ E s D g∧(ag D'.tv=some g→∀i,i<L.length→dV D'.tv (o+i))∧ag D'.uv≠some g
 kept:Keep (λq=>bJ E s D q∨w0.heap.size≤q) w0 W
 size:n1≤W.heap.size
section
variable {E:PE} {s s':St} {D:PD} {Q:QD} {w0:World} {n1:Nat} {N M f:Int} {L:List Int} {N' M' f':Int} {dv ev:Value} {W W':World}
theorem XR.keep(h:XR E s D s' w0 n1 N M f L N' M' f' dv ev W)(hp:PP E w0 s D)(k:Keep (λq=>w0.heap.size≤q∧q<n1) W W'):XR E s D s' w0 n1 N M f L N' M' f' dv ev W':=by
 obtain⟨p,c,D',h1,h2,h3,h4,h5,h6⟩:=h.ans;refine⟨h.eN,h.eM,h.ef,?_,⟨p,c,D',h1,h2,h3.iZ k (λg o e h0 hq=>?_),h4.keep k (λq hq hr=>?_),h5,h6⟩,h.kept.tr (k.mono λq hq=>.inr hq.1),aV h.size k.size⟩
 ·rcases h.tell with h7|h7|⟨c,h7,h8,h9⟩
  ·exact .inl h7
  ·exact .inr (.inl h7)
  ·exact .inr (.inr ⟨c,h7,h8.keep k (λhq=>by have:=hq.2;omega),h9⟩)
 ·have:=hp.lt (h6 g o e h0).1
  have:=hq.1;omega
 ·rcases h5 q hq with h7|h7
  ·have:=hp.lt h7
   have:=hr.1;omega
  ·have:=hr.2
   omega
end
theorem YQ(E:PE)(hx:ek E)(n:Nat)(A:Int)(c:iH)(hA : -9223372036854775808≤A∧A≤9223372036854775807)(hkd:A=1→c.kind<0∨62≤c.kind∨c.kind=9∨c.kind=10∨c.kind=11∨c.kind=13∨c.kind=14)(hn:n+c.d.length+1≤200400):DoS (PI E n) (PI E (n+c.d.length+1)) E.wb E.tk E.rb E.B A c:=by
 intro w0 w lp g lc hI hw hB hg htx hlp hgb hby;obtain⟨s,D,Q,hwf,hp,hd,⟨p,q,cc,dc,L0,ng⟩,vQ,hsz,hlast⟩:=hI.st;have hk0:=hI.kp;have hk:=hk0.tr (Keep.of_bel _ hw);have hpw:=hp.bel hw;have hbuf:Buf w (.slice (g,0) c.d.length (c.d.length+2)) c.d:=⟨some ⟨g,0,none⟩,c.d.length+2,rfl,by omega,by unfold maxLen;omega,hby,.inr ⟨g,0,_,rfl,hgb,by simp,λi x hi=>by
  rw[Nat.zero_add,dA,List.getElem?_append_left (bZ hi).1,hi];rfl⟩⟩
 obtain⟨N,M,f,L,s',ho⟩:∃N M f L s',(A≠1∧N=0∧M=0∧f=18∧L=[]∧s'=s)∨(A=1∧vN E.l.c.toNat s c.kind c.a c.b c.d N M f L s'):=by
  by_cases h1:A=1
  ·obtain⟨N,M,f,L,s',h⟩:=Om E.l.c.toNat hwf c.kind c.a c.b c.d (hkd h1)
   exact⟨N,M,f,L,s',.inr ⟨h1,h⟩⟩
  ·exact⟨0,0,18,[],s,.inl ⟨h1,rfl,rfl,rfl,rfl,rfl⟩⟩
 have hs':s'.Wf∧s'.typed.length+s'.out.length≤s.typed.length+s.out.length+c.d.length∧s'.last≤s.last+3∧L.length≤4096∧f≠ -2∧(f≠0→L=[]):=by
  rcases ho with⟨_,_,_,rfl,rfl,rfl⟩|⟨_,h⟩
  ·exact⟨hwf,by omega,by omega,by simp,by simp,λ_=>rfl⟩
  ·exact h.wf hwf
 obtain⟨w1,w2,w3,w4,w5,w6⟩:=hs';have hold:∀q,bJ E s D q→q<w0.heap.size:=λq hq=>hp.lt hq;refine⟨XR E s D s' w0 w.heap.size N M f L,⟨?_,?_,?_,?_,?_⟩,?_⟩
 ·intro N' M' f' dv ev W W' h k
  exact h.keep hp k
 ·intro N' M' f' dv ev W h
  have:=ng.blk.keep h.kept λhq=>hq.elim (Sc ⟨_,ng.blk⟩ hp) λe=>by have:=ng.blk.lt;omega
  exact⟨_,_,this⟩
 ·intro N' M' f' dv ev W h
  obtain⟨p,c,D',h1,_⟩:=h.ans;exact⟨p,_,c,h1⟩
 ·intro N' M' f' dv ev W h
  have hkW:eH E W:=hk0.tr (h.kept.mono λq hq=>hq.elim (hp.lo q) λe=>.inl (aV hk0.size e));have hev:=hx.Lm hkW;rw[h.ef];rcases h.tell with⟨rfl,rfl⟩|rfl|⟨c,rfl,h8,_⟩
  ·exact y7 W
  ·exact zJ _ _ f W (wY f W) hev
  ·exact zJ _ _ f W (JR c f W (h8.cell 1)) hev
 ·intro N' M' f' dv ev W lp2 GI lc2 DF h hnW afi adF aas
  have hkW:eH E W:=hk0.tr (h.kept.mono λq hq=>hq.elim (hp.lo q) λe=>.inl (aV hk0.size e));have bF:DD E W s Q:=hd.keep h.kept (λq hq hr=>hr.elim (λe=>vQ q e hq) λe=>by have:=hd.lt hq;omega) λq cs hb hr=>hr.elim (DD.xU hp q cs hb) λe=>by have:=hb.lt;omega
  have abt:=ng.blk.keep h.kept λhq=>hq.elim (Sc ⟨_,ng.blk⟩ hp) λe=>by have:=ng.blk.lt;omega
  have adG:Calls prog 111 #[E.rb,A,.agg #[.int .i64 c.kind,.int .i64 c.a,.int .i64 c.b,.string c.s,.slice lp2 c.l.length lc2,.slice GI c.d.length DF]] W (zI E s Q s' N M f L W):=by
   rcases ho with⟨h1,rfl,rfl,rfl,rfl,rfl⟩|⟨rfl,h1⟩
   ·refine(Un E.rb E.g E.gc A c.kind c.a c.b c.s lp2 GI c.l.length lc2 c.d.length DF W λW2 hW2=>Iy E.rb E.g E.gc 1 A W2 (bF.bel hW2).c5 (by rw[(bF.bel hW2).at (by omega)];rfl) λe=>h1 e.symm).mono λe w' h=>h.ok bF
   ·exact YN hx bF hkW hwf h1 c.s lp2 GI c.l.length lc2 DF adF aas (by omega) (by omega)
  refine adG.mono ?_;rintro e w' ⟨n',m',q',l',c',f2,rfl,rfl,rfl,rfl,rfl,Q',h2,h3,h4⟩;obtain⟨pA,cA,D',rfl,hA2,hA3,hA4,hA5,hA6⟩:=h.ans;have adH:∀q,dX E s Q q→q<w0.heap.size:=λq hq=>hd.lt hq;have hPD:∀q,bJ E s' D' q→¬dX E s Q q:=λq hq hr=>by
   rcases hA5 q hq with h5|h5
   ·exact vQ q h5 hr
   ·have:=adH q hr
    have:=hw.le;omega
  have hP':PP E w' s' D':=hA4.keep h2.kept hPD;have hbp:kY w' pA L:=hA3.iZ h2.kept λg o e h0 hr=>vQ g (hA6 g o e h0).1 hr;have abu:∀x,bJ E s' D' x→¬dX E s' Q' x:=λx hx1 hx2=>by
   rcases h2.new x hx2 with h5|h5|⟨cs,t,hb,ht⟩
   ·exact hPD x hx1 h5
   ·have:=hA4.lt hx1
    omega
   ·obtain⟨_,t2,hb2,ht2⟩:=hP'.typ hx1
    refine hb.ne hb2 ?_ rfl;unfold WJ at ht2;rcases ht with rfl|rfl<;>rcases ht2 with rfl|rfl|rfl|rfl|rfl|rfl|rfl|rfl<;>decide
  have Sd:=abt.keep h2.kept (Vm ⟨_,abt⟩ bF);refine⟨pA,q',cA,c',L,by rw[h.eN,h.eM,h.ef],rfl,vR hbp,vR h3,by omega,by rw[h.ef];exact w5,λhf=>?_,⟨_,_,Sd⟩,YP hx bF h2.kept,λW' hW'=>?_⟩
  ·rw[h.ef]at hf
   have hL:=w6 hf;rcases hA2 hL with⟨rfl,rfl⟩|h5
   ·rw[hL];rfl
   ·exact absurd h5 hf
  ·
   have k1:Keep (λq=>q=E.wb) w' ((W'.setCell (E.wb,2) (.slice pA L.length cA)).setCell (E.wb,3) (.slice q' L.length c')):=(Keep.of_bel _ hW').tr ((Keep.setCell W' E.wb 2 _).tr (Keep.setCell _ E.wb 3 _));have adI:eH E w':=hkW.tr (h2.kept.mono λq hq=>bF.lo q hq);have b1:=((Sd.bel hW').setCell (o:=2) (.slice pA L.length cA)).setCell (o:=3) (.slice q' L.length c');have hu:∀q cs t,Blk w' q cs t→t≠96→¬q=E.wb:=λq cs t hb ht=>hb.ne Sd ht;refine⟨adI.tr (k1.mono λq hq=>by have hq:q=E.wb:=hq;subst hq;exact .inr (.inr (.inr (.inr (.inr (.inr (.inr rfl))))))),s',D',Q',w1,hP'.keep k1 (λq hq e=>Sc ⟨_,Sd⟩ hP' (by have e:q=E.wb:=e;exact e▸hq)),h2.dd.keep k1 (λq hq e=>Vm ⟨_,Sd⟩ h2.dd (by have e:q=E.wb:=e;exact e▸hq)) (λq cs hb=>hu q cs _ hb (by decide)),⟨pA,q',cA,c',L,b1,hbp.keep k1 (λq cs hb=>hu q cs _ hb (by decide)),h3.keep k1 (λq cs hb=>hu q cs _ hb (by decide)),by omega,?_,?_⟩,abu,by omega,by omega⟩
   ·intro g o e h0
    have h5:=hA6 g o e h0;have hno:∀v L',Buf w' v L'→(∀x,ag v=some x→dX E s' Q' x)→ag v≠some g:=λv L' hv hf hg2=>by
     rcases h2.new g (hf g hg2)with h6|h6|⟨cs,t,hb,ht⟩
     ·exact vQ g h5.1 h6
     ·have:=hold g h5.1
      have:=h.kept.size;omega
     ·obtain⟨_,hb2⟩:=hv.blk hg2
      refine hb.ne hb2 ?_ rfl;rcases ht with rfl|rfl<;>decide
    exact⟨h5.2.1,h5.2.2,hno _ _ h2.dd.tb λx hx2=>.inr (.inr (.inl hx2)),hno _ _ h2.dd.ub λx hx2=>.inr (.inr (.inr (.inl hx2)))⟩
   ·intro g o e h0
    have h5:=h4 g o e h0;refine⟨λhg2=>?_,λhg2=>?_,λhg2=>h5.2 (.inr (.inr (.inl hg2))),λhg2=>h5.2 (.inr (.inr (.inr (.inl hg2))))⟩
    ·have:=hA4.lt (q:=g) (.inr (.inr (.inr (.inr (.inl hg2)))))
     omega
    ·have:=hA4.lt (q:=g) (.inr (.inr (.inr (.inr (.inr (.inl hg2))))))
     omega
 ·
  have hres:(f=0∧ZI E s D s' N M L A c.kind c.a c.b c.s lp (some ⟨g,0,none⟩) c.l.length lc c.d.length (c.d.length+2) w)∨(f≠0∧N=0∧M=0∧L=[]∧s'=s∧FU E f A c.kind c.a c.b c.s lp (some ⟨g,0,none⟩) c.l.length lc c.d.length (c.d.length+2) w):=by
   rcases ho with⟨h1,rfl,rfl,rfl,rfl,rfl⟩|⟨rfl,h1⟩
   ·exact .inr ⟨by decide,rfl,rfl,rfl,rfl,Va hx hpw hk A c.kind c.a c.b c.s lp _ _ lc _ _ h1 hA⟩
   ·exact Vg hx hpw hk hwf h1 c.s lp _ c.l.length lc _ hbuf (by omega)
  rcases hres with⟨hf,ht⟩|⟨hf,rfl,rfl,rfl,rfl,ht⟩
  ·refine ht.mono ?_
   rintro e w' ⟨n',m',xp,xn,xc,rfl,rfl,rfl,rfl,D',h2,h3,h4⟩;refine⟨_,_,f,_,_,rfl,⟨rfl,rfl,rfl,.inl ⟨hf,rfl⟩,⟨xp,xc,D',rfl,λ_=>.inr hf,h3,h2.pp,h2.new,h4⟩,?_,h2.kept.size⟩,Vl hx hpw h2.kept,λq h5 h6=>h2.kept.block q h6 λhq=>by have:=hold q hq;omega⟩;exact(Keep.of_bel _ hw).tr (h2.kept.mono λq hq=>.inl hq)
  ·refine ht.mono ?_
   rintro e w' ⟨ev,rfl,hb,hev⟩;refine⟨0,0,f,_,ev,rfl,⟨rfl,rfl,rfl,?_,⟨none,0,D,rfl,λ_=>.inl ⟨rfl,rfl⟩,⟨λ_ h=>(by cases h),λh=>absurd h (by simp)⟩,hpw.bel hb,λq hq=>.inl hq,λ_ _ e=>(by cases e)⟩,Keep.of_bel _ (hw.tr hb),hb.le⟩,Fr.bel hb,λq _ h6=>hb.block q h6⟩;rcases hev with rfl|⟨c,rfl,h8,h9⟩
   ·exact .inr (.inl rfl)
   ·exact .inr (.inr ⟨c,rfl,h8,h9⟩)
end
section
open Go.RowKit Go.Maps Go.Shelf
def zq(M:Nat→Int):Prop:=∀a,0≤M a∧M a≤255
theorem Bn{M:Nat→Int}(h:zq M)(A:Nat)(l:List Int)(hl:∀x∈l,0≤x∧x≤255):zq (bO M A l):=λa=>by
 unfold bO;split
 ·rename_i hc
  rw[List.getD_eq_getElem?_getD,bP (by omega)];exact hl _ (List.getElem_mem _)
 ·exact h a
theorem UX(ss:List ByteArray):∀is:List Nat,zq (lI ss is).M:=by
 refine zu ?_ ?_
 ·intro a;simp[lI]
 ·intro is i ih
  rw[kQ];exact Bn ih _ _ (Rp ss i)
theorem Rq(ss:List ByteArray)(hg:Good ss)(hn:ss.length≤8):zq (l7 ss):=by
 have:∀k,zq (gM (aJ ss) ss.length k):=by
  intro k
  induction k with
  | zero=>exact UX ss _
  | succ k ih=>
    have:=rV ss hg hn k;exact Bn ih _ _ (wT _ this.1 (by omega))
 exact this _
def stM(ss:List ByteArray):aU:=aR dB (l7 ss)
theorem Yq(ss:List ByteArray)(hg:Good ss)(hn:ss.length≤8):l9 (stM ss):=by
 refine⟨λn h=>?_,λn p h=>?_⟩
 ·unfold stM aR dB
  rw[if_neg (by omega)];rfl
 ·unfold stM aR at h
  obtain⟨q,hq,rfl⟩:=Option.map_eq_some_iff.1 h;refine⟨by simp,λx hx=>?_,?_⟩
  ·obtain⟨i,_,rfl⟩:=List.mem_map.1 hx
   exact Rq ss hg hn _
  ·unfold dB at hq
   split at hq
   ·cases hq;exact⟨by simp,by simp⟩
   ·cases hq
theorem Yr(ss:List ByteArray)(n:Nat)(h:n=254∨n=255):stM ss n=some ⟨6,(List.range 256).map λi=>l7 ss (256*n+i)⟩:=by
 unfold stM aR dB;rw[if_pos h];rfl
theorem CZ{m:aU}{ss:List ByteArray}(h:l9 m)(hg:Good ss)(hn:ss.length≤8):l9 (aQ m ss):=by
 have hs:=Yq ss hg hn;refine⟨λn hn2=>?_,λn p hp=>?_⟩
 ·unfold aQ
  rw[if_neg (by omega)];exact h.below n hn2
 ·unfold aQ at hp
  by_cases e:n=254∨n=255
  ·rw[if_pos e]at hp
   exact hs.wf n p ((Yr ss n e).trans hp)
  ·rw[if_neg e]at hp
   exact h.wf n p hp
def Rs(m:aU):List (Nat×Pg):=(az m).map λn=>(n,(m n).getD Pg.zero)
theorem UY(m:aU):(Rs m).flatMap (λq=>bV q.1 q.2)=gY m (az m):=by
 unfold Rs gY;rw[List.flatMap_map]
theorem UZ(m:aU):(Rs m).flatMap (λq=>ax q.1 q.2)=mJ m:=by
 unfold Rs mJ;rw[List.flatMap_map]
theorem C8(m:aU):(Rs m).length=(az m).length:=by unfold Rs;simp
theorem Yt(m:aU):(Rs m).length≤256:=by
 rw[C8];have:=List.length_filter_le (λn=>(m n).isSome) (List.range 256)
 simpa [az]using this
theorem Yu{m:aU}(h:l9 m):∀q∈Rs m,q.2.wf:=λq hq=>by
 obtain⟨n,hn,rfl⟩:=List.mem_map.1 hq;have h1:=(List.mem_filter.1 hn).2;cases hm:m n with
 | none=>rw[hm]at h1;cases h1
 | some p=>exact h.wf n p hm
theorem Rt(L:List Nd)(path:List UInt8):dY (fA L) path=dY L path:=by
 unfold dY;rw[oh];unfold fA;rw[dA];cases L[(ay L path).2.2.1-1]?<;>rfl
theorem Jt{l:dN}{F:List av}(h:aW l F=0):iF (bu l.d.toNat l.e.toNat [cZ] F).2 dL true 0 0 l.b.toNat=0:=by
 unfold aW at h;by_cases h1:l.vY=false
 ·rw[if_pos h1]at h;cases h
 ·rw[if_neg h1]at h
  by_cases h2:l.okB=false
  ·rw[if_pos h2]at h;cases h
  ·rw[if_neg h2]at h
   by_cases h3:l.d=0
   ·rw[if_pos h3]at h;cases h
   ·rw[if_neg h3]at h
    by_cases h4:(bu l.d.toNat l.e.toNat [cZ] F).1≠0
    ·rw[if_pos h4]at h;exact absurd h h4
    ·rw[if_neg h4]at h;exact h
theorem Ju{T:List Pn}{L:List Nd}(h:fA L=aH T){k:Nat}{n:Nd}(hk:L[k]?=some n):(aH T)[k]?=some n.sk:=by
 rw[←h];unfold fA;rw[dA,hk];rfl
theorem Ru{L:List Nd}(h:Down (fA L)):Down L:=λi n hn=>h i n.sk (by unfold fA;rw[dA,hn];rfl)
end
section
open Go.Proofs.Tryz Go.RowKit Go.MapKept Go.Maps Go.Shelf
structure Ow(E:PE):Prop where
 sk:fA E.L=aH E.T
 inv:pV (aH E.T)
 few:E.T.length≤101
theorem qP(id:Int)(v:Int×Int):∀(O:List DR) (a:Int×Int),(∀x∈O,x.id=id→(x.kind,x.off)=v)→(a=v∨∃x∈O,x.id=id)→O.foldl (λa x=>if x.id=id then(x.kind,x.off)else a) a=v
 | [],a,_,h=>by
   rcases h with h|⟨x,hx,_⟩
   ·exact h
   ·cases hx
 | y::O,a,h1,h2=>by
   rw[List.foldl_cons];refine qP id v O _ (λx hx=>h1 x (List.mem_cons_of_mem _ hx)) ?_;by_cases e:y.id=id
   ·rw[if_pos e]
    exact .inl (h1 y List.mem_cons_self e)
   ·rw[if_neg e]
    rcases h2 with h2|⟨x,hx,he⟩
    ·exact .inl h2
    ·exact .inr ⟨x,(List.mem_cons.1 hx).resolve_left λe2=>e (e2▸he),he⟩
def ZK(o:Oj):DR:=⟨o.id,o.kind,o.of,0⟩
theorem Ox(l:List Oj):(l.map ZK).flatMap DR.cells=l.flatMap Oj.cells:=by
 rw[List.flatMap_map];rfl
theorem adJ{s:St}(hwf:s.Wf)(cb:Nat)(re we:Nat→Nat){f:Fd}(hf:f∈s.fds):U6 ((aj s.fds s.pipes).map ZK) (f.ob cb re we) f.id:=by
 have hid:∀x∈(aj s.fds s.pipes).map ZK,∃o∈aj s.fds s.pipes,x=ZK o:=λx hx=>by
  obtain⟨o,ho,rfl⟩:=List.mem_map.1 hx;exact⟨o,ho,rfl⟩
 cases f with
 | no=>exact .inl ⟨rfl,rfl⟩
 | jo=>
   refine .inr ⟨rfl,by simp[Fd.id],qP _ _ _ _ (λx hx he=>?_) (.inl rfl)⟩;obtain⟨o,ho,rfl⟩:=hid x hx;obtain⟨p,hp,h⟩:=jg.1 ho;have:=hwf.FN p hp;exfalso
   rcases h with⟨_,rfl⟩|⟨_,rfl⟩<;>simp[ZK,Fd.id]at he<;>omega
 | rd i=>
   obtain⟨p,hp,rfl⟩:=hwf.has _ hf i (.inl rfl);have hin:(⟨(p.id:Int)+1,2,p.id⟩:Oj)∈aj s.fds s.pipes:=jg.2 ⟨p,hp,.inl ⟨hf,rfl⟩⟩;refine .inr ⟨rfl,zH (by simp),qP _ _ _ _ (λx hx he=>?_) (.inr ⟨_,List.mem_map.2 ⟨_,hin,rfl⟩,rfl⟩)⟩;obtain⟨o,ho,rfl⟩:=hid x hx;have:=Dp hwf hin ho he;subst this;rfl
 | wr i=>
   obtain⟨p,hp,rfl⟩:=hwf.has _ hf i (.inr rfl);have hin:(⟨(p.id:Int)+2,3,p.id⟩:Oj)∈aj s.fds s.pipes:=jg.2 ⟨p,hp,.inr ⟨hf,rfl⟩⟩;refine .inr ⟨rfl,zH (by simp),qP _ _ _ _ (λx hx he=>?_) (.inr ⟨_,List.mem_map.2 ⟨_,hin,rfl⟩,rfl⟩)⟩;obtain⟨o,ho,rfl⟩:=hid x hx;have:=Dp hwf hin ho he;subst this;rfl
theorem Vn(E:PE)(hx:ek E)(n:Nat)(w:World)(h:PI E n w):Calls prog 69 #[E.wb] w (Z.b (.bool true) w):=by
 obtain⟨s,D,Q,hwf,hp,hd,⟨p,q,c,d,L,ng⟩,_⟩:=h.st;have hk:=h.kp;obtain⟨x,hxe⟩:∃x:qH,x=⟨1,0,0,0,0,E.pc,E.rs.map (Value.int .u64),.map (some E.sb),(az E.M).length,gY E.M (az E.M),E.pb,s.fds.map (Fd.ob E.cb D.re D.we)⟩:=⟨_,rfl⟩;obtain⟨y,hye⟩:∃y:DN,y=⟨x,E.rs,Rs E.M,E.pv,s.fds.map Fd.id⟩:=⟨_,rfl⟩;have hpr:RB w x:=by
  subst hxe;exact⟨hp.hb,by simp[hx.rl],λv hv=>by obtain⟨z,_,rfl⟩:=List.mem_map.1 hv;rfl,by simp[hwf.fl],(by show(0:Int)≤1∧(1:Int)≤1000;omega),(by show(0:Int)≠1;omega),⟨_,rfl⟩,λW hW=>NY E.sb E.M W ((hx.abl hk).bel hW) hx.ok⟩
 have hps:=Jz E.kb _ _ _ _ _ E.pm E.tb E.ob E.cb (fr E:Nat) D.now _ [x] [(1,.pointer (E.pb,0))] w hp.hk (hx.Ll hk) (by subst hxe;exact List.Perm.refl _) (by simp) (by simp) (λz hz=>by rw[List.mem_singleton.1 hz];exact hpr);obtain⟨base,KT⟩:=hx.WI hk;have hPS:[y].map DN.x=[x]:=by subst hye;rfl
 refine FM E.wb E.tk E.rb E.g E.gc _ _ _ Q.kv.ov [y] ((aj s.fds s.pipes).map ZK) w ng.blk ?_ hd.c5 hd.c6 ?_ (by rw[fJ];have:=je hwf;omega) (by simp) (by simp) (λi z hi=>?_) λz hz=>?_
 ·rw[hPS]
  refine(JS E.tk E.kb (λv w'=>∃r:List (Value×Value),r.length=[x].length∧Bel w w'∧w'.ownsRow w.heap.size 42 24 v [x].length (iP [x] r)∧eG w' w.heap.size [x] r w'.heap.size) w (hx.nN hk) (hps.mono ?_)).mono ?_
  ·rintro e w' ⟨v,r,rfl,h1,h2,h3,h4⟩
   exact⟨v,rfl,r,h1,h2,h3,h4⟩
  ·rintro e w' ⟨v,rfl,r,h1,h2,h3,h4⟩
   exact⟨v,r,rfl,h1,h2,h3,h4⟩
 ·rw[Ox,fJ]
  exact Rd.vM hd.oj
 ·have hi0:i=0:=by have:=(bZ hi).1;simp at this;omega
  subst hi0;simp at hi
  subst hi;intro j u hj;subst hye hxe;have adK:j<31:=by
   have:=(bZ hj).1;rw[show DN.ref _=kJ 1 0 0 0 0 E.pc E.rs E.pv (s.fds.map Fd.id)from rfl,zz hx.rl (by simp[hwf.fl])]at this;exact this
  rw[Nat.zero_mul,Nat.zero_add,hd.at adK];exact hj
 ·rw[List.mem_singleton.1 hz]
  subst hye hxe;refine⟨hx.rl,rfl,(C8 _).symm,(UY _).symm,Yt _,Yu hx.ok,?_,by simp[hwf.fl],by simp[hwf.fl],λj h1 h2=>?_⟩
  ·show Rd w E.pv (Rs E.M).length ((Rs E.M).flatMap λq=>ax q.1 q.2)
   rw[UZ,C8];exact Rd.vM KT
  ·show U6 _ (s.fds.map (Fd.ob E.cb D.re D.we))[j] (s.fds.map Fd.id)[j]
   rw[List.getElem_map,List.getElem_map];exact adJ hwf _ _ _ (List.getElem_mem _)
theorem Vo(E:PE)(hx:ek E)(hpl:Ow E)(n:Nat)(w:World)(h:PI E n w):Calls prog 70 #[E.wb] w (Z.b (.bool true) w):=by
 obtain⟨s,D,Q,hwf,hp,hd,⟨p,q,c,d,L,ng⟩,_⟩:=h.st;have hk:=h.kp;have hTL:=hpl.sk;have hinv:=hpl.inv;have h5:=hx.abm hk;have dq:=hd.dq hx hk;have hLT:E.L.length=E.T.length:=by
  have:=congrArg List.length hTL
  simpa [fA,aH]using this
 have hT1:=hpl.few;have WM:=h5.tree.down;have hperm:=Az (aH E.T) WM hinv.conn;obtain⟨g,cap,hiv,Ep,_⟩:=dq.tree;have h10:=dq.one;have hsum:bN (fA E.L)≤100000:=by
  rw[hTL];have:=h5.small;have:=h5.mb;omega
 have hsb:∀n∈E.L,n.byt.length≤1000000:=λn hn=>by
  have h1:n.sk.byt.length≤bN (fA E.L):=by
   unfold bN;exact jG (List.mem_map.2 ⟨n.sk,List.mem_map.2 ⟨n,hn,rfl⟩,rfl⟩)
  have:n.sk.byt=n.byt:=rfl;rw[this]at h1;omega
 have hol:=je hwf;obtain⟨po,co,hov,_⟩:=hd.oj.cell;have hc6:w.cell? (E.rb,6)=some (.slice po (aj s.fds s.pipes).length co):=by rw[hd.c6,hov]
 have hbs:(aN E.L).sum=bN (aH E.T):=by rw[KO,hTL]
 obtain⟨base,KT⟩:=hx.WI hk;obtain⟨qp,qc,hpv,_⟩:=aD KT;have h22:w.cell? (E.g,0*31+22)=some (.slice qp (fr E) qc):=by
  rw[Nat.zero_mul,Nat.zero_add,hd.at (by omega)];obtain⟨r0,r1,r2,r3,r4,r5,r6,r7,r8,r9,zQ,C9,Da,Db,Dc,De,e⟩:=YE hx.rl;unfold kJ;rw[e,hpv];rfl
 have hfr:fr E≤256:=eU E.M;refine Nt E.wb E.tk E.rb g cap _ _ _ E.L w ng.blk ?_ Ep (by omega) (by omega) (Ru (hTL▸WM)) (λi n hi h0=>?_) (λn hn=>?_) (λn hn=>⟨(dq.aN n hn).1,hsb n hn⟩) [((1:Nat):Int),((fr E:Nat):Int),(((aj s.fds s.pipes).length:Nat):Int),(E.T.length:Int),(bN (aH E.T):Int)] rfl (λW hW=>?_) (λW hW=>?_)
 ·refine(JU E.tk E.kb (λv w'=>Bel w w'∧∃R,Fit E.L R∧FRows w' w.heap.size v R∧∀r∈R,r.byt.length≤1000000) w (hx.nN hk) (JV E.kb E.tb _ w (hp.hk.cell 6) ((Gf E.tb E.A E.T _ _ w h5 (by omega) (UG h5.tree hinv.conn) hinv.size (by have e:=hperm.length_eq;have e2:(aH E.T).length=E.T.length:=(by simp[aH]);rw[e2]at e;simp at e;omega)).mono ?_)))
  rintro e w' ⟨v,rfl,⟨R,hR1,hR2,hR3⟩,hbel⟩;refine⟨v,rfl,hbel,R,XU h5.tree hinv.conn hTL hR1 hR2,hR3,λr hr=>?_⟩;have hmem:=hR1.mem_iff.1 (List.mem_map.2 ⟨r,hr,rfl⟩);obtain⟨x,_,hx⟩:=List.mem_map.1 hmem;have e4:r.byt=((E.T[x-1]?).map Pn.byt).getD []:=(congrArg (λq=>q.2.2) hx).symm;cases hq:E.T[x-1]? with
  | none=>rw[e4,hq];exact Nat.zero_le _
  | some p=>
    rw[e4,hq];have h1:p.nd.byt.length≤bN (aH E.T):=by
     unfold bN;exact jG (List.mem_map.2 ⟨p.nd,List.mem_map.2 ⟨p,List.mem_iff_getElem?.2 ⟨_,hq⟩,rfl⟩,rfl⟩)
    have h2:=h5.small;have h3:=h5.mb;show p.nd.byt.length≤_
    omega
 ·exact hinv.conn i n.sk (Ju hTL hi) h0
 ·obtain⟨k,hk⟩:=List.mem_iff_getElem?.1 hn
  exact hinv.size n.sk (List.mem_iff_getElem?.2 ⟨k,Ju hTL hk⟩)
 ·exact Oy E.tk E.kb _ _ _ _ _ (λ_=>True) W ((hx.nN hk).bel hW) λW2 hW2=>Oz E.kb _ _ _ _ _ E.pm E.tb E.ob E.cb _ _ _ _ E.A _ ((aj s.fds s.pipes).length:Nat) _ W2 ((hp.hk.bel hW).bel hW2) (((hx.Ll hk).bel hW).bel hW2) ((h5.block.bel hW).bel hW2) ((hp.ho.bel hW).bel hW2)
 ·have hu:=yM E.rb g cap E.L W (Ep.bel hW) [fr E] (some ⟨E.g,0,none⟩) po E.gc (aj s.fds s.pipes).length co (aa hW hd.c5) hx.gc (λi n hi=>by
   have:i=0:=by have:=(bZ hi).1;simp at this;omega
   subst this;cases hi
   exact⟨E.g,qp,qc,rfl,aa hW h22⟩) (aa hW hc6) (λn hn=>by obtain⟨q,c,e,_⟩:=(dq.aN n hn).1.slice;exact⟨q,c,e⟩) (by simp;omega) (by rw[hbs,←hTL];omega) (by simp) (by omega) (by omega)
  rw[hbs,hLT]at hu;exact hu
end
end Go.Proofs.YtcnjjchlebmfiaaGreatDoor
