/-.-/
import Derived.Test.YtcnjjchlebmfiaaGreatDoorP15
import Derived.Test.YtcnjjchlebmfiaaGreatDoorP13
set_option linter.all false
set_option maxRecDepth 100000
set_option maxHeartbeats 16000000
namespace Go.Proofs.YtcnjjchlebmfiaaGreatDoor
section
open Go.Proofs.Tryz Go.RowKit
def mW(l:fD):List Value:=[.int .i64 l.a,.int .i64 l.b,.int .i64 l.c,.int .i64 l.d,.int .i64 l.e]
theorem Y4(l:fD)(v1 v2 v3:Value)(w:World)(h:l.okA=false) :
 Calls prog 60 #[.agg (mW l).toArray,v1,v2,v3] w (Z.b (.tuple #[.pointer none,(6:Int)]) w):=by
 obtain⟨a,b,c,d,e⟩:=l;have h':a<1∨(¬a<1∧16<a)∨(¬a<1∧¬16<a∧b<1)∨(¬a<1∧¬16<a∧¬b<1∧1000<b):=by
  simp only[fD.okA,decide_eq_false_iff_not]at h
  omega
 clear h;simp only[mW]
 rcases h' with h1|⟨h1,h2⟩|⟨h1,h2,h3⟩|⟨h1,h2,h3,h4⟩
 all_goals
  go_enter func60,ntmps60;go_wp2
  go_ret2
  exact⟨rfl,(Bel.start w _).ac _⟩
theorem Y5(l:fD)(v1 v2 v3:Value)(w:World)(h:l.okA=true)(hb:l.okB=false) :
 Calls prog 60 #[.agg (mW l).toArray,v1,v2,v3] w (Z.b (.tuple #[.pointer none,(6:Int)]) w):=by
 obtain⟨a,b,c,d,e⟩:=l;have h':¬a<1∧¬16<a∧¬b<1∧¬1000<b:=by
  simp only[fD.okA,decide_eq_true_eq]at h
  omega
 have hb':c<0∨(¬c<0∧100000<c)∨(¬c<0∧¬100000<c∧d<0)∨(¬c<0∧¬100000<c∧¬d<0∧100000<d)∨(¬c<0∧¬100000<c∧¬d<0∧¬100000<d∧e<0)∨(¬c<0∧¬100000<c∧¬d<0∧¬100000<d∧¬e<0∧100000<e):=by
  simp only[fD.okB,decide_eq_false_iff_not]at hb
  omega
 clear h hb;simp only[mW]
 obtain⟨h1,h2,h3,h4⟩:=h';rcases hb' with g1|⟨g1,g2⟩|⟨g1,g2,g3⟩|⟨g1,g2,g3,g4⟩|⟨g1,g2,g3,g4,g5⟩|⟨g1,g2,g3,g4,g5,g6⟩
 all_goals
  go_enter func60,ntmps60;go_wp2
  go_ret2
  exact⟨rfl,(Bel.start w _).ac _⟩
theorem Y6(l:fD)(v1 v2 v3:Value)(w:World)(h:l.okA=true)(hb:l.okB=true)(hd:l.d=0) :
 Calls prog 60 #[.agg (mW l).toArray,v1,v2,v3] w (Z.b (.tuple #[.pointer none,(12:Int)]) w):=by
 obtain⟨a,b,c,d,e⟩:=l;obtain⟨h1,h2,h3,h4⟩:¬a<1∧¬16<a∧¬b<1∧¬1000<b:=by
  simp only[fD.okA,decide_eq_true_eq]at h
  omega
 obtain⟨g1,g2,g3,g4,g5,g6⟩:¬c<0∧¬100000<c∧¬d<0∧¬100000<d∧¬e<0∧¬100000<e:=by
  simp only[fD.okB,decide_eq_true_eq]at hb
  omega
 clear h hb;simp only at hd
 subst hd;simp only[mW]
 go_enter func60,ntmps60;go_wp2
 go_ret2
 exact⟨rfl,(Bel.start w _).ac _⟩
structure KX(w:World)(F:List aF)(v1 v2 v3:Value):Prop where
 n:F.length≤1000
 paths:∃p c,v1=.slice p F.length c∧∀(i:Nat) (f:aF),F[i]?=some f→∃g,p=some ⟨g,0,none⟩∧w.cell? ⟨g,i,none⟩=some (.string f.path)
 agp:∃p c,v2=.slice p F.length c∧∀(i:Nat) (f:aF),F[i]?=some f→∃g,p=some ⟨g,0,none⟩∧w.cell? ⟨g,i,none⟩=some (.bool f.dir)
 bytes:∃p c,v3=.slice p F.length c∧∀(i:Nat) (f:aF),F[i]?=some f→∃g,p=some ⟨g,0,none⟩∧w.cell? ⟨g,i,none⟩=some (.slice f.p f.byt.length f.cap)
 byt:∀f∈F,BS w f.p f.byt∧f.byt.length≤f.cap∧f.byt.length≤200000∧f.path.size≤1000000∧(0<f.byt.length→∀b o,f.p=some ⟨b,o,none⟩→b<w.heap.size)
def nY:List Value:=[.int .i64 1,.int .i64 0,.int .i64 0,.int .i64 0,.int .i64 0,.int .u64 0,.int .u64 0,.int .u64 0,.int .u64 0,.int .u64 0,.int .u64 0,.int .u64 0,.int .u64 0,.int .u64 0,.int .u64 0,.int .u64 0,.int .u64 0,.int .u64 0,.int .u64 0,.int .u64 0,.int .u64 0,.int .u64 0,.slice none 0 0,.int .i64 (-1),.int .i64 (-1),.int .i64 (-1),.int .i64 0,.int .i64 0,.int .i64 0,.int .i64 0,.int .i64 0]
def bW:List ByteArray:=[⟨#[105,110,105,116]⟩]
theorem lW:Good bW:=by
 intro i hi;have:i=0:=by simp[bW]at hi;omega
 subst this
 decide
theorem GI(L:List Nd):(aS L).sum=cZ (iD L):=by
 unfold aS cZ iD;rw[List.map_map];rfl
def dA(ss:List ByteArray):List Value:=[254,255].flatMap λn=>ak n (wL ss n)
theorem Am(L:List Nd)(path:List UInt8)(zY:Bool)(own used mf:Nat):dM (iD L) path zY own used mf=dM L path zY own used mf:=by
 unfold dM;rw[qp];unfold iD;rw[fA];cases L[(az L path).2.2.1-1]?<;>rfl
theorem La(kb:Nat)(s:KV)(iv:Value)(L:List Nd)(g8 c8 mf gs:Nat)(cells:List Value)(W:World)(h:DK W kb {s with pv:=.slice (g8,0) 1 c8} iv L)(hB:Blk W g8 cells 167)(ht:cells.take 31=nY)(hl:31≤cells.length)(h1c:1≤c8)(hov:s.ov=.slice none 0 0)(hb:s.b=mf)(hmf:mf≤1000)(hsum:cZ (iD L)≤100000)(hroot:isDir L 1=true)(hg8:kb<g8)
 (hgs:Blk W gs [.string ⟨#[105,110,105,116]⟩] 9) :
 Calls prog 105 #[kb,g8,.string ⟨#[47,105,110,105,116]⟩,.slice (gs,0) 1 1] W λe w'=>BN W g8 0 cells (dM L fF true 0 0 mf) (aY L fF) (dA bW) (iq (aK bW) 1) e w':=by
 have h22:cells[22]?=some (.slice none 0 0):=by
  have:=congrArg (·[22]?) ht
  simpa [List.getElem?_take,nY]using this
 obtain⟨g,cap,hiv,htr,hg⟩:=h.tree;have hfew:=h.few;have hU:∀W',Bel W W'→Calls prog 118 #[kb] W' λe w'=>e=.returned (.agg (fM 1 0 0 L.length (aS L).sum).toArray)∧Bel W' w':=λW' hW=>
  Bf kb g cap L W' (htr.bel hW) [0] (some ⟨g8,0,none⟩) none c8 0 0 (af hW (h.blk.cell 5)) h1c (λi n hi=>by
   cases i with
   | zero=>
     simp at hi
     subst hi;exact⟨g8,none,0,rfl,af hW (by rw[hB.cell];exact h22)⟩
   | succ i=>simp at hi) (af hW (by rw[h.blk.cell];show some s.ov=_;rw[hov])) (λn hn=>by
   obtain⟨p,c,hv,_⟩:=(h.aS n hn).1.slice;exact⟨p,c,hv⟩) (by simp) (by rw[GI];omega) (by simp) (by omega) (by omega)
 have hst:∀W',Bel W W'→Calls prog 187 #[.slice (gs,0) 1 1] W' λe w'=>Bel W' w'∧(true=true→∃g c,e=.returned (.tuple #[.slice (g,0) 2 c,.int .u64 (iq (aK bW) 1),(0:Int)])∧(∀j u,(dA bW)[j]?=some u→w'.cell? ⟨g,j,none⟩=some u)∧(dA bW).length=516∧(∀u∈dA bW,u.oneCell'=true))∧(true=false→e=.returned (.tuple #[(),.int .u64 0,(6:Int)])):=λW' hW=>by
  refine(Bl (some ⟨gs,0,none⟩) 1 bW W' (λ_=>⟨gs,0,rfl,(hgs.bel hW).lt,λj hj=>?_⟩) (by simp[bW])).mono ?_
  ·have:j=0:=by simp[bW]at hj;omega
   subst this;exact(hgs.bel hW).cell 0
  ·rintro e w' ⟨h1,h2,_⟩
   refine⟨h1,λ_=>?_,λh=>by cases h⟩;obtain⟨v,rfl,hrow⟩:=h2 lW;obtain⟨p,c,rfl,_,_,hp⟩:=aG hrow;obtain⟨g2,rfl,_,_,hc,_⟩:=hp.resolve_left (by omega);have hlen:(dA bW).length=516:=by simp[dA,ak,wL]
   refine⟨g2,c,rfl,λj u hj=>?_,hlen,λu hu=>?_⟩
   ·have hjl:=(bV hj).1
    exact(hc j hjl).trans hj
   ·obtain⟨n,_,hn⟩:=List.mem_flatMap.1 hu
    exact jq _ _ u hn
 have hex:=Tz kb _ iv L ⟨#[47,105,110,105,116]⟩ g8 0 0 0 mf 1 0 L.length (aS L).sum cells none 0 (.slice (gs,0) 1 1) true (iq (aK bW) 1) (dA bW) W h hb hmf (by decide) hsum hB (by omega) h22 (bM _) (Nat.zero_le _) (by omega) hroot hU;exact hex hst
end
section
open Go.RowKit
theorem zh(L:List Int)(N:Nat)(hN:∀i,i<N→lN L (aV L i)):∀k,k≤N→∀n,254≤n→aX L k n=none
 | 0,_,_,_=>rfl
 | k+1,hk,n,hn=>by
   have ih:=zh L N hN k (by omega) n hn;have hf:=hN k (by omega);have hl:(aV L k).last<254:=by
    unfold Seg.last;have h1:=hf.top;have h2:=hf.mem;have h3:=hf.addr;omega
   show(if (aV L k).first≤n∧n<(aV L k).last+1 then _ else aX L k n)=none
   rw[if_neg (by omega),ih]
theorem ni{B:List Int}(hb:∀x∈B,0≤x∧x≤255)(h:jh B=0):bF (bG B)∧∀n,254≤n→bG B n=none:=by
 obtain⟨hh,hs,_,_⟩:=BU h;have hhead:dQ B≤8∧64+56*dQ B≤B.length:=by
  have:=hh;simp only[ay,Bool.and_eq_true,decide_eq_true_eq]at this
  exact⟨this.1.2,this.2⟩
 have hfit:∀i,i<(dQ B).toNat→lN B (aV B i):=λi hi=>Hl B hb i (by omega) (List.all_eq_true.1 hs i (List.mem_range.2 hi));exact⟨vw B hb (dQ B).toNat hfit (dQ B).toNat (bM _),zh B (dQ B).toNat hfit (dQ B).toNat (bM _)⟩
theorem nH{L:List Nd}{path:List UInt8}{zY:Bool}{own used mf:Nat}(h:dM L path zY own used mf=0):jh (aY L path)=0∧∃x∈L,aY L path=x.byt:=by
 unfold dM at h;unfold aY;split at h
 ·rename_i h1;exact absurd h h1
 ·split at h
  ·cases h
  ·cases hx:L[(az L path).2.2.1-1]? with
   | none=>rw[hx]at h;cases h
   | some x=>
     rw[hx]at h;simp only at h
     split at h
     ·cases h
     ·split at h
      ·rename_i h3;exact absurd h h3
      ·rename_i h3
       exact⟨by simpa using h3,x,List.mem_of_getElem? hx,rfl⟩
theorem Bj(a b:List Value)(o:Nat)(vs:List Value)(h:o+vs.length≤a.length):splice (a++b) o vs=splice a o vs++b:=by
 unfold splice;rw[List.take_append_of_le_length (by omega),List.drop_append_of_le_length (by omega)];simp only[List.append_assoc]
theorem EO(a b:List Value)(v:Value)(E sp:Int)(ha:a.length=31):jX (a++b) 0 v E sp=jX a 0 v E sp++b:=by
 unfold jX;rw[show(a++b).set (0+22) v=a.set (0+22) v++b from List.set_append_left _ _ (by omega)];rw[show(a.set (0+22) v++b).set (0+5) (.int .u64 E)=(a.set (0+22) v).set (0+5) (.int .u64 E)++b from List.set_append_left _ _ (by simp;omega)];rw[Bj _ _ _ _ (by simp;omega)];exact List.set_append_left _ _ (by rw[length_splice _ _ _ (by simp;omega)];simp;omega)
theorem yj(a:List Value)(v:Value)(E sp:Int)(ha:a.length=31):(jX a 0 v E sp).length=31:=by
 unfold jX;rw[List.length_set,length_splice _ _ _ (by simp;omega)];simp[ha]
theorem Lc(cells:List Value)(v:Value)(E sp:Int)(h:cells.take 31=nY):(jX cells 0 v E sp).take 31=jX nY 0 v E sp:=by
 have e:cells=nY++cells.drop 31:=by rw[←h,List.take_append_drop]
 rw[e,EO _ _ _ _ _ rfl,List.take_append_of_le_length (by rw[yj _ _ _ _ rfl];exact bM _),List.take_of_length_le (by rw[yj _ _ _ _ rfl];exact bM _)]
theorem DK.Y9{w w':World}{kb g:Nat}{s:KV}{iv:Value}{L:List Nd}{cells:List Value}(h:DK w kb s iv L)(hB:Blk w g cells 167)(k:Keep (λq=>q=g) w w'):DK w' kb s iv L:=by
 refine⟨h.blk.keep k λe=>?_,?_,λn hn=>⟨(h.aS n hn).1.keep k λq hq e=>?_,(h.aS n hn).2⟩,h.few,h.one⟩
 ·have e:kb=g:=e
  subst e;exact h.blk.ne hB (by decide) rfl
 ·refine⟨h.row.1,?_⟩
  rcases h.row.2 with h1|⟨q,cap,cur,h1,h2,h3,h4⟩
  ·exact .inl h1
  ·refine .inr ⟨q,cap,cur,h1,h2,(k.block q (Array.getElem?_eq_some_iff.1 h3).1 λe=>?_).trans h3,h4⟩
   have e:q=g:=e;subst e;have h3':Blk w q cur.toList 252:=h3;exact h3'.ne hB (by decide) rfl
 ·obtain⟨_,cur,hb⟩:=(h.aS n hn).1.lt hq
  have e:q=g:=e;subst e;exact hb.ne hB (by decide) rfl
end
section
open Go.Proofs.Tryz Go.RowKit Go.Maps
theorem Hf(w:World):Calls prog 178 #[()] w (Z.e (.tuple #[(),fH 2]) w):=by
 go_enter func178,ntmps178;go_wp2
 go_ret2
 exact⟨rfl,rfl⟩
theorem TB(w:World):Calls prog 99 #[()] w (Z.e (.tuple #[.map none,.int .u64 0,fH 2]) w):=by
 go_enter func99,ntmps99;go_wp2_with (go_at_call 178;((with_reducible refine aH (Hf _) ?_);rintro e w1 ⟨rfl,hh⟩;subst hh))
 go_ret3
 exact⟨rfl,rfl⟩
theorem TC:jh []=2:=by
 unfold jh;rw[if_pos (by rfl)]
theorem XJ(w:World)(bv:Value)(L:List Int)(h:Rw w bv L)(hl:L.length≤200000)(hfix:iG w) :
 Calls prog 99 #[bv] w λe w'=>Bel w w'∧(jh L≠0→e=.returned (.tuple #[.map none,.int .u64 0,fH (jh L:Nat)]))∧(jh L=0→∃mb,e=.returned (.tuple #[.map (some mb),.int .u64 (numAt L 24 8),.nilIface])∧w.heap.size≤mb∧Sp w' mb (bG L)):=by
 rcases h.2 with⟨rfl,rfl⟩|⟨g,cap,cur,rfl,hb,h1,h2,h3,h4⟩
 ·refine(TB w).mono ?_
  rintro e w' ⟨rfl,rfl⟩;rw[TC];exact⟨Bel.refl _,λ_=>rfl,λh=>by cases h⟩
 ·have hbt:jF w g 0 L:=⟨λi hi=>by
   rw[Nat.zero_add,hb.cell];have:=congrArg (·[i]?) h4;simp only[List.getElem?_take,if_pos hi,fA]at this
   exact this,h.1⟩
  refine(TD g cap L w hbt h1 hl hfix).mono ?_;rintro e w' ⟨k,hr⟩;refine⟨k,λh0=>hr.err h0,λh0=>?_⟩;obtain⟨l1,l2,l3,l4⟩:=BU h0;exact hr.ok l1 l2 l3 l4
theorem Sp.heap{w:World}{b:Nat}{m:ax}(h:Sp w b m)(hm:∀n,256≤n→m n=none):∃es clock,w.heap[b]?=some (.map es clock)∧es.size=(ag m).length:=by
 obtain⟨kv,h1,h2,h3⟩:=h;have hk:=(Sp.keys hm h1 h2 h3).length_eq;obtain⟨es,clock,hb,_,he,_⟩:=h1;have:=congrArg List.length he;simp only[jE,Array.length_toList]at this hk
 exact⟨es,clock,hb,by omega⟩
theorem Sp.ne_of{w:World}{a b n:Nat}{m s:ax}(h:Sp w a m)(k:Sp w b s)(h1:m n=none)(h2:(s n).isSome=true):a≠b:=by
 rintro rfl;obtain⟨kv,⟨es,c,hb,_,he,_⟩,hg,_⟩:=h;obtain⟨kv2,⟨es2,c2,hb2,_,he2,_⟩,hg2,_⟩:=k;rw[hb]at hb2;cases hb2
 rw[he]at he2;have e:kv=kv2:=by
  refine(List.map_inj_right λp q hpq=>?_).1 he2;simp only[Prod.mk.injEq]at hpq
  exact Prod.ext (iK.inj _ _ hpq.1) hpq.2
 have h3:=hg n;rw[e,hg2 n,h1]at h3;cases hs:s n with
 | none=>rw[hs]at h2;cases h2
 | some p=>rw[hs]at h3;cases h3
theorem run_len_map{P:Program}{t k e ty:TypeId}(ht:P.underlying t=some (.map k e)){b:Nat}{es:Array MapEntry}{clock:Nat}{w:World}(hb:w.heap[b]?=some (.map es clock)) :
 (Builtin.len_ #[t] ty #[.map (some b)]).run P w=.ok (.int .i64 es.size) w:=by
 simp[Builtin.len_,run_underlying ht,MapKept.run_getObj_map hb,goInt]
theorem run_len_nil{P:Program}{t k e ty:TypeId}(ht:P.underlying t=some (.map k e)){w:World}:(Builtin.len_ #[t] ty #[.map none]).run P w=.ok (.int .i64 0) w:=by
 simp[Builtin.len_,run_underlying ht,goInt]
def SpO(w:World)(mo:Option Nat)(m:ax):Prop:=match mo with
 | none=>m=λ_=>none
 | some b=>Sp w b m
theorem NK(m:ax)(ss:List ByteArray):over m (ah dR (nO ss))=aN m ss:=by
 funext n
 unfold over aN ah dR;by_cases h:n=254∨n=255
 ·rw[if_pos h,if_pos h];rfl
 ·rw[if_neg h,if_neg h];rfl
def Ld(E sp:Int)(mb:Nat):List Value:=.int .u64 E::(List.replicate 15 (Value.int .u64 0)++[.int .u64 sp,.map (some mb)])
def DN(E:Int)(mb:Nat):List Value:=.int .u64 E::(List.replicate 16 (Value.int .u64 0)++[.map (some mb)])
theorem XK(E:Int)(mb:Nat):∀v∈DN E mb,v.oneCell'=true:=by
 intro v hv;simp[DN]at hv
 rcases hv with rfl|rfl|rfl<;>rfl
theorem TE(E:Int)(mb:Nat):prog.built 115 [(0,.int .u64 E),(2,.map (some mb))]=some (DN E mb).toArray:=by kernel_rfl
def Jj(w:World)(kb pb:Nat)(kc pc:List Value)(c:Nat)(B:List Int)(ss:List ByteArray)(sp:Int)(used own:Nat)(e:Ending)(w':World):Prop:=
 (c≠0→e=.returned (fH (c:Nat))∧Bel w w')∧(c=0→e=.returned .nilIface∧∃mb,w.heap.size≤mb∧Sp w' mb (aN (bG B) ss)∧Keep (λq=>q=kb∨q=pb) w w'∧
  Blk w' kb (kc.set 9 (.int .i64 (used-own+((ag (bG B)).length+2):Nat))) 111∧Blk w' pb (Ld (numAt B 24 8) sp mb++pc.drop 18) 120)
theorem Em(kb tb pb:Nat)(A:bJ)(T:List Pn)(mi mb mf own used:Nat)(kc pc:List Value)(nm:ByteArray)(sv:Value)(zY:Bool)(sp:Int)(ss:List ByteArray)(mo:Option Nat)(ms:ax)(w:World)(h:PT w tb A T mi mb)(hk:Blk w kb kc 111)(hkl:10≤kc.length)(h6:kc[6]?=some (.pointer (tb,0)))(h9:kc[9]?=some (.int .i64 used))(h1:kc[1]?=some (.int .i64 mf))(hmf:mf≤1000)(hus:used≤100000)(hown:own≤used)
 (hp:Blk w pb pc 120)(hpl:pc.length=31)(h17:pc[17]?=some (.map mo))(hms:SpO w mo ms)(hmo:(ag ms).length=own)(hmb:∀n,256≤n→ms n=none)(hs:nm.size≤1000000)(hmx:eX w)(hfix:iG w)
 (hst:∀W,Bel w W→Calls prog 100 #[sv] W λe w'=>Bel W w'∧(zY=true→∃mb,e=.returned (.tuple #[.map (some mb),.int .u64 sp,.nilIface])∧Sp w' mb (ah dR (nO ss)))∧(zY=false→∃v,e=.returned (.tuple #[v,.int .u64 0,fH 6]))) :
 Calls prog 57 #[kb,pb,nm,sv] w λe w'=>Jj w kb pb kc pc (dM (aJ T) nm.data.toList zY own used mf) (aY (aJ T) nm.data.toList) ss sp used own e w':=by
 have hf:=λW (hW:Bel w W)=>BV tb A T _ nm W (h.bel hW).block (h.bel hW).tree hs (hmx.bel hW);have hold:=mD (L:=aJ T) (s:=nm.data.toList) h.tree.isRoot;have c6:w.cell? (kb,6)=some (.pointer (tb,0)):=(hk.cell 6).trans h6;unfold dM aY;obtain⟨d,x,n,c,hr⟩:∃d x n c,az (aJ T) nm.data.toList=(d,x,n,c):=⟨_,_,_,_,rfl⟩;simp only[hr]at hf hold⊢
 have HT:=xh h;have HK:=xh (And.intro hk (And.intro h9 h1));have HP:=xh (And.intro hp h17);have HMS:=xh (And.intro hms (And.intro hmo hmb));have HST:=xh hst;have HFX:=xh hfix;clear h hk h9 h1 hp h17 hms hmo hmb hst hr hfix hmx h6;by_cases hc:c=0
 ·subst hc
  rw[if_neg (by simp)];have hle:=hold rfl;rw[lJ]at hle;have hf2:=λW hW=>(hf W hW).mono λe w' k=>And.intro (k.1.trans (by rw[zg,if_pos rfl];rfl):e=.returned (.tuple #[.agg (wV A d x n).toArray,.nilIface])) k.2;have HF:=xh hf2;clear hf hf2 hold;simp only[wV]at HF
  rw[show A.ptr d=.pointer (A.at_ d)from rfl]at HF;generalize A.at_ d=ad at *
  by_cases hn:n=0
  ·subst hn
   rw[if_pos rfl];rw[show A.ptr 0=.pointer none from rfl]at HF;go_enter func57,ntmps57;go_wp2_with (go_at_call 95;((with_reducible refine aH (HF.o _ (Bel.refl _)) ?_);rintro e w1 ⟨rfl,k1⟩;have bP:=xh k1;clear k1))
   go_ret
   exact⟨λ_=>⟨rfl,bP.o.ac _⟩,λh=>by cases h⟩
  ·rw[if_neg hn]
   obtain⟨i,hi⟩:∃i,n=i+1:=⟨n-1,by omega⟩;subst hi;have hx:=bT (l:=T) (i:=i) (by omega);generalize T[i]'(by omega)=y at *
   have hny:(aJ T)[i]?=some y.nd:=NL hx;rw[Nat.add_sub_cancel,hny];simp only[Option.map_some,Option.getD_some]
   rw[show y.nd.dir=y.dir from rfl,show y.nd.byt=y.byt from rfl];rw[show A.ptr (i+1)=.pointer (A.nb (i+1),0)from rfl]at HF;have HB:=xh (HT.o.tree.node i y hx);have HRW:=xh (HT.o.tree.aS i y hx);have hbl:y.byt.length≤200000:=by
    have h1:y.nd.byt.length≤cZ (aJ T):=by
     unfold cZ;exact lD (List.mem_map.2 ⟨y.nd,List.mem_of_getElem? hny,rfl⟩)
    have h2:=HT.o.small;have h3:=HT.o.mb;have h4:y.nd.byt.length=y.byt.length:=rfl;omega
   have HDR:=xh λW (hW:Bel w W)=>sJ (A.nb (i+1)) (y.map A (i+1)) W ((HB.o.bel hW).cell 2);have YX:=xh λW (hW:Bel w W)=>(show W.cell? (A.nb (i+1),3)=some y.bv from(HB.o.bel hW).cell 3);have hmd:(y.map A (i+1)).isSome=y.dir:=by unfold Pn.map;cases y.dir<;>rfl
   rw[hmd]at HDR;obtain⟨nb,hnb⟩:=e_x (A.nb (i+1));rw[hnb]at HF HDR YX;have KU:=xh hnb;clear hx hny hmd hnb hle hn;cases oW:y.dir with
   | true=>
     rw[oW]at HDR;clear oW;rw[if_pos rfl];go_enter func57,ntmps57
     go_wp2_with (first
      | (go_at_call 95;((with_reducible refine aH (HF.o _ (Bel.refl _)) ?_);rintro e w1 ⟨rfl,k1⟩;have bP:=xh k1;clear k1))
      | (go_at_call 92;((with_reducible refine aH (HDR.o _ (bP.o.ac _)) ?_);rintro e w2 ⟨rfl,hh⟩;subst hh)))
     go_ret
     exact⟨λ_=>⟨rfl,bP.o.ac _⟩,λh=>by cases h⟩
   | false=>
     rw[oW]at HDR;clear oW;rw[if_neg (by simp)];have XG:=xh λW (hW:Bel w W)=>XJ W y.bv y.byt (HRW.o.bel hW) hbl (HFX.o.bel hW);by_cases hl:jh y.byt=0
     ·rw[if_neg (by simpa using hl)]
      have XL:=xh λW (hW:Bel w W)=>(XG.o W hW).mono λe w' k=>And.intro k.1 (k.2.2 hl);have hok:=ni HRW.o.1 hl;have jW:=xh hok;clear hl hok XG;cases zY with
      | false=>
        rw[if_pos rfl];have HSF:=xh λW (hW:Bel w W)=>(HST.o W hW).mono λe w' k=>And.intro k.1 (k.2.2 rfl);go_enter func57,ntmps57
        go_wp2_with (first
         | (go_at_call 95;((with_reducible refine aH (HF.o _ (Bel.refl _)) ?_);rintro e w1 ⟨rfl,k1⟩;have c3:=YX.o _ (k1.ac (.cells #[.pointer ad,.string x,nb] 240));have bP:=xh k1;clear k1))
         | (go_at_call 92;((with_reducible refine aH (HDR.o _ (bP.o.ac _)) ?_);rintro e w2 ⟨rfl,hh⟩;subst hh))
         | (go_at_call 99;((with_reducible refine aH (XL.o _ (bP.o.ac _)) ?_);rintro e w2 ⟨k2,db,rfl,hdb,hsp⟩;have iC:=xh ((bP.o.ac _).tr k2);have Hg:=xh (And.intro (bU (bP.o.ac _).size hdb) hsp);clear k2 hdb hsp))
         | (go_at_call 100;((with_reducible refine aH (HSF.o _ iC.o) ?_);rintro e w3 ⟨k3,v,rfl⟩;have jP:=xh (iC.o.tr k3);clear k3)))
        go_ret
        exact⟨λ_=>⟨rfl,jP.o⟩,λh=>by cases h⟩
      | true=>
        rw[if_neg (by simp)];have HSG:=xh λW (hW:Bel w W)=>(HST.o W hW).mono λe w' k=>And.intro k.1 (k.2.1 rfl);obtain⟨B,hB⟩:=e_x y.byt;rw[hB]at XL jW⊢;obtain⟨m,hm⟩:=e_x (bG B);rw[hm]at XL jW⊢;have HM:=xh hm;obtain⟨Ev,hEv⟩:=e_x (numAt B 24 8);rw[hEv]at XL;have HEV:=xh hEv;have hpl2:=iH m ss jW.o.2;have hN:(ag (aN m ss)).length=(ag m).length+2:=by rw[hpl2];simp
        have hN0:=aT m;obtain⟨N,hNN⟩:=e_x ((ag m).length+2);have HN:=xh (And.intro (hN.trans hNN) hNN);have HCP:=xh λ(W:World) (db sb:Nat) (h1:Sp W db m) (h2:Sp W sb (ah dR (nO ss)))=>VG db sb m (ah dR (nO ss)) W h1 h2 (h1.ne_of h2 (jW.o.2 254 (by omega)) (by simp[ah,dR])) (λn hn=>by simp[ah,dR];omega) (λn p hp=>by
         obtain⟨q,_,rfl⟩:=Option.map_eq_some_iff.1 hp;simp)
        have aiV:N≤258:=by omega
        have HX:Hid ((if mf<used-own+(ag m).length+2 then 7 else 0)=if mf<used-own+N then 7 else 0):=xh (by rw[←hNN,Nat.add_assoc]);rw[HX.o];obtain⟨ec,qK⟩:=e_x ((if mf<used-own+N then 7 else 0));rw[qK];have O0:=xh qK;clear qK hB hm hEv hpl2 hN hN0 hNN;go_enter func57,ntmps57
        go_upto_region 15 with(first
         | (go_at_call 95;((with_reducible refine aH (HF.o _ (Bel.refl _)) ?_);rintro e w1 ⟨rfl,k1⟩;have c3:=YX.o _ (k1.ac (.cells #[.pointer ad,.string x,nb] 240));have bP:=xh k1;clear k1))
         | (go_at_call 92;((with_reducible refine aH (HDR.o _ (bP.o.ac _)) ?_);rintro e w2 ⟨rfl,hh⟩;subst hh))
         | (go_at_call 99;((with_reducible refine aH (XL.o _ (bP.o.ac _)) ?_);rintro e w2 ⟨k2,db,rfl,hdb,hsp⟩;have iC:=xh ((bP.o.ac _).tr k2);have Hg:=xh (And.intro (bU (bP.o.ac _).size hdb) hsp);clear k2 hdb hsp))
         | (go_at_call 100;((with_reducible refine aH (HSG.o _ iC.o) ?_);rintro e w3 ⟨k3,sb,rfl,hsb⟩;have jP:=xh (iC.o.tr k3);have Dt:=xh (And.intro hsb (Hg.o.2.bel k3));clear k3 hsb))
         | (go_at_call 101;((with_reducible refine aH (HCP.o _ _ _ Dt.o.2 Dt.o.1) ?_);rintro e w4 ⟨rfl,hs4,k4⟩;have H4:=xh (And.intro hs4 k4);clear hs4 k4)))
        have hkb:=HK.o.1.lt;have hpb:=HP.o.1.lt;have hdb:=Hg.o.1;have HKK:=xh ((HK.o.1.bel jP.o).keep H4.o.2 (λe=>by have e:kb=db:=e;omega));have PV:=xh ((HP.o.1.bel jP.o).keep H4.o.2 (λe=>by have e:pb=db:=e;omega));have hs4:Sp w4 db (aN m ss):=by rw[←NK];exact H4.o.1
        have hlow:∀n,256≤n→aN m ss n=none:=λn hn=>by
         unfold aN;rw[if_neg (by omega)];exact jW.o.2 n (by omega)
        obtain⟨es,clock,hes,pI⟩:=hs4.heap hlow;rw[HN.o.1]at pI;have HS4:=xh hs4;have hl1:∀n,(Builtin.len_ #[113] 3 #[.map (some db)]).run prog (w4.drewN n)=.ok (.int .i64 (N:Nat)) (w4.drewN n):=λn=>by
         have:=run_len_map (ty:=3) underlying113 (w:=w4.drewN n) hes;rw[pI]at this;exact this
        have hl2:∀n,(Builtin.len_ #[113] 3 #[.map mo]).run prog (w4.drewN n)=.ok (.int .i64 (own:Nat)) (w4.drewN n):=λn=>by
         cases mo with
         | none=>
           have e:ms=λ_=>none:=HMS.o.1;have e2:own=0:=by rw[←HMS.o.2.1,e];rfl
           rw[e2];exact run_len_nil (ty:=3) underlying113
         | some b=>
           have e:Sp w b ms:=HMS.o.1;have hb:=e.lt;obtain⟨es,clock,hes,pI⟩:=((e.bel jP.o).keep H4.o.2 (λh=>by have h:b=db:=h;omega)).heap HMS.o.2.2;have:=run_len_map (ty:=3) underlying113 (w:=w4.drewN n) hes;rw[pI,HMS.o.2.1]at this;exact this
        have c9:w4.cell? (kb,9)=some (.int .i64 used):=(HKK.o.cell 9).trans HK.o.2.1;have c1:w4.cell? (kb,1)=some (.int .i64 mf):=(HKK.o.cell 1).trans HK.o.2.2;have c17:w4.cell? (pb,17)=some (.map mo):=(PV.o.cell 17).trans HP.o.2;have wR:=xh λk=>(sN kb used mf ((N:Int)-own) (w4.drewN k) c9 c1 (by omega) (by omega) (by omega));have hw1:IntKind.i64.wrap ((N:Int)-(own:Int))=(N:Int)-(own:Int):=by rw[IntKind.wrap_i64];omega
        clear hes pI hs4 hlow;by_cases hroom:(used:Int)+((N:Int)-own)≤mf
        ·go_quiet ((go_at_call 102;exact Calls.quiet_of (wR.o _)))
         have k5:Bel w4 (w4.drewN nq):=aj (Bel.refl _) nq;go_upto_region 17 with fail
         have hl1:=hl1 (nq+1);have hl2:=hl2 (nq+1);rw[show w4.drewN (nq+1)=(w4.drewN nq).drew from rfl]at hl1 hl2;generalize w4.drewN nq=w5 at *
         have kd:Bel w4 w5.drew:=k5.tr (Bel.drew (Bel.refl _));have ahB:(Builtin.len_ #[113] 3 #[.map (some db)]).run prog {heap:=w5.heap,tape:=w5.tape,drawn:=w5.drawn+1,os:=w5.os,output:=w5.output}=.ok (.int .i64 (N:Nat)) {heap:=w5.heap,tape:=w5.tape,drawn:=w5.drawn+1,os:=w5.os,output:=w5.output}:=hl1;have ahC:(Builtin.len_ #[113] 3 #[.map mo]).run prog {heap:=w5.heap,tape:=w5.tape,drawn:=w5.drawn+1,os:=w5.os,output:=w5.output}=.ok (.int .i64 (own:Nat)) {heap:=w5.heap,tape:=w5.tape,drawn:=w5.drawn+1,os:=w5.os,output:=w5.output}:=hl2;have c9:=af k5 c9;have c17:=af k5 c17;go_still_tail 16,(by kernel_rfl)
         change wpList _ _ _ _ _ w5.drew
         generalize w5.drew=w6 at *
         have c9:w6.cell? (kb,9)=some (.int .i64 used):=((HKK.o.bel kd).cell 9).trans HK.o.2.1;have c17:w6.cell? (pb,17)=some (.map mo):=((PV.o.bel kd).cell 17).trans HP.o.2;have f9:=(HKK.o.bel kd).frozen;have hl6:=(HKK.o.bel kd).lt;have jY:=xh kd;have TF:Hid (prog.built 115 [(0,.int .u64 Ev),(2,.map (some db))]=some (DN Ev db).toArray):=xh (TE Ev db);clear hl1 hl2 ahB ahC kd k5 wR c1 c3;go_upto_region 18 with fail
         have K7:=Keep.setCell w6 kb 9 (.int .i64 ((used:Int)+((N:Int)-(own:Int))));have B7:=(HKK.o.bel jY.o).setCell (o:=9) (.int .i64 ((used:Int)+((N:Int)-(own:Int))));have P7:=(PV.o.bel jY.o).keep K7 (λe=>by have e:pb=kb:=e;subst e;exact PV.o.ne HKK.o (by decide) rfl);have zH:=xh (And.intro B7 (And.intro P7 K7));clear c9 c17 f9 hl6 B7 P7 K7 hw1;generalize w6.setCell (kb,9) (.int .i64 ((used:Int)+((N:Int)-(own:Int))))=w7 at *
         have hth:w7.there pb 0 18:=λj hj=>⟨by rw[zH.o.2.1.cell,bT (by omega)];rfl,zH.o.2.1.frozen _⟩;have HTH:=xh hth;clear hth
         go_upto_region 19 with(first
          | (refine wpList_buildTo rfl 115 _ rfl (some 95) rfl _ (by simp only[List.map_toArray,List.map_cons,List.map_nil];exact TF.o) ?_)
          | (refine wpList_store_mid rfl 115 (.tmp 97) (.tmp 95) rfl pb 0 (DN Ev db).toArray rfl rfl HTH.o (by kernel_rfl) (all_oneCell_toArray (XK Ev db)) ?_))
         have P8:=zH.o.2.1.setCells 0 (DN Ev db) (by simp[DN];omega);have k8:=Keep.setCells w7 pb 0 (DN Ev db);have B8:=zH.o.1.keep k8 (λe=>by have e:kb=pb:=e;subst e;exact PV.o.ne HKK.o (by decide) rfl);generalize w7.setCells pb 0 (DN Ev db)=w8 at *
         have c16:w8.cell? (pb,1+15)=some (.int .u64 0):=by rw[P8.cell];rfl
         have ajD:w8.cell? (pb,16)=some (.int .u64 0):=c16;have f16:=P8.frozen;have hp8:=P8.lt;have H8:=xh (And.intro B8 (And.intro P8 k8));clear B8 P8 k8;go_wp2_with fail
         go_ret
         have he0:ec=0:=by rw[←O0.o,if_neg (by omega)]
         refine⟨λh=>absurd he0 h,λ_=>⟨rfl,db,hdb,?_,?_,?_,?_⟩⟩
         ·rw[HM.o]
          have e1:=(HS4.o.bel jY.o).keep zH.o.2.2 (λe=>by have e:db=kb:=e;omega);have e2:=e1.keep H8.o.2.2 (λe=>by have e:db=pb:=e;omega);exact e2.keep (Keep.setCell w8 pb 16 (.int .u64 sp)) (λe=>by have e:db=pb:=e;omega)
         ·have e1:Keep (λq=>q=kb∨q=pb) w w4:=(Keep.of_bel _ jP.o).dY H4.o.2 (λq h=>.inr (by have h:q=db:=h;omega))
          exact(((e1.tr (Keep.of_bel _ jY.o)).tr (zH.o.2.2.mono λq h=>.inl h)).tr (H8.o.2.2.mono λq h=>.inr h)).tr ((Keep.setCell w8 pb 16 (.int .u64 sp)).mono λq h=>.inr h)
         ·have e1:=H8.o.1.keep (Keep.setCell w8 pb 16 (.int .u64 sp)) (λe=>by have e:kb=pb:=e;subst e;exact PV.o.ne HKK.o (by decide) rfl)
          rw[HM.o,HN.o.2];rw[show((used-own+N:Nat):Int)=(used:Int)+((N:Int)-(own:Int))from by omega];exact e1
         ·have e1:=H8.o.2.1.setCell (o:=16) (.int .u64 sp)
          have e2:(splice pc 0 (DN Ev db)).set 16 (.int .u64 sp)=Ld (numAt B 24 8) sp db++pc.drop 18:=by
           rw[HEV.o];rfl
          rw[←e2];exact e1
        ·go_quiet ((go_at_call 102;exact Calls.quiet_of (wR.o _)))
         have hb4:Bel w w4:=((Keep.of_bel (λ_=>False) jP.o).dY H4.o.2 (λq h=>.inr (by have h:q=db:=h;omega))).below _ (bM _) (λq h=>h.elim);have pX:=xh (aj hb4 nq);go_wp2_with fail
         go_ret
         have he7:ec=7:=by rw[←O0.o,if_pos (by omega)]
         exact⟨λ_=>⟨by rw[he7];rfl,pX.o⟩,λh=>by rw[he7]at h;cases h⟩
     ·rw[if_pos hl]
      obtain⟨ec,qK⟩:=e_x (jh y.byt);rw[qK]at hl XG⊢;have hcb:((ec:Int)==0)=false:=dK (by omega);have O0:=xh hl;clear hl qK;go_enter func57,ntmps57
      go_wp2_with (first
       | (go_at_call 95;((with_reducible refine aH (HF.o _ (Bel.refl _)) ?_);rintro e w1 ⟨rfl,k1⟩;have c3:=YX.o _ (k1.ac (.cells #[.pointer ad,.string x,nb] 240));have bP:=xh k1;clear k1))
       | (go_at_call 92;((with_reducible refine aH (HDR.o _ (bP.o.ac _)) ?_);rintro e w2 ⟨rfl,hh⟩;subst hh))
       | (go_at_call 99;((with_reducible refine aH (XG.o _ (bP.o.ac _)) ?_);rintro e w2 ⟨k2,h2,_⟩;obtain rfl:=h2 O0.o;have iC:=xh ((bP.o.ac _).tr k2);clear k2 h2)))
      go_ret
      exact⟨λ_=>⟨rfl,iC.o⟩,λh=>absurd h O0.o⟩
 ·rw[if_pos hc]
  have hcb:((c:Int)==0)=false:=dK (by omega);have hf2:=λW hW=>(hf W hW).mono λe w' k=>And.intro (k.1.trans (by rw[zg,if_neg hc]):e=.returned (.tuple #[.agg #[.pointer none,.string ⟨#[]⟩,.pointer none],fH c])) k.2;have HF:=xh hf2;have HC:=xh hc;clear hf hf2 hold hc;go_enter func57,ntmps57;go_wp2_with (go_at_call 95;((with_reducible refine aH (HF.o _ (Bel.refl _)) ?_);rintro e w1 ⟨rfl,k1⟩;have bP:=xh k1;clear k1))
  go_ret
  exact⟨λ_=>⟨rfl,bP.o.ac _⟩,λh=>absurd h HC.o⟩
end
section
open Go.Proofs.Tryz Go.RowKit
theorem gq:(prog.info? 167).map (λi=>(i.size,i.bytes,(i.zero.map (·.cells.size))))=some (31,264,some 31):=by kernel_rfl
structure uN(w:World)(kb:Nat)(l:fD)(F:List aF):Prop where
 tree:∃(iv:Value) (L:List Nd) (s:KV) (pb pc:Nat) (cells:List Value) (v:Value),DK w kb s iv L∧iD L=(bK l.d.toNat l.e.toNat [dZ] F).2∧isDir L 1=true∧cZ (iD L)≤100000∧
  s=⟨l.a,l.b,l.c,l.d,l.e,.slice (pb,0) 1 pc,.slice none 0 0,.slice none 0 0,.slice none 0 0,.slice none 0 0,.slice none 0 0⟩∧Blk w pb cells 167∧1≤pc∧kb<pb∧
  cells.take 31=jX nY 0 v (numAt (aY L fF) 24 8) (iq (aK bW) 1)∧
  w.ownsRow (kb+1) 260 258 v ((ag (bG (aY L fF))).length+2) (aQ (aN (bG (aY L fF)) bW))
def Iz(w:World)(l:fD)(F:List aF)(e:Ending)(w':World):Prop:=
 Bel w w'∧(bD l F≠0→e=.returned (.tuple #[.pointer none,.int .i64 (bD l F:Nat)]))∧(bD l F=0→∃kb:Nat,e=.returned (.tuple #[kb,(0:Int)])∧w.heap.size≤kb∧uN w' kb l F)
theorem DK.adt{w:World}{kb:Nat}{s:KV}{iv:Value}{L:List Nd}(h:DK w kb s iv L)(v:Value):DK (w.setCell (kb,5) v) kb {s with pv:=v} iv L:=by
 have k:=Keep.setCell w kb 5 v;refine⟨h.blk.setCell (o:=5) v,dG h.row k (λg hg e=>by have e:g=kb:=e;omega),λn hn=>⟨(h.aS n hn).1.keep k λg hg e=>?_,(h.aS n hn).2⟩,h.few,h.one⟩;obtain⟨_,cur,hb⟩:=(h.aS n hn).1.lt hg;have e:g=kb:=e;subst e;exact h.blk.ne hb (by decide) rfl
def Vd(wx:World)(kb:Nat)(s:KV)(iv:Value)(L:List Nd)(cs:List Value)(zC:World):Prop:=
 ∃(g8 c8:Nat) (cells:List Value),Blk wx g8 cells 167∧cells.take 31=cs∧1≤c8∧31≤cells.length∧kb<g8∧DK wx kb {s with pv:=.slice (g8,0) 1 c8} iv L∧Keep (λq=>kb≤q) zC wx
theorem xI{zC w8:World}{kb:Nat}{s:KV}{iv:Value}{L:List Nd}{cs:List Value}{p8:Option Addr}{c8:Nat}(h:DK zC kb s iv L)(hl:cs.length=31)(R8:w8.ownsRow (kb+1) 167 31 (.slice p8 (0+1) c8) (0+1) cs)(k8:Bel zC w8):Vd (w8.setCell (kb,5) (.slice p8 (0+1) c8)) kb s iv L cs zC:=by
 have hd:=(h.bel k8).adt (.slice p8 (0+1) c8);rcases R8.2 with⟨_,h0⟩|⟨g,cap,cur,e,hg,hb,h1,h2,h3,h4⟩
 ·omega
 ·cases e
  have hb':Blk w8 g cur.toList 167:=hb;have abC:cur.toList.length=c8*31:=by simpa using h3
  exact⟨g,c8,cur.toList,hb'.keep (Keep.setCell w8 kb 5 _) (λe=>by have e:g=kb:=e;omega),by simpa using h4,by omega,by omega,by omega,hd,(Keep.of_bel _ k8).tr ((Keep.setCell w8 kb 5 _).mono λq e=>by have e:q=kb:=e;omega)⟩
theorem KY(l:fD)(F:List aF)(v1 v2 v3:Value)(w:World)(hF:KX w F v1 v2 v3)(h:l.okA=true)(hb:l.okB=true)(hd:l.d≠0) :
 Calls prog 60 #[.agg (mW l).toArray,v1,v2,v3] w λe w'=>Iz w l F e w':=by
 have hbe:bD l F=if (bK l.d.toNat l.e.toNat [dZ] F).1≠0 then(bK l.d.toNat l.e.toNat [dZ] F).1 else dM (bK l.d.toNat l.e.toNat [dZ] F).2 fF true 0 0 l.b.toNat:=by
  unfold bD;rw[if_neg (by rw[h];simp),if_neg (by rw[hb];simp),if_neg hd]
 have Ve:=xh hbe;clear hbe;obtain⟨a,b,c,d,e⟩:=l;simp only at Ve
 obtain⟨h1,h2,h3,h4⟩:¬a<1∧¬16<a∧¬b<1∧¬1000<b:=by
  simp only[fD.okA,decide_eq_true_eq]at h
  omega
 obtain⟨g1,g2,g3,g4,g5,g6⟩:¬c<0∧¬100000<c∧¬d<0∧¬100000<d∧¬e<0∧¬100000<e:=by
  simp only[fD.okB,decide_eq_true_eq]at hb
  omega
 have hd0:(d==0)=false:=by simpa using hd
 have HF:=xh hF;have HD:=xh hd;clear h hb hF hd;simp only[mW]
 go_enter func60,ntmps60;go_upto_region 8 with fail
 have k1:Bel w ((w.alloc (.cells #[.int .i64 a,.int .i64 b,.int .i64 c,.int .i64 d,.int .i64 e] 159)).alloc (.cells #[.int .i64 a,.int .i64 b,.int .i64 c,.int .i64 d,.int .i64 e,(),(),(),(),(),(),(),(0:Int)] 174)):=(Bel.start w _).ac _;have B1:Blk ((w.alloc (.cells #[.int .i64 a,.int .i64 b,.int .i64 c,.int .i64 d,.int .i64 e] 159)).alloc (.cells #[.int .i64 a,.int .i64 b,.int .i64 c,.int .i64 d,.int .i64 e,(),(),(),(),(),(),(),(0:Int)] 174)) (w.heap.size+1) (KV.cells ⟨a,b,c,d,e,.slice none 0 0,.slice none 0 0,.slice none 0 0,.slice none 0 0,.slice none 0 0,.slice none 0 0⟩ (.slice none 0 0) 0) 174:=Blk.dF _ _ _ (by simp);generalize (w.alloc (.cells #[.int .i64 a,.int .i64 b,.int .i64 c,.int .i64 d,.int .i64 e] 159)).alloc (.cells #[.int .i64 a,.int .i64 b,.int .i64 c,.int .i64 d,.int .i64 e,(),(),(),(),(),(),(),(0:Int)] 174)=w1 at *
 obtain⟨s,hs⟩:∃s:KV,s=⟨a,b,c,d,e,.slice none 0 0,.slice none 0 0,.slice none 0 0,.slice none 0 0,.slice none 0 0,.slice none 0 0⟩:=⟨_,rfl⟩;rw[←hs]at B1;obtain⟨kb,hkb⟩:=e_x (w.heap.size+1);rw[hkb]at B1⊢;have HS:=xh hs;have hkw:w.heap.size<kb:=by omega
 have Y0:=xh (Ei kb s (.slice none 0 0) 0 w1 B1 (by omega));have HB1:=xh B1;have bP:=xh k1;clear hs hkb B1 k1;go_upto_region 9 with(go_at_call 103;((with_reducible refine aH Y0.o ?_);rintro e2 w2 ⟨rfl,b2,k2⟩))
 have c7:=b2.c 7 rfl;have f7:=b2.frozen;have hlt2:=b2.lt;have HB2:=xh b2;have iC:Hid (Keep (λq=>kb≤q) w1 w2):=xh (k2.mono λq h=>by have h:q=kb:=h;omega);have Dl:Hid (prog.built 252 [(0,.int .i64 ((0+1:Nat):Int)),(3,.bool true)]=some #[.int .i64 ((0+1:Nat):Int),.int .i64 0,.string ⟨#[]⟩,.bool true,eU]):=xh (by kernel_rfl);clear b2 k2
 go_cut [] (λwx=>Hid (∃Ak,DK wx kb s Ak [dZ]∧Keep (λq=>kb≤q) w2 wx))
 case first=>
  go_upto_region 10 with(first
   | (refine wpList_buildTo rfl 252 _ rfl (some 77) rfl _ (by simp only[List.map_toArray,List.map_cons,List.map_nil];exact Dl.o) ?_)
   | (refine au rfl 170 252 (.tmp 77) rfl [.int .i64 ((0+1:Nat):Int),(0:Int),.string ⟨#[]⟩,true,eU] rfl underlying170 iO (by show 0<5;omega) (by show 5≤2^24;omega) ?_;intro w3 B3 K3)
   | (at_builtin;refine fG (w:=w3) (base:=kb+1) (n:=0) (xs:=[]) rfl (.tmp 75) (.tmp 78) 170 rfl underlying170 iO (by omega) rfl (World.ownsRow_nil w3 (kb+1) _ _) _ 1 1 [.int .i64 ((0+1:Nat):Int),(0:Int),.string ⟨#[]⟩,true,eU] 252 rfl B3.out rfl (by intro v hv;simp at hv;rcases hv with rfl|rfl|rfl|rfl|rfl<;>rfl) (by unfold maxLen;omega) (by omega) (by have:=K3.size;omega) ?_;intro p4 c4 w4 R4 K4;have B4:=(HB2.o.bel K3).keep K4 (λe=>by cases e);have f4:=B4.frozen;have q4:=B4.c 7 rfl;have l4:=B4.lt;have HB4:=xh B4;have HR4:=xh R4;clear B4 R4))
  have B5:Blk (w4.setCell (kb,7) (.slice p4 (0+1) c4)) kb (s.cells (.slice p4 (0+1) c4) (0+1)) 174:=HB4.o.setCell (o:=7) _;have R5:=dG HR4.o (Keep.setCell w4 kb 7 (.slice p4 (0+1) c4)) (λg hg e=>by omega);have K5:Keep (λq=>kb≤q) w2 (w4.setCell (kb,7) (.slice p4 (0+1) c4)):=((Keep.of_bel _ K3).tr (K4.mono λq h=>by cases h)).tr ((Keep.setCell w4 kb 7 _).mono λq h=>by have h:q=kb:=h;omega);have HDK:Hid (∃Ak,DK (w4.setCell (kb,7) (.slice p4 (0+1) c4)) kb s Ak [dZ]∧Keep (λq=>kb≤q) w2 (w4.setCell (kb,7) (.slice p4 (0+1) c4))):=xh ⟨_,⟨B5,R5,λn hn=>by
   simp at hn
   subst hn;exact⟨⟨(λx hx=>by cases hx),.inl ⟨rfl,rfl⟩⟩,λg hg=>by cases hg⟩,by simp,by simp⟩,K5⟩
  go_wp2_with fail
  go_meet
  exact HDK
 case rest=>
  obtain⟨iv0,hdk,hkc⟩:=hcut.out;have HD0:=xh hdk;have Ir:Hid (Keep (λq=>kb≤q) w1 wc):=xh (iC.o.tr hkc);clear c7 f7 hlt2 hdk hkc;have hn:=HF.o.n;have OY:d.toNat≤100000:=by omega
  have hmb:e.toNat≤100000:=by omega
  have hsd:s.d=(d.toNat:Int):=by rw[HS.o];show d=_;omega
  have hse:s.e=(e.toNat:Int):=by rw[HS.o];show e=_;omega
  have hpv:s.pv=.slice none 0 0:=by rw[HS.o]
  have hov:s.ov=.slice none 0 0:=by rw[HS.o]
  have HSD:=xh hsd;have Qr:=xh hse;have UQ:=xh hpv;have HOV:=xh hov;have ug:Hid (Keep (λq=>kb≤q) w wc):=xh ((Keep.of_bel _ bP.o).tr Ir.o);obtain⟨pp,pc,rfl,hp1⟩:=HF.o.paths;obtain⟨dp,dc,rfl,hp2⟩:=HF.o.agp;obtain⟨bp,bc,rfl,hp3⟩:=HF.o.bytes;have OZ:=xh hp1;have HP2:=xh hp2;have HP3:=xh hp3;clear hp1 hp2 hp3 hsd hse hpv hov;go_wp2_with fail
  go_loopw [12,13] (λi er wr=>∃(k:Nat) (iv:Value) (L:List Nd),k≤F.length∧i=.int .i64 k∧DK wr kb s iv L∧bK d.toNat e.toNat [dZ] F=bK d.toNat e.toNat (iD L) (F.drop k)∧cZ (iD L)≤e.toNat∧isDir (iD L) 1=true∧L.length≤k+1∧Keep (λq=>kb≤q) wc wr) (λi _ _=>F.length-(intOf i).toNat)
  case atStart=>exact⟨0,iv0,[dZ],Nat.zero_le _,rfl,HD0.o,rfl,Nat.zero_le _,rfl,by simp,Keep.refl _ _⟩
  case round=>
   obtain⟨k,iv,L,hk,rfl,hdk,hfl,hsm,hrt,hll,hkr⟩:=hrel;have HDK:=xh hdk;have Y7:=xh hfl;have uB:=xh hsm;have HRT:=xh hrt;have uf:=xh hkr;clear hdk hfl hsm hrt hkr;by_cases hlt:k<F.length
   ·have hf:=bT hlt
    have hdr:F.drop k=F[k]::F.drop (k+1):=List.drop_eq_getElem_cons hlt;obtain⟨gp,rfl,cp⟩:=OZ.o k F[k] hf;obtain⟨gd,rfl,cd⟩:=HP2.o k F[k] hf;obtain⟨gb,rfl,cb⟩:=HP3.o k F[k] hf;obtain⟨hb1,hb2,hb3,hb4,hb5⟩:=HF.o.byt F[k] (List.getElem_mem hlt);generalize F[k]=f at *
    have HDR:=xh hdr;have hkk:Keep (λq=>kb≤q) w wr:=ug.o.tr uf.o;have tr:∀(a:Addr) (v:Value),w.cell? a=some v→wr.cell? a=some v:=λa v h=>by
     have hl:=World.block_lt_of_cell? _ _ h;exact(hkk.cell a hl (by show ¬kb≤a.block;omega)).trans h
    have cp':=tr _ _ cp;have cd':=tr _ _ cd;have cb':=tr _ _ cb;have adu:BS wr f.p f.byt:=hb1.dm hkk λh0 b o hp h=>by have:=hb5 h0 b o hp;omega
    have HFA:=xh λW (hW:Bel wr W)=>Qs kb s iv L d.toNat e.toNat f.path f.dir f.p f.cap f.byt W (HDK.o.bel hW) HSD.o OY Qr.o hmb UQ.o HOV.o (adu.bel hW) hb3 (λh0 q o hq=>by have:=hb5 h0 q o hq;omega) uB.o hb4 (by rw[←pq];exact HRT.o);obtain⟨r,hr⟩:=e_x (kR d.toNat e.toNat (iD L) f.path.data.toList f.dir f.byt);have hinv:=Qu (mi:=d.toNat) (path:=f.path.data.toList) (is:=f.dir) (b:=f.byt) uB.o HRT.o;rw[hr]at HFA hinv;have HR:=xh hr;have Vf:=xh hinv;clear hr hinv adu tr hkk cp cd cb hb1 hb2 hb5 hf hdr;go_upto_region 13 with fail
    go_still_tail 13,(by kernel_rfl)
    change wpList _ _ _ _ _ wr.drew
    have kd:Bel wr wr.drew:=Bel.drew (Bel.refl _);generalize wr.drew=wd at *
    have jY:=xh kd;clear kd cp' cd' cb';go_upto_region 14 with(go_at_call 104;((with_reducible refine aH (HFA.o wd jY.o) ?_);rintro e2 w5 ⟨rfl,hst⟩;have HST:=xh hst;clear hst))
    by_cases hr0:r.1=0
    ·have hrb:((r.1:Int)==0)=true:=by rw[hr0];rfl
     obtain⟨iv2,L2,h3,h4⟩:=HST.o.2 hr0;have h5:=HST.o.1;obtain⟨h6,h7,h8⟩:=Vf.o hr0;rw[zO]at h8;have h9:=congrArg List.length h3;rw[zO]at h9;have zD:Hid (∃(iv:Value) (L':List Nd),DK w5 kb s iv L'∧bK d.toNat e.toNat [dZ] F=bK d.toNat e.toNat (iD L') (F.drop (k+1))∧cZ (iD L')≤e.toNat∧isDir (iD L') 1=true∧L'.length≤k+1+1∧Keep (λq=>kb≤q) wc w5):=xh ⟨iv2,L2,h4,by
      rw[Y7.o,HDR.o,bK,if_neg (by rw[HR.o];simpa using hr0),HR.o,h3],by rw[h3];exact h6,by rw[h3];exact h7,by omega,(uf.o.tr (Keep.of_bel _ jY.o)).tr h5⟩
     clear hr0 h3 h4 h5 h6 h7 h8 h9;go_wp2
     go_roundw
     case rel=>
      obtain⟨iv,L',j1,j2,j3,j4,j5,j6⟩:=zD.o;exact⟨k+1,iv,L',by omega,by go_num,j1,j2,j3,j4,j5,j6⟩
     case measure=>simp[intOf]<;>omega
    ·have hrb:((r.1:Int)==0)=false:=dK (by omega)
     have HER:Hid (bD ⟨a,b,c,d,e⟩ F=r.1):=xh (by
      have h3:bK d.toNat e.toNat [dZ] F=(r.1,iD L):=by rw[Y7.o,HDR.o,bK,if_pos (by rw[HR.o];exact hr0),HR.o]
      rw[Ve.o,h3,if_pos hr0])
     have HR0:=xh hr0;clear hr0;go_wp2
     go_ret2
     have hkk:=((ug.o.tr uf.o).tr (Keep.of_bel _ jY.o)).tr HST.o.1;exact⟨hkk.below _ (bM _) (λq hq=>by omega),λ_=>by rw[HER.o];rfl,λh=>absurd (HER.o.symm.trans h) HR0.o⟩
   ·obtain rfl:k=F.length:=by omega
    have hfin:bK d.toNat e.toNat [dZ] F=(0,iD L):=by rw[Y7.o,List.drop_length];rfl
    have Y8:Hid (bD ⟨a,b,c,d,e⟩ F=dM (iD L) fF true 0 0 b.toNat):=xh (by rw[Ve.o,hfin];rfl);have HFN:=xh hfin;clear hfin;have c5:wr.cell? (kb,5)=some (.slice none 0 0):=by rw[←UQ.o];exact HDK.o.blk.cell 5
    have f5:=HDK.o.blk.frozen;have hkl:=HDK.o.blk.lt;go_upto_region 21 with fail
    have kd:Bel wr (wr.alloc (.cells nY.toArray 167)):=Bel.start _ _;have B21:=Blk.new wr nY 167;change Code.wp _ _ _ _ (wr.alloc (.cells nY.toArray 167))
    generalize wr.alloc (.cells nY.toArray 167)=zC at *
    generalize wr.heap.size=pb at *
    have c5:=af kd c5;have f5:=(HDK.o.blk.bel kd).frozen;have hkl:=(HDK.o.blk.bel kd).lt;obtain⟨cs,hcs⟩:=e_x nY;have hcl:cs.length=31:=by rw[←hcs];rfl
    have hu:=underlying167;have hi:(prog.info? 167).map (·.size)=some cs.length:=by rw[hcl];kernel_rfl
    have hbs:=uO (P:=prog) 168 167 cs underlying168 (by rw[hcl];exact gq) (by omega) (by omega);have HPO:Hid (∀u∈cs,u.oneCell'=true):=xh (by rw[←hcs];intro u hu;simp[nY]at hu;rcases hu with rfl|rfl|rfl|rfl|rfl|rfl<;>rfl);rw[hcs]at B21;have hr:zC.rangeAt pb 0 cs:=by have:=B21.range 0;simpa using this
    have ai5:=xh B21;have KQ:=xh hcs;have jK:=xh hcl;have jY:=xh kd;clear B21 hcs hcl kd;have KZ:Hid (∀(p8:Option Addr) (c8:Nat) (w8:World),w8.ownsRow (kb+1) 167 31 (.slice p8 (0+1) c8) (0+1) ([]++cs)→Keep (λq=>(Value.slice none 0 0).ownBlock=some q) (zC.drew.alloc (.cells cs.toArray 167)) w8→Hid (w8.ownsRow (kb+1) 167 31 (.slice p8 (0+1) c8) (0+1) cs∧Bel zC w8)∧w8.cell? (kb,5)=some (.slice none 0 0)∧(∀j,w8.frozen? ⟨kb,j,none⟩=false)∧kb<w8.heap.size):=xh λp8 c8 w8 R8 K8=>by
     have ka:Bel zC (zC.drew.alloc (.cells cs.toArray 167)):=(Bel.drew (Bel.refl zC)).ac _;have k8:Bel zC w8:=ka.tr ⟨K8.os,K8.tape,K8.output,K8.size,λk hk=>K8.block k hk (λe=>by cases e)⟩;exact⟨xh ⟨R8,k8⟩,af k8 c5,((HDK.o.blk.bel jY.o).bel k8).frozen,((HDK.o.blk.bel jY.o).bel k8).lt⟩
    go_cut [] (λwx=>Hid (Vd wx kb s iv L cs zC))
    case first=>
     refine wp_region_any (by kernel_rfl) ?_;change wpAny _ _ _ _ _ _ _ (World.drew _)
     have kdd:Bel zC zC.drew:=Bel.drew (Bel.refl _);have c5:zC.drew.cell? (kb,5)=some (.slice none 0 0):=c5;have hr:zC.drew.rangeAt pb 0 cs:=hr;have c5a:∀o,(zC.drew.alloc o).cell? (kb,5)=some (.slice none 0 0):=λo=>af (Bel.start _ o) c5;have hwd:kb≤zC.drew.heap.size:=by show kb≤zC.heap.size;omega
     generalize zC.drew=wd at *
     refine wpAny_take (i:=0) (v:=?v0) rfl (by kernel_rfl) (by kernel_rfl) (by kernel_rfl) (λ_ _ _ h=>h) (Or.inl ⟨by rfl,?h0⟩) ?r0
     case h0=>(intro w;go_simp;with_reducible rfl)
     refine wpAny_take (i:=1) (v:=?v1) rfl (by kernel_rfl) (by kernel_rfl) (by kernel_rfl) (λ_ _ _ h=>h) (Or.inl ⟨by rfl,?h1⟩) ?r1
     case h1=>(intro w;go_simp;with_reducible rfl)
     refine wpAny_take (i:=2) (v:=?v2) rfl (by kernel_rfl) (by kernel_rfl) (by kernel_rfl) (λ_ _ _ h=>h) (Or.inl ⟨by rfl,?h2⟩) ?r2
     case h2=>(intro w;go_simp;with_reducible rfl)
     refine wpAny_take (i:=3) (v:=?v3) rfl (by kernel_rfl) (by kernel_rfl) (by kernel_rfl) (λ_ _ _ h=>h) (Or.inl ⟨by rfl,?h3⟩) ?r3
     case h3=>(intro w;go_simp;with_reducible rfl)
     refine wpAny_ready (rs:=[4,5]) (by kernel_rfl) (by simp) ?_;refine AllReady.cons rfl (λK hK=>?o4) ?x4
     case o4=>
      go_simp;refine hK _ _ ?_;clear hK K;refine wpAny_ready (rs:=[5]) (by kernel_rfl) (by simp) ?_;refine AllReady.cons rfl (λK hK=>?_) AllReady.nil;refine uC rfl 167 (.tmp 14) rfl pb 0 rfl cs _ hr hu rfl hi ?_;refine hK _ _ ?_;clear hK K;refine wpAny_ready (rs:=[6]) (by kernel_rfl) (by simp) ?_;refine AllReady.cons rfl (λK hK=>?_) AllReady.nil;refine jC rfl 168 167 (.tmp 117) rfl cs rfl underlying168 (by rw[jK.o];exact gq) (by have:=jK.o;omega) (by have:=jK.o;omega) ?_;refine hK _ _ ?_;clear hK K;refine wpAny_ready (rs:=[7]) (by kernel_rfl) (by simp) ?_;refine AllReady.cons rfl (λK hK=>?_) AllReady.nil;refine iV (base:=kb+1) (n:=0) (xs:=[]) (size:=31) (bytes:=264) rfl (.tmp 116) (.tmp 118) 168 rfl underlying168 gq (by omega) rfl (World.ownsRow_nil _ _ _ _) wd.heap.size 1 1 cs rfl (λj u hj=>by rw[←hj];exact(Blk.new wd cs 167).cell j) (by rw[jK.o]) HPO.o (by unfold maxLen;omega) (by omega) (by simp;omega) ?_;intro p8 c8 w8 R8 K8;obtain⟨UR,c58,f58,hl8⟩:=KZ.o p8 c8 w8 R8 K8;clear R8 K8;refine hK _ _ ?_;clear hK K;refine wpAny_take (i:=8) (v:=?v8a) rfl (by kernel_rfl) (by kernel_rfl) (by kernel_rfl) (λ_ _ _ h=>h) (Or.inl ⟨by rfl,?h8a⟩) ?r8a
      case h8a=>(intro w;go_simp;with_reducible rfl)
      refine wpAny_take (i:=9) (v:=?v9a) rfl (by kernel_rfl) (by kernel_rfl) (by kernel_rfl) (λ_ _ _ h=>h) (Or.inl ⟨by rfl,?h9a⟩) ?r9a
      case h9a=>(intro w;go_simp;with_reducible rfl)
      refine wpAny_ready (rs:=[10]) (by kernel_rfl) (by simp) ?_;refine AllReady.cons rfl (λK hK=>?_) AllReady.nil;go_simp;refine hK _ _ ?_;clear hK K;refine wpAny_done (by kernel_rfl) ?_ _;go_wp2_with fail
      go_meet
      exact xh (xI (HDK.o.bel jY.o) jK.o UR.out.1 UR.out.2)
     case x4=>
      refine AllReady.cons rfl (λK hK=>?_) AllReady.nil;refine uC rfl 167 (.tmp 14) rfl pb 0 rfl cs _ hr hu rfl hi ?_;refine hK _ _ ?_;clear hK K;refine wpAny_ready (rs:=[4,6]) (by kernel_rfl) (by simp) ?_;refine AllReady.cons rfl (λK hK=>?o45) ?x45
      case o45=>
       go_simp;refine hK _ _ ?_;clear hK K;refine wpAny_ready (rs:=[6]) (by kernel_rfl) (by simp) ?_;refine AllReady.cons rfl (λK hK=>?_) AllReady.nil;refine jC rfl 168 167 (.tmp 117) rfl cs rfl underlying168 (by rw[jK.o];exact gq) (by have:=jK.o;omega) (by have:=jK.o;omega) ?_;refine hK _ _ ?_;clear hK K;refine wpAny_ready (rs:=[7]) (by kernel_rfl) (by simp) ?_;refine AllReady.cons rfl (λK hK=>?_) AllReady.nil;refine iV (base:=kb+1) (n:=0) (xs:=[]) (size:=31) (bytes:=264) rfl (.tmp 116) (.tmp 118) 168 rfl underlying168 gq (by omega) rfl (World.ownsRow_nil _ _ _ _) wd.heap.size 1 1 cs rfl (λj u hj=>by rw[←hj];exact(Blk.new wd cs 167).cell j) (by rw[jK.o]) HPO.o (by unfold maxLen;omega) (by omega) (by simp;omega) ?_;intro p8 c8 w8 R8 K8;obtain⟨UR,c58,f58,hl8⟩:=KZ.o p8 c8 w8 R8 K8;clear R8 K8;refine hK _ _ ?_;clear hK K;refine wpAny_take (i:=8) (v:=?v8b) rfl (by kernel_rfl) (by kernel_rfl) (by kernel_rfl) (λ_ _ _ h=>h) (Or.inl ⟨by rfl,?h8b⟩) ?r8b
       case h8b=>(intro w;go_simp;with_reducible rfl)
       refine wpAny_take (i:=9) (v:=?v9b) rfl (by kernel_rfl) (by kernel_rfl) (by kernel_rfl) (λ_ _ _ h=>h) (Or.inl ⟨by rfl,?h9b⟩) ?r9b
       case h9b=>(intro w;go_simp;with_reducible rfl)
       refine wpAny_ready (rs:=[10]) (by kernel_rfl) (by simp) ?_;refine AllReady.cons rfl (λK hK=>?_) AllReady.nil;go_simp;refine hK _ _ ?_;clear hK K;refine wpAny_done (by kernel_rfl) ?_ _;go_wp2_with fail
       go_meet
       exact xh (xI (HDK.o.bel jY.o) jK.o UR.out.1 UR.out.2)
      case x45=>
       refine AllReady.cons rfl (λK hK=>?_) AllReady.nil;refine jC rfl 168 167 (.tmp 117) rfl cs rfl underlying168 (by rw[jK.o];exact gq) (by have:=jK.o;omega) (by have:=jK.o;omega) ?_;refine hK _ _ ?_;clear hK K;refine wpAny_ready (rs:=[4]) (by kernel_rfl) (by simp) ?_;refine AllReady.cons rfl (λK hK=>?_) AllReady.nil;go_simp;refine hK _ _ ?_;clear hK K;refine wpAny_ready (rs:=[7]) (by kernel_rfl) (by simp) ?_;refine AllReady.cons rfl (λK hK=>?_) AllReady.nil;refine iV (base:=kb+1) (n:=0) (xs:=[]) (size:=31) (bytes:=264) rfl (.tmp 116) (.tmp 118) 168 rfl underlying168 gq (by omega) rfl (World.ownsRow_nil _ _ _ _) wd.heap.size 1 1 cs rfl (λj u hj=>by rw[←hj];exact(Blk.new wd cs 167).cell j) (by rw[jK.o]) HPO.o (by unfold maxLen;omega) (by omega) (by simp;omega) ?_;intro p8 c8 w8 R8 K8;obtain⟨UR,c58,f58,hl8⟩:=KZ.o p8 c8 w8 R8 K8;clear R8 K8;refine hK _ _ ?_;clear hK K;refine wpAny_take (i:=8) (v:=?v8c) rfl (by kernel_rfl) (by kernel_rfl) (by kernel_rfl) (λ_ _ _ h=>h) (Or.inl ⟨by rfl,?h8c⟩) ?r8c
       case h8c=>(intro w;go_simp;with_reducible rfl)
       refine wpAny_take (i:=9) (v:=?v9c) rfl (by kernel_rfl) (by kernel_rfl) (by kernel_rfl) (λ_ _ _ h=>h) (Or.inl ⟨by rfl,?h9c⟩) ?r9c
       case h9c=>(intro w;go_simp;with_reducible rfl)
       refine wpAny_ready (rs:=[10]) (by kernel_rfl) (by simp) ?_;refine AllReady.cons rfl (λK hK=>?_) AllReady.nil;go_simp;refine hK _ _ ?_;clear hK K;refine wpAny_done (by kernel_rfl) ?_ _;go_wp2_with fail
       go_meet
       exact xh (xI (HDK.o.bel jY.o) jK.o UR.out.1 UR.out.2)
    case rest=>
     obtain⟨g8,c8,cells,hb8,htk,hc8,agq,hg8,Qv,hk8⟩:=hcut.out;have c5:=Qv.blk.c 5 rfl;have f5:=Qv.blk.frozen;have hkl:=Qv.blk.lt;have hcs0:cells.take 31=nY:=htk.trans KQ.o.symm;have hmf:b.toNat≤1000:=by omega
     have hsb:s.b=(b.toNat:Int):=by rw[HS.o];show b=_;omega
     have hsum:cZ (iD L)≤100000:=by have:=uB.o;omega
     have hex:=λ(W:World) (gs:Nat) (hW:Bel wc W) (hgs:Blk W gs [.string ⟨#[105,110,105,116]⟩] 9)=>La kb s iv L g8 c8 b.toNat gs cells W (Qv.bel hW) (hb8.bel hW) hcs0 agq hc8 HOV.o hsb hmf hsum (by rw[←pq];exact HRT.o) hg8 hgs;have HEX:=xh hex;have abD:bD ⟨a,b,c,d,e⟩ F=dM L fF true 0 0 b.toNat:=Y8.o.trans (Am _ _ _ _ _ _);obtain⟨ec,qK⟩:=e_x (dM L fF true 0 0 b.toNat);rw[qK]at HEX abD;have IA:=xh abD;have H8:=xh (And.intro hb8 (And.intro hcs0 (And.intro Qv hk8)));have hci:(0:Int)<(1:Int):=by omega
     clear hex abD qK hb8 htk Qv hk8 hcs0 hsb hsum;by_cases h0:ec=0
     ·have hrb:((ec:Int)==0)=true:=by rw[h0];rfl
      have H0:=xh h0;clear h0
      go_wp2_with (first
       | (refine au rfl 66 9 (.const (.string ⟨#[105,110,105,116]⟩)) rfl [.string ⟨#[105,110,105,116]⟩] rfl underlying66 jG (by show 0<1;omega) (by show 1≤2^24;omega) ?_;intro w9 B9 K9;have oM:Hid (Bel wc w9):=xh K9;have Dn:Hid (Blk w9 wc.heap.size [.string ⟨#[105,110,105,116]⟩] 9):=xh B9.out;clear B9 K9)
       | (go_at_call 105;((with_reducible refine aH (HEX.o _ _ oM.o Dn.o) ?_);rintro e2 w10 ⟨rfl,k10,h10⟩;have Dx:=xh (And.intro k10 h10);clear k10 h10)))
      go_ret2
      have hkA:Keep (λq=>kb≤q) w w9:=(((ug.o.tr uf.o).tr (Keep.of_bel _ jY.o)).tr H8.o.2.2.2).tr (Keep.of_bel _ oM.o);have hkB:Keep (λq=>kb≤q) w w10:=hkA.tr (Dx.o.1.mono λq h=>by have h:q=g8:=h;omega);refine⟨hkB.below _ (bM _) (λq hq=>by have hq:kb≤q:=hq;omega),λh=>absurd (IA.o.trans H0.o) h,λ_=>⟨kb,rfl,by omega,?_⟩⟩;obtain⟨v,hrow,hblk⟩:=Dx.o.2 H0.o;obtain⟨hl0,x,hxm,hxb⟩:=nH (by rw[←Y8.o.trans (Am _ _ _ _ _ _)];exact IA.o.trans H0.o);have hbb:∀y∈aY L fF,0≤y∧y≤255:=by rw[hxb];exact(HDK.o.aS x hxm).1.1
      have hlow:=(ni hbb hl0).2;refine⟨iv,L,{s with pv:=.slice (g8,0) 1 c8},g8,c8,jX cells 0 v (numAt (aY L fF) 24 8) (iq (aK bW) 1),v,?_,?_,?_,?_,?_,hblk,hc8,by omega,Lc _ _ _ _ H8.o.2.1,?_⟩
      ·exact(H8.o.2.2.1.bel oM.o).Y9 (H8.o.1.bel oM.o) Dx.o.1
      ·rw[HFN.o]
      ·rw[←pq];exact HRT.o
      ·have:=uB.o;omega
      ·rw[HS.o]
      ·rw[vW _ _ hlow]
       exact ownsRow_base_a hrow (by have:=H8.o.2.2.1.blk.lt;have:=oM.o.size;omega)
     ·have hrb:((ec:Int)==0)=false:=dK (by omega)
      have H0:=xh h0;clear h0
      go_wp2_with (first
       | (refine au rfl 66 9 (.const (.string ⟨#[105,110,105,116]⟩)) rfl [.string ⟨#[105,110,105,116]⟩] rfl underlying66 jG (by show 0<1;omega) (by show 1≤2^24;omega) ?_;intro w9 B9 K9;have oM:Hid (Bel wc w9):=xh K9;have Dn:Hid (Blk w9 wc.heap.size [.string ⟨#[105,110,105,116]⟩] 9):=xh B9.out;clear B9 K9)
       | (go_at_call 105;((with_reducible refine aH (HEX.o _ _ oM.o Dn.o) ?_);rintro e2 w10 ⟨rfl,k10,h10⟩;have Dx:=xh (And.intro k10 h10);clear k10 h10)))
      go_ret2
      have hkA:Keep (λq=>kb≤q) w w9:=(((ug.o.tr uf.o).tr (Keep.of_bel _ jY.o)).tr H8.o.2.2.2).tr (Keep.of_bel _ oM.o);have hkB:Keep (λq=>kb≤q) w w10:=hkA.tr (Dx.o.1.mono λq h=>by have h:q=g8:=h;omega);exact⟨hkB.below _ (bM _) (λq hq=>by have hq:kb≤q:=hq;omega),λ_=>by rw[IA.o];rfl,λh=>absurd (IA.o.symm.trans h) H0.o⟩
end
end Go.Proofs.YtcnjjchlebmfiaaGreatDoor
