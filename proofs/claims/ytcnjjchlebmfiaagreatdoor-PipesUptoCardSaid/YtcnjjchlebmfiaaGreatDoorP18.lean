/-.-/
import Derived.Test.YtcnjjchlebmfiaaGreatDoorP15
import Derived.Test.YtcnjjchlebmfiaaGreatDoorP17
set_option linter.unusedVariables false
set_option linter.unusedSimpArgs false
set_option maxRecDepth 100000
set_option maxHeartbeats 16000000
namespace Go.Proofs.YtcnjjchlebmfiaaGreatDoor
section
open Go.Proofs.Tryz Go.RowKit Go.Maps Go.WideShapes
def RV:Value→Option (DataW Value×List MemPlace):=λv=>some (.held v,[])
def Mi(kv:List (Int×Value)):List (Lit×DataW Value):=kv.map λp=>(Lit.int .i64 p.1,.held p.2)
def DV(kv:List (Int×Value)):DataW Value:=.map ((Mi kv).foldr DataW.insert [])
theorem Mp.Z7{w:World}{b:Nat}{kv:List (Int×Value)}(h:Mp nV w b kv)(hl:kv.length≤maxLen):∃es clock,w.heap[b]?=some (.map es clock)∧Go.WideElems.Fit prog 3 RV es clock∧es.size=kv.length∧es.toList.map (Go.WideElems.rg prog 3 RV)=Mi kv:=by
 obtain⟨es,clock,h1,h2,h3,h4⟩:=h;have hlen:es.size=kv.length:=by have:=congrArg List.length h3;simpa using this
 have hrd:∀a v,nV.ok a→∀c,Go.WideElems.rd prog 3 RV ⟨.int .i64 a,v,c⟩=some (Lit.int .i64 a,.held v):=by
  intro a v ha c;have:keyOf prog 3 (.int .i64 a)=some (.int .i64 a):=nV.read a ha;simp[Go.WideElems.rd,this,RV]
 have hent:∀x∈es.toList,∃p∈kv,x.key=.int .i64 p.1:=by
  intro x hx;have hm:(x.key,x.val)∈kv.map (λp=>(nV.kf p.1,p.2)):=by rw[←h3];exact List.mem_map.2 ⟨x,hx,rfl⟩
  obtain⟨p,hp,e⟩:=List.mem_map.1 hm
  injection e with e1 _
  exact⟨p,hp,e1.symm⟩
 have hone:∀x∈es.toList,∀a,x.key=.int .i64 a→nV.ok a→Go.WideElems.rd prog 3 RV x=some (Lit.int .i64 a,.held x.val):=by
  rintro⟨k,v,c⟩ _ a rfl ha;exact hrd a v ha c
 refine⟨es,clock,h1,⟨by omega,h2,λx hx=>?_⟩,hlen,?_⟩
 ·obtain⟨p,hp,e⟩:=hent x hx
  exact⟨_,hone x hx p.1 e (h4 p hp)⟩
 ·unfold Mi
  apply List.ext_getElem?
  intro i;have oL:=congrArg (·[i]?) h3;simp only[dA]at oL⊢
  cases he:es.toList[i]? with
  | none=>
    rw[he]at oL;cases hk:kv[i]? with
    | none=>rfl
    | some p=>rw[hk]at oL;cases oL
  | some x=>
    rw[he]at oL;cases hk:kv[i]? with
    | none=>rw[hk]at oL;cases oL
    | some p=>
      rw[hk]at oL;simp only[Option.map_some,Option.some.injEq,Prod.mk.injEq]at oL
      have:=hone x (List.mem_of_getElem? he) p.1 oL.1 (h4 p (List.mem_of_getElem? hk));simp only[Option.map_some,Go.WideElems.rg,this,Option.getD_some,oL.2]
theorem Mp.Z8{w:World}{b:Nat}{kv:List (Int×Value)}(h:Mp nV w b kv)(hl:kv.length≤maxLen):w.ownsMap prog 3 RV b kv.length (DV kv):=by
 obtain⟨es,clock,h1,h2,h3,h4⟩:=h.Z7 hl;exact⟨es,clock,h1,h2,by omega,by rw[h4];rfl⟩
theorem Z9{w:World}{b:Nat}{kv:List (Int×Value)}(h:Mp nV w b kv)(hl:kv.length≤maxLen){x:Int}{c:Value}(hx:(Lit.int .i64 x).wf=true)(hat:∀zd,(DV kv).atKey (.int .i64 x) zd=.held c):dD kv x=some c:=by
 obtain⟨es,clock,h1,h2,h3,h4⟩:=h.Z7 hl;have hr:=Go.Maps.fit_rising mM h2;rw[h4]at hr;obtain⟨k1,k2⟩:=atKey_sorted (Mi kv) hr (.int .i64 x) trivial;by_cases hm:∃p∈Mi kv,p.1=.int .i64 x
 ·obtain⟨p,hp,e⟩:=hm
  have:=(k2 p hp e .nil).symm.trans (hat .nil);obtain⟨q,hq,rfl⟩:=List.mem_map.1 hp;simp only at e this
  injection e with _ e
  injection this with this
  subst e;rw[←this];exact nW h.nodup hq
 ·have hn:∀p∈Mi kv,p.1≠ .int .i64 x:=λp hp e=>hm ⟨p,hp,e⟩
  have:=(k1 hn .nil).symm.trans (hat .nil);cases this
theorem Xe{kv:List (Int×Value)}{x:Int}(hx:(dD kv x).isSome=true):Maps.has (DV kv) (.int .i64 x)=true:=by
 obtain⟨p,hp,e⟩:=List.mem_map.1 (kD.1 hx);refine List.any_eq_true.2 ⟨(.int .i64 p.1,.held p.2),mem_sorted.2 (List.mem_map.2 ⟨p,hp,rfl⟩),?_⟩;rw[e];exact WideAt.sameKey_self (a:=.int .i64 x) trivial
theorem Eg(a b:Int):(Lit.int .i64 a).sameKey (.int .i64 b)=decide (a=b):=by
 by_cases h:a=b
 ·subst h
  rw[WideAt.sameKey_self (a:=.int .i64 a) trivial];simp
 ·have:(Lit.int .i64 a).sameKey (.int .i64 b)=false:=by
   cases hs:(Lit.int .i64 a).sameKey (.int .i64 b)
   ·rfl
   ·have:=WideAt.sameKey_eq hs
    injection this with _ this
    exact absurd this h
  rw[this];simp[h]
def over(m s:aU):aU:=λn=>if (s n).isSome=true then s n else m n
def vZ(m s:aU)(left:Lit→Bool):aU:=λn=>if (s n).isSome=true∧left (.int .i64 n)=false then s n else m n
theorem ab7{key:Value}{kl:Lit}(h:keyOf prog 3 key=some kl):∃x,key=.int .i64 x:=by
 obtain⟨x,h,_⟩:=Maps.keyOf_int_inv underlying3 h;exact⟨x,h⟩
theorem PR(db sb:Nat)(m s:aU)(w:World)(hd:Sp w db m)(hs:Sp w sb s)(hne:db≠sb)(hb:∀n,256≤n→s n=none)(hwf:∀n p,s n=some p→p.bytes.length=256) :
 Calls prog 101 #[.map (some db),.map (some sb)] w λe w'=>e=.returned (.tuple #[])∧Sp w' db (over m s)∧Keep (λq=>q=db) w w':=by
 obtain⟨kv,hmp,hget,hpos⟩:=hs;have hl:kv.length≤maxLen:=by
  have h1:=(Sp.keys hb hmp hget hpos).length_eq;have h2:=eU s;simp only[fJ]at h1
  unfold maxLen;omega
 have hown:=hmp.Z8 hl;have hdl:=hd.lt;have hsl:=hmp.lt;have HG:=xh hget;have HM:=xh hmp;have HP:=xh hpos;have HB:=xh hb;have HW:=xh hwf;have HL:=xh hl;clear hget hmp hpos hb hwf hl;have hz:∀w,(zeroValue 187).run prog w=.ok (.agg Pg.zero.cells.toArray) w:=pE;obtain⟨zs,hzs⟩:∃zs:List Value,zs=Pg.zero.cells:=⟨_,rfl⟩;have hzl:zs.length=257:=by rw[hzs];simp[Pg.cells,Pg.zero]
 rw[←hzs]at hz;have oH:=xh hzl;clear hzs hzl;go_enter func101,ntmps101
 go_wp2_with (first
  | (at_range;refine wpList_range_own _ rfl _ 113 rfl 3 187 mM underlying113 _ sb kv.length _ rfl hown ?_;intro w0 hrg0 hg0 hs0)
  | go_in)
 go_frame
 go_loopw [4] (λ_ wr=>∃(left:Lit→Bool) (cnt:Nat),wr.ranges prog 3 RV sb w.heap.size kv.length (DV kv) left cnt∧Sp wr db (vZ m s left)∧Keep (λq=>q=db) w wr)
  (λ_ wr=>wr.rangeLeft sb w.heap.size)
 case atStart=>
  refine⟨_,_,hrg0,?_,⟨hg0.os,hg0.tape,hg0.output,hg0.size,λi hi _=>hg0.block i hi (by simp)⟩⟩;have e:vZ m s (Maps.has (DV kv))=m:=by
   funext n
   refine if_neg ?_;rintro⟨h1,h2⟩;rw[Xe (by rw[HG.o n,Option.isSome_map];exact h1)]at h2;cases h2
  rw[e];exact hd.of_block (hg0.block db hdl (by simp))
 case round=>
  obtain⟨left,cnt,hrg,hsp,hkr⟩:=hrel
  go_wp2_with (first
   | (at_next;refine wpList_next_ranges _ rfl _ rfl 3 mM RV (Value.int .i64) id (λkey kl h=>ab7 h) (λv y h=>⟨v,rfl⟩) sb w.heap.size kv.length _ _ _ rfl hrg ?_ ?_)
   | go_in)
  ·intro _ hl0
   go_wp2
   go_end0
   have e:vZ m s left=over m s:=by
    funext n
    unfold vZ over;simp[hl0]
   exact⟨rfl,by rw[←e];exact hsp,hkr⟩
  ·intro x c kl y yp w1 cnt1 hkey hlx hR hat hrg1 hlt hg1 hs1 hen
   obtain⟨x',ex,rfl,hwx⟩:=Maps.keyOf_int_inv underlying3 hkey;cases ex
   have hy:y=.held c:=by
    have:=congrArg (Option.map Prod.fst) hR
    simpa [RV]using this.symm
   subst hy;have uH:=Z9 HM.o HL.o hwx hat;obtain⟨n,rfl⟩:∃n:Nat,x=n:=by
    have hm:=kD.1 (by rw[uH];rfl:(dD kv x).isSome=true);obtain⟨q,hq,rfl⟩:=List.mem_map.1 hm;exact Int.eq_ofNat_of_zero_le (HP.o q hq)
   rw[HG.o n]at uH;obtain⟨p,hp,rfl⟩:=Option.map_eq_some_iff.1 uH;have hpw:=HW.o n p hp;have VU:n<256:=by
    refine Classical.byContradiction λhc=>?_;rw[HB.o n (by omega)]at hp;cases hp
   have HX:=xh (And.intro hlx hp);have ab8:=xh hrg;have Xf:=xh hrg1;have HLT:=xh hlt;have kr1:Keep (λq=>q=db) w w1:=hkr.aY (S:=λq=>q=db) (S':=λq=>q=w.heap.size) ⟨hg1.os,hg1.tape,hg1.output,hg1.size,λi hi hn=>hg1.block i hi (by simpa using λe=>hn e)⟩ (λi hi=>.inr (by omega));have sp1:Sp w1 db (vZ m s left):=hsp.of_block (hg1.block db hsp.lt (by simp;omega));obtain⟨cs,hcs⟩:=e_x p.cells;have hpv:p.v=.agg cs.toArray:=by rw[←hcs];rfl
   have hcl:cs.length=257:=by rw[←hcs];simp[Pg.cells,hpw]
   have hone:∀v∈cs,v.oneCell'=true:=by rw[←hcs];exact Pg.cells_one _
   have TA:=xh hpv;have bG:=xh kr1;have HS1:=xh sp1;rw[hpv]at hen⊢;have iV:=xh hcl;have zW:=xh hone;clear hs1 uH hp hpw hlx hR hat hrg1 hlt hg1 kr1 sp1 hcs hcl hone hpv hsp hkey hrg
   go_wp2_with (first
    | (refine aG rfl 187 (.tmp 5) (.tmp 12) rfl rfl w1.heap.size cs zs 187 (Blk.new w1 zs _) rfl rfl (by rw[iV.o];kernel_rfl) (oH.o.trans iV.o.symm) zW.o ?_;intro w2 B2 K2;have k12:Bel w1 w2:=(Below.aF w1 _).trans (K2.below _ (by simp) (λk hk=>by omega));have rF:=xh k12;clear k12 K2)
    | (refine wpList_load_mid rfl 187 (.tmp 5) rfl w1.heap.size 0 rfl cs _ (by have:=B2.out.range 0;simpa using this) underlying187 rfl (by rw[iV.o];kernel_rfl) ?_
       obtain⟨es,clock,hup,zX,hk4⟩:=(HS1.o.bel rF.o).update n (by omega) p;rw[TA.o]at hup;have Xg:=xh zX;have oM:=xh hk4;clear zX hk4;generalize hw4:Go.ChangeMaps.setBlock w2 db (.map es clock)=w4 at *
       clear hw4))
   have aaa:=(Xf.o.kept (w':=w2) (row:=none) ⟨rF.o.os,rF.o.tape,rF.o.output,rF.o.size,λi hi _=>rF.o.block i hi⟩ (by simp) (by simp)).kept (w':=w4) (row:=some db) ⟨oM.o.os,oM.o.tape,oM.o.output,oM.o.size,λi hi hn=>oM.o.block i hi (by simpa using hn)⟩ (by simpa using λe=>hne e.symm) (by simp;omega);have aab:=xh aaa;clear aaa
   go_roundw
   case rel=>
    refine⟨_,cnt1,aab.o,?_,bG.o.tr ((Keep.of_bel _ rF.o).tr oM.o)⟩;have e:vZ m s (λz=>left z&&!z.sameKey (.int .i64 n))=λi=>if i=n then some p else vZ m s left i:=by
     funext i
     unfold vZ;simp only[Eg]
     by_cases hi:i=n
     ·subst hi
      simp[HX.o.2]
     ·rw[if_neg hi]
      have:decide ((i:Int)=n)=false:=by simp;omega
      rw[this];simp
    rw[e];exact Xg.o
   case measure=>rw[aab.o.left_eq,ab8.o.left_eq];exact HLT.o
end
section
open Go.Proofs.Tryz Go.RowKit Go.Maps
theorem CF(w:World):Calls prog 178 #[()] w (Z.e (.tuple #[(),eD 2]) w):=by
 go_enter func178,ntmps178;go_wp2
 go_ret2
 exact⟨rfl,rfl⟩
theorem Nc(w:World):Calls prog 99 #[()] w (Z.e (.tuple #[.map none,.int .u64 0,eD 2]) w):=by
 go_enter func99,ntmps99;go_wp2_with (go_at_call 178;((with_reducible refine au (CF _) ?_);rintro e w1 ⟨rfl,hh⟩;subst hh))
 go_ret3
 exact⟨rfl,rfl⟩
theorem Nf:gW []=2:=by
 unfold gW;rw[if_pos (by rfl)]
theorem QE(w:World)(bv:Value)(L:List Int)(h:Rw w bv L)(hl:L.length≤200000)(hfix:gN w) :
 Calls prog 99 #[bv] w λe w'=>Bel w w'∧(gW L≠0→e=.returned (.tuple #[.map none,.int .u64 0,eD (gW L:Nat)]))∧(gW L=0→∃mb,e=.returned (.tuple #[.map (some mb),.int .u64 (aO L 24 8),.nilIface])∧w.heap.size≤mb∧Sp w' mb (eO L)):=by
 rcases h.2 with⟨rfl,rfl⟩|⟨g,cap,cur,rfl,hb,h1,h2,h3,h4⟩
 ·refine(Nc w).mono ?_
  rintro e w' ⟨rfl,rfl⟩;rw[Nf];exact⟨Bel.refl _,λ_=>rfl,λh=>by cases h⟩
 ·have hbt:iL w g 0 L:=⟨λi hi=>by
   rw[Nat.zero_add,hb.cell];have:=congrArg (·[i]?) h4;simp only[List.getElem?_take,if_pos hi,dA]at this
   exact this,h.1⟩
  refine(Ng g cap L w hbt h1 hl hfix).mono ?_;rintro e w' ⟨k,hr⟩;refine⟨k,λh0=>hr.err h0,λh0=>?_⟩;obtain⟨l1,l2,l3,l4⟩:=yL h0;exact hr.ok l1 l2 l3 l4
theorem Sp.heap{w:World}{b:Nat}{m:aU}(h:Sp w b m)(hm:∀n,256≤n→m n=none):∃es clock,w.heap[b]?=some (.map es clock)∧es.size=(az m).length:=by
 obtain⟨kv,h1,h2,h3⟩:=h;have hk:=(Sp.keys hm h1 h2 h3).length_eq;obtain⟨es,clock,hb,_,he,_⟩:=h1;have:=congrArg List.length he;simp only[fJ,Array.length_toList]at this hk
 exact⟨es,clock,hb,by omega⟩
theorem Sp.ne_of{w:World}{a b n:Nat}{m s:aU}(h:Sp w a m)(k:Sp w b s)(h1:m n=none)(h2:(s n).isSome=true):a≠b:=by
 rintro rfl;obtain⟨kv,⟨es,c,hb,_,he,_⟩,hg,_⟩:=h;obtain⟨kv2,⟨es2,c2,hb2,_,he2,_⟩,hg2,_⟩:=k;rw[hb]at hb2;cases hb2
 rw[he]at he2;have e:kv=kv2:=by
  refine(List.map_inj_right λp q hpq=>?_).1 he2;simp only[Prod.mk.injEq]at hpq
  exact Prod.ext (nV.inj _ _ hpq.1) hpq.2
 have h3:=hg n;rw[e,hg2 n,h1]at h3;cases hs:s n with
 | none=>rw[hs]at h2;cases h2
 | some p=>rw[hs]at h3;cases h3
theorem run_len_map{P:Program}{t k e ty:TypeId}(ht:P.underlying t=some (.map k e)){b:Nat}{es:Array MapEntry}{clock:Nat}{w:World}(hb:w.heap[b]?=some (.map es clock)) :
 (Builtin.len_ #[t] ty #[.map (some b)]).run P w=.ok (.int .i64 es.size) w:=by
 simp[Builtin.len_,run_underlying ht,MapKept.run_getObj_map hb,goInt]
theorem ER{P:Program}{t k e ty:TypeId}(ht:P.underlying t=some (.map k e)){w:World}:(Builtin.len_ #[t] ty #[.map none]).run P w=.ok (.int .i64 0) w:=by
 simp[Builtin.len_,run_underlying ht,goInt]
def SpO(w:World)(mo:Option Nat)(m:aU):Prop:=match mo with
 | none=>m=λ_=>none
 | some b=>Sp w b m
theorem IP(m:aU)(ss:List ByteArray):over m (aR dB (l7 ss))=aQ m ss:=by
 funext n
 unfold over aQ aR dB;by_cases h:n=254∨n=255
 ·rw[if_pos h,if_pos h];rfl
 ·rw[if_neg h,if_neg h];rfl
def LZ(E sp:Int)(mb:Nat):List Value:=.int .u64 E::(List.replicate 15 (Value.int .u64 0)++[.int .u64 sp,.map (some mb)])
def Ac(E:Int)(mb:Nat):List Value:=.int .u64 E::(List.replicate 16 (Value.int .u64 0)++[.map (some mb)])
theorem QF(E:Int)(mb:Nat):∀v∈Ac E mb,v.oneCell'=true:=by
 intro v hv;simp[Ac]at hv
 rcases hv with rfl|rfl|rfl<;>rfl
theorem Nh(E:Int)(mb:Nat):prog.built 115 [(0,.int .u64 E),(2,.map (some mb))]=some (Ac E mb).toArray:=by kernel_rfl
def QG(w:World)(kb pb:Nat)(kc pc:List Value)(c:Nat)(B:List Int)(ss:List ByteArray)(sp:Int)(used own:Nat)(e:Ending)(w':World):Prop:=
 (c≠0→e=.returned (eD (c:Nat))∧Bel w w')∧(c=0→e=.returned .nilIface∧∃mb,w.heap.size≤mb∧Sp w' mb (aQ (eO B) ss)∧Keep (λq=>q=kb∨q=pb) w w'∧
  Blk w' kb (kc.set 9 (.int .i64 (used-own+((az (eO B)).length+2):Nat))) 111∧Blk w' pb (LZ (aO B 24 8) sp mb++pc.drop 18) 120)
theorem L8(kb tb pb:Nat)(A:bB)(T:List Pn)(mi mb mf own used:Nat)(kc pc:List Value)(nm:ByteArray)(sv:Value)(GK:Bool)(sp:Int)(ss:List ByteArray)(mo:Option Nat)(ms:aU)(w:World)(h:PT w tb A T mi mb)(hk:Blk w kb kc 111)(hkl:10≤kc.length)(h6:kc[6]?=some (.pointer (tb,0)))(h9:kc[9]?=some (.int .i64 used))(h1:kc[1]?=some (.int .i64 mf))(ZT:mf≤1000)(hus:used≤100000)(hown:own≤used)
 (hp:Blk w pb pc 120)(hpl:pc.length=31)(h17:pc[17]?=some (.map mo))(hms:SpO w mo ms)(hmo:(az ms).length=own)(hmb:∀n,256≤n→ms n=none)(hs:nm.size≤1000000)(hmx:dZ w)(hfix:gN w)
 (hst:∀W,Bel w W→Calls prog 100 #[sv] W λe w'=>Bel W w'∧(GK=true→∃mb,e=.returned (.tuple #[.map (some mb),.int .u64 sp,.nilIface])∧Sp w' mb (aR dB (l7 ss)))∧(GK=false→∃v,e=.returned (.tuple #[v,.int .u64 0,eD 6]))) :
 Calls prog 57 #[kb,pb,nm,sv] w λe w'=>QG w kb pb kc pc (iF (aH T) nm.data.toList GK own used mf) (dY (aH T) nm.data.toList) ss sp used own e w':=by
 have hf:=λW (hW:Bel w W)=>yN tb A T _ nm W (h.bel hW).block (h.bel hW).tree hs (hmx.bel hW);have hold:=jS (L:=aH T) (s:=nm.data.toList) h.tree.isRoot;have c6:w.cell? (kb,6)=some (.pointer (tb,0)):=(hk.cell 6).trans h6;unfold iF dY;obtain⟨d,x,n,c,hr⟩:∃d x n c,ay (aH T) nm.data.toList=(d,x,n,c):=⟨_,_,_,_,rfl⟩;simp only[hr]at hf hold⊢
 have HT:=xh h;have HK:=xh (And.intro hk (And.intro h9 h1));have HP:=xh (And.intro hp h17);have Ux:=xh (And.intro hms (And.intro hmo hmb));have HST:=xh hst;have HFX:=xh hfix;clear h hk h9 h1 hp h17 hms hmo hmb hst hr hfix hmx h6;by_cases hc:c=0
 ·subst hc
  rw[if_neg (by simp)];have hle:=hold rfl;rw[jM]at hle;have hf2:=λW hW=>(hf W hW).mono λe w' k=>And.intro (k.1.trans (by rw[wI,if_pos rfl];rfl):e=.returned (.tuple #[.agg (tY A d x n).toArray,.nilIface])) k.2;have HF:=xh hf2;clear hf hf2 hold;simp only[tY]at HF
  rw[show A.ptr d=.pointer (A.at_ d)from rfl]at HF;generalize A.at_ d=ad at *
  by_cases hn:n=0
  ·subst hn
   rw[if_pos rfl];rw[show A.ptr 0=.pointer none from rfl]at HF;go_enter func57,ntmps57;go_wp2_with (go_at_call 95;((with_reducible refine au (HF.o _ (Bel.refl _)) ?_);rintro e w1 ⟨rfl,k1⟩;have bG:=xh k1;clear k1))
   go_ret
   exact⟨λ_=>⟨rfl,bG.o.ac _⟩,λh=>by cases h⟩
  ·rw[if_neg hn]
   obtain⟨i,hi⟩:∃i,n=i+1:=⟨n-1,by omega⟩;subst hi;have hx:=bP (l:=T) (i:=i) (by omega);generalize T[i]'(by omega)=y at *
   have hny:(aH T)[i]?=some y.nd:=IQ hx;rw[Nat.add_sub_cancel,hny];simp only[Option.map_some,Option.getD_some]
   rw[show y.nd.dir=y.dir from rfl,show y.nd.byt=y.byt from rfl];rw[show A.ptr (i+1)=.pointer (A.nb (i+1),0)from rfl]at HF;have HB:=xh (HT.o.tree.node i y hx);have HRW:=xh (HT.o.tree.aN i y hx);have hbl:y.byt.length≤200000:=by
    have h1:y.nd.byt.length≤bN (aH T):=by
     unfold bN;exact jG (List.mem_map.2 ⟨y.nd,List.mem_of_getElem? hny,rfl⟩)
    have h2:=HT.o.small;have h3:=HT.o.mb;have h4:y.nd.byt.length=y.byt.length:=rfl;omega
   have HDR:=xh λW (hW:Bel w W)=>qz (A.nb (i+1)) (y.map A (i+1)) W ((HB.o.bel hW).cell 2);have Tg:=xh λW (hW:Bel w W)=>(show W.cell? (A.nb (i+1),3)=some y.bv from(HB.o.bel hW).cell 3);have hmd:(y.map A (i+1)).isSome=y.dir:=by unfold Pn.map;cases y.dir<;>rfl
   rw[hmd]at HDR;obtain⟨nb,hnb⟩:=e_x (A.nb (i+1));rw[hnb]at HF HDR Tg;have Ti:=xh hnb;clear hx hny hmd hnb hle hn;cases nu:y.dir with
   | true=>
     rw[nu]at HDR;clear nu;rw[if_pos rfl];go_enter func57,ntmps57
     go_wp2_with (first
      | (go_at_call 95;((with_reducible refine au (HF.o _ (Bel.refl _)) ?_);rintro e w1 ⟨rfl,k1⟩;have bG:=xh k1;clear k1))
      | (go_at_call 92;((with_reducible refine au (HDR.o _ (bG.o.ac _)) ?_);rintro e w2 ⟨rfl,hh⟩;subst hh)))
     go_ret
     exact⟨λ_=>⟨rfl,bG.o.ac _⟩,λh=>by cases h⟩
   | false=>
     rw[nu]at HDR;clear nu;rw[if_neg (by simp)];have QA:=xh λW (hW:Bel w W)=>QE W y.bv y.byt (HRW.o.bel hW) hbl (HFX.o.bel hW);by_cases hl:gW y.byt=0
     ·rw[if_neg (by simpa using hl)]
      have QH:=xh λW (hW:Bel w W)=>(QA.o W hW).mono λe w' k=>And.intro k.1 (k.2.2 hl);have hok:=uR HRW.o.1 hl;have ji:=xh hok;clear hl hok QA;cases GK with
      | false=>
        rw[if_pos rfl];have HSF:=xh λW (hW:Bel w W)=>(HST.o W hW).mono λe w' k=>And.intro k.1 (k.2.2 rfl);go_enter func57,ntmps57
        go_wp2_with (first
         | (go_at_call 95;((with_reducible refine au (HF.o _ (Bel.refl _)) ?_);rintro e w1 ⟨rfl,k1⟩;have c3:=Tg.o _ (k1.ac (.cells #[.pointer ad,.string x,nb] 240));have bG:=xh k1;clear k1))
         | (go_at_call 92;((with_reducible refine au (HDR.o _ (bG.o.ac _)) ?_);rintro e w2 ⟨rfl,hh⟩;subst hh))
         | (go_at_call 99;((with_reducible refine au (QH.o _ (bG.o.ac _)) ?_);rintro e w2 ⟨k2,db,rfl,hdb,hsp⟩;have gq:=xh ((bG.o.ac _).tr k2);have CG:=xh (And.intro (aV (bG.o.ac _).size hdb) hsp);clear k2 hdb hsp))
         | (go_at_call 100;((with_reducible refine au (HSF.o _ gq.o) ?_);rintro e w3 ⟨k3,v,rfl⟩;have jm:=xh (gq.o.tr k3);clear k3)))
        go_ret
        exact⟨λ_=>⟨rfl,jm.o⟩,λh=>by cases h⟩
      | true=>
        rw[if_neg (by simp)];have XG:=xh λW (hW:Bel w W)=>(HST.o W hW).mono λe w' k=>And.intro k.1 (k.2.1 rfl);obtain⟨B,hB⟩:=e_x y.byt;rw[hB]at QH ji⊢;obtain⟨m,hm⟩:=e_x (eO B);rw[hm]at QH ji⊢;have HM:=xh hm;obtain⟨Ev,hEv⟩:=e_x (aO B 24 8);rw[hEv]at QH;have HEV:=xh hEv;have aaI:=lD m ss ji.o.2;have hN:(az (aQ m ss)).length=(az m).length+2:=by rw[aaI];simp
        have hN0:=eU m;obtain⟨N,hNN⟩:=e_x ((az m).length+2);have HN:=xh (And.intro (hN.trans hNN) hNN);have Xc:=xh λ(W:World) (db sb:Nat) (h1:Sp W db m) (h2:Sp W sb (aR dB (l7 ss)))=>PR db sb m (aR dB (l7 ss)) W h1 h2 (h1.ne_of h2 (ji.o.2 254 (by omega)) (by simp[aR,dB])) (λn hn=>by simp[aR,dB];omega) (λn p hp=>by
         obtain⟨q,_,rfl⟩:=Option.map_eq_some_iff.1 hp;simp)
        have aeo:N≤258:=by omega
        have HX:Hid ((if mf<used-own+(az m).length+2 then 7 else 0)=if mf<used-own+N then 7 else 0):=xh (by rw[←hNN,Nat.add_assoc]);rw[HX.o];obtain⟨ec,qW⟩:=e_x ((if mf<used-own+N then 7 else 0));rw[qW];have Km:=xh qW;clear qW hB hm hEv aaI hN hN0 hNN;go_enter func57,ntmps57
        go_upto_region 15 with(first
         | (go_at_call 95;((with_reducible refine au (HF.o _ (Bel.refl _)) ?_);rintro e w1 ⟨rfl,k1⟩;have c3:=Tg.o _ (k1.ac (.cells #[.pointer ad,.string x,nb] 240));have bG:=xh k1;clear k1))
         | (go_at_call 92;((with_reducible refine au (HDR.o _ (bG.o.ac _)) ?_);rintro e w2 ⟨rfl,hh⟩;subst hh))
         | (go_at_call 99;((with_reducible refine au (QH.o _ (bG.o.ac _)) ?_);rintro e w2 ⟨k2,db,rfl,hdb,hsp⟩;have gq:=xh ((bG.o.ac _).tr k2);have CG:=xh (And.intro (aV (bG.o.ac _).size hdb) hsp);clear k2 hdb hsp))
         | (go_at_call 100;((with_reducible refine au (XG.o _ gq.o) ?_);rintro e w3 ⟨k3,sb,rfl,hsb⟩;have jm:=xh (gq.o.tr k3);have uO:=xh (And.intro hsb (CG.o.2.bel k3));clear k3 hsb))
         | (go_at_call 101;((with_reducible refine au (Xc.o _ _ _ uO.o.2 uO.o.1) ?_);rintro e w4 ⟨rfl,hs4,k4⟩;have H4:=xh (And.intro hs4 k4);clear hs4 k4)))
        have hkb:=HK.o.1.lt;have hpb:=HP.o.1.lt;have hdb:=CG.o.1;have HKK:=xh ((HK.o.1.bel jm.o).keep H4.o.2 (λe=>by have e:kb=db:=e;omega));have Tj:=xh ((HP.o.1.bel jm.o).keep H4.o.2 (λe=>by have e:pb=db:=e;omega));have hs4:Sp w4 db (aQ m ss):=by rw[←IP];exact H4.o.1
        have hlow:∀n,256≤n→aQ m ss n=none:=λn hn=>by
         unfold aQ;rw[if_neg (by omega)];exact ji.o.2 n (by omega)
        obtain⟨es,clock,hes,ES⟩:=hs4.heap hlow;rw[HN.o.1]at ES;have Xg:=xh hs4;have hl1:∀n,(Builtin.len_ #[113] 3 #[.map (some db)]).run prog (w4.drewN n)=.ok (.int .i64 (N:Nat)) (w4.drewN n):=λn=>by
         have:=run_len_map (ty:=3) underlying113 (w:=w4.drewN n) hes;rw[ES]at this;exact this
        have hl2:∀n,(Builtin.len_ #[113] 3 #[.map mo]).run prog (w4.drewN n)=.ok (.int .i64 (own:Nat)) (w4.drewN n):=λn=>by
         cases mo with
         | none=>
           have e:ms=λ_=>none:=Ux.o.1;have e2:own=0:=by rw[←Ux.o.2.1,e];rfl
           rw[e2];exact ER (ty:=3) underlying113
         | some b=>
           have e:Sp w b ms:=Ux.o.1;have hb:=e.lt;obtain⟨es,clock,hes,ES⟩:=((e.bel jm.o).keep H4.o.2 (λh=>by have h:b=db:=h;omega)).heap Ux.o.2.2;have:=run_len_map (ty:=3) underlying113 (w:=w4.drewN n) hes;rw[ES,Ux.o.2.1]at this;exact this
        have c9:w4.cell? (kb,9)=some (.int .i64 used):=(HKK.o.cell 9).trans HK.o.2.1;have c1:w4.cell? (kb,1)=some (.int .i64 mf):=(HKK.o.cell 1).trans HK.o.2.2;have c17:w4.cell? (pb,17)=some (.map mo):=(Tj.o.cell 17).trans HP.o.2;have xO:=xh λk=>(L9 kb used mf ((N:Int)-own) (w4.drewN k) c9 c1 (by omega) (by omega) (by omega));have hw1:IntKind.i64.wrap ((N:Int)-(own:Int))=(N:Int)-(own:Int):=by rw[IntKind.wrap_i64];omega
        clear hes ES hs4 hlow;by_cases hroom:(used:Int)+((N:Int)-own)≤mf
        ·go_quiet ((go_at_call 102;exact Calls.quiet_of (xO.o _)))
         have k5:Bel w4 (w4.drewN nq):=ah (Bel.refl _) nq;go_upto_region 17 with fail
         have hl1:=hl1 (nq+1);have hl2:=hl2 (nq+1);rw[show w4.drewN (nq+1)=(w4.drewN nq).drew from rfl]at hl1 hl2;generalize w4.drewN nq=w5 at *
         have kd:Bel w4 w5.drew:=k5.tr (Bel.drew (Bel.refl _));have acJ:(Builtin.len_ #[113] 3 #[.map (some db)]).run prog {heap:=w5.heap,tape:=w5.tape,drawn:=w5.drawn+1,os:=w5.os,output:=w5.output}=.ok (.int .i64 (N:Nat)) {heap:=w5.heap,tape:=w5.tape,drawn:=w5.drawn+1,os:=w5.os,output:=w5.output}:=hl1;have acK:(Builtin.len_ #[113] 3 #[.map mo]).run prog {heap:=w5.heap,tape:=w5.tape,drawn:=w5.drawn+1,os:=w5.os,output:=w5.output}=.ok (.int .i64 (own:Nat)) {heap:=w5.heap,tape:=w5.tape,drawn:=w5.drawn+1,os:=w5.os,output:=w5.output}:=hl2;have c9:=aa k5 c9;have c17:=aa k5 c17;go_still_tail 16,(by kernel_rfl)
         change wpList _ _ _ _ _ w5.drew
         generalize w5.drew=w6 at *
         have c9:w6.cell? (kb,9)=some (.int .i64 used):=((HKK.o.bel kd).cell 9).trans HK.o.2.1;have c17:w6.cell? (pb,17)=some (.map mo):=((Tj.o.bel kd).cell 17).trans HP.o.2;have f9:=(HKK.o.bel kd).frozen;have hl6:=(HKK.o.bel kd).lt;have gJ:=xh kd;have Ni:Hid (prog.built 115 [(0,.int .u64 Ev),(2,.map (some db))]=some (Ac Ev db).toArray):=xh (Nh Ev db);clear hl1 hl2 acJ acK kd k5 xO c1 c3;go_upto_region 18 with fail
         have K7:=Keep.setCell w6 kb 9 (.int .i64 ((used:Int)+((N:Int)-(own:Int))));have B7:=(HKK.o.bel gJ.o).setCell (o:=9) (.int .i64 ((used:Int)+((N:Int)-(own:Int))));have P7:=(Tj.o.bel gJ.o).keep K7 (λe=>by have e:pb=kb:=e;subst e;exact Tj.o.ne HKK.o (by decide) rfl);have uW:=xh (And.intro B7 (And.intro P7 K7));clear c9 c17 f9 hl6 B7 P7 K7 hw1;generalize w6.setCell (kb,9) (.int .i64 ((used:Int)+((N:Int)-(own:Int))))=w7 at *
         have hth:w7.there pb 0 18:=λj hj=>⟨by rw[uW.o.2.1.cell,bP (by omega)];rfl,uW.o.2.1.frozen _⟩;have HTH:=xh hth;clear hth
         go_upto_region 19 with(first
          | (refine wpList_buildTo rfl 115 _ rfl (some 95) rfl _ (by simp only[List.map_toArray,List.map_cons,List.map_nil];exact Ni.o) ?_)
          | (refine wpList_store_mid rfl 115 (.tmp 97) (.tmp 95) rfl pb 0 (Ac Ev db).toArray rfl rfl HTH.o (by kernel_rfl) (all_oneCell_toArray (QF Ev db)) ?_))
         have P8:=uW.o.2.1.setCells 0 (Ac Ev db) (by simp[Ac];omega);have k8:=Keep.setCells w7 pb 0 (Ac Ev db);have B8:=uW.o.1.keep k8 (λe=>by have e:kb=pb:=e;subst e;exact Tj.o.ne HKK.o (by decide) rfl);generalize w7.setCells pb 0 (Ac Ev db)=w8 at *
         have c16:w8.cell? (pb,1+15)=some (.int .u64 0):=by rw[P8.cell];rfl
         have aeV:w8.cell? (pb,16)=some (.int .u64 0):=c16;have f16:=P8.frozen;have hp8:=P8.lt;have H8:=xh (And.intro B8 (And.intro P8 k8));clear B8 P8 k8;go_wp2_with fail
         go_ret
         have he0:ec=0:=by rw[←Km.o,if_neg (by omega)]
         refine⟨λh=>absurd he0 h,λ_=>⟨rfl,db,hdb,?_,?_,?_,?_⟩⟩
         ·rw[HM.o]
          have e1:=(Xg.o.bel gJ.o).keep uW.o.2.2 (λe=>by have e:db=kb:=e;omega);have e2:=e1.keep H8.o.2.2 (λe=>by have e:db=pb:=e;omega);exact e2.keep (Keep.setCell w8 pb 16 (.int .u64 sp)) (λe=>by have e:db=pb:=e;omega)
         ·have e1:Keep (λq=>q=kb∨q=pb) w w4:=(Keep.of_bel _ jm.o).aY H4.o.2 (λq h=>.inr (by have h:q=db:=h;omega))
          exact(((e1.tr (Keep.of_bel _ gJ.o)).tr (uW.o.2.2.mono λq h=>.inl h)).tr (H8.o.2.2.mono λq h=>.inr h)).tr ((Keep.setCell w8 pb 16 (.int .u64 sp)).mono λq h=>.inr h)
         ·have e1:=H8.o.1.keep (Keep.setCell w8 pb 16 (.int .u64 sp)) (λe=>by have e:kb=pb:=e;subst e;exact Tj.o.ne HKK.o (by decide) rfl)
          rw[HM.o,HN.o.2];rw[show((used-own+N:Nat):Int)=(used:Int)+((N:Int)-(own:Int))from by omega];exact e1
         ·have e1:=H8.o.2.1.setCell (o:=16) (.int .u64 sp)
          have e2:(splice pc 0 (Ac Ev db)).set 16 (.int .u64 sp)=LZ (aO B 24 8) sp db++pc.drop 18:=by
           rw[HEV.o];rfl
          rw[←e2];exact e1
        ·go_quiet ((go_at_call 102;exact Calls.quiet_of (xO.o _)))
         have hb4:Bel w w4:=((Keep.of_bel (λ_=>False) jm.o).aY H4.o.2 (λq h=>.inr (by have h:q=db:=h;omega))).below _ (bH _) (λq h=>h.elim);have ow:=xh (ah hb4 nq);go_wp2_with fail
         go_ret
         have he7:ec=7:=by rw[←Km.o,if_pos (by omega)]
         exact⟨λ_=>⟨by rw[he7];rfl,ow.o⟩,λh=>by rw[he7]at h;cases h⟩
     ·rw[if_pos hl]
      obtain⟨ec,qW⟩:=e_x (gW y.byt);rw[qW]at hl QA⊢;have hcb:((ec:Int)==0)=false:=bK (by omega);have Km:=xh hl;clear hl qW;go_enter func57,ntmps57
      go_wp2_with (first
       | (go_at_call 95;((with_reducible refine au (HF.o _ (Bel.refl _)) ?_);rintro e w1 ⟨rfl,k1⟩;have c3:=Tg.o _ (k1.ac (.cells #[.pointer ad,.string x,nb] 240));have bG:=xh k1;clear k1))
       | (go_at_call 92;((with_reducible refine au (HDR.o _ (bG.o.ac _)) ?_);rintro e w2 ⟨rfl,hh⟩;subst hh))
       | (go_at_call 99;((with_reducible refine au (QA.o _ (bG.o.ac _)) ?_);rintro e w2 ⟨k2,h2,_⟩;obtain rfl:=h2 Km.o;have gq:=xh ((bG.o.ac _).tr k2);clear k2 h2)))
      go_ret
      exact⟨λ_=>⟨rfl,gq.o⟩,λh=>absurd h Km.o⟩
 ·rw[if_pos hc]
  have hcb:((c:Int)==0)=false:=bK (by omega);have hf2:=λW hW=>(hf W hW).mono λe w' k=>And.intro (k.1.trans (by rw[wI,if_neg hc]):e=.returned (.tuple #[.agg #[.pointer none,.string ⟨#[]⟩,.pointer none],eD c])) k.2;have HF:=xh hf2;have HC:=xh hc;clear hf hf2 hold hc;go_enter func57,ntmps57;go_wp2_with (go_at_call 95;((with_reducible refine au (HF.o _ (Bel.refl _)) ?_);rintro e w1 ⟨rfl,k1⟩;have bG:=xh k1;clear k1))
  go_ret
  exact⟨λ_=>⟨rfl,bG.o.ac _⟩,λh=>absurd h HC.o⟩
end
section
open Go.Proofs.Tryz Go.RowKit
theorem TE(l:dN)(v:Value)(w:World)(h:l.vY=false) :
 Calls prog 32 #[.agg (kC l).toArray,v] w (Z.b (.tuple #[.pointer none,eD 6]) w):=by
 obtain⟨a,b,c,d,e⟩:=l;have h':a<1∨(¬a<1∧16<a)∨(¬a<1∧¬16<a∧b<1)∨(¬a<1∧¬16<a∧¬b<1∧1000<b):=by
  simp only[dN.vY,decide_eq_false_iff_not]at h
  omega
 clear h;simp only[kC]
 rcases h' with h1|⟨h1,h2⟩|⟨h1,h2,h3⟩|⟨h1,h2,h3,h4⟩
 all_goals
  go_enter func32,ntmps32;go_wp2
  go_ret2
  exact⟨rfl,Bel.start w _⟩
theorem TF(l:dN)(v:Value)(w:World)(h:l.vY=true)(hb:l.okB=false) :
 Calls prog 32 #[.agg (kC l).toArray,v] w (Z.b (.tuple #[.pointer none,eD 6]) w):=by
 obtain⟨a,b,c,d,e⟩:=l;obtain⟨h1,h2,h3,h4⟩:¬a<1∧¬16<a∧¬b<1∧¬1000<b:=by
  simp only[dN.vY,decide_eq_true_eq]at h
  omega
 have hb':c<0∨(¬c<0∧100000<c)∨(¬c<0∧¬100000<c∧d<0)∨(¬c<0∧¬100000<c∧¬d<0∧100000<d)∨(¬c<0∧¬100000<c∧¬d<0∧¬100000<d∧e<0)∨(¬c<0∧¬100000<c∧¬d<0∧¬100000<d∧¬e<0∧100000<e):=by
  simp only[dN.okB,decide_eq_false_iff_not]at hb
  omega
 clear h hb;simp only[kC]
 rcases hb' with g1|⟨g1,g2⟩|⟨g1,g2,g3⟩|⟨g1,g2,g3,g4⟩|⟨g1,g2,g3,g4,g5⟩|⟨g1,g2,g3,g4,g5,g6⟩
 ·go_enter func32,ntmps32
  go_wp2
  refine wp_loop_rounds 4 ?_;rw[rounds_succ];go_wp2
  go_ret2
  exact⟨rfl,(Bel.start w _).ac _⟩
 ·go_enter func32,ntmps32
  go_wp2
  refine wp_loop_rounds 4 ?_;rw[rounds_succ];go_wp2
  go_ret2
  exact⟨rfl,(Bel.start w _).ac _⟩
 ·go_enter func32,ntmps32
  go_wp2
  refine wp_loop_rounds 4 ?_;rw[rounds_succ];go_wp2
  rw[rounds_succ];go_wp2
  go_ret2
  exact⟨rfl,(Bel.start w _).ac _⟩
 ·go_enter func32,ntmps32
  go_wp2
  refine wp_loop_rounds 4 ?_;rw[rounds_succ];go_wp2
  rw[rounds_succ];go_wp2
  go_ret2
  exact⟨rfl,(Bel.start w _).ac _⟩
 ·go_enter func32,ntmps32
  go_wp2
  refine wp_loop_rounds 4 ?_;rw[rounds_succ];go_wp2
  rw[rounds_succ];go_wp2
  rw[rounds_succ];go_wp2
  go_ret2
  exact⟨rfl,(Bel.start w _).ac _⟩
 ·go_enter func32,ntmps32
  go_wp2
  refine wp_loop_rounds 4 ?_;rw[rounds_succ];go_wp2
  rw[rounds_succ];go_wp2
  rw[rounds_succ];go_wp2
  go_ret2
  exact⟨rfl,(Bel.start w _).ac _⟩
theorem Ca(a b:Int)(w:World)(h:a<1):Calls prog 53 #[a,b] w (Z.e (.tuple #[.pointer none,eD 12]) w):=by
 go_enter func53,ntmps53;go_wp2
 go_ret2
 exact⟨rfl,rfl⟩
theorem TG(l:dN)(v:Value)(w:World)(h:l.vY=true)(hb:l.okB=true)(hd:l.d=0) :
 Calls prog 32 #[.agg (kC l).toArray,v] w (Z.b (.tuple #[.pointer none,eD 12]) w):=by
 obtain⟨a,b,c,d,e⟩:=l;obtain⟨h1,h2,h3,h4⟩:¬a<1∧¬16<a∧¬b<1∧¬1000<b:=by
  simp only[dN.vY,decide_eq_true_eq]at h
  omega
 obtain⟨g1,g2,g3,g4,g5,g6⟩:¬c<0∧¬100000<c∧¬d<0∧¬100000<d∧¬e<0∧¬100000<e:=by
  simp only[dN.okB,decide_eq_true_eq]at hb
  omega
 have hd1:d<1:=by show d<1;simp only at hd;omega
 clear h hb hd;simp only[kC]
 go_enter func32,ntmps32;go_wp2_with fail
 refine wp_loop_rounds 4 ?_;rw[rounds_succ];go_wp2_with fail
 rw[rounds_succ];go_wp2_with fail
 rw[rounds_succ];go_wp2_with fail
 rw[rounds_succ];go_wp2_with (go_at_call 53;((with_reducible refine au (Ca _ _ _ hd1) ?_);rintro e2 w1 ⟨rfl,hh⟩;subst hh))
 go_ret2
 exact⟨rfl,(Bel.start w _).ac _⟩
end
section
open Go.Proofs.Tryz Go.RowKit Go.Maps
noncomputable def nD:jY prog 3 Int:=Pj underlying3
def qX(a b c d e:Int)(pm tb ob cb:Nat)(frames now:Int)(sl:Value):List Value:=[.int .i64 a,.int .i64 b,.int .i64 c,.int .i64 d,.int .i64 e,.map (some pm),.pointer (tb,0),.pointer (ob,0),.pointer (cb,0),.int .i64 frames,.int .i64 now,sl]
structure oV(w:World)(F:List av)(v:Value):Prop where
 n:F.length≤1000
 row:∃p c,v=.slice p F.length c∧∀(i:Nat) (f:av),F[i]?=some f→∃g,p=some ⟨g,0,none⟩∧w.rangeAt g (i*3) [.string f.path,.bool f.dir,.slice f.p f.byt.length f.cap]
 byt:∀f∈F,BS w f.p f.byt∧f.byt.length≤f.cap∧f.byt.length≤200000∧f.path.size≤1000000∧∀b o,f.p=some ⟨b,o,none⟩→b<w.heap.size
structure Pk(w:World)(a b c:Int)(mi mb:Nat)(kb pm tb ob cb:Nat)(A:bB)(T:List Pn)(fds:Nat):Prop where
 fk:Blk w kb (qX a b c mi mb pm tb ob cb 0 0 (.slice none 0 0)) 111
 fm:Mp nD w pm []
 fo:Blk w ob [(0:Int),.int .i64 c] 222
 fc:Blk w cb [.int .i64 fds,(),()] 151
 tree:PT w tb A T mi mb
 Zd:¬jC tb A T pm
def xu(cb:Nat):Value:=.iface 107 (.pointer (cb,0))
def sS(pid parent state status wake:Int)(fds:List Value):List Value:=[.int .i64 pid,.int .i64 parent,.int .i64 state,.int .i64 status,.int .i64 wake]++fds
def ZU(cb:Nat):List Value:=[xu cb,xu cb,xu cb,.nilIface,.nilIface,.nilIface,.nilIface,.nilIface]
def rE(w':World)(kb:Nat)(a b c:Int)(mi mb:Nat)(F:List av):Prop:=
 ∃(pm tb ob cb pb sb:Nat) (A:bB) (T:List Pn),Blk w' kb (qX a b c mi mb pm tb ob cb (((az (eO (dY (aH T) dL))).length+2:Nat):Int) 0 (.slice none 0 0)) 111∧Mp nD w' pm [(1,.pointer (pb,0))]∧
  Blk w' ob [(0:Int),c] 222∧Blk w' cb [.int .i64 (3:Nat),(),()] 151∧PT w' tb A T mi mb∧aH T=(bu mi mb [cZ] F).2∧
  Blk w' pb (LZ (aO (dY (aH T) dL) 24 8) (jX (aJ bQ) 1) sb++sS 1 0 0 0 0 (ZU cb)) 120∧Sp w' sb (aQ (eO (dY (aH T) dL)) bQ)
def di(w':World)(B:Nat)(kb:Nat)(a b c:Int)(mi mb:Nat)(F:List av):Prop:=
 ∃(pm tb ob cb pb sb:Nat) (A:bB) (T:List Pn),Blk w' kb (qX a b c mi mb pm tb ob cb (((az (eO (dY (aH T) dL))).length+2:Nat):Int) 0 (.slice none 0 0)) 111∧Mp nD w' pm [(1,.pointer (pb,0))]∧
  Blk w' ob [(0:Int),c] 222∧Blk w' cb [.int .i64 (3:Nat),(),()] 151∧PT w' tb A T mi mb∧aH T=(bu mi mb [cZ] F).2∧
  Blk w' pb (LZ (aO (dY (aH T) dL) 24 8) (jX (aJ bQ) 1) sb++sS 1 0 0 0 0 (ZU cb)) 120∧Sp w' sb (aQ (eO (dY (aH T) dL)) bQ)∧(∀q,jC tb A T q→B≤q)∧B≤cb∧B≤kb∧B≤pb∧B≤sb∧B≤ob∧B≤pm
def Pm(w:World)(a b c:Int)(mi mb:Nat)(F:List av)(e:Ending)(w':World):Prop:=
 Bel w w'∧(aW ⟨a,b,c,mi,mb⟩ F≠0→e=.returned (.tuple #[.pointer none,eD (aW ⟨a,b,c,mi,mb⟩ F:Nat)]))∧(aW ⟨a,b,c,mi,mb⟩ F=0→∃kb:Nat,e=.returned (.tuple #[kb,.nilIface])∧w.heap.size≤kb∧di w' w.heap.size kb a b c mi mb F)
theorem Mp.aT(w:World){n:Nat}(hn:w.heap.size=n):Mp nD (w.alloc (.map #[] 0)) n []:=hn▸Mp.new nD w
def yj:List Value:=.int .u64 0::(List.replicate 16 (Value.int .u64 0)++[.map none,.int .i64 1,.int .i64 0,.int .i64 0,.int .i64 0,.int .i64 0,.nilIface,.nilIface,.nilIface,.nilIface,.nilIface,.nilIface,.nilIface,.nilIface])
theorem G9:prog.built 120 [(1,.int .i64 1)]=some yj.toArray:=by kernel_rfl
def yl(cb k:Nat):List Value:=yj.take 23++(List.replicate k (xu cb)++List.replicate (8-k) .nilIface)
theorem Po(cb k:Nat)(h:k<3):(yl cb k)[23+k]?=some .nilIface:=by
 have:k=0∨k=1∨k=2:=by omega
 rcases this with rfl|rfl|rfl<;>rfl
theorem L6(cb k:Nat)(h:k<3):(yl cb k).set (23+k) (xu cb)=yl cb (k+1):=by
 have:k=0∨k=1∨k=2:=by omega
 rcases this with rfl|rfl|rfl<;>rfl
theorem Pk.keep{w w':World}{a b c:Int}{mi mb kb pm tb ob cb p:Nat}{A:bB}{T:List Pn}{fds:Nat}(h:Pk w a b c mi mb kb pm tb ob cb A T fds)(k:Keep (λq=>q=p) w w')(h1:p≠kb)(h2:p≠pm)(h3:p≠ob)(h4:p≠cb)(h5:∀q,jC tb A T q→¬q=p):Pk w' a b c mi mb kb pm tb ob cb A T fds:=
 ⟨h.fk.keep k λe=>h1 e.symm,h.fm.of_block (k.block _ h.fm.lt λe=>h2 e.symm),h.fo.keep k λe=>h3 e.symm,h.fc.keep k λe=>h4 e.symm,h.tree.keep k h5,h.Zd⟩
theorem Pk.bel{w w':World}{a b c:Int}{mi mb kb pm tb ob cb:Nat}{A:bB}{T:List Pn}{fds:Nat}(h:Pk w a b c mi mb kb pm tb ob cb A T fds)(k:Bel w w'):Pk w' a b c mi mb kb pm tb ob cb A T fds:=⟨h.fk.bel k,h.fm.bel k,h.fo.bel k,h.fc.bel k,h.tree.bel k,h.Zd⟩
theorem He(a b c:Int)(mi mb:Nat)(F:List av)(v:Value)(w:World)(hF:oV w F v)(h:(⟨a,b,c,mi,mb⟩:dN).vY=true)(hb:(⟨a,b,c,mi,mb⟩:dN).okB=true)(hd:mi≠0)(hmx:dZ w)(hfix:gN w) :
 Calls prog 32 #[.agg (kC ⟨a,b,c,mi,mb⟩).toArray,v] w λe w'=>Pm w a b c mi mb F e w':=by
 obtain⟨h1,h2,h3,h4⟩:¬a<1∧¬16<a∧¬b<1∧¬1000<b:=by
  simp only[dN.vY,decide_eq_true_eq]at h
  omega
 obtain⟨g1,g2,g3,g4,g5,g6⟩:¬c<0∧¬100000<c∧¬(mi:Int)<0∧¬(100000:Int)<mi∧¬(mb:Int)<0∧¬(100000:Int)<mb:=by
  simp only[dN.okB,decide_eq_true_eq]at hb
  omega
 have hd1:1≤mi:=by omega
 have Kk:mi≤100000:=by omega
 have hmb:mb≤100000:=by omega
 have HF:=xh hF;have HMX:=xh hmx;have HFX:=xh hfix;clear h hb hd hF hmx hfix;have hmm:∀w,(Instr.makeMap 103 none).run prog w=.ok (.map (some w.heap.size)) (w.alloc (.map #[] 0)):=λw=>by kernel_rfl
 simp only[kC]
 go_enter func32,ntmps32;go_wp2_with fail
 refine wp_loop_rounds 4 ?_;rw[rounds_succ];go_wp2_with fail
 rw[rounds_succ];go_wp2_with fail
 rw[rounds_succ];go_wp2_with fail
 rw[rounds_succ];go_upto_region 12 with(go_at_call 53;((with_reducible refine au (Ec mi mb _ hd1 Kk hmb) ?_);rintro e2 w1 ⟨⟨tb,A,rfl,hpt,hft⟩,k1⟩;have mY:=xh (And.intro hpt hft);have bG:=xh (((Bel.start w _).ac _).tr k1);have l0:=aa k1 (((Blk.new w [a,b,c,.int .i64 mi,.int .i64 mb] 23).alloc (.cells #[c,.int .i64 mi,.int .i64 mb] 3)).cell 0);have l1:=aa k1 (((Blk.new w [a,b,c,.int .i64 mi,.int .i64 mb] 23).alloc (.cells #[c,.int .i64 mi,.int .i64 mb] 3)).cell 1);have l2:=aa k1 (((Blk.new w [a,b,c,.int .i64 mi,.int .i64 mb] 23).alloc (.cells #[c,.int .i64 mi,.int .i64 mb] 3)).cell 2);have l3:=aa k1 (((Blk.new w [a,b,c,.int .i64 mi,.int .i64 mb] 23).alloc (.cells #[c,.int .i64 mi,.int .i64 mb] 3)).cell 3);have l4:=aa k1 (((Blk.new w [a,b,c,.int .i64 mi,.int .i64 mb] 23).alloc (.cells #[c,.int .i64 mi,.int .i64 mb] 3)).cell 4);clear hpt hft k1))
 obtain⟨H,hH⟩:=e_x w.heap.size;rw[hH]at l0 l1 l2 l3 l4⊢;have HH:=xh hH;clear hH
 go_cut [10] (λs10 wx=>∃kb:Nat,s10=.pointer (kb,0)∧Hid (∃pm ob cb,Pk wx a b c mi mb kb pm tb ob cb A [nS] 0∧w1.heap.size≤kb∧w1.heap.size≤pm∧w1.heap.size≤ob∧w1.heap.size≤cb∧Bel w1 wx))
 case first=>
  have l0:w1.cell? (H,0)=some (.int .i64 a):=l0;have l1:w1.cell? (H,1)=some (.int .i64 b):=l1;have l2:w1.cell? (H,2)=some (.int .i64 c):=l2;have l3:w1.cell? (H,3)=some (.int .i64 mi):=l3;have l4:w1.cell? (H,4)=some (.int .i64 mb):=l4;have hHl:H<w1.heap.size:=World.block_lt_of_cell? _ _ l0;go_region_held3 (λw'=>w'.cell? ⟨H,0,none⟩=some (.int .i64 a)∧w'.cell? ⟨H,1,none⟩=some (.int .i64 b)∧w'.cell? ⟨H,2,none⟩=some (.int .i64 c)∧w'.cell? ⟨H,3,none⟩=some (.int .i64 mi)∧w'.cell? ⟨H,4,none⟩=some (.int .i64 mb)) (first|(go_keep;done)) ((go_at_call 54;((with_reducible refine au (Cb c _) ?_);rintro e3 w3 ⟨⟨ob,rfl,Cc,bob⟩,k3⟩;have m0:w3.cell? ⟨H,0,none⟩=some (.int .i64 a):=aa k3 (by go_split_ands;assumption);have m1:w3.cell? ⟨H,1,none⟩=some (.int .i64 b):=aa k3 (by go_split_ands;assumption);have m2:w3.cell? ⟨H,2,none⟩=some (.int .i64 c):=aa k3 (by go_split_ands;assumption);have m3:w3.cell? ⟨H,3,none⟩=some (.int .i64 mi):=aa k3 (by go_split_ands;assumption);have m4:w3.cell? ⟨H,4,none⟩=some (.int .i64 mb):=aa k3 (by go_split_ands;assumption);have aey:H<w3.heap.size:=World.block_lt_of_cell? _ _ m0;have uT:=xh (And.intro Cc (And.intro bob k3));clear Cc bob k3)))
  all_goals go_wp2_with fail
  all_goals go_meet
  ·have hz:=uT.o.2.2
   have k3:Bel w1 w3:=((Bel.start w1 (.map #[] 0)).drew).tr hz;have hz3:=k3.size;have Cc:=uT.o.1;have kf:=(k3.ac (.cells #[(0:Int),(),()] 151)).ac (.cells (qX a b c mi mb (w1.heap.size) tb ob (w3.heap.size) 0 0 (.slice none 0 0)).toArray 111);refine⟨_,rfl,xh ⟨w1.heap.size,ob,w3.heap.size,⟨Blk.aT _ _ _ (by simp),(((Mp.new nD w1).bel ((Bel.drew (Bel.refl _)).tr hz)).alloc _).alloc _,(uT.o.2.1.alloc _).alloc _,(Blk.new w3 [(0:Int),(),()] _).alloc _,mY.o.1.bel kf,λhq=>by have h8:=mY.o.1.fE hq;omega⟩,?_,?_,?_,?_,kf⟩⟩;all_goals first|omega|(simp at Cc⊢;omega)
  ·have hz:=uT.o.2.2
   have k3:Bel w1 w3:=(((Bel.start w1 (.map #[] 0)).ac (.cells #[(0:Int),(),()] 151)).drew).tr hz;have hz3:=k3.size;have Cc:=uT.o.1;have kf:=k3.ac (.cells (qX a b c mi mb (w1.heap.size) tb ob (w1.heap.size+1) 0 0 (.slice none 0 0)).toArray 111);refine⟨_,rfl,xh ⟨w1.heap.size,ob,w1.heap.size+1,⟨Blk.new w3 _ _,(((Mp.new nD w1).alloc _).bel ((Bel.drew (Bel.refl _)).tr hz)).alloc _,uT.o.2.1.alloc _,((Blk.aT (w1.alloc (.map #[] 0)) [(0:Int),(),()] 151 (n:=w1.heap.size+1) (by simp)).bel ((Bel.drew (Bel.refl _)).tr hz)).alloc _,mY.o.1.bel kf,λhq=>by have h8:=mY.o.1.fE hq;omega⟩,?_,?_,?_,?_,kf⟩⟩;all_goals first|omega|(simp at Cc⊢;omega)
  ·have hz:=uT.o.2.2
   have k3:Bel w1 w3:=(Bel.drew (Bel.refl w1)).tr hz;have hz3:=k3.size;have Cc:=uT.o.1;have kf:=((k3.ac (.map #[] 0)).ac (.cells #[(0:Int),(),()] 151)).ac (.cells (qX a b c mi mb (w3.heap.size) tb ob (w3.heap.size+1) 0 0 (.slice none 0 0)).toArray 111);refine⟨_,rfl,xh ⟨w3.heap.size,ob,w3.heap.size+1,⟨Blk.aT _ _ _ (by simp),((Mp.new nD w3).alloc _).alloc _,((uT.o.2.1.alloc _).alloc _).alloc _,(Blk.aT (w3.alloc (.map #[] 0)) [(0:Int),(),()] 151 (n:=w3.heap.size+1) (by simp)).alloc _,mY.o.1.bel kf,λhq=>by have h8:=mY.o.1.fE hq;omega⟩,?_,?_,?_,?_,kf⟩⟩;all_goals first|omega|(simp at Cc⊢;omega)
  ·have hz:=uT.o.2.2
   have k3:Bel w1 w3:=(Bel.drew (Bel.refl w1)).tr hz;have hz3:=k3.size;have Cc:=uT.o.1;have kf:=((k3.ac (.cells #[(0:Int),(),()] 151)).ac (.map #[] 0)).ac (.cells (qX a b c mi mb (w3.heap.size+1) tb ob (w3.heap.size) 0 0 (.slice none 0 0)).toArray 111);refine⟨_,rfl,xh ⟨w3.heap.size+1,ob,w3.heap.size,⟨Blk.aT _ _ _ (by simp),(Mp.aT (w3.alloc (.cells #[(0:Int),(),()] 151)) (n:=w3.heap.size+1) (by simp)).alloc _,((uT.o.2.1.alloc _).alloc _).alloc _,((Blk.new w3 [(0:Int),(),()] 151).alloc _).alloc _,mY.o.1.bel kf,λhq=>by have h8:=mY.o.1.fE hq;omega⟩,?_,?_,?_,?_,kf⟩⟩;all_goals first|omega|(simp at Cc⊢;omega)
  ·have hz:=uT.o.2.2
   have k3:Bel w1 w3:=(((Bel.start w1 (.cells #[(0:Int),(),()] 151)).ac (.map #[] 0)).drew).tr hz;have hz3:=k3.size;have Cc:=uT.o.1;have kf:=k3.ac (.cells (qX a b c mi mb (w1.heap.size+1) tb ob (w1.heap.size) 0 0 (.slice none 0 0)).toArray 111);refine⟨_,rfl,xh ⟨w1.heap.size+1,ob,w1.heap.size,⟨Blk.new w3 _ _,((Mp.aT (w1.alloc (.cells #[(0:Int),(),()] 151)) (n:=w1.heap.size+1) (by simp)).bel ((Bel.drew (Bel.refl _)).tr hz)).alloc _,uT.o.2.1.alloc _,(((Blk.new w1 [(0:Int),(),()] 151).alloc _).bel ((Bel.drew (Bel.refl _)).tr hz)).alloc _,mY.o.1.bel kf,λhq=>by have h8:=mY.o.1.fE hq;omega⟩,?_,?_,?_,?_,kf⟩⟩;all_goals first|omega|(simp at Cc⊢;omega)
  ·have hz:=uT.o.2.2
   have k3:Bel w1 w3:=((Bel.start w1 (.cells #[(0:Int),(),()] 151)).drew).tr hz;have hz3:=k3.size;have Cc:=uT.o.1;have kf:=(k3.ac (.map #[] 0)).ac (.cells (qX a b c mi mb (w3.heap.size) tb ob (w1.heap.size) 0 0 (.slice none 0 0)).toArray 111);refine⟨_,rfl,xh ⟨w3.heap.size,ob,w1.heap.size,⟨Blk.aT _ _ _ (by simp),(Mp.new nD w3).alloc _,(uT.o.2.1.alloc _).alloc _,(((Blk.new w1 [(0:Int),(),()] 151).bel ((Bel.drew (Bel.refl _)).tr hz)).alloc _).alloc _,mY.o.1.bel kf,λhq=>by have h8:=mY.o.1.fE hq;omega⟩,?_,?_,?_,?_,kf⟩⟩;all_goals first|omega|(simp at Cc⊢;omega)
 case rest=>
  obtain⟨kb,rfl,hka⟩:=hcut;obtain⟨pm,ob,cb,hK,hkb,hpm,Cc,hcb,hbc⟩:=hka.out;obtain⟨pv,pc,rfl,hrow⟩:=HF.o.row;have hn:=HF.o.n;have eZ:=xh hrow;have hbw:Bel w wc:=bG.o.tr hbc;have hz1:=bG.o.size;have HK:=xh hK;have oK:=xh hbw;have HFT:Hid (∀q,jC tb A [nS] q→w.heap.size≤q):=xh λq hq=>by
   have h1:=mY.o.2 q hq;simp at h1
   omega
  have ZV:w.heap.size≤kb:=by omega
  have ab0:w.heap.size≤cb:=by omega
  have ab1:w.heap.size≤ob:=by omega
  have ab2:w.heap.size≤pm:=by omega
  have hbe:aW ⟨a,b,c,mi,mb⟩ F=if (bu mi mb [cZ] F).1≠0 then(bu mi mb [cZ] F).1 else iF (bu mi mb [cZ] F).2 dL true 0 0 b.toNat:=by
   have e1:(⟨a,b,c,mi,mb⟩:dN).vY=true:=by simp only[dN.vY,decide_eq_true_eq];omega
   have e2:(⟨a,b,c,mi,mb⟩:dN).okB=true:=by simp only[dN.okB,decide_eq_true_eq];omega
   unfold aW;rw[if_neg (by rw[e1];simp),if_neg (by rw[e2];simp),if_neg (by show ¬(mi:Int)=0;omega)];rfl
  have OO:=xh hbe;clear hka hrow hK hkb hpm Cc hcb hbc hbw hbe hmm;go_wp2_with fail
  go_loopw [79] (λi wr=>∃(k:Nat) (A':bB) (T':List Pn),k≤F.length∧i=.int .i64 k∧Pk wr a b c mi mb kb pm tb ob cb A' T' 0∧bu mi mb [cZ] F=bu mi mb (aH T') (F.drop k)∧(∀q,jC tb A' T' q→w.heap.size≤q)∧Bel w wr) (λi _=>F.length-(intOf i).toNat)
  case atStart=>exact⟨0,A,[nS],Nat.zero_le _,rfl,HK.o,rfl,HFT.o,oK.o⟩
  case round=>
   obtain⟨k,A',T',hk,rfl,hka,hfl,hft,hbr⟩:=hrel;have sU:=xh hka;have TB:=xh hfl;have TH:=xh hft;have Au:=xh hbr;clear hka hfl hft hbr;by_cases hlt:k<F.length
   ·have hf:=bP hlt
    have hdr:F.drop k=F[k]::F.drop (k+1):=List.drop_eq_getElem_cons hlt;obtain⟨g,rfl,cf⟩:=eZ.o k F[k] hf;obtain⟨hb1,hb2,hb3,hb4,hb5⟩:=HF.o.byt F[k] (List.getElem_mem hlt);generalize F[k]=f at *
    have HDR:=xh hdr;have c0:wr.cell? (g,k*3)=some (.string f.path):=aa Au.o (cf 0 _ rfl);have c1:wr.cell? (g,k*3+1)=some (.bool f.dir):=aa Au.o (cf 1 _ rfl);have c2:wr.cell? (g,k*3+2)=some (.slice f.p f.byt.length f.cap):=aa Au.o (cf 2 _ rfl);have hfa:=λW (hW:Bel wr W)=>Pq kb tb A' T' mi mb f.path f.dir f.p f.cap f.byt W (sU.o.tree.bel hW) (aa hW (sU.o.fk.cell 6)) (sU.o.tree.oW sU.o.fk (by decide) (by decide) (by decide)) ((hb1.iZ (Keep.of_bel (λ_=>False) Au.o) (λ_ _ _ h=>h)).iZ (Keep.of_bel (λ_=>False) hW) (λ_ _ _ h=>h)) hb3 (λb o hp hq=>by have h1:=TH.o b hq;have h2:=hb5 b o hp;omega) hb4 ((HMX.o.bel Au.o).bel hW);obtain⟨r,hr⟩:=e_x (jq mi mb (aH T') f.path.data.toList f.dir f.byt);rw[hr]at hfa;have HR:=xh hr;have hstep:∀W w5,Bel wr W→Keep (jC tb A' T') W w5→Bel w w5:=λW w5 hW hk=>Below.trans (Au.o.tr hW) (hk.below _ (Au.o.tr hW).size TH.o);have VO:=xh hstep;by_cases h0:r.1=0
    ·have WX:=xh λW hW=>(hfa W hW).mono λe w' k=>k.2 h0
     have hfin:∀W w5 A2 T2,Bel wr W→PT w5 tb A2 T2 mi mb→aH T2=r.2→Keep (jC tb A' T') W w5→(∀q,jC tb A2 T2 q→jC tb A' T' q∨W.heap.size≤q)→Pk w5 a b c mi mb kb pm tb ob cb A2 T2 0∧bu mi mb [cZ] F=bu mi mb (aH T2) (F.drop (k+1))∧(∀q,jC tb A2 T2 q→w.heap.size≤q):=λW w5 A2 T2 hW hp hnd hkp hft=>by
      have hnf:=λ{q:Nat} {c:List Value} {t:TypeId} (hb:Blk wr q c t) h1 h2 h3=>sU.o.tree.oW hb h1 h2 h3;refine⟨⟨(sU.o.fk.bel hW).keep hkp (hnf sU.o.fk (by decide) (by decide) (by decide)),?_,(sU.o.fo.bel hW).keep hkp (hnf sU.o.fo (by decide) (by decide) (by decide)),(sU.o.fc.bel hW).keep hkp (hnf sU.o.fc (by decide) (by decide) (by decide)),hp,λhq=>?_⟩,?_,λq hq=>?_⟩
      ·have h1:=sU.o.fm.bel hW
       exact h1.of_block (hkp.block _ h1.lt sU.o.Zd)
      ·rcases hft _ hq with h|h
       ·exact sU.o.Zd h
       ·have h1:=sU.o.fm.lt
        have h2:=hW.size;omega
      ·rw[TB.o,HDR.o,bu,if_neg (by rw[HR.o];simpa using h0),HR.o,hnd]
      ·rcases hft q hq with h|h
       ·exact TH.o q h
       ·exact aV (Au.o.tr hW).size h
     have xq:=xh hfin;clear hfa hr hf hdr cf hb1 hb2 hb3 hb4 hb5 hstep hfin h0;go_wp2_with (go_at_call 55;((with_reducible refine au (WX.o _ (Bel.start wr _)) ?_);rintro e3 w5 ⟨rfl,A2,T2,p1,p2,p3,p4⟩;have H5:=xh (And.intro p1 (And.intro p2 (And.intro p3 p4)));clear p1 p2 p3 p4))
     go_roundw
     case rel=>
      have h5:=H5.o;obtain⟨q1,q2,q3⟩:=xq.o _ w5 A2 T2 (Bel.start wr _) h5.1 h5.2.1 h5.2.2.1 h5.2.2.2;exact⟨k+1,A2,T2,by omega,by go_num,q1,q2,q3,VO.o _ _ (Bel.start wr _) h5.2.2.1⟩
     case measure=>simp[intOf]<;>omega
    ·have WX:=xh λW hW=>(hfa W hW).mono λe w' k=>k.1 h0
     obtain⟨ec,qW⟩:=e_x r.1;have ZR:Hid (aW ⟨a,b,c,mi,mb⟩ F=ec):=xh (by
      have h3:bu mi mb [cZ] F=(r.1,aH T'):=by rw[TB.o,HDR.o,bu,if_pos (by rw[HR.o];exact h0),HR.o]
      rw[OO.o,h3,if_pos h0,qW])
     rw[qW]at WX h0;have hcb0:((ec:Int)==0)=false:=bK (by omega);have HN0:=xh h0;clear hfa hr hf hdr cf hb1 hb2 hb3 hb4 hb5 hstep h0 qW;go_wp2_with (go_at_call 55;((with_reducible refine au (WX.o _ (Bel.start wr _)) ?_);rintro e3 w5 ⟨rfl,p1⟩;have H5:=xh p1;clear p1))
     go_ret2
     exact⟨VO.o _ _ (Bel.start wr _) H5.o,λ_=>by rw[ZR.o];rfl,λh=>absurd (ZR.o.symm.trans h) HN0.o⟩
   ·obtain rfl:k=F.length:=by omega
    have hfin:bu mi mb [cZ] F=(0,aH T'):=by rw[TB.o,List.drop_length];rfl
    have TC:Hid (aW ⟨a,b,c,mi,mb⟩ F=iF (aH T') dL true 0 0 b.toNat):=xh (by rw[OO.o,hfin];rfl);have HFN:=xh hfin;clear hfin;have Dz:Hid (prog.built 120 [(1,.int .i64 1)]=some yj.toArray):=xh G9;go_upto_region 24 with(refine wpList_buildTo rfl 120 _ rfl (some 90) rfl _ (by simp only[List.map_toArray,List.map_cons,List.map_nil];exact Dz.o) ?_)
    have k20:Bel wr (wr.alloc (.cells yj.toArray 120)):=Bel.start _ _;have P20:=Blk.new wr yj 120;change Code.wp _ _ _ _ (wr.alloc (.cells yj.toArray 120))
    generalize wr.alloc (.cells yj.toArray 120)=xm at *
    have VP:=sU.o.bel k20;have ZW:¬jC tb A' T' wr.heap.size:=λh=>by have:=sU.o.tree.fE h;omega
    have aez:w.heap.size≤wr.heap.size:=Au.o.size;have ZX:wr.heap.size≠kb:=by have:=sU.o.fk.lt;omega
    have ZY:wr.heap.size≠cb:=by have:=sU.o.fc.lt;omega
    have ZZ:wr.heap.size≠ob:=by have:=sU.o.fo.lt;omega
    have Z0:wr.heap.size≠pm:=by have:=sU.o.fm.lt;omega
    have hkc:kb≠cb:=sU.o.fk.ne sU.o.fc (by decide);have hoc:ob≠cb:=sU.o.fo.ne sU.o.fc (by decide);have hmc:pm≠cb:=λe=>(sU.o.fc.dJ sU.o.fm) e.symm;have hcn:¬jC tb A' T' cb:=sU.o.tree.oW sU.o.fc (by decide) (by decide) (by decide);have VQ:=xh (Au.o.tr k20);generalize wr.heap.size=pb at *
    have Z4:=xh VP;have ab3:=xh P20;have jD:=xh (And.intro ZX (And.intro ZY (And.intro ZZ (And.intro Z0 (And.intro hkc (And.intro hoc (And.intro hmc (And.intro hcn ZW))))))));clear k20 VP P20 ZX ZY ZZ Z0 hkc hoc hmc hcn ZW eZ
    go_loopw [92] (λi wx=>∃k:Nat,k≤3∧i=.int .i64 k∧Blk wx pb (yl cb k) 120∧Pk wx a b c mi mb kb pm tb ob cb A' T' k∧Keep (λq=>q=pb∨q=cb) xm wx) (λi _=>3-(intOf i).toNat)
    case atStart=>exact⟨0,by omega,rfl,ab3.o,Z4.o,Keep.refl _ _⟩
    case round=>
     obtain⟨k,hk,rfl,hpk,hkk,hkeep⟩:=hrel;have OL:=xh hpk;have HKK:=xh hkk;have VR:=xh hkeep;clear hpk hkk hkeep;by_cases hlt:k<3
     ·have c8:=HKK.o.fk.c 8 rfl
      have cp:wr.cell? (pb,23+k)=some .nilIface:=by rw[OL.o.cell];exact Po cb k hlt
      have hk0:(0:Int)≤(k:Int):=by omega
      have hk8:(k:Int)<8:=by omega
      have fp:=OL.o.frozen;have lp:=OL.o.lt;have lk:=HKK.o.fk.lt;go_upto_region 24 with fail
      go_still_tail 10,(by kernel_rfl)
      change wpList _ _ _ _ _ wr.drew
      have kd:Bel wr wr.drew:=Bel.drew (Bel.refl _);have cp:wr.drew.cell? (pb,23+k)=some .nilIface:=cp;have fp:∀o,wr.drew.frozen? ⟨pb,o,none⟩=false:=fp;generalize wr.drew=wd at *
      go_upto_region 25 with fail
      have PA:Blk (wd.setCell (pb,23+k) (xu cb)) pb (yl cb (k+1)) 120:=by
       have h1:=(OL.o.bel kd).setCell (o:=23+k) (xu cb)
       rwa [L6 cb k hlt]at h1
      have ks:=Keep.setCell wd pb (23+k) (xu cb);have Pt:Pk (wd.setCell (pb,23+k) (xu cb)) a b c mi mb kb pm tb ob cb A' T' k:=(HKK.o.bel kd).keep ks jD.o.1 jD.o.2.2.2.1 jD.o.2.2.1 jD.o.2.1 (λq hq e=>by have e:q=pb:=e;subst e;exact jD.o.2.2.2.2.2.2.2.2 hq);have Z5:Keep (λq=>q=pb∨q=cb) xm (wd.setCell (pb,23+k) (xu cb)):=(VR.o.tr (Keep.of_bel _ kd)).tr (ks.mono λq h=>.inl h);change Code.wp _ _ _ _ (wd.setCell (pb,23+k) (xu cb))
      generalize wd.setCell (pb,23+k) (xu cb)=we at *
      have d7:=Pt.fk.c 7 rfl;have d8:=Pt.fk.c 8 rfl;have hle:=Pt.fk.lt;have Za:=xh PA;have gq:=xh Pt;have ab4:=xh Z5;clear c8 cp fp lp lk kd PA ks Pt Z5;go_region_held3 (λw'=>w'.cell? ⟨kb,7,none⟩=some (.pointer (ob,0))∧w'.cell? ⟨kb,8,none⟩=some (.pointer (cb,0))) (first|(go_keep;done)) ((go_at_call 56;((with_reducible refine au (Pv (some ⟨ob,0,none⟩) cb k (.slice none 0 0) (.slice none 0 0) we.drew (gq.o.fc.bel (Bel.drew (Bel.refl _))) (by omega)) ?_);rintro e3 wf ⟨rfl,bc,kc⟩;have m7:wf.cell? ⟨kb,7,none⟩=some (.pointer (ob,0)):=(kc.cell ⟨kb,7,none⟩ hle jD.o.2.2.2.2.1).trans d7;have m8:wf.cell? ⟨kb,8,none⟩=some (.pointer (cb,0)):=(kc.cell ⟨kb,8,none⟩ hle jD.o.2.2.2.2.1).trans d8;have HFF:=xh (And.intro bc kc);clear bc kc)))
      go_wp2_with fail
      go_roundw
      case rel=>
       have hkc:=HFF.o.2;have hbd:Bel we we.drew:=Bel.drew (Bel.refl _);refine⟨k+1,by omega,by go_num,(Za.o.bel hbd).keep hkc (λe=>jD.o.2.1 e),?_,(ab4.o.tr (Keep.of_bel _ hbd)).tr (hkc.mono λq h=>.inr h)⟩;have h1:=gq.o.bel hbd;exact⟨h1.fk.keep hkc jD.o.2.2.2.2.1,h1.fm.of_block (hkc.block _ h1.fm.lt jD.o.2.2.2.2.2.2.1),h1.fo.keep hkc jD.o.2.2.2.2.2.1,HFF.o.1,h1.tree.keep hkc (λq hq e=>by have e:q=cb:=e;subst e;exact jD.o.2.2.2.2.2.2.2.1 hq),h1.Zd⟩
      case measure=>simp[intOf]<;>omega
     ·obtain rfl:k=3:=by omega
      obtain⟨es,clock,hup,hmp⟩:=HKK.o.fm.update mM underlying103 (1:Int) (WalkArith.wf_i64 (by omega)) (.pointer (pb,0));rw[show nD.kf 1=Value.int .i64 1 from rfl]at hup;have hkm:Keep (λq=>q=pm) wr (Go.ChangeMaps.setBlock wr pm (.map es clock)):=by
       obtain⟨es0,cl0,h0,_⟩:=HKK.o.fm;exact Keep.setBlock h0 _
      have c5:=HKK.o.fk.c 5 rfl;have Xb:Hid (Mp nD (Go.ChangeMaps.setBlock wr pm (.map es clock)) pm [(1,.pointer (pb,0))]):=xh hmp;have Ze:=xh hkm;clear hmp hkm;generalize hw7:Go.ChangeMaps.setBlock wr pm (.map es clock)=w7 at *
      clear hw7;go_upto_region 28 with fail
      have TI:Blk w7 kb (qX a b c mi mb pm tb ob cb 0 0 (.slice none 0 0)) 111:=HKK.o.fk.keep Ze.o (λe=>by have e:kb=pm:=e;exact(HKK.o.fk.dJ HKK.o.fm) e);have TJ:Blk w7 pb (yl cb 3) 120:=OL.o.keep Ze.o (λe=>jD.o.2.2.2.1 e);have TK:PT w7 tb A' T' mi mb:=HKK.o.tree.keep Ze.o (λq hq e=>by have e:q=pm:=e;subst e;exact HKK.o.Zd hq);have TL:Bel w wr:=Below.trans VQ.o (VR.o.below _ VQ.o.size (λq hq=>by
       rcases hq with h|h
       ·have h:q=pb:=h;omega
       ·have h:q=cb:=h;omega))
      have Pw:Bel w w7:=Below.trans TL (Ze.o.below _ TL.size (λq hq=>by have h:q=pm:=hq;omega))
      have hex:=λ(W:World) (gs:Nat) (hW:Bel w7 W) (hgs:Blk W gs [.string ⟨#[105,110,105,116]⟩] 9)=>L8 kb tb pb A' T' mi mb b.toNat 0 0 (qX a b c mi mb pm tb ob cb 0 0 (.slice none 0 0)) (yl cb 3) ⟨#[47,105,110,105,116]⟩ (.slice (gs,0) 1 1) true (jX (aJ bQ) 1) bQ none (λ_=>none) W (TK.bel hW) (TI.bel hW) (by simp[qX]) rfl rfl (by show some (Value.int .i64 b)=_;rw[Int.toNat_of_nonneg (by omega)]) (by omega) (by omega) (bH _) (TJ.bel hW) rfl rfl rfl rfl (λ_ _=>rfl) (by decide) ((HMX.o.bel Pw).bel hW) ((HFX.o.bel Pw).bel hW)
       (λW' hW'=>by
         refine(Hf (some ⟨gs,0,none⟩) 1 bQ W' (λ_=>⟨gs,0,rfl,(hgs.bel hW').lt,λj hj=>?_⟩) (by simp[bQ])).mono ?_
         ·have:j=0:=by simp[bQ]at hj;omega
          subst this;exact(hgs.bel hW').cell 0
         ·rintro e w' ⟨h1,h2,_⟩
          exact⟨h1,λ_=>h2 oZ,λh=>by cases h⟩)
      obtain⟨ec,qW⟩:=e_x (iF (aH T') dL true 0 0 b.toNat);have Px:=λ(W:World) (gs:Nat) (hW:Bel w7 W) (hgs:Blk W gs [.string ⟨#[105,110,105,116]⟩] 9)=>hex W gs hW hgs;rw[show(⟨#[47,105,110,105,116]⟩:ByteArray).data.toList=dL from rfl,qW]at Px;have Ea:Hid (aW ⟨a,b,c,mi,mb⟩ F=ec):=xh (TC.o.trans qW);have H7:=xh (And.intro TI (And.intro TJ (And.intro TK Pw)));by_cases h0:ec=0
      ·have W9:=xh λW gs hW hgs=>(Px W gs hW hgs).mono λe w' k=>k.2 h0
       have H0:=xh h0;clear hex Px qW h0 TI TJ TK Pw TL c5 hup
       go_wp2_with (first
        | (refine af rfl 66 9 (.const (.string ⟨#[105,110,105,116]⟩)) rfl [.string ⟨#[105,110,105,116]⟩] rfl underlying66 iG (by show 0<1;omega) (by show 1≤2^24;omega) ?_;intro w9 B9 K9;have oQ:Hid (Bel w7 w9):=xh K9;have DC:Hid (Blk w9 w7.heap.size [.string ⟨#[105,110,105,116]⟩] 9):=xh B9.out;clear B9 K9)
        | (go_at_call 57;((with_reducible refine au (W9.o _ _ oQ.o DC.o) ?_);rintro e2 sI ⟨rfl,h10⟩;have Kl:=xh h10;clear h10)))
       go_ret2
       obtain⟨sb,hsb,hsp,hkp,hk10,ab5⟩:=Kl.o;have Hg:Bel w w9:=H7.o.2.2.2.tr oQ.o;refine⟨Below.trans Hg (hkp.below _ Hg.size (λq hq=>by
        rcases hq with h|h
        ·have h:q=kb:=h;omega
        ·have h:q=pb:=h;omega)),λh=>absurd (Ea.o.trans H0.o) h,λ_=>⟨kb,rfl,ZV,pm,tb,ob,cb,pb,sb,A',T',?_,?_,?_,?_,?_,?_,?_,hsp,TH.o,ab0,ZV,by omega,aV Hg.size hsb,ab1,ab2⟩⟩
       ·rw[Nat.zero_add]at hk10
        exact hk10
       ·have h1:Mp nD w9 pm _:=Xb.o.bel oQ.o
        exact h1.of_block (hkp.block _ h1.lt (λh=>by
         rcases h with h|h
         ·have h:pm=kb:=h
          exact(HKK.o.fk.dJ HKK.o.fm) h.symm
         ·exact jD.o.2.2.2.1 h.symm))
       ·have h1:=(HKK.o.fo.keep Ze.o (λe=>by have e:ob=pm:=e;exact(HKK.o.fo.dJ HKK.o.fm) e)).bel oQ.o
        exact h1.keep hkp (λh=>by
         rcases h with h|h
         ·have h:ob=kb:=h
          exact HKK.o.fo.ne HKK.o.fk (by decide) h
         ·exact jD.o.2.2.1 h.symm)
       ·have h1:=(HKK.o.fc.keep Ze.o (λe=>jD.o.2.2.2.2.2.2.1 e.symm)).bel oQ.o
        exact h1.keep hkp (λh=>by
         rcases h with h|h
         ·exact jD.o.2.2.2.2.1 h.symm
         ·exact jD.o.2.1 h.symm)
       ·exact(H7.o.2.2.1.bel oQ.o).keep hkp (λq hq h=>by
         rcases h with h|h
         ·have h:q=kb:=h
          subst h;exact HKK.o.tree.oW HKK.o.fk (by decide) (by decide) (by decide) hq
         ·have h:q=pb:=h
          subst h;exact jD.o.2.2.2.2.2.2.2.2 hq)
       ·rw[HFN.o]
       ·exact ab5
      ·have W9:=xh λW gs hW hgs=>(Px W gs hW hgs).mono λe w' k=>k.1 h0
       have hcb0:((ec:Int)==0)=false:=bK (by omega);have H0:=xh h0;clear hex Px qW h0 TI TJ TK Pw TL c5 hup
       go_wp2_with (first
        | (refine af rfl 66 9 (.const (.string ⟨#[105,110,105,116]⟩)) rfl [.string ⟨#[105,110,105,116]⟩] rfl underlying66 iG (by show 0<1;omega) (by show 1≤2^24;omega) ?_;intro w9 B9 K9;have oQ:Hid (Bel w7 w9):=xh K9;have DC:Hid (Blk w9 w7.heap.size [.string ⟨#[105,110,105,116]⟩] 9):=xh B9.out;clear B9 K9)
        | (go_at_call 57;((with_reducible refine au (W9.o _ _ oQ.o DC.o) ?_);rintro e2 sI ⟨rfl,h10⟩;have Kl:=xh h10;clear h10)))
       go_ret2
       exact⟨(H7.o.2.2.2.tr oQ.o).tr Kl.o,λ_=>by rw[Ea.o];rfl,λh=>absurd (Ea.o.symm.trans h) H0.o⟩
end
end Go.Proofs.YtcnjjchlebmfiaaGreatDoor
