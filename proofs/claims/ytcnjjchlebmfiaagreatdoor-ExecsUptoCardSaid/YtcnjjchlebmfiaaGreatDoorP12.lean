/-.-/
import Derived.Test.YtcnjjchlebmfiaaGreatDoorP06
set_option linter.all false
set_option maxRecDepth 100000
set_option maxHeartbeats 16000000
namespace Go.Proofs.YtcnjjchlebmfiaaGreatDoor
section
open Go.Proofs.Tryz Go.RowKit
theorem dV.down{w:World}{A:bJ}{T:List Pn}(h:dV w A T):Down (aJ T):=λi n hn=>by
 unfold aJ at hn;rw[fA]at hn;cases hx:T[i]? with
 | none=>rw[hx]at hn;cases hn
 | some x=>
   rw[hx]at hn;simp only[Option.map_some,Option.some.injEq]at hn
   subst hn;have:=h.par i x hx;show(if x.gone then 0 else x.par)≤i
   split<;>omega
def Live(T:List Pn):Prop:=∀(i:Nat) (n:Pn),T[i]?=some n→n.gone=false→n.par≠0→∃p:Pn,T[n.par-1]?=some p∧p.gone=false
theorem NL{T:List Pn}{i:Nat}{n:Pn}(h:T[i]?=some n):(aJ T)[i]?=some n.nd:=by
 unfold aJ;rw[fA,h];rfl
theorem Qq(A:bJ)(T:List Pn)(w:World)(ht:dV w A T)(hl:T.length≤8000)(hlv:Live T)(hs:∀n∈aJ T,n.name.size≤1000)(i:Nat)(n:Pn)(hi:T[i]?=some n)(hg:n.gone=false) :
 Calls prog 91 #[A.ptr (i+1)] w (Z.e (.tuple #[strV (dW (aJ T) (i+1)),true]) w):=by
 have hlen:=yJ ht.down hs (i+1) (i+1) (bM _);have hil:i<T.length:=(bV hi).1;have hB:=ht.node i n hi;have c5:w.cell? (A.nb (i+1),5)=some (.bool false):=by rw[hB.cell];show some (Value.bool n.gone)=_;rw[hg]
 have HT:=xh ht;have HLV:=xh hlv;have HI:=xh (And.intro hi hg);have HS:=xh hs;clear ht hlv hi hg hs hB;rw[show A.ptr (i+1)=.pointer (A.nb (i+1),0)from rfl];go_enter func91,ntmps91;go_wp2_with fail
 go_loop [0,4] (λp s=>∃(k:Nat) (m:Pn) (l:List UInt8),k≤i∧Hid (T[k]?=some m∧m.gone=false)∧p=.pointer (A.nb (k+1),0)∧s=strV l∧Hid (dW (aJ T) (i+1)=dW (aJ T) (k+1)++l)) (λp _=>match p with | .pointer (some a)=>(List.range (i+1)).find? (λk=>A.nb (k+1)==a.block) |>.getD 0|_=>0)
 case atStart=>exact⟨i,n,[],bM _,HI,rfl,rfl,xh (by simp)⟩
 case round=>
  obtain⟨k,m,l,hk,HM,rfl,rfl,HL⟩:=hrel;have hll:l.length≤1001*(i+1):=by have:=congrArg List.length HL.out;simp at this;omega
  have hB:=HT.o.node k m HM.out.1;have c0:=hB.c 0 rfl;have c1:=hB.c 1 rfl;have HB:=xh hB;clear hB;by_cases h0:m.par=0
  ·have hk0:k=0:=by
    refine Classical.byContradiction λhc=>?_;have:=HT.o.top k m HM.out.1 h0 hc;rw[HM.out.2]at this;cases this
   rw[h0,show A.ptr 0=.pointer none from rfl]at c1;have HE:Hid (strV l=strV (dW (aJ T) (i+1))):=xh (by rw[HL.out,hk0,nK _ (by omega)];rfl);clear hk0 h0;go_wp2_with fail
   go_ret2
   exact⟨by rw[HE.o];rfl,rfl⟩
  ·obtain⟨q,hq,hqg⟩:=HLV.o k m HM.out.1 HM.out.2 h0
   have hpl:=HT.o.par k m HM.out.1;obtain⟨j,hj⟩:∃j,m.par=j+1:=⟨m.par-1,by omega⟩;rw[hj,show A.ptr (j+1)=.pointer (A.nb (j+1),0)from rfl]at c1;have HST:Hid (dW (aJ T) (k+1)=dW (aJ T) (j+1)++(47::m.name.data.toList)):=xh (by
    have:=jc HT.o.down (id:=k+1) (n:=m.nd) (by omega) (NL HM.out.1);rw[this];show dW _ (if m.gone then 0 else m.par)++_=_
    rw[HM.out.2,←hj];rfl)
   rw[hj,Nat.add_sub_cancel]at hq;have HQ:Hid (T[j]?=some q∧q.gone=false):=xh ⟨hq,hqg⟩;have hjk:j<k:=by omega
   have hs1:m.name.size≤1000:=HS.o m.nd (List.mem_map.2 ⟨m,List.mem_of_getElem? HM.out.1,rfl⟩);have hnn:m.name=⟨m.name.data.toList.toArray⟩:=by cases m.name;rfl
   have hns:m.name.data.toList.length≤1000:=by simpa using hs1
   obtain⟨nl,hnl⟩:=e_x m.name.data.toList;rw[hnl]at hnn HST hns;rw[hnn]at c0;have ha1:∀W:World,(Op.stringOp .add ⟨#[47]⟩ ⟨nl.toArray⟩).run prog W=.ok (.string ⟨(47::nl).toArray⟩) W:=λW=>run_string_add_lists W [47] nl (by simp) (by omega);have ha2:∀W:World,(Op.stringOp .add ⟨(47::nl).toArray⟩ ⟨l.toArray⟩).run prog W=.ok (.string ⟨((47::nl)++l).toArray⟩) W:=λW=>run_string_add_lists W (47::nl) l (by simp;omega) (by omega);have hsv:strV l=.string ⟨l.toArray⟩:=rfl;have YW:Hid (Value.string ⟨((47::nl)++l).toArray⟩=strV ((47::nl)++l)):=xh rfl;rw[hsv];generalize (⟨l.toArray⟩:ByteArray)=s1 at *
   generalize (⟨nl.toArray⟩:ByteArray)=s2 at *
   generalize (⟨(47::nl).toArray⟩:ByteArray)=s3 at *
   generalize (⟨((47::nl)++l).toArray⟩:ByteArray)=s4 at *
   have hnb:∀x,x≤i→(((List.range (i+1)).find? (λy=>A.nb (y+1)==A.nb (x+1))).getD 0)=x:=λx hx=>by
    have:(List.range (i+1)).find? (λy=>A.nb (y+1)==A.nb (x+1))=some x:=by
     rw[List.find?_eq_some_iff_append];refine⟨by simp,List.range x,(List.range (i+1)).drop (x+1),?_,λy hy=>?_⟩
     ·have e:List.range (i+1)=(List.range (i+1)).take x++(List.range (i+1)).drop x:=(List.take_append_drop _ _).symm
      rw[List.take_range,Nat.min_eq_left (by omega),List.drop_eq_getElem_cons (by simp;omega)]at e
      simpa using e
     ·have hyx:=List.mem_range.1 hy
      have:A.nb (y+1)≠A.nb (x+1):=λe=>by have:=HT.o.inj y x (by omega) (by omega) e;omega
      simpa using this
    rw[this];rfl
   have KU:=xh hnb;clear hnb hnn hsv hs1 hnl hq hqg hj h0;go_wp2_with fail
   go_round
   case rel=>exact⟨j,q,(47::nl)++l,by omega,HQ,rfl,YW.o,xh (by rw[HL.out,HST.o,List.append_assoc])⟩
   case measure=>simp only[];rw[KU.o j (by omega),KU.o k hk];exact hjk
end
section
open Go.Proofs.Tryz Go.RowKit Go.Maps Go.Sort Go.Shelf Go.MapKept
def R0U:Value→Option (DataW Unit×List MemPlace):=λ_=>some (.nil,[])
def D0E{P:Program}{k:TypeId}{α:Type}(E:kZ P k α)(kv:List (α×Value)):DataW Unit:=.map ((kv.map λp=>(E.kl p.1,.nil)).foldr DataW.insert [])
theorem Mp.afN{P:Program}{k:TypeId}{α:Type}{E:kZ P k α}{w:World}{b:Nat}{kv:List (α×Value)}(h:Mp E w b kv)(hl:kv.length≤maxLen):w.ownsMap P k R0U b kv.length (D0E E kv):=by
 obtain⟨es,clock,h1,h2,h3,h4⟩:=h;have hlen:es.size=kv.length:=by have:=congrArg List.length h3;simpa using this
 have hone:∀x∈es.toList,∀a,x.key=E.kf a→E.ok a→Go.WideElems.rd P k R0U x=some (E.kl a,.nil):=by
  rintro⟨q,v,c⟩ _ a rfl ha;simp[Go.WideElems.rd,E.read a ha,R0U]
 have hent:∀x∈es.toList,∃p∈kv,x.key=E.kf p.1:=by
  intro x hx;have hm:(x.key,x.val)∈kv.map (λp=>(E.kf p.1,p.2)):=by rw[←h3];exact List.mem_map.2 ⟨x,hx,rfl⟩
  obtain⟨p,hp,e⟩:=List.mem_map.1 hm
  injection e with e1 _
  exact⟨p,hp,e1.symm⟩
 refine⟨es,clock,h1,⟨by omega,h2,λx hx=>?_⟩,by omega,?_⟩
 ·obtain⟨p,hp,e⟩:=hent x hx
  exact⟨_,hone x hx p.1 e (h4 p hp)⟩
 ·unfold D0E
  congr 2
  apply List.ext_getElem?
  intro i;have qP:=congrArg (·[i]?) h3;simp only[fA]at qP⊢
  cases he:es.toList[i]? with
  | none=>
    rw[he]at qP;cases hk:kv[i]? with
    | none=>rfl
    | some p=>rw[hk]at qP;cases qP
  | some x=>
    rw[he]at qP;cases hk:kv[i]? with
    | none=>rw[hk]at qP;cases qP
    | some p=>
      rw[hk]at qP;simp only[Option.map_some,Option.some.injEq,Prod.mk.injEq]at qP
      have:=hone x (List.mem_of_getElem? he) p.1 qP.1 (h4 p (List.mem_of_getElem? hk));simp only[Option.map_some,Go.WideElems.rg,this,Option.getD_some]
theorem Yz(kv:List (ByteArray×Value)):(strKeys (D0E keyS kv)).Perm (kv.map λp=>p.1.data.toList):=by
 unfold D0E strKeys;have:=(Go.WideShapes.sorted_perm (kv.map λp=>(Lit.string p.1.data.toList,(.nil:DataW Unit)))).map (λp=>Go.strOf p.1);refine this.trans ?_;rw[List.map_map];exact List.Perm.refl _
theorem Kw(kv:List (ByteArray×Value)):Maps.size (D0E keyS kv)=kv.length:=by
 unfold D0E;rw[size_eq,length_sorted,jE]
theorem YA(m:Nat):AnyZ.SortsIn prog Tryz.zn Fence.wide m:=
 ⟨λblk off cap ss W hH hblk hsz=>callsIn_wide.2 (AnyM.slices_Sort_string Tryz.abv blk off cap ss W hH hblk hsz),
  λp cap W=>callsIn_wide.2 (AnyM.slices_Sort_string_none Tryz.abv p cap W)⟩
theorem Ed(mb:Option Nat)(w:World):Calls prog 173 #[.map mb] w λe w'=>e=.returned (.func (.func 249) #[] #[w.heap.size])∧w'=w.alloc (.cells #[.map mb] 232):=
 (callsIn_wide (n:=5)).1 (AnyZ.keys_in Tryz.Yc Fence.wide 5 trivial rfl mb w)
theorem Ky(q b:Nat)(kv:List (ByteArray×Value))(w:World)(hs:Mp keyS w b kv)(hl:kv.length≤1000000)(hq:q<w.heap.size)(hc:w.cell? (q,0)=some (.map (some b))) :
 Calls prog 172 #[.func (.func 249) #[] #[q]] w λe w'=>∃(v:Value) (ss:List (List UInt8)),e=.returned v∧ss.Perm (kv.map λp=>p.1.data.toList)∧
  w'.ownsRow w.heap.size 9 1 v ss.length (ss.map strV)∧Bel w w':=by
 have hmax:kv.length≤maxLen:=by unfold maxLen;omega
 have hown:=hs.afN hmax;have hseq:SeqGives Fence.wide 2 prog 249 #[q] encStr (λss=>ss.Perm (strKeys (D0E keyS kv))) (Maps.size (D0E keyS kv)) w:=
  AnyZ.keys_gives (ρ:=Tryz.yD) {Tryz.Yc with} Fence.wide _ trivial rfl (by omega) q b kv.length (D0E keyS kv) _ hq hc hown
 have cS:=AnyZ.sorted_in Tryz.Qc Fence.wide 5 trivial trivial trivial trivial rfl (by omega) (YA _) (enters_of func248 (by kernel_rfl) rfl) 249 #[q] trivial (enters_of func249 (by kernel_rfl) rfl) _ _ (by rw[Kw];exact hmax) (by rw[Kw];omega) _ hseq;refine((callsIn_wide (n:=5)).1 cS).mono ?_;rintro e w' ⟨v,ss,rfl,hS,hrow,_,hb⟩;refine⟨v,ss.mergeSort (λx y=>decide (x≤y)),rfl,(List.mergeSort_perm ss _).trans (hS.trans (Yz kv)),?_,hb⟩;rw[List.length_mergeSort];exact hrow
theorem FN(q:Nat)(w:World)(hq:q<w.heap.size)(hc:w.cell? (q,0)=some (.map none)) :
 Calls prog 172 #[.func (.func 249) #[] #[q]] w (Z.b (.slice none 0 0) w):=by
 have hseq:SeqGives Fence.wide 2 prog 249 #[q] encStr (λss:List (List UInt8)=>ss=[]) 0 w:=
  AnyZ.keys_gives_nil (ρ:=Tryz.yD) {Tryz.Yc with} Fence.wide _ trivial rfl q _ hq hc
 have cS:=AnyZ.sorted_in Tryz.Qc Fence.wide 5 trivial trivial trivial trivial rfl (by omega) (YA _) (enters_of func248 (by kernel_rfl) rfl) 249 #[q] trivial (enters_of func249 (by kernel_rfl) rfl) _ 0 (Nat.zero_le _) (by omega) _ hseq;refine((callsIn_wide (n:=5)).1 cS).mono ?_;rintro e w' ⟨v,ss,rfl,rfl,_,hnil,hb⟩;exact⟨by rw[hnil.2 rfl],hb⟩
def ru(d:Nat):Nat→List Nd→List Nat
 | _,[]=>[]
 | i,n::N=>if n.par=d then(i+1)::ru d (i+1) N else ru d (i+1) N
def nV(N:List Nd)(d:Nat):List Nat:=ru d 0 N
theorem Di(d:Nat):∀(i:Nat) (N:List Nd) (k:Nat),k∈ru d i N↔∃(j:Nat) (n:Nd),N[j]?=some n∧n.par=d∧k=i+j+1
 | i,[],k=>by simp[ru]
 | i,m::N,k=>by
   have ih:=Di d (i+1) N k;unfold ru;have hs:(∃(j:Nat) (n:Nd),(m::N)[j]?=some n∧n.par=d∧k=i+j+1)↔(m.par=d∧k=i+1)∨∃(j:Nat) (n:Nd),N[j]?=some n∧n.par=d∧k=i+1+j+1:=by
    constructor
    ·rintro⟨j,n,h1,h2,h3⟩
     cases j with
     | zero=>simp at h1;subst h1;exact .inl ⟨h2,by omega⟩
     | succ j=>exact .inr ⟨j,n,h1,h2,by omega⟩
    ·rintro(⟨h1,h2⟩|⟨j,n,h1,h2,h3⟩)
     ·exact⟨0,m,rfl,h1,by omega⟩
     ·exact⟨j+1,n,h1,h2,by omega⟩
   rw[hs];by_cases hp:m.par=d
   ·rw[if_pos hp,List.mem_cons,ih]
    constructor
    ·rintro(h|h)
     ·exact .inl ⟨hp,h⟩
     ·exact .inr h
    ·rintro(h|h)
     ·exact .inl h.2
     ·exact .inr h
   ·rw[if_neg hp,ih]
    constructor
    ·exact .inr
    ·rintro(h|h)
     ·exact absurd h.1 hp
     ·exact h
theorem oZ{N:List Nd}{d k:Nat}:k∈nV N d↔∃(j:Nat) (n:Nd),N[j]?=some n∧n.par=d∧k=j+1:=by
 unfold nV;rw[Di];simp
theorem Kz(A:bJ)(d:Nat):∀(i:Nat) (T:List Pn),gQ A d i T=(ru d i (aJ T)).map λk=>((((T[k-1-i]?).map Pn.name).getD ⟨#[]⟩),A.ptr k)
 | _,[]=>rfl
 | i,n::T=>by
   have ih:=Kz A d (i+1) T;have hm:(ru d (i+1) (aJ T)).map (λk=>(((((n::T)[k-1-i]?).map Pn.name).getD ⟨#[]⟩),A.ptr k))=(ru d (i+1) (aJ T)).map λk=>((((T[k-1-(i+1)]?).map Pn.name).getD ⟨#[]⟩),A.ptr k):=by
    apply List.map_congr_left
    intro k hk;obtain⟨j,_,_,_,rfl⟩:=(Di d (i+1) _ k).1 hk;rw[show i+1+j+1-1-i=j+1 from by omega,show i+1+j+1-1-(i+1)=j from by omega,List.getElem?_cons_succ]
   unfold gQ;simp only[aJ,List.map_cons,ru]
   by_cases hp:n.nd.par=d
   ·rw[if_pos hp,if_pos hp,List.map_cons]
    have:=ih.trans hm.symm;simp only[aJ]at this
    rw[this,show i+1-1-i=0 from by omega];rfl
   ·rw[if_neg hp,if_neg hp]
    have:=ih.trans hm.symm;simp only[aJ]at this
    exact this
theorem Ad(A:bJ)(d:Nat)(T:List Pn):kids A d T=(nV (aJ T) d).map λk=>((((T[k-1]?).map Pn.name).getD ⟨#[]⟩),A.ptr k):=Kz A d 0 T
theorem OG{w:World}{A:bJ}{T:List Pn}{d:Nat}{n:Pn}(ht:dV w A T)(hd:T[d]?=some n)(oW:n.dir=true)(k:Nat)(hk:k∈nV (aJ T) (d+1)):child (aJ T) (d+1) (((T[k-1]?).map Pn.name).getD ⟨#[]⟩)=k:=by
 have hm:((((T[k-1]?).map Pn.name).getD ⟨#[]⟩),A.ptr k)∈kids A (d+1) T:=by rw[Ad];exact List.mem_map.2 ⟨k,hk,rfl⟩
 have hg:=jL (ht.kids d n hd oW).nodup hm;have h2:=JQ A (d+1) T (((T[k-1]?).map Pn.name).getD ⟨#[]⟩);rw[hg,Option.getD_some]at h2;obtain⟨j,x,hj,_,rfl⟩:=oZ.1 hk;have hle:=wY (aJ T) (d+1) (((T[j+1-1]?).map Pn.name).getD ⟨#[]⟩);generalize child (aJ T) (d+1) (((T[j+1-1]?).map Pn.name).getD ⟨#[]⟩)=c at *
 rw[lJ]at hle;have hjl:j<T.length:=by have:=(bV hj).1;rwa [lJ]at this
 cases c with
 | zero=>simp[bJ.ptr,bJ.at_]at h2
 | succ c=>
   simp[bJ.ptr,bJ.at_]at h2
   have:=ht.inj j c hjl (by omega) h2;omega
theorem Ai(d:Nat):∀(i:Nat) (N:List Nd),(ru d i N).length≤N.length
 | _,[]=>by simp[ru]
 | i,n::N=>by
   have:=Ai d (i+1) N;unfold ru;split<;>simp<;>omega
theorem Qk:(prog.info? 218).map (λi=>(i.size,i.bytes,(i.zero.map (·.cells.size))))=some (1,8,some 1):=by kernel_rfl
def aaN(A:bJ)(N:List Nd)(d base:Nat)(e:Ending)(w':World):Prop:=∃(v:Value) (E:List Nat),e=.returned v∧E.Perm (nV N d)∧w'.ownsRow base 218 1 v E.length (E.map A.ptr)
theorem Iq(A:bJ)(T:List Pn)(d:Nat)(n:Pn)(w:World)(ht:dV w A T)(hl:T.length≤8000)(hd:T[d]?=some n)(oW:n.dir=true)(hnm:∀x∈aJ T,x.name.size≤1000) :
 Calls prog 90 #[.map (some (A.mb (d+1)))] w λe w'=>aaN A (aJ T) (d+1) w.heap.size e w'∧Bel w w':=by
 have hmp:=ht.kids d n hd oW;have hkl:=Ai (d+1) 0 (aJ T);rw[lJ]at hkl;have aj8:(kids A (d+1) T).length≤T.length:=by rw[Ad,jE];exact hkl
 have hlk:=λW (hW:Bel w W) (s:List UInt8) (hs:s.length≤1000)=>(ht.bel hW).lookup d n hd oW ⟨s.toArray⟩ (by show s.toArray.size≤maxLen;simp;unfold maxLen;omega);have HLK:=xh hlk;have HT:=xh ht;have HD:=xh (And.intro hd oW);have Ik:=xh hmp;have HNM:=xh hnm;clear ht hd oW hmp hlk hnm;go_enter func90,ntmps90
 go_wp2_with (first
  | (go_at_call 173;refine(Ed _ _).mono ?_;rintro e w1 ⟨rfl,rfl⟩)
  | (go_at_call 172;refine(Ky w.heap.size (A.mb (d+1)) (kids A (d+1) T) _ (Ik.o.alloc _) (by omega) (by simp) (by simp)).mono ?_;rintro e w2 ⟨v,ss,rfl,hss,hrow,k2⟩
     obtain⟨ps,cap,rfl,hcap,hcm,hps⟩:=aG hrow;have HSS:=xh hss;have gU:=xh hrow;have iC:Hid (Bel w w2):=xh ((Bel.start w _).tr k2);have hsl:ss.length≤8000:=by have:=hss.length_eq;simp at this;omega
     have vO:=xh hps;clear hss hrow k2 hps))
 obtain⟨el,hel⟩:∃el:List UInt8→Value,el=λx=>A.ptr (child (aJ T) (d+1) ⟨x.toArray⟩):=⟨_,rfl⟩;have HEL:=xh hel;clear hel
 go_loopw [3,10] (λl i wr=>∃k:Nat,k≤ss.length∧i=.int .i64 k∧wr.ownsRow w2.heap.size 218 1 l k ((ss.take k).map el)∧Bel w2 wr) (λ_ i _=>ss.length-(intOf i).toNat)
 case atStart=>exact⟨0,Nat.zero_le _,rfl,World.ownsRow_nil _ _ _ _,Bel.refl _⟩
 case round=>
  obtain⟨k,hk,rfl,hrow,hbr⟩:=hrel;have HR:=xh hrow;have HB:=xh hbr;clear hrow hbr;by_cases hlt:k<ss.length
  ·obtain⟨g,rfl,_,_,hcell,_⟩:=vO.o.resolve_left (by omega)
   have hx:=bT hlt;have hxm:=List.getElem_mem hlt;have htk:(ss.take (k+1)).map el=(ss.take k).map el++[el ss[k]]:=by rw[List.take_succ_eq_append_getElem hlt,List.map_append];rfl
   have hc0:wr.cell? ⟨g,k,none⟩=some (.string ⟨ss[k].toArray⟩):=af HB.o (by rw[hcell k (by simpa using hlt),fA,hx];rfl);have hsz:ss[k].length≤1000:=by
    have hm:=HSS.o.mem_iff.1 hxm;obtain⟨q,hq,he⟩:=List.mem_map.1 hm;rw[Ad]at hq;obtain⟨j,hj,rfl⟩:=List.mem_map.1 hq;obtain⟨i,x,hi,_,rfl⟩:=oZ.1 hj;have hTi:∃y,T[i]?=some y∧x=y.nd:=by
     unfold aJ at hi;rw[fA]at hi;cases hy:T[i]? with
     | none=>rw[hy]at hi;cases hi
     | some y=>rw[hy]at hi;simp at hi;exact⟨y,rfl,hi.symm⟩
    obtain⟨y,hy,rfl⟩:=hTi;have h1:=HNM.o y.nd (List.mem_of_getElem? hi);rw[←he];simp only[Nat.add_sub_cancel,hy,Option.map_some,Option.getD_some]
    have h2:y.name.data.toList.length=y.name.size:=by simp
    have h3:y.nd.name.size=y.name.size:=rfl;omega
   have hlk:=HLK.o wr (iC.o.tr HB.o) ss[k] hsz;have aaO:A.ptr (child (aJ T) (d+1) ⟨ss[k].toArray⟩)=el ss[k]:=by rw[HEL.o]
   rw[aaO]at hlk;have qg:Hid ((el ss[k]).oneCell'=true):=xh (by rw[←aaO];rfl);have adb:Hid ((el ss[k]).cells = #[el ss[k]]):=xh (by rw[←aaO];rfl);have PW:=xh htk;generalize el ss[k]=ev at *
   generalize (⟨ss[k].toArray⟩:ByteArray)=sk at *
   clear hx hxm htk aaO hcell hsz
   go_wp2_with (first
    | (refine au rfl 230 218 (.tmp 17) rfl [ev] (by exact adb.o) underlying230 Qk (by show 0<1;omega) (by show 1≤2^24;omega) ?_;intro w5 B5 K5)
    | (refine bu rfl (.tmp 14) (.tmp 18) 230 rfl underlying230 Qk (by omega) rfl (aO HR.o K5) _ [ev] 218 rfl B5.out rfl (by intro v hv;simp at hv;rcases hv with rfl;exact qg.o) (by unfold maxLen;omega) (by omega) (bU HB.o.size K5.size) ?_;intro v6 w6 R6 K6))
   have R7:Hid (w6.ownsRow w2.heap.size 218 1 v6 (k+1) ((ss.take (k+1)).map el)):=xh (by rw[PW.o];exact R6);have K7:Hid (Bel w2 w6):=xh (Below.trans (HB.o.tr K5) (K6.below _ (bU HB.o.size K5.size) λi hi=>hi));clear R6 K6 K5 B5
   go_roundw
   case rel=>exact⟨k+1,by omega,by go_num,R7.o,K7.o⟩
   case measure=>simp[intOf]<;>omega
  ·obtain rfl:k=ss.length:=by omega
   go_wp2_with fail
   go_ret
   refine⟨⟨_,ss.map λx=>child (aJ T) (d+1) ⟨x.toArray⟩,rfl,?_,?_⟩,iC.o.tr HB.o⟩
   ·have hp:=HSS.o.map λx:List UInt8=>child (aJ T) (d+1) ⟨x.toArray⟩
    refine hp.trans (List.Perm.of_eq ?_);rw[Ad,List.map_map,List.map_map];refine(List.map_congr_left λk hk=>?_).trans (List.map_id _);exact OG HT.o HD.o.1 HD.o.2 k hk
   ·have:=HR.o
    rw[List.take_length]at this;rw[jE,List.map_map];have e:(A.ptr∘λx:List UInt8=>child (aJ T) (d+1) ⟨x.toArray⟩)=el:=by rw[HEL.o];rfl
    rw[e];exact ownsRow_base_a this iC.o.size
end
section
open Go.RowKit
def eH(N:List Nd):Nat→Nat→List Nat
 | 0,_=>[]
 | f+1,d=>(nV N d).flatMap λk=>k::eH N f k
def jH(N:List Nd)(x:Nat):Nat:=((N[x-1]?).map Nd.par).getD 0
theorem yP(d:Nat):∀(i:Nat) (N:List Nd),(ru d i N).Pairwise (·< ·)∧∀k∈ru d i N,i<k
 | i,[]=>by simp[ru]
 | i,n::N=>by
   obtain⟨h1,h2⟩:=yP d (i+1) N;unfold ru;split
   ·exact⟨List.pairwise_cons.2 ⟨λk hk=>h2 k hk,h1⟩,λk hk=>by
     rcases List.mem_cons.1 hk with rfl|hk
     ·omega
     ·have:=h2 k hk;omega⟩
   ·exact⟨h1,λk hk=>by have:=h2 k hk;omega⟩
theorem LQ(N:List Nd)(d:Nat):(nV N d).Nodup:=(yP d 0 N).1.imp λh=>by omega
theorem FO{N:List Nd}(h:Down N){d k:Nat}(hd:1≤d)(hk:k∈nV N d):d<k∧k≤N.length∧jH N k=d:=by
 obtain⟨j,n,hj,hp,rfl⟩:=oZ.1 hk;have h1:=h j n hj;have h2:=(bV hj).1;refine⟨by omega,by omega,?_⟩;unfold jH;rw[Nat.add_sub_cancel,hj];exact hp
theorem LU{N:List Nd}{d x:Nat}(hx:1≤x)(hx2:x≤N.length):(nV N d).count x=if jH N x=d then 1 else 0:=by
 have hm:x∈nV N d↔jH N x=d:=by
  rw[oZ];have hi:=bT (l:=N) (i:=x-1) (by omega);constructor
  ·rintro⟨j,n,hj,hp,rfl⟩
   unfold jH;rw[Nat.add_sub_cancel,hj];exact hp
  ·intro h
   refine⟨x-1,_,hi,?_,by omega⟩;unfold jH at h;rw[hi]at h;exact h
 by_cases h:jH N x=d
 ·rw[if_pos h]
  exact(LQ N d).count.trans (by rw[if_pos (hm.2 h)])
 ·rw[if_neg h]
  exact List.count_eq_zero.2 λhc=>h (hm.1 hc)
theorem ry{α:Type}(f g:α→Nat):∀l:List α,(l.map λa=>f a+g a).sum=(l.map f).sum+(l.map g).sum
 | []=>rfl
 | a::l=>by
   have:=ry f g l;simp only[List.map_cons,List.sum_cons,this]
   omega
theorem oN{α:Type}[BEq α][LawfulBEq α](x:α):∀l:List α,(l.map λk=>[k].count x).sum=l.count x
 | []=>rfl
 | a::l=>by
   have:=oN x l;simp only[List.map_cons,List.sum_cons,this]
   rw[List.count_cons (l:=l),List.count_singleton];omega
theorem AA(N:List Nd)(h:Down N):∀(f d x:Nat),N.length+1≤d+f→1≤d→1≤x→x≤N.length→(eH N f d).count x=(if jH N x=d then 1 else 0)+(eH N f d).count (jH N x)
 | 0,d,x,hf,hd,hx,hx2=>by
   have:jH N x≠d:=by
    unfold jH;rw[bT (by omega)];have:=h (x-1) _ (bT (by omega));show(N[x-1]'(by omega)).par≠d
    omega
   rw[if_neg this];rfl
 | f+1,d,x,hf,hd,hx,hx2=>by
   have key:∀y,((nV N d).flatMap λk=>k::eH N f k).count y=(nV N d).count y+((nV N d).map λk=>(eH N f k).count y).sum:=by
    intro y;rw[List.count_flatMap];have:(List.count y∘λk=>k::eH N f k)=λk=>[k].count y+(eH N f k).count y:=by
     funext k
     show(k::eH N f k).count y=_
     rw[List.count_cons,List.count_singleton];omega
    rw[this,ry,oN]
   have hk:((nV N d).map λk=>(eH N f k).count x).sum=(nV N d).count (jH N x)+((nV N d).map λk=>(eH N f k).count (jH N x)).sum:=by
    rw[←oN (jH N x),←ry];congr 1
    apply List.map_congr_left
    intro k hk;obtain⟨h1,h2,_⟩:=FO h hd hk;rw[AA N h f k x (by omega) (by omega) hx hx2,List.count_singleton];by_cases e:jH N x=k
    ·subst e;simp
    ·rw[if_neg e,if_neg (by simpa using λh=>e h.symm)]
   show((nV N d).flatMap λk=>k::eH N f k).count x=_+((nV N d).flatMap λk=>k::eH N f k).count (jH N x)
   rw[key,key,hk,LU hx hx2]
theorem AB(N:List Nd)(h:Down N):∀(f d x:Nat),1≤d→x∈eH N f d→d<x∧x≤N.length∧jH N x≠0
 | 0,d,x,_,hx=>by cases hx
 | f+1,d,x,hd,hx=>by
   obtain⟨k,hk,hx⟩:=List.mem_flatMap.1 hx;obtain⟨h1,h2,h3⟩:=FO h hd hk;rcases List.mem_cons.1 hx with rfl|hx
   ·exact⟨h1,h2,by omega⟩
   ·obtain⟨h4,h5,h6⟩:=AB N h f k x (by omega) hx
    exact⟨by omega,h5,h6⟩
def Gh(N:List Nd):Prop:=∀(i:Nat) (n:Nd),N[i]?=some n→i≠0→n.par≠0
theorem IL(N:List Nd)(h:Down N)(hc:Gh N):∀(m x:Nat),x≤m→2≤x→x≤N.length→(eH N N.length 1).count x=1
 | 0,x,hm,h2,_=>by omega
 | m+1,x,hm,h2,hx=>by
   rw[AA N h N.length 1 x (by omega) (bM _) (by omega) hx];have hi:=bT (l:=N) (i:=x-1) (by omega);have h3:=h (x-1) _ hi;have h4:=hc (x-1) _ hi (by omega);have hp:jH N x=(N[x-1]'(by omega)).par:=by unfold jH;rw[hi];rfl
   by_cases e:jH N x=1
   ·rw[if_pos e,e]
    have:(eH N N.length 1).count 1=0:=List.count_eq_zero.2 λhm=>by have:=(AB N h _ _ _ (bM _) hm).1;omega
    omega
   ·rw[if_neg e,IL N h hc m (jH N x) (by omega) (by omega) (by omega)]
theorem Es(N:List Nd)(h:Down N)(hc:Gh N):(eH N N.length 1).Perm (List.range' 2 (N.length-1)):=by
 rw[List.perm_iff_count];intro x;by_cases h1:2≤x∧x≤N.length
 ·rw[IL N h hc x x (bM _) h1.1 h1.2]
  exact((List.nodup_range' (step:=1)).count.trans (by rw[if_pos (by rw[List.mem_range'_1];omega)])).symm
 ·rw[List.count_eq_zero.2,List.count_eq_zero.2]
  ·rw[List.mem_range'_1];omega
  ·intro hm
   have:=AB N h _ _ _ (bM _) hm;omega
theorem O5{c:UInt8}:∀{p q n m:List UInt8},c∉n→c∉m→p++c::n=q++c::m→p=q∧n=m
 | [],[],n,m,_,_,h=>by simp at h;exact⟨rfl,h⟩
 | [],b::q,n,m,hn,_,h=>by
   simp at h
   obtain⟨_,h⟩:=h;exact absurd (by rw[h];simp) hn
 | a::p,[],n,m,_,hm,h=>by
   simp at h
   obtain⟨_,h⟩:=h;exact absurd (by rw[←h];simp) hm
 | a::p,b::q,n,m,hn,hm,h=>by
   simp at h
   obtain⟨rfl,h⟩:=h;obtain⟨h1,h2⟩:=O5 hn hm h;exact⟨by rw[h1],h2⟩
structure VI(N:List Nd):Prop where
 one:∀(i j:Nat) (m n:Nd),N[i]?=some m→N[j]?=some n→m.par≠0→m.par=n.par→m.name=n.name→i=j
 no:∀(i:Nat) (n:Nd),N[i]?=some n→n.par≠0→(47:UInt8)∉n.name.data.toList
theorem IM{N:List Nd}(h:Down N)(hc:Gh N)(hp:VI N):∀(f x y:Nat),x≤f→1≤x→x≤N.length→1≤y→y≤N.length→dW N x=dW N y→x=y
 | 0,x,y,hf,h1,_,_,_,_=>by omega
 | f+1,x,y,hf,h1,hx,h2,hy,he=>by
   have hxi:=bT (l:=N) (i:=x-1) (by omega);have hyi:=bT (l:=N) (i:=y-1) (by omega);by_cases ex:x=1
   ·by_cases ey:y=1
    ·omega
    ·rw[nK N (by omega:x≤1),jc h (by omega) hyi]at he
     simp at he
   ·by_cases ey:y=1
    ·rw[nK N (by omega:y≤1),jc h (by omega) hxi]at he
     simp at he
    ·rw[jc h (by omega) hxi,jc h (by omega) hyi]at he
     have cx:=hc (x-1) _ hxi (by omega);have cy:=hc (y-1) _ hyi (by omega);obtain⟨e1,e2⟩:=O5 (hp.no _ _ hxi cx) (hp.no _ _ hyi cy) he;have d1:=h (x-1) _ hxi;have d2:=h (y-1) _ hyi;have e3:=IM h hc hp f _ _ (by omega) (by omega) (by omega) (by omega) (by omega) e1;have e4:(N[x-1]'(by omega)).name=(N[y-1]'(by omega)).name:=by
      apply ByteArray.ext
      exact Array.toList_inj.1 e2
     have:=hp.one _ _ _ _ hxi hyi cx e3 e4;omega
structure FileR where
 path:List UInt8
 dir:Bool
 byt:List Int
 p:Option Addr
 cap:Nat
def FileR.bv(r:FileR):Value:=.slice r.p r.byt.length r.cap
def FileR.cells(r:FileR):List Value:=[strV r.path,.bool r.dir,r.bv]
theorem flat_snoc{α β:Type}(f:α→List β)(l:List α)(a:α):(l++[a]).flatMap f=l.flatMap f++f a:=by simp
theorem rowsLen(R:List FileR):(R.flatMap FileR.cells).length=R.length*3:=by
 induction R with
 | nil=>rfl
 | cons r R ih=>rw[List.flatMap_cons,List.length_append,ih];simp[FileR.cells];omega
structure FRows(w:World)(base:Nat)(v:Value)(R:List FileR):Prop where
 row:w.ownsRow base 71 3 v R.length (R.flatMap FileR.cells)
 byt:∀r∈R,Rw w r.bv r.byt∧∀g,r.bv.ownBlock=some g→base≤g
theorem row_blk{w:World}{base:Nat}{e:TypeId}{size:Nat}{v:Value}{n:Nat}{xs:List Value}(h:w.ownsRow base e size v n xs){g:Nat}(hg:v.ownBlock=some g):base≤g∧∃cur:List Value,Blk w g cur e:=by
 rcases h.2 with⟨rfl,_⟩|⟨g',cap,cur,rfl,h2,h3,_⟩
 ·cases hg
 ·cases hg
  exact⟨h2,cur.toList,h3⟩
theorem FRows.keep{S:Nat→Prop}{w w':World}{base:Nat}{v:Value}{R:List FileR}(h:FRows w base v R)(k:Keep S w w')(hs:∀g,base≤g→g<w.heap.size→¬S g):FRows w' base v R:=by
 refine⟨?_,λr hr=>⟨(h.byt r hr).1.keep k λg hg=>hs g ((h.byt r hr).2 g hg) ((h.byt r hr).1.lt hg).1,(h.byt r hr).2⟩⟩;refine⟨h.row.1,?_⟩;rcases h.row.2 with h1|⟨g,cap,cur,h1,h2,h3,h4⟩
 ·exact .inl h1
 ·have hl:=(Array.getElem?_eq_some_iff.1 h3).1
  exact .inr ⟨g,cap,cur,h1,h2,(k.block g hl (hs g h2 hl)).trans h3,h4⟩
theorem FRows.bel{w w':World}{base:Nat}{v:Value}{R:List FileR}(h:FRows w base v R)(k:Bel w w'):FRows w' base v R:=h.keep (Keep.of_bel (λ_=>False) k) (λ_ _ _ h=>h)
theorem FRows.nil(w:World)(base:Nat):FRows w base (.slice none 0 0) []:=⟨World.ownsRow_nil _ _ _ _,λr hr=>by cases hr⟩
theorem FRows.snoc{w w':World}{base:Nat}{v v':Value}{R:List FileR}{r:FileR}(h:FRows w base v R)(hb:Rw w r.bv r.byt)(hg:∀g,r.bv.ownBlock=some g→base≤g)(h3:71≠5)
 (hr:w'.ownsRow base 71 3 v' (R.length+1) (R.flatMap FileR.cells++r.cells))(k:Keep (λq=>v.ownBlock=some q) w w'):FRows w' base v' (R++[r]):=by
 have hne:∀(bv:Value) (L:List Int),Rw w bv L→∀g,bv.ownBlock=some g→¬v.ownBlock=some g:=λbv L hrw g hg hv=>by
  obtain⟨_,cur,hb1⟩:=row_blk h.row hv;obtain⟨_,cur2,hb2⟩:=hrw.lt hg;exact hb1.ne hb2 h3 rfl
 refine⟨by rw[List.length_append,flat_snoc];exact hr,λx hx=>?_⟩;rcases List.mem_append.1 hx with hx|hx
 ·exact⟨(h.byt x hx).1.keep k λg hg=>hne _ _ (h.byt x hx).1 g hg,(h.byt x hx).2⟩
 ·obtain rfl:=List.mem_singleton.1 hx
  exact⟨hb.keep k λg hg=>hne _ _ hb g hg,hg⟩
theorem rw_of_row{w:World}{base:Nat}{v:Value}{L:List Int}(hb:∀x∈L,0≤x∧x≤255)(h:w.ownsRow base 5 1 v L.length (L.map (Value.int .u8))):Rw w v L:=by
 refine⟨hb,?_⟩;rcases h.2 with⟨rfl,h0⟩|⟨g,cap,cur,rfl,_,h3,h4,h5,h6,h7⟩
 ·exact .inl ⟨rfl,List.eq_nil_of_length_eq_zero h0⟩
 ·exact .inr ⟨g,cap,cur.toList,rfl,h3,h4,by simp;omega,h5,by rw[Nat.mul_one]at h7;exact h7⟩
theorem step_append_copy{P:Program}{w:World}{ops:Array Oper}{o:Oper}{a:Act}{K:Act→World→Prop}{Q:Exit→Act→World→Prop}{E:Prop}(hgd:o.guard=none)(x:Operand)(t:TypeId)
 (ho:o.op=.call {callee:=.builtin .append,args:= #[.const (.slice none 0 0),x],argTypes:= #[t,t]})(ht:P.underlying t=some (.slice 5))
 (hi:(P.info? 5).map (λi=>(i.size,i.bytes,(i.zero.map (·.cells.size))))=some (1,1,some 1))(L:List Int)(v:Value)(hv:a.eval x=v)(hx:Rw w v L)(hL:L.length≤1000000)
 (h:∀v w',Rw w' v L→(∀g,v.ownBlock=some g→w.heap.size≤g)→Bel w w'→K (a.put o.dst v) w'):if Region.wanted o (yielded ops a.tmps)=true then Oper.wp P o a w K Q else E:=by
 have hw:Region.wanted o (yielded ops a.tmps)=true:=by simp[Region.wanted,hgd]
 rw[if_pos hw];obtain⟨i,z,hi,hz,e1,e2,e3⟩:=info_of hi;have hn:=World.ownsRow_nil w w.heap.size 5 1;obtain⟨hby,hx|⟨g,cap,cur,hx,hb,h1,h2,h3,h4⟩⟩:=hx
 ·obtain⟨hx,rfl⟩:=hx
  have hrun:=run_append_owned_none (P:=P) (w:=w) w.heap.size t o.type 5 i 1 ht hi _ 0 [] hn;unfold Oper.wp;have hx':=hv.trans hx;have hcn:a.eval (.const (.slice none 0 0))=.slice none 0 0:=rfl;simp[execOp,ho,resolve,invoke,builtin,hx',hcn,hrun,Result.andThen]
  exact h _ _ ⟨hby,.inl ⟨rfl,rfl⟩⟩ (λg hg=>by cases hg) (Bel.refl _)
 ·obtain⟨v',w',hrun,k1,k2,_⟩:=run_append_own (P:=P) w w.heap.size t o.type 5 i z 1 1 ht hi hz e1 e2 e3 (by omega) _ 0 [] hn ⟨g,0,none⟩ L.length cap (L.map (Value.int .u8)) (by simp) (λj u hj=>by
   rw[show(⟨g,0,none⟩:Addr).add j=⟨g,j,none⟩from by unfold Addr.add;split<;>simp_all];rw[hb.cell,←hj,←h4,List.getElem?_take];have:=(List.getElem?_eq_some_iff.1 hj).1;rw[if_pos (by simpa using this)]) (by intro u hu;obtain⟨y,_,rfl⟩:=List.mem_map.1 hu;rfl) (by unfold maxLen;omega) (by omega) (Nat.le_refl _)
  unfold Oper.wp;have hx':=hv.trans hx;have hcn:a.eval (.const (.slice none 0 0))=.slice none 0 0:=rfl;simp[execOp,ho,resolve,invoke,builtin,hx',hcn,hrun,Result.andThen]
  rw[Nat.zero_add,List.nil_append]at k1;refine h _ _ (rw_of_row hby k1) (λg hg=>(row_blk k1 hg).1) ?_;have:=grown_keep k2 hn;exact this.below _ (Nat.le_refl _) (λq hq=>hq)
end
end Go.Proofs.YtcnjjchlebmfiaaGreatDoor
