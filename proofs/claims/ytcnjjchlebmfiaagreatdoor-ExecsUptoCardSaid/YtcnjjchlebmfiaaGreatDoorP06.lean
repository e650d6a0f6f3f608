/-.-/
import Derived.Test.YtcnjjchlebmfiaaGreatDoorP05
import Derived.Deep.RegionHeldLaw
set_option linter.all false
set_option maxRecDepth 100000
set_option maxHeartbeats 16000000
namespace Go.Proofs.YtcnjjchlebmfiaaGreatDoor
section
open Go.Proofs.Tryz Go.RowKit Go.MapKept Go.Maps
def kV(t:TN)(a b:Int):Bool:=decide (t.di+a≤t.most)&&decide (t.bytes+b≤t.jT)
structure TN.ok(t:TN):Prop where
 di:t.di≤1000000
 bytes:t.bytes≤10000000
 most : -10000000≤t.most∧t.most≤10000000
 jT : -10000000≤t.jT∧t.jT≤10000000
theorem Yw(tb:Nat)(A:bJ)(t:TN)(a b:Int)(w:World)(hT:Blk w tb (t.cells A) 220)(ht:t.ok)(ha:0≤a∧a≤10000000)(hb:0≤b∧b≤10000000) :
 Calls prog 97 #[tb,a,b] w λe w'=>e=.returned (.bool (kV t a b))∧∃n,w'=w.drewN n:=by
 have c1:=hT.c 1 rfl;have c2:=hT.c 2 rfl;have c3:=hT.c 3 rfl;have c4:=hT.c 4 rfl;obtain⟨o1,o2,o3,o4⟩:=ht;have w1:IntKind.i64.wrap ((t.di:Int)+a)=(t.di:Int)+a:=by rw[IntKind.wrap_i64];omega
 have w2:IntKind.i64.wrap ((t.bytes:Int)+b)=(t.bytes:Int)+b:=by rw[IntKind.wrap_i64];omega
 clear hT;by_cases h1:(t.di:Int)+a≤t.most
 ·by_cases h2:(t.bytes:Int)+b≤t.jT
  ·have HR:Hid (kV t a b=true):=xh (by unfold kV;simp[h1,h2])
   have d1:decide ((t.di:Int)+a≤t.most)=true:=by simpa using h1
   have d2:decide ((t.bytes:Int)+b≤t.jT)=true:=by simpa using h2
   generalize ((t.di:Nat):Int)=x at *
   generalize ((t.bytes:Nat):Int)=y at *
   clear h1 h2;go_enter func97,ntmps97;go_upto_region 1 with fail
   go_quiet (fail)
   go_wp2
   go_ret
   exact⟨by rw[HR.o];rfl,nq,rfl⟩
  ·have HR:Hid (kV t a b=false):=xh (by unfold kV;simp[h2])
   have d1:decide ((t.di:Int)+a≤t.most)=true:=by simpa using h1
   have d2:decide ((t.bytes:Int)+b≤t.jT)=false:=by simpa using h2
   generalize ((t.di:Nat):Int)=x at *
   generalize ((t.bytes:Nat):Int)=y at *
   clear h1 h2;go_enter func97,ntmps97;go_upto_region 1 with fail
   go_quiet (fail)
   go_wp2
   go_ret
   exact⟨by rw[HR.o];rfl,nq,rfl⟩
 ·have HR:Hid (kV t a b=false):=xh (by unfold kV;simp[h1])
  have d1:decide ((t.di:Int)+a≤t.most)=false:=by simpa using h1
  generalize ((t.di:Nat):Int)=x at *
  generalize ((t.bytes:Nat):Int)=y at *
  clear h1;go_enter func97,ntmps97;go_upto_region 1 with fail
  go_quiet (fail)
  go_wp2
  go_ret
  exact⟨by rw[HR.o];rfl,nq,rfl⟩
theorem BZ(tb:Nat)(A:bJ)(t:TN)(a b:Int)(w:World)(hT:Blk w tb (t.cells A) 220)(ht:t.ok)(ha:0≤a∧a≤10000000)(hb:0≤b∧b≤10000000) :
 Calls prog 97 #[tb,a,b] w (Z.b (.bool (kV t a b)) w):=by
 refine(Yw tb A t a b w hT ht ha hb).mono ?_;rintro e w' ⟨rfl,n,rfl⟩;exact⟨rfl,aj (Bel.refl w) n⟩
end
section
open Go.RowKit Go.MapKept Go.Maps
theorem xE(A:bJ)(d:Nat):∀(i:Nat) (T U:List Pn),gQ A d i (T++U)=gQ A d i T++gQ A d (i+T.length) U
 | i,[],U=>by simp[gQ]
 | i,n::T,U=>by
   have ih:=xE A d (i+1) T U;simp only[List.cons_append,gQ,ih,List.length_cons]
   rw[show i+1+T.length=i+(T.length+1)from by omega];split<;>simp
theorem ng{A B:bJ}{n:Nat}(h:n≠0→A.nb n=B.nb n):A.ptr n=B.ptr n:=by
 unfold bJ.ptr bJ.at_;by_cases h0:n=0
 ·simp[h0]
 ·simp[h0,h h0]
theorem qQ{A B:bJ}(d:Nat):∀(i:Nat) (T:List Pn),(∀j,i<j→j≤i+T.length→A.nb j=B.nb j)→gQ A d i T=gQ B d i T
 | i,[],_=>rfl
 | i,n::T,h=>by
   have ih:=qQ (A:=A) (B:=B) d (i+1) T (λj h1 h2=>h j (by omega) (by simp;omega));simp only[gQ,ih]
   rw[ng (A:=A) (B:=B) λ_=>h (i+1) (by omega) (by simp)]
def bJ.add(A:bJ)(n nb mb:Nat):bJ:=⟨λi=>if i=n then nb else A.nb i,λi=>if i=n then mb else A.mb i⟩
theorem bJ.kY(A:bJ)(n nb mb i:Nat)(h:i≠n):(A.add n nb mb).nb i=A.nb i:=by simp[bJ.add,h]
theorem bJ.uM(A:bJ)(n nb mb i:Nat)(h:i≠n):(A.add n nb mb).mb i=A.mb i:=by simp[bJ.add,h]
theorem Ip{A B:bJ}(n:Pn)(i:Nat)(h1:n.par≠0→A.nb n.par=B.nb n.par)(h2:A.mb i=B.mb i):n.cells A i=n.cells B i:=by
 unfold Pn.cells Pn.map;rw[ng h1,h2]
theorem Ec{α:Type}[DecidableEq α]{kv:List (α×Value)}{a:α}(h:bQ kv a=none):a∉kv.map Prod.fst:=by
 intro hm;obtain⟨p,hp,rfl⟩:=List.mem_map.1 hm;unfold bQ at h;rw[Option.map_eq_none_iff,List.find?_eq_none]at h;have:=h p hp;simp at this
theorem dV.add{w w':World}{A:bJ}{T:List Pn}{S:Nat→Prop}(h:dV w A T)(d:Nat)(D:Pn)(hD:T[d]?=some D)(YS:D.dir=true)(n:Pn)(nb mb:Nat)
 (hp:n.par=d+1)(hbv:n.bv=.slice none 0 0∧n.byt=[])(hg:n.gone=false)(hnew:child (aJ T) (d+1) n.name=0)(hnm:bC n.name.data.toList=true∧(47:UInt8)∉n.name.data.toList)(hfew:T.length+1≤100000)
 (jO:Blk w' nb (n.cells (A.add (T.length+1) nb mb) (T.length+1)) 234)(hnb:w.heap.size≤nb)
 (hmap:n.dir=true→Mp keyS w' mb [])(hmb:n.dir=true→w.heap.size≤mb)
 (agi:Mp keyS w' (A.mb (d+1)) (mQ (Go.Proofs.YtcnjjchlebmfiaaGreatDoor.kids A (d+1) T) n.name (.pointer (nb,0))))
 (hk:Keep S w w')(hS:∀q,uu A T q→S q→q=A.mb (d+1)):dV w' (A.add (T.length+1) nb mb) (T++[n]):=by
 have hdl:d<T.length:=(bV hD).1;have hlt:∀(i:Nat) (m:Pn),(T++[n])[i]?=some m→i<T.length∧T[i]?=some m∨i=T.length∧m=n:=by
  intro i m hi;by_cases h1:i<T.length
  ·rw[List.getElem?_append_left h1]at hi;exact .inl ⟨h1,hi⟩
  ·rw[List.getElem?_append_right (by omega)]at hi
   have:=(bV hi).1;simp at this
   have e:i-T.length=0:=by omega
   rw[e]at hi;simp at hi
   exact .inr ⟨by omega,hi.symm⟩
 have hkids:∀i,i≠d+1→Go.Proofs.YtcnjjchlebmfiaaGreatDoor.kids (A.add (T.length+1) nb mb) i (T++[n])=Go.Proofs.YtcnjjchlebmfiaaGreatDoor.kids A i T:=by
  intro i hi;unfold Go.Proofs.YtcnjjchlebmfiaaGreatDoor.kids;rw[xE,qQ (A:=A.add (T.length+1) nb mb) (B:=A) i 0 T (λj h1 h2=>bJ.kY _ _ _ _ _ (by omega))];have:n.nd.par≠i:=by simp[Pn.nd,hg,hp];omega
  simp[gQ,this]
 have hnone:bQ (Go.Proofs.YtcnjjchlebmfiaaGreatDoor.kids A (d+1) T) n.name=none:=by
  unfold Go.Proofs.YtcnjjchlebmfiaaGreatDoor.kids;rw[xG,if_pos];exact hnew
 have hkd:Go.Proofs.YtcnjjchlebmfiaaGreatDoor.kids (A.add (T.length+1) nb mb) (d+1) (T++[n])=mQ (Go.Proofs.YtcnjjchlebmfiaaGreatDoor.kids A (d+1) T) n.name (.pointer (nb,0)):=by
  unfold mQ;rw[if_neg (Ec hnone)];unfold Go.Proofs.YtcnjjchlebmfiaaGreatDoor.kids;rw[xE,qQ (A:=A.add (T.length+1) nb mb) (B:=A) (d+1) 0 T (λj h1 h2=>bJ.kY _ _ _ _ _ (by omega))];have:n.nd.par=d+1:=by simp[Pn.nd,hg,hp]
  simp[gQ,this,bJ.ptr,bJ.at_,bJ.add]
 have hold:∀q,uu A T q→q≠A.mb (d+1)→¬S q:=λq hq hne hs=>hne (hS q hq hs);have hmd:∀(i:Nat) (m:Pn),T[i]?=some m→A.nb (i+1)≠A.mb (d+1):=λi m hi=>(h.node i m hi).aP (h.kids d D hD YS);have hbd:∀(i:Nat) (m:Pn),T[i]?=some m→∀g,m.bv.ownBlock=some g→g≠A.mb (d+1):=λi m hi g hgg=>by
  obtain⟨_,cur,hb⟩:=(h.aS i m hi).lt hgg;exact hb.aP (h.kids d D hD YS)
 have hfl:∀q,uu A T q→q<w.heap.size:=λq hq=>h.iy hq;refine⟨?_,?_,?_,?_,?_,?_,?_,?_,?_,?_,?_,by simpa using hfew⟩
 ·intro i m hi
  rcases hlt i m hi with⟨h1,h2⟩|⟨rfl,rfl⟩
  ·rw[bJ.kY _ _ _ _ _ (by omega),Ip (B:=A) m (i+1) (λ_=>bJ.kY _ _ _ _ _ (by have:=h.par i m h2;omega)) (bJ.uM _ _ _ _ _ (by omega))]
   exact(h.node i m h2).keep hk (hold _ ⟨i,m,h2,.inl rfl⟩ (hmd i m h2))
  ·rw[show(A.add (T.length+1) nb mb).nb (T.length+1)=nb from by simp[bJ.add]]
   exact jO
 ·intro i m hi hd
  rcases hlt i m hi with⟨h1,h2⟩|⟨rfl,rfl⟩
  ·rw[bJ.uM _ _ _ _ _ (by omega)]
   by_cases e:i=d
   ·subst e
    rw[hkd];exact agi
   ·rw[hkids (i+1) (by omega)]
    have hne:A.mb (i+1)≠A.mb (d+1):=λhe=>e (h.U2 i d m D h2 hD hd YS he);exact(h.kids i m h2 hd).of_block (hk.block _ (h.kids i m h2 hd).lt (hold _ ⟨i,m,h2,.inr (.inl ⟨hd,rfl⟩)⟩ hne))
  ·rw[show(A.add (T.length+1) nb mb).mb (T.length+1)=mb from by simp[bJ.add],hkids _ (by omega)]
   have:Go.Proofs.YtcnjjchlebmfiaaGreatDoor.kids A (T.length+1) T=[]:=by
    unfold Go.Proofs.YtcnjjchlebmfiaaGreatDoor.kids;have hg:∀(k:Nat) (U:List Pn),(∀m∈U,m.par≤T.length)→gQ A (T.length+1) k U=[]:=by
     intro k U
     induction U generalizing k with
     | nil=>intro _;rfl
     | cons x U ih=>
       intro hU;have hx:=hU x (by simp);have:x.nd.par≠T.length+1:=by unfold Pn.nd;simp only;split<;>omega
       simp only[gQ,this,if_false]
       exact ih _ λm hm=>hU m (by simp[hm])
    refine hg 0 T λm hm=>?_;obtain⟨j,hj,he⟩:=List.getElem_of_mem hm;have:=h.par j m (by rw[bT hj,he]);omega
   rw[this];exact hmap hd
 ·intro i m hi
  rcases hlt i m hi with⟨h1,h2⟩|⟨rfl,rfl⟩
  ·exact(h.aS i m h2).keep hk λg hgg=>hold _ ⟨i,m,h2,.inr (.inr hgg)⟩ (hbd i m h2 g hgg)
  ·rw[hbv.1,hbv.2]
   exact⟨(λx hx=>by cases hx),.inl ⟨rfl,rfl⟩⟩
 ·intro i j hi hj he
  simp at hi hj
  by_cases h1:i=T.length<;>by_cases h2:j=T.length
  ·omega
  ·subst h1
   rw[bJ.kY _ _ _ _ (j+1) (by omega)]at he;simp[bJ.add]at he
   have:=hfl _ ⟨j,T[j]'(by omega),bT (by omega),.inl rfl⟩;omega
  ·subst h2
   rw[bJ.kY _ _ _ _ (i+1) (by omega)]at he;simp[bJ.add]at he
   have:=hfl _ ⟨i,T[i]'(by omega),bT (by omega),.inl rfl⟩;omega
  ·rw[bJ.kY _ _ _ _ _ (by omega),bJ.kY _ _ _ _ _ (by omega)]at he
   exact h.inj i j (by omega) (by omega) he
 ·intro i j m k hi hj hdi hdj he
  rcases hlt i m hi with⟨h1,h2⟩|⟨rfl,rfl⟩<;>rcases hlt j k hj with⟨h3,h4⟩|⟨rfl,rfl⟩
  ·rw[bJ.uM _ _ _ _ _ (by omega),bJ.uM _ _ _ _ _ (by omega)]at he
   exact h.U2 i j m k h2 h4 hdi hdj he
  ·rw[bJ.uM _ _ _ _ (i+1) (by omega)]at he
   simp[bJ.add]at he
   have:=hfl _ ⟨i,m,h2,.inr (.inl ⟨hdi,rfl⟩)⟩;have:=hmb hdj;omega
  ·rw[bJ.uM _ _ _ _ (j+1) (by omega)]at he
   simp[bJ.add]at he
   have:=hfl _ ⟨j,k,h4,.inr (.inl ⟨hdj,rfl⟩)⟩;have:=hmb hdi;omega
  ·rfl
 ·intro i j m k g hi hj hm hkk
  rcases hlt i m hi with⟨h1,h2⟩|⟨rfl,rfl⟩
  ·rcases hlt j k hj with⟨h3,h4⟩|⟨rfl,rfl⟩
   ·exact h.sep i j m k g h2 h4 hm hkk
   ·rw[hbv.1]at hkk;cases hkk
  ·rw[hbv.1]at hm;cases hm
 ·intro i m hi
  rcases hlt i m hi with⟨h1,h2⟩|⟨rfl,rfl⟩
  ·exact h.par i m h2
  ·omega
 ·intro i m hi h0
  rcases hlt i m hi with⟨h1,h2⟩|⟨rfl,rfl⟩
  ·obtain⟨p,hp1,hp2⟩:=h.KW i m h2 h0
   exact⟨p,by rw[List.getElem?_append_left (by have:=h.par i m h2;omega)];exact hp1,hp2⟩
  ·exact⟨D,by rw[hp,Nat.add_sub_cancel,List.getElem?_append_left hdl];exact hD,YS⟩
 ·obtain⟨r,h1,h2⟩:=h.root
  exact⟨r,by rw[List.getElem?_append_left (bV h1).1];exact h1,h2⟩
 ·intro i m hi h0 h1
  rcases hlt i m hi with⟨h3,h4⟩|⟨rfl,rfl⟩
  ·exact h.top i m h4 h0 h1
  ·omega
 ·intro i m hi h0 h1
  rcases hlt i m hi with⟨h3,h4⟩|⟨rfl,rfl⟩
  ·exact h.name i m h4 h0 h1
  ·exact hnm
end
section
open Go.Proofs.Tryz Go.RowKit Go.MapKept Go.Maps
def qF(d:Nat)(nm:ByteArray)(is:Bool):Pn:=⟨d,nm,is,[],.slice none 0 0,0,false⟩
structure Made(A:bJ)(T:List Pn)(t:TN)(tb d:Nat)(nm:ByteArray)(is:Bool)(w:World)(nb mb:Nat)(w':World):Prop where
 tree:dV w' (A.add (T.length+1) nb mb) (T++[qF d nm is])
 block:Blk w' tb ({t with di:=t.di+1}.cells (A.add (T.length+1) nb mb)) 220
 keep:Keep (λq=>q=tb∨q=A.mb d) w w'
 aeY:w.heap.size≤nb
 aeZ:w.heap.size≤mb
theorem EY(tb:Nat)(A:bJ)(t:TN)(d:Nat)(nm:ByteArray)(is:Bool)(w:World)(hT:Blk w tb (t.cells A) 220)(ht:t.ok)(hf:kV t 1 0=false) :
 Calls prog 96 #[.pointer (tb,0),.agg #[A.ptr d,.string nm,.pointer none],.bool is] w (Z.b (.tuple #[.pointer none,fH 12]) w):=by
 have HR:=xh λW hW=>hf▸BZ tb A t 1 0 W (hT.bel hW) ht (by omega) (by omega);obtain⟨p,hp⟩:=e_x (A.at_ d);have hpp:A.ptr d=.pointer p:=by rw[←hp];rfl
 rw[hpp];clear hT ht hf hp hpp;go_enter func96,ntmps96;go_upto_region 1 with fail
 have k1:Bel w (w.alloc (.cells #[.pointer p,.string nm,.pointer none] 240)):=Bel.start w _;generalize w.alloc (.cells #[.pointer p,.string nm,.pointer none] 240)=w1 at *
 have K1:=xh k1;clear k1;go_wp2_with (go_at_call 97;((with_reducible refine aH (HR.o w1 K1.o) ?_);rintro e w2 ⟨rfl,kd⟩))
 go_ret2
 exact⟨rfl,K1.o.tr kd⟩
theorem P9(tb:Nat)(A:bJ)(T:List Pn)(t:TN)(d:Nat)(D:Pn)(nm:ByteArray)(is:Bool)(w:World)(hT:Blk w tb (t.cells A) 220)(hP:dV w A T)(ht:t.ok)(hf:kV t 1 0=true)
 (hD:T[d]?=some D)(YS:D.dir=true)(hnew:child (aJ T) (d+1) nm=0)(hnm:bC nm.data.toList=true∧(47:UInt8)∉nm.data.toList)(hfew:T.length+1≤100000) :
 Calls prog 96 #[.pointer (tb,0),.agg #[A.ptr (d+1),.string nm,.pointer none],.bool is] w λe w'=>∃nb mb:Nat,e=.returned (.tuple #[.pointer (nb,0),.nilIface])∧Made A T t tb (d+1) nm is w nb mb w':=by
 have HR:=xh λW hW=>hf▸BZ tb A t 1 0 W (hT.bel hW) ht (by omega) (by omega);have HTI:=xh ht;have hdl:d<T.length:=(bV hD).1;have hti:=ht.di;obtain⟨p,hp⟩:∃p,A.at_ (d+1)=some ⟨p,0,none⟩:=⟨A.nb (d+1),by simp[bJ.at_]⟩
 have hpe:p=A.nb (d+1):=by have:some (⟨A.nb (d+1),0,none⟩:Addr)=some ⟨p,0,none⟩:=by rw[←hp];simp[bJ.at_]
                           injection this with h;injection h with h;exact h.symm
 have hpp:A.ptr (d+1)=.pointer (p,0):=by rw[←hp];rfl
 rw[hpp];have cI:w.cell? (p,2)=some (.map (some (A.mb (d+1)))):=by
  have:=(hP.node d D hD).cell 2;rw[←hpe]at this;rw[this];simp[Pn.cells,Pn.map,YS]
 have HCI:=xh cI;have HT:=xh hT;have oU:=xh hP;have HD:=xh hD;have DD:=xh YS;have afz:=xh hnew;have HNM:=xh hnm;have PV:=xh hpp;have HPE:=xh hpe;clear hT ht hf hp hpp hP hD YS hnew hnm hpe cI;go_enter func96,ntmps96;go_upto_region 1 with fail
 have k1:Bel w (w.alloc (.cells #[.pointer (p,0),.string nm,.pointer none] 240)):=Bel.start w _;have B1:=Blk.new w [.pointer (p,0),.string nm,.pointer none] 240;generalize w.alloc (.cells #[.pointer (p,0),.string nm,.pointer none] 240)=w1 at *
 obtain⟨g4,hg4⟩:=e_x w.heap.size;rw[hg4]at B1⊢;have Zr:=xh hg4;have HB1:=xh B1;have K1:=xh k1;clear k1 B1 hg4;go_upto_region 3 with(go_at_call 97;((with_reducible refine aH (HR.o w1 K1.o) ?_);rintro e w2 ⟨rfl,kd⟩))
 have B2:=HB1.o.bel kd;have c0:=B2.c 0 rfl;have c1:=B2.c 1 rfl;have HB2:=xh B2;have K2:=xh (K1.o.tr kd);clear B2 kd HB1;go_upto_region 4 with fail
 have k3:Bel w2 (w2.alloc (.cells #[.string nm,.pointer (p,0),.map none,.slice none 0 0,.int .i64 0,.bool false] 234)):=Bel.start w2 _;have B3:=Blk.new w2 [.string nm,.pointer (p,0),.map none,.slice none 0 0,.int .i64 0,.bool false] 234;generalize w2.alloc (.cells #[.string nm,.pointer (p,0),.map none,.slice none 0 0,.int .i64 0,.bool false] 234)=w3 at *
 obtain⟨nb,hnb⟩:=e_x w2.heap.size;rw[hnb]at B3⊢;have J9:w.heap.size≤nb:=by rw[←hnb];exact K2.o.size
 have HB3:=xh B3;have K3:=xh (K2.o.tr k3);have ac0:=xh (HB2.o.bel k3);have hl3:=B3.lt;have f3:=B3.frozen;have ajN:g4<nb:=by rw[←hnb];exact HB2.o.lt
 clear k3 B3 hnb c0 c1;have ac1:=xh (HT.o.bel K3.o);have ah7:=xh (oU.o.bel K3.o);have cI3:w3.cell? (p,2)=some (.map (some (A.mb (d+1)))):=af K3.o HCI.o;have cg0:=ac0.o.c 0 rfl;have cg1:=ac0.o.c 1 rfl;have ct1:=ac1.o.c 1 rfl;have ft:=ac1.o.frozen;have afA:nm.size≤maxLen:=by
  have:=HNM.o.1;simp only[bC,Bool.and_eq_true,decide_eq_true_eq]at this
  have h2:nm.data.toList.length=nm.size:=by simp
  rw[h2]at this;unfold maxLen;omega
 have hpn:p≠nb:=by have:=World.block_lt_of_cell? _ _ HCI.o;simp at this;omega
 cases is with
 | false=>
   have HB4:Hid (Blk w3 nb ((qF (d+1) nm false).cells (A.add (T.length+1) nb w.heap.size) (T.length+1)) 234):=xh (by
    have:=HB3.o;rw[←PV.o,ng (A:=A) (B:=A.add (T.length+1) nb w.heap.size) λ_=>(bJ.kY _ _ _ _ _ (by omega)).symm]at this;exact this)
   have Hz:=ah7;have Oq:=ac1;have K4:=K3;have HMB:Hid (w.heap.size≤w.heap.size):=xh (bM _);have cI4:=cI3;clear cI3;generalize w3=w4 at *
   have hkd:=(Hz.o.bel (Bel.drew (Bel.refl w4))).kids d D HD.o DD.o;obtain⟨es,clock,hup0,hmp⟩:=hkd.update NU underlying232 nm afA (.pointer (nb,0));have hup:(Instr.mapUpdate 232 (.map (some (A.mb (d+1)))) (.string nm) (.pointer (nb,0))).run prog w4.drew=.ok () (Go.ChangeMaps.setBlock w4.drew (A.mb (d+1)) (.map es clock)):=hup0;obtain⟨es0,Nu,hb0,_⟩:=hkd;clear hup0;have HKB:=xh (Keep.setBlock hb0 (.map es clock));have Ik:=xh hmp;have hne:p≠A.mb (d+1):=λe=>by
    have h1:=(Hz.o.node d D HD.o).aP (Hz.o.kids d D HD.o DD.o);exact h1 (HPE.o.symm.trans e)
   clear hmp hb0;go_upto_region 6 with fail
   go_still_tail 8,(by kernel_rfl)
   change wpList _ _ _ _ _ w4.drew
   have jY:Hid (Bel w4 w4.drew):=xh (Bel.drew (Bel.refl w4));generalize w4.drew=wd at *
   clear cI4 cg0 cg1 ct1;go_upto_region 7 with fail
   generalize Go.ChangeMaps.setBlock wd (A.mb (d+1)) (.map es clock)=w5 at *
   have CO:Hid (Blk w5 tb (t.cells A) 220):=xh ((Oq.o.bel jY.o).keep HKB.o (λe=>((Oq.o.aP (Hz.o.kids d D HD.o DD.o)) e).elim));have ct1:=CO.o.c 1 rfl;have ft:=CO.o.frozen;have ah8:=CO.o.lt;have hi1:(0:Int)≤(t.di:Int)∧(t.di:Int)≤1000000:=by omega
   clear hup;go_wp2
   go_ret2
   have hK:Keep (λq=>q=tb∨q=A.mb (d+1)) w (w5.setCell (tb,1) (.int .i64 ((t.di:Int)+1))):=
    ((Keep.of_bel _ (K4.o.tr jY.o)).tr (HKB.o.mono λ_ h=>.inr h)).tr ((Keep.setCell w5 tb 1 _).mono λ_ h=>.inl h)
   refine⟨nb,w.heap.size,rfl,?_,?_,hK,J9,HMB.o⟩
   ·have hn5:Blk w5 nb ((qF (d+1) nm false).cells (A.add (T.length+1) nb w.heap.size) (T.length+1)) 234:=
     (HB4.o.bel jY.o).keep HKB.o (λe=>by have:=oU.o.iy ⟨d,D,HD.o,.inr (.inl ⟨DD.o,rfl⟩)⟩;omega)
    refine oU.o.add d D HD.o DD.o (qF (d+1) nm false) nb w.heap.size rfl ⟨rfl,rfl⟩ rfl afz.o HNM.o hfew (hn5.aB ?_ _) J9 ?_ (λ_=>HMB.o) (Ik.o.setCell _) hK ?_
    ·have:=HB4.o.ne Oq.o (by decide);exact this
    ·intro h;cases h
    ·rintro q hq (rfl|rfl)
     ·exfalso
      obtain⟨i,m,hi,h1|⟨hd,h1⟩|h1⟩:=hq
      ·exact(HT.o.ne (oU.o.node i m hi) (by decide)) h1
      ·exact(HT.o.aP (oU.o.kids i m hi hd)) h1
      ·obtain⟨_,cur,hb⟩:=(oU.o.aS i m hi).lt h1
       exact(HT.o.ne hb (by decide)) rfl
     ·rfl
   ·have:=CO.o.setCell (o:=1) (.int .i64 ((t.di:Int)+1))
    have e:({t with di:=t.di+1}:TN).cells (A.add (T.length+1) nb w.heap.size)=(t.cells A).set 1 (.int .i64 ((t.di:Int)+1)):=by
     simp only[TN.cells,List.set_cons_succ,List.set_cons_zero]
     rw[ng (A:=A.add (T.length+1) nb w.heap.size) (B:=A) λ_=>bJ.kY _ _ _ _ _ (by omega)];rfl
    rw[e];exact this
 | true=>
   have hmm:∀w,(Instr.makeMap 232 none).run prog w=.ok (.map (some w.heap.size)) (w.alloc (.map #[] 0)):=λw=>by kernel_rfl
   have f3b:∀o,(w3.alloc (.map #[] 0)).frozen? ⟨nb,o,none⟩=false:=λo=>((HB3.o.alloc (.map #[] 0)).frozen o);have c3b:(w3.alloc (.map #[] 0)).cell? (nb,2)=some (.map none):=(HB3.o.alloc (.map #[] 0)).cell 2;go_upto_region 6 with fail
   have B4:=(HB3.o.setCell (o:=2) (.map (some w3.heap.size))).alloc (.map #[] 0);have k4:Bel w ((w3.setCell (nb,2) (.map (some w3.heap.size))).alloc (.map #[] 0)):=(K3.o.store (p:=⟨nb,2,none⟩) J9 _).ac _;have M4:Mp keyS ((w3.setCell (nb,2) (.map (some w3.heap.size))).alloc (.map #[] 0)) w3.heap.size []:=by
    have:=Mp.new keyS (w3.setCell (nb,2) (.map (some w3.heap.size)));rw[show(w3.setCell (nb,2) (.map (some w3.heap.size))).heap.size=w3.heap.size from by simp[World.setCell]]at this;exact this
   have G4:=(ac0.o.aB (a:=⟨nb,2,none⟩) (by show g4≠nb;omega) (.map (some w3.heap.size))).alloc (.map #[] 0);generalize (w3.setCell (nb,2) (.map (some w3.heap.size))).alloc (.map #[] 0)=w4 at *
   obtain⟨mb,hmb⟩:=e_x w3.heap.size;rw[hmb]at B4 M4⊢;have HMB:Hid (w.heap.size≤mb):=xh (by rw[←hmb];exact K3.o.size);have HM4:=xh M4;have K4:=xh k4;have ajO:w3.heap.size≤mb:=by omega
   have HB4:Hid (Blk w4 nb ((qF (d+1) nm true).cells (A.add (T.length+1) nb mb) (T.length+1)) 234):=xh (by
    have:=B4;rw[←PV.o,ng (A:=A) (B:=A.add (T.length+1) nb mb) λ_=>(bJ.kY _ _ _ _ _ (by omega)).symm]at this;simp[qF,Pn.cells,Pn.map,bJ.add]at this⊢
    exact this)
   have Hz:=xh (oU.o.bel K4.o);have Oq:=xh (HT.o.bel K4.o);have cI4:w4.cell? (p,2)=some (.map (some (A.mb (d+1)))):=af K4.o HCI.o;have cg0:=G4.c 0 rfl;have cg1:=G4.c 1 rfl;clear B4 k4 M4 G4 hmb hmm f3b c3b ct1 ft f3;have hkd:=(Hz.o.bel (Bel.drew (Bel.refl w4))).kids d D HD.o DD.o;obtain⟨es,clock,hup0,hmp⟩:=hkd.update NU underlying232 nm afA (.pointer (nb,0));have hup:(Instr.mapUpdate 232 (.map (some (A.mb (d+1)))) (.string nm) (.pointer (nb,0))).run prog w4.drew=.ok () (Go.ChangeMaps.setBlock w4.drew (A.mb (d+1)) (.map es clock)):=hup0;obtain⟨es0,Nu,hb0,_⟩:=hkd;clear hup0;have HKB:=xh (Keep.setBlock hb0 (.map es clock));have Ik:=xh hmp;have hne:p≠A.mb (d+1):=λe=>by
    have h1:=(Hz.o.node d D HD.o).aP (Hz.o.kids d D HD.o DD.o);exact h1 (HPE.o.symm.trans e)
   clear hmp hb0;go_still_tail 8,(by kernel_rfl)
   change wpList _ _ _ _ _ w4.drew
   have jY:Hid (Bel w4 w4.drew):=xh (Bel.drew (Bel.refl w4));generalize w4.drew=wd at *
   clear cI4 cg0 cg1;go_upto_region 7 with fail
   generalize Go.ChangeMaps.setBlock wd (A.mb (d+1)) (.map es clock)=w5 at *
   have CO:Hid (Blk w5 tb (t.cells A) 220):=xh ((Oq.o.bel jY.o).keep HKB.o (λe=>((Oq.o.aP (Hz.o.kids d D HD.o DD.o)) e).elim));have ct1:=CO.o.c 1 rfl;have ft:=CO.o.frozen;have ah8:=CO.o.lt;have hi1:(0:Int)≤(t.di:Int)∧(t.di:Int)≤1000000:=by omega
   clear hup;go_wp2
   go_ret2
   have hK:Keep (λq=>q=tb∨q=A.mb (d+1)) w (w5.setCell (tb,1) (.int .i64 ((t.di:Int)+1))):=
    ((Keep.of_bel _ (K4.o.tr jY.o)).tr (HKB.o.mono λ_ h=>.inr h)).tr ((Keep.setCell w5 tb 1 _).mono λ_ h=>.inl h)
   refine⟨nb,mb,rfl,?_,?_,hK,J9,HMB.o⟩
   ·have hn5:Blk w5 nb ((qF (d+1) nm true).cells (A.add (T.length+1) nb mb) (T.length+1)) 234:=
     (HB4.o.bel jY.o).keep HKB.o (λe=>by have:=oU.o.iy ⟨d,D,HD.o,.inr (.inl ⟨DD.o,rfl⟩)⟩;omega)
    refine oU.o.add d D HD.o DD.o (qF (d+1) nm true) nb mb rfl ⟨rfl,rfl⟩ rfl afz.o HNM.o hfew (hn5.aB ?_ _) J9 ?_ (λ_=>HMB.o) (Ik.o.setCell _) hK ?_
    ·have:=HB4.o.ne Oq.o (by decide);exact this
    ·intro _
     have h1:A.mb (d+1)≠mb:=λe=>by have:=oU.o.iy ⟨d,D,HD.o,.inr (.inl ⟨DD.o,rfl⟩)⟩;have:=HMB.o;omega
     exact((HM4.o.bel jY.o).of_block (HKB.o.block _ (HM4.o.bel jY.o).lt (λe=>h1 e.symm))).setCell _
    ·rintro q hq (rfl|rfl)
     ·exfalso
      obtain⟨i,m,hi,h1|⟨hd,h1⟩|h1⟩:=hq
      ·exact(HT.o.ne (oU.o.node i m hi) (by decide)) h1
      ·exact(HT.o.aP (oU.o.kids i m hi hd)) h1
      ·obtain⟨_,cur,hb⟩:=(oU.o.aS i m hi).lt h1
       exact(HT.o.ne hb (by decide)) rfl
     ·rfl
   ·have:=CO.o.setCell (o:=1) (.int .i64 ((t.di:Int)+1))
    have e:({t with di:=t.di+1}:TN).cells (A.add (T.length+1) nb mb)=(t.cells A).set 1 (.int .i64 ((t.di:Int)+1)):=by
     simp only[TN.cells,List.set_cons_succ,List.set_cons_zero]
     rw[ng (A:=A.add (T.length+1) nb mb) (B:=A) λ_=>bJ.kY _ _ _ _ _ (by omega)];rfl
    rw[e];exact this
end
section
open Go.RowKit Go.MapKept Go.Maps
def Nd.sk(n:Nd):Nd:={n with bv:=eU}
def iD(L:List Nd):List Nd:=L.map Nd.sk
def cZ(N:List Nd):Nat:=(N.map λn=>n.byt.length).sum
theorem EX(d:Nat)(s:ByteArray):∀(i:Nat) (L:List Nd),iL d s i (iD L)=iL d s i L
 | _,[]=>rfl
 | i,n::L=>by
   have ih:=EX d s (i+1) L;unfold iD at *
   simp only[List.map_cons,iL,ih]
   rfl
theorem JJ(L:List Nd)(d:Nat)(s:ByteArray):child (iD L) d s=child L d s:=EX d s 0 L
theorem pq(L:List Nd)(n:Nat):isDir (iD L) n=isDir L n:=by
 unfold isDir iD;rw[fA];cases L[n-1]?<;>rfl
theorem JK(L:List Nd):∀(l:List (List UInt8)) (d:Nat),eu (iD L) d l=eu L d l
 | [],_=>rfl
 | [x],d=>by simp only[eu,JJ]
 | x::y::t,d=>by
   have ih:=JK L (y::t) (child L d ⟨x.toArray⟩);simp only[eu,JJ,pq,ih]
theorem qp(L:List Nd)(s:List UInt8):az (iD L) s=az L s:=by
 unfold az;cases pathOf s with
 | none=>rfl
 | some l=>exact JK L l 1
theorem vF(L:List Nd):∀(l:List (List UInt8)) (d:Nat),l≠[]→d≠0→isDir L d=true→(eu L d l).2.2.2=0→
 (eu L d l).1≠0∧isDir L (eu L d l).1=true∧(eu L d l).2.2.1=child L (eu L d l).1 (eu L d l).2.1∧∃x∈l,(eu L d l).2.1=⟨x.toArray⟩
 | [],_,h,_,_,_=>absurd rfl h
 | [x],d,_,hd,hi,_=>⟨hd,hi,rfl,x,by simp,rfl⟩
 | x::y::t,d,_,hd,hi,he=>by
   simp only[eu]at he⊢
   by_cases h0:child L d ⟨x.toArray⟩=0
   ·rw[if_pos h0]at he;cases he
   ·rw[if_neg h0]at he⊢
    cases hc:isDir L (child L d ⟨x.toArray⟩)with
    | false=>rw[hc]at he;cases he
    | true=>
      rw[hc]at he;simp only[if_true]at he⊢
      obtain⟨h1,h2,h3,z,h4,h5⟩:=vF L (y::t) _ (by simp) h0 hc he;exact⟨h1,h2,h3,z,by simp only[List.mem_cons]at h4⊢;exact .inr h4,h5⟩
theorem qV{L:List Nd}{n:Nat}(h:isDir L n=true):∃x,L[n-1]?=some x∧x.dir=true:=by
 unfold isDir at h;cases hx:L[n-1]? with
 | none=>rw[hx]at h;cases h
 | some x=>rw[hx]at h;exact⟨x,rfl,h⟩
theorem oH{L:List Nd}{s:List UInt8}(hr:isDir L 1=true)(he:(az L s).2.2.2=0)(hn:(az L s).2.2.1=0) :
 (az L s).1≠0∧isDir L (az L s).1=true∧child L (az L s).1 (az L s).2.1=0∧bC (az L s).2.1.data.toList=true∧(47:UInt8)∉(az L s).2.1.data.toList:=by
 unfold az at *
 cases hp:pathOf s with
 | none=>rw[hp]at he;cases he
 | some l=>
   rw[hp]at he hn;simp only at he hn⊢
   have hne:l≠[]:=by
    rintro rfl;cases hn
   obtain⟨h1,h2,h3,x,h4,h5⟩:=vF L l 1 hne (by decide) hr he;refine⟨h1,h2,by rw[←h3];exact hn,?_⟩;rw[h5];simp only[List.toList_toArray]
   cases s with
   | nil=>cases hp
   | cons b r=>
     rw[ji]at hp;split at hp
     ·split at hp
      ·cases hp;cases h4
      ·split at hp
       ·cases hp
        rename_i ha
        exact⟨List.all_eq_true.1 ha x h4,qy 47 r x h4⟩
       ·cases hp
     ·cases hp
theorem mD{L:List Nd}{s:List UInt8}(hr:isDir L 1=true)(he:(az L s).2.2.2=0):(az L s).2.2.1≤L.length:=by
 have h1:1≤L.length:=by
  obtain⟨x,hx,_⟩:=qV hr;have:=(bV hx).1;omega
 unfold az at *
 cases hp:pathOf s with
 | none=>simp
 | some l=>
   rw[hp]at he;simp only at he⊢
   by_cases hne:l=[]
   ·subst hne;exact h1
   ·obtain⟨_,_,h3,_⟩:=vF L l 1 hne (by decide) hr he
    rw[h3];exact wY _ _ _
def qL(mb:Nat)(N:List Nd)(n:Nat)(b:List Int):Nat×List Nd:=
 match N[n-1]? with
 | none=>(11,N)
 | some x=>if x.dir then(11,N)else if 0<b.length∧mb<cZ N+(b.length-x.byt.length)then(12,N)else(0,N.set (n-1) {x with byt:=b++x.byt.drop b.length})
def Vg(mi:Nat)(N:List Nd)(path:List UInt8):Nat×List Nd:=
 if (az N path).2.2.2≠0 then((az N path).2.2.2,N)else if (az N path).2.2.1≠0 then(10,N)else if mi≤N.length then(12,N)
 else(0,N++[⟨(az N path).1,(az N path).2.1,true,[],eU⟩])
def kR(mi mb:Nat)(N:List Nd)(path:List UInt8)(is:Bool)(b:List Int):Nat×List Nd:=
 if is then Vg mi N path
 else if (az N path).2.2.2≠0 then((az N path).2.2.2,N)
 else if (az N path).2.2.1=0 then
  if mi≤N.length then(12,N)else qL mb (N++[⟨(az N path).1,(az N path).2.1,false,[],eU⟩]) (N.length+1) b
 else qL mb N (az N path).2.2.1 b
structure PT(w:World)(tb:Nat)(A:bJ)(T:List Pn)(mi mb:Nat):Prop where
 tree:dV w A T
 block:Blk w tb ((⟨T.length,cZ (aJ T),mi,mb⟩:TN).cells A) 220
 few:T.length≤mi
 small:cZ (aJ T)≤mb
 mi:mi≤100000
 mb:mb≤100000
def lg(tb:Nat)(A:bJ)(T:List Pn)(q:Nat):Prop:=q=tb∨uu A T q
theorem PT.ok{w:World}{tb:Nat}{A:bJ}{T:List Pn}{mi mb:Nat}(h:PT w tb A T mi mb):(⟨T.length,cZ (aJ T),mi,mb⟩:TN).ok:=
 ⟨by have:=h.few;have:=h.mi;show T.length≤_;omega,by have:=h.small;have:=h.mb;show cZ (aJ T)≤_;omega,by have:=h.mi;show -10000000≤((mi:Nat):Int)∧((mi:Nat):Int)≤10000000;omega,by have:=h.mb;show -10000000≤((mb:Nat):Int)∧((mb:Nat):Int)≤10000000;omega⟩
theorem PT.iy{w:World}{tb:Nat}{A:bJ}{T:List Pn}{mi mb:Nat}(h:PT w tb A T mi mb){q:Nat}(hq:lg tb A T q):q<w.heap.size:=by
 rcases hq with rfl|hq
 ·exact h.block.lt
 ·exact h.tree.iy hq
theorem PT.keep{S:Nat→Prop}{w w':World}{tb:Nat}{A:bJ}{T:List Pn}{mi mb:Nat}(h:PT w tb A T mi mb)(k:Keep S w w')(hs:∀q,lg tb A T q→¬S q):PT w' tb A T mi mb:=
 ⟨h.tree.keep k λq hq=>hs q (.inr hq),h.block.keep k (hs _ (.inl rfl)),h.few,h.small,h.mi,h.mb⟩
theorem PT.bel{w w':World}{tb:Nat}{A:bJ}{T:List Pn}{mi mb:Nat}(h:PT w tb A T mi mb)(k:Bel w w'):PT w' tb A T mi mb:=h.keep (Keep.of_bel (λ_=>False) k) (λ_ _ h=>h)
theorem dV.isRoot{w:World}{A:bJ}{T:List Pn}(h:dV w A T):isDir (aJ T) 1=true:=by
 obtain⟨r,h0,_,h1,_⟩:=h.root;rw[NS T 0 r h0];exact h1
theorem aaw(T U:List Pn):aJ (T++U)=aJ T++aJ U:=by simp[aJ]
theorem vX(N M:List Nd):cZ (N++M)=cZ N+cZ M:=by simp[cZ]
structure kU(w:World)(tb:Nat)(A:bJ)(T:List Pn)(mi mb:Nat)(N':List Nd)(A':bJ)(T':List Pn)(w':World):Prop where
 pt:PT w' tb A' T' mi mb
 aJ:aJ T'=N'
 keep:Keep (lg tb A T) w w'
 foot:∀q,lg tb A' T' q→lg tb A T q∨w.heap.size≤q
theorem kU.refl{w w':World}{tb:Nat}{A:bJ}{T:List Pn}{mi mb:Nat}(h:PT w tb A T mi mb)(k:Bel w w'):kU w tb A T mi mb (Go.Proofs.YtcnjjchlebmfiaaGreatDoor.aJ T) A T w':=⟨h.bel k,rfl,Keep.of_bel _ k,λ_ h=>.inl h⟩
theorem kU.tr{w w1 w2:World}{tb:Nat}{A A1 A2:bJ}{T T1 T2:List Pn}{mi mb:Nat}{N1 N2:List Nd}(h:kU w tb A T mi mb N1 A1 T1 w1)(k:kU w1 tb A1 T1 mi mb N2 A2 T2 w2):kU w tb A T mi mb N2 A2 T2 w2:=
 ⟨k.pt,k.aJ,h.keep.dY k.keep h.foot,λq hq=>by
   rcases k.foot q hq with h1|h1
   ·exact h.foot q h1
   ·exact .inr (bU h.keep.size h1)⟩
theorem Made.step{w w':World}{A:bJ}{T:List Pn}{tb d nb mb mi mx:Nat}{nm:ByteArray}{is:Bool}(h:PT w tb A T mi mx)(D:Pn)(hD:T[d]?=some D)(YS:D.dir=true)(hroom:T.length<mi)
 (k:Made A T ⟨T.length,cZ (aJ T),mi,mx⟩ tb (d+1) nm is w nb mb w'):kU w tb A T mi mx (aJ T++[⟨d+1,nm,is,[],eU⟩]) (A.add (T.length+1) nb mb) (T++[qF (d+1) nm is]) w':=by
 have hn:aJ (T++[qF (d+1) nm is])=aJ T++[⟨d+1,nm,is,[],eU⟩]:=by rw[aaw];rfl
 have hs:cZ (aJ (T++[qF (d+1) nm is]))=cZ (aJ T):=by rw[hn,vX];rfl
 refine⟨⟨k.tree,?_,by simp;omega,by rw[hs];exact h.small,h.mi,h.mb⟩,hn,?_,?_⟩
 ·rw[hs]
  have:=k.block
  simpa using this
 ·exact k.keep.mono λq hq=>by
   rcases hq with rfl|rfl
   ·exact .inl rfl
   ·exact .inr ⟨d,D,hD,.inr (.inl ⟨YS,rfl⟩)⟩
 ·rintro q (rfl|⟨i,m,hi,hq⟩)
  ·exact .inl (.inl rfl)
  ·by_cases h1:i<T.length
   ·rw[List.getElem?_append_left h1]at hi
    rw[bJ.kY _ _ _ _ _ (by omega),bJ.uM _ _ _ _ _ (by omega)]at hq;exact .inl (.inr ⟨i,m,hi,hq⟩)
   ·rw[List.getElem?_append_right (by omega)]at hi
    have h2:=(bV hi).1;simp at h2
    have e:i=T.length:=by omega
    subst e;simp at hi
    subst hi;right
    rcases hq with rfl|⟨_,rfl⟩|hq
    ·simp[bJ.add];exact k.aeY
    ·simp[bJ.add];exact k.aeZ
    ·cases hq
end
section
open Go.Proofs.Tryz Go.RowKit
structure DK(w:World)(kb:Nat)(s:KV)(iv:Value)(L:List Nd):Prop where
 blk:Blk w kb (s.cells iv L.length) 174
 row:w.ownsRow (kb+1) 252 5 iv L.length (bY 0 L)
 aS:∀n∈L,Rw w n.bv n.byt∧∀g,n.bv.ownBlock=some g→kb≤g
 few:L.length≤100000
 one:1≤L.length
theorem zu:∀(k i j:Nat) (L:List Nd) (n:Nd),L[i]?=some n→j<5→(bY k L)[i*5+j]?=(n.cells (k+i))[j]?
 | k,0,j,[],n,h,hj=>by simp at h
 | k,i+1,j,[],n,h,hj=>by simp at h
 | k,0,j,m::L,n,h,hj=>by
   simp at h
   subst h;rw[bY,Nat.zero_mul,Nat.zero_add,List.getElem?_append_left (by simpa [Nd.cells]using hj)];simp
 | k,i+1,j,m::L,n,h,hj=>by
   have ih:=zu (k+1) i j L n (by simpa using h) hj;rw[bY,List.getElem?_append_right (by simp[Nd.cells];omega),←show k+1+i=k+(i+1)from by omega,←ih];congr 1
   simp[Nd.cells]
   omega
theorem DK.tree{w:World}{kb:Nat}{s:KV}{iv:Value}{L:List Nd}(h:DK w kb s iv L):∃g cap,iv=.slice (g,0) L.length cap∧oO w kb g cap L∧kb+1≤g:=by
 obtain⟨p,cap,hv,hn,_,hp⟩:=aG h.row;have h1:=h.one;obtain⟨g,rfl,hg,hgl,hc,_⟩:=hp.resolve_left (by omega);refine⟨g,cap,hv,⟨?_,hn,λi n hi j v hj=>?_⟩,hg⟩
 ·rw[←hv];exact h.blk.cell 7
 ·have hj5:j<5:=by have:=(bV hj).1;simpa [Nd.cells]using this
  have hil:=(bV hi).1;rw[hc _ (by rw[yS];omega),zu 0 i j L n hi hj5,Nat.zero_add,hj]
theorem DK.bel{w w':World}{kb:Nat}{s:KV}{iv:Value}{L:List Nd}(h:DK w kb s iv L)(k:Bel w w'):DK w' kb s iv L:=
 ⟨h.blk.bel k,aO h.row k,λn hn=>⟨(h.aS n hn).1.bel k,(h.aS n hn).2⟩,h.few,h.one⟩
def wX(w:World)(kb:Nat)(s:KV)(r:Nat×List Nd)(e:Ending)(w':World):Prop:=
 e=.returned (.int .i64 (r.1:Nat))∧Keep (λq=>kb≤q) w w'∧(r.1=0→∃Ak L',iD L'=r.2∧DK w' kb s Ak L')
theorem DK.made{w w':World}{kb:Nat}{s:KV}{iv Ak:Value}{L:List Nd}(h:DK w kb s iv L)(d:Nat)(nm:ByteArray)(is:Bool)(hfew:L.length+1≤100000)(hB:Blk w' kb (s.cells Ak (L.length+1)) 174)
 (hr:w'.ownsRow (kb+1) 252 5 Ak (L.length+1) (bY 0 (L++[⟨d,nm,is,[],eU⟩])))(k:Keep (λq=>q=kb∨iv.ownBlock=some q) w w'):DK w' kb s Ak (L++[⟨d,nm,is,[],eU⟩]):=by
 have hl:(L++[(⟨d,nm,is,[],eU⟩:Nd)]).length=L.length+1:=by simp
 refine⟨by rw[hl];exact hB,by rw[hl];exact hr,λn hn=>?_,by rw[hl];exact hfew,by rw[hl];omega⟩;rcases List.mem_append.1 hn with hn|hn
 ·refine⟨(h.aS n hn).1.keep k λg hg hs=>?_,(h.aS n hn).2⟩
  obtain⟨_,cur,hb⟩:=(h.aS n hn).1.lt hg;rcases hs with rfl|hs
  ·exact hb.ne h.blk (by decide) rfl
  ·obtain⟨p,cap,hv,_,_,hp⟩:=aG h.row
   have h1:=h.one;obtain⟨g',rfl,_,_,_,_⟩:=hp.resolve_left (by omega);rw[hv]at hs;cases hs
   rcases h.row.2 with⟨h2,_⟩|⟨g2,c2,cur2,h2,_,h3,_⟩
   ·rw[hv]at h2;cases h2
   ·rw[hv]at h2
    cases h2
    exact hb.ne (show Blk w g' cur2.toList _ from by unfold Blk;simpa using h3) (by decide) rfl
 ·simp at hn
  subst hn;exact⟨⟨(λx hx=>by cases hx),.inl ⟨rfl,rfl⟩⟩,λg hg=>by cases hg⟩
theorem Ho(L M:List Nd):iD (L++M)=iD L++iD M:=by simp[iD]
theorem zO(L:List Nd):(iD L).length=L.length:=by simp[iD]
theorem NR(kb:Nat)(s:KV)(iv:Value)(L:List Nd)(mi:Nat)(nm:ByteArray)(w:World)(h:DK w kb s iv L)(hd:s.d=mi)(OY:mi≤100000)(hs:nm.size≤1000000) :
 Calls prog 182 #[kb,nm] w λe w'=>wX w kb s (Vg mi (iD L) nm.data.toList) e w':=by
 obtain⟨g,cap,hiv,ht,hg⟩:=h.tree;have hfew:=h.few;have hw:=walk_any kb g cap L w ht nm hs (by omega);unfold Vg;rw[qp,zO];obtain⟨d,x,n,c,hr⟩:∃d x n c,az L nm.data.toList=(d,x,n,c):=⟨_,_,_,_,rfl⟩;rw[hr]at hw⊢;simp only[PZ]at hw⊢
 have h0c:((0:Nat):Int)=0:=rfl;have HW:=xh hw;have HDK:=xh h;have HIV:=xh hiv;clear hw h hr hiv ht;by_cases hc:c=0
 ·subst hc
  rw[h0c]at HW;rw[if_neg (by simp)];by_cases hn:n=0
  ·subst hn
   rw[h0c]at HW;rw[if_neg (by simp)];clear h0c;by_cases hm:mi≤L.length
   ·rw[if_pos hm]
    go_enter func182,ntmps182;go_upto_region 6 with(go_at_call 183;((with_reducible refine aH HW.o ?_);rintro e w1 ⟨rfl,k1⟩))
    have c7:w1.cell? (kb,7)=some (.slice (g,0) L.length cap):=by rw[←HIV.o];exact(HDK.o.bel k1).blk.cell 7
    have c3:w1.cell? (kb,3)=some (.int .i64 (mi:Int)):=by rw[←hd];exact(HDK.o.bel k1).blk.cell 3
    go_quiet (fail)
    go_wp2
    go_ret
    exact⟨rfl,Keep.of_bel _ (aj k1 nq),λh=>by cases h⟩
   ·rw[if_neg hm]
    have HM:=xh λiv L' (W:World) hB hr=>IQ kb s iv L' W hB hr d x true;have hml:L.length<mi:=by omega
    have KZ:Hid (iD (L++[⟨d,x,true,[],eU⟩])=iD L++[⟨d,x,true,[],eU⟩]):=xh (by rw[Ho];rfl);go_enter func182,ntmps182;go_upto_region 6 with(go_at_call 183;((with_reducible refine aH HW.o ?_);rintro e w1 ⟨rfl,k1⟩))
    have c7:w1.cell? (kb,7)=some (.slice (g,0) L.length cap):=by rw[←HIV.o];exact(HDK.o.bel k1).blk.cell 7
    have c3:w1.cell? (kb,3)=some (.int .i64 (mi:Int)):=by rw[←hd];exact(HDK.o.bel k1).blk.cell 3
    have bP:=xh k1;clear k1;go_quiet (fail)
    have kd:Bel w1 (w1.drewN nq):=aj (Bel.refl _) nq;generalize w1.drewN nq=wd at *
    have jY:=xh (bP.o.tr kd);have DD:=xh (HDK.o.bel jY.o);clear kd c7 c3;go_wp2_with (go_at_call 184;((with_reducible refine aH (HM.o iv L wd DD.o.blk DD.o.row hfew) ?_);rintro e w2 ⟨rfl,Ak,B2,R2,K2⟩))
    go_ret
    exact⟨rfl,(Keep.of_bel _ jY.o).tr (K2.mono λq hq=>by
     rcases hq with rfl|hq
     ·exact bM _
     ·rw[HIV.o]at hq;cases hq;show kb≤g;omega),λ_=>⟨Ak,_,KZ.o,DD.o.made d x true (by omega) B2 R2 K2⟩⟩
  ·rw[if_pos hn]
   have hnb:((n:Int)==0)=false:=dK (by omega);clear hn;go_enter func182,ntmps182;go_wp2_with (go_at_call 183;((with_reducible refine aH HW.o ?_);rintro e w1 ⟨rfl,k1⟩))
   go_ret
   exact⟨rfl,Keep.of_bel _ k1,λh=>by cases h⟩
 ·rw[if_pos hc]
  have hcb:((c:Int)==0)=false:=dK (by omega);have HC:=xh hc;clear hc;go_enter func182,ntmps182;go_wp2_with (go_at_call 183;((with_reducible refine aH HW.o ?_);rintro e w1 ⟨rfl,k1⟩))
  go_ret
  exact⟨rfl,Keep.of_bel _ k1,λh=>absurd h HC.o⟩
end
section
open Go.RowKit Go.MapKept Go.Maps
end
section
open Go.Proofs.Tryz Go.RowKit Go.Maps
theorem UK(kb:Nat)(of kind:Int)(w:World)(h6:w.cell? (kb,6)=some (.slice none 0 0)) :
 Calls prog 326 #[kb,of,kind] w (Z.e (.int .i64 0) w):=by
 go_enter func326,ntmps326;go_wp2_with fail
 refine wp_loop_rounds 1 ?_;rw[rounds_succ];go_wp2_with fail
 go_ret
 exact⟨rfl,rfl⟩
theorem Ig(L:List Nd)(k:Nat)(n:Nd)(h:L[k]?=some n):bY 0 (L.take (k+1))=bY 0 (L.take k)++n.cells k:=by
 have hlt:=(bV h).1;have e:L.take (k+1)=L.take k++[n]:=by
  rw[List.take_succ_eq_append_getElem hlt];congr 1
  rw[bT hlt]at h;rw[Option.some.inj h]
 rw[e,yR,List.length_take,Nat.min_eq_left (by omega),Nat.zero_add];simp[bY]
theorem adl(n:Nd)(k:Nat)(h:∃p m c,n.bv=.slice p m c):∀v∈n.cells k,v.oneCell'=true:=by
 obtain⟨p,m,c,h⟩:=h;intro v hv;simp only[Nd.cells,List.mem_cons,List.not_mem_nil,or_false]at hv
 rcases hv with rfl|rfl|rfl|rfl|rfl
 ·rfl
 ·rfl
 ·rfl
 ·rfl
 ·rw[h];rfl
theorem L9(kb:Nat)(s:KV)(iv:Value)(L:List Nd)(w:World)(h:DK w kb s iv L)(ho:s.ov=.slice none 0 0)(hx:s.xv=.slice none 0 0)(hp:∀i n,L[i]?=some n→1≤i→0<n.par)(hb:∀n∈L,∃p k c,n.bv=.slice p k c) :
 Calls prog 267 #[kb] w λe w'=>e=.returned (.tuple #[])∧∃Ak,DK w' kb s Ak L∧Keep (λq=>q=kb) w w':=by
 have hkl:=h.blk.lt;have hL:=h.few;have c6:w.cell? (kb,6)=some (.slice none 0 0):=by have:=h.blk.cell 6;rw[this];show some s.ov=_;rw[ho]
 have c8:w.cell? (kb,8)=some (.slice none 0 0):=by have:=h.blk.cell 8;rw[this];show some s.xv=_;rw[hx]
 have fk:=h.blk.frozen;have f6:=fk 6;have f8:=fk 8;have e6:(s.cells iv L.length).set 6 (.slice none 0 0)=s.cells iv L.length:=by show[_,_,_,_,_,_,_,_,_,_,_,_,_]=_;rw[←ho];rfl
 have e8:(s.cells iv L.length).set 8 (.slice none 0 0)=s.cells iv L.length:=by show[_,_,_,_,_,_,_,_,_,_,_,_,_]=_;rw[←hx];rfl
 have B1:=(h.blk.setCell (o:=6) (.slice none 0 0)).setCell (o:=8) (.slice none 0 0);rw[e6,e8]at B1;have K1:Keep (λq=>q=kb) w ((w.setCell (kb,6) (.slice none 0 0)).setCell (kb,8) (.slice none 0 0)):=(Keep.setCell w kb 6 _).tr (Keep.setCell _ kb 8 _);have HD:=xh h;have HO:=xh (And.intro ho hx);have HP:=xh hp;have NJ:=xh hb;have HB1:=xh B1;have bP:=xh K1;clear h ho hx hp hb B1 K1 e6 e8 fk;go_enter func267,ntmps267;go_wp2_with fail
 refine wp_loop_rounds 1 ?_;rw[rounds_succ];go_wp2_with fail
 refine wp_loop_rounds 1 ?_;rw[rounds_succ];go_upto_region 18 with fail
 generalize (w.setCell (kb,6) (.slice none 0 0)).setCell (kb,8) (.slice none 0 0)=w1 at *
 have D1:DK w1 kb s iv L:=by
  refine⟨HB1.o,dG HD.o.row bP.o (λg hg e=>by have e:g=kb:=e;omega),λn hn=>⟨(HD.o.aS n hn).1.keep bP.o λg hg e=>?_,(HD.o.aS n hn).2⟩,HD.o.few,HD.o.one⟩;obtain⟨_,cur,hb⟩:=(HD.o.aS n hn).1.lt hg;have e:g=kb:=e;subst e;exact HD.o.blk.ne hb (by decide) rfl
 have hB6:w1.cell? (kb,6)=some (.slice none 0 0):=by rw[HB1.o.cell];show some s.ov=_;rw[HO.o.1]
 obtain⟨g,cap,hiv,PR,_⟩:=D1.tree;subst hiv;have hB7:=HB1.o.c 7 rfl;have HD1:=xh D1;have YT:=xh PR;have ahi:kb<w1.heap.size:=HB1.o.lt;have HEN:=xh λ(of kind:Int) (W:World) (hW:Bel w1 W)=>UK kb of kind W (af hW hB6);clear PR D1 c6 c8 f6 f8
 go_loopw [8,9] (λv i wr=>∃k:Nat,k≤L.length∧i=.int .i64 k∧Hid (wr.ownsRow w1.heap.size 252 5 v k (bY 0 (L.take k))∧Bel w1 wr)) (λ_ i _=>L.length-(intOf i).toNat)
 case atStart=>exact⟨0,Nat.zero_le _,rfl,xh ⟨World.ownsRow_nil _ _ _ _,Bel.refl _⟩⟩
 case round=>
  obtain⟨k,hk,rfl,HI⟩:=hrel;have c7:=af HI.out.2 hB7;by_cases hlt:k<L.length
  ·obtain⟨n,hn⟩:∃n,L[k]?=some n:=⟨_,bT hlt⟩
   have hr:=(YT.o.bel HI.out.2).2.2 k n hn;have n0:wr.cell? (g,k*5)=some (.int .i64 (k+1:Nat)):=hr 0 _ rfl;have n1:wr.cell? (g,k*5+1)=some (.int .i64 n.par):=hr 1 _ rfl;have n2:wr.cell? (g,k*5+2)=some (.string n.name):=hr 2 _ rfl;have n3:wr.cell? (g,k*5+3)=some (.bool n.dir):=hr 3 _ rfl;have n4:wr.cell? (g,k*5+4)=some n.bv:=hr 4 _ rfl;obtain⟨p5,m5,q5,e5⟩:=NJ.o n (List.mem_iff_getElem?.2 ⟨k,hn⟩);rw[e5]at n4;have qg:Hid (∀v∈n.cells k,v.oneCell'=true):=xh (adl n k ⟨p5,m5,q5,e5⟩);have jK:Hid (n.cells k=[.int .i64 (k+1:Nat),.int .i64 n.par,.string n.name,.bool n.dir,.slice p5 m5 q5]):=xh (by rw[←e5];rfl);have HX:Hid (bY 0 (L.take (k+1))=bY 0 (L.take k)++n.cells k):=xh (Ig L k n hn);have HN:=xh hn;have HE5:=xh e5;have hpar:k=0∨0<(n.par:Int):=by
    by_cases e:k=0
    ·exact .inl e
    ·have:=HP.o k n hn (by omega);right;omega
   clear hr hn e5;rcases hpar with e0|hpar
   ·have hz:(((k+1:Nat):Int)==1)=true:=by rw[e0];rfl
    have hz2:((k:Int)+1==1)=true:=by rw[e0];rfl
    clear e0;by_cases abq:0<n.par
    ·have af8:0<(n.par:Int):=by omega
     go_wp2_with (first
      | (go_at_call 326;((with_reducible refine aH (HEN.o _ _ _ HI.out.2) ?_);rintro e w2 ⟨rfl,rfl⟩))
      | (refine au rfl 170 252 (.tmp 142) rfl [.int .i64 (k+1:Nat),.int .i64 n.par,.string n.name,.bool n.dir,.slice p5 m5 q5] rfl underlying170 iO (by show 0<5;omega) (by show 5≤2^24;omega) ?_;intro w5 B5 K5)
      | (refine fG rfl (.tmp 135) (.tmp 143) 170 rfl underlying170 iO (by omega) rfl (aO HI.out.1 K5) _ 1 1 [.int .i64 (k+1:Nat),.int .i64 n.par,.string n.name,.bool n.dir,.slice p5 m5 q5] 252 rfl B5.out rfl (by intro v hv;simp at hv;rcases hv with rfl|rfl|rfl|rfl|rfl<;>rfl) (by unfold maxLen;omega) (by omega) (by have:=K5.size;have:=HI.out.2.size;omega) ?_;intro p9 c9 w9 R9 K9;have HI9:=xh (And.intro R9 (((Keep.of_bel _ (HI.out.2.tr K5)).tr (K9.mono λq hq=>hq)).below _ (bM _) λq hq=>xP HI.out.1 q hq));clear R9 K9))
     go_roundw
     case rel=>exact⟨k+1,by omega,by go_num,xh ⟨by rw[HX.o,jK.o];exact HI9.o.1,HI9.o.2⟩⟩
     case measure=>simp[intOf]<;>omega
    ·have af8:¬0<(n.par:Int):=by omega
     go_wp2_with (first
      | (go_at_call 326;((with_reducible refine aH (HEN.o _ _ _ HI.out.2) ?_);rintro e w2 ⟨rfl,rfl⟩))
      | (refine au rfl 170 252 (.tmp 142) rfl [.int .i64 (k+1:Nat),.int .i64 n.par,.string n.name,.bool n.dir,.slice p5 m5 q5] rfl underlying170 iO (by show 0<5;omega) (by show 5≤2^24;omega) ?_;intro w5 B5 K5)
      | (refine fG rfl (.tmp 135) (.tmp 143) 170 rfl underlying170 iO (by omega) rfl (aO HI.out.1 K5) _ 1 1 [.int .i64 (k+1:Nat),.int .i64 n.par,.string n.name,.bool n.dir,.slice p5 m5 q5] 252 rfl B5.out rfl (by intro v hv;simp at hv;rcases hv with rfl|rfl|rfl|rfl|rfl<;>rfl) (by unfold maxLen;omega) (by omega) (by have:=K5.size;have:=HI.out.2.size;omega) ?_;intro p9 c9 w9 R9 K9;have HI9:=xh (And.intro R9 (((Keep.of_bel _ (HI.out.2.tr K5)).tr (K9.mono λq hq=>hq)).below _ (bM _) λq hq=>xP HI.out.1 q hq));clear R9 K9))
     go_roundw
     case rel=>exact⟨k+1,by omega,by go_num,xh ⟨by rw[HX.o,jK.o];exact HI9.o.1,HI9.o.2⟩⟩
     case measure=>simp[intOf]<;>omega
   ·have abq:0<n.par:=by omega
    go_wp2_with (first
     | (go_at_call 326;((with_reducible refine aH (HEN.o _ _ _ HI.out.2) ?_);rintro e w2 ⟨rfl,rfl⟩))
     | (refine au rfl 170 252 (.tmp 142) rfl [.int .i64 (k+1:Nat),.int .i64 n.par,.string n.name,.bool n.dir,.slice p5 m5 q5] rfl underlying170 iO (by show 0<5;omega) (by show 5≤2^24;omega) ?_;intro w5 B5 K5)
     | (refine fG rfl (.tmp 135) (.tmp 143) 170 rfl underlying170 iO (by omega) rfl (aO HI.out.1 K5) _ 1 1 [.int .i64 (k+1:Nat),.int .i64 n.par,.string n.name,.bool n.dir,.slice p5 m5 q5] 252 rfl B5.out rfl (by intro v hv;simp at hv;rcases hv with rfl|rfl|rfl|rfl|rfl<;>rfl) (by unfold maxLen;omega) (by omega) (by have:=K5.size;have:=HI.out.2.size;omega) ?_;intro p9 c9 w9 R9 K9;have HI9:=xh (And.intro R9 (((Keep.of_bel _ (HI.out.2.tr K5)).tr (K9.mono λq hq=>hq)).below _ (bM _) λq hq=>xP HI.out.1 q hq));clear R9 K9))
    go_roundw
    case rel=>exact⟨k+1,by omega,by go_num,xh ⟨by rw[HX.o,jK.o];exact HI9.o.1,HI9.o.2⟩⟩
    case measure=>simp[intOf]<;>omega
  ·obtain rfl:k=L.length:=by omega
   have hr:=HI.out.1;rw[List.take_length]at hr;have hl2:kb<wr.heap.size:=by have:=HI.out.2.size;omega
   have BK:=HB1.o.bel HI.out.2;have UY:=xh BK;have f7:=BK.frozen 7;have HR:=xh hr;have c7v:=c7;obtain⟨pv,cv,rfl,_⟩:=aG hr;clear hr BK;go_wp2_with fail
   go_end0
   have K4:=Keep.setCell wr kb 7 (.slice pv L.length cv);have K04:=(bP.o.tr (Keep.of_bel _ HI.out.2)).tr K4;refine⟨rfl,_,⟨UY.o.setCell (o:=7) _,dG (HR.o.mono (by have:=HB1.o.lt;omega)) K4 (λg hg e=>by have e:g=kb:=e;omega),λn hn=>⟨(HD.o.aS n hn).1.keep K04 λq hq e=>?_,(HD.o.aS n hn).2⟩,HD.o.few,HD.o.one⟩,K04⟩;obtain⟨_,cur,hb⟩:=(HD.o.aS n hn).1.lt hq;have e:q=kb:=e;subst e;exact HD.o.blk.ne hb (by decide) rfl
end
section
open Go.RowKit Go.MapKept Go.Maps
theorem Zz{S:Nat→Prop}{w w':World}{base:Nat}{e:TypeId}{size:Nat}{v:Value}{n:Nat}{xs:List Value}(h:w.ownsRow base e size v n xs)(k:Keep S w w')(hs:∀g,v.ownBlock=some g→¬S g):w'.ownsRow base e size v n xs:=by
 refine⟨h.1,?_⟩;rcases h.2 with h2|⟨g,cap,cur,rfl,h3,h4,h5⟩
 ·exact .inl h2
 ·refine .inr ⟨g,cap,cur,rfl,h3,?_,h5⟩
  have hlt:g<w.heap.size:=by
   by_cases hl:g<w.heap.size
   ·exact hl
   ·rw[Array.getElem?_eq_none (by omega)]at h4;cases h4
  rw[k.block g hlt (hs g rfl)];exact h4
theorem xR{S:Nat→Prop}{w w':World}{base:Nat}{e:TypeId}{size:Nat}{v:Value}{n:Nat}{xs:List Value}(h:w.ownsRow base e size v n xs)(k:Keep S w w')(hs:∀q cs,Blk w q cs e→¬S q):w'.ownsRow base e size v n xs:=by
 refine⟨h.1,?_⟩;rcases h.2 with h2|⟨g,cap,cur,rfl,h3,h4,h5⟩
 ·exact .inl h2
 ·exact .inr ⟨g,cap,cur,rfl,h3,(k.block g (Array.getElem?_eq_some_iff.1 h4).1 (hs g _ h4)).trans h4,h5⟩
end
end Go.Proofs.YtcnjjchlebmfiaaGreatDoor
