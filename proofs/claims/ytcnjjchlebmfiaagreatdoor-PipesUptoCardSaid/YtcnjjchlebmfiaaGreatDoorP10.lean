/-.-/
import Derived.Test.YtcnjjchlebmfiaaGreatDoorP09
set_option linter.unusedVariables false
set_option linter.unusedSimpArgs false
set_option maxRecDepth 100000
set_option maxHeartbeats 16000000
namespace Go.Proofs.YtcnjjchlebmfiaaGreatDoor
section
open Go.Proofs.Tryz Go.RowKit Go.MapKept Go.Maps
def KQ(w:World)(tb:Nat)(A:bB)(T:List Pn)(mi mb:Nat)(r:Nat×List Nd)(e:Ending)(w':World):Prop:=
 (r.1≠0→e=.returned (eD r.1)∧Keep (jC tb A T) w w')∧(r.1=0→e=.returned .nilIface∧∃A' T',jr w tb A T mi mb r.2 A' T' w')
theorem NS(tb:Nat)(s:ByteArray)(c:Int)(w:World)
 (hf:∀W,Bel w W→Calls prog 95 #[tb,s] W (Z.b (.tuple #[.agg #[.pointer none,.string ⟨#[]⟩,.pointer none],eD c]) W)) :
 Calls prog 94 #[tb,s] w (Z.b (eD c) w):=by
 have HF:=xh hf;clear hf;go_enter func94,ntmps94;go_wp2_with (go_at_call 95;((with_reducible refine au (HF.o w (Bel.refl w)) ?_);rintro e w1 ⟨rfl,k1⟩))
 go_ret
 exact⟨rfl,k1.ac _⟩
theorem NT(tb:Nat)(s:ByteArray)(p:Value)(nm:ByteArray)(a:Nat)(w:World)(hp:p.oneCell'=true)
 (hf:∀W,Bel w W→Calls prog 95 #[tb,s] W (Z.b (.tuple #[.agg #[p,nm,a],.nilIface]) W)) :
 Calls prog 94 #[tb,s] w (Z.b (eD 10) w):=by
 have HF:=xh hf;have HP:=xh hp;clear hf hp;go_enter func94,ntmps94
 go_upto_region 2 with(first
  | (go_at_call 95;((with_reducible refine au (HF.o w (Bel.refl w)) ?_);rintro e w1 ⟨rfl,k1⟩))
  | (refine aG rfl 240 (.tmp 5) (.tmp 11) rfl rfl w1.heap.size [p,nm,a] [.pointer none,.string ⟨#[]⟩,.pointer none] 240 (Blk.new w1 _ _) rfl rfl (by kernel_rfl) rfl (by intro v hv;simp at hv;rcases hv with rfl|rfl|rfl;exact HP.o;all_goals rfl) ?_;intro w3 B3 K3))
 have kc:Bel w w3:=k1.tr ((Below.aF w1 _).trans (K3.below _ (by simp) (λk hk=>by omega)));have c2:=B3.out.c 2 rfl;have vW:=xh kc;generalize w1.heap.size=g at *
 clear kc K3 k1 B3;go_wp2
 go_ret
 exact⟨rfl,vW.o⟩
theorem zg(tb:Nat)(s:ByteArray)(p:Value)(nm:ByteArray)(q v:Value)(w:World)(Post:World→World→Prop)
 (hf:∀W,Bel w W→Calls prog 95 #[tb,s] W (Z.b (.tuple #[.agg #[p,nm,.pointer none],.nilIface]) W))
 (hp:p.oneCell'=true)
 (hm:∀W,Bel w W→Calls prog 96 #[tb,.agg #[p,nm,.pointer none],true] W λe w'=>(∃q,e=.returned (.tuple #[q,v]))∧Post W w') :
 Calls prog 94 #[tb,s] w λe w'=>e=.returned v∧∃W,Bel w W∧Post W w':=by
 have HF:=xh hf;have HM:=xh hm;have HP:=xh hp;clear hf hm hp;go_enter func94,ntmps94
 go_upto_region 2 with(first
  | (go_at_call 95;((with_reducible refine au (HF.o w (Bel.refl w)) ?_);rintro e w1 ⟨rfl,k1⟩))
  | (refine aG rfl 240 (.tmp 5) (.tmp 11) rfl rfl w1.heap.size [p,nm,.pointer none] [.pointer none,.string ⟨#[]⟩,.pointer none] 240 (Blk.new w1 _ _) rfl rfl (by kernel_rfl) rfl (by intro v hv;simp at hv;rcases hv with rfl|rfl|rfl;exact HP.o;all_goals rfl) ?_;intro w3 B3 K3))
 have kc:Bel w w3:=k1.tr ((Below.aF w1 _).trans (K3.below _ (by simp) (λk hk=>by omega)));have c2:=B3.out.c 2 rfl;have HB3:=xh B3.out;have vW:=xh kc;generalize w1.heap.size=g at *
 clear kc K3 k1 B3
 go_wp2_with (first
  | (refine wpList_load_mid rfl 240 (.tmp 5) rfl g 0 rfl [p,nm,.pointer none] _ (by have:=HB3.o.range 0;simpa using this) underlying240 rfl (by kernel_rfl) ?_)
  | (go_at_call 96;((with_reducible refine au (HM.o w3 vW.o) ?_);rintro e w4 ⟨⟨q,rfl⟩,hpost⟩)))
 go_ret
 exact⟨rfl,w3,vW.o,hpost⟩
theorem UT(A:bB){n:Nat}(h:n≠0):A.ptr n=.pointer (A.nb n,0):=by simp[bB.ptr,bB.at_,h]
theorem Made.of_bel{w W w':World}{A:bB}{T:List Pn}{t:TN}{tb d nb mb:Nat}{nm:ByteArray}{is:Bool}(hb:Bel w W)(k:Made A T t tb d nm is W nb mb w'):Made A T t tb d nm is w nb mb w':=
 ⟨k.tree,k.block,(Keep.of_bel _ hb).tr k.keep,aV hb.size k.aaL,aV hb.size k.aaM⟩
theorem Np(tb:Nat)(A:bB)(T:List Pn)(mi mb:Nat)(s:ByteArray)(w:World)(h:PT w tb A T mi mb)(hs:s.size≤1000000)(hmx:dZ w) :
 Calls prog 94 #[tb,s] w λe w'=>KQ w tb A T mi mb (Ph mi (aH T) s.data.toList) e w':=by
 have hf:=λW (hW:Bel w W)=>yN tb A T _ s W (h.bel hW).block (h.bel hW).tree hs (hmx.bel hW);have hroot:=h.tree.isRoot;unfold Ph;obtain⟨d,nm,n,c,hr⟩:∃d nm n c,ay (aH T) s.data.toList=(d,nm,n,c):=⟨_,_,_,_,rfl⟩;have hnew:=mg (L:=aH T) (s:=s.data.toList) hroot;have hold:=jS (L:=aH T) (s:=s.data.toList) hroot;rw[hr]at hnew hold;simp only[hr]at hf hnew hold⊢
 by_cases hc:c=0
 ·subst hc
  by_cases hn:n=0
  ·subst hn
   obtain⟨h1,h2,h3,h4⟩:=hnew rfl rfl;obtain⟨d,rfl⟩:∃d',d=d'+1:=⟨d-1,by omega⟩;obtain⟨x,hx,hxd⟩:=oU h2;rw[Nat.add_sub_cancel,aH,dA,Option.map_eq_some_iff]at hx;obtain⟨D,hD,rfl⟩:=hx;have hfp:∀W,Bel w W→Calls prog 95 #[tb,s] W (Z.b (.tuple #[.agg #[A.ptr (d+1),.string nm,.pointer none],.nilIface]) W):=λW hW=>(hf W hW).mono λe w' k=>⟨k.1.trans (by simp[wI,bB.ptr,bB.at_]),k.2⟩;rw[if_neg (by simp),if_neg (by simp)];by_cases hm:mi≤T.length
   ·rw[if_pos (by rw[jM];exact hm)]
    refine(zg tb s (A.ptr (d+1)) nm (.pointer none) (eD 12) w (λW w'=>Bel W w') hfp rfl λW hW=>(A8 tb A _ (d+1) nm true W (h.bel hW).block (h.bel hW).ok ?_).mono ?_).mono ?_
    ·unfold jv
     simp only[Bool.and_eq_false_iff,decide_eq_false_iff_not]
     left;omega
    ·rintro e w' ⟨rfl,k⟩;exact⟨⟨_,rfl⟩,k⟩
    ·rintro e w' ⟨rfl,W,k1,k2⟩
     exact⟨λ_=>⟨rfl,Keep.of_bel _ (k1.tr k2)⟩,λh=>by cases h⟩
   ·rw[if_neg (by rw[jM];exact hm)]
    have hsm:=h.small;have Kk:=h.mi;refine(zg tb s (A.ptr (d+1)) nm (.pointer none) .nilIface w (λW w'=>∃nb mx,Made A T ⟨T.length,bN (aH T),mi,mb⟩ tb (d+1) nm true W nb mx w') hfp rfl λW hW=>(KS tb A T _ d D nm true W (h.bel hW).block (h.bel hW).tree (h.bel hW).ok ?_ hD hxd h3 h4 (by omega)).mono ?_).mono ?_
    ·unfold jv
     simp only[Bool.and_eq_true,decide_eq_true_eq]
     omega
    ·rintro e w' ⟨nb,mx,rfl,k⟩;exact⟨⟨_,rfl⟩,nb,mx,k⟩
    ·rintro e w' ⟨rfl,W,k1,nb,mx,k2⟩
     exact⟨λh=>absurd rfl h,λ_=>⟨rfl,_,_,Made.step h D hD hxd (by omega) (k2.of_bel k1)⟩⟩
  ·rw[if_neg (by simp),if_pos hn]
   refine(NT tb s (A.ptr d) nm (A.nb n) w rfl λW hW=>(hf W hW).mono λe w' k=>⟨k.1.trans (by rw[wI,if_pos rfl,UT A hn]),k.2⟩).mono ?_;rintro e w' ⟨rfl,k⟩;exact⟨λ_=>⟨rfl,Keep.of_bel _ k⟩,λh=>by cases h⟩
 ·rw[if_pos hc]
  refine(NS tb s c w λW hW=>(hf W hW).mono λe w' k=>⟨k.1.trans (by rw[wI,if_neg hc]),k.2⟩).mono ?_;rintro e w' ⟨rfl,k⟩;exact⟨λ_=>⟨rfl,Keep.of_bel _ k⟩,λh=>absurd h hc⟩
theorem bC{P:Program}{w:World}{ops:Array Oper}{rest:List Oper}{o:Oper}{a:Act}{Q:Exit→Act→World→Prop}(hgd:o.guard=none)(d s:Operand)(dT sT:TypeId)
 (ho:o.op=.call {callee:=.builtin .copy,args:= #[d,s],argTypes:= #[dT,sT]})(elem:TypeId)(hu:P.underlying dT=some (.slice elem))(hsz:(P.info? elem).map (·.size)=some 1)
 (g:Nat)(sp:Option Addr)(dLen dCap sLen sCap:Nat)(hd:a.eval d=.slice (g,0) dLen dCap)(hs:a.eval s=.slice sp sLen sCap)
 (cur:List Value)(t:TypeId)(hg:Blk w g cur t)(cs:List Value)(hn:cs.length=Nat.min sLen dLen)
 (hpos:0<cs.length→∃ad,sp=some ad∧∀j v,cs[j]?=some v→w.cell? (ad.add j)=some v)
 (hfit:cs.length≤cur.length)(h1:∀v∈cs,v.oneCell'=true)
 (h:∀w',Hid (Blk w' g (cs++cur.drop cs.length) t)→Keep (λq=>q=g) w w'→wpList P ops Q rest (a.put o.dst (goInt cs.length)) w') :
 wpList P ops Q (o::rest) a w:=by
 have hsp:∀cs:List Value,splice cur 0 cs=cs++cur.drop cs.length:=λcs=>by simp[splice]
 by_cases h0:cs.length=0
 ·obtain rfl:cs=[]:=List.eq_nil_of_length_eq_zero h0
  refine wpList_copy_nothing hgd d s dT sT ho elem hu hsz (some ⟨g,0,none⟩) sp dLen dCap sLen sCap hd hs (by simpa using hn.symm) ?_;exact h w (xh (by simpa using hg)) (Keep.refl _ w)
 ·obtain⟨ad,rfl,hsrc⟩:=hpos (by omega)
  refine wpList_copy_own hgd d s dT sT ho elem hu hsz g 0 dLen dCap ad sLen sCap hd hs cur.toArray t hg cs hn hsrc (by simpa using hfit) h1 ?_;refine h _ (xh ?_) (Keep.setRow w g _);rw[←hsp];show _=_
  simpa [splice]using setRow_heap w g _ _ t _ hg
theorem PT.put{w w':World}{tb:Nat}{A:bB}{T:List Pn}{mi mb i g:Nat}{x:Pn}{L:List Int}(h:PT w tb A T mi mb)(hx:T[i]?=some x)(hg:x.bv.ownBlock=some g)(k:Keep (λq=>q=g) w w')(hr:Rw w' x.bv L)(hl:L.length=x.byt.length) :
 jr w tb A T mi mb ((aH T).set i {x.nd with byt:=L}) A (T.set i (x.iq x.bv L)) w':=by
 obtain⟨_,cur,hb⟩:=(h.tree.aN i x hx).lt hg;have hnd:=(h.tree.node i x hx).keep k (λe=>hb.ne (h.tree.node i x hx) (by decide) e.symm);have QK:=CP T i x x.bv L;have OW:(aH T)[i]?=some x.nd:=by unfold aH;rw[dA,hx];rfl
 have hsum:bN (aH (T.set i (x.iq x.bv L)))=bN (aH T):=by
  rw[QK];have:=kX (aH T) i x.nd {x.nd with byt:=L} OW;simp[Pn.nd]at this⊢
  omega
 refine⟨⟨h.tree.iq i x hx x.bv L hnd hr (λg' hg'=>.inr hg') k ?_,?_,by simpa using h.few,by rw[hsum];exact h.small,h.mi,h.mb⟩,QK,k.mono ?_,EZ hx λg' hg'=>.inr hg'⟩
 ·rintro q hq rfl;exact .inr hg
 ·rw[hsum,List.length_set]
  exact h.block.keep k (λe=>hb.ne h.block (by decide) e.symm)
 ·rintro q rfl;exact .inr ⟨i,x,hx,.inr (.inr hg)⟩
theorem PT.UE{w w':World}{tb:Nat}{A:bB}{T:List Pn}{mi mb i:Nat}{x:Pn}(h:PT w tb A T mi mb)(hx:T[i]?=some x)(k:Bel w w'):jr w tb A T mi mb ((aH T).set i {x.nd with byt:=x.byt}) A T w':=by
 have:(aH T).set i {x.nd with byt:=x.byt}=aH T:=by
  have OW:(aH T)[i]?=some x.nd:=by unfold aH;rw[dA,hx];rfl
  obtain⟨hi,he⟩:=bZ OW;rw[show({x.nd with byt:=x.byt}:Nd)=x.nd from rfl,←he];exact List.set_getElem_self hi
 rw[this];exact jr.refl h k
theorem PT.copied{w w':World}{tb:Nat}{A:bB}{T:List Pn}{mi mb i g bc:Nat}{x:Pn}{L:List Int}{cur:List Value}(h:PT w tb A T mi mb)(hx:T[i]?=some x)(hl:L.length≤x.byt.length)(hL:∀y∈L,0≤y∧y≤255)
 (hbv:x.bv=.slice (g,0) x.byt.length bc)(hB:Blk w g cur 5)(B':Blk w' g (L.map (Value.int .u8)++cur.drop L.length) 5)(k:Keep (λq=>q=g) w w') :
 jr w tb A T mi mb ((aH T).set i {x.nd with byt:=L++x.byt.drop L.length}) A (T.set i (x.iq x.bv (L++x.byt.drop L.length))) w':=by
 have hlen:(L++x.byt.drop L.length).length=x.byt.length:=by simp;omega
 refine h.put hx (by rw[hbv];rfl) k ⟨λy hy=>?_,.inr ?_⟩ hlen
 ·rcases List.mem_append.1 hy with hy|hy
  ·exact hL y hy
  ·exact(h.tree.aN i x hx).1 y (List.mem_of_mem_drop hy)
 ·have hr:=(h.tree.aN i x hx).2
  rw[hbv]at hr;rcases hr with⟨hr,_⟩|⟨g',cap',cur',hr,hb,h1,h2,h3,h4⟩
  ·cases hr
  ·cases hr
   have hcc:cur'=cur:=by
    unfold Blk at hb hB;rw[hb]at hB
    injection hB with hB
    injection hB with hB
    simpa using hB
   subst hcc;refine⟨g,bc,_,by rw[hbv,hlen],B',by rw[hlen];exact h1,by simp;omega,h3,?_⟩;rw[hlen,List.map_append,List.take_append,List.take_of_length_le (by simp;omega),List.map_drop,←h4,fJ,List.drop_take]
theorem PT.oW{w:World}{tb:Nat}{A:bB}{T:List Pn}{mi mb:Nat}(h:PT w tb A T mi mb){q:Nat}{c:List Value}{t:TypeId}(hb:Blk w q c t)(h1:t≠220)(h2:t≠234)(h3:t≠5):¬jC tb A T q:=by
 rintro(e|⟨i,m,hi,e|⟨hd,e⟩|e⟩)
 ·exact hb.ne h.block h1 e
 ·exact hb.ne (h.tree.node i m hi) h2 e
 ·exact hb.dJ (h.tree.kids i m hi hd) e
 ·obtain⟨_,cur,hc⟩:=(h.tree.aN i m hi).lt e
  exact hb.ne hc h3 rfl
theorem BS.iZ{w w':World}{S:Nat→Prop}{p:Option Addr}{L:List Int}(h:BS w p L)(k:Keep S w w')(hs:∀b o,p=some ⟨b,o,none⟩→¬S b):BS w' p L:=
 ⟨h.1,λh0=>by
   obtain⟨b,o,h1,h2,h3⟩:=h.2 h0;exact⟨b,o,h1,Nat.lt_of_lt_of_le h2 k.size,h3.keep k (λ_=>hs b o h1)⟩⟩
theorem BS.nK{w:World}{p:Option Addr}{L:List Int}(h:BS w p L)(h0:0<(L.map (Value.int .u8)).length):∃ad,p=some ad∧∀j v,(L.map (Value.int .u8))[j]?=some v→w.cell? (ad.add j)=some v:=by
 obtain⟨b,o,h1,_,h3⟩:=h.2 (by simpa using h0);refine⟨_,h1,λj v hj=>?_⟩;have hjl:=(bZ hj).1;rw[Addr.add_mid,h3.cell j (by simpa using hjl),←hj,dA]
theorem E5(kb tb:Nat)(s:ByteArray)(bv:Value)(v:Value)(w:World)(Post:World→World→Prop)(hbv:bv.oneCell'=true)
 (hc:w.cell? (kb,6)=some (.pointer (tb,0)))
 (hm:∀W,Bel w W→Calls prog 94 #[.pointer (tb,0),.string s] W λe w'=>e=.returned v∧Post W w') :
 Calls prog 55 #[.pointer (kb,0),.agg #[.string s,.bool true,bv]] w λe w'=>e=.returned v∧∃W,Bel w W∧Post W w':=by
 have HM:=xh hm;have HC:=xh hc;clear hm hc;go_enter func55,ntmps55;go_upto_region 1 with fail
 have k1:Bel w (w.alloc (.cells #[.string s,.bool true,bv] 71)):=Bel.start w _;have B1:=Blk.new w [.string s,.bool true,bv] 71;generalize w.alloc (.cells #[.string s,.bool true,bv] 71)=w1 at *
 have bG:=xh k1;have c0:=B1.c 0 rfl;have c1:=B1.c 1 rfl;have c6:w1.cell? (kb,6)=some (.pointer (tb,0)):=aa k1 HC.o;generalize w.heap.size=g at *
 clear k1 B1;go_upto_region 2 with fail
 go_still_tail 6,(by kernel_rfl)
 change wpList _ _ _ _ _ w1.drew
 have kd:Bel w1 w1.drew:=Bel.drew (Bel.refl _);generalize w1.drew=wd at *
 have gJ:=xh (bG.o.tr kd);clear kd c0 c1 c6;go_wp2_with (go_at_call 94;((with_reducible refine au (HM.o wd gJ.o) ?_);rintro e w2 ⟨rfl,hp⟩))
 go_ret
 exact⟨rfl,wd,gJ.o,hp⟩
structure CQ(w:World)(tb:Nat)(A:bB)(T:List Pn)(mi mb:Nat)(r:Nat×List Nd)(L:List Int)(w1:World)(A1:bB)(T1:List Pn)(i:Nat)(x:Pn):Prop where
 step:jr w tb A T mi mb (aH T1) A1 T1 w1
 node:T1[i]?=some x
 res:r=oG mb (aH T1) (i+1) L
def CR(w:World)(tb:Nat)(A:bB)(T:List Pn)(mi mb:Nat)(r:Nat×List Nd)(e:Ending)(w':World):Prop:=KQ w tb A T mi mb r e w'
theorem Nl(kb tb:Nat)(A:bB)(T:List Pn)(mi mb:Nat)(s nm:ByteArray)(p:Option Addr)(cap:Nat)(L:List Int)(d n:Nat)(w:World)(h:PT w tb A T mi mb)(hc:w.cell? (kb,6)=some (.pointer (tb,0)))(hkb:¬jC tb A T kb)
 (hbs:BS w p L)(hlen:L.length≤200000)(UF:∀b o,p=some ⟨b,o,none⟩→¬jC tb A T b)
 (hf:∀W,Bel w W→Calls prog 95 #[.pointer (tb,0),.string s] W (Z.b (.tuple #[.agg #[A.ptr d,.string nm,A.ptr n],.nilIface]) W))
 (r:Nat×List Nd)(hr:if n=0 then d≠0∧isDir (aH T) d=true∧child (aH T) d nm=0∧aS nm.data.toList=true∧(47:UInt8)∉nm.data.toList∧r=(if mi≤T.length then(12,aH T)else oG mb (aH T++[⟨d,nm,false,[],dM⟩]) (T.length+1) L)else n≤T.length∧r=oG mb (aH T) n L) :
 Calls prog 55 #[.pointer (kb,0),.agg #[.string s,.bool false,.slice p L.length cap]] w λe w'=>CR w tb A T mi mb r e w':=by
 have HF:=xh hf;have HC:=xh hc;have mY:=xh h;have XJ:=xh hbs;have HBF:=xh UF;have OX:=xh hkb;have HR:=xh hr;obtain⟨pd,Wo⟩:=e_x (A.at_ d);obtain⟨pn,hpn⟩:=e_x (A.at_ n);rw[show A.ptr d=.pointer pd from by rw[←Wo];rfl,show A.ptr n=.pointer pn from by rw[←hpn];rfl]at HF;have HPD:=xh Wo;have Wp:=xh hpn;clear hf hc h hbs UF hkb hr Wo hpn;go_enter func55,ntmps55;go_upto_region 1 with fail
 have k1:Bel w (w.alloc (.cells #[.string s,.bool false,.slice p L.length cap] 71)):=Bel.start w _;have B1:=Blk.new w [.string s,.bool false,.slice p L.length cap] 71;generalize w.alloc (.cells #[.string s,.bool false,.slice p L.length cap] 71)=w1 at *
 obtain⟨g3,hg3⟩:=e_x w.heap.size;rw[hg3]at B1⊢;have HG3:=xh hg3;have HB1:=xh B1;have bG:=xh k1;have c0:=B1.c 0 rfl;have c1:=B1.c 1 rfl;have c6:w1.cell? (kb,6)=some (.pointer (tb,0)):=aa k1 HC.o;clear k1 B1 hg3;go_upto_region 3 with fail
 have aaN:g3<w1.heap.size:=HB1.o.lt;have hkl:kb<w1.heap.size:=World.block_lt_of_cell? _ _ c6
 go_cut [5,6] (λs5 s6 wx=>s6=.nilIface∧∃g5,s5=.pointer (g5,0)∧Hid (Blk wx g5 [.pointer pd,.string nm,.pointer pn] 240)∧Hid (Bel w1 wx))
 case first=>
  go_region_with (first
   | (go_at_call 95;((with_reducible refine au (HF.o _ (bG.o.drew)) ?_);rintro e w2 ⟨rfl,k2⟩;have gq:Hid (Bel w1 w2):=xh ((Bel.drew (Bel.refl w1)).tr k2);have hu:w1.heap.size≤w2.heap.size:=gq.o.size;clear k2))
   | (go_at_call 95;((with_reducible refine au (HF.o _ ((bG.o.ac _).drew)) ?_);rintro e w2 ⟨rfl,k2⟩;have B5:=(Blk.new w1 [.pointer none,.string ⟨#[]⟩,.pointer none] 240).bel ((Bel.drew (Bel.refl _)).tr k2);have gq:Hid (Bel w1 w2):=xh (((Bel.start w1 _).tr (Bel.drew (Bel.refl _))).tr k2);have nH:=xh B5;have c50:=B5.c 0 rfl;have c51:=B5.c 1 rfl;have c52:=B5.c 2 rfl;have f5:=B5.frozen;clear k2 B5)))
  all_goals (go_wp2_with fail;go_meet;first
   | exact⟨rfl,_,rfl,xh (Blk.new w2 _ _),xh (gq.o.ac _)⟩
   | exact⟨rfl,_,rfl,xh (((nH.o.setCell (o:=0) _).setCell (o:=1) _).setCell (o:=2) _),xh (((gq.o.store (p:=⟨w1.heap.size,0,none⟩) (bH _) _).store (p:=⟨w1.heap.size,1,none⟩) (bH _) _).store (p:=⟨w1.heap.size,2,none⟩) (bH _) _)⟩)
 case rest=>
  obtain⟨rfl,g5,rfl,B5,k5⟩:=hcut;have ow:=xh (bG.o.tr k5.out);have nH:=xh B5.out;have HB3:=xh (HB1.o.bel k5.out);have aaO:=xh (mY.o.bel ow.o);have c52:=B5.out.c 2 rfl;have aeW:g5<wc.heap.size:=B5.out.lt;clear c0 c1 c6 aaN hkl B5 k5
  go_upto_if 34 with fail
  go_cut [6,7] (λs6 s7 wx=>∃nb,s7=.pointer (nb,0)∧Hid (∃(A1:bB) (T1:List Pn) (i:Nat) (x1:Pn),CQ w tb A T mi mb r L wx A1 T1 i x1∧A1.nb (i+1)=nb)∧Hid (Blk wx g3 [.string s,.bool false,.slice p L.length cap] 71))
  case first=>
   by_cases hn:n=0
   ·have hr:=HR.o
    rw[if_pos hn]at hr;obtain⟨r1,r2,r3,r4,r5,r6⟩:=hr;have hpn:pn=none:=by rw[←Wp.o];simp[bB.at_,hn]
    subst hpn;obtain⟨d,rfl⟩:∃d',d=d'+1:=⟨d-1,by omega⟩;obtain⟨y,hy,Ar⟩:=oU r2;rw[Nat.add_sub_cancel,aH,dA,Option.map_eq_some_iff]at hy;obtain⟨D,hD,rfl⟩:=hy;have Wo:A.ptr (d+1)=.pointer pd:=by rw[←HPD.o];rfl
    have c6:wc.cell? (kb,6)=some (.pointer (tb,0)):=aa ow.o HC.o;have c50:=nH.o.c 0 rfl;have c51:=nH.o.c 1 rfl;by_cases hm:mi≤T.length
    ·have HMK:Hid (∀W,Bel w W→Calls prog 96 #[.pointer (tb,0),.agg #[.pointer pd,.string nm,.pointer none],.bool false] W (Z.b (.tuple #[.pointer none,eD 12]) W)):=xh λW hW=>by
      rw[←Wo];refine A8 tb A _ (d+1) nm false W (mY.o.bel hW).block (mY.o.bel hW).ok ?_;unfold jv;simp only[Bool.and_eq_false_iff,decide_eq_false_iff_not]
      left;omega
     rw[if_pos hm]at r6;have GG:=xh r6;clear r1 r2 r3 r4 r5 r6 hD Ar Wo hm hn;go_upto_region 8 with fail
     go_region_with (go_at_call 96;((with_reducible refine au (HMK.o _ (ow.o.drew)) ?_);rintro e w6 ⟨rfl,k6⟩;have pz:=xh ((ow.o.drew).tr k6);clear k6))
     all_goals go_wp2
     all_goals go_ret
     all_goals exact⟨λ_=>⟨by rw[GG.o];rfl,Keep.of_bel _ pz.o⟩,λh=>by rw[GG.o]at h;cases h⟩
    ·have HMK:Hid (∀W,Bel w W→Calls prog 96 #[.pointer (tb,0),.agg #[.pointer pd,.string nm,.pointer none],.bool false] W λe w'=>∃nb mx,e=.returned (.tuple #[.pointer (nb,0),.nilIface])∧Made A T ⟨T.length,bN (aH T),mi,mb⟩ tb (d+1) nm false W nb mx w'):=xh λW hW=>by
      rw[←Wo];have hsm:=mY.o.small;have Kk:=mY.o.mi;refine KS tb A T _ d D nm false W (mY.o.bel hW).block (mY.o.bel hW).tree (mY.o.bel hW).ok ?_ hD Ar r3 ⟨r4,r5⟩ (by omega);unfold jv;simp only[Bool.and_eq_true,decide_eq_true_eq]
      omega
     rw[if_neg hm]at r6;have H3N:Hid (g3=tb∨g3=A.mb (d+1)→False):=xh (by
      rintro(e|e)
      ·exact HB3.o.ne aaO.o.block (by decide) e
      ·exact HB3.o.dJ (aaO.o.tree.kids d D hD Ar) e)
     have Ux:Hid (∀W nb mx w',Bel w W→Made A T ⟨T.length,bN (aH T),mi,mb⟩ tb (d+1) nm false W nb mx w'→∃(A1:bB) (T1:List Pn) (i:Nat) (x1:Pn),CQ w tb A T mi mb r L w' A1 T1 i x1∧A1.nb (i+1)=nb):=xh λW nb mx w' hW hM=>by
      have hst:=Made.step mY.o D hD Ar (by omega) (hM.of_bel hW);refine⟨_,_,T.length,oD (d+1) nm false,⟨by rw[hst.aH];exact hst,by simp,?_⟩,by simp[bB.add]⟩;rw[hst.aH];exact r6
     clear r1 r2 r3 r4 r5 r6 hD Ar Wo hm hn;go_upto_region 8 with fail
     go_cut [6,7] (λs6 s7 wx=>s6=.nilIface∧∃nb,s7=.pointer (nb,0)∧Hid (∃(A1:bB) (T1:List Pn) (i:Nat) (x1:Pn),CQ w tb A T mi mb r L wx A1 T1 i x1∧A1.nb (i+1)=nb)∧Hid (Blk wx g3 [.string s,.bool false,.slice p L.length cap] 71))
     case first=>
      go_region_with (go_at_call 96;((with_reducible refine au (HMK.o _ (ow.o.drew)) ?_);rintro e w6 ⟨nb,mx,rfl,hM⟩;have HAT:=xh (Ux.o _ _ _ _ (ow.o.drew) hM);have Nn:=xh ((HB3.o.bel (Bel.drew (Bel.refl _))).keep hM.keep (λe=>H3N.o e));clear hM))
      all_goals (go_wp2_with fail;go_meet;exact⟨rfl,_,rfl,HAT,Nn⟩)
     case rest=>
     obtain⟨rfl,nb,rfl,HAT,Nn⟩:=hcut;clear c50 c51 c52 c6;go_wp2_with fail
     go_meet
     exact⟨nb,rfl,HAT,Nn⟩
   ·have hr:=HR.o
    rw[if_neg hn]at hr;obtain⟨r1,r2⟩:=hr;have hpn:pn=some ⟨A.nb n,0,none⟩:=by rw[←Wp.o];simp[bB.at_,hn]
    obtain⟨nb,hnb⟩:=e_x (A.nb n);rw[hnb]at hpn;subst hpn;obtain⟨x,hx⟩:∃x,T[n-1]?=some x:=⟨T[n-1]'(by omega),bP (by omega)⟩;have hat:∃(A1:bB) (T1:List Pn) (i:Nat) (x1:Pn),CQ w tb A T mi mb r L wc A1 T1 i x1∧A1.nb (i+1)=nb:=⟨A,T,n-1,x,⟨jr.refl mY.o ow.o,hx,by rw[r2,show n-1+1=n from by omega]⟩,by rw[show n-1+1=n from by omega];exact hnb⟩;have HAT:=xh hat;clear hat hx hnb r1 r2 hn;go_wp2_with fail
    go_meet
    exact⟨nb,rfl,HAT,HB3⟩
  case rest=>
   obtain⟨nb,rfl,HAT,Nn⟩:=hcut;go_upto_region 11 with fail
   obtain⟨A1,T1,i,x,hat,hnb⟩:=HAT.o;have hpt:=hat.step.pt;have hx:=hat.node;have hres:=hat.res;have hks:=hat.step.keep;have hkl:kb<w.heap.size:=World.block_lt_of_cell? _ _ HC.o;have c6:wc.cell? (kb,6)=some (.pointer (tb,0)):=(hks.cell ⟨kb,6,none⟩ hkl OX.o).trans HC.o;have hbs:=XJ.o.iZ hks HBF.o;have iR:=hpt.tree.node i x hx;rw[hnb]at iR;have cM:=iR.c 2 rfl;have cB:wc.cell? (nb,3)=some x.bv:=iR.cell 3;have c32:=Nn.o.c 2 rfl;have OW:(aH T1)[i]?=some x.nd:=by unfold aH;rw[dA,hx];rfl
   have HST:=xh hat.step;have I1:=xh hpt;have HX:=xh hx;have Ti:=xh hnb;have aaP:=xh hbs;have hlx:x.byt.length≤bN (aH T1):=by
    have:=kX (aH T1) i x.nd {x.nd with byt:=[]} OW;simp[Pn.nd]at this
    omega
   have hsm:=hpt.small;have hmb:=hpt.mb;have qR:=hpt.few;unfold oG at hres;rw[Nat.add_sub_cancel,OW]at hres;simp only at hres
   cases hxd:x.dir with
   | true=>
     have HE:Hid (r.1=11):=xh (by rw[hres,show x.nd.dir=true from hxd];rfl);have hm:x.map A1 (i+1)=some (A1.mb (i+1)):=by unfold Pn.map;rw[hxd];rfl
     rw[hm]at cM;have HD:=xh (qz nb (some (A1.mb (i+1))) wc cM);clear hat hpt hx hres hks hkl c6 hbs iR cM cB c32 OW hm hxd hnb;go_wp2_with (go_at_call 92;((with_reducible refine au HD.o ?_);rintro e wx ⟨rfl,h⟩;subst h))
     go_ret
     exact⟨λ_=>⟨by rw[HE.o];rfl,HST.o.keep⟩,λh=>by rw[HE.o]at h;cases h⟩
   | false=>
     rw[if_neg (by rw[show x.nd.dir=false from hxd];simp)]at hres;have hm:x.map A1 (i+1)=none:=by unfold Pn.map;rw[hxd];rfl
     rw[hm]at cM;have HD:=xh (qz nb none wc cM);obtain⟨bp,bc,hbv,hb1,hb2,hb3⟩:=(hpt.tree.aN i x hx).slice;rw[hbv]at cB;have jE:=xh hbv;have DJ:=xh hb3;have CL:=xh hres;have hw:IntKind.i64.wrap ((L.length:Int)-(x.byt.length:Int))=(L.length:Int)-(x.byt.length:Int):=by rw[IntKind.wrap_i64];omega
     clear hat hpt hx hres hks hkl hbs iR cM OW hm hxd hnb hbv hb3;go_upto_region 13 with(go_at_call 92;((with_reducible refine au HD.o ?_);rintro e wx ⟨rfl,h⟩;subst h))
     go_quiet (fail)
     have kd:Bel wc (wc.drewN nq):=ah (Bel.refl _) nq;generalize wc.drewN nq=wd at *
     have gJ:=xh kd;have c6d:wd.cell? (kb,6)=some (.pointer (tb,0)):=aa kd c6;have cBd:wd.cell? (nb,3)=some (.slice bp x.byt.length bc):=aa kd cB;have aaQ:wd.cell? (g3,2)=some (.slice p L.length cap):=aa kd c32;clear c6 cB c32 kd hw;by_cases hgt:x.byt.length<L.length
     ·have hgp:(0:Int)<(L.length:Int)-(x.byt.length:Int):=by omega
      have hmo:(L.length:Int)-(x.byt.length:Int)=((L.length-x.byt.length:Nat):Int):=by omega
      have xO:=xh λW hW=>yQ tb A1 _ 0 ((L.length:Int)-(x.byt.length:Int)) W (I1.o.bel hW).block I1.o.ok (by omega) (by omega);by_cases hroom:mb<bN (aH T1)+(L.length-x.byt.length)
      ·have HE:Hid (r.1=12):=xh (by rw[CL.o,if_pos ⟨by omega,hroom⟩])
       have XK:Hid (jv ⟨T1.length,bN (aH T1),mi,mb⟩ 0 ((L.length:Int)-(x.byt.length:Int))=false):=xh (by
        unfold jv;simp only[Bool.and_eq_false_iff,decide_eq_false_iff_not]
        right;omega)
       rw[XK.o]at xO;clear hroom hmo;go_wp2_with (go_at_call 97;((with_reducible refine au (xO.o wd gJ.o) ?_);rintro e we ⟨rfl,k6⟩;have pz:=xh (gJ.o.tr k6);clear k6))
       go_ret
       exact⟨λ_=>⟨by rw[HE.o];rfl,HST.o.keep.tr (Keep.of_bel _ pz.o)⟩,λh=>by rw[HE.o]at h;cases h⟩
      ·have HE:Hid (r=(0,(aH T1).set i {x.nd with byt:=L++x.byt.drop L.length})):=xh (by
        rw[CL.o,if_neg (by rintro⟨h1,h2⟩;exact hroom h2)];rfl)
       have XK:Hid (jv ⟨T1.length,bN (aH T1),mi,mb⟩ 0 ((L.length:Int)-(x.byt.length:Int))=true):=xh (by
        unfold jv;simp only[Bool.and_eq_true,decide_eq_true_eq]
        constructor<;>omega)
       rw[XK.o]at xO;have HGR:=xh λW hW=>(show Calls prog 98 #[.pointer (tb,0),.pointer (A1.nb (i+1),0),.int .i64 ((L.length:Int)-(x.byt.length:Int))] W _ from hmo▸QL tb A1 T1 mi mb i x (L.length-x.byt.length) W (I1.o.bel hW) HX.o (by omega) (by omega));rw[Ti.o]at HGR;have jD:Hid (0<L.length):=xh (by omega);have Qa:Hid (x.byt.length+(L.length-x.byt.length)=L.length):=xh (by omega);clear hroom hmo;go_upto_region 17 with(go_at_call 97;((with_reducible refine au (xO.o wd gJ.o) ?_);rintro e we ⟨rfl,k6⟩;have pz:=xh (gJ.o.tr k6);have c6e:we.cell? (kb,6)=some (.pointer (tb,0)):=aa k6 c6d;clear k6))
       go_upto_region 18 with(go_at_call 98;((with_reducible refine au (HGR.o we pz.o) ?_);rintro e w7 ⟨rfl,hG⟩))
       obtain⟨bv,hst⟩:=hG;have XL:=Nn.o.bel pz.o;have aaR:=XL.keep hst.keep ((I1.o.bel pz.o).oW XL (by decide) (by decide) (by decide));have hx2:(T1.set i (x.iq bv (x.byt++List.replicate (L.length-x.byt.length) 0)))[i]?=some (x.iq bv (x.byt++List.replicate (L.length-x.byt.length) 0)):=List.getElem?_set_self (bZ HX.o).1;have XM:=hst.pt.tree.node i _ hx2;have aaS:=hst.pt.tree.aN i _ hx2;have hl2:(x.iq bv (x.byt++List.replicate (L.length-x.byt.length) 0)).byt.length=L.length:=by simp[Pn.iq];exact Qa.o
       obtain⟨g,bc2,cur,hgv,hB,h1,h2,h3,h4⟩:=aaS.2.resolve_left (λh=>by have:=h.2;rw[this]at hl2;have:=jD.o;simp at hl2;omega);rw[hl2]at hgv h1;have XN:bv=.slice (g,0) L.length bc2:=hgv;rw[Ti.o]at XM;have c37:w7.cell? (nb,3)=some (.slice (g,0) L.length bc2):=by rw[←XN];exact XM.cell 3
       have acN:=aaR.c 2 rfl;have hsw:BS w7 p L:=by
        refine(aaP.o.bel pz.o).iZ hst.keep λb o hp hf=>?_;rcases HST.o.foot b hf with h|h
        ·exact HBF.o b o hp h
        ·obtain⟨b',o',h5,h6,_⟩:=XJ.o.2 jD.o
         rw[hp]at h5;cases h5
         omega
       have Zg:=xh hx2;have HS2:Hid (jr w tb A T mi mb ((aH T1).set i {x.nd with byt:=x.byt++List.replicate (L.length-x.byt.length) 0}) A1 (T1.set i (x.iq bv (x.byt++List.replicate (L.length-x.byt.length) 0))) w7):=xh (HST.o.tr ⟨hst.pt,hst.aH,(Keep.of_bel _ pz.o).tr hst.keep,λq hq=>by
        rcases hst.foot q hq with h|h
        ·exact .inl h
        ·exact .inr (aV pz.o.size h)⟩)
       have HL2:=xh hl2;have HGV:=xh XN;have HP7:=xh hst.pt;have acO:=xh hB;have acP:=xh hsw;clear hst XL aaR hx2 XM aaS hl2 hgv XN hB hsw h4 c6e c6d cBd aaQ;go_still_tail 6,(by kernel_rfl)
       change wpList _ _ _ _ _ w7.drew
       have MW:Bel w7 w7.drew:=Bel.drew (Bel.refl _);generalize w7.drew=w8 at *
       have Zw:=xh MW;have Zu:=xh (HP7.o.bel MW);have Td:=xh (acO.o.bel MW);have QM:=xh (acP.o.bel MW);clear MW c37 acN;have yR:=xh (λh0=>QM.o.nK h0);have xK:=xh QM.o.1
       (refine bC rfl (.tmp 79) (.tmp 81) 59 59 rfl 5 underlying59 (by kernel_rfl) g p L.length bc2 L.length cap rfl rfl cur 5 Td.o (L.map (Value.int .u8)) (by rw[fJ];exact(Nat.min_self _).symm) yR.o (by rw[fJ];omega) (by intro v hv;obtain⟨y,_,rfl⟩:=List.mem_map.1 hv;rfl) ?_;intro wf BF KF)
       go_wp2
       go_ret
       refine⟨λh=>absurd (by rw[HE.o]) h,λ_=>⟨rfl,A1,(T1.set i (x.iq bv (x.byt++List.replicate (L.length-x.byt.length) 0))).set i ((x.iq bv (x.byt++List.replicate (L.length-x.byt.length) 0)).iq bv (L++(x.byt++List.replicate (L.length-x.byt.length) 0).drop L.length)),?_⟩⟩;have hcp:=Zu.o.copied Zg.o (by rw[HL2.o];exact bH _) xK.o (by rw[HL2.o];exact HGV.o) Td.o (by have:=BF.out;simpa using this) KF;have hfin:=HS2.o.tr (show jr w7 tb A1 _ mi mb _ A1 _ wf from⟨hcp.pt,hcp.aH,(Keep.of_bel _ Zw.o).tr hcp.keep,λq hq=>by
        rcases hcp.foot q hq with h|h
        ·exact .inl h
        ·exact .inr (aV Zw.o.size h)⟩)
       rw[HE.o];have e1:(x.byt++List.replicate (L.length-x.byt.length) 0).drop L.length=[]:=List.drop_of_length_le (by simp;omega);have e2:x.byt.drop L.length=[]:=List.drop_of_length_le (by omega);have e3:(aH (T1.set i (x.iq bv (x.byt++List.replicate (L.length-x.byt.length) 0)))).set i {(x.iq bv (x.byt++List.replicate (L.length-x.byt.length) 0)).nd with byt:=L++(x.iq bv (x.byt++List.replicate (L.length-x.byt.length) 0)).byt.drop L.length}=(aH T1).set i {x.nd with byt:=L++x.byt.drop L.length}:=by
        rw[CP,List.set_set,e2,show(x.iq bv (x.byt++List.replicate (L.length-x.byt.length) 0)).byt=x.byt++List.replicate (L.length-x.byt.length) 0 from rfl,e1];rfl
       rw[e3]at hfin;exact hfin
     ·have hng:¬((0:Int)<(L.length:Int)-(x.byt.length:Int)):=by omega
      have HE:Hid (r=(0,(aH T1).set i {x.nd with byt:=L++x.byt.drop L.length})):=xh (by
       rw[CL.o,if_neg (by rintro⟨h1,h2⟩;simp[Pn.nd]at h2;omega)];rfl)
      have hle:L.length≤x.byt.length:=by omega
      clear hgt;go_upto_region 18 with fail
      have hlp:L.length=0∨∃g,bp=some ⟨g,0,none⟩:=by
       by_cases h0:L.length=0
       ·exact .inl h0
       ·right
        rcases((I1.o.tree.aN i x HX.o)).2 with⟨h1,h2⟩|⟨g,c',cur,h1,_⟩
        ·exact absurd (by simpa [h2]using hle:L=[]) (λe=>h0 (by simp[e]))
        ·rw[jE.o]at h1;cases h1;exact⟨g,rfl⟩
      have HLP:=xh hlp;clear hlp;go_still_tail 6,(by kernel_rfl)
      change wpList _ _ _ _ _ wd.drew
      have MW:Bel wd wd.drew:=Bel.drew (Bel.refl _);generalize wd.drew=we at *
      have Zw:=xh (gJ.o.tr MW);have aaT:=xh (I1.o.bel (gJ.o.tr MW));have QM:=xh (aaP.o.bel (gJ.o.tr MW));clear MW c6d cBd aaQ;rcases HLP.o with h0|⟨g,rfl⟩
      ·have HL0:Hid (L=[]):=xh (List.eq_nil_of_length_eq_zero h0)
       go_wp2_with (refine wpList_copy_nothing rfl (.tmp 79) (.tmp 81) 59 59 rfl 5 underlying59 (by kernel_rfl) bp p x.byt.length bc L.length cap rfl rfl (by rw[h0];simp) ?_)
       go_ret
       refine⟨λh=>absurd (by rw[HE.o]) h,λ_=>⟨rfl,A1,T1,?_⟩⟩;have:=HST.o.tr (I1.o.UE HX.o Zw.o);rw[HE.o,HL0.o]
       simpa using this
      ·obtain⟨g',cap',cur,hgv,hB,h1,h2,h3,h4⟩:=(aaT.o.tree.aN i x HX.o).2.resolve_left (λh=>by rw[jE.o]at h;cases h.1)
       rw[jE.o]at hgv;cases hgv
       have Td:=xh hB;have yR:=xh (λh0=>QM.o.nK h0);have xK:=xh QM.o.1;clear hB h4
       (refine bC rfl (.tmp 79) (.tmp 81) 59 59 rfl 5 underlying59 (by kernel_rfl) g p x.byt.length bc L.length cap rfl rfl cur 5 Td.o (L.map (Value.int .u8)) (by rw[fJ];exact(Nat.min_eq_left hle).symm) yR.o (by rw[fJ];omega) (by intro v hv;obtain⟨y,_,rfl⟩:=List.mem_map.1 hv;rfl) ?_;intro wf BF KF)
       go_wp2
       go_ret
       refine⟨λh=>absurd (by rw[HE.o]) h,λ_=>⟨rfl,A1,T1.set i (x.iq x.bv (L++x.byt.drop L.length)),?_⟩⟩;have hcp:=aaT.o.copied HX.o hle xK.o jE.o Td.o (by have:=BF.out;simpa using this) KF;rw[HE.o];exact HST.o.tr ⟨hcp.pt,hcp.aH,(Keep.of_bel _ Zw.o).tr hcp.keep,λq hq=>by
        rcases hcp.foot q hq with h|h
        ·exact .inl h
        ·exact .inr (aV Zw.o.size h)⟩
end
end Go.Proofs.YtcnjjchlebmfiaaGreatDoor
