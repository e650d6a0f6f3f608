/-.-/
import Derived.Test.YtcnjjchlebmfiaaGreatDoorP14
set_option linter.unusedVariables false
set_option linter.unusedSimpArgs false
set_option maxRecDepth 100000
set_option maxHeartbeats 16000000
namespace Go.Proofs.YtcnjjchlebmfiaaGreatDoor
section
open Go.Proofs.Tryz Go.RowKit Go.Maps
noncomputable def iF(L:List Nd)(path:List UInt8)(GK:Bool)(own used mf:Nat):Nat:=
 if (ay L path).2.2.2≠0 then(ay L path).2.2.2 else if (ay L path).2.2.1=0 then 9 else
 match L[(ay L path).2.2.1-1]? with
 | none=>11
 | some x=>if x.dir=true then 11 else if gW x.byt≠0 then gW x.byt else if GK=false then 6 else if mf<used-own+(az (eO x.byt)).length+2 then 7 else 0
def dY(L:List Nd)(path:List UInt8):List Int:=(L[(ay L path).2.2.1-1]?.map Nd.byt).getD []
def oz(cells:List Value)(o:Nat)(v:Value)(E sp:Int):List Value:=((splice ((cells.set (o+22) v).set (o+5) (.int .u64 E)) (o+6) (List.replicate 16 (.int .u64 0))).set (o+21) (.int .u64 sp))
def EM(w:World)(pb o:Nat)(cells:List Value)(c:Nat)(B:List Int)(EN:List Value)(sp:Int)(e:Ending)(w':World):Prop:=
 e=.returned (.tuple #[(0:Int),.int .i64 (c:Nat)])∧Keep (λq=>q=pb) w w'∧(c=0→∃v,w'.ownsRow w.heap.size 260 258 v ((az (eO B)).length+2) (mJ (eO B)++EN)∧Blk w' pb (oz cells o v (aO B 24 8) sp) 167)
theorem bX{P:Program}{w:World}{base:Nat}{e:TypeId}{size:Nat}{v:Value}{n:Nat}{xs:List Value}{ops:Array Oper}{rest:List Oper}{o:Oper}{a:Act}{Q:Exit→Act→World→Prop}(hgd:o.guard=none)(s x:Operand)(t:TypeId)
 (ho:o.op=.call {callee:=.builtin .append,args:= #[s,x],argTypes:= #[t,t]}){bytes:Nat}(ht:P.underlying t=some (.slice e))
 (hi:(P.info? e).map (λi=>(i.size,i.bytes,(i.zero.map (·.cells.size))))=some (size,bytes,some size))(hsz:0<size)
 (hs:a.eval s=v)(hown:w.ownsRow base e size v n xs)(g m c:Nat)(cs:List Value)(hx:a.eval x=.slice (g,0) m c)(hB:∀j u,cs[j]?=some u→w.cell? ⟨g,j,none⟩=some u)(hl:cs.length=m*size)(h1:∀u∈cs,u.oneCell'=true)
 (h63:n+m≤maxLen)(hbytes:(n+m)*bytes≤140737488355328)(hbase:base≤w.heap.size)
 (h:∀p cp w',w'.ownsRow base e size (.slice p (n+m) cp) (n+m) (xs++cs)→Keep (λq=>v.ownBlock=some q) w w'→wpList P ops Q rest (a.put o.dst (.slice p (n+m) cp)) w'):wpList P ops Q (o::rest) a w:=by
 obtain⟨i,z,hi,hz,e1,e2,e3⟩:=info_of hi;refine wpList_append_own w hgd s x t ho base e i z size bytes ht hi hz e1 e2 e3 hsz v n xs hs hown ⟨g,0,none⟩ m c cs hx hl (λj u hj=>?_) h1 h63 hbytes hbase λv' w' k1 k2 _=>?_
 ·rw[show(⟨g,0,none⟩:Addr).add j=⟨g,j,none⟩from by unfold Addr.add;split<;>simp_all]
  exact hB j u hj
 ·obtain⟨p,cp,rfl,_⟩:=aD k1
  exact h p cp w' k1 ⟨k2.os,k2.tape,k2.output,k2.size,λk hk hn=>k2.block k hk λe=>hn e.symm⟩
theorem Rw.bs{w:World}{v:Value}{L:List Int}(h:Rw w v L){p:Option Addr}{n cap:Nat}(hv:v=.slice p n cap):BS w p L:=by
 refine⟨h.1,λh0=>?_⟩;rcases h.2 with⟨_,h2⟩|⟨g,c,cur,h1,hb,_⟩
 ·rw[h2]at h0;simp at h0
 ·rw[hv]at h1
  cases h1
  obtain⟨g2,hg2,hc⟩:=h.cells hv;cases hg2
  exact⟨g,0,rfl,hb.lt,⟨λi hi=>by rw[Nat.zero_add,hc i ((L.map (Value.int .u8))[i]'(by simpa using hi)) (bP _)];simp[bP hi],h.1⟩⟩
theorem M7(kb:Nat)(s:KV)(iv:Value)(L:List Nd)(nm:ByteArray)(pb o own used mf a1 a2 a3 a4:Nat)(cells:List Value)(q:Option Addr)(qc:Nat)(sv:Value)(GK:Bool)(sp:Int)(EN:List Value)(w:World)(h:DK w kb s iv L)(hb:s.b=mf)(ZT:mf≤1000)(hs:nm.size≤1000000)(hsum:bN (fA L)≤100000)
 (hP:Blk w pb cells 167)(ho:o+31≤cells.length)(hc22:cells[o+22]?=some (.slice q own qc))(hown:own≤used)(aem:used≤100000)(hpk:pb≠kb)(hroot:isDir L 1=true)
 (hU:∀W,Bel w W→Calls prog 118 #[kb] W (Z.b (.agg (gy a1 used a2 a3 a4).toArray) W))
 (hst:∀W,Bel w W→Calls prog 187 #[sv] W λe w'=>Bel W w'∧(GK=true→∃g c,e=.returned (.tuple #[.slice (g,0) 2 c,.int .u64 sp,(0:Int)])∧(∀j u,EN[j]?=some u→w'.cell? ⟨g,j,none⟩=some u)∧EN.length=516∧(∀u∈EN,u.oneCell'=true))∧(GK=false→e=.returned (.tuple #[(),.int .u64 0,(6:Int)]))) :
 Calls prog 105 #[kb,.pointer (pb,o),nm,sv] w λe w'=>EM w pb o cells (iF L nm.data.toList GK own used mf) (dY L nm.data.toList) EN sp e w':=by
 obtain⟨g,cap,hiv,ht,hg⟩:=h.tree;have hw:=yK kb g cap L w ht nm hs (by have:=h.few;omega);have hold:=jS (L:=L) (s:=nm.data.toList) hroot;have qR:=h.few;unfold iF dY;obtain⟨d,x,n,c,hr⟩:∃d x n c,ay L nm.data.toList=(d,x,n,c):=⟨_,_,_,_,rfl⟩;rw[hr]at hw hold⊢;simp only[KL]at hw hold⊢
 have HW:=xh hw;have HDK:=xh h;have SY:=xh ht;have HU:=xh hU;have HST:=xh hst;have HP:=xh hP;have aay:=xh hc22;have HB:=xh hb;clear hw h ht hU hst hP hc22 hr hiv hb hroot;by_cases hc:c=0
 ·subst hc
  rw[if_neg (by simp)];have hle:=hold rfl;by_cases hn:n=0
  ·subst hn
   rw[if_pos rfl];clear hold hle;go_enter func105,ntmps105;go_wp2_with (go_at_call 183;((with_reducible refine au HW.o ?_);rintro e w1 ⟨rfl,k1⟩))
   go_ret2
   exact⟨rfl,Keep.of_bel _ k1,λh=>by cases h⟩
  ·rw[if_neg hn]
   have hlt:n-1<L.length:=by omega
   have hy:=bP hlt;rw[hy];simp only
   have hyb:=HDK.o.aN L[n-1] (List.getElem_mem hlt);have hyl:L[n-1].byt.length≤100000:=by
    have:=kX (fA L) (n-1) L[n-1].sk {L[n-1].sk with byt:=[]} (by unfold fA;rw[dA,hy];rfl);simp[Nd.sk]at this
    omega
   have hrg:=SY.o.2.2 (n-1) L[n-1] hy;have hin:=λ(W:World) (hW:Bel w W)=>qC kb g cap L W (SY.o.bel hW) n (by omega) hle (by omega);generalize L[n-1]=y at *
   obtain⟨bq,bc,hbv,hbc,_,_⟩:=hyb.1.slice;have Xf:=xh hrg;have EO:=xh hin;have KM:=xh hyb;have jE:=xh hbv;have hnb:((n:Int)==0)=false:=bK (by omega);have hn1:(0:Int)≤((n-1:Nat):Int):=by omega
   have hn2:((n-1:Nat):Int)<(L.length:Int):=by omega
   have hcl:=SY.o.2.1;clear hold hy hyb hrg hin hbv hn;simp only[Option.map_some,Option.getD_some]
   cases Ar:y.dir with
   | true=>
     rw[if_pos rfl];have hc3:=λ(W:World) (hW:Bel w W)=>(show W.cell? (g,(n-1)*5+3)=some (.bool true)from by rw[←Ar];exact aa hW (Xf.o 3 _ rfl));have Tg:=xh hc3;clear Ar hc3;go_enter func105,ntmps105
     go_wp2_with (first
      | (go_at_call 183;((with_reducible refine au HW.o ?_);rintro e w1 ⟨rfl,k1⟩;have bG:=xh k1;clear k1))
      | (go_at_call 185;((with_reducible refine au (EO.o w1 bG.o) ?_);rintro e w2 ⟨rfl,hh⟩;subst hh;have c3:=Tg.o w1 bG.o;have c7:=(SY.o.bel bG.o).1)))
     go_ret2
     exact⟨rfl,Keep.of_bel _ bG.o,λh=>by cases h⟩
   | false=>
     rw[if_neg (by simp)];have hc3:=λ(W:World) (hW:Bel w W)=>(show W.cell? (g,(n-1)*5+3)=some (.bool false)from by rw[←Ar];exact aa hW (Xf.o 3 _ rfl));have hc4:=λ(W:World) (hW:Bel w W)=>(show W.cell? (g,(n-1)*5+4)=some (.slice bq y.byt.length bc)from by rw[←jE.o];exact aa hW (Xf.o 4 _ rfl));have Tg:=xh hc3;have HC4:=xh hc4;have hld:=λ(W:World) (hW:Bel w W)=>M8 bq bc y.byt hbc (by omega) W ((KM.o.1.bel hW).bs jE.o);clear Ar hc3 hc4;by_cases hl:gW y.byt=0
     ·rw[if_neg (by simpa using hl)]
      obtain⟨l1,l2,l3,l4⟩:=yL hl;have M9:=λ(W:World) (hW:Bel w W)=>(hld W hW).mono λe w' h=>And.intro (h.2.ok l1 l2 l3 l4) h.1;have QA:=xh M9;obtain⟨m,hm⟩:=e_x (aM y.byt (dh y.byt).toNat);have hms:eO y.byt=m:=hm;obtain⟨E,hE⟩:=e_x (aO y.byt 24 8);rw[hm,hE]at QA;rw[hms];have hpl:=eU m;have Ux:=xh hms;have QB:=xh hE;clear hl l1 l2 l3 l4 hld M9 hm hms hE;cases GK with
      | false=>
        rw[if_pos rfl];have uO:=xh λW hW=>(HST.o W hW).mono λe w' h=>And.intro (h.2.2 rfl) h.1;go_enter func105,ntmps105
        go_wp2_with (first
         | (go_at_call 183;((with_reducible refine au HW.o ?_);rintro e w1 ⟨rfl,k1⟩;have bG:=xh k1;clear k1))
         | (go_at_call 185;((with_reducible refine au (EO.o w1 bG.o) ?_);rintro e w2 ⟨rfl,hh⟩;subst hh;have c3:=Tg.o w1 bG.o;have c4:=HC4.o w1 bG.o;have c7:=(SY.o.bel bG.o).1))
         | (go_at_call 186;((with_reducible refine au (QA.o w1 bG.o) ?_);rintro e w3 ⟨⟨v,rfl,hrow⟩,k3⟩;have jm:=xh (bG.o.tr k3);clear k3 hrow))
         | (go_at_call 187;((with_reducible refine au (uO.o w3 jm.o) ?_);rintro e w4 ⟨rfl,k4⟩;have oM:=xh (jm.o.tr k4);clear k4)))
        go_ret2
        exact⟨rfl,Keep.of_bel _ oM.o,λh=>by cases h⟩
      | true=>
        rw[if_neg (by simp)];have XG:=xh λW hW=>(HST.o W hW).mono λe w' h=>And.intro (h.2.1 rfl) h.1;have hw1:IntKind.i64.wrap ((used:Int)-(own:Int))=(used:Int)-(own:Int):=by rw[IntKind.wrap_i64];omega
        have hw2:IntKind.i64.wrap ((used:Int)-(own:Int)+((az m).length:Int))=(used:Int)-(own:Int)+((az m).length:Int):=by rw[IntKind.wrap_i64];omega
        have hw3:IntKind.i64.wrap ((used:Int)-(own:Int)+((az m).length:Int)+2)=(used:Int)-(own:Int)+((az m).length:Int)+2:=by rw[IntKind.wrap_i64];omega
        have HW1:=xh hw1;have HW2:=xh hw2;have HW3:=xh hw3;obtain⟨N,hN⟩:=e_x ((az m).length);rw[hN]at QA HW2 HW3 hpl⊢;have HN:=xh hN;obtain⟨ec,qW⟩:=e_x ((if mf<used-own+N+2 then 7 else 0));rw[qW];have Km:=xh qW;clear hw1 hw2 hw3 hN qW;go_enter func105,ntmps105
        go_upto_region 16 with(first
         | (go_at_call 183;((with_reducible refine au HW.o ?_);rintro e w1 ⟨rfl,k1⟩;have bG:=xh k1;clear k1))
         | (go_at_call 185;((with_reducible refine au (EO.o w1 bG.o) ?_);rintro e w2 ⟨rfl,hh⟩;subst hh;have c3:=Tg.o w1 bG.o;have c4:=HC4.o w1 bG.o;have c7:=(SY.o.bel bG.o).1))
         | (go_at_call 186;((with_reducible refine au (QA.o w1 bG.o) ?_);rintro e w3 ⟨⟨v,rfl,hrow⟩,k3⟩;obtain⟨pv,cv,rfl,hcv,hcm,_⟩:=aD hrow;have eZ:=xh (hrow.mono bG.o.size);have jm:=xh (bG.o.tr k3);clear k3 hrow))
         | (go_at_call 187;((with_reducible refine au (XG.o w3 jm.o) ?_);rintro e w4 ⟨⟨g2,c2,rfl,hsc,hsl,hso⟩,k4⟩;have Wm:=xh hsc;have Zt:=xh hsl;have xg:=xh hso;have aaz:=xh (aB eZ.o k4);have aeQ:=xh k4;have oM:=xh (jm.o.tr k4);clear k4 hsc hsl hso))
         | (go_at_call 118;((with_reducible refine au (HU.o w4 oM.o) ?_);rintro e w5 ⟨rfl,k5⟩;have aaA:=xh k5;clear k5))
         | (refine aG rfl 159 (.tmp 21) (.tmp 72) rfl rfl w5.heap.size (gy a1 used a2 a3 a4) (gy 0 0 0 0 0) 159 (Blk.new w5 _ _) rfl rfl (by kernel_rfl) rfl (by intro v hv;simp[gy]at hv;rcases hv with rfl|rfl|rfl|rfl|rfl<;>rfl) ?_;intro w6 B6 K6))
        have kc:Bel w5 w6:=(Below.aF w5 _).trans (K6.below _ (by simp) (λk hk=>by omega));have cu:=B6.out.c 1 rfl;have pz:=xh ((oM.o.tr aaA.o).tr kc);have aaB:=xh (aaA.o.tr kc);generalize w5.heap.size=g21 at *
        have c22:w6.cell? (pb,o+22)=some (.slice q own qc):=by rw[(HP.o.bel pz.o).cell];exact aay.o
        have cf:w6.cell? (kb,1)=some (.int .i64 (mf:Int)):=by rw[←HB.o];exact(HDK.o.bel pz.o).blk.cell 1
        have hw1:=HW1.o;have hw2:=HW2.o;have hw3:=HW3.o;clear kc B6 K6 c3 c4 c7;by_cases hmm:mf<used-own+N+2
        ·have HE7:Hid (ec=7):=xh (by rw[←Km.o,if_pos hmm])
         have hgt:(mf:Int)<(used:Int)-(own:Int)+(N:Int)+2:=by omega
         clear hmm;go_quiet (fail)
         go_wp2
         go_ret2
         exact⟨by rw[HE7.o];rfl,Keep.of_bel _ (ah pz.o nq),λh=>by rw[HE7.o]at h;cases h⟩
        ·have HE0:Hid (ec=0):=xh (by rw[←Km.o,if_neg hmm])
         have hgt:¬((mf:Int)<(used:Int)-(own:Int)+(N:Int)+2):=by omega
         clear hmm;go_quiet (fail)
         have kd:Bel w6 (w6.drewN nq):=ah (Bel.refl _) nq;generalize w6.drewN nq=w7 at *
         have AJ:=xh (pz.o.tr kd);have Wn:=xh ((aB aaz.o (aaB.o.tr kd)).mono (bH _));have acE:Hid (∀j u,EN[j]?=some u→w7.cell? ⟨g2,j,none⟩=some u):=xh λj u hj=>aa (aaB.o.tr kd) (Wm.o j u hj);clear kd cu c22 cf hw1 hw2 hw3 hgt;have HP7:=xh (HP.o.bel AJ.o);have aeR:=HP.o.lt;have aaC:Hid (∀g',(Value.slice pv N cv).ownBlock=some g'→w.heap.size≤g'):=xh (fQ Wn.o);go_upto_region 19 with(refine bX (n:=N) (size:=258) (bytes:=272) rfl (.tmp 92) (.tmp 93) 164 rfl underlying164 nJ (by omega) rfl Wn.o g2 2 c2 EN rfl acE.o Zt.o xg.o (by unfold maxLen;omega) (by omega) AJ.o.size ?_;intro p8 c8 w8 R8 K8;have Xk:=xh R8;have Zu:=xh (HP7.o.keep K8 (λe=>by have:=aaC.o _ e;omega));have HK8:=xh K8;have c22:w8.cell? (pb,o+22)=some (.slice q own qc):=(Zu.o.cell _).trans aay.o;have f22:=Zu.o.frozen;have ZN:=Zu.o.lt;clear R8 K8)
         have Wj:=Zu.o.setCell (o:=o+22) (.slice p8 (N+2) c8);have HR9:=aZ Xk.o (Keep.setCell w8 pb (o+22) (.slice p8 (N+2) c8)) (λg' hg' e=>by omega);have oQ:Hid (Keep (λq=>q=pb∨w.heap.size≤q) w (w8.setCell (pb,o+22) (.slice p8 (N+2) c8))):=xh (((Keep.of_bel _ AJ.o).tr (HK8.o.mono λq h=>.inr (aaC.o _ h))).tr ((Keep.setCell w8 pb _ _).mono λq h=>.inl h));clear c22 f22 ZN;generalize w8.setCell (pb,o+22) (.slice p8 (N+2) c8)=w9 at *
         obtain⟨cs9,Uy⟩:=e_x (cells.set (o+22) (.slice p8 (N+2) c8));rw[Uy]at Wj;have Uj:cs9.length=cells.length:=by rw[←Uy,List.length_set]
         have c5:w9.cell? (pb,o+5)=some (cs9[o+5]'(by omega)):=by rw[Wj.cell];exact bP _
         have f5:=Wj.frozen;have hw9:=Wj.lt;have acF:=xh Uy;have acG:=xh Wj;have acH:=xh HR9;generalize cs9[o+5]'(by omega)=aeS at *
         clear Wj HR9 Uy;go_upto_region 20 with fail
         have Uz:=acG.o.setCell (o:=o+5) (.int .u64 E);have UA:=aZ acH.o (Keep.setCell w9 pb (o+5) (.int .u64 E)) (λg' hg' e=>by omega);have zZ:Hid (Keep (λq=>q=pb∨w.heap.size≤q) w (w9.setCell (pb,o+5) (.int .u64 E))):=xh (oQ.o.tr ((Keep.setCell w9 pb _ _).mono λq h=>.inl h));clear c5 f5 hw9;generalize w9.setCell (pb,o+5) (.int .u64 E)=sI at *
         have hth:sI.there pb (o+6) 16:=λj hj=>⟨by rw[Uz.cell,bP (by simp;omega)];rfl,Uz.frozen _⟩;have HTH:=xh hth;have aaD:=xh Uz;have aaE:=xh UA;clear hth Uz UA;go_upto_region 21 with(refine wpList_store_mid rfl 38 (.tmp 104) (.tmp 102) rfl pb (o+6) (List.replicate 16 (Value.int .u64 0)).toArray rfl rfl HTH.o (by kernel_rfl) (all_oneCell_toArray (by intro v hv;rw[List.eq_of_mem_replicate hv];rfl)) ?_)
         have Na:=aaD.o.setCells (o+6) (List.replicate 16 (Value.int .u64 0)) (by simp;omega);have QC:=Keep.setCells sI pb (o+6) (List.replicate 16 (Value.int .u64 0));have aaF:=aZ aaE.o QC (λg' hg' e=>by omega);have ME:Hid (Keep (λq=>q=pb∨w.heap.size≤q) w (sI.setCells pb (o+6) (List.replicate 16 (Value.int .u64 0)))):=xh (zZ.o.tr (QC.mono λq h=>.inl h));generalize sI.setCells pb (o+6) (List.replicate 16 (Value.int .u64 0))=DI at *
         obtain⟨XH,KN⟩:=e_x (splice (cs9.set (o+5) (.int .u64 E)) (o+6) (List.replicate 16 (Value.int .u64 0)));rw[KN]at Na;have aeT:XH.length=cells.length:=by rw[←KN,length_splice _ _ _ (by simp;omega),List.length_set];exact Uj
         have c21:DI.cell? (pb,o+6+15)=some (XH[o+6+15]'(by omega)):=by rw[Na.cell];exact bP _
         have f21:=Na.frozen;have aeU:=Na.lt;have acI:=xh KN;have aaG:=xh Na;have aaH:=xh aaF;generalize XH[o+6+15]'(by omega)=aen at *
         clear Na aaF KN QC;go_wp2
         go_ret2
         refine⟨by rw[HE0.o];rfl,?_,λ_=>⟨.slice p8 (N+2) c8,?_,?_⟩⟩
         ·have hk:=ME.o.tr ((Keep.setCell DI pb (o+6+15) (.int .u64 sp)).mono λq h=>.inl h)
          exact⟨hk.os,hk.tape,hk.output,hk.size,λk hk1 hn=>hk.block k hk1 λh=>by
           rcases h with h|h
           ·exact hn h
           ·omega⟩
         ·have:=aZ aaH.o (Keep.setCell DI pb (o+6+15) (.int .u64 sp)) (λg' hg' e=>by omega)
          rw[Ux.o,HN.o];unfold mJ;exact this
         ·have:=aaG.o.setCell (o:=o+6+15) (.int .u64 sp)
          unfold oz;rw[QB.o,acF.o,acI.o,show o+21=o+6+15 from by omega];exact this
     ·rw[if_pos hl]
      have M9:=λ(W:World) (hW:Bel w W)=>(hld W hW).mono λe w' h=>And.intro (h.2.err hl) h.1;obtain⟨c,hcc⟩:=e_x (gW y.byt);rw[hcc]at hl M9⊢;have QA:=xh M9;have hcb:((c:Int)==0)=false:=bK (by omega);have HCN:=xh hl;clear hl hld M9 hcc;go_enter func105,ntmps105
      go_wp2_with (first
       | (go_at_call 183;((with_reducible refine au HW.o ?_);rintro e w1 ⟨rfl,k1⟩;have bG:=xh k1;clear k1))
       | (go_at_call 185;((with_reducible refine au (EO.o w1 bG.o) ?_);rintro e w2 ⟨rfl,hh⟩;subst hh;have c3:=Tg.o w1 bG.o;have c4:=HC4.o w1 bG.o;have c7:=(SY.o.bel bG.o).1))
       | (go_at_call 186;((with_reducible refine au (QA.o w1 bG.o) ?_);rintro e w3 ⟨rfl,k3⟩;have jm:=xh (bG.o.tr k3);clear k3)))
      go_ret2
      exact⟨rfl,Keep.of_bel _ jm.o,λh=>absurd h HCN.o⟩
 ·rw[if_pos hc]
  have hcb:((c:Int)==0)=false:=bK (by omega);have HC:=xh hc;clear hc hold;go_enter func105,ntmps105;go_wp2_with (go_at_call 183;((with_reducible refine au HW.o ?_);rintro e w1 ⟨rfl,k1⟩))
  go_ret2
  exact⟨rfl,Keep.of_bel _ k1,λh=>absurd h HC.o⟩
end
section
open Go.Proofs.Tryz Go.RowKit Go.MapKept Go.Maps
theorem QN(kb tb:Nat)(s:ByteArray)(c:Int)(p:Option Addr)(n cap:Nat)(w:World)(hc:w.cell? (kb,6)=some (.pointer (tb,0)))
 (hf:∀W,Bel w W→Calls prog 95 #[tb,s] W (Z.b (.tuple #[.agg #[.pointer none,.string ⟨#[]⟩,.pointer none],eD c]) W)) :
 Calls prog 55 #[kb,.agg #[s,false,(p,n,cap)]] w (Z.b (eD c) w):=by
 have HF:=xh hf;have HC:=xh hc;clear hf hc;go_enter func55,ntmps55;go_upto_region 1 with fail
 have k1:Bel w (w.alloc (.cells #[s,false,(p,n,cap)] 71)):=Bel.start w _;have B1:=Blk.new w [s,false,(p,n,cap)] 71;generalize w.alloc (.cells #[s,false,(p,n,cap)] 71)=w1 at *
 obtain⟨g3,hg3⟩:=e_x w.heap.size;rw[hg3]at B1⊢;have HB1:=xh B1;have bG:=xh k1;have c0:=B1.c 0 rfl;have c1:=B1.c 1 rfl;have c6:w1.cell? (kb,6)=some (.pointer (tb,0)):=aa k1 HC.o;clear k1 B1 hg3;go_upto_region 3 with fail
 have aaN:g3<w1.heap.size:=HB1.o.lt;have hkl:kb<w1.heap.size:=World.block_lt_of_cell? _ _ c6
 go_region_with (first
  | (go_at_call 95;((with_reducible refine au (HF.o _ (bG.o.drew)) ?_);rintro e w2 ⟨rfl,k2⟩;have gq:Hid (Bel w1 w2):=xh ((Bel.drew (Bel.refl w1)).tr k2);have hu:w1.heap.size≤w2.heap.size:=gq.o.size;clear k2))
  | (go_at_call 95;((with_reducible refine au (HF.o _ ((bG.o.ac _).drew)) ?_);rintro e w2 ⟨rfl,k2⟩;have B5:=(Blk.new w1 [.pointer none,.string ⟨#[]⟩,.pointer none] 240).bel ((Bel.drew (Bel.refl _)).tr k2);have gq:Hid (Bel w1 w2):=xh (((Bel.start w1 _).tr (Bel.drew (Bel.refl _))).tr k2);have nH:=xh B5;have c50:=B5.c 0 rfl;have c51:=B5.c 1 rfl;have c52:=B5.c 2 rfl;have f5:=B5.frozen;clear k2 B5)))
 all_goals go_wp2
 all_goals go_ret
 all_goals first
  | exact⟨rfl,bG.o.tr (gq.o.ac _)⟩
  | exact⟨rfl,bG.o.tr gq.o⟩
  | exact⟨rfl,bG.o.tr (((gq.o.store (p:=⟨w1.heap.size,0,none⟩) (bH _) _).store (p:=⟨w1.heap.size,1,none⟩) (bH _) _).store (p:=⟨w1.heap.size,2,none⟩) (bH _) _)⟩
theorem Pq(kb tb:Nat)(A:bB)(T:List Pn)(mi mb:Nat)(s:ByteArray)(is:Bool)(p:Option Addr)(cap:Nat)(L:List Int)(w:World)(h:PT w tb A T mi mb)(hc:w.cell? (kb,6)=some (.pointer (tb,0)))(hkb:¬jC tb A T kb)
 (hbs:BS w p L)(hlen:L.length≤200000)(UF:∀b o,p=some ⟨b,o,none⟩→¬jC tb A T b)(hs:s.size≤1000000)(hmx:dZ w) :
 Calls prog 55 #[kb,.agg #[s,is,(p,L.length,cap)]] w λe w'=>CR w tb A T mi mb (jq mi mb (aH T) s.data.toList is L) e w':=by
 cases is with
 | true=>
   have hm:=λW (hW:Bel w W)=>Np tb A T mi mb s W (h.bel hW) hs (hmx.bel hW);show Calls _ _ _ _ λe w'=>CR w tb A T mi mb (Ph mi (aH T) s.data.toList) e w'
   generalize Ph mi (aH T) s.data.toList=r at *
   by_cases h0:r.1=0
   ·refine(E5 kb tb s _ .nilIface w (λW w'=>∃A' T',jr W tb A T mi mb r.2 A' T' w') rfl hc λW hW=>(hm W hW).mono λe w' k=>k.2 h0).mono ?_
    rintro e w' ⟨rfl,W,hW,A',T',k⟩;exact⟨λh=>absurd h0 h,λ_=>⟨rfl,A',T',k.pt,k.aH,(Keep.of_bel _ hW).tr k.keep,λq hq=>by
     rcases k.foot q hq with h|h
     ·exact .inl h
     ·exact .inr (aV hW.size h)⟩⟩
   ·refine(E5 kb tb s _ (eD r.1) w (λW w'=>Keep (jC tb A T) W w') rfl hc λW hW=>(hm W hW).mono λe w' k=>k.1 h0).mono ?_
    rintro e w' ⟨rfl,W,hW,k⟩;exact⟨λ_=>⟨rfl,(Keep.of_bel _ hW).tr k⟩,λh=>absurd h h0⟩
 | false=>
   have hf:=λW (hW:Bel w W)=>yN tb A T _ s W (h.bel hW).block (h.bel hW).tree hs (hmx.bel hW);have hroot:=h.tree.isRoot;have hnew:=mg (L:=aH T) (s:=s.data.toList) hroot;have hold:=jS (L:=aH T) (s:=s.data.toList) hroot;unfold jq;obtain⟨d,nm,n,c,hr⟩:∃d nm n c,ay (aH T) s.data.toList=(d,nm,n,c):=⟨_,_,_,_,rfl⟩;rw[hr]at hnew hold;simp only[hr]at hf hnew hold⊢
   rw[if_neg (by simp)];by_cases hcc:c=0
   ·subst hcc
    rw[if_neg (by simp)];refine Nl kb tb A T mi mb s nm p cap L d n w h hc hkb hbs hlen UF (λW hW=>(hf W hW).mono λe w' k=>⟨k.1.trans (by rw[wI,if_pos rfl]),k.2⟩) _ ?_;by_cases hn:n=0
    ·rw[if_pos hn,if_pos hn]
     obtain⟨h1,h2,h3,h4,h5⟩:=hnew rfl hn;exact⟨h1,h2,h3,h4,h5,by rw[jM]⟩
    ·rw[if_neg hn,if_neg hn]
     have:=hold rfl;rw[jM]at this;exact⟨this,rfl⟩
   ·rw[if_pos hcc]
    refine(QN kb tb s c p L.length cap w hc λW hW=>(hf W hW).mono λe w' k=>⟨k.1.trans (by rw[wI,if_neg hcc]),k.2⟩).mono ?_;rintro e w' ⟨rfl,k⟩;exact⟨λ_=>⟨rfl,Keep.of_bel _ k⟩,λh=>absurd h hcc⟩
def nS:Pn:=⟨0,⟨#[]⟩,true,[],.slice none 0 0,0,false⟩
theorem Hl(mi mb:Nat)(w:World)(h1:1≤mi)(Kk:mi≤100000)(hmb:mb≤100000) :
 PT (((w.alloc (.map #[] 0)).alloc (.cells #[.string ⟨#[]⟩,.pointer none,.map (some w.heap.size),(),(0:Int),false] 234)).alloc (.cells #[.pointer (w.heap.size+1,0),(1:Int),(0:Int),.int .i64 mi,.int .i64 mb] 220)) (w.heap.size+2) ⟨λ_=>w.heap.size+1,λ_=>w.heap.size⟩ [nS] mi mb:=by
 have one:∀(i:Nat) (n:Pn),[nS][i]?=some n→i=0∧n=nS:=λi n h=>by
  cases i with
  | zero=>simp at h;exact⟨rfl,h.symm⟩
  | succ i=>simp at h
 have B1:Blk ((w.alloc (.map #[] 0)).alloc (.cells #[.string ⟨#[]⟩,.pointer none,.map (some w.heap.size),(),(0:Int),false] 234)) (w.heap.size+1) [.string ⟨#[]⟩,.pointer none,.map (some w.heap.size),(),(0:Int),false] 234:=Blk.aT _ _ _ (by simp);have M1:=((Mp.new uM w).alloc (.cells #[.string ⟨#[]⟩,.pointer none,.map (some w.heap.size),(),(0:Int),false] 234)).alloc (.cells #[.pointer (w.heap.size+1,0),(1:Int),(0:Int),.int .i64 mi,.int .i64 mb] 220);refine⟨⟨?_,?_,?_,?_,?_,?_,?_,?_,?_,?_,?_,by simp⟩,Blk.aT _ _ _ (by simp),h1,Nat.zero_le _,Kk,hmb⟩
 ·intro i n hi
  obtain⟨rfl,rfl⟩:=one i n hi;exact B1.alloc _
 ·intro i n hi _
  obtain⟨rfl,rfl⟩:=one i n hi;exact M1
 ·intro i n hi
  obtain⟨rfl,rfl⟩:=one i n hi;exact⟨(λx hx=>by cases hx),.inl ⟨rfl,rfl⟩⟩
 ·intro i j hi hj _;simp at hi hj;omega
 ·intro i j m n hi hj _ _ _
  rw[(one i m hi).1,(one j n hj).1]
 ·intro i j m n g hi hj _ _
  rw[(one i m hi).1,(one j n hj).1]
 ·intro i n hi
  obtain⟨rfl,rfl⟩:=one i n hi;exact bH _
 ·intro i n hi h
  obtain⟨rfl,rfl⟩:=one i n hi;exact absurd rfl h
 ·exact⟨nS,rfl,rfl,rfl,rfl⟩
 ·intro i n hi _ h
  exact absurd (one i n hi).1 h
 ·intro i n hi _ h
  exact absurd (one i n hi).1 h
inductive Ho (mi mb B:Nat) (e:Ending) (w':World):Prop
 | mk (tb:Nat) (A:bB):e=.returned (.tuple #[tb,.nilIface])→PT w' tb A [nS] mi mb→(∀q,jC tb A [nS] q→B≤q)→Ho mi mb B e w'
theorem Ec(mi mb:Nat)(w:World)(h1:1≤mi)(Kk:mi≤100000)(hmb:mb≤100000) :
 Calls prog 53 #[.int .i64 mi,.int .i64 mb] w λe w'=>Ho mi mb w.heap.size e w'∧Bel w w':=by
 have hmm:∀w,(Instr.makeMap 232 none).run prog w=.ok (.map (some w.heap.size)) (w.alloc (.map #[] 0)):=λw=>by kernel_rfl
 have hn:¬((mi:Int)<1):=by omega
 go_enter func53,ntmps53;go_wp2
 go_ret2
 refine⟨Ho.mk (w.heap.size+2) ⟨λ_=>w.heap.size+1,λ_=>w.heap.size⟩ rfl (Hl mi mb w h1 Kk hmb) ?_,((Bel.start w _).ac _).ac _⟩;rintro q (rfl|⟨i,n,hi,rfl|⟨_,rfl⟩|h⟩)
 ·omega
 ·show w.heap.size≤w.heap.size+1;omega
 ·exact bH _
 ·cases i with
  | zero=>simp at hi;subst hi;cases h
  | succ i=>simp at hi
theorem Cb(n:Int)(w:World) :
 Calls prog 54 #[n] w λe w'=>(∃ob,e=.returned (.pointer (ob,0))∧w.heap.size≤ob∧Blk w' ob [(0:Int),n] 222)∧Bel w w':=by
 go_enter func54,ntmps54;go_wp2
 go_ret
 exact⟨⟨_,rfl,bH _,Blk.new w _ _⟩,Bel.start _ _⟩
theorem Py(cb:Nat)(fds:Nat)(a b:Value)(w:World)(hc:Blk w cb [.int .i64 fds,a,b] 151)(hf:fds≤1000000) :
 Calls prog 392 #[cb,(1:Int)] w λe w'=>e=.returned (.int .i64 (fds+1:Nat))∧Blk w' cb [.int .i64 (fds+1:Nat),a,b] 151∧Keep (λq=>q=cb) w w':=by
 have c0:=hc.c 0 rfl;have f0:=hc.frozen;have HC:=xh hc;have hl:=hc.lt;clear hc;go_enter func392,ntmps392;go_wp2
 go_ret
 exact⟨rfl,HC.o.setCell (o:=0) _,Keep.setCell _ _ _ _⟩
theorem Pv(ob:Option Addr)(cb:Nat)(fds:Nat)(a b:Value)(w:World)(hc:Blk w cb [.int .i64 fds,a,b] 151)(hf:fds≤1000000) :
 Calls prog 56 #[.pointer ob,.iface 107 (.pointer (cb,0))] w λe w'=>e=.returned (.tuple #[])∧Blk w' cb [.int .i64 (fds+1:Nat),a,b] 151∧Keep (λq=>q=cb) w w':=by
 have hme:∀w,(Go.method 667 107 (.pointer (cb,0)) "tinyos/files.hold").run prog w=.ok (392,.pointer (cb,0)) w:=λw=>by kernel_rfl
 have HH:=xh (Py cb fds a b w hc hf);clear hc;go_enter func56,ntmps56;go_wp2_with (go_at_call 392;((with_reducible refine au HH.o ?_);rintro e w1 ⟨rfl,B1,K1⟩))
 go_end0
 exact⟨rfl,B1,K1⟩
theorem L9(kb:Nat)(used lim n:Int)(w:World)(h9:w.cell? (kb,9)=some (.int .i64 used))(h1:w.cell? (kb,1)=some (.int .i64 lim))(hu : -10000000≤used∧used≤10000000)(hn : -10000000≤n∧n≤10000000)(hl : -10000000≤lim∧lim≤10000000) :
 Calls prog 102 #[kb,n] w λe w'=>e=.returned (.bool (decide (used+n≤lim)))∧∃n,w'=w.drewN n:=by
 have hw:IntKind.i64.wrap (used+n)=used+n:=by rw[IntKind.wrap_i64];omega
 by_cases h:used+n≤lim
 ·have hd:decide (used+n≤lim)=true:=by simpa using h
  rw[hd];clear hd;go_enter func102,ntmps102;go_upto_region 1 with fail
  go_quiet (fail)
  go_wp2
  go_ret
  exact⟨rfl,nq,rfl⟩
 ·have hd:decide (used+n≤lim)=false:=by simpa using h
  rw[hd];clear hd;go_enter func102,ntmps102;go_upto_region 1 with fail
  go_quiet (fail)
  go_wp2
  go_ret
  exact⟨rfl,nq,rfl⟩
end
section
open Go.RowKit
structure av where
 path:ByteArray
 dir:Bool
 p:Option Addr
 cap:Nat
 byt:List Int
def cZ:Nd:=⟨0,⟨#[]⟩,true,[],dM⟩
def bu(mi mb:Nat):List Nd→List av→Nat×List Nd
 | N,[]=>(0,N)
 | N,f::fs=>if (jq mi mb N f.path.data.toList f.dir f.byt).1≠0 then((jq mi mb N f.path.data.toList f.dir f.byt).1,N)else bu mi mb (jq mi mb N f.path.data.toList f.dir f.byt).2 fs
structure dN where
 a:Int
 b:Int
 c:Int
 d:Int
 e:Int
def dN.vY(l:dN):Bool:=decide (1≤l.a∧l.a≤16∧1≤l.b∧l.b≤1000)
def dN.okB(l:dN):Bool:=decide (0≤l.c∧l.c≤100000∧0≤l.d∧l.d≤100000∧0≤l.e∧l.e≤100000)
def dL:List UInt8:=[47,105,110,105,116]
noncomputable def aW(l:dN)(F:List av):Nat:=
 if l.vY=false then 6 else if l.okB=false then 6 else if l.d=0 then 12 else
 if (bu l.d.toNat l.e.toNat [cZ] F).1≠0 then(bu l.d.toNat l.e.toNat [cZ] F).1 else
 iF (bu l.d.toNat l.e.toNat [cZ] F).2 dL true 0 0 l.b.toNat
theorem uS{N M:List Nd}(h:isDir N 1=true):isDir (N++M) 1=true:=by
 obtain⟨x,hx,hd⟩:=oU h;unfold isDir;rw[List.getElem?_append_left (bZ hx).1,hx];exact hd
theorem Eb{mb:Nat}{N:List Nd}{n:Nat}{b:List Int}(hs:bN N≤mb)(hr:isDir N 1=true)(h:(oG mb N n b).1=0):bN (oG mb N n b).2≤mb∧isDir (oG mb N n b).2 1=true∧(oG mb N n b).2.length=N.length:=by
 unfold oG at h⊢;cases hx:N[n-1]? with
 | none=>rw[hx]at h;cases h
 | some x=>
   rw[hx]at h;simp only at h⊢
   by_cases h1:x.dir=true
   ·rw[if_pos h1]at h;cases h
   ·rw[if_neg h1]at h⊢
    by_cases h2:0<b.length∧mb<bN N+(b.length-x.byt.length)
    ·rw[if_pos h2]at h;cases h
    ·rw[if_neg h2]
     refine⟨?_,?_,by simp⟩
     ·have:=kX N (n-1) x {x with byt:=b++x.byt.drop b.length} hx
      simp only[List.length_append,List.length_drop]at this
      show bN (N.set (n-1) _)≤mb
      by_cases h0:0<b.length
      ·have h3:¬mb<bN N+(b.length-x.byt.length):=λh=>h2 ⟨h0,h⟩
       omega
      ·omega
     ·show isDir (N.set (n-1) _) 1=true
      obtain⟨y,hy,Ar⟩:=oU hr;unfold isDir;by_cases e:n-1=1-1
      ·rw[←e]at hy
       rw[hx]at hy;cases hy
       exact absurd Ar h1
      ·rw[List.getElem?_set_ne e,hy]
       exact Ar
theorem LX{mi mb:Nat}{N:List Nd}{path:List UInt8}{is:Bool}{b:List Int}(hs:bN N≤mb)(hr:isDir N 1=true)(h:(jq mi mb N path is b).1=0) :
 bN (jq mi mb N path is b).2≤mb∧isDir (jq mi mb N path is b).2 1=true∧(jq mi mb N path is b).2.length≤N.length+1:=by
 unfold jq at h⊢;cases is with
 | true=>
   simp only[if_true]at h⊢
   unfold Ph at h⊢;split at h
   ·rename_i h1;exact absurd h h1
   ·rename_i h1
    rw[if_neg h1];split at h
    ·cases h
    ·rename_i h2
     rw[if_neg h2];split at h
     ·cases h
     ·rename_i h3
      rw[if_neg h3];refine⟨?_,uS hr,by simp⟩;show bN (N++_)≤mb
      rw[sQ];exact hs
 | false=>
   simp only[Bool.false_eq_true,if_false]at h⊢
   split at h
   ·rename_i h1;exact absurd h h1
   ·rename_i h1
    rw[if_neg h1];split at h
    ·rename_i h2
     rw[if_pos h2];split at h
     ·cases h
     ·rename_i h3
      rw[if_neg h3];obtain⟨k1,k2,k3⟩:=Eb (mb:=mb) (N:=N++[⟨(ay N path).1,(ay N path).2.1,false,[],dM⟩]) (by rw[sQ];exact hs) (uS hr) h;exact⟨k1,k2,by rw[k3];simp⟩
    ·rename_i h2
     rw[if_neg h2];obtain⟨k1,k2,k3⟩:=Eb hs hr h;exact⟨k1,k2,by omega⟩
end
section
open Go.Proofs.Tryz Go.RowKit
def kC(l:dN):List Value:=[.int .i64 l.a,.int .i64 l.b,.int .i64 l.c,.int .i64 l.d,.int .i64 l.e]
theorem Tx(l:dN)(v1 v2 v3:Value)(w:World)(h:l.vY=false) :
 Calls prog 60 #[.agg (kC l).toArray,v1,v2,v3] w (Z.b (.tuple #[.pointer none,(6:Int)]) w):=by
 obtain⟨a,b,c,d,e⟩:=l;have h':a<1∨(¬a<1∧16<a)∨(¬a<1∧¬16<a∧b<1)∨(¬a<1∧¬16<a∧¬b<1∧1000<b):=by
  simp only[dN.vY,decide_eq_false_iff_not]at h
  omega
 clear h;simp only[kC]
 rcases h' with h1|⟨h1,h2⟩|⟨h1,h2,h3⟩|⟨h1,h2,h3,h4⟩
 all_goals
  go_enter func60,ntmps60;go_wp2
  go_ret2
  exact⟨rfl,(Bel.start w _).ac _⟩
theorem Ty(l:dN)(v1 v2 v3:Value)(w:World)(h:l.vY=true)(hb:l.okB=false) :
 Calls prog 60 #[.agg (kC l).toArray,v1,v2,v3] w (Z.b (.tuple #[.pointer none,(6:Int)]) w):=by
 obtain⟨a,b,c,d,e⟩:=l;have h':¬a<1∧¬16<a∧¬b<1∧¬1000<b:=by
  simp only[dN.vY,decide_eq_true_eq]at h
  omega
 have hb':c<0∨(¬c<0∧100000<c)∨(¬c<0∧¬100000<c∧d<0)∨(¬c<0∧¬100000<c∧¬d<0∧100000<d)∨(¬c<0∧¬100000<c∧¬d<0∧¬100000<d∧e<0)∨(¬c<0∧¬100000<c∧¬d<0∧¬100000<d∧¬e<0∧100000<e):=by
  simp only[dN.okB,decide_eq_false_iff_not]at hb
  omega
 clear h hb;simp only[kC]
 obtain⟨h1,h2,h3,h4⟩:=h';rcases hb' with g1|⟨g1,g2⟩|⟨g1,g2,g3⟩|⟨g1,g2,g3,g4⟩|⟨g1,g2,g3,g4,g5⟩|⟨g1,g2,g3,g4,g5,g6⟩
 all_goals
  go_enter func60,ntmps60;go_wp2
  go_ret2
  exact⟨rfl,(Bel.start w _).ac _⟩
theorem Tz(l:dN)(v1 v2 v3:Value)(w:World)(h:l.vY=true)(hb:l.okB=true)(hd:l.d=0) :
 Calls prog 60 #[.agg (kC l).toArray,v1,v2,v3] w (Z.b (.tuple #[.pointer none,(12:Int)]) w):=by
 obtain⟨a,b,c,d,e⟩:=l;obtain⟨h1,h2,h3,h4⟩:¬a<1∧¬16<a∧¬b<1∧¬1000<b:=by
  simp only[dN.vY,decide_eq_true_eq]at h
  omega
 obtain⟨g1,g2,g3,g4,g5,g6⟩:¬c<0∧¬100000<c∧¬d<0∧¬100000<d∧¬e<0∧¬100000<e:=by
  simp only[dN.okB,decide_eq_true_eq]at hb
  omega
 clear h hb;simp only at hd
 subst hd;simp only[kC]
 go_enter func60,ntmps60;go_wp2
 go_ret2
 exact⟨rfl,(Bel.start w _).ac _⟩
structure GU(w:World)(F:List av)(v1 v2 v3:Value):Prop where
 n:F.length≤1000
 paths:∃p c,v1=.slice p F.length c∧∀(i:Nat) (f:av),F[i]?=some f→∃g,p=some ⟨g,0,none⟩∧w.cell? ⟨g,i,none⟩=some (.string f.path)
 abY:∃p c,v2=.slice p F.length c∧∀(i:Nat) (f:av),F[i]?=some f→∃g,p=some ⟨g,0,none⟩∧w.cell? ⟨g,i,none⟩=some (.bool f.dir)
 bytes:∃p c,v3=.slice p F.length c∧∀(i:Nat) (f:av),F[i]?=some f→∃g,p=some ⟨g,0,none⟩∧w.cell? ⟨g,i,none⟩=some (.slice f.p f.byt.length f.cap)
 byt:∀f∈F,BS w f.p f.byt∧f.byt.length≤f.cap∧f.byt.length≤200000∧f.path.size≤1000000∧(0<f.byt.length→∀b o,f.p=some ⟨b,o,none⟩→b<w.heap.size)
def lT:List Value:=[.int .i64 1,.int .i64 0,.int .i64 0,.int .i64 0,.int .i64 0,.int .u64 0,.int .u64 0,.int .u64 0,.int .u64 0,.int .u64 0,.int .u64 0,.int .u64 0,.int .u64 0,.int .u64 0,.int .u64 0,.int .u64 0,.int .u64 0,.int .u64 0,.int .u64 0,.int .u64 0,.int .u64 0,.int .u64 0,.slice none 0 0,.int .i64 (-1),.int .i64 (-1),.int .i64 (-1),.int .i64 0,.int .i64 0,.int .i64 0,.int .i64 0,.int .i64 0]
def bQ:List ByteArray:=[⟨#[105,110,105,116]⟩]
theorem oZ:Good bQ:=by
 intro i hi;have:i=0:=by simp[bQ]at hi;omega
 subst this
 decide
theorem KO(L:List Nd):(aN L).sum=bN (fA L):=by
 unfold aN bN fA;rw[List.map_map];rfl
def iN(ss:List ByteArray):List Value:=[254,255].flatMap λn=>ax n (xN ss n)
theorem D8(L:List Nd)(path:List UInt8)(GK:Bool)(own used mf:Nat):iF (fA L) path GK own used mf=iF L path GK own used mf:=by
 unfold iF;rw[oh];unfold fA;rw[dA];cases L[(ay L path).2.2.1-1]?<;>rfl
theorem GY(kb:Nat)(s:KV)(iv:Value)(L:List Nd)(g8 c8 mf gs:Nat)(cells:List Value)(W:World)(h:DK W kb {s with pv:=.slice (g8,0) 1 c8} iv L)(hB:Blk W g8 cells 167)(ht:cells.take 31=lT)(hl:31≤cells.length)(h1c:1≤c8)(hov:s.ov=.slice none 0 0)(hb:s.b=mf)(ZT:mf≤1000)(hsum:bN (fA L)≤100000)(hroot:isDir L 1=true)(WY:kb<g8)
 (hgs:Blk W gs [.string ⟨#[105,110,105,116]⟩] 9) :
 Calls prog 105 #[kb,g8,.string ⟨#[47,105,110,105,116]⟩,.slice (gs,0) 1 1] W λe w'=>EM W g8 0 cells (iF L dL true 0 0 mf) (dY L dL) (iN bQ) (jX (aJ bQ) 1) e w':=by
 have h22:cells[22]?=some (.slice none 0 0):=by
  have:=congrArg (·[22]?) ht
  simpa [List.getElem?_take,lT]using this
 obtain⟨g,cap,hiv,htr,hg⟩:=h.tree;have qR:=h.few;have hU:∀W',Bel W W'→Calls prog 118 #[kb] W' λe w'=>e=.returned (.agg (gy 1 0 0 L.length (aN L).sum).toArray)∧Bel W' w':=λW' hW=>
  yM kb g cap L W' (htr.bel hW) [0] (some ⟨g8,0,none⟩) none c8 0 0 (aa hW (h.blk.cell 5)) h1c (λi n hi=>by
   cases i with
   | zero=>
     simp at hi
     subst hi;exact⟨g8,none,0,rfl,aa hW (by rw[hB.cell];exact h22)⟩
   | succ i=>simp at hi) (aa hW (by rw[h.blk.cell];show some s.ov=_;rw[hov])) (λn hn=>by
   obtain⟨p,c,hv,_⟩:=(h.aN n hn).1.slice;exact⟨p,c,hv⟩) (by simp) (by rw[KO];omega) (by simp) (by omega) (by omega)
 have hst:∀W',Bel W W'→Calls prog 187 #[.slice (gs,0) 1 1] W' λe w'=>Bel W' w'∧(true=true→∃g c,e=.returned (.tuple #[.slice (g,0) 2 c,.int .u64 (jX (aJ bQ) 1),(0:Int)])∧(∀j u,(iN bQ)[j]?=some u→w'.cell? ⟨g,j,none⟩=some u)∧(iN bQ).length=516∧(∀u∈iN bQ,u.oneCell'=true))∧(true=false→e=.returned (.tuple #[(),.int .u64 0,(6:Int)])):=λW' hW=>by
  refine(IM (some ⟨gs,0,none⟩) 1 bQ W' (λ_=>⟨gs,0,rfl,(hgs.bel hW).lt,λj hj=>?_⟩) (by simp[bQ])).mono ?_
  ·have:j=0:=by simp[bQ]at hj;omega
   subst this;exact(hgs.bel hW).cell 0
  ·rintro e w' ⟨h1,h2,_⟩
   refine⟨h1,λ_=>?_,λh=>by cases h⟩;obtain⟨v,rfl,hrow⟩:=h2 oZ;obtain⟨p,c,rfl,_,_,hp⟩:=aD hrow;obtain⟨g2,rfl,_,_,hc,_⟩:=hp.resolve_left (by omega);have hlen:(iN bQ).length=516:=by simp[iN,ax,xN]
   refine⟨g2,c,rfl,λj u hj=>?_,hlen,λu hu=>?_⟩
   ·have hjl:=(bZ hj).1
    exact(hc j hjl).trans hj
   ·obtain⟨n,_,hn⟩:=List.mem_flatMap.1 hu
    exact jc _ _ u hn
 exact M7 kb _ iv L ⟨#[47,105,110,105,116]⟩ g8 0 0 0 mf 1 0 L.length (aN L).sum cells none 0 (.slice (some ⟨gs,0,none⟩) 1 1) true (jX (aJ bQ) 1) (iN bQ) W h hb ZT (by decide) hsum hB (by omega) h22 (bH _) (Nat.zero_le _) (by omega) hroot hU hst
end
section
open Go.RowKit
theorem wJ(L:List Int)(N:Nat)(hN:∀i,i<N→jP L (aL L i)):∀k,k≤N→∀n,254≤n→aM L k n=none
 | 0,_,_,_=>rfl
 | k+1,hk,n,hn=>by
   have ih:=wJ L N hN k (by omega) n hn;have hf:=hN k (by omega);have hl:(aL L k).last<254:=by
    unfold Seg.last;have h1:=hf.top;have h2:=hf.mem;have h3:=hf.addr;omega
   show(if (aL L k).first≤n∧n<(aL L k).last+1 then _ else aM L k n)=none
   rw[if_neg (by omega),ih]
theorem uR{B:List Int}(hb:∀x∈B,0≤x∧x≤255)(h:gW B=0):l9 (eO B)∧∀n,254≤n→eO B n=none:=by
 obtain⟨hh,hs,_,_⟩:=yL h;have hhead:dh B≤8∧64+56*dh B≤B.length:=by
  have:=hh;simp only[ak,Bool.and_eq_true,decide_eq_true_eq]at this
  exact⟨this.1.2,this.2⟩
 have hfit:∀i,i<(dh B).toNat→jP B (aL B i):=λi hi=>CJ B hb i (by omega) (List.all_eq_true.1 hs i (List.mem_range.2 hi));exact⟨rP B hb (dh B).toNat hfit (dh B).toNat (bH _),wJ B (dh B).toNat hfit (dh B).toNat (bH _)⟩
theorem yh{L:List Nd}{path:List UInt8}{GK:Bool}{own used mf:Nat}(h:iF L path GK own used mf=0):gW (dY L path)=0∧∃x∈L,dY L path=x.byt:=by
 unfold iF at h;unfold dY;split at h
 ·rename_i h1;exact absurd h h1
 ·split at h
  ·cases h
  ·cases hx:L[(ay L path).2.2.1-1]? with
   | none=>rw[hx]at h;cases h
   | some x=>
     rw[hx]at h;simp only at h
     split at h
     ·cases h
     ·split at h
      ·rename_i h3;exact absurd h h3
      ·rename_i h3
       exact⟨by simpa using h3,x,List.mem_of_getElem? hx,rfl⟩
theorem IU(a b:List Value)(o:Nat)(vs:List Value)(h:o+vs.length≤a.length):splice (a++b) o vs=splice a o vs++b:=by
 unfold splice;rw[List.take_append_of_le_length (by omega),List.drop_append_of_le_length (by omega)];simp only[List.append_assoc]
theorem Nj(a b:List Value)(v:Value)(E sp:Int)(ha:a.length=31):oz (a++b) 0 v E sp=oz a 0 v E sp++b:=by
 unfold oz;rw[show(a++b).set (0+22) v=a.set (0+22) v++b from List.set_append_left _ _ (by omega)];rw[show(a.set (0+22) v++b).set (0+5) (.int .u64 E)=(a.set (0+22) v).set (0+5) (.int .u64 E)++b from List.set_append_left _ _ (by simp;omega)];rw[IU _ _ _ _ (by simp;omega)];exact List.set_append_left _ _ (by rw[length_splice _ _ _ (by simp;omega)];simp;omega)
theorem AZ(a:List Value)(v:Value)(E sp:Int)(ha:a.length=31):(oz a 0 v E sp).length=31:=by
 unfold oz;rw[List.length_set,length_splice _ _ _ (by simp;omega)];simp[ha]
theorem GZ(cells:List Value)(v:Value)(E sp:Int)(h:cells.take 31=lT):(oz cells 0 v E sp).take 31=oz lT 0 v E sp:=by
 have e:cells=lT++cells.drop 31:=by rw[←h,List.take_append_drop]
 rw[e,Nj _ _ _ _ _ rfl,List.take_append_of_le_length (by rw[AZ _ _ _ _ rfl];exact bH _),List.take_of_length_le (by rw[AZ _ _ _ _ rfl];exact bH _)]
theorem DK.TD{w w':World}{kb g:Nat}{s:KV}{iv:Value}{L:List Nd}{cells:List Value}(h:DK w kb s iv L)(hB:Blk w g cells 167)(k:Keep (λq=>q=g) w w'):DK w' kb s iv L:=by
 refine⟨h.blk.keep k λe=>?_,?_,λn hn=>⟨(h.aN n hn).1.keep k λq hq e=>?_,(h.aN n hn).2⟩,h.few,h.one⟩
 ·have e:kb=g:=e
  subst e;exact h.blk.ne hB (by decide) rfl
 ·refine⟨h.row.1,?_⟩
  rcases h.row.2 with h1|⟨q,cap,cur,h1,h2,h3,h4⟩
  ·exact .inl h1
  ·refine .inr ⟨q,cap,cur,h1,h2,(k.block q (Array.getElem?_eq_some_iff.1 h3).1 λe=>?_).trans h3,h4⟩
   have e:q=g:=e;subst e;have h3':Blk w q cur.toList 252:=h3;exact h3'.ne hB (by decide) rfl
 ·obtain⟨_,cur,hb⟩:=(h.aN n hn).1.lt hq
  have e:q=g:=e;subst e;exact hb.ne hB (by decide) rfl
end
end Go.Proofs.YtcnjjchlebmfiaaGreatDoor
