/-.-/
import Derived.Test.YtcnjjchlebmfiaaGreatDoorP14
import Derived.Test.YtcnjjchlebmfiaaGreatDoorTie
import Derived.Test.YtcnjjchlebmfiaaGreatDoorCards
import Derived.SevenTiedAt
import Derived.LaidSub
import Derived.LaidOnce
import Derived.Deep.DeepHandedRow
import Derived.Lib.SmallJoins
set_option linter.all false
set_option maxRecDepth 100000
set_option maxHeartbeats 16000000
namespace Go.Proofs.YtcnjjchlebmfiaaGreatDoor
section
open Go.Proofs.Tryz Go.RowKit Go.Maps
noncomputable def dM(L:List Nd)(path:List UInt8)(zY:Bool)(own used mf:Nat):Nat:=
 if (az L path).2.2.2≠0 then(az L path).2.2.2 else if (az L path).2.2.1=0 then 9 else
 match L[(az L path).2.2.1-1]? with
 | none=>11
 | some x=>if x.dir=true then 11 else if jh x.byt≠0 then jh x.byt else if zY=false then 6 else if mf<used-own+(ag (bG x.byt)).length+2 then 7 else 0
def aY(L:List Nd)(path:List UInt8):List Int:=(L[(az L path).2.2.1-1]?.map Nd.byt).getD []
def jX(cells:List Value)(o:Nat)(v:Value)(E sp:Int):List Value:=((splice ((cells.set (o+22) v).set (o+5) (.int .u64 E)) (o+6) (List.replicate 16 (.int .u64 0))).set (o+21) (.int .u64 sp))
def BN(w:World)(pb o:Nat)(cells:List Value)(c:Nat)(B:List Int)(uq:List Value)(sp:Int)(e:Ending)(w':World):Prop:=
 e=.returned (.tuple #[(0:Int),.int .i64 (c:Nat)])∧Keep (λq=>q=pb) w w'∧(c=0→∃v,w'.ownsRow w.heap.size 260 258 v ((ag (bG B)).length+2) (aQ (bG B)++uq)∧Blk w' pb (jX cells o v (numAt B 24 8) sp) 167)
def EN(w:World)(pb o:Nat)(cells:List Value)(c:Nat)(B:List Int)(uq:List Value)(sp:Int)(e:Ending)(w':World):Prop:=
 BN w pb o cells c B uq sp e w'∧(c≠0→Bel w w')
theorem dJ{P:Program}{w:World}{base:Nat}{e:TypeId}{size:Nat}{v:Value}{n:Nat}{xs:List Value}{ops:Array Oper}{rest:List Oper}{o:Oper}{a:Act}{Q:Exit→Act→World→Prop}(hgd:o.guard=none)(s x:Operand)(t:TypeId)
 (ho:o.op=.call {callee:=.builtin .append,args:= #[s,x],argTypes:= #[t,t]}){bytes:Nat}(ht:P.underlying t=some (.slice e))
 (hi:(P.info? e).map (λi=>(i.size,i.bytes,(i.zero.map (·.cells.size))))=some (size,bytes,some size))(hsz:0<size)
 (hs:a.eval s=v)(hown:w.ownsRow base e size v n xs)(g m c:Nat)(cs:List Value)(hx:a.eval x=.slice (g,0) m c)(hB:∀j u,cs[j]?=some u→w.cell? ⟨g,j,none⟩=some u)(hl:cs.length=m*size)(h1:∀u∈cs,u.oneCell'=true)
 (h63:n+m≤maxLen)(hbytes:(n+m)*bytes≤140737488355328)(hbase:base≤w.heap.size)
 (h:∀p cp w',w'.ownsRow base e size (.slice p (n+m) cp) (n+m) (xs++cs)→Keep (λq=>v.ownBlock=some q) w w'→wpList P ops Q rest (a.put o.dst (.slice p (n+m) cp)) w'):wpList P ops Q (o::rest) a w:=by
 obtain⟨i,z,hi,hz,e1,e2,e3⟩:=info_of hi;refine wpList_append_own w hgd s x t ho base e i z size bytes ht hi hz e1 e2 e3 hsz v n xs hs hown ⟨g,0,none⟩ m c cs hx hl (λj u hj=>?_) h1 h63 hbytes hbase λv' w' k1 k2 _=>?_
 ·rw[show(⟨g,0,none⟩:Addr).add j=⟨g,j,none⟩from by unfold Addr.add;split<;>simp_all]
  exact hB j u hj
 ·obtain⟨p,cp,rfl,_⟩:=aG k1
  exact h p cp w' k1 ⟨k2.os,k2.tape,k2.output,k2.size,λk hk hn=>k2.block k hk λe=>hn e.symm⟩
theorem Rw.bs{w:World}{v:Value}{L:List Int}(h:Rw w v L){p:Option Addr}{n cap:Nat}(hv:v=.slice p n cap):BS w p L:=by
 refine⟨h.1,λh0=>?_⟩;rcases h.2 with⟨_,h2⟩|⟨g,c,cur,h1,hb,_⟩
 ·rw[h2]at h0;simp at h0
 ·rw[hv]at h1
  cases h1
  obtain⟨g2,hg2,hc⟩:=h.cells hv;cases hg2
  exact⟨g,0,rfl,hb.lt,⟨λi hi=>by rw[Nat.zero_add,hc i ((L.map (Value.int .u8))[i]'(by simpa using hi)) (bT _)];simp[bT hi],h.1⟩⟩
theorem Bo(kb:Nat)(s:KV)(iv:Value)(L:List Nd)(nm:ByteArray)(pb o own used mf a1 a2 a3 a4:Nat)(cells:List Value)(q:Option Addr)(qc:Nat)(sv:Value)(zY:Bool)(sp:Int)(uq:List Value)(w:World)(h:DK w kb s iv L)(hb:s.b=mf)(hmf:mf≤1000)(hs:nm.size≤1000000)(hsum:cZ (iD L)≤100000)
 (hP:Blk w pb cells 167)(ho:o+31≤cells.length)(hc22:cells[o+22]?=some (.slice q own qc))(hown:own≤used)(JD:used≤100000)(hpk:pb≠kb)(hroot:isDir L 1=true)
 (hU:∀W,Bel w W→Calls prog 118 #[kb] W (Z.b (.agg (fM a1 used a2 a3 a4).toArray) W))
 (hst:∀W,Bel w W→Calls prog 187 #[sv] W λe w'=>Bel W w'∧(zY=true→∃g c,e=.returned (.tuple #[.slice (g,0) 2 c,.int .u64 sp,(0:Int)])∧(∀j u,uq[j]?=some u→w'.cell? ⟨g,j,none⟩=some u)∧uq.length=516∧(∀u∈uq,u.oneCell'=true))∧(zY=false→e=.returned (.tuple #[(),.int .u64 0,(6:Int)]))) :
 Calls prog 105 #[kb,.pointer (pb,o),nm,sv] w λe w'=>EN w pb o cells (dM L nm.data.toList zY own used mf) (aY L nm.data.toList) uq sp e w':=by
 obtain⟨g,cap,hiv,ht,hg⟩:=h.tree;have hw:=walk_any kb g cap L w ht nm hs (by have:=h.few;omega);have hold:=mD (L:=L) (s:=nm.data.toList) hroot;have hfew:=h.few;unfold dM aY;obtain⟨d,x,n,c,hr⟩:∃d x n c,az L nm.data.toList=(d,x,n,c):=⟨_,_,_,_,rfl⟩;rw[hr]at hw hold⊢;simp only[PZ]at hw hold⊢
 have HW:=xh hw;have HDK:=xh h;have YT:=xh ht;have HU:=xh hU;have HST:=xh hst;have HP:=xh hP;have aeK:=xh hc22;have HB:=xh hb;clear hw h ht hU hst hP hc22 hr hiv hb hroot;by_cases hc:c=0
 ·subst hc
  rw[if_neg (by simp)];have hle:=hold rfl;by_cases hn:n=0
  ·subst hn
   rw[if_pos rfl];clear hold hle;go_enter func105,ntmps105;go_wp2_with (go_at_call 183;((with_reducible refine aH HW.o ?_);rintro e w1 ⟨rfl,k1⟩))
   go_ret2
   exact⟨⟨rfl,Keep.of_bel _ k1,λh=>by cases h⟩,λ_=>k1⟩
  ·rw[if_neg hn]
   have hlt:n-1<L.length:=by omega
   have hy:=bT hlt;rw[hy];simp only
   have hyb:=HDK.o.aS L[n-1] (List.getElem_mem hlt);have hyl:L[n-1].byt.length≤100000:=by
    have:=nI (iD L) (n-1) L[n-1].sk {L[n-1].sk with byt:=[]} (by unfold iD;rw[fA,hy];rfl);simp[Nd.sk]at this
    omega
   have hrg:=YT.o.2.2 (n-1) L[n-1] hy;have hin:=λ(W:World) (hW:Bel w W)=>sS kb g cap L W (YT.o.bel hW) n (by omega) hle (by omega);generalize L[n-1]=y at *
   obtain⟨bq,bc,hbv,hbc,_,_⟩:=hyb.1.slice;have LM:=xh hrg;have Dq:=xh hin;have YW:=xh hyb;have NJ:=xh hbv;have hnb:((n:Int)==0)=false:=dK (by omega);have hn1:(0:Int)≤((n-1:Nat):Int):=by omega
   have hn2:((n-1:Nat):Int)<(L.length:Int):=by omega
   have hcl:=YT.o.2.1;clear hold hy hyb hrg hin hbv hn;simp only[Option.map_some,Option.getD_some]
   cases Ej:y.dir with
   | true=>
     rw[if_pos rfl];have hc3:=λ(W:World) (hW:Bel w W)=>(show W.cell? (g,(n-1)*5+3)=some (.bool true)from by rw[←Ej];exact af hW (LM.o 3 _ rfl));have YX:=xh hc3;clear Ej hc3;go_enter func105,ntmps105
     go_wp2_with (first
      | (go_at_call 183;((with_reducible refine aH HW.o ?_);rintro e w1 ⟨rfl,k1⟩;have bP:=xh k1;clear k1))
      | (go_at_call 185;((with_reducible refine aH (Dq.o w1 bP.o) ?_);rintro e w2 ⟨rfl,hh⟩;subst hh;have c3:=YX.o w1 bP.o;have c7:=(YT.o.bel bP.o).1)))
     go_ret2
     exact⟨⟨rfl,Keep.of_bel _ bP.o,λh=>by cases h⟩,λ_=>bP.o⟩
   | false=>
     rw[if_neg (by simp)];have hc3:=λ(W:World) (hW:Bel w W)=>(show W.cell? (g,(n-1)*5+3)=some (.bool false)from by rw[←Ej];exact af hW (LM.o 3 _ rfl));have hc4:=λ(W:World) (hW:Bel w W)=>(show W.cell? (g,(n-1)*5+4)=some (.slice bq y.byt.length bc)from by rw[←NJ.o];exact af hW (LM.o 4 _ rfl));have YX:=xh hc3;have HC4:=xh hc4;have hld:=λ(W:World) (hW:Bel w W)=>Tt bq bc y.byt hbc (by omega) W ((YW.o.1.bel hW).bs NJ.o);clear Ej hc3 hc4;by_cases hl:jh y.byt=0
     ·rw[if_neg (by simpa using hl)]
      obtain⟨l1,l2,l3,l4⟩:=BU hl;have Tu:=λ(W:World) (hW:Bel w W)=>(hld W hW).mono λe w' h=>And.intro (h.2.ok l1 l2 l3 l4) h.1;have XG:=xh Tu;obtain⟨m,hm⟩:=e_x (aX y.byt (dQ y.byt).toNat);have hms:bG y.byt=m:=hm;obtain⟨E,hE⟩:=e_x (numAt y.byt 24 8);rw[hm,hE]at XG;rw[hms];have hpl:=aT m;have HMS:=xh hms;have XH:=xh hE;clear hl l1 l2 l3 l4 hld Tu hm hms hE;cases zY with
      | false=>
        rw[if_pos rfl];have Dt:=xh λW hW=>(HST.o W hW).mono λe w' h=>And.intro (h.2.2 rfl) h.1;go_enter func105,ntmps105
        go_wp2_with (first
         | (go_at_call 183;((with_reducible refine aH HW.o ?_);rintro e w1 ⟨rfl,k1⟩;have bP:=xh k1;clear k1))
         | (go_at_call 185;((with_reducible refine aH (Dq.o w1 bP.o) ?_);rintro e w2 ⟨rfl,hh⟩;subst hh;have c3:=YX.o w1 bP.o;have c4:=HC4.o w1 bP.o;have c7:=(YT.o.bel bP.o).1))
         | (go_at_call 186;((with_reducible refine aH (XG.o w1 bP.o) ?_);rintro e w3 ⟨⟨v,rfl,hrow⟩,k3⟩;have jP:=xh (bP.o.tr k3);clear k3 hrow))
         | (go_at_call 187;((with_reducible refine aH (Dt.o w3 jP.o) ?_);rintro e w4 ⟨rfl,k4⟩;have qh:=xh (jP.o.tr k4);clear k4)))
        go_ret2
        exact⟨⟨rfl,Keep.of_bel _ qh.o,λh=>by cases h⟩,λ_=>qh.o⟩
      | true=>
        rw[if_neg (by simp)];have HSG:=xh λW hW=>(HST.o W hW).mono λe w' h=>And.intro (h.2.1 rfl) h.1;have hw1:IntKind.i64.wrap ((used:Int)-(own:Int))=(used:Int)-(own:Int):=by rw[IntKind.wrap_i64];omega
        have hw2:IntKind.i64.wrap ((used:Int)-(own:Int)+((ag m).length:Int))=(used:Int)-(own:Int)+((ag m).length:Int):=by rw[IntKind.wrap_i64];omega
        have hw3:IntKind.i64.wrap ((used:Int)-(own:Int)+((ag m).length:Int)+2)=(used:Int)-(own:Int)+((ag m).length:Int)+2:=by rw[IntKind.wrap_i64];omega
        have HW1:=xh hw1;have HW2:=xh hw2;have HW3:=xh hw3;obtain⟨N,hN⟩:=e_x ((ag m).length);rw[hN]at XG HW2 HW3 hpl⊢;have HN:=xh hN;obtain⟨ec,qK⟩:=e_x ((if mf<used-own+N+2 then 7 else 0));rw[qK];have O0:=xh qK;clear hw1 hw2 hw3 hN qK;go_enter func105,ntmps105
        go_upto_region 16 with(first
         | (go_at_call 183;((with_reducible refine aH HW.o ?_);rintro e w1 ⟨rfl,k1⟩;have bP:=xh k1;clear k1))
         | (go_at_call 185;((with_reducible refine aH (Dq.o w1 bP.o) ?_);rintro e w2 ⟨rfl,hh⟩;subst hh;have c3:=YX.o w1 bP.o;have c4:=HC4.o w1 bP.o;have c7:=(YT.o.bel bP.o).1))
         | (go_at_call 186;((with_reducible refine aH (XG.o w1 bP.o) ?_);rintro e w3 ⟨⟨v,rfl,hrow⟩,k3⟩;obtain⟨pv,cv,rfl,hcv,hcm,_⟩:=aG hrow;have gU:=xh (hrow.mono bP.o.size);have jP:=xh (bP.o.tr k3);clear k3 hrow))
         | (go_at_call 187;((with_reducible refine aH (HSG.o w3 jP.o) ?_);rintro e w4 ⟨⟨g2,c2,rfl,hsc,hsl,hso⟩,k4⟩;have HSC:=xh hsc;have HSL:=xh hsl;have Ij:=xh hso;have aeL:=xh (aO gU.o k4);have ajy:=xh k4;have qh:=xh (jP.o.tr k4);clear k4 hsc hsl hso))
         | (go_at_call 118;((with_reducible refine aH (HU.o w4 qh.o) ?_);rintro e w5 ⟨rfl,k5⟩;have aeM:=xh k5;clear k5))
         | (refine aA rfl 159 (.tmp 21) (.tmp 72) rfl rfl w5.heap.size (fM a1 used a2 a3 a4) (fM 0 0 0 0 0) 159 (Blk.new w5 _ _) rfl rfl (by kernel_rfl) rfl (by intro v hv;simp[fM]at hv;rcases hv with rfl|rfl|rfl|rfl|rfl<;>rfl) ?_;intro w6 B6 K6))
        have kc:Bel w5 w6:=(Below.heap_alloc' w5 _).trans (K6.below _ (by simp) (λk hk=>by omega));have cu:=B6.out.c 1 rfl;have mG:=xh ((qh.o.tr aeM.o).tr kc);have aeN:=xh (aeM.o.tr kc);generalize w5.heap.size=g21 at *
        have jB:w6.cell? (pb,o+22)=some (.slice q own qc):=by rw[(HP.o.bel mG.o).cell];exact aeK.o
        have cf:w6.cell? (kb,1)=some (.int .i64 (mf:Int)):=by rw[←HB.o];exact(HDK.o.bel mG.o).blk.cell 1
        have hw1:=HW1.o;have hw2:=HW2.o;have hw3:=HW3.o;clear kc B6 K6 c3 c4 c7;by_cases hmm:mf<used-own+N+2
        ·have HE7:Hid (ec=7):=xh (by rw[←O0.o,if_pos hmm])
         have hgt:(mf:Int)<(used:Int)-(own:Int)+(N:Int)+2:=by omega
         clear hmm;go_quiet (fail)
         go_wp2
         go_ret2
         exact⟨⟨by rw[HE7.o];rfl,Keep.of_bel _ (aj mG.o nq),λh=>by rw[HE7.o]at h;cases h⟩,λ_=>(aj mG.o nq)⟩
        ·have HE0:Hid (ec=0):=xh (by rw[←O0.o,if_neg hmm])
         have hgt:¬((mf:Int)<(used:Int)-(own:Int)+(N:Int)+2):=by omega
         clear hmm;go_quiet (fail)
         have kd:Bel w6 (w6.drewN nq):=aj (Bel.refl _) nq;generalize w6.drewN nq=w7 at *
         have I4:=xh (mG.o.tr kd);have abp:=xh ((aO aeL.o (aeN.o.tr kd)).mono (bM _));have ahw:Hid (∀j u,uq[j]?=some u→w7.cell? ⟨g2,j,none⟩=some u):=xh λj u hj=>af (aeN.o.tr kd) (HSC.o j u hj);clear kd cu jB cf hw1 hw2 hw3 hgt;have HP7:=xh (HP.o.bel I4.o);have ajz:=HP.o.lt;have aeO:Hid (∀g',(Value.slice pv N cv).ownBlock=some g'→w.heap.size≤g'):=xh (xP abp.o);go_upto_region 19 with(refine dJ (n:=N) (size:=258) (bytes:=272) rfl (.tmp 92) (.tmp 93) 164 rfl underlying164 iP (by omega) rfl abp.o g2 2 c2 uq rfl ahw.o HSL.o Ij.o (by unfold maxLen;omega) (by omega) I4.o.size ?_;intro p8 c8 w8 R8 K8;have VL:=xh R8;have HP8:=xh (HP7.o.keep K8 (λe=>by have:=aeO.o _ e;omega));have Gu:=xh K8;have jB:w8.cell? (pb,o+22)=some (.slice q own qc):=(HP8.o.cell _).trans aeK.o;have f22:=HP8.o.frozen;have hl8:=HP8.o.lt;clear R8 K8)
         have HP9:=HP8.o.setCell (o:=o+22) (.slice p8 (N+2) c8);have Y2:=dG VL.o (Keep.setCell w8 pb (o+22) (.slice p8 (N+2) c8)) (λg' hg' e=>by omega);have oM:Hid (Keep (λq=>q=pb∨w.heap.size≤q) w (w8.setCell (pb,o+22) (.slice p8 (N+2) c8))):=xh (((Keep.of_bel _ I4.o).tr (Gu.o.mono λq h=>.inr (aeO.o _ h))).tr ((Keep.setCell w8 pb _ _).mono λq h=>.inl h));clear jB f22 hl8;generalize w8.setCell (pb,o+22) (.slice p8 (N+2) c8)=w9 at *
         obtain⟨cs9,aaq⟩:=e_x (cells.set (o+22) (.slice p8 (N+2) c8));rw[aaq]at HP9;have hl9:cs9.length=cells.length:=by rw[←aaq,List.length_set]
         have c5:w9.cell? (pb,o+5)=some (cs9[o+5]'(by omega)):=by rw[HP9.cell];exact bT _
         have f5:=HP9.frozen;have hw9:=HP9.lt;have ahx:=xh aaq;have ahy:=xh HP9;have ahz:=xh Y2;generalize cs9[o+5]'(by omega)=ajA at *
         clear HP9 Y2 aaq;go_upto_region 20 with fail
         have aar:=ahy.o.setCell (o:=o+5) (.int .u64 E);have GY:=dG ahz.o (Keep.setCell w9 pb (o+5) (.int .u64 E)) (λg' hg' e=>by omega);have uo:Hid (Keep (λq=>q=pb∨w.heap.size≤q) w (w9.setCell (pb,o+5) (.int .u64 E))):=xh (oM.o.tr ((Keep.setCell w9 pb _ _).mono λq h=>.inl h));clear c5 f5 hw9;generalize w9.setCell (pb,o+5) (.int .u64 E)=w10 at *
         have hth:w10.there pb (o+6) 16:=λj hj=>⟨by rw[aar.cell,bT (by simp;omega)];rfl,aar.frozen _⟩;have HTH:=xh hth;have aeP:=xh aar;have aeQ:=xh GY;clear hth aar GY;go_upto_region 21 with(refine wpList_store_mid rfl 38 (.tmp 104) (.tmp 102) rfl pb (o+6) (List.replicate 16 (Value.int .u64 0)).toArray rfl rfl HTH.o (by kernel_rfl) (all_oneCell_toArray (by intro v hv;rw[List.eq_of_mem_replicate hv];rfl)) ?_)
         have Tv:=aeP.o.setCells (o+6) (List.replicate 16 (Value.int .u64 0)) (by simp;omega);have GZ:=Keep.setCells w10 pb (o+6) (List.replicate 16 (Value.int .u64 0));have XA:=dG aeQ.o GZ (λg' hg' e=>by omega);have acw:Hid (Keep (λq=>q=pb∨w.heap.size≤q) w (w10.setCells pb (o+6) (List.replicate 16 (Value.int .u64 0)))):=xh (uo.o.tr (GZ.mono λq h=>.inl h));generalize w10.setCells pb (o+6) (List.replicate 16 (Value.int .u64 0))=yQ at *
         obtain⟨acz,P5⟩:=e_x (splice (cs9.set (o+5) (.int .u64 E)) (o+6) (List.replicate 16 (Value.int .u64 0)));rw[P5]at Tv;have ajB:acz.length=cells.length:=by rw[←P5,length_splice _ _ _ (by simp;omega),List.length_set];exact hl9
         have c21:yQ.cell? (pb,o+6+15)=some (acz[o+6+15]'(by omega)):=by rw[Tv.cell];exact bT _
         have f21:=Tv.frozen;have ajC:=Tv.lt;have ahA:=xh P5;have aeR:=xh Tv;have aeS:=xh XA;generalize acz[o+6+15]'(by omega)=aiU at *
         clear Tv XA P5 GZ;go_wp2
         go_ret2
         refine⟨⟨by rw[HE0.o];rfl,?_,λ_=>⟨.slice p8 (N+2) c8,?_,?_⟩⟩,λh=>absurd HE0.o h⟩
         ·have hk:=acw.o.tr ((Keep.setCell yQ pb (o+6+15) (.int .u64 sp)).mono λq h=>.inl h)
          exact⟨hk.os,hk.tape,hk.output,hk.size,λk hk1 hn=>hk.block k hk1 λh=>by
           rcases h with h|h
           ·exact hn h
           ·omega⟩
         ·have:=dG aeS.o (Keep.setCell yQ pb (o+6+15) (.int .u64 sp)) (λg' hg' e=>by omega)
          rw[HMS.o,HN.o];unfold aQ;exact this
         ·have:=aeR.o.setCell (o:=o+6+15) (.int .u64 sp)
          unfold jX;rw[XH.o,ahx.o,ahA.o,show o+21=o+6+15 from by omega];exact this
     ·rw[if_pos hl]
      have Tu:=λ(W:World) (hW:Bel w W)=>(hld W hW).mono λe w' h=>And.intro (h.2.err hl) h.1;obtain⟨c,hcc⟩:=e_x (jh y.byt);rw[hcc]at hl Tu⊢;have XG:=xh Tu;have hcb:((c:Int)==0)=false:=dK (by omega);have HCN:=xh hl;clear hl hld Tu hcc;go_enter func105,ntmps105
      go_wp2_with (first
       | (go_at_call 183;((with_reducible refine aH HW.o ?_);rintro e w1 ⟨rfl,k1⟩;have bP:=xh k1;clear k1))
       | (go_at_call 185;((with_reducible refine aH (Dq.o w1 bP.o) ?_);rintro e w2 ⟨rfl,hh⟩;subst hh;have c3:=YX.o w1 bP.o;have c4:=HC4.o w1 bP.o;have c7:=(YT.o.bel bP.o).1))
       | (go_at_call 186;((with_reducible refine aH (XG.o w1 bP.o) ?_);rintro e w3 ⟨rfl,k3⟩;have jP:=xh (bP.o.tr k3);clear k3)))
      go_ret2
      exact⟨⟨rfl,Keep.of_bel _ jP.o,λh=>absurd h HCN.o⟩,λ_=>jP.o⟩
 ·rw[if_pos hc]
  have hcb:((c:Int)==0)=false:=dK (by omega);have HC:=xh hc;clear hc hold;go_enter func105,ntmps105;go_wp2_with (go_at_call 183;((with_reducible refine aH HW.o ?_);rintro e w1 ⟨rfl,k1⟩))
  go_ret2
  exact⟨⟨rfl,Keep.of_bel _ k1,λh=>absurd h HC.o⟩,λ_=>k1⟩
theorem Tz(kb:Nat)(s:KV)(iv:Value)(L:List Nd)(nm:ByteArray)(pb o own used mf a1 a2 a3 a4:Nat)(cells:List Value)(q:Option Addr)(qc:Nat)(sv:Value)(zY:Bool)(sp:Int)(uq:List Value)(w:World)(h:DK w kb s iv L)(hb:s.b=mf)(hmf:mf≤1000)(hs:nm.size≤1000000)(hsum:cZ (iD L)≤100000)
 (hP:Blk w pb cells 167)(ho:o+31≤cells.length)(hc22:cells[o+22]?=some (.slice q own qc))(hown:own≤used)(JD:used≤100000)(hpk:pb≠kb)(hroot:isDir L 1=true)
 (hU:∀W,Bel w W→Calls prog 118 #[kb] W (Z.b (.agg (fM a1 used a2 a3 a4).toArray) W))
 (hst:∀W,Bel w W→Calls prog 187 #[sv] W λe w'=>Bel W w'∧(zY=true→∃g c,e=.returned (.tuple #[.slice (g,0) 2 c,.int .u64 sp,(0:Int)])∧(∀j u,uq[j]?=some u→w'.cell? ⟨g,j,none⟩=some u)∧uq.length=516∧(∀u∈uq,u.oneCell'=true))∧(zY=false→e=.returned (.tuple #[(),.int .u64 0,(6:Int)]))) :
 Calls prog 105 #[kb,.pointer (pb,o),nm,sv] w λe w'=>BN w pb o cells (dM L nm.data.toList zY own used mf) (aY L nm.data.toList) uq sp e w':=
 (Bo kb s iv L nm pb o own used mf a1 a2 a3 a4 cells q qc sv zY sp uq w h hb hmf hs hsum hP ho hc22 hown JD hpk hroot hU hst).mono λ_ _ h=>h.1
end
section
open Go.Proofs.Tryz Go.RowKit Go.MapKept Go.Maps
theorem XW(kb tb:Nat)(s:ByteArray)(c:Int)(p:Option Addr)(n cap:Nat)(w:World)(hc:w.cell? (kb,6)=some (.pointer (tb,0)))
 (hf:∀W,Bel w W→Calls prog 95 #[tb,s] W (Z.b (.tuple #[.agg #[.pointer none,.string ⟨#[]⟩,.pointer none],fH c]) W)) :
 Calls prog 55 #[kb,.agg #[s,false,(p,n,cap)]] w (Z.b (fH c) w):=by
 have HF:=xh hf;have HC:=xh hc;clear hf hc;go_enter func55,ntmps55;go_upto_region 1 with fail
 have k1:Bel w (w.alloc (.cells #[s,false,(p,n,cap)] 71)):=Bel.start w _;have B1:=Blk.new w [s,false,(p,n,cap)] 71;generalize w.alloc (.cells #[s,false,(p,n,cap)] 71)=w1 at *
 obtain⟨g3,hg3⟩:=e_x w.heap.size;rw[hg3]at B1⊢;have HB1:=xh B1;have bP:=xh k1;have c0:=B1.c 0 rfl;have c1:=B1.c 1 rfl;have c6:w1.cell? (kb,6)=some (.pointer (tb,0)):=af k1 HC.o;clear k1 B1 hg3;go_upto_region 3 with fail
 have ae0:g3<w1.heap.size:=HB1.o.lt;have hkl:kb<w1.heap.size:=World.block_lt_of_cell? _ _ c6
 go_region_with (first
  | (go_at_call 95;((with_reducible refine aH (HF.o _ (bP.o.drew)) ?_);rintro e w2 ⟨rfl,k2⟩;have iC:Hid (Bel w1 w2):=xh ((Bel.drew (Bel.refl w1)).tr k2);have hu:w1.heap.size≤w2.heap.size:=iC.o.size;clear k2))
  | (go_at_call 95;((with_reducible refine aH (HF.o _ ((bP.o.ac _).drew)) ?_);rintro e w2 ⟨rfl,k2⟩;have B5:=(Blk.new w1 [.pointer none,.string ⟨#[]⟩,.pointer none] 240).bel ((Bel.drew (Bel.refl _)).tr k2);have iC:Hid (Bel w1 w2):=xh (((Bel.start w1 _).tr (Bel.drew (Bel.refl _))).tr k2);have zU:=xh B5;have c50:=B5.c 0 rfl;have c51:=B5.c 1 rfl;have c52:=B5.c 2 rfl;have f5:=B5.frozen;clear k2 B5)))
 all_goals go_wp2
 all_goals go_ret
 all_goals first
  | exact⟨rfl,bP.o.tr (iC.o.ac _)⟩
  | exact⟨rfl,bP.o.tr iC.o⟩
  | exact⟨rfl,bP.o.tr (((iC.o.store (p:=⟨w1.heap.size,0,none⟩) (bM _) _).store (p:=⟨w1.heap.size,1,none⟩) (bM _) _).store (p:=⟨w1.heap.size,2,none⟩) (bM _) _)⟩
theorem Vm(kb tb:Nat)(A:bJ)(T:List Pn)(mi mb:Nat)(s:ByteArray)(is:Bool)(p:Option Addr)(cap:Nat)(L:List Int)(w:World)(h:PT w tb A T mi mb)(hc:w.cell? (kb,6)=some (.pointer (tb,0)))(hkb:¬lg tb A T kb)
 (hbs:BS w p L)(hlen:L.length≤200000)(aay:∀b o,p=some ⟨b,o,none⟩→¬lg tb A T b)(hs:s.size≤1000000)(hmx:eX w) :
 Calls prog 55 #[kb,.agg #[s,is,(p,L.length,cap)]] w λe w'=>Ht w tb A T mi mb (kR mi mb (aJ T) s.data.toList is L) e w':=by
 cases is with
 | true=>
   have hm:=λW (hW:Bel w W)=>TR tb A T mi mb s W (h.bel hW) hs (hmx.bel hW);show Calls _ _ _ _ λe w'=>Ht w tb A T mi mb (Vg mi (aJ T) s.data.toList) e w'
   generalize Vg mi (aJ T) s.data.toList=r at *
   by_cases h0:r.1=0
   ·refine(JM kb tb s _ .nilIface w (λW w'=>∃A' T',kU W tb A T mi mb r.2 A' T' w') rfl hc λW hW=>(hm W hW).mono λe w' k=>k.2 h0).mono ?_
    rintro e w' ⟨rfl,W,hW,A',T',k⟩;exact⟨λh=>absurd h0 h,λ_=>⟨rfl,A',T',k.pt,k.aJ,(Keep.of_bel _ hW).tr k.keep,λq hq=>by
     rcases k.foot q hq with h|h
     ·exact .inl h
     ·exact .inr (bU hW.size h)⟩⟩
   ·refine(JM kb tb s _ (fH r.1) w (λW w'=>Keep (lg tb A T) W w') rfl hc λW hW=>(hm W hW).mono λe w' k=>k.1 h0).mono ?_
    rintro e w' ⟨rfl,W,hW,k⟩;exact⟨λ_=>⟨rfl,(Keep.of_bel _ hW).tr k⟩,λh=>absurd h h0⟩
 | false=>
   have hf:=λW (hW:Bel w W)=>BV tb A T _ s W (h.bel hW).block (h.bel hW).tree hs (hmx.bel hW);have hroot:=h.tree.isRoot;have hnew:=oH (L:=aJ T) (s:=s.data.toList) hroot;have hold:=mD (L:=aJ T) (s:=s.data.toList) hroot;unfold kR;obtain⟨d,nm,n,c,hr⟩:∃d nm n c,az (aJ T) s.data.toList=(d,nm,n,c):=⟨_,_,_,_,rfl⟩;rw[hr]at hnew hold;simp only[hr]at hf hnew hold⊢
   rw[if_neg (by simp)];by_cases hcc:c=0
   ·subst hcc
    rw[if_neg (by simp)];refine TP kb tb A T mi mb s nm p cap L d n w h hc hkb hbs hlen aay (λW hW=>(hf W hW).mono λe w' k=>⟨k.1.trans (by rw[zg,if_pos rfl]),k.2⟩) _ ?_;by_cases hn:n=0
    ·rw[if_pos hn,if_pos hn]
     obtain⟨h1,h2,h3,h4,h5⟩:=hnew rfl hn;exact⟨h1,h2,h3,h4,h5,by rw[lJ]⟩
    ·rw[if_neg hn,if_neg hn]
     have:=hold rfl;rw[lJ]at this;exact⟨this,rfl⟩
   ·rw[if_pos hcc]
    refine(XW kb tb s c p L.length cap w hc λW hW=>(hf W hW).mono λe w' k=>⟨k.1.trans (by rw[zg,if_neg hcc]),k.2⟩).mono ?_;rintro e w' ⟨rfl,k⟩;exact⟨λ_=>⟨rfl,Keep.of_bel _ k⟩,λh=>absurd h hcc⟩
def pY:Pn:=⟨0,⟨#[]⟩,true,[],.slice none 0 0,0,false⟩
theorem Lj(mi mb:Nat)(w:World)(h1:1≤mi)(OY:mi≤100000)(hmb:mb≤100000) :
 PT (((w.alloc (.map #[] 0)).alloc (.cells #[.string ⟨#[]⟩,.pointer none,.map (some w.heap.size),(),(0:Int),false] 234)).alloc (.cells #[.pointer (w.heap.size+1,0),(1:Int),(0:Int),.int .i64 mi,.int .i64 mb] 220)) (w.heap.size+2) ⟨λ_=>w.heap.size+1,λ_=>w.heap.size⟩ [pY] mi mb:=by
 have one:∀(i:Nat) (n:Pn),[pY][i]?=some n→i=0∧n=pY:=λi n h=>by
  cases i with
  | zero=>simp at h;exact⟨rfl,h.symm⟩
  | succ i=>simp at h
 have B1:Blk ((w.alloc (.map #[] 0)).alloc (.cells #[.string ⟨#[]⟩,.pointer none,.map (some w.heap.size),(),(0:Int),false] 234)) (w.heap.size+1) [.string ⟨#[]⟩,.pointer none,.map (some w.heap.size),(),(0:Int),false] 234:=Blk.dF _ _ _ (by simp);have M1:=((Mp.new keyS w).alloc (.cells #[.string ⟨#[]⟩,.pointer none,.map (some w.heap.size),(),(0:Int),false] 234)).alloc (.cells #[.pointer (w.heap.size+1,0),(1:Int),(0:Int),.int .i64 mi,.int .i64 mb] 220);refine⟨⟨?_,?_,?_,?_,?_,?_,?_,?_,?_,?_,?_,by simp⟩,Blk.dF _ _ _ (by simp),h1,Nat.zero_le _,OY,hmb⟩
 ·intro i n hi
  obtain⟨rfl,rfl⟩:=one i n hi;exact B1.alloc _
 ·intro i n hi _
  obtain⟨rfl,rfl⟩:=one i n hi;exact M1
 ·intro i n hi
  obtain⟨rfl,rfl⟩:=one i n hi;exact⟨(λx hx=>by cases hx),.inl ⟨rfl,rfl⟩⟩
 ·intro i j hi hj _;simp at hi hj;omega
 ·intro i j m n hi hj _ _ _
  rw[(one i m hi).1,(one j n hj).1]
 ·intro i j m n g hi hj _ _
  rw[(one i m hi).1,(one j n hj).1]
 ·intro i n hi
  obtain⟨rfl,rfl⟩:=one i n hi;exact bM _
 ·intro i n hi h
  obtain⟨rfl,rfl⟩:=one i n hi;exact absurd rfl h
 ·exact⟨pY,rfl,rfl,rfl,rfl⟩
 ·intro i n hi _ h
  exact absurd (one i n hi).1 h
 ·intro i n hi _ h
  exact absurd (one i n hi).1 h
inductive Ll (mi mb B:Nat) (e:Ending) (w':World):Prop
 | mk (tb:Nat) (A:bJ):e=.returned (.tuple #[tb,.nilIface])→PT w' tb A [pY] mi mb→(∀q,lg tb A [pY] q→B≤q)→Ll mi mb B e w'
theorem IC(mi mb:Nat)(w:World)(h1:1≤mi)(OY:mi≤100000)(hmb:mb≤100000) :
 Calls prog 53 #[.int .i64 mi,.int .i64 mb] w λe w'=>Ll mi mb w.heap.size e w'∧Bel w w':=by
 have hmm:∀w,(Instr.makeMap 232 none).run prog w=.ok (.map (some w.heap.size)) (w.alloc (.map #[] 0)):=λw=>by kernel_rfl
 have hn:¬((mi:Int)<1):=by omega
 go_enter func53,ntmps53;go_wp2
 go_ret2
 refine⟨Ll.mk (w.heap.size+2) ⟨λ_=>w.heap.size+1,λ_=>w.heap.size⟩ rfl (Lj mi mb w h1 OY hmb) ?_,((Bel.start w _).ac _).ac _⟩;rintro q (rfl|⟨i,n,hi,rfl|⟨_,rfl⟩|h⟩)
 ·omega
 ·show w.heap.size≤w.heap.size+1;omega
 ·exact bM _
 ·cases i with
  | zero=>simp at hi;subst hi;cases h
  | succ i=>simp at hi
theorem FW(n:Int)(w:World) :
 Calls prog 54 #[n] w λe w'=>(∃ob:Nat,e=.returned (.pointer (ob,0))∧w.heap.size≤ob∧Blk w' ob [(0:Int),n] 222)∧Bel w w':=by
 go_enter func54,ntmps54;go_wp2
 go_ret
 exact⟨⟨_,rfl,bM _,Blk.new w _ _⟩,Bel.start _ _⟩
theorem Vs(cb:Nat)(fds:Nat)(a b:Value)(w:World)(hc:Blk w cb [.int .i64 fds,a,b] 151)(hf:fds≤1000000) :
 Calls prog 392 #[cb,(1:Int)] w λe w'=>e=.returned (.int .i64 (fds+1:Nat))∧Blk w' cb [.int .i64 (fds+1:Nat),a,b] 151∧Keep (λq=>q=cb) w w':=by
 have c0:=hc.c 0 rfl;have f0:=hc.frozen;have HC:=xh hc;have hl:=hc.lt;clear hc;go_enter func392,ntmps392;go_wp2
 go_ret
 exact⟨rfl,HC.o.setCell (o:=0) _,Keep.setCell _ _ _ _⟩
theorem Vp(ob:Option Addr)(cb:Nat)(fds:Nat)(a b:Value)(w:World)(hc:Blk w cb [.int .i64 fds,a,b] 151)(hf:fds≤1000000) :
 Calls prog 56 #[.pointer ob,.iface 107 (.pointer (cb,0))] w λe w'=>e=.returned (.tuple #[])∧Blk w' cb [.int .i64 (fds+1:Nat),a,b] 151∧Keep (λq=>q=cb) w w':=by
 have hme:∀w,(Go.method 667 107 (.pointer (cb,0)) "tinyos/files.hold").run prog w=.ok (392,.pointer (cb,0)) w:=λw=>by kernel_rfl
 have HH:=xh (Vs cb fds a b w hc hf);clear hc;go_enter func56,ntmps56;go_wp2_with (go_at_call 392;((with_reducible refine aH HH.o ?_);rintro e w1 ⟨rfl,B1,K1⟩))
 go_end0
 exact⟨rfl,B1,K1⟩
theorem sN(kb:Nat)(used lim n:Int)(w:World)(h9:w.cell? (kb,9)=some (.int .i64 used))(h1:w.cell? (kb,1)=some (.int .i64 lim))(hu : -10000000≤used∧used≤10000000)(hn : -10000000≤n∧n≤10000000)(hl : -10000000≤lim∧lim≤10000000) :
 Calls prog 102 #[kb,n] w λe w'=>e=.returned (.bool (decide (used+n≤lim)))∧∃n,w'=w.drewN n:=by
 have hw:IntKind.i64.wrap (used+n)=used+n:=by rw[IntKind.wrap_i64];omega
 by_cases h:used+n≤lim
 ·have hd:decide (used+n≤lim)=true:=by simpa using h
  rw[hd];clear hd;go_enter func102,ntmps102;go_upto_region 1 with fail
  go_quiet (fail)
  go_wp2
  go_ret
  exact⟨rfl,nq,rfl⟩
 ·have hd:decide (used+n≤lim)=false:=by simpa using h
  rw[hd];clear hd;go_enter func102,ntmps102;go_upto_region 1 with fail
  go_quiet (fail)
  go_wp2
  go_ret
  exact⟨rfl,nq,rfl⟩
end
section
open Go.RowKit
structure aF where
 path:ByteArray
 dir:Bool
 p:Option Addr
 cap:Nat
 byt:List Int
def dZ:Nd:=⟨0,⟨#[]⟩,true,[],eU⟩
def bK(mi mb:Nat):List Nd→List aF→Nat×List Nd
 | N,[]=>(0,N)
 | N,f::fs=>if (kR mi mb N f.path.data.toList f.dir f.byt).1≠0 then((kR mi mb N f.path.data.toList f.dir f.byt).1,N)else bK mi mb (kR mi mb N f.path.data.toList f.dir f.byt).2 fs
structure fD where
 a:Int
 b:Int
 c:Int
 d:Int
 e:Int
def fD.okA(l:fD):Bool:=decide (1≤l.a∧l.a≤16∧1≤l.b∧l.b≤1000)
def fD.okB(l:fD):Bool:=decide (0≤l.c∧l.c≤100000∧0≤l.d∧l.d≤100000∧0≤l.e∧l.e≤100000)
def fF:List UInt8:=[47,105,110,105,116]
noncomputable def bD(l:fD)(F:List aF):Nat:=
 if l.okA=false then 6 else if l.okB=false then 6 else if l.d=0 then 12 else
 if (bK l.d.toNat l.e.toNat [dZ] F).1≠0 then(bK l.d.toNat l.e.toNat [dZ] F).1 else
 dM (bK l.d.toNat l.e.toNat [dZ] F).2 fF true 0 0 l.b.toNat
theorem xJ{N M:List Nd}(h:isDir N 1=true):isDir (N++M) 1=true:=by
 obtain⟨x,hx,hd⟩:=qV h;unfold isDir;rw[List.getElem?_append_left (bV hx).1,hx];exact hd
theorem IB{mb:Nat}{N:List Nd}{n:Nat}{b:List Int}(hs:cZ N≤mb)(hr:isDir N 1=true)(h:(qL mb N n b).1=0):cZ (qL mb N n b).2≤mb∧isDir (qL mb N n b).2 1=true∧(qL mb N n b).2.length=N.length:=by
 unfold qL at h⊢;cases hx:N[n-1]? with
 | none=>rw[hx]at h;cases h
 | some x=>
   rw[hx]at h;simp only at h⊢
   by_cases h1:x.dir=true
   ·rw[if_pos h1]at h;cases h
   ·rw[if_neg h1]at h⊢
    by_cases h2:0<b.length∧mb<cZ N+(b.length-x.byt.length)
    ·rw[if_pos h2]at h;cases h
    ·rw[if_neg h2]
     refine⟨?_,?_,by simp⟩
     ·have:=nI N (n-1) x {x with byt:=b++x.byt.drop b.length} hx
      simp only[List.length_append,List.length_drop]at this
      show cZ (N.set (n-1) _)≤mb
      by_cases h0:0<b.length
      ·have h3:¬mb<cZ N+(b.length-x.byt.length):=λh=>h2 ⟨h0,h⟩
       omega
      ·omega
     ·show isDir (N.set (n-1) _) 1=true
      obtain⟨y,hy,Ej⟩:=qV hr;unfold isDir;by_cases e:n-1=1-1
      ·rw[←e]at hy
       rw[hx]at hy;cases hy
       exact absurd Ej h1
      ·rw[List.getElem?_set_ne e,hy]
       exact Ej
theorem Qu{mi mb:Nat}{N:List Nd}{path:List UInt8}{is:Bool}{b:List Int}(hs:cZ N≤mb)(hr:isDir N 1=true)(h:(kR mi mb N path is b).1=0) :
 cZ (kR mi mb N path is b).2≤mb∧isDir (kR mi mb N path is b).2 1=true∧(kR mi mb N path is b).2.length≤N.length+1:=by
 unfold kR at h⊢;cases is with
 | true=>
   simp only[if_true]at h⊢
   unfold Vg at h⊢;split at h
   ·rename_i h1;exact absurd h h1
   ·rename_i h1
    rw[if_neg h1];split at h
    ·cases h
    ·rename_i h2
     rw[if_neg h2];split at h
     ·cases h
     ·rename_i h3
      rw[if_neg h3];refine⟨?_,xJ hr,by simp⟩;show cZ (N++_)≤mb
      rw[vX];exact hs
 | false=>
   simp only[Bool.false_eq_true,if_false]at h⊢
   split at h
   ·rename_i h1;exact absurd h h1
   ·rename_i h1
    rw[if_neg h1];split at h
    ·rename_i h2
     rw[if_pos h2];split at h
     ·cases h
     ·rename_i h3
      rw[if_neg h3];obtain⟨k1,k2,k3⟩:=IB (mb:=mb) (N:=N++[⟨(az N path).1,(az N path).2.1,false,[],eU⟩]) (by rw[vX];exact hs) (xJ hr) h;exact⟨k1,k2,by rw[k3];simp⟩
    ·rename_i h2
     rw[if_neg h2];obtain⟨k1,k2,k3⟩:=IB hs hr h;exact⟨k1,k2,by omega⟩
end
end Go.Proofs.YtcnjjchlebmfiaaGreatDoor
namespace Go.Proofs.YtcnjjchlebmfiaaGreatDoor
section
open Go.Proofs.Tryz Go.ChangeShapes Go.WideShapes Go.ChangeAt Go.RowKit
theorem own:ownKnob prog.godebug=none:=by kernel_rfl
theorem laidOut:laidOutB prog=true:=by kernel_rfl
theorem uK{H:Type}{enc:TypeId×Value→H}{W W':World}(hb:Bel W W'):∀{ts:List TypeId} {vs:List Value} {ds:List (DataW H)} {ps:List MemPlace},
 (∀t∈ts,prog.readableRec t=true∧t<prog.types.size)→DataW.TrodAll enc prog W 0 (λ_=>true) true ts vs ds ps→(∀x∈ps,x.block<W.heap.size)→
 DataW.TrodAll enc prog W' 0 (λb=>decide (b<W.heap.size)) true ts vs ds ps
 | [],vs,ds,ps,_,h,_=>by
   obtain⟨rfl,rfl,rfl⟩:=trodAll_nil h;exact trodAll_mk0
 | t::ts,vs,ds,ps,hr,h,hlt=>by
   obtain⟨v,vs',d,ds',p,q,rfl,rfl,rfl,h1,h2⟩:=trodAll_cons h;exact trodAll_cons_mk (Below.trod laidOut (hr t (by simp)).1 (hr t (by simp)).2 h1 hb (λx hx=>hlt x (by simp[hx]))) (uK hb (λu hu=>hr u (by simp[hu])) h2 (λx hx=>hlt x (by simp[hx])))
theorem XN{H:Type}{enc:TypeId×Value→H}{f:Func}{s:ChangeSpec}{W W':World}{args:Array Value}{ds:List (DataW H)}{before:List MemPlace}
 (hW:DataW.Whole enc prog f.params.toList s.vars false W args.toList ds [] before)(hv:s.vars=[])(hres:f.resultTypes = #[4])
 (hr:∀t∈f.params.toList,prog.readableRec t=true∧t<prog.types.size)(hs:s.fn H (ds++[])={results:=[.lit (.bool true)],args:=ds})(hb:Bel W W') :
 s.post enc prog f false true false false W args (.bool true) W':=by
 have hW':=hW;obtain⟨p,q,hA,hV,hbef,hfz,hnd⟩:=hW;have hlt:∀x∈p,x.block<W.heap.size:=λx hx=>hW'.lt x (by rw[hbef];simp[hx]);refine⟨ds,[],before,[],p,[],hW',?_,?_,?_,Below.frame hb _,λh=>by cases h⟩
 ·rw[hs,hres];exact trodAll_mk1 (shut_bool underlying4 true)
 ·rw[hs];exact uK hb hr hA hlt
 ·rw[hs,hv];rfl
theorem adr:prog.globalNamed "errors.errorType" = some 0:=by kernel_rfl
theorem ads:(prog.cutTypes.find? (·.1== "internal/reflectlite.rtype")).map (·.2)=some 205:=by kernel_rfl
theorem oneRow:((List.range prog.types.size).filter λt=>prog.rowNamed t [101,114,114,111,114])=[46]:=by kernel_rfl
theorem TK{laid:List (String×DataW Unit)}(hm:("errors.errorType",Rows.laid_errors_errorType)∈laid){W:World}(h:handlesMet prog laid W):ErrVar W:=by
 obtain⟨name,u,ty,e1,e2,e3,e4,e5⟩:=h _ hm;have en:name=[101,114,114,111,114]:=(Option.some.inj e1).symm;subst en;obtain rfl:=Option.some.inj (ads.symm.trans e2);have hm:ty∈(List.range prog.types.size).filter λt=>prog.rowNamed t [101,114,114,111,114]:=List.mem_filter.2 ⟨List.mem_range.2 e3,e4⟩;rw[oneRow]at hm;obtain rfl:=List.mem_singleton.1 hm;have hh:typeHandle prog 46=.pointer (6,46):=by kernel_rfl
 rw[hh]at e5;have:=World.var?_cell adr e5 0
 simpa [ErrVar]using this
end
section
open Go.Proofs.Tryz Go.ChangeShapes Go.WideShapes Go.ChangeAt Go.RowKit Go.Deep
section
variable {H:Type} {enc:TypeId×Value→H} {P:Program} {w:World} {base:Nat} {spare:Nat→Bool} {held:Bool}
theorem Iu{t e:TypeId}{fs:Array Field}{fuel:Nat}{cs:List Value}{x:DataW H×List MemPlace}(ht:P.underlying t=some (.slice e))(he:P.underlying e=some (.struct fs))
 (hone:oneCellFields P fs=true)(hC:P.cellsOf e=fs.size)(h:DataW.trod enc P w base spare held fuel t cs=some x) :
 (cs=[.slice none 0 0]∧x=(.nil,[]))∨
 ∃(a:Addr) (len cap m:Nat) (D:Nat→DataW H),cs=[.slice (some a) len cap]∧len≤cap∧cap≤maxLen∧m=(if spare a.block then cap else len)∧
  x.1=.slice ((List.range len).map D) ((List.range (m-len)).map λj=>D (len+j))∧
  ∀i,i<m→∃(ys:List (DataW H×List MemPlace)) (n:Nat),D i=.agg (ys.map (·.1))∧ys.length=fs.size∧
   ∀(j:Nat) (f:Field),fs[j]?=some f→∃(v:Value) (y:DataW H×List MemPlace),w.cell? (a.add (i*fs.size+j))=some v∧ys[j]?=some y∧DataW.trod enc P w base spare held n f.type [v]=some y:=by
 rcases open_slice ht h with h0|⟨a,len,cap,m,n,D,Pl,hcs,hb,hl,hm,hmm,hx,hi⟩
 ·exact .inl h0
 ·refine .inr ⟨a,len,cap,m,D,hcs,hl,hm,hmm,by rw[hx],λi him=>?_⟩
  obtain⟨cs',hc,ht'⟩:=hi i him;rw[hC]at hc;obtain⟨ys,n',hn',hy,hlen,hyl,hf⟩:=DataW.trod_struct he ht';obtain⟨_,hcl,hat⟩:=World.cells?_some hc;simp only[Prod.mk.injEq]at hy
  refine⟨ys,n',hy.1,hyl,λj f hj=>?_⟩;obtain⟨ho,hk⟩:=hone_of hone j f hj;have hjl:j<fs.size:=(Array.getElem?_eq_some_iff.1 hj).1;have hcell:=hat j hjl;have hv:cs'[j]?=some (cs'[j]'(by omega)):=bT (by omega);have h1:=hf j f hj;rw[ho,hk]at h1;have hone':(cs'.drop j).take 1=[cs'[j]'(by omega)]:=by
   rw[List.drop_eq_getElem_cons (by omega)];rfl
  rw[hone']at h1;have hys:ys[j]?=some (ys[j]'(by omega)):=bT (by omega);refine⟨_,_,?_,hys,h1.trans hys⟩;rw[←Go.Deep.add_add,hcell,hv]
end
theorem U9{n:Int}(h:(Lit.int .u8 n).wf=true):0≤n∧n≤255:=by
 simp[Lit.wf,IntKind.min,IntKind.max,IntKind.signed,IntKind.bits]at h;omega
section
variable {H:Type} {enc:TypeId×Value→H} {W:World}
theorem Aj{t:TypeId}{k:IntKind}{n:Nat}{c:Value}{y:Option (DataW H×List MemPlace)}(hu:prog.underlying t=some (.int k))(h:DataW.trod enc prog W 0 (λ_=>true) true n t [c]=y)(hy:y.isSome=true):∃z,c=.int k z:=by
 obtain⟨y',rfl⟩:=Option.isSome_iff_exists.1 hy;obtain⟨z,hz,_⟩:=DataW.trod_int hu h;exact⟨z,List.singleton_inj.1 hz⟩
end
end
section
open Go.Proofs.Tryz Go.ChangeShapes Go.WideShapes Go.ChangeAt Go.RowKit
theorem O3:prog.globalNamed "tinyos/machine.fixed" = some 2:=by kernel_rfl
theorem Zk:(prog.globals[2]?).map (·.type)=some 403:=by kernel_rfl
theorem Zl:(Rows.laid_tinyos_machine_fixed:DataW Unit)=.agg (nJ.map λq=>.agg [.lit (.int .i64 q.1),.lit (.int .i64 q.2.1),.lit (.int .u64 q.2.2)]):=rfl
theorem take1{c:List Value}{k:Nat}{v:Value}(h:(c.drop k).take 1=[v]):c[k]?=some v:=by
 have:=congrArg (·[0]?) h
 simpa [List.getElem?_take,List.getElem?_drop]using this
theorem II{w:World}{m:Nat}{c:List Value}{p:List MemPlace}{q:Nat×Nat×Int}
 (h:DataW.trod (λ_=>()) prog w 0 (λ_=>true) false m 402 c=some (.agg [.lit (.int .i64 q.1),.lit (.int .i64 q.2.1),.lit (.int .u64 q.2.2)],p)):c=[.int .i64 q.1,.int .i64 q.2.1,.int .u64 q.2.2]:=by
 obtain⟨y0,y1,y2,n,hx,hl,h0,h1,h2⟩:=Deep.trod_struct3 underlying402 h;simp only[Prod.mk.injEq,DataW.agg.injEq,List.cons.injEq,and_true]at hx
 obtain⟨⟨e0,e1,e2⟩,_⟩:=hx;obtain⟨z0,c0,r0,_⟩:=DataW.trod_int underlying3 h0;obtain⟨z1,c1,r1,_⟩:=DataW.trod_int underlying3 h1;obtain⟨z2,c2,r2,_⟩:=DataW.trod_int underlying37 h2;rw[r0]at e0;rw[r1]at e1;rw[r2]at e2;simp only[DataW.lit.injEq,Lit.int.injEq,true_and]at e0 e1 e2
 have a0:=take1 c0;have a1:=take1 c1;have a2:=take1 c2;have hl3:c.length=3:=hl.trans (by kernel_rfl);rw[←e0]at a0;rw[←e1]at a1;rw[←e2]at a2
 match c,hl3 with
 | [x,y,z],_=>
   have b0:some x=some (Value.int .i64 (q.1:Int)):=a0;have b1:some y=some (Value.int .i64 (q.2.1:Int)):=a1;have b2:some z=some (Value.int .u64 q.2.2):=a2;rw[Option.some.inj b0,Option.some.inj b1,Option.some.inj b2]
theorem QB{W:World}{g':Nat}{t':TypeId}{cs:Array Value}{fuel:Nat}{p:List MemPlace}(hg':prog.globalNamed "tinyos/machine.fixed" = some g')(ht':(prog.globals[g']?).map (·.type)=some t')(hvar:W.var? prog "tinyos/machine.fixed" = some cs)(hd:DataW.trod (λ_=>()) prog W 0 (λ_=>true) false fuel t' cs.toList=some (Rows.laid_tinyos_machine_fixed,p)):iG W:=by
 obtain rfl:=Option.some.inj (O3.symm.trans hg');obtain rfl:=Option.some.inj (Zk.symm.trans ht');have hcell:=λi=>World.var?_cell O3 hvar i;rw[Zl]at hd;obtain⟨xs,m,_,hx,hl,hxl,hel⟩:=DataW.trod_array underlying403 hd;have hxm:xs.map (·.1)=nJ.map λq=>(DataW.agg [.lit (.int .i64 q.1),.lit (.int .i64 q.2.1),.lit (.int .u64 q.2.2)]:DataW Unit):=by
  have:=congrArg Prod.fst hx
  simpa using this.symm
 have hch:∀i,i<8→∀q,nJ[i]?=some q→(cs.toList.drop (i*3)).take 3=[.int .i64 q.1,.int .i64 q.2.1,.int .u64 q.2.2]:=by
  intro i hi q hq;have h1:=hel i hi;rw[show prog.cellsOf 402=3 from by kernel_rfl]at h1;have h2:=congrArg (·[i]?) hxm;simp only[fA,hq,Option.map_some]at h2
  cases hxi:xs[i]? with
  | none=>rw[hxi]at h2;cases h2
  | some y=>
    rw[hxi]at h1 h2;simp only[Option.map_some,Option.some.injEq]at h2
    obtain⟨d,pp⟩:=y;simp only at h2
    subst h2;exact II h1
 have hlt:2<W.heap.size:=by
  have h0:=hcell 0;have h1:=hch 0 (by omega) _ rfl;have h2:=congrArg (·[0]?) h1;simp only[List.getElem?_take,List.getElem?_drop,Nat.zero_mul,Nat.zero_add,if_pos (show 0<3 by omega),Array.getElem?_toList]at h2
  rw[h2]at h0;have:=World.block_lt_of_cell? _ _ h0
  simpa using this
 refine⟨λj v hv=>?_,hlt⟩;rw[Nat.zero_add,hcell j,←hv];have hj:j<24:=by have:=(bV hv).1;simpa [Az,nJ]using this
 have e:j=(j/3)*3+j%3:=by omega
 have hf:=fP (λq:Nat×Nat×Int=>[Value.int .i64 q.1,.int .i64 q.2.1,.int .u64 q.2.2]) 3 nJ (λ_ _=>rfl) (j/3) (j%3) (by omega);rw[←e]at hf;show cs[j]?=(nJ.flatMap _)[j]?
 rw[hf];have hq:j/3<nJ.length:=by show j/3<8;omega
 rw[bT hq];have h1:=congrArg (·[j%3]?) (hch (j/3) (by omega) _ (bT hq));simp only[List.getElem?_take,List.getElem?_drop,if_pos (show j%3<3 by omega),←e,Array.getElem?_toList]at h1
 rw[h1];rfl
theorem Zm:((begin prog (λ_ _=>0) default).world.heap[3]?).bind Obj.row?=some (#[.int .i64 0],3):=by kernel_rfl
theorem intCells:prog.cellTypes prog.depth 3=some [3]:=by kernel_rfl
theorem QC{W:World}(h:W.ShapedOpen prog):eX W:=by
 obtain⟨cs,hh,hs,hr⟩:=h.1 _ _ _ (of_decide_eq_true (by kernel_rfl)) Zm;obtain⟨ts,hts,_,hall⟩:=hr (by kernel_rfl);rw[intCells]at hts;cases hts
 have h1:0<cs.size:=by rw[hs];decide
 obtain⟨u,hu,hok⟩:=hall 0 cs[0] (by simp[h1]);have:u=3:=by simpa using hu.symm
 subst this;have hc:W.cell? (3,0)=some cs[0]:=by simp[World.cell?,hh,h1]
 generalize cs[0]=v at hok hc;cases v with
 | int k n=>
   simp only[Cell.ok,underlying3]at hok
   obtain⟨rfl,_⟩:=hok;exact⟨n,hc⟩
 | _=>simp[Cell.ok,underlying3]at hok
def putCells(cs:Array Value):Obj→Obj
 | .cells _ t frozen=>.cells cs t frozen
 | o=>o
def Zn:List Value:=[128,191,160,191,128,159,144,191,128,143,0,0,0,0,0,0,0,0,0,0,0,0,0,0,0,0,0,0,0,0,0,0].map (Value.int .u8)
def abE:List Value:=Go.Pinned.utf8FirstZ.map λ(n:Nat)=>Value.int .u8 (n:Int)
end
end Go.Proofs.YtcnjjchlebmfiaaGreatDoor
