/-.-/
import Derived.Test.YtcnjjchlebmfiaaGreatDoorP10
import Derived.Test.YtcnjjchlebmfiaaGreatDoorP13
import Derived.Deep.RegionHeldLaw
set_option linter.unusedVariables false
set_option linter.unusedSimpArgs false
set_option maxRecDepth 100000
set_option maxHeartbeats 16000000
namespace Go.Proofs.YtcnjjchlebmfiaaGreatDoor
section
open Go.Proofs.Tryz Go.RowKit
theorem BS.gu{w w':World}{S:Nat→Prop}{p:Option Addr}{L:List Int}(h:BS w p L)(k:Keep S w w')(hs:0<L.length→∀b o,p=some ⟨b,o,none⟩→¬S b):BS w' p L:=
 ⟨h.1,λh0=>by
   obtain⟨b,o,h1,h2,h3⟩:=h.2 h0;exact⟨b,o,h1,Nat.lt_of_lt_of_le h2 k.size,h3.keep k (λ_=>hs h0 b o h1)⟩⟩
theorem eB{w:World}{base g cap n size j:Nat}{e:TypeId}{xs:List Value}(h:w.ownsRow base e size (.slice (g,0) n cap) n xs)(hj:j<xs.length)(v:Value):(w.setCell (g,j) v).ownsRow base e size (.slice (g,0) n cap) n (xs.set j v):=by
 refine⟨by rw[List.length_set];exact h.1,?_⟩;rcases h.2 with⟨h2,_⟩|⟨g2,c2,cur,h2,hg,hb,hn,hc,hs,ht⟩
 ·cases h2
 ·cases h2
  refine .inr ⟨g,cap,cur.setIfInBounds j v,rfl,hg,?_,hn,hc,by simpa using hs,?_⟩
  ·simp only[World.setCell,Array.getElem?_modify,hb]
   simp
  ·rw[Array.toList_setIfInBounds,←ht,List.take_set]
theorem wK:∀(k i:Nat) (L:List Nd) (x:Nd) (bv:Value) (B:List Int),L[i]?=some x→bE k (L.set i {x with byt:=B,bv:=bv})=(bE k L).set (i*5+4) bv
 | k,i,[],x,bv,B,h=>by simp at h
 | k,0,n::L,x,bv,B,h=>by
   simp at h
   subst h;rfl
 | k,i+1,n::L,x,bv,B,h=>by
   have ih:=wK (k+1) i L x bv B (by simpa using h);rw[List.set_cons_succ,bE,bE,ih,show(i+1)*5+4=(n.cells k).length+(i*5+4)from by simp[Nd.cells];omega,List.set_append_right _ _ (by omega)];simp
theorem KP(L:List Nd)(i:Nat)(x:Nd)(bv:Value)(B:List Int):fA (L.set i {x with byt:=B,bv:=bv})=(fA L).set i {x.sk with byt:=B}:=by
 unfold fA;rw[List.map_set];rfl
theorem pU(L:List Nd):bN (fA L)=(aN L).sum:=by
 unfold bN fA aN;rw[List.map_map];rfl
theorem DK.iq{w:World}{kb:Nat}{s:KV}{iv:Value}{L:List Nd}{g cap i:Nat}{x:Nd}{bv:Value}{B:List Int}(h:DK w kb s iv L)(hiv:iv=.slice (g,0) L.length cap)(hx:L[i]?=some x)(hr:Rw w bv B)(hg:∀q,bv.ownBlock=some q→kb≤q) :
 DK (w.setCell (g,i*5+4) bv) kb s iv (L.set i {x with byt:=B,bv:=bv}):=by
 have hil:=(bZ hx).1;have hgb:∃cur,Blk w g cur 252:=by
  rcases h.row.2 with⟨h2,_⟩|⟨g2,c2,cur,h2,_,hb,_⟩
  ·rw[hiv]at h2;cases h2
  ·rw[hiv]at h2;cases h2
   exact⟨cur.toList,by unfold Blk;simpa using hb⟩
 obtain⟨cur,hgb⟩:=hgb;have hk:Keep (λq=>q=g) w (w.setCell (g,i*5+4) bv):=Keep.setCell w g _ _;refine⟨?_,?_,λn hn=>?_,by simpa using h.few,by simpa using h.one⟩
 ·rw[List.length_set]
  exact h.blk.keep hk (λe=>hgb.ne h.blk (by decide) e.symm)
 ·rw[wK 0 i L x bv B hx,List.length_set]
  have:=h.row;rw[hiv]at this⊢;exact eB this (by rw[pK];omega) bv
 ·rcases List.mem_or_eq_of_mem_set hn with hn|rfl
  ·refine⟨(h.aN n hn).1.keep hk λq hq e=>?_,(h.aN n hn).2⟩
   subst e;obtain⟨_,c2,hb⟩:=(h.aN n hn).1.lt hq;exact hb.ne hgb (by decide) rfl
  ·refine⟨hr.keep hk λq hq e=>?_,hg⟩
   subst e;obtain⟨_,c2,hb⟩:=hr.lt hq;exact hb.ne hgb (by decide) rfl
theorem qF(b old:List Int)(zs:List Value)(N:Nat)(hz:zs.length=N)(h1:b.length≤N)(h2:old.length≤N)(h3:N=b.length∨N=old.length) :
 b.map (Value.int .u8)++(old.map (Value.int .u8)++zs.drop old.length).drop b.length=(b++old.drop b.length).map (Value.int .u8):=by
 rw[List.map_append];congr 1
 rcases h3 with h3|h3
 ·rw[List.drop_of_length_le (by simp;omega),List.drop_of_length_le (by omega)];rfl
 ·rw[show zs.drop old.length=[]from List.drop_of_length_le (by omega),List.append_nil,List.map_drop]
theorem ET(N:List Nd)(i:Nat)(x:Nd)(h:N[i]?=some x):N.set i {x with byt:=[]++x.byt.drop 0}=N:=by
 obtain⟨hi,he⟩:=bZ h;have:({x with byt:=[]++x.byt.drop 0}:Nd)=N[i]:=by rw[he];simp
 rw[this];exact List.set_getElem_self hi
structure AtD(w:World)(kb:Nat)(s:KV)(mb:Nat)(r:Nat×List Nd)(b:List Int)(w1:World)(iv:Value)(L:List Nd)(n:Nat):Prop where
 dk:DK w1 kb s iv L
 pos:1≤n
 le:n≤L.length
 res:r=oG mb (fA L) n b
 keep:Keep (λq=>kb≤q) w w1
 sum:bN (fA L)≤mb
theorem IV(kb:Nat)(s:KV)(iv:Value)(L:List Nd)(mi mb:Nat)(nm x:ByteArray)(p:Option Addr)(EU:Nat)(b:List Int)(d n:Nat)(w:World)(h:DK w kb s iv L)(hd:s.d=mi)(Kk:mi≤100000)(he:s.e=mb)(hmb:mb≤100000)(hpv:s.pv=.slice none 0 0)(hov:s.ov=.slice none 0 0)
 (hbs:BS w p b)(hbl:b.length≤200000)(hbk:0<b.length→∀q o,p=some ⟨q,o,none⟩→q<kb)(hsum:bN (fA L)≤mb)(hw:Calls prog 183 #[kb,nm] w (Z.b (.tuple #[.int .i64 d,x,.int .i64 n,(0:Int)]) w))
 (r:Nat×List Nd)(hr:if n=0 then r=(if mi≤L.length then(12,fA L)else oG mb (fA L++[⟨d,x,false,[],dM⟩]) (L.length+1) b)else n≤L.length∧r=oG mb (fA L) n b) :
 Calls prog 104 #[kb,nm,false,(p,b.length,EU)] w λe w'=>tZ w kb s r e w':=by
 obtain⟨g,cap,hiv,ht,hg⟩:=h.tree;have qR:=h.few;have HW:=xh hw;have HDK:=xh h;have Zv:=xh hiv;have XJ:=xh hbs;have uJ:=xh hbk;have HR:=xh hr;have aaJ:=xh hsum;have TA:=xh hpv;have VN:=xh hov;have HD:=xh hd;have HE:=xh he;clear hw h hr hiv ht hbs hbk hsum hpv hov hd he;go_enter func104,ntmps104
 go_upto_if 34 with(go_at_call 183;((with_reducible refine au HW.o ?_);rintro e w1 ⟨rfl,k1⟩;have bG:=xh k1;clear k1))
 go_cut [11] (λs11 wx=>∃n1:Nat,s11=.int .i64 n1∧Hid (∃OV L1,AtD w kb s mb r b wx OV L1 n1))
 case first=>
  by_cases hn:n=0
  ·have hr:=HR.o
   rw[if_pos hn]at hr;subst hn;have c7:w1.cell? (kb,7)=some (.slice (g,0) L.length cap):=by rw[←Zv.o];exact(HDK.o.bel bG.o).blk.cell 7
   have c3:w1.cell? (kb,3)=some (.int .i64 (mi:Int)):=by rw[←HD.o];exact(HDK.o.bel bG.o).blk.cell 3
   by_cases hm:mi≤L.length
   ·rw[if_pos hm]at hr
    have HRR:=xh hr;clear hr;go_upto_region 7 with fail
    go_quiet (fail)
    go_wp2
    go_ret
    exact⟨by rw[HRR.o];rfl,Keep.of_bel _ (ah bG.o nq),λh=>by rw[HRR.o]at h;cases h⟩
   ·rw[if_neg hm]at hr
    have HRR:=xh hr;have HM:=xh λiv L' (W:World) hB hr=>Eo kb s iv L' W hB hr d x false;clear hr;go_upto_region 7 with fail
    go_quiet (fail)
    have kd:Bel w1 (w1.drewN nq):=ah (Bel.refl _) nq;generalize w1.drewN nq=wd at *
    have gJ:=xh (bG.o.tr kd);have xz:=xh (HDK.o.bel gJ.o);clear kd c7 c3;go_wp2_with (go_at_call 184;((with_reducible refine au (HM.o iv L wd xz.o.blk xz.o.row qR) ?_);rintro e w2 ⟨rfl,zU,B2,R2,K2⟩))
    go_meet
    exact⟨L.length+1,rfl,xh ⟨zU,_,xz.o.made d x false (by omega) B2 R2 K2,by omega,by simp,by rw[HRR.o,CK];rfl,(Keep.of_bel _ gJ.o).tr (K2.mono λq hq=>by
     rcases hq with rfl|hq
     ·exact bH _
     ·rw[Zv.o]at hq;cases hq;show kb≤g;omega),by rw[CK,sQ];exact aaJ.o⟩⟩
  ·have hr:=HR.o
   rw[if_neg hn]at hr;obtain⟨r1,r2⟩:=hr;have hnb:((n:Int)==0)=false:=bK (by omega);have HAT:Hid (∃OV L1,AtD w kb s mb r b w1 OV L1 n):=xh ⟨iv,L,HDK.o.bel bG.o,by omega,r1,r2,Keep.of_bel _ bG.o,aaJ.o⟩;clear r2 hn;go_wp2_with fail
   go_meet
   exact⟨n,rfl,HAT⟩
 case rest=>
  obtain⟨n1,rfl,HAT⟩:=hcut;obtain⟨OV,L1,hat⟩:=HAT.o;obtain⟨g1,mV,aaK,ht1,hg1⟩:=hat.dk.tree;have aep:=hat.dk.few;have h1:=hat.pos;have h2:=hat.le;have hin:=qC kb g1 mV L1 wc ht1 n1 h1 h2 (by omega);have hlt:n1-1<L1.length:=by omega
  have hy:=bP hlt;have hyb:=hat.dk.aN L1[n1-1] (List.getElem_mem hlt);have hres:=hat.res;unfold oG at hres;rw[show(fA L1)[n1-1]?=some (L1[n1-1]).sk from by unfold fA;rw[dA,hy];rfl]at hres;simp only at hres
  have hrg:=ht1.2.2 (n1-1) L1[n1-1] hy;generalize L1[n1-1]=y at *
  obtain⟨q,c,hbv,hbc,_,hqn⟩:=hyb.1.slice;have c3:wc.cell? (g1,(n1-1)*5+3)=some (.bool y.dir):=hrg 3 _ rfl;have c4:wc.cell? (g1,(n1-1)*5+4)=some (.slice q y.byt.length c):=by rw[←hbv];exact hrg 4 _ rfl
  have c7:wc.cell? (kb,7)=some (.slice (g1,0) L1.length mV):=ht1.1;have hcl:=ht1.2.1;have EO:=xh hin;have HA:=xh hat;have HY:=xh hy;have EW:=xh aaK;have KM:=xh hyb;have jE:=xh hbv;have HT1:=xh ht1;have hn1:(0:Int)≤((n1-1:Nat):Int):=by omega
  have hn2:((n1-1:Nat):Int)<(L1.length:Int):=by omega
  clear hin hat hy aaK hyb hbv ht1 hrg hqn;cases Ar:y.dir with
  | true=>
    have HRR:Hid (r.1=11):=xh (by rw[hres,if_pos (show y.sk.dir=true from Ar)]);rw[Ar]at c3;clear hres Ar c4;go_wp2_with (go_at_call 185;((with_reducible refine au EO.o ?_);rintro e w2 ⟨rfl,hh⟩;subst hh))
    go_ret
    exact⟨by rw[HRR.o];rfl,HA.o.keep,λh=>by rw[HRR.o]at h;cases h⟩
  | false=>
    rw[if_neg (by rw[show y.sk.dir=false from Ar];simp)]at hres;rw[Ar]at c3;have CL:=xh hres;clear hres Ar;have hsm:=HA.o.sum;rw[pU]at hsm;have Zh:wc.cell? (kb,5)=some (.slice none 0 0):=by rw[←TA.o];exact HA.o.dk.blk.cell 5
    have c6':wc.cell? (kb,6)=some (.slice none 0 0):=by rw[←VN.o];exact HA.o.dk.blk.cell 6
    have HU:Hid (Calls prog 118 #[kb] wc λe w'=>e=.returned (.agg (gy 0 0 0 L1.length (aN L1).sum).toArray)∧Bel wc w'):=xh (yM kb g1 mV L1 wc HT1.o [] none none 0 0 0 Zh (bH _) (λi n h=>by simp at h) c6'
     (λn hn=>by obtain⟨q,c,h,_⟩:=(HA.o.dk.aN n hn).1.slice;exact⟨q,c,h⟩) (by simp) (by omega) (by simp) (by omega) (by omega))
    clear Zh c6';obtain⟨tot,htot⟩:=e_x ((aN L1).sum);rw[htot]at HU hsm;have Nk:=xh htot;have hyl:y.byt.length≤tot:=by
     have:=kX (fA L1) (n1-1) y.sk {y.sk with byt:=[]} (by unfold fA;rw[dA,HY.o];rfl);rw[pU,htot]at this;simp[Nd.sk]at this
     omega
    have c54:wc.cell? (kb,4)=some (.int .i64 (mb:Int)):=by rw[←HE.o];exact HA.o.dk.blk.cell 4
    clear htot
    go_upto_region 14 with(first
     | (go_at_call 185;((with_reducible refine au EO.o ?_);rintro e w2 ⟨rfl,hh⟩;subst hh))
     | (go_at_call 118;((with_reducible refine au HU.o ?_);rintro e w3 ⟨rfl,k3⟩))
     | (refine aG rfl 159 (.tmp 14) (.tmp 62) rfl rfl w3.heap.size (gy 0 0 0 L1.length tot) (gy 0 0 0 0 0) 159 (Blk.new w3 _ _) rfl rfl (by kernel_rfl) rfl (by intro v hv;simp[gy]at hv;rcases hv with rfl|rfl|rfl|rfl|rfl<;>rfl) ?_;intro w4 B4 K4))
    have kc:Bel wc w4:=k3.tr ((Below.aF w3 _).trans (K4.below _ (by simp) (λk hk=>by omega)));have acL:wc.heap.size≤w3.heap.size:=k3.size;obtain⟨g14,hge⟩:=e_x w3.heap.size;rw[hge]at B4 acL⊢;have iY:=xh B4.out;have vW:=xh kc;have Zi:=aa kc c4;have Tk:=aa kc c7;have UB:=aa kc c54;have cu:=B4.out.c 4 rfl;clear B4 K4 kc k3 hge c3 c4 c7 c54;by_cases hlo:b.length<y.byt.length
    ·by_cases hb:0<b.length
     ·have hw1:IntKind.i64.wrap ((tot:Int)-(y.byt.length:Int))=(tot:Int)-(y.byt.length:Int):=by rw[IntKind.wrap_i64];omega
      have hw2:IntKind.i64.wrap ((tot:Int)-(y.byt.length:Int)+(y.byt.length:Int))=(tot:Int)-(y.byt.length:Int)+(y.byt.length:Int):=by rw[IntKind.wrap_i64];omega
      have hle:¬((mb:Int)<(tot:Int)-(y.byt.length:Int)+(y.byt.length:Int)):=by omega
      go_upto_region 18 with fail
      go_quiet (fail)
      have IW:Hid (Bel w4 (w4.drewN nq)):=xh (ah (Bel.refl _) nq);generalize w4.drewN nq=wd at *
      obtain⟨zs,hzl,hmk⟩:=lF y.byt.length (by omega);have CO:=λW=>hmk ((y.byt.length:Nat):Int) W rfl;have oH:=xh hzl;clear hmk hzl;have QI:wd.cell? (kb,7)=some (.slice (g1,0) L1.length mV):=aa IW.o Tk;clear cu UB Zi Tk hw1 hw2 hle;go_upto_region 21 with fail
      have k5:Bel wc (wd.alloc (.cells zs.toArray 5)):=(vW.o.tr IW.o).tr (Bel.start wd _);have B5:=Blk.new wd zs 5;have c75:(wd.alloc (.cells zs.toArray 5)).cell? (kb,7)=some (.slice (g1,0) L1.length mV):=aa (Bel.start wd _) QI;have lG:wc.heap.size≤wd.heap.size:=(vW.o.tr IW.o).size;generalize wd.alloc (.cells zs.toArray 5)=w5 at *
      obtain⟨go,yO⟩:=e_x wd.heap.size;rw[yO]at B5 lG⊢;have nH:=xh B5;have ow:=xh k5;have rQ:Rw w5 y.bv y.byt:=KM.o.1.bel k5;have xg:Hid (0<(y.byt.map (Value.int .u8)).length→∃ad,q=some ad∧∀j v,(y.byt.map (Value.int .u8))[j]?=some v→w5.cell? (ad.add j)=some v):=xh λh0=>by
       rcases rQ.2 with⟨_,h⟩|⟨g2,c2,cur,h,_⟩
       ·rw[h]at h0;simp at h0
       ·rw[jE.o]at h
        cases h
        obtain⟨g3,hg3,hc3⟩:=rQ.cells jE.o;cases hg3
        refine⟨_,rfl,λj v hj=>?_⟩;rw[show(⟨g2,0,none⟩:Addr).add j=⟨g2,j,none⟩from by unfold Addr.add;split<;>simp_all];exact hc3 j v hj
      clear yO B5 k5 CO rQ QI;go_upto_region 22 with(refine bC rfl (.tmp 99) (.tmp 100) 59 59 rfl 5 underlying59 (by kernel_rfl) go q y.byt.length y.byt.length y.byt.length c rfl rfl zs 5 nH.o (y.byt.map (Value.int .u8)) (by rw[fJ];exact(Nat.min_eq_left (by omega)).symm) xg.o (by rw[fJ,oH.o];omega) (by intro v hv;obtain⟨z,_,rfl⟩:=List.mem_map.1 hv;rfl) ?_;intro w6 B6 K6)
      have QJ:kb<go:=by have:=HA.o.dk.blk.lt;omega
      have c76:w6.cell? (kb,7)=some (.slice (g1,0) L1.length mV):=(K6.cell ⟨kb,7,none⟩ (World.block_lt_of_cell? _ _ c75) (by show kb≠go;omega)).trans c75;have yx:=xh B6.out;have pz:=xh K6;have yP:BS wc p b:=XJ.o.gu HA.o.keep λh0 a o hp h=>by have:=uJ.o h0 a o hp;omega
      have rR:BS w6 p b:=(yP.bel ow.o).gu K6 λh0 a o hp e=>by have:=uJ.o h0 a o hp;omega
      have uO:=xh (λh0=>rR.nK h0);have xK:=xh rR.1;clear B6 K6 yP rR c75;go_upto_region 23 with(refine bC rfl (.tmp 102) (.tmp 103) 59 59 rfl 5 underlying59 (by kernel_rfl) go p y.byt.length y.byt.length b.length EU rfl rfl _ 5 yx.o (b.map (Value.int .u8)) (by rw[fJ];exact(Nat.min_eq_left (by omega)).symm) uO.o (by simp[oH.o];omega) (by intro v hv;obtain⟨z,_,rfl⟩:=List.mem_map.1 hv;rfl) ?_;intro w7 B7 K7)
      have c77:w7.cell? (kb,7)=some (.slice (g1,0) L1.length mV):=(K7.cell ⟨kb,7,none⟩ (World.block_lt_of_cell? _ _ c76) (by show kb≠go;omega)).trans c76;have uW:Hid (Blk w7 go ((b++y.byt.drop b.length).map (Value.int .u8)) 5):=xh (by
       have:=B7.out;rw[fJ,fJ,qF b y.byt zs y.byt.length oH.o (by omega) (by omega) (by omega)]at this;exact this)
      have AJ:Hid (Keep (λq=>wc.heap.size≤q) wc w7):=xh (((Keep.of_bel _ ow.o).aY pz.o (λi h=>.inl (by rw[h];exact lG))).aY K7 (λi h=>.inl (by rw[h];exact lG)));have HD7:Hid (DK w7 kb s OV L1):=xh (HA.o.dk.bel (AJ.o.below _ (bH _) (λ_ h=>h)));have UC:Hid ((b++y.byt.drop b.length).length=y.byt.length):=xh (by simp;omega);clear B7 K7 c76;have HRR:Hid (r=(0,(fA L1).set (n1-1) {y.sk with byt:=b++y.byt.drop b.length})):=xh (by
       rw[CL.o,if_neg (by rintro⟨h3,h4⟩;rw[pU,Nk.o]at h4;simp[Nd.sk]at h4;omega)];rfl)
      obtain⟨cu1,IX⟩:∃cur,Blk w7 g1 cur 252∧cur.length=mV*5:=by
       rcases HD7.o.row.2 with⟨h3,_⟩|⟨g2,c2,cur,h3,_,hb3,_,_,hs3,_⟩
       ·rw[EW.o]at h3;cases h3
       ·rw[EW.o]at h3;cases h3
        exact⟨cur.toList,by unfold Blk;simpa using hb3,by simpa using hs3⟩
      have cst:w7.cell? (g1,(n1-1)*5+4)=some y.bv:=by
       obtain⟨gg,cc,h3,h4,_⟩:=HD7.o.tree;rw[EW.o]at h3;cases h3
       exact h4.2.2 (n1-1) y HY.o 4 _ rfl
      have fst:=IX.1.frozen;have acM:=IX.1.lt;clear IX;go_wp2
      go_ret
      have hrw:Rw w7 (.slice (go,0) y.byt.length y.byt.length) (b++y.byt.drop b.length):=⟨λz hz=>by
       rcases List.mem_append.1 hz with hz|hz
       ·exact xK.o z hz
       ·exact KM.o.1.1 z (List.mem_of_mem_drop hz),.inr ⟨go,y.byt.length,_,by rw[UC.o],uW.o,by rw[UC.o];exact bH _,by rw[fJ,UC.o];exact bH _,by unfold maxLen;omega,by rw[←fJ (f:=Value.int .u8),List.take_length]⟩⟩
      have hfin:=HD7.o.iq EW.o HY.o hrw (λq hq=>by cases hq;exact Nat.le_of_lt QJ);refine⟨by rw[HRR.o];rfl,?_,λ_=>⟨OV,_,?_,hfin⟩⟩
      ·exact(HA.o.keep.aY AJ.o (λi h=>.inr (aV HA.o.keep.size h))).tr ((Keep.setCell w7 g1 _ _).mono λq h=>by have h:q=g1:=h;rw[h];omega)
      ·rw[KP,HRR.o]
     ·have hb0:¬(0<b.length):=by omega
      go_upto_region 18 with fail
      go_quiet (fail)
      have IW:Hid (Bel w4 (w4.drewN nq)):=xh (ah (Bel.refl _) nq);generalize w4.drewN nq=wd at *
      obtain⟨zs,hzl,hmk⟩:=lF y.byt.length (by omega);have CO:=λW=>hmk ((y.byt.length:Nat):Int) W rfl;have oH:=xh hzl;clear hmk hzl;have QI:wd.cell? (kb,7)=some (.slice (g1,0) L1.length mV):=aa IW.o Tk;clear cu UB Zi Tk hb0;go_upto_region 21 with fail
      have k5:Bel wc (wd.alloc (.cells zs.toArray 5)):=(vW.o.tr IW.o).tr (Bel.start wd _);have B5:=Blk.new wd zs 5;have c75:(wd.alloc (.cells zs.toArray 5)).cell? (kb,7)=some (.slice (g1,0) L1.length mV):=aa (Bel.start wd _) QI;have lG:wc.heap.size≤wd.heap.size:=(vW.o.tr IW.o).size;generalize wd.alloc (.cells zs.toArray 5)=w5 at *
      obtain⟨go,yO⟩:=e_x wd.heap.size;rw[yO]at B5 lG⊢;have nH:=xh B5;have ow:=xh k5;have rQ:Rw w5 y.bv y.byt:=KM.o.1.bel k5;have xg:Hid (0<(y.byt.map (Value.int .u8)).length→∃ad,q=some ad∧∀j v,(y.byt.map (Value.int .u8))[j]?=some v→w5.cell? (ad.add j)=some v):=xh λh0=>by
       rcases rQ.2 with⟨_,h⟩|⟨g2,c2,cur,h,_⟩
       ·rw[h]at h0;simp at h0
       ·rw[jE.o]at h
        cases h
        obtain⟨g3,hg3,hc3⟩:=rQ.cells jE.o;cases hg3
        refine⟨_,rfl,λj v hj=>?_⟩;rw[show(⟨g2,0,none⟩:Addr).add j=⟨g2,j,none⟩from by unfold Addr.add;split<;>simp_all];exact hc3 j v hj
      clear yO B5 k5 CO rQ QI;go_upto_region 22 with(refine bC rfl (.tmp 99) (.tmp 100) 59 59 rfl 5 underlying59 (by kernel_rfl) go q y.byt.length y.byt.length y.byt.length c rfl rfl zs 5 nH.o (y.byt.map (Value.int .u8)) (by rw[fJ];exact(Nat.min_eq_left (by omega)).symm) xg.o (by rw[fJ,oH.o];omega) (by intro v hv;obtain⟨z,_,rfl⟩:=List.mem_map.1 hv;rfl) ?_;intro w6 B6 K6)
      have QJ:kb<go:=by have:=HA.o.dk.blk.lt;omega
      have c76:w6.cell? (kb,7)=some (.slice (g1,0) L1.length mV):=(K6.cell ⟨kb,7,none⟩ (World.block_lt_of_cell? _ _ c75) (by show kb≠go;omega)).trans c75;have yx:=xh B6.out;have pz:=xh K6;have yP:BS wc p b:=XJ.o.gu HA.o.keep λh0 a o hp h=>by have:=uJ.o h0 a o hp;omega
      have rR:BS w6 p b:=(yP.bel ow.o).gu K6 λh0 a o hp e=>by have:=uJ.o h0 a o hp;omega
      have uO:=xh (λh0=>rR.nK h0);have xK:=xh rR.1;clear B6 K6 yP rR c75;go_upto_region 23 with(refine bC rfl (.tmp 102) (.tmp 103) 59 59 rfl 5 underlying59 (by kernel_rfl) go p y.byt.length y.byt.length b.length EU rfl rfl _ 5 yx.o (b.map (Value.int .u8)) (by rw[fJ];exact(Nat.min_eq_left (by omega)).symm) uO.o (by simp[oH.o];omega) (by intro v hv;obtain⟨z,_,rfl⟩:=List.mem_map.1 hv;rfl) ?_;intro w7 B7 K7)
      have c77:w7.cell? (kb,7)=some (.slice (g1,0) L1.length mV):=(K7.cell ⟨kb,7,none⟩ (World.block_lt_of_cell? _ _ c76) (by show kb≠go;omega)).trans c76;have uW:Hid (Blk w7 go ((b++y.byt.drop b.length).map (Value.int .u8)) 5):=xh (by
       have:=B7.out;rw[fJ,fJ,qF b y.byt zs y.byt.length oH.o (by omega) (by omega) (by omega)]at this;exact this)
      have AJ:Hid (Keep (λq=>wc.heap.size≤q) wc w7):=xh (((Keep.of_bel _ ow.o).aY pz.o (λi h=>.inl (by rw[h];exact lG))).aY K7 (λi h=>.inl (by rw[h];exact lG)));have HD7:Hid (DK w7 kb s OV L1):=xh (HA.o.dk.bel (AJ.o.below _ (bH _) (λ_ h=>h)));have UC:Hid ((b++y.byt.drop b.length).length=y.byt.length):=xh (by simp;omega);clear B7 K7 c76;have HRR:Hid (r=(0,fA L1)):=xh (by
       rw[CL.o,if_neg (by rintro⟨h3,h4⟩;omega)];have hb0:b=[]:=List.eq_nil_of_length_eq_zero (by omega);rw[hb0];exact congrArg (Prod.mk 0) (ET (fA L1) (n1-1) y.sk (by unfold fA;rw[dA,HY.o];rfl)))
      go_wp2
      go_ret
      exact⟨by rw[HRR.o];rfl,HA.o.keep.aY AJ.o (λi h=>.inr (aV HA.o.keep.size h)),λ_=>⟨OV,L1,by rw[HRR.o],HD7.o⟩⟩
    ·by_cases hb:0<b.length
     ·by_cases hx:mb<tot+(b.length-y.byt.length)
      ·have hw1:IntKind.i64.wrap ((tot:Int)-(y.byt.length:Int))=(tot:Int)-(y.byt.length:Int):=by rw[IntKind.wrap_i64];omega
       have hw2:IntKind.i64.wrap ((tot:Int)-(y.byt.length:Int)+(b.length:Int))=(tot:Int)-(y.byt.length:Int)+(b.length:Int):=by rw[IntKind.wrap_i64];omega
       have hle:(mb:Int)<(tot:Int)-(y.byt.length:Int)+(b.length:Int):=by omega
       have HRR:Hid (r=(12,fA L1)):=xh (by
        rw[CL.o,if_pos ⟨hb,by rw[pU,Nk.o];simp[Nd.sk];omega⟩])
       go_upto_region 18 with fail
       go_quiet (fail)
       go_wp2
       go_ret
       exact⟨by rw[HRR.o];rfl,HA.o.keep.tr (Keep.of_bel _ (ah vW.o nq)),λh=>by rw[HRR.o]at h;cases h⟩
      ·have hw1:IntKind.i64.wrap ((tot:Int)-(y.byt.length:Int))=(tot:Int)-(y.byt.length:Int):=by rw[IntKind.wrap_i64];omega
       have hw2:IntKind.i64.wrap ((tot:Int)-(y.byt.length:Int)+(b.length:Int))=(tot:Int)-(y.byt.length:Int)+(b.length:Int):=by rw[IntKind.wrap_i64];omega
       have hle:¬((mb:Int)<(tot:Int)-(y.byt.length:Int)+(b.length:Int)):=by omega
       go_upto_region 18 with fail
       go_quiet (fail)
       have IW:Hid (Bel w4 (w4.drewN nq)):=xh (ah (Bel.refl _) nq);generalize w4.drewN nq=wd at *
       obtain⟨zs,hzl,hmk⟩:=lF b.length (by omega);have CO:=λW=>hmk ((b.length:Nat):Int) W rfl;have oH:=xh hzl;clear hmk hzl;have QI:wd.cell? (kb,7)=some (.slice (g1,0) L1.length mV):=aa IW.o Tk;clear cu UB Zi Tk hw1 hw2 hle;go_upto_region 21 with fail
       have k5:Bel wc (wd.alloc (.cells zs.toArray 5)):=(vW.o.tr IW.o).tr (Bel.start wd _);have B5:=Blk.new wd zs 5;have c75:(wd.alloc (.cells zs.toArray 5)).cell? (kb,7)=some (.slice (g1,0) L1.length mV):=aa (Bel.start wd _) QI;have lG:wc.heap.size≤wd.heap.size:=(vW.o.tr IW.o).size;generalize wd.alloc (.cells zs.toArray 5)=w5 at *
       obtain⟨go,yO⟩:=e_x wd.heap.size;rw[yO]at B5 lG⊢;have nH:=xh B5;have ow:=xh k5;have rQ:Rw w5 y.bv y.byt:=KM.o.1.bel k5;have xg:Hid (0<(y.byt.map (Value.int .u8)).length→∃ad,q=some ad∧∀j v,(y.byt.map (Value.int .u8))[j]?=some v→w5.cell? (ad.add j)=some v):=xh λh0=>by
        rcases rQ.2 with⟨_,h⟩|⟨g2,c2,cur,h,_⟩
        ·rw[h]at h0;simp at h0
        ·rw[jE.o]at h
         cases h
         obtain⟨g3,hg3,hc3⟩:=rQ.cells jE.o;cases hg3
         refine⟨_,rfl,λj v hj=>?_⟩;rw[show(⟨g2,0,none⟩:Addr).add j=⟨g2,j,none⟩from by unfold Addr.add;split<;>simp_all];exact hc3 j v hj
       clear yO B5 k5 CO rQ QI;go_upto_region 22 with(refine bC rfl (.tmp 99) (.tmp 100) 59 59 rfl 5 underlying59 (by kernel_rfl) go q b.length b.length y.byt.length c rfl rfl zs 5 nH.o (y.byt.map (Value.int .u8)) (by rw[fJ];exact(Nat.min_eq_left (by omega)).symm) xg.o (by rw[fJ,oH.o];omega) (by intro v hv;obtain⟨z,_,rfl⟩:=List.mem_map.1 hv;rfl) ?_;intro w6 B6 K6)
       have QJ:kb<go:=by have:=HA.o.dk.blk.lt;omega
       have c76:w6.cell? (kb,7)=some (.slice (g1,0) L1.length mV):=(K6.cell ⟨kb,7,none⟩ (World.block_lt_of_cell? _ _ c75) (by show kb≠go;omega)).trans c75;have yx:=xh B6.out;have pz:=xh K6;have yP:BS wc p b:=XJ.o.gu HA.o.keep λh0 a o hp h=>by have:=uJ.o h0 a o hp;omega
       have rR:BS w6 p b:=(yP.bel ow.o).gu K6 λh0 a o hp e=>by have:=uJ.o h0 a o hp;omega
       have uO:=xh (λh0=>rR.nK h0);have xK:=xh rR.1;clear B6 K6 yP rR c75;go_upto_region 23 with(refine bC rfl (.tmp 102) (.tmp 103) 59 59 rfl 5 underlying59 (by kernel_rfl) go p b.length b.length b.length EU rfl rfl _ 5 yx.o (b.map (Value.int .u8)) (by rw[fJ];exact(Nat.min_eq_left (by omega)).symm) uO.o (by simp[oH.o];omega) (by intro v hv;obtain⟨z,_,rfl⟩:=List.mem_map.1 hv;rfl) ?_;intro w7 B7 K7)
       have c77:w7.cell? (kb,7)=some (.slice (g1,0) L1.length mV):=(K7.cell ⟨kb,7,none⟩ (World.block_lt_of_cell? _ _ c76) (by show kb≠go;omega)).trans c76;have uW:Hid (Blk w7 go ((b++y.byt.drop b.length).map (Value.int .u8)) 5):=xh (by
        have:=B7.out;rw[fJ,fJ,qF b y.byt zs b.length oH.o (by omega) (by omega) (by omega)]at this;exact this)
       have AJ:Hid (Keep (λq=>wc.heap.size≤q) wc w7):=xh (((Keep.of_bel _ ow.o).aY pz.o (λi h=>.inl (by rw[h];exact lG))).aY K7 (λi h=>.inl (by rw[h];exact lG)));have HD7:Hid (DK w7 kb s OV L1):=xh (HA.o.dk.bel (AJ.o.below _ (bH _) (λ_ h=>h)));have UC:Hid ((b++y.byt.drop b.length).length=b.length):=xh (by simp;omega);clear B7 K7 c76;have HRR:Hid (r=(0,(fA L1).set (n1-1) {y.sk with byt:=b++y.byt.drop b.length})):=xh (by
        rw[CL.o,if_neg (by rintro⟨h3,h4⟩;rw[pU,Nk.o]at h4;simp[Nd.sk]at h4;omega)];rfl)
       obtain⟨cu1,IX⟩:∃cur,Blk w7 g1 cur 252∧cur.length=mV*5:=by
        rcases HD7.o.row.2 with⟨h3,_⟩|⟨g2,c2,cur,h3,_,hb3,_,_,hs3,_⟩
        ·rw[EW.o]at h3;cases h3
        ·rw[EW.o]at h3;cases h3
         exact⟨cur.toList,by unfold Blk;simpa using hb3,by simpa using hs3⟩
       have cst:w7.cell? (g1,(n1-1)*5+4)=some y.bv:=by
        obtain⟨gg,cc,h3,h4,_⟩:=HD7.o.tree;rw[EW.o]at h3;cases h3
        exact h4.2.2 (n1-1) y HY.o 4 _ rfl
       have fst:=IX.1.frozen;have acM:=IX.1.lt;clear IX;go_wp2
       go_ret
       have hrw:Rw w7 (.slice (go,0) b.length b.length) (b++y.byt.drop b.length):=⟨λz hz=>by
        rcases List.mem_append.1 hz with hz|hz
        ·exact xK.o z hz
        ·exact KM.o.1.1 z (List.mem_of_mem_drop hz),.inr ⟨go,b.length,_,by rw[UC.o],uW.o,by rw[UC.o];exact bH _,by rw[fJ,UC.o];exact bH _,by unfold maxLen;omega,by rw[←fJ (f:=Value.int .u8),List.take_length]⟩⟩
       have hfin:=HD7.o.iq EW.o HY.o hrw (λq hq=>by cases hq;exact Nat.le_of_lt QJ);refine⟨by rw[HRR.o];rfl,?_,λ_=>⟨OV,_,?_,hfin⟩⟩
       ·exact(HA.o.keep.aY AJ.o (λi h=>.inr (aV HA.o.keep.size h))).tr ((Keep.setCell w7 g1 _ _).mono λq h=>by have h:q=g1:=h;rw[h];omega)
       ·rw[KP,HRR.o]
     ·have hb0:¬(0<b.length):=by omega
      go_upto_region 18 with fail
      go_quiet (fail)
      have IW:Hid (Bel w4 (w4.drewN nq)):=xh (ah (Bel.refl _) nq);generalize w4.drewN nq=wd at *
      obtain⟨zs,hzl,hmk⟩:=lF b.length (by omega);have CO:=λW=>hmk ((b.length:Nat):Int) W rfl;have oH:=xh hzl;clear hmk hzl;have QI:wd.cell? (kb,7)=some (.slice (g1,0) L1.length mV):=aa IW.o Tk;clear cu UB Zi Tk hb0;go_upto_region 21 with fail
      have k5:Bel wc (wd.alloc (.cells zs.toArray 5)):=(vW.o.tr IW.o).tr (Bel.start wd _);have B5:=Blk.new wd zs 5;have c75:(wd.alloc (.cells zs.toArray 5)).cell? (kb,7)=some (.slice (g1,0) L1.length mV):=aa (Bel.start wd _) QI;have lG:wc.heap.size≤wd.heap.size:=(vW.o.tr IW.o).size;generalize wd.alloc (.cells zs.toArray 5)=w5 at *
      obtain⟨go,yO⟩:=e_x wd.heap.size;rw[yO]at B5 lG⊢;have nH:=xh B5;have ow:=xh k5;have rQ:Rw w5 y.bv y.byt:=KM.o.1.bel k5;have xg:Hid (0<(y.byt.map (Value.int .u8)).length→∃ad,q=some ad∧∀j v,(y.byt.map (Value.int .u8))[j]?=some v→w5.cell? (ad.add j)=some v):=xh λh0=>by
       rcases rQ.2 with⟨_,h⟩|⟨g2,c2,cur,h,_⟩
       ·rw[h]at h0;simp at h0
       ·rw[jE.o]at h
        cases h
        obtain⟨g3,hg3,hc3⟩:=rQ.cells jE.o;cases hg3
        refine⟨_,rfl,λj v hj=>?_⟩;rw[show(⟨g2,0,none⟩:Addr).add j=⟨g2,j,none⟩from by unfold Addr.add;split<;>simp_all];exact hc3 j v hj
      clear yO B5 k5 CO rQ QI;go_upto_region 22 with(refine bC rfl (.tmp 99) (.tmp 100) 59 59 rfl 5 underlying59 (by kernel_rfl) go q b.length b.length y.byt.length c rfl rfl zs 5 nH.o (y.byt.map (Value.int .u8)) (by rw[fJ];exact(Nat.min_eq_left (by omega)).symm) xg.o (by rw[fJ,oH.o];omega) (by intro v hv;obtain⟨z,_,rfl⟩:=List.mem_map.1 hv;rfl) ?_;intro w6 B6 K6)
      have QJ:kb<go:=by have:=HA.o.dk.blk.lt;omega
      have c76:w6.cell? (kb,7)=some (.slice (g1,0) L1.length mV):=(K6.cell ⟨kb,7,none⟩ (World.block_lt_of_cell? _ _ c75) (by show kb≠go;omega)).trans c75;have yx:=xh B6.out;have pz:=xh K6;have yP:BS wc p b:=XJ.o.gu HA.o.keep λh0 a o hp h=>by have:=uJ.o h0 a o hp;omega
      have rR:BS w6 p b:=(yP.bel ow.o).gu K6 λh0 a o hp e=>by have:=uJ.o h0 a o hp;omega
      have uO:=xh (λh0=>rR.nK h0);have xK:=xh rR.1;clear B6 K6 yP rR c75;go_upto_region 23 with(refine bC rfl (.tmp 102) (.tmp 103) 59 59 rfl 5 underlying59 (by kernel_rfl) go p b.length b.length b.length EU rfl rfl _ 5 yx.o (b.map (Value.int .u8)) (by rw[fJ];exact(Nat.min_eq_left (by omega)).symm) uO.o (by simp[oH.o];omega) (by intro v hv;obtain⟨z,_,rfl⟩:=List.mem_map.1 hv;rfl) ?_;intro w7 B7 K7)
      have c77:w7.cell? (kb,7)=some (.slice (g1,0) L1.length mV):=(K7.cell ⟨kb,7,none⟩ (World.block_lt_of_cell? _ _ c76) (by show kb≠go;omega)).trans c76;have uW:Hid (Blk w7 go ((b++y.byt.drop b.length).map (Value.int .u8)) 5):=xh (by
       have:=B7.out;rw[fJ,fJ,qF b y.byt zs b.length oH.o (by omega) (by omega) (by omega)]at this;exact this)
      have AJ:Hid (Keep (λq=>wc.heap.size≤q) wc w7):=xh (((Keep.of_bel _ ow.o).aY pz.o (λi h=>.inl (by rw[h];exact lG))).aY K7 (λi h=>.inl (by rw[h];exact lG)));have HD7:Hid (DK w7 kb s OV L1):=xh (HA.o.dk.bel (AJ.o.below _ (bH _) (λ_ h=>h)));have UC:Hid ((b++y.byt.drop b.length).length=b.length):=xh (by simp;omega);clear B7 K7 c76;have HRR:Hid (r=(0,fA L1)):=xh (by
       rw[CL.o,if_neg (by rintro⟨h3,h4⟩;omega)];have hb0:b=[]:=List.eq_nil_of_length_eq_zero (by omega);rw[hb0];exact congrArg (Prod.mk 0) (ET (fA L1) (n1-1) y.sk (by unfold fA;rw[dA,HY.o];rfl)))
      go_wp2
      go_ret
      exact⟨by rw[HRR.o];rfl,HA.o.keep.aY AJ.o (λi h=>.inr (aV HA.o.keep.size h)),λ_=>⟨OV,L1,by rw[HRR.o],HD7.o⟩⟩
theorem LW(kb:Nat)(s:KV)(iv:Value)(L:List Nd)(mi mb:Nat)(nm:ByteArray)(is:Bool)(p:Option Addr)(EU:Nat)(b:List Int)(w:World)(h:DK w kb s iv L)(hd:s.d=mi)(Kk:mi≤100000)(he:s.e=mb)(hmb:mb≤100000)(hpv:s.pv=.slice none 0 0)(hov:s.ov=.slice none 0 0)
 (hbs:BS w p b)(hbl:b.length≤200000)(hbk:0<b.length→∀q o,p=some ⟨q,o,none⟩→q<kb)(hsum:bN (fA L)≤mb)(hs:nm.size≤1000000)(hroot:isDir L 1=true) :
 Calls prog 104 #[kb,nm,is,(p,b.length,EU)] w λe w'=>tZ w kb s (jq mi mb (fA L) nm.data.toList is b) e w':=by
 cases is with
 | true=>
   have hm:=IY kb s iv L mi nm w h hd Kk hs;show Calls _ _ _ _ λe w'=>tZ w kb s (Ph mi (fA L) nm.data.toList) e w'
   have HM:=xh hm;generalize Ph mi (fA L) nm.data.toList=r at *
   clear hm h hd he hpv hov hbs hbk hroot;go_enter func104,ntmps104;go_wp2_with (go_at_call 182;((with_reducible refine au HM.o ?_);rintro e w1 ⟨rfl,k1⟩;have HK:=xh k1;clear k1))
   go_ret
   exact⟨rfl,HK.o⟩
 | false=>
   obtain⟨g,cap,hiv,ht,hg⟩:=h.tree;have hw:=yK kb g cap L w ht nm hs (by have:=h.few;omega);unfold jq;rw[oh,xI,if_neg (by simp)];have hold:=jS (L:=L) (s:=nm.data.toList) hroot;obtain⟨d,x,n,c,hr⟩:∃d x n c,ay L nm.data.toList=(d,x,n,c):=⟨_,_,_,_,rfl⟩;rw[hr]at hw hold⊢;simp only[KL]at hw hold⊢
   by_cases hc:c=0
   ·subst hc
    rw[if_neg (by simp)];refine IV kb s iv L mi mb nm x p EU b d n w h hd Kk he hmb hpv hov hbs hbl hbk hsum hw _ ?_;by_cases hn:n=0
    ·rw[if_pos hn,if_pos hn]
    ·rw[if_neg hn,if_neg hn]
     exact⟨hold rfl,rfl⟩
   ·rw[if_pos hc]
    have HW:=xh hw;have HC:=xh hc;have hcb:((c:Int)==0)=false:=bK (by omega);clear hw hc h hd he hpv hov hbs hbk hroot hr hold ht hiv;go_enter func104,ntmps104;go_wp2_with (go_at_call 183;((with_reducible refine au HW.o ?_);rintro e w1 ⟨rfl,k1⟩))
    go_ret
    exact⟨rfl,Keep.of_bel _ k1,λh=>absurd h HC.o⟩
end
section
open Go.Proofs.Tryz Go.RowKit Go.Maps
open Classical in
noncomputable def gW(L:List Int):Nat:=if ak L=false then 2 else if eT L=false then 3 else if ∀k,k<(dh L).toNat→gG L k then(if dm L=true then 0 else 5)else 4
def eO(L:List Int):aU:=aM L (dh L).toNat
theorem M8(p:Option Addr)(cap:Nat)(L:List Int)(hcap:L.length≤cap)(hlen:L.length≤200000)(W:World)(hr:BS W p L) :
 Calls prog 186 #[(p,L.length,cap)] W λe w'=>Bel W w'∧tX L W.heap.size e w':=by
 by_cases h:L.length<64
 ·have hh:ak L=false:=by simp[ak,show ¬64≤L.length from by omega]
  refine(EP p L.length cap W h).mono ?_;rintro e w' ⟨rfl,rfl⟩;exact⟨Below.refl _ _,⟨λ_=>rfl,λh=>(by rw[hh]at h;cases h),λh=>(by rw[hh]at h;cases h),λh=>(by rw[hh]at h;cases h),λh=>(by rw[hh]at h;cases h)⟩⟩
 ·obtain⟨b,o,rfl,_,h3⟩:=hr.2 (by omega)
  exact Nb b o cap L W h3 hcap hlen
theorem tX.err{L:List Int}{base:Nat}{e:Ending}{w':World}(h:tX L base e w')(h0:gW L≠0):e=.returned (.tuple #[(),.int .u64 0,.int .i64 (gW L:Nat)]):=by
 unfold gW at h0⊢;by_cases h1:ak L=false
 ·rw[if_pos h1];exact h.header h1
 ·rw[if_neg h1]at h0⊢
  have h1':ak L=true:=by simpa using h1
  by_cases h2:eT L=false
  ·rw[if_pos h2];exact h.XI h1' h2
  ·rw[if_neg h2]at h0⊢
   have h2':eT L=true:=by simpa using h2
   by_cases h3:∀k,k<(dh L).toNat→gG L k
   ·rw[if_pos h3]at h0⊢
    by_cases h4:dm L=true
    ·rw[if_pos h4]at h0;exact absurd rfl h0
    ·rw[if_neg h4];exact h.entry h1' h2' h3 (by simpa using h4)
   ·rw[if_neg h3];exact h.overlap h1' h2' h3
theorem yL{L:List Int}(h:gW L=0):ak L=true∧eT L=true∧(∀k,k<(dh L).toNat→gG L k)∧dm L=true:=by
 unfold gW at h;by_cases h1:ak L=false
 ·rw[if_pos h1]at h;cases h
 ·rw[if_neg h1]at h
  by_cases h2:eT L=false
  ·rw[if_pos h2]at h;cases h
  ·rw[if_neg h2]at h
   by_cases h3:∀k,k<(dh L).toNat→gG L k
   ·rw[if_pos h3]at h
    by_cases h4:dm L=true
    ·exact⟨by simpa using h1,by simpa using h2,h3,h4⟩
    ·rw[if_neg h4]at h;cases h
   ·rw[if_neg h3]at h;cases h
theorem CE.err{L:List Int}{base:Nat}{e:Ending}{w':World}(h:CE L base e w')(h0:gW L≠0):e=.returned (.tuple #[.map none,.int .u64 0,eD (gW L:Nat)]):=by
 unfold gW at h0⊢;by_cases h1:ak L=false
 ·rw[if_pos h1];exact h.header h1
 ·rw[if_neg h1]at h0⊢
  have h1':ak L=true:=by simpa using h1
  by_cases h2:eT L=false
  ·rw[if_pos h2];exact h.XI h1' h2
  ·rw[if_neg h2]at h0⊢
   have h2':eT L=true:=by simpa using h2
   by_cases h3:∀k,k<(dh L).toNat→gG L k
   ·rw[if_pos h3]at h0⊢
    by_cases h4:dm L=true
    ·rw[if_pos h4]at h0;exact absurd rfl h0
    ·rw[if_neg h4];exact h.entry h1' h2' h3 (by simpa using h4)
   ·rw[if_neg h3];exact h.overlap h1' h2' h3
def mJ(m:aU):List Value:=(az m).flatMap λn=>ax n ((m n).getD Pg.zero)
def xN(ss:List ByteArray)(n:Nat):Pg:=⟨6,(List.range 256).map λi=>l7 ss (256*n+i)⟩
def aQ(m:aU)(ss:List ByteArray):aU:=λn=>if n=254∨n=255 then some (xN ss n)else m n
theorem lD(m:aU)(ss:List ByteArray)(h:∀n,254≤n→m n=none):az (aQ m ss)=az m++[254,255]:=by
 unfold az;have e:List.range 256=List.range 254++[254,255]:=by decide
 rw[e,List.filter_append,List.filter_append];have h1:(List.range 254).filter (λn=>(aQ m ss n).isSome)=(List.range 254).filter (λn=>(m n).isSome):=by
  apply List.filter_congr
  intro n hn;rw[List.mem_range]at hn;unfold aQ;rw[if_neg (by omega)]
 have h2:[254,255].filter (λn=>(m n).isSome)=[]:=by simp[h 254 (by omega),h 255 (by omega)]
 have h3:[254,255].filter (λn=>(aQ m ss n).isSome)=[254,255]:=by simp[aQ]
 rw[h1,h2,h3,List.append_nil]
theorem BZ(m:aU)(ss:List ByteArray)(h:∀n,254≤n→m n=none):mJ (aQ m ss)=mJ m++[254,255].flatMap λn=>ax n (xN ss n):=by
 unfold mJ;rw[lD m ss h,List.flatMap_append];congr 1
 have hc:∀(l:List Nat),(∀n∈l,n∈az m)→l.flatMap (λn=>ax n ((aQ m ss n).getD Pg.zero))=l.flatMap λn=>ax n ((m n).getD Pg.zero):=by
  intro l
  induction l with
  | nil=>intro _;rfl
  | cons x l ih=>
    intro hl;rw[List.flatMap_cons,List.flatMap_cons,ih λn hn=>hl n (by simp[hn])];congr 1
    have hx:=hl x (by simp);have:=List.mem_filter.1 hx;have hlt:x<254:=by
     refine Classical.byContradiction λhc=>?_;rw[h x (by omega)]at this;simp at this
    unfold aQ;rw[if_neg (by omega)]
 exact hc _ λn hn=>hn
end
section
open Go.Proofs.Tryz Go.RowKit Go.MapKept Go.Maps Go.Shelf
def Qi:Value→Nat→Value
 | .slice p _ _,n=>.slice p n n
 | v,_=>v
def bD:Value→Nat→Value
 | .slice p l c,n=>.slice (if c=n then p else p.map (·.add n)) (l-n) (c-n)
 | v,_=>v
theorem Buf.take{w:World}{v:Value}{L:List Int}(h:Buf w v L){n:Nat}(hn:n≤L.length):Buf w (Qi v n) (L.take n):=by
 obtain⟨p,cap,rfl,h1,h2,h3,h4⟩:=h;refine⟨p,n,by rw[List.length_take,Nat.min_eq_left hn];rfl,by rw[List.length_take];omega,by omega,λx hx=>h3 x (List.mem_of_mem_take hx),?_⟩;rcases h4 with⟨rfl,rfl⟩|⟨g,o,cs,rfl,hb,h5,h6⟩
 ·exact .inl ⟨rfl,by omega⟩
 ·refine .inr ⟨g,o,cs,rfl,hb,by omega,λi x hi=>h6 i x ?_⟩
  rw[List.getElem?_take]at hi;split at hi
  ·exact hi
  ·cases hi
theorem Buf.drop{w:World}{v:Value}{L:List Int}(h:Buf w v L){n:Nat}(hn:n≤L.length):Buf w (bD v n) (L.drop n):=by
 obtain⟨p,cap,rfl,h1,h2,h3,h4⟩:=h;refine⟨_,cap-n,by rw[List.length_drop];rfl,by rw[List.length_drop];omega,by omega,λx hx=>h3 x (List.mem_of_mem_drop hx),?_⟩;rcases h4 with⟨rfl,rfl⟩|⟨g,o,cs,rfl,hb,h5,h6⟩
 ·exact .inl ⟨by simp,by omega⟩
 ·by_cases e:cap=n
  ·refine .inr ⟨g,o,cs,by rw[if_pos e],hb,by omega,λi x hi=>?_⟩
   have:=(bZ hi).1;rw[List.length_drop]at this;omega
  ·refine .inr ⟨g,o+n,cs,by rw[if_neg e,Option.map_some,Addr.add_lit],hb,by omega,λi x hi=>?_⟩
   rw[List.getElem?_drop]at hi;rw[Nat.add_assoc];exact h6 _ x hi
theorem lC(v:Value)(n:Nat):ag (bD v n)=ag v:=by
 cases v<;>try rfl
 rename_i p l c
 show ag (.slice (if c=n then p else p.map (·.add n)) (l-n) (c-n))=ag (.slice p l c)
 by_cases e:c=n
 ·rw[if_pos e]
  cases p<;>rfl
 ·rw[if_neg e]
  cases p with
  | none=>rfl
  | some a=>show some (a.add n).block=some a.block;unfold Addr.add;split<;>rfl
theorem Buf.ne{w:World}{v:Value}{L:List Int}(h:Buf w v L){q:Nat}{cs:List Value}{t:TypeId}(hb:Blk w q cs t)(ht:t≠5):∀g,ag v=some g→g≠q:=λg hg e=>by
 obtain⟨cs2,hb2⟩:=h.blk hg;exact hb2.ne hb (λe2=>ht e2.symm) e
theorem nY(q n m:Nat)(d:Int)(rest:List Value)(t:TypeId)(w:World)(hb:Blk w q (.int .i64 n::rest) t)(hd:(n:Int)+d=m)(hn:n≤1000000)(hm:m≤1000000) :
 Calls prog 392 #[q,d] w λe w'=>e=.returned (.int .i64 m)∧Blk w' q (.int .i64 m::rest) t∧Keep (λx=>x=q) w w':=by
 have c0:=hb.c 0 rfl;have f0:=hb.frozen;have HC:=xh hb;have hl:=hb.lt;have hw:IntKind.i64.wrap ((n:Int)+d)=m:=by rw[IntKind.wrap_i64,hd];omega
 clear hb;go_enter func392,ntmps392;go_wp2
 go_ret
 exact⟨rfl,HC.o.setCell (o:=0) _,Keep.setCell _ _ _ _⟩
theorem EC(cb:Nat)(n:Int)(h out:Value)(v:Value)(w:World)(hb:Blk w cb [h,v,out] 151)(hv:Buf w v [])(hn:0<n) :
 Calls prog 389 #[cb,n] w (Z.e (.tuple #[(),.iface 48 (.int .i64 16)]) w):=by
 obtain⟨p,cap,rfl,_,_⟩:=hv.slice;have c1:=hb.c 1 rfl;clear hb hv;go_enter func389,ntmps389;go_wp2
 go_ret2
 exact⟨rfl,rfl⟩
theorem Qj(cb k m:Nat)(h out:Value)(v:Value)(L:List Int)(w:World)(hb:Blk w cb [h,v,out] 151)(hv:Buf w v L)(hne:0<L.length∨k=0)(hm:m=min k L.length) :
 Calls prog 389 #[cb,.int .i64 k] w λe w'=>e=.returned (.tuple #[Qi v m,.nilIface])∧Blk w' cb [h,bD v m,out] 151∧Keep (λq=>q=cb) w w':=by
 obtain⟨p,cap,rfl,hlc,hcm⟩:=hv.slice;have c1:=hb.c 1 rfl;have f0:=hb.frozen;have hl:=hb.lt;have HB:=xh hb;have hmn:min (k:Int) (L.length:Int)=(m:Int):=by omega
 have hmc:(m:Int)≤cap:=by omega
 have hml:(m:Int)≤L.length:=by omega
 have HG:Hid (∀v',Blk (w.setCell (cb,1) v') cb [h,v',out] 151):=xh λv'=>hb.setCell (o:=1) v';clear hb hv;by_cases hL:0<L.length
 ·have hLb:(((L.length:Nat):Int)==0)=false:=bK (by omega)
  clear hne hm hL;by_cases hcp:cap=m
  ·go_enter func389,ntmps389
   go_wp2
   have e:bD (.slice p L.length cap) m=.slice p (L.length-m) 0:=by simp[bD,hcp]
   go_ret2
   rw[e];exact⟨rfl,HG.o _,Keep.setCell _ _ _ _⟩
  ·go_enter func389,ntmps389
   go_wp2
   have e:bD (.slice p L.length cap) m=.slice (p.map (·.add m)) (L.length-m) (cap-m):=by simp[bD,hcp]
   go_ret2
   rw[e];exact⟨rfl,HG.o _,Keep.setCell _ _ _ _⟩
 ·have hk:k=0:=by omega
  subst hk;have hm0:m=0:=by omega
  subst hm0;obtain rfl:L=[]:=List.eq_nil_of_length_eq_zero (by omega);clear hne hm hL hmn hmc hml;change w.cell? (cb,1)=some (.slice p 0 cap)at c1
  by_cases hcp:cap=0
  ·go_enter func389,ntmps389
   go_wp2
   have e:bD (.slice p 0 cap) 0=.slice p 0 0:=by simp[bD,hcp]
   go_ret2
   show _∧Blk _ cb [h,bD (.slice p 0 cap) 0,out] _∧_
   rw[e];exact⟨rfl,HG.o _,Keep.setCell _ _ _ _⟩
  ·go_enter func389,ntmps389
   go_wp2
   have e:bD (.slice p 0 cap) 0=.slice p 0 cap:=by cases p<;>simp[bD,hcp,Addr.add_zero']
   go_ret2
   show _∧Blk _ cb [h,bD (.slice p 0 cap) 0,out] _∧_
   rw[e];exact⟨rfl,HG.o _,Keep.setCell _ _ _ _⟩
theorem ED(rb cb:Nat)(n wr:Int)(h rd:Value)(v:Value)(w:World)(hr:Blk w rb [h,cb] 446)(hb:Blk w cb [v,rd,wr] 475)(hv:Buf w v [])(hn:0<n)(hw:0<wr) :
 Calls prog 422 #[rb,n] w (Z.e (.tuple #[(),.iface 48 (.int .i64 16)]) w):=by
 obtain⟨p,cap,rfl,_,_⟩:=hv.slice;have c1:=hr.c 1 rfl;have c2:=hb.c 0 rfl;have c3:=hb.c 2 rfl;clear hb hv hr;go_enter func422,ntmps422;go_wp2
 go_ret2
 exact⟨rfl,rfl⟩
theorem Qk(rb cb k m:Nat)(wr:Int)(h rd:Value)(v:Value)(L:List Int)(w:World)(hr:Blk w rb [h,cb] 446)(hb:Blk w cb [v,rd,wr] 475)(hv:Buf w v L)(hne:0<L.length∨wr≤0∨k=0)(hm:m=min k L.length) :
 Calls prog 422 #[rb,.int .i64 k] w λe w'=>e=.returned (.tuple #[Qi v m,.nilIface])∧Blk w' cb [bD v m,rd,wr] 475∧Keep (λq=>q=cb) w w':=by
 obtain⟨p,cap,rfl,hlc,hcm⟩:=hv.slice;have c1:=hr.c 1 rfl;have c2:=hb.c 0 rfl;have c3:=hb.c 2 rfl;have f0:=hb.frozen;have hl:=hb.lt;have HB:=xh hb;have hmn:min (k:Int) (L.length:Int)=(m:Int):=by omega
 have hmc:(m:Int)≤cap:=by omega
 have hml:(m:Int)≤L.length:=by omega
 have HG:Hid (∀v',Blk (w.setCell (cb,0) v') cb [v',rd,wr] 475):=xh λv'=>hb.setCell (o:=0) v';clear hb hv hr;by_cases hL:0<L.length
 ·have hLb:(((L.length:Nat):Int)==0)=false:=bK (by omega)
  clear hne hm hL;by_cases hcp:cap=m
  ·have e:bD (.slice p L.length cap) m=.slice p (L.length-m) 0:=by simp[bD,hcp]
   go_enter func422,ntmps422;go_upto_region 5 with fail
   go_still_tail 15,(by kernel_rfl)
   change wpList _ _ _ _ _ w.drew
   go_wp2
   go_ret2
   rw[e];exact⟨rfl,(HG.o _).bel (Bel.drew (Bel.refl _)),(Keep.setCell _ _ _ _).tr (Keep.of_bel _ (Bel.drew (Bel.refl _)))⟩
  ·have e:bD (.slice p L.length cap) m=.slice (p.map (·.add m)) (L.length-m) (cap-m):=by simp[bD,hcp]
   go_enter func422,ntmps422;go_upto_region 5 with fail
   go_still_tail 15,(by kernel_rfl)
   change wpList _ _ _ _ _ w.drew
   go_wp2
   go_ret2
   rw[e];exact⟨rfl,(HG.o _).bel (Bel.drew (Bel.refl _)),(Keep.setCell _ _ _ _).tr (Keep.of_bel _ (Bel.drew (Bel.refl _)))⟩
 ·obtain rfl:L=[]:=List.eq_nil_of_length_eq_zero (by omega)
  have hm0:m=0:=by omega
  subst hm0;have hne2:wr≤0∨k=0:=hne.resolve_left (by simp);clear hne hm hL hmn hmc hml;change w.cell? (cb,0)=some (.slice p 0 cap)at c2
  have hmk:min (k:Int) 0=0:=by omega
  by_cases hw0:wr≤0
  ·have hwb:decide (0<wr)=false:=by simp;omega
   clear hne2 hw0;by_cases hcp:cap=0
   ·have e:bD (.slice p 0 cap) 0=.slice p 0 0:=by simp[bD,hcp]
    go_enter func422,ntmps422;go_upto_region 5 with fail
    go_still_tail 15,(by kernel_rfl)
    change wpList _ _ _ _ _ w.drew
    go_wp2
    go_ret2
    show _∧Blk _ cb [bD (.slice p 0 cap) 0,rd,wr] _∧_
    rw[e];exact⟨rfl,(HG.o _).bel (Bel.drew (Bel.refl _)),(Keep.setCell _ _ _ _).tr (Keep.of_bel _ (Bel.drew (Bel.refl _)))⟩
   ·have e:bD (.slice p 0 cap) 0=.slice p 0 cap:=by cases p<;>simp[bD,hcp,Addr.add_zero']
    go_enter func422,ntmps422;go_upto_region 5 with fail
    go_still_tail 15,(by kernel_rfl)
    change wpList _ _ _ _ _ w.drew
    go_wp2
    go_ret2
    show _∧Blk _ cb [bD (.slice p 0 cap) 0,rd,wr] _∧_
    rw[e];exact⟨rfl,(HG.o _).bel (Bel.drew (Bel.refl _)),(Keep.setCell _ _ _ _).tr (Keep.of_bel _ (Bel.drew (Bel.refl _)))⟩
  ·have hwb:decide (0<wr)=true:=by simp;omega
   obtain rfl:k=0:=hne2.resolve_left hw0;clear hne2 hw0 hmk;by_cases hcp:cap=0
   ·have e:bD (.slice p 0 cap) 0=.slice p 0 0:=by simp[bD,hcp]
    go_enter func422,ntmps422;go_upto_region 5 with fail
    go_still_tail 15,(by kernel_rfl)
    change wpList _ _ _ _ _ w.drew
    go_wp2
    go_ret2
    show _∧Blk _ cb [bD (.slice p 0 cap) 0,rd,wr] _∧_
    rw[e];exact⟨rfl,(HG.o _).bel (Bel.drew (Bel.refl _)),(Keep.setCell _ _ _ _).tr (Keep.of_bel _ (Bel.drew (Bel.refl _)))⟩
   ·have e:bD (.slice p 0 cap) 0=.slice p 0 cap:=by cases p<;>simp[bD,hcp,Addr.add_zero']
    go_enter func422,ntmps422;go_upto_region 5 with fail
    go_still_tail 15,(by kernel_rfl)
    change wpList _ _ _ _ _ w.drew
    go_wp2
    go_ret2
    show _∧Blk _ cb [bD (.slice p 0 cap) 0,rd,wr] _∧_
    rw[e];exact⟨rfl,(HG.o _).bel (Bel.drew (Bel.refl _)),(Keep.setCell _ _ _ _).tr (Keep.of_bel _ (Bel.drew (Bel.refl _)))⟩
theorem EE(rb cb:Nat)(h wr:Value)(v:Value)(L:List Int)(p:Option Addr)(n c:Nat)(w:World)(hr:Blk w rb [h,cb] 448)(hb:Blk w cb [v,(0:Int),wr] 475)(hv:Buf w v L)(hL:L.length≤64) :
 Calls prog 427 #[rb,(p,n,c)] w (Z.e (.tuple #[(0:Int),.iface 48 (.int .i64 15)]) w):=by
 obtain⟨q,cap,rfl,_,_⟩:=hv.slice;have c1:=hr.c 1 rfl;have c2:=hb.c 0 rfl;have c3:=hb.c 1 rfl;have hw:IntKind.i64.wrap (64-(L.length:Int))=64-(L.length:Int):=by rw[IntKind.wrap_i64];omega
 clear hb hv hr;go_enter func427,ntmps427;go_wp2
 go_ret2
 exact⟨rfl,rfl⟩
theorem Cw(rb cb:Nat)(h wr:Value)(rd:Int)(v:Value)(L:List Int)(p:Option Addr)(n c:Nat)(w:World)(hr:Blk w rb [h,cb] 448)(hb:Blk w cb [v,rd,wr] 475)(hv:Buf w v L)(hrd:0<rd)(hL:L.length=64)(hn:0<n) :
 Calls prog 427 #[rb,(p,n,c)] w (Z.e (.tuple #[(0:Int),.iface 48 (.int .i64 16)]) w):=by
 obtain⟨q,cap,rfl,_,_⟩:=hv.slice;rw[hL]at *
 have c1:=hr.c 1 rfl;have c2:=hb.c 0 rfl;have c3:=hb.c 1 rfl;have hrb:(rd==0)=false:=bK (by omega);clear hb hv hr hL hrd;go_enter func427,ntmps427;go_wp2
 go_ret2
 exact⟨rfl,rfl⟩
end
end Go.Proofs.YtcnjjchlebmfiaaGreatDoor
