/-.-/
import Derived.Test.YtcnjjchlebmfiaaGreatDoorP11
import Derived.Test.YtcnjjchlebmfiaaGreatDoorP10
import Derived.Lib.BufferWrite
set_option linter.all false
set_option maxRecDepth 100000
set_option maxHeartbeats 16000000
namespace Go.Proofs.YtcnjjchlebmfiaaGreatDoor
section
open Go.Proofs.Tryz Go.RowKit
theorem BS.dm{w w':World}{S:Nat→Prop}{p:Option Addr}{L:List Int}(h:BS w p L)(k:Keep S w w')(hs:0<L.length→∀b o,p=some ⟨b,o,none⟩→¬S b):BS w' p L:=
 ⟨h.1,λh0=>by
   obtain⟨b,o,h1,h2,h3⟩:=h.2 h0;exact⟨b,o,h1,Nat.lt_of_lt_of_le h2 k.size,h3.keep k (λ_=>hs h0 b o h1)⟩⟩
theorem fV{w:World}{base g cap n size j:Nat}{e:TypeId}{xs:List Value}(h:w.ownsRow base e size (.slice (g,0) n cap) n xs)(hj:j<xs.length)(v:Value):(w.setCell (g,j) v).ownsRow base e size (.slice (g,0) n cap) n (xs.set j v):=by
 refine⟨by rw[List.length_set];exact h.1,?_⟩;rcases h.2 with⟨h2,_⟩|⟨g2,c2,cur,h2,hg,hb,hn,hc,hs,ht⟩
 ·cases h2
 ·cases h2
  refine .inr ⟨g,cap,cur.setIfInBounds j v,rfl,hg,?_,hn,hc,by simpa using hs,?_⟩
  ·simp only[World.setCell,Array.getElem?_modify,hb]
   simp
  ·rw[Array.toList_setIfInBounds,←ht,List.take_set]
theorem zk:∀(k i:Nat) (L:List Nd) (x:Nd) (bv:Value) (B:List Int),L[i]?=some x→bY k (L.set i {x with byt:=B,bv:=bv})=(bY k L).set (i*5+4) bv
 | k,i,[],x,bv,B,h=>by simp at h
 | k,0,n::L,x,bv,B,h=>by
   simp at h
   subst h;rfl
 | k,i+1,n::L,x,bv,B,h=>by
   have ih:=zk (k+1) i L x bv B (by simpa using h);rw[List.set_cons_succ,bY,bY,ih,show(i+1)*5+4=(n.cells k).length+(i*5+4)from by simp[Nd.cells];omega,List.set_append_right _ _ (by omega)];simp
theorem aat(L:List Nd)(i:Nat)(x:Nd)(bv:Value)(B:List Int):iD (L.set i {x with byt:=B,bv:=bv})=(iD L).set i {x.sk with byt:=B}:=by
 unfold iD;rw[List.map_set];rfl
theorem wW(L:List Nd):cZ (iD L)=(aS L).sum:=by
 unfold cZ iD aS;rw[List.map_map];rfl
theorem DK.setB{w:World}{kb:Nat}{s:KV}{iv:Value}{L:List Nd}{g cap i:Nat}{x:Nd}{bv:Value}{B:List Int}(h:DK w kb s iv L)(hiv:iv=.slice (g,0) L.length cap)(hx:L[i]?=some x)(hr:Rw w bv B)(hg:∀q,bv.ownBlock=some q→kb≤q) :
 DK (w.setCell (g,i*5+4) bv) kb s iv (L.set i {x with byt:=B,bv:=bv}):=by
 have hil:=(bV hx).1;have hgb:∃cur,Blk w g cur 252:=by
  rcases h.row.2 with⟨h2,_⟩|⟨g2,c2,cur,h2,_,hb,_⟩
  ·rw[hiv]at h2;cases h2
  ·rw[hiv]at h2;cases h2
   exact⟨cur.toList,by unfold Blk;simpa using hb⟩
 obtain⟨cur,hgb⟩:=hgb;have hk:Keep (λq=>q=g) w (w.setCell (g,i*5+4) bv):=Keep.setCell w g _ _;refine⟨?_,?_,λn hn=>?_,by simpa using h.few,by simpa using h.one⟩
 ·rw[List.length_set]
  exact h.blk.keep hk (λe=>hgb.ne h.blk (by decide) e.symm)
 ·rw[zk 0 i L x bv B hx,List.length_set]
  have:=h.row;rw[hiv]at this⊢;exact fV this (by rw[yS];omega) bv
 ·rcases List.mem_or_eq_of_mem_set hn with hn|rfl
  ·refine⟨(h.aS n hn).1.keep hk λq hq e=>?_,(h.aS n hn).2⟩
   subst e;obtain⟨_,c2,hb⟩:=(h.aS n hn).1.lt hq;exact hb.ne hgb (by decide) rfl
  ·refine⟨hr.keep hk λq hq e=>?_,hg⟩
   subst e;obtain⟨_,c2,hb⟩:=hr.lt hq;exact hb.ne hgb (by decide) rfl
theorem TM(b old:List Int)(zs:List Value)(N:Nat)(hz:zs.length=N)(h1:b.length≤N)(h2:old.length≤N)(h3:N=b.length∨N=old.length) :
 b.map (Value.int .u8)++(old.map (Value.int .u8)++zs.drop old.length).drop b.length=(b++old.drop b.length).map (Value.int .u8):=by
 rw[List.map_append];congr 1
 rcases h3 with h3|h3
 ·rw[List.drop_of_length_le (by simp;omega),List.drop_of_length_le (by omega)];rfl
 ·rw[show zs.drop old.length=[]from List.drop_of_length_le (by omega),List.append_nil,List.map_drop]
theorem XO(N:List Nd)(i:Nat)(x:Nd)(h:N[i]?=some x):N.set i {x with byt:=[]++x.byt.drop 0}=N:=by
 obtain⟨hi,he⟩:=bV h;have:({x with byt:=[]++x.byt.drop 0}:Nd)=N[i]:=by rw[he];simp
 rw[this];exact List.set_getElem_self hi
structure AtD(w:World)(kb:Nat)(s:KV)(mb:Nat)(r:Nat×List Nd)(b:List Int)(w1:World)(iv:Value)(L:List Nd)(n:Nat):Prop where
 dk:DK w1 kb s iv L
 pos:1≤n
 le:n≤L.length
 res:r=qL mb (iD L) n b
 keep:Keep (λq=>kb≤q) w w1
 sum:cZ (iD L)≤mb
theorem NP(kb:Nat)(s:KV)(iv:Value)(L:List Nd)(mi mb:Nat)(nm x:ByteArray)(p:Option Addr)(XP:Nat)(b:List Int)(d n:Nat)(w:World)(h:DK w kb s iv L)(hd:s.d=mi)(OY:mi≤100000)(he:s.e=mb)(hmb:mb≤100000)(hpv:s.pv=.slice none 0 0)(hov:s.ov=.slice none 0 0)
 (hbs:BS w p b)(hbl:b.length≤200000)(hbk:0<b.length→∀q o,p=some ⟨q,o,none⟩→q<kb)(hsum:cZ (iD L)≤mb)(hw:Calls prog 183 #[kb,nm] w (Z.b (.tuple #[.int .i64 d,x,.int .i64 n,(0:Int)]) w))
 (r:Nat×List Nd)(hr:if n=0 then r=(if mi≤L.length then(12,iD L)else qL mb (iD L++[⟨d,x,false,[],eU⟩]) (L.length+1) b)else n≤L.length∧r=qL mb (iD L) n b) :
 Calls prog 104 #[kb,nm,false,(p,b.length,XP)] w λe w'=>wX w kb s r e w':=by
 obtain⟨g,cap,hiv,ht,hg⟩:=h.tree;have hfew:=h.few;have HW:=xh hw;have HDK:=xh h;have HIV:=xh hiv;have HBS:=xh hbs;have UY:=xh hbk;have HR:=xh hr;have aeT:=xh hsum;have UQ:=xh hpv;have HOV:=xh hov;have HD:=xh hd;have HE:=xh he;clear hw h hr hiv ht hbs hbk hsum hpv hov hd he;go_enter func104,ntmps104
 go_upto_if 34 with(go_at_call 183;((with_reducible refine aH HW.o ?_);rintro e w1 ⟨rfl,k1⟩;have bP:=xh k1;clear k1))
 go_cut [11] (λs11 wx=>∃n1:Nat,s11=.int .i64 n1∧Hid (∃iv1 L1,AtD w kb s mb r b wx iv1 L1 n1))
 case first=>
  by_cases hn:n=0
  ·have hr:=HR.o
   rw[if_pos hn]at hr;subst hn;have c7:w1.cell? (kb,7)=some (.slice (g,0) L.length cap):=by rw[←HIV.o];exact(HDK.o.bel bP.o).blk.cell 7
   have c3:w1.cell? (kb,3)=some (.int .i64 (mi:Int)):=by rw[←HD.o];exact(HDK.o.bel bP.o).blk.cell 3
   by_cases hm:mi≤L.length
   ·rw[if_pos hm]at hr
    have HRR:=xh hr;clear hr;go_upto_region 7 with fail
    go_quiet (fail)
    go_wp2
    go_ret
    exact⟨by rw[HRR.o];rfl,Keep.of_bel _ (aj bP.o nq),λh=>by rw[HRR.o]at h;cases h⟩
   ·rw[if_neg hm]at hr
    have HRR:=xh hr;have HM:=xh λiv L' (W:World) hB hr=>IQ kb s iv L' W hB hr d x false;clear hr;go_upto_region 7 with fail
    go_quiet (fail)
    have kd:Bel w1 (w1.drewN nq):=aj (Bel.refl _) nq;generalize w1.drewN nq=wd at *
    have jY:=xh (bP.o.tr kd);have DD:=xh (HDK.o.bel jY.o);clear kd c7 c3;go_wp2_with (go_at_call 184;((with_reducible refine aH (HM.o iv L wd DD.o.blk DD.o.row hfew) ?_);rintro e w2 ⟨rfl,Ak,B2,R2,K2⟩))
    go_meet
    exact⟨L.length+1,rfl,xh ⟨Ak,_,DD.o.made d x false (by omega) B2 R2 K2,by omega,by simp,by rw[HRR.o,Ho];rfl,(Keep.of_bel _ jY.o).tr (K2.mono λq hq=>by
     rcases hq with rfl|hq
     ·exact bM _
     ·rw[HIV.o]at hq;cases hq;show kb≤g;omega),by rw[Ho,vX];exact aeT.o⟩⟩
  ·have hr:=HR.o
   rw[if_neg hn]at hr;obtain⟨r1,r2⟩:=hr;have hnb:((n:Int)==0)=false:=dK (by omega);have HAT:Hid (∃iv1 L1,AtD w kb s mb r b w1 iv1 L1 n):=xh ⟨iv,L,HDK.o.bel bP.o,by omega,r1,r2,Keep.of_bel _ bP.o,aeT.o⟩;clear r2 hn;go_wp2_with fail
   go_meet
   exact⟨n,rfl,HAT⟩
 case rest=>
  obtain⟨n1,rfl,HAT⟩:=hcut;obtain⟨iv1,L1,hat⟩:=HAT.o;obtain⟨g1,cap1,aeU,ht1,hg1⟩:=hat.dk.tree;have aiW:=hat.dk.few;have h1:=hat.pos;have h2:=hat.le;have hin:=sS kb g1 cap1 L1 wc ht1 n1 h1 h2 (by omega);have hlt:n1-1<L1.length:=by omega
  have hy:=bT hlt;have hyb:=hat.dk.aS L1[n1-1] (List.getElem_mem hlt);have hres:=hat.res;unfold qL at hres;rw[show(iD L1)[n1-1]?=some (L1[n1-1]).sk from by unfold iD;rw[fA,hy];rfl]at hres;simp only at hres
  have hrg:=ht1.2.2 (n1-1) L1[n1-1] hy;generalize L1[n1-1]=y at *
  obtain⟨q,c,hbv,hbc,_,hqn⟩:=hyb.1.slice;have c3:wc.cell? (g1,(n1-1)*5+3)=some (.bool y.dir):=hrg 3 _ rfl;have c4:wc.cell? (g1,(n1-1)*5+4)=some (.slice q y.byt.length c):=by rw[←hbv];exact hrg 4 _ rfl
  have c7:wc.cell? (kb,7)=some (.slice (g1,0) L1.length cap1):=ht1.1;have hcl:=ht1.2.1;have Dq:=xh hin;have HA:=xh hat;have HY:=xh hy;have aau:=xh aeU;have YW:=xh hyb;have NJ:=xh hbv;have HT1:=xh ht1;have hn1:(0:Int)≤((n1-1:Nat):Int):=by omega
  have hn2:((n1-1:Nat):Int)<(L1.length:Int):=by omega
  clear hin hat hy aeU hyb hbv ht1 hrg hqn;cases Ej:y.dir with
  | true=>
    have HRR:Hid (r.1=11):=xh (by rw[hres,if_pos (show y.sk.dir=true from Ej)]);rw[Ej]at c3;clear hres Ej c4;go_wp2_with (go_at_call 185;((with_reducible refine aH Dq.o ?_);rintro e w2 ⟨rfl,hh⟩;subst hh))
    go_ret
    exact⟨by rw[HRR.o];rfl,HA.o.keep,λh=>by rw[HRR.o]at h;cases h⟩
  | false=>
    rw[if_neg (by rw[show y.sk.dir=false from Ej];simp)]at hres;rw[Ej]at c3;have NQ:=xh hres;clear hres Ej;have hsm:=HA.o.sum;rw[wW]at hsm;have c5':wc.cell? (kb,5)=some (.slice none 0 0):=by rw[←UQ.o];exact HA.o.dk.blk.cell 5
    have c6':wc.cell? (kb,6)=some (.slice none 0 0):=by rw[←HOV.o];exact HA.o.dk.blk.cell 6
    have HU:Hid (Calls prog 118 #[kb] wc λe w'=>e=.returned (.agg (fM 0 0 0 L1.length (aS L1).sum).toArray)∧Bel wc w'):=xh (Bf kb g1 cap1 L1 wc HT1.o [] none none 0 0 0 c5' (bM _) (λi n h=>by simp at h) c6'
     (λn hn=>by obtain⟨q,c,h,_⟩:=(HA.o.dk.aS n hn).1.slice;exact⟨q,c,h⟩) (by simp) (by omega) (by simp) (by omega) (by omega))
    clear c5' c6';obtain⟨tot,htot⟩:=e_x ((aS L1).sum);rw[htot]at HU hsm;have XQ:=xh htot;have hyl:y.byt.length≤tot:=by
     have:=nI (iD L1) (n1-1) y.sk {y.sk with byt:=[]} (by unfold iD;rw[fA,HY.o];rfl);rw[wW,htot]at this;simp[Nd.sk]at this
     omega
    have c54:wc.cell? (kb,4)=some (.int .i64 (mb:Int)):=by rw[←HE.o];exact HA.o.dk.blk.cell 4
    clear htot
    go_upto_region 14 with(first
     | (go_at_call 185;((with_reducible refine aH Dq.o ?_);rintro e w2 ⟨rfl,hh⟩;subst hh))
     | (go_at_call 118;((with_reducible refine aH HU.o ?_);rintro e w3 ⟨rfl,k3⟩))
     | (refine aA rfl 159 (.tmp 14) (.tmp 62) rfl rfl w3.heap.size (fM 0 0 0 L1.length tot) (fM 0 0 0 0 0) 159 (Blk.new w3 _ _) rfl rfl (by kernel_rfl) rfl (by intro v hv;simp[fM]at hv;rcases hv with rfl|rfl|rfl|rfl|rfl<;>rfl) ?_;intro w4 B4 K4))
    have kc:Bel wc w4:=k3.tr ((Below.heap_alloc' w3 _).trans (K4.below _ (by simp) (λk hk=>by omega)));have ahE:wc.heap.size≤w3.heap.size:=k3.size;obtain⟨g14,hge⟩:=e_x w3.heap.size;rw[hge]at B4 ahE⊢;have HB4:=xh B4.out;have Ir:=xh kc;have c4':=af kc c4;have c7':=af kc c7;have aeV:=af kc c54;have cu:=B4.out.c 4 rfl;clear B4 K4 kc k3 hge c3 c4 c7 c54;refine(Classical.em (b.length<y.byt.length)).elim (λhlo=>?lo) (λhlo=>?hi)
    case' lo=>
     refine(Classical.em (0<b.length)).elim (λhb=>?lo1) (λhb=>?lo2)
     case' lo1=>
      have hw1:IntKind.i64.wrap ((tot:Int)-(y.byt.length:Int))=(tot:Int)-(y.byt.length:Int):=by rw[IntKind.wrap_i64];omega
      have hw2:IntKind.i64.wrap ((tot:Int)-(y.byt.length:Int)+(y.byt.length:Int))=(tot:Int)-(y.byt.length:Int)+(y.byt.length:Int):=by rw[IntKind.wrap_i64];omega
      have hle:¬((mb:Int)<(tot:Int)-(y.byt.length:Int)+(y.byt.length:Int)):=by omega
    case' hi=>
     refine(Classical.em (0<b.length)).elim (λhb=>?hi1) (λhb=>?hi2)
     case' hi1=>
      refine(Classical.em (mb<tot+(b.length-y.byt.length))).elim (λhx=>?hx1) (λhx=>?hx2)
      case hx1=>
       have hw1:IntKind.i64.wrap ((tot:Int)-(y.byt.length:Int))=(tot:Int)-(y.byt.length:Int):=by rw[IntKind.wrap_i64];omega
       have hw2:IntKind.i64.wrap ((tot:Int)-(y.byt.length:Int)+(b.length:Int))=(tot:Int)-(y.byt.length:Int)+(b.length:Int):=by rw[IntKind.wrap_i64];omega
       have hle:(mb:Int)<(tot:Int)-(y.byt.length:Int)+(b.length:Int):=by omega
       have HRR:Hid (r=(12,iD L1)):=xh (by
        rw[NQ.o,if_pos ⟨hb,by rw[wW,XQ.o];simp[Nd.sk];omega⟩])
       go_upto_region 18 with fail
       go_quiet (fail)
       go_wp2
       go_ret
       exact⟨by rw[HRR.o];rfl,HA.o.keep.tr (Keep.of_bel _ (aj Ir.o nq)),λh=>by rw[HRR.o]at h;cases h⟩
      case' hx2=>
       have hw1:IntKind.i64.wrap ((tot:Int)-(y.byt.length:Int))=(tot:Int)-(y.byt.length:Int):=by rw[IntKind.wrap_i64];omega
       have hw2:IntKind.i64.wrap ((tot:Int)-(y.byt.length:Int)+(b.length:Int))=(tot:Int)-(y.byt.length:Int)+(b.length:Int):=by rw[IntKind.wrap_i64];omega
       have hle:¬((mb:Int)<(tot:Int)-(y.byt.length:Int)+(b.length:Int)):=by omega
    all_goals
     go_upto_region 18 with fail
     go_quiet (fail)
     have HWD:Hid (Bel w4 (w4.drewN nq)):=xh (aj (Bel.refl _) nq);generalize w4.drewN nq=wd at *
     have c7d:wd.cell? (kb,7)=some (.slice (g1,0) L1.length cap1):=af HWD.o c7'
     first
      | (have:=(hlo:b.length<y.byt.length);obtain⟨zs,hzl,hmk⟩:=vC y.byt.length (by omega);have aav:=λW=>hmk ((y.byt.length:Nat):Int) W rfl;have oh:=xh hzl;clear hmk hzl cu aeV c4' c7';go_upto_region 21 with fail)
      | (have:=(hlo:¬(b.length<y.byt.length));obtain⟨zs,hzl,hmk⟩:=vC b.length (by omega);have aav:=λW=>hmk ((b.length:Nat):Int) W rfl;have oh:=xh hzl;clear hmk hzl cu aeV c4' c7';go_upto_region 21 with fail)
     have k5:Bel wc (wd.alloc (.cells zs.toArray 5)):=(Ir.o.tr HWD.o).tr (Bel.start wd _);have B5:=Blk.new wd zs 5;have c75:(wd.alloc (.cells zs.toArray 5)).cell? (kb,7)=some (.slice (g1,0) L1.length cap1):=af (Bel.start wd _) c7d;have XR:wc.heap.size≤wd.heap.size:=(Ir.o.tr HWD.o).size;generalize wd.alloc (.cells zs.toArray 5)=w5 at *
     obtain⟨go,aeW⟩:=e_x wd.heap.size;rw[aeW]at B5 XR⊢;have zU:=xh B5;have pX:=xh k5;have acC:Rw w5 y.bv y.byt:=YW.o.1.bel k5;have Ij:Hid (0<(y.byt.map (Value.int .u8)).length→∃ad,q=some ad∧∀j v,(y.byt.map (Value.int .u8))[j]?=some v→w5.cell? (ad.add j)=some v):=xh λh0=>by
      rcases acC.2 with⟨_,h⟩|⟨g2,c2,cur,h,_⟩
      ·rw[h]at h0;simp at h0
      ·rw[NJ.o]at h
       cases h
       obtain⟨g3,hg3,hc3⟩:=acC.cells NJ.o;cases hg3
       refine⟨_,rfl,λj v hj=>?_⟩;rw[show(⟨g2,0,none⟩:Addr).add j=⟨g2,j,none⟩from by unfold Addr.add;split<;>simp_all];exact hc3 j v hj
     clear aeW B5 k5 aav acC c7d;go_upto_region 22 with(refine jw rfl (.tmp 99) (.tmp 100) 59 59 rfl 5 underlying59 (by kernel_rfl) go q _ _ y.byt.length c rfl rfl zs 5 zU.o (y.byt.map (Value.int .u8)) (by rw[jE];exact(Nat.min_eq_left (by omega)).symm) Ij.o (by rw[jE,oh.o];omega) (by intro v hv;obtain⟨z,_,rfl⟩:=List.mem_map.1 hv;rfl) ?_;intro w6 B6 K6)
     have ahF:kb<go:=by have:=HA.o.dk.blk.lt;omega
     have c76:w6.cell? (kb,7)=some (.slice (g1,0) L1.length cap1):=(K6.cell ⟨kb,7,none⟩ (World.block_lt_of_cell? _ _ c75) (by show kb≠go;omega)).trans c75;have AL:=xh B6.out;have mG:=xh K6;have aeX:BS wc p b:=HBS.o.dm HA.o.keep λh0 a o hp h=>by have:=UY.o h0 a o hp;omega
     have acD:BS w6 p b:=(aeX.bel pX.o).dm K6 λh0 a o hp e=>by have:=UY.o h0 a o hp;omega
     have Dt:=xh (λh0=>acD.cells_at h0);have zT:=xh acD.1;clear B6 K6 aeX acD c75;go_upto_region 23 with(refine jw rfl (.tmp 102) (.tmp 103) 59 59 rfl 5 underlying59 (by kernel_rfl) go p _ _ b.length XP rfl rfl _ 5 AL.o (b.map (Value.int .u8)) (by rw[jE];exact(Nat.min_eq_left (by omega)).symm) Dt.o (by simp[oh.o];omega) (by intro v hv;obtain⟨z,_,rfl⟩:=List.mem_map.1 hv;rfl) ?_;intro w7 B7 K7)
     have c77:w7.cell? (kb,7)=some (.slice (g1,0) L1.length cap1):=(K7.cell ⟨kb,7,none⟩ (World.block_lt_of_cell? _ _ c76) (by show kb≠go;omega)).trans c76;have zH:Hid (Blk w7 go ((b++y.byt.drop b.length).map (Value.int .u8)) 5):=xh (by
      have:=B7.out;rw[jE,jE,TM b y.byt zs _ oh.o (by omega) (by omega) (by omega)]at this;exact this)
     have I4:Hid (Keep (λq=>wc.heap.size≤q) wc w7):=xh (((Keep.of_bel _ pX.o).dY mG.o (λi h=>.inl (by rw[h];exact XR))).dY K7 (λi h=>.inl (by rw[h];exact XR)));have HD7:Hid (DK w7 kb s iv1 L1):=xh (HA.o.dk.bel (I4.o.below _ (bM _) (λ_ h=>h)));clear B7 K7 c76
     first
      | have:=(hb:0<b.length)
        have HRR:Hid (r=(0,(iD L1).set (n1-1) {y.sk with byt:=b++y.byt.drop b.length})):=xh (by
         rw[NQ.o,if_neg (by rintro⟨h3,h4⟩;rw[wW,XQ.o]at h4;simp[Nd.sk]at h4;omega)];rfl)
        obtain⟨cu1,acE⟩:∃cur,Blk w7 g1 cur 252∧cur.length=cap1*5:=by
         rcases HD7.o.row.2 with⟨h3,_⟩|⟨g2,c2,cur,h3,_,hb3,_,_,hs3,_⟩
         ·rw[aau.o]at h3;cases h3
         ·rw[aau.o]at h3;cases h3
          exact⟨cur.toList,by unfold Blk;simpa using hb3,by simpa using hs3⟩
        have cst:w7.cell? (g1,(n1-1)*5+4)=some y.bv:=by
         obtain⟨gg,cc,h3,h4,_⟩:=HD7.o.tree;rw[aau.o]at h3;cases h3
         exact h4.2.2 (n1-1) y HY.o 4 _ rfl
        have fst:=acE.1.frozen;have ajE:=acE.1.lt;clear acE;go_wp2
        go_ret
        have hrw:∀N:Nat,zs.length=N→Rw w7 (.slice (go,0) N N) (b++y.byt.drop b.length):=λN hN=>by
         have HLN:(b++y.byt.drop b.length).length=N:=(by have:=oh.o;simp;omega);have hNm:N≤maxLen:=(by have:=oh.o;unfold maxLen;omega);exact⟨λz hz=>by
          rcases List.mem_append.1 hz with hz|hz
          ·exact zT.o z hz
          ·exact YW.o.1.1 z (List.mem_of_mem_drop hz),.inr ⟨go,N,_,by rw[HLN],zH.o,by rw[HLN];exact bM _,by rw[jE,HLN];exact bM _,hNm,by rw[←jE (f:=Value.int .u8),List.take_length]⟩⟩
        refine⟨by rw[HRR.o];rfl,?_,λ_=>⟨iv1,_,?_,HD7.o.setB aau.o HY.o (hrw _ oh.o) (λq hq=>by cases hq;exact Nat.le_of_lt ahF)⟩⟩
        ·exact(HA.o.keep.dY I4.o (λi h=>.inr (bU HA.o.keep.size h))).tr ((Keep.setCell w7 g1 _ _).mono λq h=>by have h:q=g1:=h;rw[h];omega)
        ·rw[aat,HRR.o]
      | have:=(hb:¬(0<b.length))
        have HRR:Hid (r=(0,iD L1)):=xh (by
         rw[NQ.o,if_neg (by rintro⟨h3,h4⟩;omega)];have hb0:b=[]:=List.eq_nil_of_length_eq_zero (by omega);rw[hb0];exact congrArg (Prod.mk 0) (XO (iD L1) (n1-1) y.sk (by unfold iD;rw[fA,HY.o];rfl)))
        go_wp2
        go_ret
        exact⟨by rw[HRR.o];rfl,HA.o.keep.dY I4.o (λi h=>.inr (bU HA.o.keep.size h)),λ_=>⟨iv1,L1,by rw[HRR.o],HD7.o⟩⟩
theorem Qs(kb:Nat)(s:KV)(iv:Value)(L:List Nd)(mi mb:Nat)(nm:ByteArray)(is:Bool)(p:Option Addr)(XP:Nat)(b:List Int)(w:World)(h:DK w kb s iv L)(hd:s.d=mi)(OY:mi≤100000)(he:s.e=mb)(hmb:mb≤100000)(hpv:s.pv=.slice none 0 0)(hov:s.ov=.slice none 0 0)
 (hbs:BS w p b)(hbl:b.length≤200000)(hbk:0<b.length→∀q o,p=some ⟨q,o,none⟩→q<kb)(hsum:cZ (iD L)≤mb)(hs:nm.size≤1000000)(hroot:isDir L 1=true) :
 Calls prog 104 #[kb,nm,is,(p,b.length,XP)] w λe w'=>wX w kb s (kR mi mb (iD L) nm.data.toList is b) e w':=by
 cases is with
 | true=>
   have hm:=NR kb s iv L mi nm w h hd OY hs;show Calls _ _ _ _ λe w'=>wX w kb s (Vg mi (iD L) nm.data.toList) e w'
   have HM:=xh hm;generalize Vg mi (iD L) nm.data.toList=r at *
   clear hm h hd he hpv hov hbs hbk hroot;go_enter func104,ntmps104;go_wp2_with (go_at_call 182;((with_reducible refine aH HM.o ?_);rintro e w1 ⟨rfl,k1⟩;have HK:=xh k1;clear k1))
   go_ret
   exact⟨rfl,HK.o⟩
 | false=>
   obtain⟨g,cap,hiv,ht,hg⟩:=h.tree;have hw:=walk_any kb g cap L w ht nm hs (by have:=h.few;omega);unfold kR;rw[qp,zO,if_neg (by simp)];have hold:=mD (L:=L) (s:=nm.data.toList) hroot;obtain⟨d,x,n,c,hr⟩:∃d x n c,az L nm.data.toList=(d,x,n,c):=⟨_,_,_,_,rfl⟩;rw[hr]at hw hold⊢;simp only[PZ]at hw hold⊢
   by_cases hc:c=0
   ·subst hc
    rw[if_neg (by simp)];refine NP kb s iv L mi mb nm x p XP b d n w h hd OY he hmb hpv hov hbs hbl hbk hsum hw _ ?_;by_cases hn:n=0
    ·rw[if_pos hn,if_pos hn]
    ·rw[if_neg hn,if_neg hn]
     exact⟨hold rfl,rfl⟩
   ·rw[if_pos hc]
    have HW:=xh hw;have HC:=xh hc;have hcb:((c:Int)==0)=false:=dK (by omega);clear hw hc h hd he hpv hov hbs hbk hroot hr hold ht hiv;go_enter func104,ntmps104;go_wp2_with (go_at_call 183;((with_reducible refine aH HW.o ?_);rintro e w1 ⟨rfl,k1⟩))
    go_ret
    exact⟨rfl,Keep.of_bel _ k1,λh=>absurd h HC.o⟩
end
section
open Go.Proofs.Tryz Go.RowKit Go.Maps
theorem KC(w:World)(g:Nat):(Instr.sliceAt 55 (.pointer (g,2)) none none none).run prog w=.ok (.slice (g,2) 256 256) w:=by kernel_rfl
theorem FH(w:World)(g:Nat)(x:Int)(r:Nat)(hx:x=r)(hr:r<512) :
 (Instr.sliceAt 417 (.pointer (g,0)) (some (.int .i64 x)) none none).run prog w=.ok (.slice (g,r) (512-r) (512-r)) w:=by
 subst hx;have e1:prog.arrayLen 417=512:=by kernel_rfl
 have e2:prog.elem 417=5:=by kernel_rfl
 have e3:(sizeOf 5).run prog w=.ok 1 w:=by kernel_rfl
 rw[run_sliceAt_array_l w _ _ (by rw[e1,e2];exact underlying417) .i64 r (by omega) (by rw[e1];omega),e1,e2,e3];simp only[Result.andThen_ok,slicedAt]
 rw[if_neg (by omega),Addr.add_mid];simp
theorem qH{P:Program}{w:World}{ops:Array Oper}{rest:List Oper}{o:Oper}{a:Act}{Q:Exit→Act→World→Prop}(hgd:o.guard=none)(d s:Operand)(dT sT:TypeId)
 (ho:o.op=.call {callee:=.builtin .copy,args:= #[d,s],argTypes:= #[dT,sT]})(elem:TypeId)(hu:P.underlying dT=some (.slice elem))(hsz:(P.info? elem).map (·.size)=some 1)
 (g o1 dLen dCap:Nat)(str:ByteArray)(hd:a.eval d=.slice (g,o1) dLen dCap)(hs:a.eval s=.string str)(cur:List Value)(t:TypeId)(hB:Blk w g cur t)(hle:str.size≤dLen)(hfit:o1+str.size≤cur.length)
 (h:∀w',Hid (Blk w' g (splice cur o1 ((yA str).map (Value.int .u8))) t)→Keep (λk=>k=g) w w'→wpList P ops Q rest (a.put o.dst (goInt str.size)) w'):wpList P ops Q (o::rest) a w:=by
 refine wpList_plain hgd λK hK=>?_;have hrun:=Lib.run_copy_row_string (P:=P) w dT sT o.type elem g o1 dLen dCap str cur.toArray t hu hsz hB hle (by simpa using hfit);unfold Oper.wp;simp[execOp,ho,resolve,invoke,builtin,hd,hs,hrun,Result.andThen]
 have e:(cur.take o1++(Lib.byteCells str.data.toList++cur.drop (o1+str.size)))=splice cur o1 ((yA str).map (Value.int .u8)):=by
  unfold splice yA;rw[show((str.data.toList.map λc=>(c.toNat:Int)).map (Value.int .u8)).length=str.size from by simp,List.map_map];rfl
 refine hK _ _ (h _ (xh ?_) ?_)
 ·rw[←e]
  exact setRow_heap w g _ _ t _ hB
 ·exact Keep.setRow w g _
theorem YI(w:World):(zeroValue 417).run prog w=.ok (.agg (rowOf (λ_=>0) 512).toArray) w:=by
 rw[show rowOf (λ_=>0) 512=List.replicate 512 (Value.int .u8 0)from by unfold rowOf;rw[List.map_const'];simp];exact(by kernel_rfl:(zeroValue 417).run prog w=.ok (.agg (List.replicate 512 (Value.int .u8 0)).toArray) w)
theorem YJ(w:World)(g:Nat):(Instr.sliceAt 417 (.pointer (g,0)) none none none).run prog w=.ok (.slice (g,0) 512 512) w:=by kernel_rfl
theorem OQ(n:Nat)(z:List Int)(bs:List Int)(hz:z.length=256)(hb:bs.length=256):splice (ak n ⟨6,z⟩) 2 (bs.map (Value.int .u8))=ak n ⟨6,bs⟩:=by
 unfold splice ak;simp only[List.take_succ_cons,List.take_zero,jE]
 rw[List.drop_eq_nil_of_le (by simp[hz,hb])];simp
theorem KE:(prog.info? 3).map (λi=>(i.size,i.bytes,(i.zero.map (·.cells.size))))=some (1,8,some 1):=by kernel_rfl
theorem y9(n:Int):prog.built 260 [(0,.int .i64 n),(1,.int .i64 6)]=some (Value.int .i64 n:: .int .i64 6::(List.replicate 256 (0:Int)).map (Value.int .u8)).toArray:=by kernel_rfl
theorem Bl(p:Option Addr)(cap:Nat)(ss:List ByteArray)(w:World)(hS:SS w.heap.size w p ss)(hn:ss.length≤8) :
 Calls prog 187 #[(p,ss.length,cap)] w λe w'=>Bel w w'∧
  (Good ss→∃v,e=.returned (.tuple #[v,.int .u64 (iq (aK ss) ss.length),(0:Int)])∧
    w'.ownsRow w.heap.size 260 258 v 2 ([254,255].flatMap λn=>ak n ⟨6,(List.range 256).map λi=>nO ss (256*n+i)⟩))∧
  (¬Good ss→e=.returned (.tuple #[(),.int .u64 0,(6:Int)])):=by
 have HS:=xh hS;clear hS;go_enter func187,ntmps187;go_wp2
 go_loop [5] (λi=>∃k:Nat,k≤ss.length∧i=.int .i64 k∧∀j,j<k→Dj (arg ss j)=true) (λi=>ss.length-(intOf i).toNat)
 case atStart=>exact⟨0,Nat.zero_le _,rfl,λj hj=>by omega⟩
 case round=>
  obtain⟨k,hk,rfl,hall⟩:=hrel;have nX:=xh hall;clear hall;by_cases hlt:k<ss.length
  ·obtain⟨b,o,rfl,hb,hc⟩:=HS.o (by omega)
   have hcx:=hc k hlt;have hax:=OO ss k hlt;generalize hss:ss[k]=s at *
   have HC:=xh hc;have HAX:=xh hax;have HSS:=xh hss;clear hc hax hss;by_cases hlen:30<s.size
   ·have HBAD:=xh (show ¬Good ss from λh=>by
     have:=(fC.1 (h k hlt)).1;rw[HAX.o,dB]at this;omega)
    have hlen':(30:Int)<(s.size:Int):=by omega
    go_wp2
    go_ret3
    exact⟨Below.refl _ _,λh=>absurd h HBAD.o,λ_=>rfl⟩
   ·have hlen':(s.size:Int)≤30:=by omega
    go_wp2
    go_loop [6] (λi=>∃x:Nat,x≤s.size∧i=.int .i64 x∧∀j,j<x→(yA s).getD j 0≠0) (λi=>s.size-(intOf i).toNat)
    case atStart=>exact⟨0,Nat.zero_le _,rfl,λj hj=>by omega⟩
    case round=>
     obtain⟨x,hx,rfl,hno⟩:=hrel;have DT:=xh hno;clear hno;by_cases hxl:x<s.size
     ·have hgx:(yA s).getD x 0=(s[x].toNat:Int):=by
       unfold yA;rw[List.getD_eq_getElem?_getD,fA,bT (by simpa using hxl)];rfl
      have HGX:=xh hgx;clear hgx;by_cases hz:((s[x].toNat:Nat):Int)=0
      ·have hzb:(((s[x].toNat:Nat):Int)==0)=true:=by simpa using hz
       have HBAD:=xh (show ¬Good ss from λh=>by
        have:=(fC.1 (h k hlt)).2;rw[HAX.o]at this;refine this ?_;have h2:=HGX.o;rw[hz]at h2;rw[←h2,List.getD_eq_getElem?_getD,bT (by rw[dB];exact hxl)];exact List.getElem_mem _)
       clear hz;go_wp2
       go_ret3
       exact⟨Below.refl _ _,λh=>absurd h HBAD.o,λ_=>rfl⟩
      ·have hzb:(((s[x].toNat:Nat):Int)==0)=false:=by simpa using hz
       have HNZ:Hid ((yA s).getD x 0≠0):=xh (by rw[HGX.o];exact hz);clear hz;go_wp2
       go_round
       case rel=>exact⟨x+1,by omega,by go_num,iQ DT.o HNZ.o⟩
       case measure=>simp[intOf]<;>omega
     ·obtain rfl:x=s.size:=by omega
      have HGK:Hid (Dj (arg ss k)=true):=xh (fC.2 (by
       rw[HAX.o,dB];refine⟨by omega,λh=>?_⟩;obtain⟨j,hj,he⟩:=List.getElem_of_mem h;have:=DT.o j (by rw[←dB];exact hj);rw[List.getD_eq_getElem?_getD,bT hj]at this;exact this he))
      go_wp2
      go_round
      case rel=>exact⟨k+1,by omega,by go_num,iQ nX.o HGK.o⟩
      case measure=>simp[intOf]<;>omega
  ·obtain rfl:k=ss.length:=by omega
   have nU:Hid (Good ss):=xh nX.o;obtain⟨z5,hz5⟩:∃z5,z5=rowOf (λ_=>0) 512:=⟨_,rfl⟩;have hz:∀w,(zeroValue 417).run prog w=.ok (.agg z5.toArray) w:=λw=>by rw[hz5];exact YI w
   have HZ5:=xh hz5;clear hz5 nX;go_upto_region 18 with fail
   have ake:∀i∈(eG ss.length 0),(arg ss i).length≤30:=λi hi=>(fC.1 (nU.o i (Af hi))).1;have k7:Bel w (w.alloc (.cells z5.toArray 417)):=Below.heap_alloc' w _;have b7:Blk (w.alloc (.cells z5.toArray 417)) w.heap.size (rowOf (λj=>(nT ss (eG ss.length ss.length)).M (65024+j)) 512) 417:=by rw[nS,show(λj=>(nT ss []).M (65024+j))=(λ_=>(0:Int))from rfl,←HZ5.o];exact Blk.new w _ _
   have hs7:w.heap.size<(w.alloc (.cells z5.toArray 417)).heap.size:=b7.lt;generalize (w.alloc (.cells z5.toArray 417))=w7 at *
   have K7:=xh k7;have zH:=xh b7;obtain⟨g7,hg7⟩:=e_x w.heap.size;rw[hg7]at zH hs7 HS⊢;have HG7:=xh hg7;clear k7 b7 hg7 hz
   go_loopw [9,10,11] (λa l i wr=>∃m:Nat,m≤ss.length∧i=.int .i64 ((ss.length:Int)-1-m)∧a=.int .i64 (nT ss (eG ss.length (ss.length-m))).e∧
    Blk wr g7 (rowOf (λj=>(nT ss (eG ss.length (ss.length-m))).M (65024+j)) 512) 417∧
    wr.ownsRow w7.heap.size 3 1 l m ((eG ss.length (ss.length-m)).map λi=>Value.int .i64 ((nT ss (eG ss.length (ss.length-m))).A i))∧Keep (λq=>g7≤q) w wr∧w7.heap.size≤wr.heap.size)
    (λ_ _ i _=>(intOf i+1).toNat)
   case atStart=>exact⟨0,Nat.zero_le _,by simp,by rw[Nat.sub_zero,nS];rfl,zH.o,by rw[Nat.sub_zero,nS];exact⟨rfl,.inl ⟨rfl,rfl⟩⟩,Keep.of_bel _ K7.o,bM _⟩
   case round=>
    obtain⟨m,hm,rfl,rfl,hbm,hrow,hkw,hsw⟩:=hrel;have HBM:=xh hbm;have gU:=xh hrow;have ug:=xh hkw;clear hbm hrow hkw;by_cases hml:m<ss.length
    ·obtain⟨b,o,rfl,hb,hc⟩:=HS.o (by omega)
     obtain⟨i,hi⟩:∃i:Nat,i=ss.length-1-m:=⟨_,rfl⟩;have hil:i<ss.length:=by omega
     have hcx:=(ug.o.cell ⟨b,o+i,none⟩ (by rw[HG7.o];exact hb) (by show ¬g7≤b;omega)).trans (hc i hil);have hax:=OO ss i hil;have hgi:=(fC.1 (nU.o i hil)).1;have hrev:eG ss.length (ss.length-(m+1))=eG ss.length (ss.length-m)++[i]:=by
      rw[vG _ _ (by omega),show ss.length-(m+1)+1=ss.length-m from by omega,show ss.length-(m+1)=i from by omega]
     have hbd:=sF ss (eG ss.length (ss.length-m)) (λj hj=>(fC.1 (nU.o j (Af hj))).1);rw[kJ]at hbd;have YK:∀j∈eG ss.length (ss.length-m),j≠i:=λj hj e=>by
      subst e;unfold eG at hj;have:=List.mem_reverse.1 hj;rw[List.mem_drop_iff_getElem]at this;obtain⟨q,hq,he⟩:=this;simp at he
      omega
     rw[show(ss.length:Int)-1-m=(i:Int)from by omega];rw[hax,dB]at hgi;generalize hss:ss[i]=s at *
     obtain⟨st,hst⟩:=e_x (nT ss (eG ss.length (ss.length-m)));rw[hst]at hbd HBM gU⊢;obtain⟨A,hA⟩:∃A:Nat,st.e-(s.size:Int)-1=A:=⟨(st.e-(s.size:Int)-1).toNat,by omega⟩;have hA1:65024≤A:=by omega
     have hA2:A+s.size+1≤65536:=by omega
     obtain⟨po,hpo⟩:∃po:Nat,(A:Int)-65024=po:=⟨A-65024,by omega⟩;have aiy:po+s.size<512:=by omega
     have adg:Hid (nT ss (eG ss.length (ss.length-(m+1)))=⟨A,aW st.M A (yA s),jk st.A i A⟩):=xh (by
      rw[hrev,nD,hst];unfold oQ;rw[hax,dB,show st.e-((s.size:Int)+1)=(A:Int)from by omega,Int.toNat_natCast])
     have aiz:=xh hrev;have aiA:=xh YK;have HAP:Hid (A=65024+po):=xh (by omega);have hi0:(0:Int)≤(i:Int):=by omega
     have akf:(i:Int)<(ss.length:Int):=by omega
     have hsl:=λW=>FH W g7 (po:Int) po rfl (by omega);obtain⟨hbd0,hbd1⟩:=hbd;have HI:=xh hi;clear hi hax hst hrev YK hss hc;generalize st.e=e0 at *
     go_upto_region 21 with fail
     have hwr:IntKind.i64.wrap (po:Int)=(po:Int):=by rw[IntKind.wrap_i64];omega
     go_still_tail 8,(by kernel_rfl)
     clear hwr;change wpList _ _ _ _ _ wr.drew
     have kd:Bel wr wr.drew:=Below.drew (Below.refl _ _);generalize wr.drew=wd at *
     have Il:=xh (HBM.o.bel kd);have HRD:=xh (aO gU.o kd);have jY:=xh (ug.o.tr (Keep.of_bel _ kd));have hsd:w7.heap.size≤wd.heap.size:=bU hsw kd.size;clear kd;go_upto_region 22 with(refine qH rfl (.tmp 66) (.tmp 70) 59 9 rfl 5 underlying59 (by kernel_rfl) g7 po _ _ s rfl rfl _ 417 Il.o (by omega) (by rw[Ic];omega) ?_;intro w2 B2 K2)
     have HB2:Hid (Blk w2 g7 (rowOf (λj=>aW st.M A (yA s) (65024+j)) 512) 417):=xh (by
      have:=B2.out;rw[KG _ _ _ _ _ (by rw[dB];omega),←HAP.o]at this;exact this)
     have HR2:=xh (dG HRD.o K2 (λq hq e=>by omega));have iC:=xh (jY.o.tr (K2.mono (λq hq=>by omega)));have hs2:w7.heap.size≤w2.heap.size:=bU hsd K2.size;have aiB:Hid ((eG ss.length (ss.length-(m+1))).map (λj=>Value.int .i64 (jk st.A i A j))=(eG ss.length (ss.length-m)).map (λj=>Value.int .i64 (st.A j))++[.int .i64 A]):=xh (by
      rw[aiz.o,List.map_append];congr 1
      ·apply List.map_congr_left
       intro j hj;simp only[jk]
       rw[if_neg (aiA.o j hj)]
      ·simp[jk])
     clear B2 K2
     go_wp2_with (first
      | (refine au rfl 60 3 (.tmp 73) rfl [.int .i64 A] rfl underlying60 KE (by show 0<1;omega) (by show 1≤2^24;omega) ?_;intro w5 B5 K5)
      | (refine bu rfl (.tmp 72) (.tmp 74) 60 rfl underlying60 KE (by omega) rfl (aO HR2.o K5) _ [.int .i64 A] 3 rfl B5.out rfl (by intro v hv;simp at hv;rcases hv with rfl;rfl) (by unfold maxLen;omega) (by omega) (bU hs2 K5.size) ?_;intro v6 w6 R6 K6))
     have hb6:Blk w6 g7 (rowOf (λj=>aW st.M A (yA s) (65024+j)) 512) 417:=(HB2.o.bel K5).keep K6 (by show ¬w7.heap.size≤g7;omega);exact⟨⟨m+1,by omega,by congr 1;have:=HI.o;omega,by rw[adg.o],by rw[adg.o];exact hb6,by rw[adg.o,aiB.o];exact R6,(iC.o.tr (Keep.of_bel _ K5)).tr (K6.mono (λq hq=>by omega)),bU hs2 (bU K5.size K6.size)⟩,by simp only[intOf];have:=HI.o;omega⟩
    ·obtain rfl:m=ss.length:=by omega
     rw[Nat.sub_self]at HBM gU⊢;rw[show nT ss (eG ss.length 0)=aK ss from rfl]at HBM gU⊢;have hbd:=l9 ss nU.o hn;have hsb:=rJ ss nU.o hn;have hwb:=vH ss nU.o hn;obtain⟨xB,zM⟩:∃xB:Nat,iq (aK ss) ss.length=xB:=⟨(iq (aK ss) ss.length).toNat,by omega⟩;obtain⟨e0,he⟩:=e_x ((aK ss).e);have hq:(e0-8*((ss.length:Int)+2))/16*16=(xB:Int):=by rw[←zM,←he];rfl
     rw[zM,he]at hsb;rw[he]at hbd⊢;obtain⟨hb0,hb1⟩:=hbd;obtain⟨hs0,hs1,hs2⟩:=hsb;obtain⟨po,hpo⟩:∃po:Nat,(xB:Int)-65024=po:=⟨xB-65024,by omega⟩;have aiy:po+8*(ss.length+2)≤512:=by omega
     have HPO:Hid (xB=65024+po):=xh (by omega);have aaR:=xh zM;have HWB:=xh hwb;have afT:Hid ((iq (aK ss) ss.length).toNat=xB):=xh (by rw[zM];exact Int.toNat_natCast _);have aaS:=λW (hW:Blk W g7 (rowOf (λj=>(aK ss).M (65024+j)) 512) 417)=>Kv g7 po 512 (λj=>(aK ss).M (65024+j)) 417 512 (ss.length:Int) W hW (by omega) (by omega) (by omega) (by omega);have HP:=xh (aaS wr HBM.o);have hfull:=λW=>YJ W g7;clear zM he aaS hwb;go_upto_region 25 with(go_at_call 262;with_reducible refine aH HP.o ?_;rintro e w2 ⟨rfl,B2,K2⟩)
     have HB2:Hid (Blk w2 g7 (rowOf (λj=>ja (aK ss) ss.length 1 (65024+j)) 512) 417):=xh (by
      have h2:=B2;rw[FI,←HPO.o]at h2;have e:ja (aK ss) ss.length 1=aW (aK ss).M xB (gu (ss.length:Int)):=by
       show aW (aK ss).M ((iq (aK ss) ss.length).toNat+8*0) (gu (wordAt (aK ss) ss.length 0))=_
       rw[afT.o];rfl
      rw[e];exact h2)
     have HR2:=xh (dG gU.o K2 (λq hq e=>by omega));have iC:=xh (ug.o.tr (K2.mono (λq hq=>by omega)));have hsz2:w7.heap.size≤w2.heap.size:=bU hsw K2.size;clear B2 K2 gU HBM ug HP;obtain⟨pa,ca,rfl,_,_,hpa⟩:=aG HR2.o;have HPA:=xh hpa;clear hpa;go_wp2
     go_loopw [13] (λx wr=>∃i:Nat,i≤ss.length∧x=.int .i64 i∧Blk wr g7 (rowOf (λj=>ja (aK ss) ss.length (i+1) (65024+j)) 512) 417∧Keep (λq=>q=g7) w2 wr) (λx _=>ss.length-(intOf x).toNat)
     case atStart=>exact⟨0,Nat.zero_le _,rfl,HB2.o,Keep.refl _ _⟩
     case round=>
      obtain⟨i,hi,rfl,hbi,hki⟩:=hrel;have HBI:=xh hbi;have HKI:=xh hki;clear hbi hki;by_cases hil:i<ss.length
      ·obtain⟨ga,rfl,akg,aiC,afU,_⟩:=HPA.o.resolve_left (by omega)
       obtain⟨x,hx⟩:∃x:Nat,x=ss.length-1-i:=⟨_,rfl⟩;have U1:x<ss.length:=by omega
       have hrx:(eG ss.length 0)[x]?=some i:=by
        unfold eG;rw[List.drop_zero,List.getElem?_reverse (by simpa using U1),List.length_range,List.getElem?_range (by omega)];congr 1
        omega
       have hcx:wr.cell? ⟨ga,x,none⟩=some (.int .i64 ((aK ss).A i)):=by
        rw[HKI.o.cell ⟨ga,x,none⟩ aiC (by show ¬ga=g7;omega),afU x (by rw[jE,kJ];omega),fA,hrx];rfl
       have hwi:=HWB.o (i+1);have hwe:wordAt (aK ss) ss.length (i+1)=(aK ss).A i:=by unfold wordAt;rw[if_neg (by omega),if_pos (by omega),Nat.add_sub_cancel]
       rw[hwe]at hwi;obtain⟨ai,hai⟩:=e_x ((aK ss).A i);rw[hai]at hcx hwi hwe;obtain⟨aiD,akh⟩:=hwi
       have HP4:Hid (∀W,Blk W g7 (rowOf (λj=>ja (aK ss) ss.length (i+1) (65024+j)) 512) 417→Calls prog 262 #[.slice (g7,0) 512 512,.int .i64 ((po:Int)+8+8*i),.int .u64 ai] W λe w'=>e=.returned (.tuple #[])∧
        Blk w' g7 (rowOf (λj=>ja (aK ss) ss.length (i+1+1) (65024+j)) 512) 417∧Keep (λk=>k=g7) W w'):=xh (λW hW=>by
        have h:=Kv g7 (po+8+8*i) 512 (λj=>ja (aK ss) ss.length (i+1) (65024+j)) 417 512 ai W hW (by omega) (by omega) aiD (by omega);rw[FI,show 65024+(po+8+8*i)=xB+8*(i+1)from by have:=HPO.o;omega,show((po+8+8*i:Nat):Int)=(po:Int)+8+8*i from by omega]at h;have e:ja (aK ss) ss.length (i+1+1)=aW (ja (aK ss) ss.length (i+1)) (xB+8*(i+1)) (gu ai):=by
         rw[ja,afT.o,hwe]
        rw[e];exact h)
       have hw1:IntKind.i64.wrap (po:Int)=(po:Int):=by rw[IntKind.wrap_i64];omega
       have hw2:IntKind.i64.wrap ((po:Int)+8)=(po:Int)+8:=by rw[IntKind.wrap_i64];omega
       have hw3:IntKind.i64.wrap (8*(i:Int))=8*(i:Int):=by rw[IntKind.wrap_i64];omega
       have hw4:IntKind.i64.wrap ((po:Int)+8+8*i)=(po:Int)+8+8*i:=by rw[IntKind.wrap_i64];omega
       have hw5:IntKind.i64.wrap ((ss.length:Int)-1)=(ss.length:Int)-1:=by rw[IntKind.wrap_i64];omega
       have hw6:IntKind.i64.wrap ((ss.length:Int)-1-i)=(x:Int):=by rw[IntKind.wrap_i64];omega
       have hw7:IntKind.u64.wrap ai=ai:=by rw[IntKind.wrap_u64];omega
       have hx0:(0:Int)≤(x:Int):=by omega
       have aki:(x:Int)<(ss.length:Int):=by omega
       clear hx hrx hwe hai afU;go_upto_region 28 with fail
       go_still_tail 17,(by kernel_rfl)
       change wpList _ _ _ _ _ wr.drew
       have kd:Bel wr wr.drew:=Below.drew (Below.refl _ _);generalize wr.drew=wd at *
       have jY:=xh kd;have Il:=xh (HBI.o.bel kd);clear kd hw1 hw2 hw3 hw4 hw5 hw6 hw7;go_wp2_with (go_at_call 262;with_reducible refine aH (HP4.o wd Il.o) ?_;rintro e w4 ⟨rfl,B4,K4⟩;have HB4:=xh B4;have qh:=xh K4;clear B4 K4)
       go_roundw
       case rel=>exact⟨i+1,by omega,by go_num,HB4.o,(HKI.o.tr (Keep.of_bel _ jY.o)).tr qh.o⟩
       case measure=>simp[intOf]<;>omega
      ·obtain rfl:i=ss.length:=by omega
       rw[YL ss nU.o hn]at HBI;have HKT:=xh (iC.o.tr (HKI.o.mono (λq hq=>by omega)));have hb7:=HBI.o;have akj:w7.heap.size≤wr.heap.size:=bU hsz2 HKI.o.size;obtain⟨M,hM⟩:=e_x (nO ss);rw[hM]at hb7;have HM:=xh hM;have aiE:=xh hb7;have akk:g7<wr.heap.size:=hb7.lt;clear HBI hb7 HB2 hM HPA HKI iC HR2;obtain⟨w8,rfl⟩:∃w8:World,w8=wr:=⟨_,rfl⟩;obtain⟨z0,hz0⟩:∃z0:List Value,z0=ak 0 Pg.zero:=⟨_,rfl⟩;have hz:∀w,(zeroValue 260).run prog w=.ok (.agg z0.toArray) w:=λw=>by
        rw[show z0=Value.int .i64 0:: .int .i64 0::List.replicate 256 (Value.int .u8 0)from by rw[hz0];simp[ak,Pg.zero]]
        kernel_rfl
       have HZ0:Hid (z0.length=258):=xh (by rw[hz0];exact dP _ _ Pg.sQ.len);clear hz0;go_wp2
       go_loopw [14,15] (λl x wr=>∃k:Nat,k≤2∧x=.int .i64 k∧wr.ownsRow w8.heap.size 260 258 l k ((List.range k).flatMap λq=>ak (254+q) ⟨6,(List.range 256).map λi=>M (256*(254+q)+i)⟩)∧Bel w8 wr) (λ_ x _=>2-(intOf x).toNat)
       case atStart=>exact⟨0,by omega,rfl,⟨rfl,.inl ⟨rfl,rfl⟩⟩,Bel.refl _⟩
       case round=>
        obtain⟨k,hk,rfl,hrow,hbw⟩:=hrel;have gU:=xh hrow;have pV:=xh hbw;have hzw:=hbw.size;clear hrow hbw;by_cases hk2:k<2
        ·obtain⟨zs,hzs⟩:∃zs:List Value,zs=ak (254+k) ⟨6,List.replicate 256 0⟩:=⟨_,rfl⟩
         have Dl:Hid (prog.built 260 [(0,.int .i64 (254+(k:Int))),(1,.int .i64 6)]=some zs.toArray):=xh (by
          have:=y9 (254+(k:Int));rw[this,hzs];unfold ak;rw[show((254+k:Nat):Int)=254+(k:Int)from by omega])
         have oh:Hid (zs.length=258):=xh (by rw[hzs];exact dP _ _ (by simp));have HZO:Hid (∀v∈zs,v.oneCell'=true):=xh (by rw[hzs];exact jq _ _);obtain⟨bs,hbs⟩:∃bs:List Int,bs=(List.range 256).map λi=>M (256*(254+k)+i):=⟨_,rfl⟩;obtain⟨news,hnews⟩:∃news:List Value,news=bs.map (Value.int .u8):=⟨_,rfl⟩;have UA:Hid (news.length=256):=xh (by rw[hnews,hbs];simp);have DT:Hid (∀v∈news,v.oneCell'=true):=xh (by rw[hnews];intro v hv;obtain⟨x,_,rfl⟩:=List.mem_map.1 hv;rfl);obtain⟨cs,hcs⟩:∃cs:List Value,cs=ak (254+k) ⟨6,bs⟩:=⟨_,rfl⟩;have aiF:Hid (splice zs 2 news=cs):=xh (by rw[hzs,hnews,hcs];exact OQ _ _ _ (by simp) (by rw[hbs];simp));have jK:Hid (cs.length=258):=xh (by rw[hcs];exact dP _ _ (by rw[hbs];simp));have HCO:Hid (∀v∈cs,v.oneCell'=true):=xh (by rw[hcs];exact jq _ _);have Y7:Hid ((List.range (k+1)).flatMap (λq=>ak (254+q) ⟨6,(List.range 256).map λi=>M (256*(254+q)+i)⟩)=(List.range k).flatMap (λq=>ak (254+q) ⟨6,(List.range 256).map λi=>M (256*(254+q)+i)⟩)++cs):=xh (by
          rw[show List.range (k+1)=List.range k++[k]from List.range_succ,List.flatMap_append,List.flatMap_singleton,hcs,hbs])
         have um:Hid (∀W,Bel w8 W→∀j v,news[j]?=some v→W.cell? ((⟨g7,k*256,none⟩:Addr).add j)=some v):=xh (λW hW j v hj=>by
          have hjl:=(bV hj).1;rw[UA.o]at hjl;rw[Addr.add_mid,(aiE.o.bel hW).cell,tX _ _ _ (by omega),←hj,hnews,hbs,fA,fA,List.getElem?_range hjl];simp only[Option.map_some]
          congr 2
          congr 1
          omega)
         clear hzs hbs hnews hcs
         go_upto_region 34 with(first
          | (refine wpList_buildTo rfl 260 _ rfl (some 122) rfl zs.toArray (by simp only[List.map_toArray,List.map_cons,List.map_nil];exact Dl.o) ?_)
          | (refine aA rfl 260 (.tmp 16) (.tmp 122) rfl rfl wr.heap.size zs z0 260 (Blk.new wr z0 _) rfl rfl (by rw[oh.o];kernel_rfl) (HZ0.o.trans oh.o.symm) HZO.o ?_;intro w3 B3 K3))
         have kc:Bel wr w3:=(Below.heap_alloc' wr _).trans (K3.below _ (by simp) (λk hk=>by omega));have Ir:=xh kc;have akl:=B3.out.lt;have hwm:IntKind.i64.wrap ((k:Int)*256)=(k:Int)*256:=by rw[IntKind.wrap_i64];omega
         have hsl:=λW=>FH W g7 ((k:Int)*256) (k*256) (by omega) (by omega);have hsp:=λW=>KC W wr.heap.size;clear kc K3 hz;go_still_tail 5,(by kernel_rfl)
         change wpList _ _ _ _ _ w3.drew
         have kd:Bel w3 w3.drew:=Below.drew (Below.refl _ _);generalize w3.drew=wd at *
         have jY:=xh kd;have Il:=xh (show Blk wd wr.heap.size zs 260 from(show Blk w3 wr.heap.size zs 260 from B3.out).bel kd);clear kd B3 hwm hsl hsp
         go_wp2_with (first
          | (refine wpList_copy_splice rfl (.tmp 124) (.tmp 127) 59 59 rfl 5 underlying59 (by kernel_rfl) _ _ _ _ _ _ rfl rfl wr.heap.size 2 zs 260 Il.o news (by rw[UA.o];exact(Nat.min_eq_right (by omega)).symm) (λ_=>⟨rfl,⟨g7,k*256,none⟩,rfl,um.o _ (pV.o.tr (Ir.o.tr jY.o))⟩) (by rw[UA.o,oh.o];omega) DT.o wr.heap.size wd (Below.refl _ _) (bM _) ?_;intro w4 B4 K4
             have HB4:Hid (Blk w4 wr.heap.size cs 260):=xh (by have:=B4.out;rw[aiF.o]at this;exact this);have qh:Hid (Bel wr w4):=xh (Below.trans (Ir.o.tr jY.o) K4);clear B4 K4)
          | (refine wpList_load_mid rfl 260 (.tmp 16) rfl wr.heap.size 0 rfl cs _ (by have:=HB4.o.range 0;simpa using this) underlying260 rfl (by rw[jK.o];kernel_rfl) ?_)
          | (refine au rfl 164 260 (.tmp 130) rfl cs rfl underlying164 (by rw[jK.o];exact iP) (by rw[jK.o];omega) (by rw[jK.o];decide) ?_;intro w5 B5 K5)
          | (refine bu rfl (.tmp 129) (.tmp 131) 164 rfl underlying164 iP (by omega) rfl (aO (aO gU.o qh.o) K5) _ cs 260 rfl B5.out jK.o HCO.o (by unfold maxLen;omega) (by omega) (bU hzw (bU qh.o.size K5.size)) ?_;intro v6 w6 R6 K6))
         exact⟨⟨k+1,by omega,by go_num,by rw[Y7.o];exact R6,((pV.o.tr qh.o).tr K5).trans (K6.below _ (bU hzw (bU qh.o.size K5.size)) λq hq=>hq)⟩,by simp only[intOf];omega⟩
        ·obtain rfl:k=2:=by omega
         have hfin:wr.ownsRow w.heap.size 260 258 u14 2 ([254,255].flatMap λn=>ak n ⟨6,(List.range 256).map λi=>nO ss (256*n+i)⟩):=by
          have h:=gU.o;rw[HM.o];exact World.ownsRow.mono h (by rw[HG7.o];omega)
         have zD:=xh hfin;have TF:Hid (Bel w wr):=xh (Below.trans (HKT.o.below w.heap.size (bM _) (λq hq=>by rw[HG7.o];exact hq)) (Below.mono pV.o (by rw[HG7.o];omega)));clear hfin;go_wp2
         go_ret3
         exact⟨TF.o,λ_=>⟨_,by rw[aaR.o];try rfl,zD.o⟩,λh=>absurd nU.o h⟩
open Classical in
noncomputable def jh(L:List Int):Nat:=if ay L=false then 2 else if gJ L=false then 3 else if ∀k,k<(dQ L).toNat→iT L k then(if dS L=true then 0 else 5)else 4
def bG(L:List Int):ax:=aX L (dQ L).toNat
theorem Tt(p:Option Addr)(cap:Nat)(L:List Int)(hcap:L.length≤cap)(hlen:L.length≤200000)(W:World)(hr:BS W p L) :
 Calls prog 186 #[(p,L.length,cap)] W λe w'=>Bel W w'∧wU L W.heap.size e w':=by
 by_cases h:L.length<64
 ·have hh:ay L=false:=by simp[ay,show ¬64≤L.length from by omega]
  refine(JI p L.length cap W h).mono ?_;rintro e w' ⟨rfl,rfl⟩;exact⟨Below.refl _ _,⟨λ_=>rfl,λh=>(by rw[hh]at h;cases h),λh=>(by rw[hh]at h;cases h),λh=>(by rw[hh]at h;cases h),λh=>(by rw[hh]at h;cases h)⟩⟩
 ·obtain⟨b,o,rfl,_,h3⟩:=hr.2 (by omega)
  exact TA b o cap L W h3 hcap hlen
theorem wU.err{L:List Int}{base:Nat}{e:Ending}{w':World}(h:wU L base e w')(h0:jh L≠0):e=.returned (.tuple #[(),.int .u64 0,.int .i64 (jh L:Nat)]):=by
 unfold jh at h0⊢;by_cases h1:ay L=false
 ·rw[if_pos h1];exact h.header h1
 ·rw[if_neg h1]at h0⊢
  have h1':ay L=true:=by simpa using h1
  by_cases h2:gJ L=false
  ·rw[if_pos h2];exact h.acA h1' h2
  ·rw[if_neg h2]at h0⊢
   have h2':gJ L=true:=by simpa using h2
   by_cases h3:∀k,k<(dQ L).toNat→iT L k
   ·rw[if_pos h3]at h0⊢
    by_cases h4:dS L=true
    ·rw[if_pos h4]at h0;exact absurd rfl h0
    ·rw[if_neg h4];exact h.entry h1' h2' h3 (by simpa using h4)
   ·rw[if_neg h3];exact h.overlap h1' h2' h3
theorem BU{L:List Int}(h:jh L=0):ay L=true∧gJ L=true∧(∀k,k<(dQ L).toNat→iT L k)∧dS L=true:=by
 unfold jh at h;by_cases h1:ay L=false
 ·rw[if_pos h1]at h;cases h
 ·rw[if_neg h1]at h
  by_cases h2:gJ L=false
  ·rw[if_pos h2]at h;cases h
  ·rw[if_neg h2]at h
   by_cases h3:∀k,k<(dQ L).toNat→iT L k
   ·rw[if_pos h3]at h
    by_cases h4:dS L=true
    ·exact⟨by simpa using h1,by simpa using h2,h3,h4⟩
    ·rw[if_neg h4]at h;cases h
   ·rw[if_neg h3]at h;cases h
theorem He.err{L:List Int}{base:Nat}{e:Ending}{w':World}(h:He L base e w')(h0:jh L≠0):e=.returned (.tuple #[.map none,.int .u64 0,fH (jh L:Nat)]):=by
 unfold jh at h0⊢;by_cases h1:ay L=false
 ·rw[if_pos h1];exact h.header h1
 ·rw[if_neg h1]at h0⊢
  have h1':ay L=true:=by simpa using h1
  by_cases h2:gJ L=false
  ·rw[if_pos h2];exact h.acA h1' h2
  ·rw[if_neg h2]at h0⊢
   have h2':gJ L=true:=by simpa using h2
   by_cases h3:∀k,k<(dQ L).toNat→iT L k
   ·rw[if_pos h3]at h0⊢
    by_cases h4:dS L=true
    ·rw[if_pos h4]at h0;exact absurd rfl h0
    ·rw[if_neg h4];exact h.entry h1' h2' h3 (by simpa using h4)
   ·rw[if_neg h3];exact h.overlap h1' h2' h3
def aQ(m:ax):List Value:=(ag m).flatMap λn=>ak n ((m n).getD Pg.zero)
def wL(ss:List ByteArray)(n:Nat):Pg:=⟨6,(List.range 256).map λi=>nO ss (256*n+i)⟩
def aN(m:ax)(ss:List ByteArray):ax:=λn=>if n=254∨n=255 then some (wL ss n)else m n
theorem iH(m:ax)(ss:List ByteArray)(h:∀n,254≤n→m n=none):ag (aN m ss)=ag m++[254,255]:=by
 unfold ag;have e:List.range 256=List.range 254++[254,255]:=by decide
 rw[e,List.filter_append,List.filter_append];have h1:(List.range 254).filter (λn=>(aN m ss n).isSome)=(List.range 254).filter (λn=>(m n).isSome):=by
  apply List.filter_congr
  intro n hn;rw[List.mem_range]at hn;unfold aN;rw[if_neg (by omega)]
 have h2:[254,255].filter (λn=>(m n).isSome)=[]:=by simp[h 254 (by omega),h 255 (by omega)]
 have h3:[254,255].filter (λn=>(aN m ss n).isSome)=[254,255]:=by simp[aN]
 rw[h1,h2,h3,List.append_nil]
theorem vW(m:ax)(ss:List ByteArray)(h:∀n,254≤n→m n=none):aQ (aN m ss)=aQ m++[254,255].flatMap λn=>ak n (wL ss n):=by
 unfold aQ;rw[iH m ss h,List.flatMap_append];congr 1
 have hc:∀(l:List Nat),(∀n∈l,n∈ag m)→l.flatMap (λn=>ak n ((aN m ss n).getD Pg.zero))=l.flatMap λn=>ak n ((m n).getD Pg.zero):=by
  intro l
  induction l with
  | nil=>intro _;rfl
  | cons x l ih=>
    intro hl;rw[List.flatMap_cons,List.flatMap_cons,ih λn hn=>hl n (by simp[hn])];congr 1
    have hx:=hl x (by simp);have:=List.mem_filter.1 hx;have hlt:x<254:=by
     refine Classical.byContradiction λhc=>?_;rw[h x (by omega)]at this;simp at this
    unfold aN;rw[if_neg (by omega)]
 exact hc _ λn hn=>hn
theorem Gm{α:Type}(L:List α)(o:Nat)(vs:List α)(j:Nat)(hl:o+vs.length≤L.length)(h:j<o∨o+vs.length≤j):(splice L o vs)[j]?=L[j]?:=by
 unfold splice;rcases h with h|h
 ·rw[List.getElem?_append_left (by rw[List.length_take];omega),List.getElem?_take_of_lt h]
 ·rw[List.getElem?_append_right (by rw[List.length_take];omega),List.length_take,Nat.min_eq_left (by omega),List.getElem?_append_right (by omega),List.getElem?_drop]
  congr 1
  omega
def nN(cs:List Value)(o:Nat)(st:Int):List Value:=
 splice ((((cs.set (o+2) (.int .i64 2)).set (o+3) (.int .i64 st)).set (o+4) (.int .i64 0)).set (o+22) (.slice none 0 0)) (o+23) (List.replicate 8 (Value.int .i64 0))
theorem wG(cs:List Value)(o:Nat)(st:Int)(h:o+31≤cs.length):(nN cs o st).length=cs.length:=by
 unfold nN;rw[length_splice _ _ _ (by simp;omega)];simp
theorem Gn(cs:List Value)(o:Nat)(st:Int)(h:o+31≤cs.length)(j:Nat)(hj:j<o+2∨(o+5≤j∧j<o+22)∨o+31≤j):(nN cs o st)[j]?=cs[j]?:=by
 unfold nN;rw[Gm _ _ _ _ (by simp;omega) (by simp;omega),List.getElem?_set_ne (by omega),List.getElem?_set_ne (by omega),List.getElem?_set_ne (by omega),List.getElem?_set_ne (by omega)]
open Classical in
noncomputable def gG(pid:Int)(cs:List Value):Nat→List Value
 | 0=>cs
 | k+1=>if (gG pid cs k)[k*31+1]?=some (.int .i64 pid)then(gG pid cs k).set (k*31+1) (.int .i64 1)else gG pid cs k
theorem uV(pid:Int)(cs:List Value):∀k,(gG pid cs k).length=cs.length
 | 0=>rfl
 | k+1=>by
   rw[gG];split
   ·rw[List.length_set,uV pid cs k]
   ·exact uV pid cs k
theorem sV(pid:Int)(cs:List Value)(j:Nat):∀k,(∀i,i<k→j≠i*31+1)→(gG pid cs k)[j]?=cs[j]?
 | 0,_=>rfl
 | k+1,h=>by
   have ih:=sV pid cs j k λi hi=>h i (by omega);rw[gG];split
   ·rw[List.getElem?_set_ne (λe=>h k (by omega) e.symm),ih]
   ·exact ih
theorem Gp{S:Nat→Prop}{w w':World}{base:Nat}{e:TypeId}{size:Nat}{v:Value}{n:Nat}{xs:List Value}(h:w.ownsRow base e size v n xs)(k:Keep S w w')(hs:∀q cs,Blk w q cs e→¬S q):w'.ownsRow base e size v n xs:=by
 refine⟨h.1,?_⟩;rcases h.2 with h2|⟨g,cap,cur,rfl,h3,h4,h5⟩
 ·exact .inl h2
 ·exact .inr ⟨g,cap,cur,rfl,h3,(k.block g (Array.getElem?_eq_some_iff.1 h4).1 (hs g _ h4)).trans h4,h5⟩
theorem DK.keep{S:Nat→Prop}{w w':World}{kb:Nat}{s:KV}{iv:Value}{L:List Nd}(h:DK w kb s iv L)(k:Keep S w w')(h1:¬S kb)(h2:∀q cs,Blk w q cs 252→¬S q)(h3:∀q cs,Blk w q cs 5→¬S q):DK w' kb s iv L:=by
 refine⟨h.blk.keep k h1,Gp h.row k (λq cs hb=>h2 q cs hb),λn hn=>⟨(h.aS n hn).1.keep k λg hg=>?_,(h.aS n hn).2⟩,h.few,h.one⟩;obtain⟨_,cur,hb⟩:=(h.aS n hn).1.lt hg;exact h3 g cur hb
theorem VR(kb b at_ n cap:Nat)(s:KV)(iv:Value)(L:List Nd)(cs:List Value)(pid st:Int)(w:World)(h:DK w kb s iv L)(hs:s.pv=.slice (b,0) n cap)(hb:Blk w b cs 167)(hl:n*31≤cs.length)(hpar:∀i,i<n→∃q:Int,cs[i*31+1]?=some (.int .i64 q))(hat:at_<n)(hn:n≤1000)
 (hcall:Calls prog 62 #[kb,pid] w (Z.e (.int .i64 at_) w))
 (ho:s.ov=.slice none 0 0)(hx:s.xv=.slice none 0 0)(hp:∀i m,L[i]?=some m→1≤i→0<m.par)(hbv:∀m∈L,∃p k c,m.bv=.slice p k c) :
 Calls prog 193 #[kb,pid,st] w λe w'=>e=.returned (.tuple #[])∧∃Ak,DK w' kb s Ak L∧Blk w' b (gG pid (nN cs (at_*31) st) n) 167∧Keep (λq=>q=kb∨q=b) w w':=by
 have aje:(0:Int)≤at_:=by omega
 have ajf:(at_:Int)<n:=by omega
 have c5:w.cell? (kb,5)=some (.slice (b,0) n cap):=by have:=h.blk.cell 5;rw[this];show some s.pv=_;rw[hs]
 have cl:∀j,j<31→∃v,w.cell? (b,at_*31+j)=some v:=λj hj=>⟨_,by rw[hb.cell];exact bT (by omega)⟩;obtain⟨v2,c2⟩:=cl 2 (by omega);obtain⟨v3,c3⟩:=cl 3 (by omega);obtain⟨v4,c4⟩:=cl 4 (by omega);obtain⟨v22,jB⟩:=cl 22 (by omega);have fb:=hb.frozen;have adU:=xh hcall;have HD:=xh h;have HB:=xh hb;have agO:=xh hpar;have HSX:=xh (And.intro hs (And.intro ho (And.intro hx (And.intro hp hbv))));clear hcall h hb cl hpar hs ho hx hp hbv;have hbl:∀W,(Instr.build 165 #[]).run prog W=.ok (.agg #[(0:Int),(0:Int),(0:Int),(0:Int),(0:Int),(0:Int),(0:Int),(0:Int)]) W:=λW=>by kernel_rfl
 go_enter func193,ntmps193;go_upto_region 2 with(go_at_call 62;((with_reducible refine aH adU.o ?_);rintro e2 w2 ⟨rfl,rfl⟩))
 obtain⟨o,ho2⟩:=e_x (at_*31);have Gq:=xh ho2;rw[ho2]at c2 c3 c4 jB⊢;have hol:o+31≤cs.length:=by omega
 clear ho2;have f2:=fb (o+2);clear fb;go_upto_region 3 with fail
 have B1:=HB.o.setCell (o:=o+2) (.int .i64 2);have K1:=Keep.setCell w b (o+2) (.int .i64 2);generalize w.setCell (b,o+2) (.int .i64 2)=w1 at *
 have bP:=xh K1;have HB1:=xh B1;have c3:w1.cell? (b,o+3)=some v3:=by rw[B1.cell,List.getElem?_set_ne (by omega),←HB.o.cell];exact c3
 have f3:=B1.frozen (o+3);clear B1 K1 c2 f2;go_upto_region 4 with fail
 have B2:=HB1.o.setCell (o:=o+3) (.int .i64 st);have K2:=bP.o.tr (Keep.setCell w1 b (o+3) (.int .i64 st));generalize w1.setCell (b,o+3) (.int .i64 st)=w2 at *
 have iC:=xh K2;have HB2:=xh B2;have c4:w2.cell? (b,o+4)=some v4:=by rw[B2.cell,List.getElem?_set_ne (by omega),List.getElem?_set_ne (by omega),←HB.o.cell];exact c4
 have f4:=B2.frozen (o+4);clear B2 K2 c3 f3;go_upto_region 5 with fail
 have B3:=HB2.o.setCell (o:=o+4) (.int .i64 0);have K3:=iC.o.tr (Keep.setCell w2 b (o+4) (.int .i64 0));generalize w2.setCell (b,o+4) (.int .i64 0)=w3 at *
 have jP:=xh K3;have HB3:=xh B3;have jB:w3.cell? (b,o+22)=some v22:=by rw[B3.cell,List.getElem?_set_ne (by omega),List.getElem?_set_ne (by omega),List.getElem?_set_ne (by omega),←HB.o.cell];exact jB
 have f22:=B3.frozen (o+22);clear B3 K3 c4 f4;go_upto_region 6 with fail
 have B5:=HB3.o.setCell (o:=o+22) (.slice none 0 0);have K5:=jP.o.tr (Keep.setCell w3 b (o+22) (.slice none 0 0));generalize w3.setCell (b,o+22) (.slice none 0 0)=w5 at *
 have hth:w5.there b (o+23) 8:=λj hj=>⟨by rw[B5.cell,bT (by simp;omega)];rfl,B5.frozen _⟩;have HTH:=xh hth;have zU:=xh B5;have pX:=xh K5;clear hth B5 K5 jB f22 hbl;go_upto_region 7 with(refine wpList_store_mid rfl 165 (.tmp 34) (.tmp 32) rfl b (o+23) (List.replicate 8 (Value.int .i64 0)).toArray rfl rfl HTH.o (by kernel_rfl) (all_oneCell_toArray (by intro v hv;rw[List.eq_of_mem_replicate hv];rfl)) ?_)
 have B6:Blk _ b (nN cs o st) _:=zU.o.setCells (o+23) (List.replicate 8 (Value.int .i64 0)) (by simp;omega);have K6:=pX.o.tr (Keep.setCells w5 b (o+23) (List.replicate 8 (Value.int .i64 0)));generalize w5.setCells b (o+23) (List.replicate 8 (Value.int .i64 0))=w6 at *
 obtain⟨zs,hzs⟩:=e_x (nN cs o st);have hzl:zs.length=cs.length:=by rw[←hzs,wG _ _ _ (by omega)]
 have hzp:∀i,i<n→∃q:Int,zs[i*31+1]?=some (.int .i64 q):=λi hi=>by
  rw[←hzs,Gn _ _ _ (by omega) _ (by have:=Gq.o;omega)];exact agO.o i hi
 rw[hzs]at B6;have YU:=xh hzs;have hbk:b≠kb:=λe=>HD.o.blk.ne HB.o (by decide) e.symm;have hne1:∀q ds,Blk w q ds 252→¬q=b:=λq ds hq e=>hq.ne HB.o (by decide) e;have hne2:∀q ds,Blk w q ds 5→¬q=b:=λq ds hq e=>hq.ne HB.o (by decide) e;have HZP:=xh hzp;have oh:=xh hzl;have AL:=xh B6;have mG:=xh K6;have nZ:=xh (And.intro hbk (And.intro hne1 hne2));clear hzp hzl hzs B6 K6 hne1 hne2 c5 HTH zU pX;go_upto_region 8 with fail
 go_loopw [8] (λi wr=>∃k:Nat,k≤n∧i=.int .i64 k∧Hid (Blk wr b (gG pid zs k) 167∧Keep (λq=>q=b) w wr)) (λi _=>n-(intOf i).toNat)
 case atStart=>exact⟨0,Nat.zero_le _,rfl,xh ⟨AL.o,mG.o⟩⟩
 case round=>
  obtain⟨k,hk,rfl,HI⟩:=hrel;have D:=HD.o.keep HI.out.2 (λe=>nZ.o.1 e.symm) nZ.o.2.1 nZ.o.2.2;have c5:wr.cell? (kb,5)=some (.slice (b,0) n cap):=by have:=D.blk.cell 5;rw[this];show some s.pv=_;rw[HSX.o.1]
  have HDr:=xh D;clear D;by_cases hlt:k<n
  ·obtain⟨q,hq⟩:=HZP.o k hlt
   have hq2:(gG pid zs k)[k*31+1]?=some (.int .i64 q):=by rw[sV _ _ _ _ (λi hi=>by omega)];exact hq
   have c1:wr.cell? (b,k*31+1)=some (.int .i64 q):=by rw[HI.out.1.cell];exact hq2
   have f1:=HI.out.1.frozen (k*31+1);have HQ:=xh hq2;clear hq hq2;by_cases he:q=pid
   ·subst he
    have hE:gG q zs (k+1)=(gG q zs k).set (k*31+1) (.int .i64 1):=by rw[gG,if_pos HQ.o]
    have HE:=xh hE;clear hE;go_wp2_with fail
    go_roundw
    case rel=>exact⟨k+1,by omega,by go_num,xh ⟨by rw[HE.o];exact HI.out.1.setCell (o:=k*31+1) _,HI.out.2.tr (Keep.setCell _ b (k*31+1) _)⟩⟩
    case measure=>simp[intOf]<;>omega
   ·have hb:(q==pid)=false:=dK he
    have hE:gG pid zs (k+1)=gG pid zs k:=by rw[gG,if_neg (by rw[HQ.o];intro e;injection e with e;injection e with _ e;exact he e)]
    have HE:=xh hE;clear hE;go_wp2_with fail
    go_roundw
    case rel=>exact⟨k+1,by omega,by go_num,xh ⟨by rw[HE.o];exact HI.out.1,HI.out.2⟩⟩
    case measure=>simp[intOf]<;>omega
  ·obtain rfl:k=n:=by omega
   have HSW:=xh (L9 kb s iv L wr HDr.o HSX.o.2.1 HSX.o.2.2.1 HSX.o.2.2.2.1 HSX.o.2.2.2.2);go_wp2_with (go_at_call 267;((with_reducible refine aH HSW.o ?_);rintro e3 w3 ⟨rfl,iv3,D3,K3⟩;have H3:=xh (And.intro D3 K3);clear D3 K3))
   go_end0
   rw[Gq.o,YU.o];exact⟨rfl,iv3,H3.o.1,HI.out.1.keep H3.o.2 nZ.o.1,(HI.out.2.mono λ_ h=>.inr h).tr (H3.o.2.mono λ_ h=>.inl h)⟩
end
end Go.Proofs.YtcnjjchlebmfiaaGreatDoor
