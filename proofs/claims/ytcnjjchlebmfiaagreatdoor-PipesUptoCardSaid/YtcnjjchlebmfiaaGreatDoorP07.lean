/-.-/
import Derived.Test.YtcnjjchlebmfiaaGreatDoorP06
set_option linter.unusedVariables false
set_option linter.unusedSimpArgs false
set_option maxRecDepth 100000
set_option maxHeartbeats 16000000
namespace Go.Proofs.YtcnjjchlebmfiaaGreatDoor
section
open Go.Proofs.Tryz Go.RowKit
def gy(a b c d e:Nat):List Value:=[.int .i64 a,.int .i64 b,.int .i64 c,.int .i64 d,.int .i64 e]
def aN(L:List Nd):List Nat:=L.map λn=>n.byt.length
theorem zP:∀(l:List Nat) (k:Nat) (h:k<l.length),(l.take (k+1)).sum=(l.take k).sum+l[k]
 | x::l,0,_=>by simp
 | x::l,k+1,h=>by
   have:=zP l k (by simpa using h);simp only[List.take_succ_cons,List.sum_cons,List.getElem_cons_succ]at this⊢
   omega
theorem qx:∀(l:List Nat) (k:Nat),(l.take k).sum≤l.sum
 | [],k=>by simp
 | x::l,0=>by simp
 | x::l,k+1=>by have:=qx l k;simp;omega
theorem yM(kb g cap:Nat)(L:List Nd)(w:World)(ht:lu w kb g cap L)(PL:List Nat)(pp po:Option Addr)(pc no oc:Nat)
 (hp:w.cell? (kb,5)=some (.slice pp PL.length pc))(hpc:PL.length≤pc)(hP:∀i n,PL[i]?=some n→∃gp q c,pp=some ⟨gp,0,none⟩∧w.cell? (gp,i*31+22)=some (.slice q n c))
 (ho:w.cell? (kb,6)=some (.slice po no oc))(hby:∀n∈L,∃q c,n.bv=.slice q n.byt.length c)(h1:PL.sum≤1000000)(h2:(aN L).sum≤1000000)(h3:PL.length≤1000000)(h4:L.length≤1000000)(h5:no≤1000000) :
 Calls prog 118 #[kb] w (Z.b (.agg (gy PL.length PL.sum no L.length (aN L).sum).toArray) w):=by
 have HT:=xh ht;have HP:=xh hP;have xK:=xh hby;have ht7:=ht.1;clear ht hP hby;go_enter func118,ntmps118;go_upto_region 1 with fail
 have k1:Bel w (w.alloc (.cells (gy 0 0 0 0 0).toArray 159)):=Bel.start w _;have B1:=Blk.new w (gy 0 0 0 0 0) 159;change Code.wp _ _ _ _ (w.alloc (.cells (gy 0 0 0 0 0).toArray 159))
 generalize w.alloc (.cells (gy 0 0 0 0 0).toArray 159)=w1 at *
 have c5:=aa k1 hp;have c6:=aa k1 ho;have c7:=aa k1 ht7;have HB1:=xh B1;have bG:=xh k1;have hz1:=k1.size;have hr1:=B1.lt;clear k1 B1;generalize hre:w.heap.size=r at *
 have HRE:=xh hre;clear hre
 go_cut [3] (λs3 wx=>∃g3:Nat,s3=.pointer (g3,0)∧Hid (Blk wx g3 (gy PL.length 0 no L.length 0) 159)∧Hid (Bel w1 wx)∧Hid (r<g3))
 case first=>
  have l5:=World.block_lt_of_cell? _ _ c5;go_region_held3 (λw'=>w'.cell? ⟨kb,5,none⟩=some (.slice pp PL.length pc)∧w'.cell? ⟨kb,6,none⟩=some (.slice po no oc)∧w'.cell? ⟨kb,7,none⟩=some (.slice (g,0) L.length cap)) (first|(go_keep;done)) (fail)
  go_wp2_with fail
  go_meet
  exact⟨w1.heap.size,rfl,xh (Blk.new w1 _ _),xh ((Bel.start w1 _).drew),xh hr1⟩
 case rest=>
  obtain⟨g3,rfl,B3,k3,hrg⟩:=hcut;have jm:=xh (bG.o.tr k3.out);have HB3:=xh B3.out;have Au:=xh (HB1.o.bel k3.out);have hl3:=B3.out.lt;have c5c:=aa k3.out c5;have c7c:=aa k3.out c7;clear c5 c6 c7 B3 k3 hr1;have hk5:kb<w.heap.size:=World.block_lt_of_cell? _ _ hp;have hne:∀W,Keep (λq=>q=g3) wc W→W.cell? (kb,5)=some (.slice pp PL.length pc)∧W.cell? (kb,7)=some (.slice (g,0) L.length cap):=λW hW=>by
   have hz:=HRE.o;have hgg:=hrg.out;have hz2:=jm.o.size;constructor
   ·rw[hW.cell ⟨kb,5,none⟩ (by show kb<_;omega) (by show kb≠g3;omega)];exact c5c
   ·rw[hW.cell ⟨kb,7,none⟩ (by show kb<_;omega) (by show kb≠g3;omega)];exact c7c
  have jD:=xh hne;clear hne c5c c7c;go_wp2_with fail
  go_loopw [4] (λi wr=>∃k:Nat,k≤PL.length∧i=.int .i64 k∧Blk wr g3 (gy PL.length (PL.take k).sum no L.length 0) 159∧Keep (λq=>q=g3) wc wr) (λi _=>PL.length-(intOf i).toNat)
  case atStart=>exact⟨0,Nat.zero_le _,rfl,HB3.o,Keep.refl _ _⟩
  case round=>
   obtain⟨k,hk,rfl,hB,hkr⟩:=hrel;obtain⟨c5,c7⟩:=jD.o wr hkr;have uJ:=xh hB;have qU:=xh hkr;have hlr:=hB.lt;clear hB hkr;by_cases hlt:k<PL.length
   ·obtain⟨gp,q,c,rfl,hcp⟩:=HP.o k PL[k] (bP hlt)
    have hts:=zP PL k hlt;have hle:=qx PL (k+1);have Og:=World.block_lt_of_cell? _ _ hcp;have c22:wr.cell? (gp,k*31+22)=some (.slice q PL[k] c):=by
     have hz:=HRE.o;have hgg:=hrg.out;have hz2:=jm.o.size;simp at Og
     rw[qU.o.cell ⟨gp,k*31+22,none⟩ (by show gp<_;omega) (by show gp≠g3;omega)];exact aa jm.o hcp
    have HTS:Hid ((PL.take (k+1)).sum=(PL.take k).sum+PL[k]):=xh hts;have hbn:(PL.take k).sum+PL[k]≤1000000:=by omega
    generalize PL[k]=n at *
    have c31:=uJ.o.c 1 rfl;have f3:=uJ.o.frozen;generalize (PL.take k).sum=sm at *
    have hwr:IntKind.i64.wrap ((sm:Int)+(n:Int))=(sm:Int)+(n:Int):=by rw[IntKind.wrap_i64];omega
    clear hts hle hcp Og hbn;go_upto_region 5 with fail
    go_still_tail 13,(by kernel_rfl)
    change wpList _ _ _ _ _ wr.drew
    have BD:=uJ.o.bel (Bel.drew (Bel.refl wr));have kd:Bel wr wr.drew:=Bel.drew (Bel.refl _);generalize wr.drew=wd at *
    have gJ:=xh (qU.o.tr (Keep.of_bel _ kd));have uI:=xh BD;have c31:=BD.c 1 rfl;have f3:=BD.frozen;have hld:=BD.lt;clear kd BD c22 c5 c7 hwr;go_wp2
    go_roundw
    case rel=>exact⟨k+1,by omega,by go_num,by
     have:=uI.o.setCell (o:=1) (.int .i64 ((sm:Int)+(n:Int)));rw[HTS.o]
     simpa [gy]using this,gJ.o.tr (Keep.setCell _ _ _ _)⟩
    case measure=>simp[intOf]<;>omega
   ·obtain rfl:k=PL.length:=by omega
    rw[List.take_length]at uJ;go_wp2_with fail
    clear c5 c7 hlr
    go_loopw [5] (λi wr=>∃k:Nat,k≤L.length∧i=.int .i64 k∧Blk wr g3 (gy PL.length PL.sum no L.length ((aN L).take k).sum) 159∧Keep (λq=>q=g3) wc wr) (λi _=>L.length-(intOf i).toNat)
    case atStart=>exact⟨0,Nat.zero_le _,rfl,uJ.o,qU.o⟩
    case round=>
     obtain⟨k,hk,rfl,hB,hkr⟩:=hrel;obtain⟨c5,c7⟩:=jD.o wr hkr;have HBQ:=xh hB;have HKQ:=xh hkr;have hlq:=hB.lt;clear hB hkr c5;by_cases hlt:k<L.length
     ·obtain⟨q,c,hbv⟩:=xK.o L[k] (List.getElem_mem hlt)
      have hcp:w.cell? (g,k*5+4)=some (.slice q L[k].byt.length c):=by
       rw[←hbv];exact HT.o.2.2 k L[k] (bP hlt) 4 _ rfl
      have hkb:k<(aN L).length:=by simpa [aN]using hlt
      have hts:=zP (aN L) k hkb;have hle:=qx (aN L) (k+1);have hbe:(aN L)[k]=L[k].byt.length:=by simp[aN]
      have Og:=World.block_lt_of_cell? _ _ hcp;have abQ:=HT.o.2.1;have c4:wr.cell? (g,k*5+4)=some (.slice q L[k].byt.length c):=by
       have hz:=HRE.o;have hgg:=hrg.out;have hz2:=jm.o.size;simp at Og
       rw[HKQ.o.cell ⟨g,k*5+4,none⟩ (by show g<_;omega) (by show g≠g3;omega)];exact aa jm.o hcp
      rw[hbe]at hts;have HTS:Hid (((aN L).take (k+1)).sum=((aN L).take k).sum+L[k].byt.length):=xh hts;have hbn:((aN L).take k).sum+L[k].byt.length≤1000000:=by omega
      generalize L[k].byt.length=n at *
      have c34:=HBQ.o.c 4 rfl;have f3:=HBQ.o.frozen;generalize ((aN L).take k).sum=sm at *
      have hwr:IntKind.i64.wrap ((sm:Int)+(n:Int))=(sm:Int)+(n:Int):=by rw[IntKind.wrap_i64];omega
      clear hts hle hcp Og hbn hbe hkb hbv;go_upto_region 9 with fail
      go_still_tail 13,(by kernel_rfl)
      change wpList _ _ _ _ _ wr.drew
      have BD:=HBQ.o.bel (Bel.drew (Bel.refl wr));have kd:Bel wr wr.drew:=Bel.drew (Bel.refl _);generalize wr.drew=wd at *
      have gJ:=xh (HKQ.o.tr (Keep.of_bel _ kd));have uI:=xh BD;have c34:=BD.c 4 rfl;have f3:=BD.frozen;have hld:=BD.lt;clear kd BD c4 c7 hwr abQ;go_wp2
      go_roundw
      case rel=>exact⟨k+1,by omega,by go_num,by
       have:=uI.o.setCell (o:=4) (.int .i64 ((sm:Int)+(n:Int)));rw[HTS.o]
       simpa [gy]using this,gJ.o.tr (Keep.setCell _ _ _ _)⟩
      case measure=>simp[intOf]<;>omega
     ·obtain rfl:k=L.length:=by omega
      have hbl:(aN L).length=L.length:=by simp[aN]
      have hbt:(aN L).take L.length=aN L:=by rw[←hbl,List.take_length]
      rw[hbt]at HBQ;have hne2:r≠g3:=by have:=hrg.out;omega
      have HB2:Hid (Blk wr r (gy 0 0 0 0 0) 159):=xh (Au.o.keep HKQ.o hne2);clear hbt hbl hlq
      go_wp2_with (first
       | (refine wpList_load_mid rfl 159 (.tmp 3) rfl g3 0 rfl (gy PL.length PL.sum no L.length (aN L).sum) _ (by have:=HBQ.o.range 0;simpa using this) underlying159 rfl (by kernel_rfl) ?_)
       | (refine aG rfl 159 (.tmp 2) (.tmp 66) rfl rfl r (gy PL.length PL.sum no L.length (aN L).sum) _ 159 HB2.o rfl rfl (by kernel_rfl) rfl (by intro v hv;simp[gy]at hv;rcases hv with rfl|rfl|rfl|rfl|rfl<;>rfl) ?_;intro w5 B5 K5))
      have e0:=B5.out.c 0 rfl;have e1:=B5.out.c 1 rfl;have e2:=B5.out.c 2 rfl;have e3:=B5.out.c 3 rfl;have e4:=B5.out.c 4 rfl;refine bodyPost_ret (v:=.agg (gy PL.length PL.sum no L.length (aN L).sum).toArray) (by simp[results,results118,go_sem,e0,e1,e2,e3,e4,gy]) rfl ⟨rfl,?_⟩;exact Below.trans jm.o ((HKQ.o.below _ jm.o.size (λq hq=>by have:=HRE.o;have:=hrg.out;omega)).trans (K5.below _ (aV jm.o.size HKQ.o.size) (λq hq=>by have:=HRE.o;omega)))
end
section
open Go.Proofs.Tryz Go.RowKit Go.MapKept Go.Maps
def jv(t:TN)(a b:Int):Bool:=decide (t.bM+a≤t.most)&&decide (t.bytes+b≤t.iT)
structure TN.ok(t:TN):Prop where
 bM:t.bM≤1000000
 bytes:t.bytes≤10000000
 most : -10000000≤t.most∧t.most≤10000000
 iT : -10000000≤t.iT∧t.iT≤10000000
theorem Si(tb:Nat)(A:bB)(t:TN)(a b:Int)(w:World)(hT:Blk w tb (t.cells A) 220)(ht:t.ok)(ha:0≤a∧a≤10000000)(hb:0≤b∧b≤10000000) :
 Calls prog 97 #[tb,a,b] w λe w'=>e=.returned (.bool (jv t a b))∧∃n,w'=w.drewN n:=by
 have c1:=hT.c 1 rfl;have c2:=hT.c 2 rfl;have c3:=hT.c 3 rfl;have c4:=hT.c 4 rfl;obtain⟨o1,o2,o3,o4⟩:=ht;have w1:IntKind.i64.wrap ((t.bM:Int)+a)=(t.bM:Int)+a:=by rw[IntKind.wrap_i64];omega
 have w2:IntKind.i64.wrap ((t.bytes:Int)+b)=(t.bytes:Int)+b:=by rw[IntKind.wrap_i64];omega
 clear hT;by_cases h1:(t.bM:Int)+a≤t.most
 ·by_cases h2:(t.bytes:Int)+b≤t.iT
  ·have HR:Hid (jv t a b=true):=xh (by unfold jv;simp[h1,h2])
   have d1:decide ((t.bM:Int)+a≤t.most)=true:=by simpa using h1
   have d2:decide ((t.bytes:Int)+b≤t.iT)=true:=by simpa using h2
   generalize ((t.bM:Nat):Int)=x at *
   generalize ((t.bytes:Nat):Int)=y at *
   clear h1 h2;go_enter func97,ntmps97;go_upto_region 1 with fail
   go_quiet (fail)
   go_wp2
   go_ret
   exact⟨by rw[HR.o];rfl,nq,rfl⟩
  ·have HR:Hid (jv t a b=false):=xh (by unfold jv;simp[h2])
   have d1:decide ((t.bM:Int)+a≤t.most)=true:=by simpa using h1
   have d2:decide ((t.bytes:Int)+b≤t.iT)=false:=by simpa using h2
   generalize ((t.bM:Nat):Int)=x at *
   generalize ((t.bytes:Nat):Int)=y at *
   clear h1 h2;go_enter func97,ntmps97;go_upto_region 1 with fail
   go_quiet (fail)
   go_wp2
   go_ret
   exact⟨by rw[HR.o];rfl,nq,rfl⟩
 ·have HR:Hid (jv t a b=false):=xh (by unfold jv;simp[h1])
  have d1:decide ((t.bM:Int)+a≤t.most)=false:=by simpa using h1
  generalize ((t.bM:Nat):Int)=x at *
  generalize ((t.bytes:Nat):Int)=y at *
  clear h1;go_enter func97,ntmps97;go_upto_region 1 with fail
  go_quiet (fail)
  go_wp2
  go_ret
  exact⟨by rw[HR.o];rfl,nq,rfl⟩
theorem yQ(tb:Nat)(A:bB)(t:TN)(a b:Int)(w:World)(hT:Blk w tb (t.cells A) 220)(ht:t.ok)(ha:0≤a∧a≤10000000)(hb:0≤b∧b≤10000000) :
 Calls prog 97 #[tb,a,b] w (Z.b (.bool (jv t a b)) w):=by
 refine(Si tb A t a b w hT ht ha hb).mono ?_;rintro e w' ⟨rfl,n,rfl⟩;exact⟨rfl,ah (Bel.refl w) n⟩
end
section
open Go.RowKit Go.MapKept Go.Maps
theorem uL(A:bB)(d:Nat):∀(i:Nat) (T U:List Pn),eY A d i (T++U)=eY A d i T++eY A d (i+T.length) U
 | i,[],U=>by simp[eY]
 | i,n::T,U=>by
   have ih:=uL A d (i+1) T U;simp only[List.cons_append,eY,ih,List.length_cons]
   rw[show i+1+T.length=i+(T.length+1)from by omega];split<;>simp
theorem kM{A B:bB}{n:Nat}(h:n≠0→A.nb n=B.nb n):A.ptr n=B.ptr n:=by
 unfold bB.ptr bB.at_;by_cases h0:n=0
 ·simp[h0]
 ·simp[h0,h h0]
theorem oN{A B:bB}(d:Nat):∀(i:Nat) (T:List Pn),(∀j,i<j→j≤i+T.length→A.nb j=B.nb j)→eY A d i T=eY B d i T
 | i,[],_=>rfl
 | i,n::T,h=>by
   have ih:=oN (A:=A) (B:=B) d (i+1) T (λj h1 h2=>h j (by omega) (by simp;omega));simp only[eY,ih]
   rw[kM (A:=A) (B:=B) λ_=>h (i+1) (by omega) (by simp)]
def bB.add(A:bB)(n nb mb:Nat):bB:=⟨λi=>if i=n then nb else A.nb i,λi=>if i=n then mb else A.mb i⟩
theorem bB.jA(A:bB)(n nb mb i:Nat)(h:i≠n):(A.add n nb mb).nb i=A.nb i:=by simp[bB.add,h]
theorem bB.rC(A:bB)(n nb mb i:Nat)(h:i≠n):(A.add n nb mb).mb i=A.mb i:=by simp[bB.add,h]
theorem DT{A B:bB}(n:Pn)(i:Nat)(h1:n.par≠0→A.nb n.par=B.nb n.par)(h2:A.mb i=B.mb i):n.cells A i=n.cells B i:=by
 unfold Pn.cells Pn.map;rw[kM h1,h2]
theorem LM{α:Type}[DecidableEq α]{kv:List (α×Value)}{a:α}(h:dD kv a=none):a∉kv.map Prod.fst:=by
 intro hm;obtain⟨p,hp,rfl⟩:=List.mem_map.1 hm;unfold dD at h;rw[Option.map_eq_none_iff,List.find?_eq_none]at h;have:=h p hp;simp at this
theorem bT.add{w w':World}{A:bB}{T:List Pn}{S:Nat→Prop}(h:bT w A T)(d:Nat)(D:Pn)(hD:T[d]?=some D)(SV:D.dir=true)(n:Pn)(nb mb:Nat)
 (hp:n.par=d+1)(hbv:n.bv=.slice none 0 0∧n.byt=[])(hg:n.gone=false)(hnew:child (aH T) (d+1) n.name=0)(hnm:aS n.name.data.toList=true∧(47:UInt8)∉n.name.data.toList)(qR:T.length+1≤100000)
 (iR:Blk w' nb (n.cells (A.add (T.length+1) nb mb) (T.length+1)) 234)(hnb:w.heap.size≤nb)
 (hmap:n.dir=true→Mp uM w' mb [])(hmb:n.dir=true→w.heap.size≤mb)
 (abR:Mp uM w' (A.mb (d+1)) (ni (Go.Proofs.YtcnjjchlebmfiaaGreatDoor.kids A (d+1) T) n.name (.pointer (nb,0))))
 (hk:Keep S w w')(hS:∀q,qY A T q→S q→q=A.mb (d+1)):bT w' (A.add (T.length+1) nb mb) (T++[n]):=by
 have hdl:d<T.length:=(bZ hD).1;have hlt:∀(i:Nat) (m:Pn),(T++[n])[i]?=some m→i<T.length∧T[i]?=some m∨i=T.length∧m=n:=by
  intro i m hi;by_cases h1:i<T.length
  ·rw[List.getElem?_append_left h1]at hi;exact .inl ⟨h1,hi⟩
  ·rw[List.getElem?_append_right (by omega)]at hi
   have:=(bZ hi).1;simp at this
   have e:i-T.length=0:=by omega
   rw[e]at hi;simp at hi
   exact .inr ⟨by omega,hi.symm⟩
 have VK:∀i,i≠d+1→Go.Proofs.YtcnjjchlebmfiaaGreatDoor.kids (A.add (T.length+1) nb mb) i (T++[n])=Go.Proofs.YtcnjjchlebmfiaaGreatDoor.kids A i T:=by
  intro i hi;unfold Go.Proofs.YtcnjjchlebmfiaaGreatDoor.kids;rw[uL,oN (A:=A.add (T.length+1) nb mb) (B:=A) i 0 T (λj h1 h2=>bB.jA _ _ _ _ _ (by omega))];have:n.nd.par≠i:=by simp[Pn.nd,hg,hp];omega
  simp[eY,this]
 have hnone:dD (Go.Proofs.YtcnjjchlebmfiaaGreatDoor.kids A (d+1) T) n.name=none:=by
  unfold Go.Proofs.YtcnjjchlebmfiaaGreatDoor.kids;rw[uN,if_pos];exact hnew
 have hkd:Go.Proofs.YtcnjjchlebmfiaaGreatDoor.kids (A.add (T.length+1) nb mb) (d+1) (T++[n])=ni (Go.Proofs.YtcnjjchlebmfiaaGreatDoor.kids A (d+1) T) n.name (.pointer (nb,0)):=by
  unfold ni;rw[if_neg (LM hnone)];unfold Go.Proofs.YtcnjjchlebmfiaaGreatDoor.kids;rw[uL,oN (A:=A.add (T.length+1) nb mb) (B:=A) (d+1) 0 T (λj h1 h2=>bB.jA _ _ _ _ _ (by omega))];have:n.nd.par=d+1:=by simp[Pn.nd,hg,hp]
  simp[eY,this,bB.ptr,bB.at_,bB.add]
 have hold:∀q,qY A T q→q≠A.mb (d+1)→¬S q:=λq hq hne hs=>hne (hS q hq hs);have hmd:∀(i:Nat) (m:Pn),T[i]?=some m→A.nb (i+1)≠A.mb (d+1):=λi m hi=>(h.node i m hi).dJ (h.kids d D hD SV);have hbd:∀(i:Nat) (m:Pn),T[i]?=some m→∀g,m.bv.ownBlock=some g→g≠A.mb (d+1):=λi m hi g hgg=>by
  obtain⟨_,cur,hb⟩:=(h.aN i m hi).lt hgg;exact hb.dJ (h.kids d D hD SV)
 have hfl:∀q,qY A T q→q<w.heap.size:=λq hq=>h.fE hq;refine⟨?_,?_,?_,?_,?_,?_,?_,?_,?_,?_,?_,by simpa using qR⟩
 ·intro i m hi
  rcases hlt i m hi with⟨h1,h2⟩|⟨rfl,rfl⟩
  ·rw[bB.jA _ _ _ _ _ (by omega),DT (B:=A) m (i+1) (λ_=>bB.jA _ _ _ _ _ (by have:=h.par i m h2;omega)) (bB.rC _ _ _ _ _ (by omega))]
   exact(h.node i m h2).keep hk (hold _ ⟨i,m,h2,.inl rfl⟩ (hmd i m h2))
  ·rw[show(A.add (T.length+1) nb mb).nb (T.length+1)=nb from by simp[bB.add]]
   exact iR
 ·intro i m hi hd
  rcases hlt i m hi with⟨h1,h2⟩|⟨rfl,rfl⟩
  ·rw[bB.rC _ _ _ _ _ (by omega)]
   by_cases e:i=d
   ·subst e
    rw[hkd];exact abR
   ·rw[VK (i+1) (by omega)]
    have hne:A.mb (i+1)≠A.mb (d+1):=λhe=>e (h.O0 i d m D h2 hD hd SV he);exact(h.kids i m h2 hd).of_block (hk.block _ (h.kids i m h2 hd).lt (hold _ ⟨i,m,h2,.inr (.inl ⟨hd,rfl⟩)⟩ hne))
  ·rw[show(A.add (T.length+1) nb mb).mb (T.length+1)=mb from by simp[bB.add],VK _ (by omega)]
   have:Go.Proofs.YtcnjjchlebmfiaaGreatDoor.kids A (T.length+1) T=[]:=by
    unfold Go.Proofs.YtcnjjchlebmfiaaGreatDoor.kids;have hg:∀(k:Nat) (U:List Pn),(∀m∈U,m.par≤T.length)→eY A (T.length+1) k U=[]:=by
     intro k U
     induction U generalizing k with
     | nil=>intro _;rfl
     | cons x U ih=>
       intro hU;have hx:=hU x (by simp);have:x.nd.par≠T.length+1:=by unfold Pn.nd;simp only;split<;>omega
       simp only[eY,this,if_false]
       exact ih _ λm hm=>hU m (by simp[hm])
    refine hg 0 T λm hm=>?_;obtain⟨j,hj,he⟩:=List.getElem_of_mem hm;have:=h.par j m (by rw[bP hj,he]);omega
   rw[this];exact hmap hd
 ·intro i m hi
  rcases hlt i m hi with⟨h1,h2⟩|⟨rfl,rfl⟩
  ·exact(h.aN i m h2).keep hk λg hgg=>hold _ ⟨i,m,h2,.inr (.inr hgg)⟩ (hbd i m h2 g hgg)
  ·rw[hbv.1,hbv.2]
   exact⟨(λx hx=>by cases hx),.inl ⟨rfl,rfl⟩⟩
 ·intro i j hi hj he
  simp at hi hj
  by_cases h1:i=T.length<;>by_cases h2:j=T.length
  ·omega
  ·subst h1
   rw[bB.jA _ _ _ _ (j+1) (by omega)]at he;simp[bB.add]at he
   have:=hfl _ ⟨j,T[j]'(by omega),bP (by omega),.inl rfl⟩;omega
  ·subst h2
   rw[bB.jA _ _ _ _ (i+1) (by omega)]at he;simp[bB.add]at he
   have:=hfl _ ⟨i,T[i]'(by omega),bP (by omega),.inl rfl⟩;omega
  ·rw[bB.jA _ _ _ _ _ (by omega),bB.jA _ _ _ _ _ (by omega)]at he
   exact h.inj i j (by omega) (by omega) he
 ·intro i j m k hi hj hdi hdj he
  rcases hlt i m hi with⟨h1,h2⟩|⟨rfl,rfl⟩<;>rcases hlt j k hj with⟨h3,h4⟩|⟨rfl,rfl⟩
  ·rw[bB.rC _ _ _ _ _ (by omega),bB.rC _ _ _ _ _ (by omega)]at he
   exact h.O0 i j m k h2 h4 hdi hdj he
  ·rw[bB.rC _ _ _ _ (i+1) (by omega)]at he
   simp[bB.add]at he
   have:=hfl _ ⟨i,m,h2,.inr (.inl ⟨hdi,rfl⟩)⟩;have:=hmb hdj;omega
  ·rw[bB.rC _ _ _ _ (j+1) (by omega)]at he
   simp[bB.add]at he
   have:=hfl _ ⟨j,k,h4,.inr (.inl ⟨hdj,rfl⟩)⟩;have:=hmb hdi;omega
  ·rfl
 ·intro i j m k g hi hj hm hkk
  rcases hlt i m hi with⟨h1,h2⟩|⟨rfl,rfl⟩
  ·rcases hlt j k hj with⟨h3,h4⟩|⟨rfl,rfl⟩
   ·exact h.sep i j m k g h2 h4 hm hkk
   ·rw[hbv.1]at hkk;cases hkk
  ·rw[hbv.1]at hm;cases hm
 ·intro i m hi
  rcases hlt i m hi with⟨h1,h2⟩|⟨rfl,rfl⟩
  ·exact h.par i m h2
  ·omega
 ·intro i m hi h0
  rcases hlt i m hi with⟨h1,h2⟩|⟨rfl,rfl⟩
  ·obtain⟨p,hp1,hp2⟩:=h.GQ i m h2 h0
   exact⟨p,by rw[List.getElem?_append_left (by have:=h.par i m h2;omega)];exact hp1,hp2⟩
  ·exact⟨D,by rw[hp,Nat.add_sub_cancel,List.getElem?_append_left hdl];exact hD,SV⟩
 ·obtain⟨r,h1,h2⟩:=h.root
  exact⟨r,by rw[List.getElem?_append_left (bZ h1).1];exact h1,h2⟩
 ·intro i m hi h0 h1
  rcases hlt i m hi with⟨h3,h4⟩|⟨rfl,rfl⟩
  ·exact h.top i m h4 h0 h1
  ·omega
 ·intro i m hi h0 h1
  rcases hlt i m hi with⟨h3,h4⟩|⟨rfl,rfl⟩
  ·exact h.name i m h4 h0 h1
  ·exact hnm
end
section
open Go.Proofs.Tryz Go.RowKit Go.MapKept Go.Maps
def oD(d:Nat)(nm:ByteArray)(is:Bool):Pn:=⟨d,nm,is,[],.slice none 0 0,0,false⟩
structure Made(A:bB)(T:List Pn)(t:TN)(tb d:Nat)(nm:ByteArray)(is:Bool)(w:World)(nb mb:Nat)(w':World):Prop where
 tree:bT w' (A.add (T.length+1) nb mb) (T++[oD d nm is])
 block:Blk w' tb ({t with bM:=t.bM+1}.cells (A.add (T.length+1) nb mb)) 220
 keep:Keep (λq=>q=tb∨q=A.mb d) w w'
 aaL:w.heap.size≤nb
 aaM:w.heap.size≤mb
theorem A8(tb:Nat)(A:bB)(t:TN)(d:Nat)(nm:ByteArray)(is:Bool)(w:World)(hT:Blk w tb (t.cells A) 220)(ht:t.ok)(hf:jv t 1 0=false) :
 Calls prog 96 #[.pointer (tb,0),.agg #[A.ptr d,.string nm,.pointer none],.bool is] w (Z.b (.tuple #[.pointer none,eD 12]) w):=by
 have HR:=xh λW hW=>hf▸yQ tb A t 1 0 W (hT.bel hW) ht (by omega) (by omega);obtain⟨p,hp⟩:=e_x (A.at_ d);have bA:A.ptr d=.pointer p:=by rw[←hp];rfl
 rw[bA];clear hT ht hf hp bA;go_enter func96,ntmps96;go_upto_region 1 with fail
 have k1:Bel w (w.alloc (.cells #[.pointer p,.string nm,.pointer none] 240)):=Bel.start w _;generalize w.alloc (.cells #[.pointer p,.string nm,.pointer none] 240)=w1 at *
 have K1:=xh k1;clear k1;go_wp2_with (go_at_call 97;((with_reducible refine au (HR.o w1 K1.o) ?_);rintro e w2 ⟨rfl,kd⟩))
 go_ret2
 exact⟨rfl,K1.o.tr kd⟩
theorem KS(tb:Nat)(A:bB)(T:List Pn)(t:TN)(d:Nat)(D:Pn)(nm:ByteArray)(is:Bool)(w:World)(hT:Blk w tb (t.cells A) 220)(hP:bT w A T)(ht:t.ok)(hf:jv t 1 0=true)
 (hD:T[d]?=some D)(SV:D.dir=true)(hnew:child (aH T) (d+1) nm=0)(hnm:aS nm.data.toList=true∧(47:UInt8)∉nm.data.toList)(qR:T.length+1≤100000) :
 Calls prog 96 #[.pointer (tb,0),.agg #[A.ptr (d+1),.string nm,.pointer none],.bool is] w λe w'=>∃nb mb,e=.returned (.tuple #[.pointer (nb,0),.nilIface])∧Made A T t tb (d+1) nm is w nb mb w':=by
 have HR:=xh λW hW=>hf▸yQ tb A t 1 0 W (hT.bel hW) ht (by omega) (by omega);have HTI:=xh ht;have hdl:d<T.length:=(bZ hD).1;have hti:=ht.bM;obtain⟨p,hp⟩:∃p,A.at_ (d+1)=some ⟨p,0,none⟩:=⟨A.nb (d+1),by simp[bB.at_]⟩
 have hpe:p=A.nb (d+1):=by have:some (⟨A.nb (d+1),0,none⟩:Addr)=some ⟨p,0,none⟩:=by rw[←hp];simp[bB.at_]
                           injection this with h;injection h with h;exact h.symm
 have bA:A.ptr (d+1)=.pointer (p,0):=by rw[←hp];rfl
 rw[bA];have cI:w.cell? (p,2)=some (.map (some (A.mb (d+1)))):=by
  have:=(hP.node d D hD).cell 2;rw[←hpe]at this;rw[this];simp[Pn.cells,Pn.map,SV]
 have HCI:=xh cI;have HT:=xh hT;have mY:=xh hP;have HD:=xh hD;have xz:=xh SV;have aa8:=xh hnew;have HNM:=xh hnm;have Tj:=xh bA;have HPE:=xh hpe;clear hT ht hf hp bA hP hD SV hnew hnm hpe cI;go_enter func96,ntmps96;go_upto_region 1 with fail
 have k1:Bel w (w.alloc (.cells #[.pointer (p,0),.string nm,.pointer none] 240)):=Bel.start w _;have B1:=Blk.new w [.pointer (p,0),.string nm,.pointer none] 240;generalize w.alloc (.cells #[.pointer (p,0),.string nm,.pointer none] 240)=w1 at *
 obtain⟨g4,hg4⟩:=e_x w.heap.size;rw[hg4]at B1⊢;have TY:=xh hg4;have HB1:=xh B1;have K1:=xh k1;clear k1 B1 hg4;go_upto_region 3 with(go_at_call 97;((with_reducible refine au (HR.o w1 K1.o) ?_);rintro e w2 ⟨rfl,kd⟩))
 have B2:=HB1.o.bel kd;have c0:=B2.c 0 rfl;have c1:=B2.c 1 rfl;have HB2:=xh B2;have K2:=xh (K1.o.tr kd);clear B2 kd HB1;go_upto_region 4 with fail
 have k3:Bel w2 (w2.alloc (.cells #[.string nm,.pointer (p,0),.map none,.slice none 0 0,.int .i64 0,.bool false] 234)):=Bel.start w2 _;have B3:=Blk.new w2 [.string nm,.pointer (p,0),.map none,.slice none 0 0,.int .i64 0,.bool false] 234;generalize w2.alloc (.cells #[.string nm,.pointer (p,0),.map none,.slice none 0 0,.int .i64 0,.bool false] 234)=w3 at *
 obtain⟨nb,hnb⟩:=e_x w2.heap.size;rw[hnb]at B3⊢;have FB:w.heap.size≤nb:=by rw[←hnb];exact K2.o.size
 have HB3:=xh B3;have K3:=xh (K2.o.tr k3);have Yj:=xh (HB2.o.bel k3);have hl3:=B3.lt;have f3:=B3.frozen;have ae4:g4<nb:=by rw[←hnb];exact HB2.o.lt
 clear k3 B3 hnb c0 c1;have Yk:=xh (HT.o.bel K3.o);have adh:=xh (mY.o.bel K3.o);have cI3:w3.cell? (p,2)=some (.map (some (A.mb (d+1)))):=aa K3.o HCI.o;have cg0:=Yj.o.c 0 rfl;have cg1:=Yj.o.c 1 rfl;have ct1:=Yk.o.c 1 rfl;have ft:=Yk.o.frozen;have aa9:nm.size≤maxLen:=by
  have:=HNM.o.1;simp only[aS,Bool.and_eq_true,decide_eq_true_eq]at this
  have h2:nm.data.toList.length=nm.size:=by simp
  rw[h2]at this;unfold maxLen;omega
 have hpn:p≠nb:=by have:=World.block_lt_of_cell? _ _ HCI.o;simp at this;omega
 cases is with
 | false=>
   have iY:Hid (Blk w3 nb ((oD (d+1) nm false).cells (A.add (T.length+1) nb w.heap.size) (T.length+1)) 234):=xh (by
    have:=HB3.o;rw[←Tj.o,kM (A:=A) (B:=A.add (T.length+1) nb w.heap.size) λ_=>(bB.jA _ _ _ _ _ (by omega)).symm]at this;exact this)
   have CX:=adh;have Jn:=Yk;have K4:=K3;have ZE:Hid (w.heap.size≤w.heap.size):=xh (bH _);have cI4:=cI3;clear cI3;generalize w3=w4 at *
   have hkd:=(CX.o.bel (Bel.drew (Bel.refl w4))).kids d D HD.o xz.o;obtain⟨es,clock,Rj,hmp⟩:=hkd.update I4 underlying232 nm aa9 (.pointer (nb,0));have hup:(Instr.mapUpdate 232 (.map (some (A.mb (d+1)))) (.string nm) (.pointer (nb,0))).run prog w4.drew=.ok () (Go.ChangeMaps.setBlock w4.drew (A.mb (d+1)) (.map es clock)):=Rj;obtain⟨es0,Yl,hb0,_⟩:=hkd;clear Rj;have OX:=xh (Keep.setBlock hb0 (.map es clock));have Xb:=xh hmp;have hne:p≠A.mb (d+1):=λe=>by
    have h1:=(CX.o.node d D HD.o).dJ (CX.o.kids d D HD.o xz.o);exact h1 (HPE.o.symm.trans e)
   clear hmp hb0;go_upto_region 6 with fail
   go_still_tail 8,(by kernel_rfl)
   change wpList _ _ _ _ _ w4.drew
   have gJ:Hid (Bel w4 w4.drew):=xh (Bel.drew (Bel.refl w4));generalize w4.drew=wd at *
   clear cI4 cg0 cg1 ct1;go_upto_region 7 with fail
   generalize Go.ChangeMaps.setBlock wd (A.mb (d+1)) (.map es clock)=w5 at *
   have ze:Hid (Blk w5 tb (t.cells A) 220):=xh ((Jn.o.bel gJ.o).keep OX.o (λe=>((Jn.o.dJ (CX.o.kids d D HD.o xz.o)) e).elim));have ct1:=ze.o.c 1 rfl;have ft:=ze.o.frozen;have adi:=ze.o.lt;have hi1:(0:Int)≤(t.bM:Int)∧(t.bM:Int)≤1000000:=by omega
   clear hup;go_wp2
   go_ret2
   have hK:Keep (λq=>q=tb∨q=A.mb (d+1)) w (w5.setCell (tb,1) (.int .i64 ((t.bM:Int)+1))):=
    ((Keep.of_bel _ (K4.o.tr gJ.o)).tr (OX.o.mono λ_ h=>.inr h)).tr ((Keep.setCell w5 tb 1 _).mono λ_ h=>.inl h)
   refine⟨nb,w.heap.size,rfl,?_,?_,hK,FB,ZE.o⟩
   ·have hn5:Blk w5 nb ((oD (d+1) nm false).cells (A.add (T.length+1) nb w.heap.size) (T.length+1)) 234:=
     (iY.o.bel gJ.o).keep OX.o (λe=>by have:=mY.o.fE ⟨d,D,HD.o,.inr (.inl ⟨xz.o,rfl⟩)⟩;omega)
    refine mY.o.add d D HD.o xz.o (oD (d+1) nm false) nb w.heap.size rfl ⟨rfl,rfl⟩ rfl aa8.o HNM.o qR (hn5.aA ?_ _) FB ?_ (λ_=>ZE.o) (Xb.o.setCell _) hK ?_
    ·have:=iY.o.ne Jn.o (by decide);exact this
    ·intro h;cases h
    ·rintro q hq (rfl|rfl)
     ·exfalso
      obtain⟨i,m,hi,h1|⟨hd,h1⟩|h1⟩:=hq
      ·exact(HT.o.ne (mY.o.node i m hi) (by decide)) h1
      ·exact(HT.o.dJ (mY.o.kids i m hi hd)) h1
      ·obtain⟨_,cur,hb⟩:=(mY.o.aN i m hi).lt h1
       exact(HT.o.ne hb (by decide)) rfl
     ·rfl
   ·have:=ze.o.setCell (o:=1) (.int .i64 ((t.bM:Int)+1))
    have e:({t with bM:=t.bM+1}:TN).cells (A.add (T.length+1) nb w.heap.size)=(t.cells A).set 1 (.int .i64 ((t.bM:Int)+1)):=by
     simp only[TN.cells,List.set_cons_succ,List.set_cons_zero]
     rw[kM (A:=A.add (T.length+1) nb w.heap.size) (B:=A) λ_=>bB.jA _ _ _ _ _ (by omega)];rfl
    rw[e];exact this
 | true=>
   have hmm:∀w,(Instr.makeMap 232 none).run prog w=.ok (.map (some w.heap.size)) (w.alloc (.map #[] 0)):=λw=>by kernel_rfl
   have f3b:∀o,(w3.alloc (.map #[] 0)).frozen? ⟨nb,o,none⟩=false:=λo=>((HB3.o.alloc (.map #[] 0)).frozen o);have c3b:(w3.alloc (.map #[] 0)).cell? (nb,2)=some (.map none):=(HB3.o.alloc (.map #[] 0)).cell 2;go_upto_region 6 with fail
   have B4:=(HB3.o.setCell (o:=2) (.map (some w3.heap.size))).alloc (.map #[] 0);have k4:Bel w ((w3.setCell (nb,2) (.map (some w3.heap.size))).alloc (.map #[] 0)):=(K3.o.store (p:=⟨nb,2,none⟩) FB _).ac _;have M4:Mp uM ((w3.setCell (nb,2) (.map (some w3.heap.size))).alloc (.map #[] 0)) w3.heap.size []:=by
    have:=Mp.new uM (w3.setCell (nb,2) (.map (some w3.heap.size)));rw[show(w3.setCell (nb,2) (.map (some w3.heap.size))).heap.size=w3.heap.size from by simp[World.setCell]]at this;exact this
   have G4:=(Yj.o.aA (a:=⟨nb,2,none⟩) (by show g4≠nb;omega) (.map (some w3.heap.size))).alloc (.map #[] 0);generalize (w3.setCell (nb,2) (.map (some w3.heap.size))).alloc (.map #[] 0)=w4 at *
   obtain⟨mb,hmb⟩:=e_x w3.heap.size;rw[hmb]at B4 M4⊢;have ZE:Hid (w.heap.size≤mb):=xh (by rw[←hmb];exact K3.o.size);have Ww:=xh M4;have K4:=xh k4;have ae5:w3.heap.size≤mb:=by omega
   have iY:Hid (Blk w4 nb ((oD (d+1) nm true).cells (A.add (T.length+1) nb mb) (T.length+1)) 234):=xh (by
    have:=B4;rw[←Tj.o,kM (A:=A) (B:=A.add (T.length+1) nb mb) λ_=>(bB.jA _ _ _ _ _ (by omega)).symm]at this;simp[oD,Pn.cells,Pn.map,bB.add]at this⊢
    exact this)
   have CX:=xh (mY.o.bel K4.o);have Jn:=xh (HT.o.bel K4.o);have cI4:w4.cell? (p,2)=some (.map (some (A.mb (d+1)))):=aa K4.o HCI.o;have cg0:=G4.c 0 rfl;have cg1:=G4.c 1 rfl;clear B4 k4 M4 G4 hmb hmm f3b c3b ct1 ft f3;have hkd:=(CX.o.bel (Bel.drew (Bel.refl w4))).kids d D HD.o xz.o;obtain⟨es,clock,Rj,hmp⟩:=hkd.update I4 underlying232 nm aa9 (.pointer (nb,0));have hup:(Instr.mapUpdate 232 (.map (some (A.mb (d+1)))) (.string nm) (.pointer (nb,0))).run prog w4.drew=.ok () (Go.ChangeMaps.setBlock w4.drew (A.mb (d+1)) (.map es clock)):=Rj;obtain⟨es0,Yl,hb0,_⟩:=hkd;clear Rj;have OX:=xh (Keep.setBlock hb0 (.map es clock));have Xb:=xh hmp;have hne:p≠A.mb (d+1):=λe=>by
    have h1:=(CX.o.node d D HD.o).dJ (CX.o.kids d D HD.o xz.o);exact h1 (HPE.o.symm.trans e)
   clear hmp hb0;go_still_tail 8,(by kernel_rfl)
   change wpList _ _ _ _ _ w4.drew
   have gJ:Hid (Bel w4 w4.drew):=xh (Bel.drew (Bel.refl w4));generalize w4.drew=wd at *
   clear cI4 cg0 cg1;go_upto_region 7 with fail
   generalize Go.ChangeMaps.setBlock wd (A.mb (d+1)) (.map es clock)=w5 at *
   have ze:Hid (Blk w5 tb (t.cells A) 220):=xh ((Jn.o.bel gJ.o).keep OX.o (λe=>((Jn.o.dJ (CX.o.kids d D HD.o xz.o)) e).elim));have ct1:=ze.o.c 1 rfl;have ft:=ze.o.frozen;have adi:=ze.o.lt;have hi1:(0:Int)≤(t.bM:Int)∧(t.bM:Int)≤1000000:=by omega
   clear hup;go_wp2
   go_ret2
   have hK:Keep (λq=>q=tb∨q=A.mb (d+1)) w (w5.setCell (tb,1) (.int .i64 ((t.bM:Int)+1))):=
    ((Keep.of_bel _ (K4.o.tr gJ.o)).tr (OX.o.mono λ_ h=>.inr h)).tr ((Keep.setCell w5 tb 1 _).mono λ_ h=>.inl h)
   refine⟨nb,mb,rfl,?_,?_,hK,FB,ZE.o⟩
   ·have hn5:Blk w5 nb ((oD (d+1) nm true).cells (A.add (T.length+1) nb mb) (T.length+1)) 234:=
     (iY.o.bel gJ.o).keep OX.o (λe=>by have:=mY.o.fE ⟨d,D,HD.o,.inr (.inl ⟨xz.o,rfl⟩)⟩;omega)
    refine mY.o.add d D HD.o xz.o (oD (d+1) nm true) nb mb rfl ⟨rfl,rfl⟩ rfl aa8.o HNM.o qR (hn5.aA ?_ _) FB ?_ (λ_=>ZE.o) (Xb.o.setCell _) hK ?_
    ·have:=iY.o.ne Jn.o (by decide);exact this
    ·intro _
     have h1:A.mb (d+1)≠mb:=λe=>by have:=mY.o.fE ⟨d,D,HD.o,.inr (.inl ⟨xz.o,rfl⟩)⟩;have:=ZE.o;omega
     exact((Ww.o.bel gJ.o).of_block (OX.o.block _ (Ww.o.bel gJ.o).lt (λe=>h1 e.symm))).setCell _
    ·rintro q hq (rfl|rfl)
     ·exfalso
      obtain⟨i,m,hi,h1|⟨hd,h1⟩|h1⟩:=hq
      ·exact(HT.o.ne (mY.o.node i m hi) (by decide)) h1
      ·exact(HT.o.dJ (mY.o.kids i m hi hd)) h1
      ·obtain⟨_,cur,hb⟩:=(mY.o.aN i m hi).lt h1
       exact(HT.o.ne hb (by decide)) rfl
     ·rfl
   ·have:=ze.o.setCell (o:=1) (.int .i64 ((t.bM:Int)+1))
    have e:({t with bM:=t.bM+1}:TN).cells (A.add (T.length+1) nb mb)=(t.cells A).set 1 (.int .i64 ((t.bM:Int)+1)):=by
     simp only[TN.cells,List.set_cons_succ,List.set_cons_zero]
     rw[kM (A:=A.add (T.length+1) nb mb) (B:=A) λ_=>bB.jA _ _ _ _ _ (by omega)];rfl
    rw[e];exact this
end
section
open Go.RowKit Go.MapKept Go.Maps
def Nd.sk(n:Nd):Nd:={n with bv:=dM}
def fA(L:List Nd):List Nd:=L.map Nd.sk
def bN(N:List Nd):Nat:=(N.map λn=>n.byt.length).sum
theorem A7(d:Nat)(s:ByteArray):∀(i:Nat) (L:List Nd),fT d s i (fA L)=fT d s i L
 | _,[]=>rfl
 | i,n::L=>by
   have ih:=A7 d s (i+1) L;unfold fA at *
   simp only[List.map_cons,fT,ih]
   rfl
theorem EX(L:List Nd)(d:Nat)(s:ByteArray):child (fA L) d s=child L d s:=A7 d s 0 L
theorem sP(L:List Nd)(n:Nat):isDir (fA L) n=isDir L n:=by
 unfold isDir fA;rw[dA];cases L[n-1]?<;>rfl
theorem EY(L:List Nd):∀(l:List (List UInt8)) (d:Nat),dF (fA L) d l=dF L d l
 | [],_=>rfl
 | [x],d=>by simp only[dF,EX]
 | x::y::t,d=>by
   have ih:=EY L (y::t) (child L d ⟨x.toArray⟩);simp only[dF,EX,sP,ih]
theorem oh(L:List Nd)(s:List UInt8):ay (fA L) s=ay L s:=by
 unfold ay;cases pathOf s with
 | none=>rfl
 | some l=>exact EY L l 1
theorem rT(L:List Nd):∀(l:List (List UInt8)) (d:Nat),l≠[]→d≠0→isDir L d=true→(dF L d l).2.2.2=0→
 (dF L d l).1≠0∧isDir L (dF L d l).1=true∧(dF L d l).2.2.1=child L (dF L d l).1 (dF L d l).2.1∧∃x∈l,(dF L d l).2.1=⟨x.toArray⟩
 | [],_,h,_,_,_=>absurd rfl h
 | [x],d,_,hd,hi,_=>⟨hd,hi,rfl,x,by simp,rfl⟩
 | x::y::t,d,_,hd,hi,he=>by
   simp only[dF]at he⊢
   by_cases h0:child L d ⟨x.toArray⟩=0
   ·rw[if_pos h0]at he;cases he
   ·rw[if_neg h0]at he⊢
    cases hc:isDir L (child L d ⟨x.toArray⟩)with
    | false=>rw[hc]at he;cases he
    | true=>
      rw[hc]at he;simp only[if_true]at he⊢
      obtain⟨h1,h2,h3,z,h4,h5⟩:=rT L (y::t) _ (by simp) h0 hc he;exact⟨h1,h2,h3,z,by simp only[List.mem_cons]at h4⊢;exact .inr h4,h5⟩
theorem oU{L:List Nd}{n:Nat}(h:isDir L n=true):∃x,L[n-1]?=some x∧x.dir=true:=by
 unfold isDir at h;cases hx:L[n-1]? with
 | none=>rw[hx]at h;cases h
 | some x=>rw[hx]at h;exact⟨x,rfl,h⟩
theorem mg{L:List Nd}{s:List UInt8}(hr:isDir L 1=true)(he:(ay L s).2.2.2=0)(hn:(ay L s).2.2.1=0) :
 (ay L s).1≠0∧isDir L (ay L s).1=true∧child L (ay L s).1 (ay L s).2.1=0∧aS (ay L s).2.1.data.toList=true∧(47:UInt8)∉(ay L s).2.1.data.toList:=by
 unfold ay at *
 cases hp:pathOf s with
 | none=>rw[hp]at he;cases he
 | some l=>
   rw[hp]at he hn;simp only at he hn⊢
   have hne:l≠[]:=by
    rintro rfl;cases hn
   obtain⟨h1,h2,h3,x,h4,h5⟩:=rT L l 1 hne (by decide) hr he;refine⟨h1,h2,by rw[←h3];exact hn,?_⟩;rw[h5];simp only[List.toList_toArray]
   cases s with
   | nil=>cases hp
   | cons b r=>
     rw[gX]at hp;split at hp
     ·split at hp
      ·cases hp;cases h4
      ·split at hp
       ·cases hp
        rename_i ha
        exact⟨List.all_eq_true.1 ha x h4,om 47 r x h4⟩
       ·cases hp
     ·cases hp
theorem jS{L:List Nd}{s:List UInt8}(hr:isDir L 1=true)(he:(ay L s).2.2.2=0):(ay L s).2.2.1≤L.length:=by
 have h1:1≤L.length:=by
  obtain⟨x,hx,_⟩:=oU hr;have:=(bZ hx).1;omega
 unfold ay at *
 cases hp:pathOf s with
 | none=>simp
 | some l=>
   rw[hp]at he;simp only at he⊢
   by_cases hne:l=[]
   ·subst hne;exact h1
   ·obtain⟨_,_,h3,_⟩:=rT L l 1 hne (by decide) hr he
    rw[h3];exact uf _ _ _
def oG(mb:Nat)(N:List Nd)(n:Nat)(b:List Int):Nat×List Nd:=
 match N[n-1]? with
 | none=>(11,N)
 | some x=>if x.dir then(11,N)else if 0<b.length∧mb<bN N+(b.length-x.byt.length)then(12,N)else(0,N.set (n-1) {x with byt:=b++x.byt.drop b.length})
def Ph(mi:Nat)(N:List Nd)(path:List UInt8):Nat×List Nd:=
 if (ay N path).2.2.2≠0 then((ay N path).2.2.2,N)else if (ay N path).2.2.1≠0 then(10,N)else if mi≤N.length then(12,N)
 else(0,N++[⟨(ay N path).1,(ay N path).2.1,true,[],dM⟩])
def jq(mi mb:Nat)(N:List Nd)(path:List UInt8)(is:Bool)(b:List Int):Nat×List Nd:=
 if is then Ph mi N path
 else if (ay N path).2.2.2≠0 then((ay N path).2.2.2,N)
 else if (ay N path).2.2.1=0 then
  if mi≤N.length then(12,N)else oG mb (N++[⟨(ay N path).1,(ay N path).2.1,false,[],dM⟩]) (N.length+1) b
 else oG mb N (ay N path).2.2.1 b
structure PT(w:World)(tb:Nat)(A:bB)(T:List Pn)(mi mb:Nat):Prop where
 tree:bT w A T
 block:Blk w tb ((⟨T.length,bN (aH T),mi,mb⟩:TN).cells A) 220
 few:T.length≤mi
 small:bN (aH T)≤mb
 mi:mi≤100000
 mb:mb≤100000
def jC(tb:Nat)(A:bB)(T:List Pn)(q:Nat):Prop:=q=tb∨qY A T q
theorem PT.ok{w:World}{tb:Nat}{A:bB}{T:List Pn}{mi mb:Nat}(h:PT w tb A T mi mb):(⟨T.length,bN (aH T),mi,mb⟩:TN).ok:=
 ⟨by have:=h.few;have:=h.mi;show T.length≤_;omega,by have:=h.small;have:=h.mb;show bN (aH T)≤_;omega,by have:=h.mi;show -10000000≤((mi:Nat):Int)∧((mi:Nat):Int)≤10000000;omega,by have:=h.mb;show -10000000≤((mb:Nat):Int)∧((mb:Nat):Int)≤10000000;omega⟩
theorem PT.fE{w:World}{tb:Nat}{A:bB}{T:List Pn}{mi mb:Nat}(h:PT w tb A T mi mb){q:Nat}(hq:jC tb A T q):q<w.heap.size:=by
 rcases hq with rfl|hq
 ·exact h.block.lt
 ·exact h.tree.fE hq
theorem PT.keep{S:Nat→Prop}{w w':World}{tb:Nat}{A:bB}{T:List Pn}{mi mb:Nat}(h:PT w tb A T mi mb)(k:Keep S w w')(hs:∀q,jC tb A T q→¬S q):PT w' tb A T mi mb:=
 ⟨h.tree.keep k λq hq=>hs q (.inr hq),h.block.keep k (hs _ (.inl rfl)),h.few,h.small,h.mi,h.mb⟩
theorem PT.bel{w w':World}{tb:Nat}{A:bB}{T:List Pn}{mi mb:Nat}(h:PT w tb A T mi mb)(k:Bel w w'):PT w' tb A T mi mb:=h.keep (Keep.of_bel (λ_=>False) k) (λ_ _ h=>h)
theorem bT.isRoot{w:World}{A:bB}{T:List Pn}(h:bT w A T):isDir (aH T) 1=true:=by
 obtain⟨r,h0,_,h1,_⟩:=h.root;rw[IZ T 0 r h0];exact h1
theorem UD(T U:List Pn):aH (T++U)=aH T++aH U:=by simp[aH]
theorem sQ(N M:List Nd):bN (N++M)=bN N+bN M:=by simp[bN]
structure jr(w:World)(tb:Nat)(A:bB)(T:List Pn)(mi mb:Nat)(N':List Nd)(A':bB)(T':List Pn)(w':World):Prop where
 pt:PT w' tb A' T' mi mb
 aH:aH T'=N'
 keep:Keep (jC tb A T) w w'
 foot:∀q,jC tb A' T' q→jC tb A T q∨w.heap.size≤q
theorem jr.refl{w w':World}{tb:Nat}{A:bB}{T:List Pn}{mi mb:Nat}(h:PT w tb A T mi mb)(k:Bel w w'):jr w tb A T mi mb (Go.Proofs.YtcnjjchlebmfiaaGreatDoor.aH T) A T w':=⟨h.bel k,rfl,Keep.of_bel _ k,λ_ h=>.inl h⟩
theorem jr.tr{w w1 w2:World}{tb:Nat}{A A1 A2:bB}{T T1 T2:List Pn}{mi mb:Nat}{N1 N2:List Nd}(h:jr w tb A T mi mb N1 A1 T1 w1)(k:jr w1 tb A1 T1 mi mb N2 A2 T2 w2):jr w tb A T mi mb N2 A2 T2 w2:=
 ⟨k.pt,k.aH,h.keep.aY k.keep h.foot,λq hq=>by
   rcases k.foot q hq with h1|h1
   ·exact h.foot q h1
   ·exact .inr (aV h.keep.size h1)⟩
theorem Made.step{w w':World}{A:bB}{T:List Pn}{tb d nb mb mi mx:Nat}{nm:ByteArray}{is:Bool}(h:PT w tb A T mi mx)(D:Pn)(hD:T[d]?=some D)(SV:D.dir=true)(hroom:T.length<mi)
 (k:Made A T ⟨T.length,bN (aH T),mi,mx⟩ tb (d+1) nm is w nb mb w'):jr w tb A T mi mx (aH T++[⟨d+1,nm,is,[],dM⟩]) (A.add (T.length+1) nb mb) (T++[oD (d+1) nm is]) w':=by
 have hn:aH (T++[oD (d+1) nm is])=aH T++[⟨d+1,nm,is,[],dM⟩]:=by rw[UD];rfl
 have hs:bN (aH (T++[oD (d+1) nm is]))=bN (aH T):=by rw[hn,sQ];rfl
 refine⟨⟨k.tree,?_,by simp;omega,by rw[hs];exact h.small,h.mi,h.mb⟩,hn,?_,?_⟩
 ·rw[hs]
  have:=k.block
  simpa using this
 ·exact k.keep.mono λq hq=>by
   rcases hq with rfl|rfl
   ·exact .inl rfl
   ·exact .inr ⟨d,D,hD,.inr (.inl ⟨SV,rfl⟩)⟩
 ·rintro q (rfl|⟨i,m,hi,hq⟩)
  ·exact .inl (.inl rfl)
  ·by_cases h1:i<T.length
   ·rw[List.getElem?_append_left h1]at hi
    rw[bB.jA _ _ _ _ _ (by omega),bB.rC _ _ _ _ _ (by omega)]at hq;exact .inl (.inr ⟨i,m,hi,hq⟩)
   ·rw[List.getElem?_append_right (by omega)]at hi
    have h2:=(bZ hi).1;simp at h2
    have e:i=T.length:=by omega
    subst e;simp at hi
    subst hi;right
    rcases hq with rfl|⟨_,rfl⟩|hq
    ·simp[bB.add];exact k.aaL
    ·simp[bB.add];exact k.aaM
    ·cases hq
end
section
open Go.Proofs.Tryz Go.RowKit
structure DK(w:World)(kb:Nat)(s:KV)(iv:Value)(L:List Nd):Prop where
 blk:Blk w kb (s.cells iv L.length) 174
 row:w.ownsRow (kb+1) 252 5 iv L.length (bE 0 L)
 aN:∀n∈L,Rw w n.bv n.byt∧∀g,n.bv.ownBlock=some g→kb≤g
 few:L.length≤100000
 one:1≤L.length
theorem pM:∀(k i j:Nat) (L:List Nd) (n:Nd),L[i]?=some n→j<5→(bE k L)[i*5+j]?=(n.cells (k+i))[j]?
 | k,0,j,[],n,h,hj=>by simp at h
 | k,i+1,j,[],n,h,hj=>by simp at h
 | k,0,j,m::L,n,h,hj=>by
   simp at h
   subst h;rw[bE,Nat.zero_mul,Nat.zero_add,List.getElem?_append_left (by simpa [Nd.cells]using hj)];simp
 | k,i+1,j,m::L,n,h,hj=>by
   have ih:=pM (k+1) i j L n (by simpa using h) hj;rw[bE,List.getElem?_append_right (by simp[Nd.cells];omega),←show k+1+i=k+(i+1)from by omega,←ih];congr 1
   simp[Nd.cells]
   omega
theorem DK.tree{w:World}{kb:Nat}{s:KV}{iv:Value}{L:List Nd}(h:DK w kb s iv L):∃g cap,iv=.slice (g,0) L.length cap∧lu w kb g cap L∧kb+1≤g:=by
 obtain⟨p,cap,hv,hn,_,hp⟩:=aD h.row;have h1:=h.one;obtain⟨g,rfl,hg,hgl,hc,_⟩:=hp.resolve_left (by omega);refine⟨g,cap,hv,⟨?_,hn,λi n hi j v hj=>?_⟩,hg⟩
 ·rw[←hv];exact h.blk.cell 7
 ·have hj5:j<5:=by have:=(bZ hj).1;simpa [Nd.cells]using this
  have hil:=(bZ hi).1;rw[hc _ (by rw[pK];omega),pM 0 i j L n hi hj5,Nat.zero_add,hj]
theorem DK.bel{w w':World}{kb:Nat}{s:KV}{iv:Value}{L:List Nd}(h:DK w kb s iv L)(k:Bel w w'):DK w' kb s iv L:=
 ⟨h.blk.bel k,aB h.row k,λn hn=>⟨(h.aN n hn).1.bel k,(h.aN n hn).2⟩,h.few,h.one⟩
theorem DK.drew{w:World}{kb:Nat}{s:KV}{iv:Value}{L:List Nd}(h:DK w kb s iv L)(n:Nat):DK (w.drewN n) kb s iv L:=h.bel (ah (Bel.refl _) n)
def tZ(w:World)(kb:Nat)(s:KV)(r:Nat×List Nd)(e:Ending)(w':World):Prop:=
 e=.returned (.int .i64 (r.1:Nat))∧Keep (λq=>kb≤q) w w'∧(r.1=0→∃zU L',fA L'=r.2∧DK w' kb s zU L')
theorem DK.made{w w':World}{kb:Nat}{s:KV}{iv zU:Value}{L:List Nd}(h:DK w kb s iv L)(d:Nat)(nm:ByteArray)(is:Bool)(qR:L.length+1≤100000)(hB:Blk w' kb (s.cells zU (L.length+1)) 174)
 (hr:w'.ownsRow (kb+1) 252 5 zU (L.length+1) (bE 0 (L++[⟨d,nm,is,[],dM⟩])))(k:Keep (λq=>q=kb∨iv.ownBlock=some q) w w'):DK w' kb s zU (L++[⟨d,nm,is,[],dM⟩]):=by
 have hl:(L++[(⟨d,nm,is,[],dM⟩:Nd)]).length=L.length+1:=by simp
 refine⟨by rw[hl];exact hB,by rw[hl];exact hr,λn hn=>?_,by rw[hl];exact qR,by rw[hl];omega⟩;rcases List.mem_append.1 hn with hn|hn
 ·refine⟨(h.aN n hn).1.keep k λg hg hs=>?_,(h.aN n hn).2⟩
  obtain⟨_,cur,hb⟩:=(h.aN n hn).1.lt hg;rcases hs with rfl|hs
  ·exact hb.ne h.blk (by decide) rfl
  ·obtain⟨p,cap,hv,_,_,hp⟩:=aD h.row
   have h1:=h.one;obtain⟨g',rfl,_,_,_,_⟩:=hp.resolve_left (by omega);rw[hv]at hs;cases hs
   rcases h.row.2 with⟨h2,_⟩|⟨g2,c2,cur2,h2,_,h3,_⟩
   ·rw[hv]at h2;cases h2
   ·rw[hv]at h2
    cases h2
    exact hb.ne (show Blk w g' cur2.toList _ from by unfold Blk;simpa using h3) (by decide) rfl
 ·simp at hn
  subst hn;exact⟨⟨(λx hx=>by cases hx),.inl ⟨rfl,rfl⟩⟩,λg hg=>by cases hg⟩
theorem CK(L M:List Nd):fA (L++M)=fA L++fA M:=by simp[fA]
theorem xI(L:List Nd):(fA L).length=L.length:=by simp[fA]
theorem IY(kb:Nat)(s:KV)(iv:Value)(L:List Nd)(mi:Nat)(nm:ByteArray)(w:World)(h:DK w kb s iv L)(hd:s.d=mi)(Kk:mi≤100000)(hs:nm.size≤1000000) :
 Calls prog 182 #[kb,nm] w λe w'=>tZ w kb s (Ph mi (fA L) nm.data.toList) e w':=by
 obtain⟨g,cap,hiv,ht,hg⟩:=h.tree;have qR:=h.few;have hw:=yK kb g cap L w ht nm hs (by omega);unfold Ph;rw[oh,xI];obtain⟨d,x,n,c,hr⟩:∃d x n c,ay L nm.data.toList=(d,x,n,c):=⟨_,_,_,_,rfl⟩;rw[hr]at hw⊢;simp only[KL]at hw⊢
 have h0c:((0:Nat):Int)=0:=rfl;have HW:=xh hw;have HDK:=xh h;have Zv:=xh hiv;clear hw h hr hiv ht;by_cases hc:c=0
 ·subst hc
  rw[h0c]at HW;rw[if_neg (by simp)];by_cases hn:n=0
  ·subst hn
   rw[h0c]at HW;rw[if_neg (by simp)];clear h0c;by_cases hm:mi≤L.length
   ·rw[if_pos hm]
    go_enter func182,ntmps182;go_upto_region 6 with(go_at_call 183;((with_reducible refine au HW.o ?_);rintro e w1 ⟨rfl,k1⟩))
    have c7:w1.cell? (kb,7)=some (.slice (g,0) L.length cap):=by rw[←Zv.o];exact(HDK.o.bel k1).blk.cell 7
    have c3:w1.cell? (kb,3)=some (.int .i64 (mi:Int)):=by rw[←hd];exact(HDK.o.bel k1).blk.cell 3
    go_quiet (fail)
    go_wp2
    go_ret
    exact⟨rfl,Keep.of_bel _ (ah k1 nq),λh=>by cases h⟩
   ·rw[if_neg hm]
    have HM:=xh λiv L' (W:World) hB hr=>Eo kb s iv L' W hB hr d x true;have hml:L.length<mi:=by omega
    have GX:Hid (fA (L++[⟨d,x,true,[],dM⟩])=fA L++[⟨d,x,true,[],dM⟩]):=xh (by rw[CK];rfl);go_enter func182,ntmps182;go_upto_region 6 with(go_at_call 183;((with_reducible refine au HW.o ?_);rintro e w1 ⟨rfl,k1⟩))
    have c7:w1.cell? (kb,7)=some (.slice (g,0) L.length cap):=by rw[←Zv.o];exact(HDK.o.bel k1).blk.cell 7
    have c3:w1.cell? (kb,3)=some (.int .i64 (mi:Int)):=by rw[←hd];exact(HDK.o.bel k1).blk.cell 3
    have bG:=xh k1;clear k1;go_quiet (fail)
    have kd:Bel w1 (w1.drewN nq):=ah (Bel.refl _) nq;generalize w1.drewN nq=wd at *
    have gJ:=xh (bG.o.tr kd);have xz:=xh (HDK.o.bel gJ.o);clear kd c7 c3;go_wp2_with (go_at_call 184;((with_reducible refine au (HM.o iv L wd xz.o.blk xz.o.row qR) ?_);rintro e w2 ⟨rfl,zU,B2,R2,K2⟩))
    go_ret
    exact⟨rfl,(Keep.of_bel _ gJ.o).tr (K2.mono λq hq=>by
     rcases hq with rfl|hq
     ·exact bH _
     ·rw[Zv.o]at hq;cases hq;show kb≤g;omega),λ_=>⟨zU,_,GX.o,xz.o.made d x true (by omega) B2 R2 K2⟩⟩
  ·rw[if_pos hn]
   have hnb:((n:Int)==0)=false:=bK (by omega);clear hn;go_enter func182,ntmps182;go_wp2_with (go_at_call 183;((with_reducible refine au HW.o ?_);rintro e w1 ⟨rfl,k1⟩))
   go_ret
   exact⟨rfl,Keep.of_bel _ k1,λh=>by cases h⟩
 ·rw[if_pos hc]
  have hcb:((c:Int)==0)=false:=bK (by omega);have HC:=xh hc;clear hc;go_enter func182,ntmps182;go_wp2_with (go_at_call 183;((with_reducible refine au HW.o ?_);rintro e w1 ⟨rfl,k1⟩))
  go_ret
  exact⟨rfl,Keep.of_bel _ k1,λh=>absurd h HC.o⟩
end
section
open Go.RowKit Go.Maps
theorem Co(L:List Nd)(k:Nat)(n:Nd)(h:L[k]?=some n):bE 0 (L.take (k+1))=bE 0 (L.take k)++n.cells k:=by
 have hlt:=(bZ h).1;have e:L.take (k+1)=L.take k++[n]:=by
  rw[List.take_succ_eq_append_getElem hlt];congr 1
  rw[bP hlt]at h;rw[Option.some.inj h]
 rw[e,wC,List.length_take,Nat.min_eq_left (by omega),Nat.zero_add];simp[bE]
theorem Xw(n:Nd)(k:Nat)(h:∃p m c,n.bv=.slice p m c):∀v∈n.cells k,v.oneCell'=true:=by
 obtain⟨p,m,c,h⟩:=h;intro v hv;simp only[Nd.cells,List.mem_cons,List.not_mem_nil,or_false]at hv
 rcases hv with rfl|rfl|rfl|rfl|rfl
 ·rfl
 ·rfl
 ·rfl
 ·rfl
 ·rw[h];rfl
end
end Go.Proofs.YtcnjjchlebmfiaaGreatDoor
