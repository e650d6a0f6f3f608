/-.-/
import Derived.Test.YtcnjjchlebmfiaaGreatDoorP09
set_option linter.all false
set_option maxRecDepth 100000
set_option maxHeartbeats 16000000
namespace Go.Proofs.YtcnjjchlebmfiaaGreatDoor
section
open Go.RowKit Go.Maps
def Seg.LP(s:Seg)(i:Nat):Bool:=decide (s.first≤i)&&decide (i≤s.last)
theorem Seg.lM{s:Seg}{i:Nat}:s.LP i=true↔s.first≤i∧i≤s.last:=by simp[Seg.LP]
def cnt(L:List Int):Nat→Nat→Nat
 | 0,_=>0
 | k+1,i=>cnt L k i+if (aV L k).LP i then 1 else 0
def ovB(L:List Int)(s:Seg)(i:Nat)(old:List Int)(j:Nat):Int:=
 if s.addr≤(i:Int)*256+j∧(i:Int)*256+j-s.addr<s.file then L.getD (s.off+((i:Int)*256+j)-s.addr).toNat 0 else old.getD j 0
def jm(L:List Int)(i:Nat):Nat→Pg
 | 0=>Pg.zero
 | k+1=>if (aV L k).LP i then⟨(aV L k).perm,(List.range 256).map (ovB L (aV L k) i (jm L i k).bytes)⟩else jm L i k
theorem cnt_mono(L:List Int)(i:Nat):∀k n,k≤n→cnt L k i≤cnt L n i:=by
 intro k n h
 induction n with
 | zero=>obtain rfl:k=0:=by omega
         exact bM _
 | succ n ih=>
   by_cases e:k=n+1
   ·subst e;exact bM _
   ·exact bU (ih (by omega)) (Nat.le_add_right _ _)
theorem cnt_le(L:List Int)(i:Nat):∀k,cnt L k i≤k
 | 0=>bM _
 | k+1=>by have:=cnt_le L i k;simp only[cnt];split<;>omega
theorem ku(L:List Int)(i:Nat):∀k,aX L k i=none↔cnt L k i=0
 | 0=>by simp[aX,cnt]
 | k+1=>by
   have ih:=ku L i k;simp only[aX,mV,cnt]
   by_cases c:(aV L k).LP i=true
   ·have:=Seg.lM.1 c
    rw[if_pos ⟨this.1,by omega⟩,if_pos c];simp
   ·have:¬((aV L k).first≤i∧i<(aV L k).last+1):=λh=>c (Seg.lM.2 ⟨h.1,by omega⟩)
    rw[if_neg this,if_neg c,ih];omega
theorem Ep(L:List Int)(i:Nat):∀k,cnt L k i=0→jm L i k=Pg.zero
 | 0,_=>rfl
 | k+1,h=>by
   simp only[cnt]at h
   by_cases c:(aV L k).LP i=true
   ·rw[if_pos c]at h;omega
   ·rw[if_neg c]at h
    simp only[jm,if_neg c]
    exact Ep L i k (by omega)
theorem oq(L:List Int)(i:Nat):∀k,cnt L k i=1→aX L k i=some (jm L i k)
 | 0,h=>by simp[cnt]at h
 | k+1,h=>by
   simp only[cnt]at h
   by_cases c:(aV L k).LP i=true
   ·have hc:=Seg.lM.1 c
    rw[if_pos c]at h;have hz:=Ep L i k (by omega);simp only[aX,mV,jm,if_pos c]
    rw[if_pos ⟨hc.1,by omega⟩,hz];congr 1
    unfold qi;congr 1
    apply List.map_congr_left
    intro j hj;have hj:=List.mem_range.1 hj;unfold ou ovB;have e1:(256*(i:Int)+j)=(i:Int)*256+j:=by omega
    rw[e1];by_cases q:(aV L k).addr≤(i:Int)*256+j∧(i:Int)*256+j<(aV L k).addr+(aV L k).file
    ·rw[if_pos q,if_pos ⟨q.1,by omega⟩]
     congr 2
     omega
    ·rw[if_neg q,if_neg (by omega)]
     rw[List.getD_eq_getElem?_getD,show Pg.zero.bytes=List.replicate 256 (0:Int)from rfl,List.getElem?_replicate,if_pos hj];rfl
   ·have:¬((aV L k).first≤i∧i<(aV L k).last+1):=λh=>c (Seg.lM.2 ⟨h.1,by omega⟩)
    rw[if_neg c]at h;simp only[aX,mV,jm,if_neg c,if_neg this]
    exact oq L i k (by omega)
theorem IJ(L:List Int)(N:Nat):(∀k,k<N→iT L k)↔∀i,cnt L N i≤1:=by
 constructor
 ·intro h i
  have:∀k,k≤N→cnt L k i≤1:=by
   intro k
   induction k with
   | zero=>intro _;simp[cnt]
   | succ k ih=>
     intro hk;have ih:=ih (by omega);simp only[cnt]
     by_cases c:(aV L k).LP i=true
     ·have hc:=Seg.lM.1 c
      have:=(ku L i k).1 (h k (by omega) i hc.1 hc.2);rw[if_pos c];omega
     ·rw[if_neg c];omega
  exact this N (bM _)
 ·intro h k hk n h1 h2
  refine(ku L n k).2 ?_;have h3:=cnt_mono L n (k+1) N (by omega);have h4:=h n;simp only[cnt,if_pos (Seg.lM.2 ⟨h1,h2⟩)]at h3
  omega
theorem sO(L:List Int)(hb:∀x∈L,0≤x∧x≤255)(i:Nat):∀k,(∀j,j<k→lN L (aV L j))→(jm L i k).wf
 | 0,_=>Pg.sQ
 | k+1,h=>by
   have ih:=sO L hb i k λj hj=>h j (by omega);have hf:=h k (by omega);simp only[jm]
   by_cases c:(aV L k).LP i=true
   ·rw[if_pos c]
    refine⟨by simp,λx hx=>?_,hf.perm⟩;obtain⟨j,hj,rfl⟩:=List.mem_map.1 hx;have hj:=List.mem_range.1 hj;unfold ovB;split
    ·rename_i q
     have h1:=hf.off;have h2:=hf.fits;have:(aV L k).off+((i:Int)*256+j)-(aV L k).addr<L.length:=by omega
     rw[List.getD_eq_getElem?_getD,bT (by omega)];exact hb _ (List.getElem_mem _)
    ·rw[List.getD_eq_getElem?_getD,bT (by rw[ih.len];exact hj)]
     exact ih.byte _ (List.getElem_mem _)
   ·rw[if_neg c];exact ih
theorem O4(L:List Int)(i:Nat)(hi:254≤i):∀k,(∀j,j<k→lN L (aV L j))→cnt L k i=0
 | 0,_=>rfl
 | k+1,h=>by
   have ih:=O4 L i hi k λj hj=>h j (by omega);have hf:=h k (by omega);have h1:=hf.top;have c:¬(aV L k).LP i=true:=λc=>by
    have:=(Seg.lM.1 c).2;unfold Seg.last at this;omega
   simp only[cnt,ih,if_neg c]
theorem yO{w0 w w':World}{base G:Nat}{e:TypeId}{size:Nat}{v:Value}{n:Nat}{xs:List Value}(h:w0.ownsRow base e size v n xs)(hb:Bel w0 w)(hk:Keep (λq=>q=G) w w')(hG:w0.heap.size≤G):w'.ownsRow base e size v n xs:=by
 have h1:=aO h hb;refine⟨h1.1,?_⟩;rcases h.2 with h2|⟨g,cap,cur,rfl,h3,h4,h5⟩
 ·exact .inl h2
 ·have hg:=(Array.getElem?_eq_some_iff.1 h4).1
  exact .inr ⟨g,cap,cur,rfl,h3,((hk.block g (Nat.lt_of_lt_of_le hg hb.size) (by omega)).trans (hb.block g hg)).trans h4,h5⟩
def fQ(L:List Int)(N i:Nat):List Nat:=(List.range i).filter λn=>cnt L N n==1
theorem wC(L:List Int)(N i:Nat):fQ L N (i+1)=fQ L N i++if cnt L N i=1 then[i]else[]:=by
 unfold fQ;rw[List.range_succ,List.filter_append];by_cases h:cnt L N i=1<;>simp[List.filter_cons,h]
theorem qZ(L:List Int)(N i:Nat):(fQ L N i).length≤i:=by
 have:=List.length_filter_le (λn=>cnt L N n==1) (List.range i)
 simpa [fQ]using this
theorem IK(L:List Int)(N:Nat)(h:∀i,cnt L N i≤1):fQ L N 256=ag (aX L N):=by
 unfold fQ ag;apply List.filter_congr
 intro n _;by_cases c:cnt L N n=1
 ·rw[oq L n N c];simp[c]
 ·rw[(ku L n N).2 (by have:=h n;omega)];simp[c]
def kz(L:List Int)(N:Nat)(ns:List Nat):List Value:=ns.flatMap λn=>ak n (jm L n N)
theorem Gg(L:List Int)(N:Nat):kz L N (fQ L N 256)=(fQ L N 256).flatMap λn=>ak n ((aX L N n).getD Pg.zero):=by
 unfold kz;rw[List.flatMap_eq_foldl,List.flatMap_eq_foldl];have:∀(ns:List Nat) (acc:List Value),(∀n∈ns,cnt L N n=1)→ns.foldl (λacc n=>acc++ak n (jm L n N)) acc=ns.foldl (λacc n=>acc++ak n ((aX L N n).getD Pg.zero)) acc:=by
  intro ns
  induction ns with
  | nil=>intro _ _;rfl
  | cons n ns ih=>
    intro acc h;simp only[List.foldl_cons]
    rw[oq L n N (h n (by simp))];exact ih _ λm hm=>h m (by simp[hm])
 exact this _ _ λn hn=>by have:=(List.mem_filter.1 hn).2;simpa using this
def mX(L:List Int)(N:Nat)(E:Int)(n:Nat):Bool:=((n:Int)==E/256)&&(bits .and .i64 (jm L n N).perm 1==1)
theorem and1(p:Int)(h0:0≤p)(h1:p≤7):(bits .and .i64 p 1==1)=!(bits .and .u8 p 1==0):=by
 have:p=0∨p=1∨p=2∨p=3∨p=4∨p=5∨p=6∨p=7:=by omega
 rcases this with rfl|rfl|rfl|rfl|rfl|rfl|rfl|rfl<;>decide
theorem QG(L:List Int)(N:Nat)(hN:(dQ L).toNat=N)(hf:∀j,j<N→lN L (aV L j))(hb:∀x∈L,0≤x∧x≤255)(h:∀i,cnt L N i≤1)(E:Int)(hE:numAt L 24 8=E)(h0:0≤E) :
 dS L=(decide (E%4=0)&&decide (E<65536)&&(fQ L N 256).any (mX L N E)):=by
 unfold dS;rw[hN,hE];by_cases q:E%4=0
 ·by_cases q2:E<65536
  ·have hm:gz (aX L N) E 1 1=lX (aX L N) (E/256).toNat 1:=by
    unfold gz;rw[if_neg (by omega),if_neg (by omega)];have:lastOf E 1=(E/256).toNat+1:=by unfold lastOf;omega
    rw[this,rq _ _ _ _ (bM _)];simp[kC]
   rw[hm];simp only[q,q2,decide_true,Bool.true_and,beq_self_eq_true]
   obtain⟨n,hn⟩:∃n,n=(E/256).toNat:=⟨_,rfl⟩;have hnE:(n:Int)=E/256:=by omega
   rw[←hn];by_cases c:cnt L N n=1
   ·have hw:=sO L hb n N hf
    have e1:lX (aX L N) n 1=(bits .and .i64 (jm L n N).perm 1==1):=by
     unfold lX Pg.can;rw[oq L n N c,and1 _ hw.perm.1 hw.perm.2];rfl
    rw[e1,Bool.eq_iff_iff,List.any_eq_true];constructor
    ·intro h1
     exact⟨n,List.mem_filter.2 ⟨List.mem_range.2 (by omega),by simp[c]⟩,by unfold mX;rw[h1];simp[hnE]⟩
    ·rintro⟨k,_,h2⟩
     unfold mX at h2;rw[Bool.and_eq_true]at h2;have:k=n:=by have:=h2.1;simp at this;omega
     subst this;exact h2.2
   ·have e1:lX (aX L N) n 1=false:=by
     unfold lX Pg.can;rw[(ku L n N).2 (by have:=h n;omega)]
     decide
    rw[e1]
    symm
    rw[List.any_eq_false];intro k hk h2;unfold mX at h2;rw[Bool.and_eq_true]at h2;have:k=n:=by have:=h2.1;simp at this;omega
    subst this;have:=(List.mem_filter.1 hk).2;simp at this
    exact c this
  ·have hm:gz (aX L N) E 1 1=false:=by
    unfold gz;rw[if_neg (by omega),if_pos (by omega)]
   rw[hm];simp[q2]
 ·simp[q]
end
section
open Go.Proofs.Tryz Go.RowKit
theorem DR:∀(xs ys:List Int),(∀x∈xs,0≤x∧x≤255)→(∀x∈ys,0≤x∧x≤255)→strOfNums xs=strOfNums ys→xs=ys:=by
 intro xs ys hx hy h;have h1:xs.map (λn=>UInt8.ofNat n.toNat)=ys.map (λn=>UInt8.ofNat n.toNat):=by
  have:=congrArg (λb:ByteArray=>b.data.toList) h
  simpa [strOfNums]using this
 clear h
 induction xs generalizing ys with
 | nil=>
   cases ys with
   | nil=>rfl
   | cons y ys=>simp at h1
 | cons x xs ih=>
   cases ys with
   | nil=>simp at h1
   | cons y ys=>
     simp only[List.map_cons,List.cons.injEq]at h1
     have hxx:=hx x List.mem_cons_self;have hyy:=hy y List.mem_cons_self;have h2:x.toNat%256=y.toNat%256:=by
      have:=congrArg UInt8.toNat h1.1
      simpa using this
     have h3:x=y:=by omega
     rw[h3,ih ys (λz hz=>hx z (List.mem_cons_of_mem _ hz)) (λz hz=>hy z (List.mem_cons_of_mem _ hz)) h1.2]
theorem magic(L:List Int)(hb:∀x∈L,0≤x∧x≤255)(hl:7≤L.length):L.take 7=[127,69,76,70,2,1,1]↔(iW L 0=true∧iW L 1=true):=by
 match L,hl with
 | x0::x1::x2::x3::x4::x5::x6::r,_=>
   have b0:=hb x0 (by simp);have b1:=hb x1 (by simp);have b2:=hb x2 (by simp);have b3:=hb x3 (by simp);have b4:=hb x4 (by simp);have b5:=hb x5 (by simp);have b6:=hb x6 (by simp);simp only[iW,nJ,List.getD_cons_zero,List.getD_cons_succ,numAt,List.drop_zero,List.drop_succ_cons,List.take_succ_cons,List.take_zero,lY,beq_iff_eq,List.cons.injEq,and_true]
   omega
theorem JS(b o cap:Nat)(L:List Int)(w:World)(hb:jF w b o L)(hcap:L.length≤cap)(hlen:L.length≤200000) :
 Calls prog 260 #[.slice (b,o) L.length cap] w λe w'=>(∃n,e=.returned (.tuple #[.int .i64 n,.bool (ay L)])∧(ay L=true→n=dQ L))∧w'=w:=by
 by_cases h64:64≤L.length
 ·have hcap2:64≤cap:=by omega
  have hconv:(convert 59 9 (.slice (b,o) 7 cap)).run prog w=.ok (.string (strOfNums (L.take 7))) w:=
   run_convert_bytes_arg w 59 5 underlying59 underlying5 b o 7 cap (L.take 7) (by simp;omega) (λi hi=>by
    rw[hb.at_ i (by omega),List.getD_eq_getElem?_getD,List.getD_eq_getElem?_getD,List.getElem?_take,if_pos hi]) 9 underlying9
  by_cases hm:L.take 7=[127,69,76,70,2,1,1]
  ·obtain⟨f0,f1⟩:=(magic L hb.byte (by omega)).1 hm
   have htl:((strOfNums (L.take 7)).toList==[127,69,76,70,2,1,1])=true:=by rw[hm,ByteArray.toList_eq];decide
   have hu:=jo L hb.byte;obtain⟨na,ha⟩:=e_x (numAt L 16 2);obtain⟨nm,hnm⟩:=e_x (numAt L 18 2);obtain⟨nv,hv⟩:=e_x (numAt L 20 4);obtain⟨np,hp⟩:=e_x (numAt L 32 8);obtain⟨ns,hs⟩:=e_x (numAt L 52 2);obtain⟨nz,hz⟩:=e_x (numAt L 54 2);obtain⟨nn,hn⟩:=e_x (numAt L 56 2);have C1:=dH b o 16 2 (cap-16) L w hb (by omega) (by omega);have C2:=dH b o 18 2 (cap-18) L w hb (by omega) (by omega);have C3:=dH b o 20 4 (cap-20) L w hb (by omega) (by omega);have C4:=dH b o 32 8 (cap-32) L w hb (by omega) (by omega);have C5:=dH b o 52 2 (cap-52) L w hb (by omega) (by omega);have C6:=dH b o 54 2 (cap-54) L w hb (by omega) (by omega);have C7:=dH b o 56 2 (cap-56) L w hb (by omega) (by omega);rw[ha]at C1;rw[hnm]at C2;rw[hv]at C3;rw[hp]at C4;rw[hs]at C5;rw[hz]at C6;rw[hn]at C7;have hn0:0≤nn:=by rw[←hn];exact(hu 56 2 (by omega)).1
   have hn1:nn≤65535:=by
    rw[←hn];have:=jM ((L.drop 56).take 2) (λx hx=>hb.byte x (List.mem_of_mem_drop (List.mem_of_mem_take hx)));rw[show((L.drop 56).take 2).length=2 from by simp;omega]at this;unfold numAt;omega
   have XH:Hid (ay L=(na==2&&nm==243&&nv==1&&np==64&&ns==64&&nz==56&&decide (1≤nn)&&decide (nn≤8)&&decide (64+56*nn≤L.length))):=xh (by
    have:(List.range 8).all (iW L)=(na==2&&nm==243&&nv==1&&np==64&&ns==64&&nz==56):=by
     simp only[List.range_succ,List.range_zero,List.nil_append,List.cons_append,List.all_cons,List.all_nil,f0,f1,Bool.true_and,Bool.and_true]
     simp only[iW,nJ,List.getD_cons_zero,List.getD_cons_succ,ha,hnm,hv,hp,hs,hz,Bool.and_assoc]
    simp only[ay,h64,this,dQ,hn,decide_true,Bool.true_and])
   have HSN:Hid (dQ L=nn):=xh hn;have G1:Hid (¬na=2→ay L=false):=xh λh=>by rw[XH.o];simp[h]
   have G2:Hid (¬nm=243→ay L=false):=xh λh=>by rw[XH.o];simp[h]
   have G3:Hid (¬nv=1→ay L=false):=xh λh=>by rw[XH.o];simp[h]
   have G4:Hid (¬np=64→ay L=false):=xh λh=>by rw[XH.o];simp[h]
   have G5:Hid (¬ns=64→ay L=false):=xh λh=>by rw[XH.o];simp[h]
   have G6:Hid (¬nz=56→ay L=false):=xh λh=>by rw[XH.o];simp[h]
   have G7:Hid (nn<1→ay L=false):=xh λh=>by rw[XH.o];simp[show ¬1≤nn from by omega]
   have G8:Hid (nn<1∨8<nn→ay L=false):=xh λh=>by rw[XH.o];simp;omega
   have GT:Hid (na=2→nm=243→nv=1→np=64→ns=64→nz=56→1≤nn∧nn≤8→ay L=decide (64+56*nn≤L.length)):=xh λh1 h2 h3 h4 h5 h6 h7=>by rw[XH.o];simp[h1,h2,h3,h4,h5,h6,h7.1,h7.2]
   have D1:=xh C1;have D2:=xh C2;have D3:=xh C3;have D4:=xh C4;have D5:=xh C5;have D6:=xh C6;have D7:=xh C7;clear C1 C2 C3 C4 C5 C6 C7 ha hnm hv hp hs hz hn f0 f1 hu hm;generalize strOfNums (L.take 7)=s7 at *
   go_enter func260,ntmps260
   go_wp2_with (go_at_call 203;first
    | (with_reducible refine aH D1.o ?_;rintro e wx ⟨rfl,h⟩;subst h)
    | (with_reducible refine aH D2.o ?_;rintro e wx ⟨rfl,h⟩;subst h)
    | (with_reducible refine aH D3.o ?_;rintro e wx ⟨rfl,h⟩;subst h)
    | (with_reducible refine aH D4.o ?_;rintro e wx ⟨rfl,h⟩;subst h)
    | (with_reducible refine aH D5.o ?_;rintro e wx ⟨rfl,h⟩;subst h)
    | (with_reducible refine aH D6.o ?_;rintro e wx ⟨rfl,h⟩;subst h)
    | (with_reducible refine aH D7.o ?_;rintro e wx ⟨rfl,h⟩;subst h))
   all_goals first
    | (have HF:ay L=false:=by
        first|exact G1.o (by assumption)|exact G2.o (by assumption)|exact G3.o (by assumption)|exact G4.o (by assumption)|exact G5.o (by assumption)|exact G6.o (by assumption)|exact G7.o (by assumption)|exact G8.o (by assumption)
       go_ret2
       exact⟨⟨0,by rw[HF];try rfl,λh=>by rw[HF]at h;cases h⟩,rfl⟩)
    | skip
   have HT:=GT.o (by assumption) (by assumption) (by assumption) (by assumption) (by assumption) (by assumption) (by assumption);have HT2:=xh HT;clear HT;go_ret2
   exact⟨⟨nn,by rw[HT2.o];try rfl,λ_=>HSN.o.symm⟩,rfl⟩
  ·have hne:strOfNums (L.take 7)≠strOfNums [127,69,76,70,2,1,1]:=λh=>hm (DR _ _ (λx hx=>hb.byte x (List.mem_of_mem_take hx)) (by decide) h)
   have HF:Hid (ay L=false):=xh (by
    have h1:=mt (magic L hb.byte (by omega)).2 hm;have:(List.range 8).all (iW L)=false:=by
     rw[List.all_eq_false];by_cases h0:iW L 0=true
     ·exact⟨1,by simp,λh=>h1 ⟨h0,h⟩⟩
     ·exact⟨0,by simp,h0⟩
    simp[ay,this])
   have htl:((strOfNums (L.take 7)).toList==[127,69,76,70,2,1,1])=false:=by
    rw[ByteArray.toList_eq];refine dK λh=>hne ?_;exact congrArg ByteArray.mk (Array.ext' (h.trans (by decide)))
   have HC:=xh hconv;clear hconv hm hne;generalize strOfNums (L.take 7)=s7 at *
   have hconv:=HC.o;clear HC;go_enter func260,ntmps260;go_wp2
   go_ret2
   exact⟨⟨0,by rw[HF.o];try rfl,λh=>by rw[HF.o]at h;cases h⟩,rfl⟩
 ·have HF:Hid (ay L=false):=xh (by simp[ay,h64])
  go_enter func260,ntmps260;go_wp2
  go_ret2
  exact⟨⟨0,by rw[HF.o];try rfl,λh=>by rw[HF.o]at h;cases h⟩,rfl⟩
theorem afJ(p:Int)(h0:0≤p)(h1:p≤7):(bits .and .u64 p 3==3)=(bits .and .u8 p 3==3):=by
 have:p=0∨p=1∨p=2∨p=3∨p=4∨p=5∨p=6∨p=7:=by omega
 rcases this with rfl|rfl|rfl|rfl|rfl|rfl|rfl|rfl<;>decide
theorem oL{w:World}{b o:Nat}{L:List Int}(h:jF w b o L)(g i:Nat)(v:Value)(hg:g≠b):jF (w.setCell (g,i) v) b o L:=
 h.of_cell λa ha=>World.cell?_setCell_far w ⟨g,i,none⟩ a v (by rw[ha];exact hg)
theorem J7(b o cap k:Nat)(L:List Int)(w:World)(hb:jF w b o L)(hcap:L.length≤cap)(hlen:L.length≤200000)(hk:64+56*k+56≤L.length) :
 Calls prog 261 #[.slice (b,o) L.length cap,.int .i64 k] w λe w'=>Bel w w'∧(∃p o a f m,e=.returned (.tuple #[.agg #[.int .i64 p,.int .u64 o,.int .u64 a,.int .u64 f,.int .u64 m],.bool (fZ L k)])∧(fZ L k=true→aV L k=⟨p,o,a,f,m⟩)):=by
 obtain⟨h,hh⟩:=e_x (64+56*k);have hu:=jo L hb.byte;obtain⟨n0,e0⟩:=e_x (numAt L h 4);obtain⟨n4,e4⟩:=e_x (numAt L (h+4) 4);obtain⟨so,eo⟩:=e_x (numAt L (h+8) 8);obtain⟨sa,ea⟩:=e_x (numAt L (h+16) 8);obtain⟨sf,ef⟩:=e_x (numAt L (h+32) 8);obtain⟨sm,em⟩:=e_x (numAt L (h+40) 8);have bo:=hu (h+8) 8 (by omega);have ba:=hu (h+16) 8 (by omega);have bf:=hu (h+32) 8 (by omega);have bm:=hu (h+40) 8 (by omega);have b4:=hu (h+4) 4 (by omega);rw[eo]at bo;rw[ea]at ba;rw[ef]at bf;rw[em]at bm;rw[e4]at b4;obtain⟨bo0,bo1⟩:=bo;obtain⟨ba0,ba1⟩:=ba;obtain⟨bf0,bf1⟩:=bf;obtain⟨bm0,bm1⟩:=bm;obtain⟨b40,b41⟩:=b4;have E:=xh (And.intro e0 (And.intro e4 (And.intro eo (And.intro ea (And.intro ef em)))));have aj0:h+56≤cap:=by omega
 have aj1:h+56≤L.length:=by omega
 have hlt:h<cap:=by omega
 have hw1:IntKind.i64.wrap (64+56*(k:Int))=h:=by rw[IntKind.wrap_i64];omega
 have HH:=xh hh;clear hh e0 e4 eo ea ef em hu;have hbl:b<w.heap.size:=hb.lt (by omega);have E0:Hid (∀W,jF W b o L→Calls prog 203 #[.slice (some ⟨b,o+h,none⟩) 4 (cap-h)] W (Z.e (.int .u64 n0) W)):=xh λW hW=>by have:=dH b o h 4 (cap-h) L W hW (by omega) (by omega);rw[E.o.1]at this;exact this.mono λe w' h=>⟨h.1,h.2.symm⟩
 have E4:Hid (∀W,jF W b o L→Calls prog 203 #[.slice (b,o+h+4) 4 (cap-h-4)] W (Z.e (.int .u64 n4) W)):=xh λW hW=>by have:=dH b o (h+4) 4 (cap-h-4) L W hW (by omega) (by omega);rw[←Nat.add_assoc,E.o.2.1]at this;exact this.mono λe w' h=>⟨h.1,h.2.symm⟩
 have E8:Hid (∀W,jF W b o L→Calls prog 203 #[.slice (b,o+h+8) 8 (cap-h-8)] W (Z.e (.int .u64 so) W)):=xh λW hW=>by have:=dH b o (h+8) 8 (cap-h-8) L W hW (by omega) (by omega);rw[←Nat.add_assoc,E.o.2.2.1]at this;exact this.mono λe w' h=>⟨h.1,h.2.symm⟩
 have E16:Hid (∀W,jF W b o L→Calls prog 203 #[.slice (b,o+h+16) 8 (cap-h-16)] W (Z.e (.int .u64 sa) W)):=xh λW hW=>by have:=dH b o (h+16) 8 (cap-h-16) L W hW (by omega) (by omega);rw[←Nat.add_assoc,E.o.2.2.2.1]at this;exact this.mono λe w' h=>⟨h.1,h.2.symm⟩
 have E32:Hid (∀W,jF W b o L→Calls prog 203 #[.slice (b,o+h+32) 8 (cap-h-32)] W (Z.e (.int .u64 sf) W)):=xh λW hW=>by have:=dH b o (h+32) 8 (cap-h-32) L W hW (by omega) (by omega);rw[←Nat.add_assoc,E.o.2.2.2.2.1]at this;exact this.mono λe w' h=>⟨h.1,h.2.symm⟩
 have E40:Hid (∀W,jF W b o L→Calls prog 203 #[.slice (b,o+h+40) 8 (cap-h-40)] W (Z.e (.int .u64 sm) W)):=xh λW hW=>by have:=dH b o (h+40) 8 (cap-h-40) L W hW (by omega) (by omega);rw[←Nat.add_assoc,E.o.2.2.2.2.2]at this;exact this.mono λe w' h=>⟨h.1,h.2.symm⟩
 obtain⟨pb,epb⟩:=e_x (L.getD (h+4) 0);have HPB:Hid (n4≤7→pb=n4):=xh (λh7=>by
  have e4:=E.o.2.1;have e:numAt L (h+4) 4=L.getD (h+4) 0+256*lY ((L.drop (h+5)).take 3):=by
   unfold numAt;rw[List.drop_eq_getElem_cons (by omega:h+4<L.length),List.take_succ_cons,lY,List.getD_eq_getElem?_getD,bT (by omega)];rfl
  have h3:=jM ((L.drop (h+5)).take 3) λx hx=>hb.byte x (List.mem_of_mem_drop (List.mem_of_mem_take hx));have hx:=hb.byteAt (h+4) (by omega);rw[←epb];omega)
 have Un:Hid (aV L k=⟨pb,so,sa,sf,sm⟩):=xh (by
  simp only[aV,HH.o,epb,E.o.2.2.1,E.o.2.2.2.1,E.o.2.2.2.2.1,E.o.2.2.2.2.2])
 have jW:Hid (fZ L k=(n0==1&&decide (1≤n4)&&decide (n4≤7)&&!(bits .and .u8 pb 3==3)&&!(sm==0)&&decide (sf≤sm)&&
  decide (so≤L.length)&&decide (sf≤L.length-so)&&so%256==sa%256&&decide (sa<65024)&&decide (sm≤65024-sa))):=xh (by
  simp only[fZ,Un.o,HH.o,E.o.1,E.o.2.1])
 have HBAD:Hid (n0≠1∨n4<1∨7<n4∨bits .and .u64 n4 3=3∨sm<1∨sm<sf∨(L.length:Int)<so∨(L.length:Int)-so<sf∨so%256≠sa%256∨65024≤sa∨65024-sa<sm→fZ L k=false):=xh (λhh=>by
  rw[jW.o];rcases hh with q|q|q|q|q|q|q|q|q|q|q
  ·simp[q]
  ·simp[show ¬1≤n4 from by omega]
  ·simp[show ¬n4≤7 from by omega]
  ·by_cases q2:n4≤7
   ·have:=afJ n4 b40 q2
    rw[HPB.o q2,←this,q];simp
   ·simp[q2]
  ·simp[show sm=0 from by omega]
  ·simp[show ¬sf≤sm from by omega]
  ·simp[show ¬so≤(L.length:Int)from by omega]
  ·simp[show ¬sf≤(L.length:Int)-so from by omega]
  ·simp[q]
  ·simp[show ¬sa<65024 from by omega]
  ·simp[show ¬sm≤65024-sa from by omega])
 have nU:Hid (n0=1→1≤n4→n4≤7→¬bits .and .u64 n4 3=3→1≤sm→sf≤sm→so≤(L.length:Int)→sf≤(L.length:Int)-so→so%256=sa%256→sa<65024→sm≤65024-sa→fZ L k=true):=xh (λq0 q1 q2 q3 q4 q5 q6 q7 q8 q9 q10=>by
  have h3:(bits .and .u8 pb 3==3)=false:=by rw[HPB.o q2,←afJ n4 b40 q2];simpa using q3
  rw[jW.o];simp only[q0,q1,q2,h3,q5,q6,q7,q8,q9,q10,show(sm==0)=false from by simp;omega]
  simp)
 clear epb;go_enter func261,ntmps261;go_upto_region 2 with(fail)
 obtain⟨z,hz⟩:∃z:List Value,z=[.int .i64 0,.int .u64 0,.int .u64 0,.int .u64 0,.int .u64 0]:=⟨_,rfl⟩;have k1:Bel w (w.alloc (.cells #[(0:Int),.int .u64 0,.int .u64 0,.int .u64 0,.int .u64 0] 414)):=Below.heap_alloc' w _;have B4:Blk (w.alloc (.cells #[(0:Int),.int .u64 0,.int .u64 0,.int .u64 0,.int .u64 0] 414)) w.heap.size z 414:=by rw[hz];exact Blk.new w _ _
 have hsz1:(w.alloc (.cells #[(0:Int),.int .u64 0,.int .u64 0,.int .u64 0,.int .u64 0] 414)).heap.size=w.heap.size+1:=by simp
 generalize (w.alloc (.cells #[(0:Int),.int .u64 0,.int .u64 0,.int .u64 0,.int .u64 0] 414))=w1 at *
 have hb1:=xh (hb.keep (Keep.of_bel (λ_=>False) k1) (λ_ h=>h));have K1:=xh k1;have BB4:=xh B4;have hg4:w.heap.size<w1.heap.size:=by omega
 have hb4:b<w.heap.size:=hbl;clear k1 B4 hsz1;generalize hge4:w.heap.size=g4 at *
 have Zr:=xh hge4;clear hge4
 go_upto_region 5 with(first
  | (go_at_call 203;with_reducible refine aH (E0.o _ hb1.out) ?_;rintro e wx ⟨rfl,rfl⟩)
  | (go_at_call 203;with_reducible refine aH (E4.o _ hb1.out) ?_;rintro e wx ⟨rfl,rfl⟩))
 have k2:Bel w1 (w1.alloc (.cells #[(0:Int),.int .u64 0,.int .u64 0,.int .u64 0,.int .u64 0] 414)):=Below.heap_alloc' w1 _;have B9:Blk (w1.alloc (.cells #[(0:Int),.int .u64 0,.int .u64 0,.int .u64 0,.int .u64 0] 414)) w1.heap.size z 414:=by rw[hz];exact Blk.new w1 _ _
 have hsz2:(w1.alloc (.cells #[(0:Int),.int .u64 0,.int .u64 0,.int .u64 0,.int .u64 0] 414)).heap.size=w1.heap.size+1:=by simp
 generalize (w1.alloc (.cells #[(0:Int),.int .u64 0,.int .u64 0,.int .u64 0,.int .u64 0] 414))=w2 at *
 have hb2:=xh (hb1.out.keep (Keep.of_bel (λ_=>False) k2) (λ_ h=>h));have K2:=xh (K1.o.tr k2);have B42:=xh (BB4.o.bel k2);have hg9:w1.heap.size<w2.heap.size:=by omega
 have hne:g4≠w1.heap.size:=by omega
 have hne2:w1.heap.size≠b:=by omega
 have hge:g4≤w1.heap.size:=by omega
 clear hsz2 k2;generalize w1.heap.size=g9 at *
 have c1:∃v,w2.cell? (g9,1)=some v:=by rw[B9.cell,hz];exact⟨_,rfl⟩
 obtain⟨x1,c1⟩:=c1;have f1:=B9.frozen 1;have HB1:=xh B9;clear B9;go_upto_region 6 with(go_at_call 203;with_reducible refine aH (E8.o _ hb2.out) ?_;rintro e wx ⟨rfl,rfl⟩)
 have S1:=HB1.o.setCell (o:=1) (.int .u64 so);have hb3:=xh (oL hb2.out g9 1 (.int .u64 so) hne2);have K3:=xh (Bel.store K2.o (p:=⟨g9,1,none⟩) (by show w.heap.size≤g9;rw[Zr.o];exact hge) (.int .u64 so));have D1:=xh (B42.o.aB (a:=⟨g9,1,none⟩) hne (.int .u64 so));generalize hwx:w2.setCell (g9,1) (.int .u64 so)=y1 at *
 clear hwx c1 f1;have c2:∃v,y1.cell? (g9,2)=some v:=by rw[S1.cell,hz];exact⟨_,rfl⟩
 obtain⟨x2,c2⟩:=c2;have f2:=S1.frozen 2;have HB2:=xh S1;clear S1;go_upto_region 7 with(go_at_call 203;with_reducible refine aH (E16.o _ hb3.out) ?_;rintro e wx ⟨rfl,rfl⟩)
 have S2:=HB2.o.setCell (o:=2) (.int .u64 sa);have hb4:=xh (oL hb3.out g9 2 (.int .u64 sa) hne2);have K4:=xh (Bel.store K3.o (p:=⟨g9,2,none⟩) (by show w.heap.size≤g9;rw[Zr.o];exact hge) (.int .u64 sa));have D2:=xh (D1.o.aB (a:=⟨g9,2,none⟩) hne (.int .u64 sa));generalize hwx:y1.setCell (g9,2) (.int .u64 sa)=y2 at *
 clear hwx c2 f2;have c3:∃v,y2.cell? (g9,3)=some v:=by rw[S2.cell,hz];exact⟨_,rfl⟩
 obtain⟨x3,c3⟩:=c3;have f3:=S2.frozen 3;have HB3:=xh S2;clear S2;go_upto_region 8 with(go_at_call 203;with_reducible refine aH (E32.o _ hb4.out) ?_;rintro e wx ⟨rfl,rfl⟩)
 have S3:=HB3.o.setCell (o:=3) (.int .u64 sf);have hb5:=xh (oL hb4.out g9 3 (.int .u64 sf) hne2);have K5:=xh (Bel.store K4.o (p:=⟨g9,3,none⟩) (by show w.heap.size≤g9;rw[Zr.o];exact hge) (.int .u64 sf));have D3:=xh (D2.o.aB (a:=⟨g9,3,none⟩) hne (.int .u64 sf));generalize hwx:y2.setCell (g9,3) (.int .u64 sf)=y3 at *
 clear hwx c3 f3;have c4:∃v,y3.cell? (g9,4)=some v:=by rw[S3.cell,hz];exact⟨_,rfl⟩
 obtain⟨x4,c4⟩:=c4;have f4:=S3.frozen 4;have HB4:=xh S3;clear S3;go_upto_region 9 with(go_at_call 203;with_reducible refine aH (E40.o _ hb5.out) ?_;rintro e wx ⟨rfl,rfl⟩)
 have S4:=HB4.o.setCell (o:=4) (.int .u64 sm);have hb6:=xh (oL hb5.out g9 4 (.int .u64 sm) hne2);have K6:=xh (Bel.store K5.o (p:=⟨g9,4,none⟩) (by show w.heap.size≤g9;rw[Zr.o];exact hge) (.int .u64 sm));have D4:=xh (D3.o.aB (a:=⟨g9,4,none⟩) hne (.int .u64 sm));generalize hwx:y3.setCell (g9,4) (.int .u64 sm)=y4 at *
 clear hwx c4 f4;clear E0;clear E4;clear E8;clear E16;clear E32;clear E40;clear hw1;clear hlt;clear hne2;clear hge;clear HB1;clear HB2;clear HB3;clear HB4;clear hb2;clear hb3;have e1:=S4.cell 1;have e2:=S4.cell 2;have e3:=S4.cell 3;have e4:=S4.cell 4;have e0:=S4.cell 0;rw[hz]at e0 e1 e2 e3 e4;simp only[List.set_cons_succ,List.set_cons_zero,List.getElem?_cons_zero,List.getElem?_cons_succ]at e0 e1 e2 e3 e4
 have dc:=D4.o.cell;have df:=D4.o.frozen;rw[hz]at dc;have ef:=S4.frozen;have aj2:=S4.lt;have aj3:=D4.o.lt;have DZ:w.heap.size≤g4:=by rw[Zr.o];exact bM _
 have aip:w.heap.size≤g9:=by omega
 clear hz S4;have hend:=xh (rfl:k=k);go_wp2
 all_goals try
  (have HF:fZ L k=false:=HBAD.o (by(try simp only[beq_iff_eq,beq_eq_false_iff_ne]at *);omega)
   have HF2:=xh HF;clear HF;refine bodyPost_ret (v:=.tuple #[.agg #[(0:Int),.int .u64 so,.int .u64 sa,.int .u64 sf,.int .u64 sm],false]) (by simp[results,results261,go_sem,dc]) rfl ⟨?_,0,so,sa,sf,sm,by rw[HF2.o];try rfl,λh=>by rw[HF2.o]at h;cases h⟩;exact((((K6.o.store (p:=⟨g4,0,none⟩) DZ _).store (p:=⟨g4,1,none⟩) DZ _).store (p:=⟨g4,2,none⟩) DZ _).store (p:=⟨g4,3,none⟩) DZ _).store (p:=⟨g4,4,none⟩) DZ _)
 (try simp only[beq_iff_eq,beq_eq_false_iff_ne]at *)
 have h7:n4≤7:=by omega
 have HG:fZ L k=true:=nU.o (by first|rfl|omega) (by omega) h7 (by omega) (by omega) (by omega) (by omega) (by omega) (by omega) (by omega) (by omega);have HG2:=xh HG;have HP2:=xh (HPB.o h7);clear HG;refine bodyPost_ret (v:=.tuple #[.agg #[.int .i64 n4,.int .u64 so,.int .u64 sa,.int .u64 sf,.int .u64 sm],true]) (by simp[results,results261,go_sem,dc]) rfl ⟨?_,n4,so,sa,sf,sm,by rw[HG2.o];try rfl,λ_=>by rw[Un.o,HP2.o]⟩;exact(((((K6.o.store (p:=⟨g9,0,none⟩) aip _).store (p:=⟨g4,0,none⟩) DZ _).store (p:=⟨g4,1,none⟩) DZ _).store (p:=⟨g4,2,none⟩) DZ _).store (p:=⟨g4,3,none⟩) DZ _).store (p:=⟨g4,4,none⟩) DZ _
end
section
open Go.Proofs.Tryz Go.RowKit Go.Maps
def Seg.yG(s:Seg):List Value:=[.int .i64 s.perm,.int .u64 s.off,.int .u64 s.addr,.int .u64 s.file,.int .u64 s.mem]
theorem J4:(prog.info? 414).map (λi=>(i.size,i.bytes,(i.zero.map (·.cells.size))))=some (5,40,some 5):=by kernel_rfl
theorem iP:(prog.info? 260).map (λi=>(i.size,i.bytes,(i.zero.map (·.cells.size))))=some (258,272,some 258):=by kernel_rfl
structure wU(L:List Int)(base:Nat)(e:Ending)(w':World):Prop where
 header:ay L=false→e=.returned (.tuple #[(),.int .u64 0,(2:Int)])
 acA:ay L=true→gJ L=false→e=.returned (.tuple #[(),.int .u64 0,(3:Int)])
 overlap:ay L=true→gJ L=true→(¬∀k,k<(dQ L).toNat→iT L k)→e=.returned (.tuple #[(),.int .u64 0,(4:Int)])
 entry:ay L=true→gJ L=true→(∀k,k<(dQ L).toNat→iT L k)→dS L=false→e=.returned (.tuple #[(),.int .u64 0,(5:Int)])
 ok:ay L=true→gJ L=true→(∀k,k<(dQ L).toNat→iT L k)→dS L=true→∃v,e=.returned (.tuple #[v,.int .u64 (numAt L 24 8),(0:Int)])∧
  w'.ownsRow base 260 258 v (ag (aX L (dQ L).toNat)).length ((ag (aX L (dQ L).toNat)).flatMap λn=>ak n ((aX L (dQ L).toNat n).getD Pg.zero))
def iM(f:Nat→Int)(old:List Int)(j:Nat):List Int:=(List.range 256).map λx=>if x<j then f x else old.getD x 0
theorem J5(f:Nat→Int)(old:List Int)(h:old.length=256):iM f old 0=old:=by
 apply List.ext_getElem?
 intro i;unfold iM;by_cases hi:i<256
 ·simp[List.getElem?_range hi,List.getD_eq_getElem?_getD,bT (show i<old.length by omega)]
 ·rw[List.getElem?_eq_none (by simp;omega),List.getElem?_eq_none (by omega)]
theorem Ol(f:Nat→Int)(old:List Int):iM f old 256=(List.range 256).map f:=by
 unfold iM;apply List.map_congr_left
 intro j hj;simp[List.mem_range.1 hj]
theorem DU(f:Nat→Int)(old:List Int)(j:Nat):(iM f old j).length=256:=by simp[iM]
theorem Om(f:Nat→Int)(old:List Int)(k:Nat)(hk:k<256):((iM f old k).map (Value.int .u8)).set k (.int .u8 (f k))=(iM f old (k+1)).map (Value.int .u8):=by
 unfold iM;apply List.ext_getElem?
 intro i;simp only[List.getElem?_set,fA,jE,List.length_range]
 by_cases hi:i<256
 ·rw[List.getElem?_range hi]
  by_cases e:k=i
  ·subst e;simp[hk]
  ·rw[if_neg e]
   simp only[Option.map_some,Option.some.injEq,Value.int.injEq,true_and]
   by_cases h1:i<k
   ·rw[if_pos h1,if_pos (by omega)]
   ·rw[if_neg h1,if_neg (by omega)]
 ·rw[List.getElem?_eq_none (by simp;omega)]
  by_cases e:k=i
  ·omega
  ·rw[if_neg e];rfl
theorem Blk.aaF{w:World}{g i:Nat}{perm:Int}{f:Nat→Int}{old:List Int}{k:Nat}{t:TypeId}(h:Blk w g (ak i ⟨perm,iM f old k⟩) t)(hk:k<256) :
 Blk (w.setCell (g,2+k) (.int .u8 (f k))) g (ak i ⟨perm,iM f old (k+1)⟩) t:=by
 have:=h.setCell (o:=2+k) (.int .u8 (f k));have e:(ak i ⟨perm,iM f old k⟩).set (2+k) (.int .u8 (f k))=ak i ⟨perm,iM f old (k+1)⟩:=by
  unfold ak;rw[show 2+k=k+1+1 from by omega,List.set_cons_succ,List.set_cons_succ,Om f old k hk]
 rwa [e]at this
theorem Blk.Yf{w:World}{g i:Nat}{perm:Int}{f:Nat→Int}{old:List Int}{k:Nat}{t:TypeId}(h:Blk w g (ak i ⟨perm,iM f old k⟩) t)(hk:f k=old.getD k 0) :
 Blk w g (ak i ⟨perm,iM f old (k+1)⟩) t:=by
 have e:iM f old k=iM f old (k+1):=by
  unfold iM;apply List.map_congr_left
  intro j _;by_cases h1:j<k
  ·rw[if_pos h1,if_pos (by omega)]
  ·by_cases h2:j=k
   ·subst h2;rw[if_neg h1,if_pos (by omega),hk]
   ·rw[if_neg h1,if_neg (by omega)]
 rwa [e]at h
theorem Blk.Yg{w:World}{g i:Nat}{p:Pg}{t:TypeId}(h:Blk w g (ak i p) t)(q:Int) :
 Blk (w.setCell (g,1) (.int .i64 q)) g (ak i ⟨q,p.bytes⟩) t:=by
 have:=h.setCell (o:=1) (.int .i64 q);exact this
theorem J6(n:Int):prog.built 260 [(0,.int .i64 n)]=some (Value.int .i64 n:: .int .i64 0::(List.replicate 256 (0:Int)).map (Value.int .u8)).toArray:=by kernel_rfl
theorem jq(n:Nat)(p:Pg):∀v∈ak n p,v.oneCell'=true:=by
 intro v hv;simp only[ak,List.mem_cons,List.mem_map]at hv
 rcases hv with rfl|rfl|⟨x,_,rfl⟩<;>rfl
theorem dP(n:Nat)(p:Pg)(hp:p.bytes.length=256):(ak n p).length=258:=by simp[ak,hp]
theorem TA(b o cap:Nat)(L:List Int)(w:World)(hb:jF w b o L)(hcap:L.length≤cap)(hlen:L.length≤200000) :
 Calls prog 186 #[.slice (b,o) L.length cap] w λe w'=>Bel w w'∧wU L w.heap.size e w':=by
 have hhd:=JS b o cap L w hb hcap hlen;cases hh:ay L with
 | false=>
   have hs2:=hhd.mono (λe w' h=>(⟨h.1.elim λn hn=>⟨n,by rw[hn.1,hh]⟩,h.2.symm⟩:(∃n,e=.returned (.tuple #[.int .i64 n,false]))∧w=w'));have HS:=xh hs2;have HH:=xh hh;clear hhd hs2 hh;go_enter func186,ntmps186;go_wp2_with (go_at_call 260;with_reducible refine aH HS.o ?_;rintro e w1 ⟨⟨n,rfl⟩,rfl⟩)
   go_ret3
   have hx:ay L≠true:=by rw[HH.o];decide
   exact⟨Below.refl _ _,⟨λ_=>rfl,λh=>absurd h hx,λh=>absurd h hx,λh=>absurd h hx,λh=>absurd h hx⟩⟩
 | true=>
   obtain⟨N,hN⟩:=e_x ((dQ L).toNat);have hhead:1≤dQ L∧dQ L≤8∧64+56*dQ L≤L.length:=by
    have:=hh;simp only[ay,Bool.and_eq_true,decide_eq_true_eq]at this
    exact⟨this.1.1.2,this.1.2,this.2⟩
   have hs2:=hhd.mono (λe w' h=>(⟨h.1.elim λn hn=>by rw[hn.1,hh,hn.2 hh,show dQ L=(N:Int)from by omega],h.2.symm⟩:(e=.returned (.tuple #[.int .i64 (N:Int),true]))∧w=w'));have HS:=xh hs2;have HH:=xh hh;have hN8:N≤8:=by omega
   have hN1:1≤N:=by omega
   have hNL:64+56*N≤L.length:=by omega
   have HN:=xh hN;have hsk:∀k W,k<N→jF W b o L→_:=λk W hk hW=>J7 b o cap k L W hW hcap hlen (by omega);have Oo:=xh hsk;have hy:ay L≠false:=by rw[hh];decide
   have HY:=xh hy;clear hhd hs2 hh hN hhead hsk hy;go_enter func186,ntmps186;go_wp2_with (go_at_call 260;with_reducible refine aH HS.o ?_;rintro e w1 ⟨rfl,rfl⟩)
   go_loopw [7,8] (λl i wr=>∃k:Nat,k≤N∧i=.int .i64 k∧(∀j,j<k→fZ L j=true)∧wr.ownsRow w.heap.size 414 5 l k ((List.range k).flatMap λi=>(aV L i).yG)∧Bel w wr) (λ_ i _=>N-(intOf i).toNat)
   case atStart=>exact⟨0,Nat.zero_le _,rfl,λj hj=>by omega,⟨rfl,.inl ⟨rfl,rfl⟩⟩,Below.refl _ _⟩
   case round=>
    obtain⟨k,hk,rfl,hall,hrow,kr⟩:=hrel;have nX:=xh hall;have gU:=xh hrow;have hbr:=xh (hb.keep (Keep.of_bel (λ_=>False) kr) (λ_ h=>h));clear hall hrow;by_cases hlt:k<N
    ·cases hok:fZ L k with
     | false=>
       have hc:=xh ((Oo.o k wr hlt hbr.out).mono (λe w' h=>(⟨h.2.elim λp hp=>hp.elim λo ho=>ho.elim λa ha=>ha.elim λf hf=>hf.elim λm hm=>⟨p,o,a,f,m,by rw[hm.1,hok]⟩,h.1⟩:(∃p o a f m,e=.returned (.tuple #[.agg #[.int .i64 p,.int .u64 o,.int .u64 a,.int .u64 f,.int .u64 m],false]))∧Bel wr w')));have jW:=xh hok;clear hok;go_wp2_with (go_at_call 261;with_reducible refine aH hc.out ?_;rintro e w1 ⟨⟨p,o,a,f,m,rfl⟩,k1⟩)
       go_ret3
       have hz:gJ L≠true:=λh=>by have:=List.all_eq_true.1 h k (List.mem_range.2 (by rw[HN.o];exact hlt));rw[jW.o]at this;cases this
       exact⟨(kr.tr k1).ac _,⟨λh=>absurd h HY.o,λ_ _=>rfl,λ_ h=>absurd h hz,λ_ h=>absurd h hz,λ_ h=>absurd h hz⟩⟩
     | true=>
       have hc:=xh ((Oo.o k wr hlt hbr.out).mono (λe w' h=>(⟨h.2.elim λp hp=>hp.elim λo ho=>ho.elim λa ha=>ha.elim λf hf=>hf.elim λm hm=>by rw[hm.1,hok,hm.2 hok],h.1⟩:(e=.returned (.tuple #[.agg #[.int .i64 (aV L k).perm,.int .u64 (aV L k).off,.int .u64 (aV L k).addr,.int .u64 (aV L k).file,.int .u64 (aV L k).mem],true]))∧Bel wr w')));have jW:=xh hok;have HSL:Hid ((List.range (k+1)).flatMap (λi=>(aV L i).yG)=(List.range k).flatMap (λi=>(aV L i).yG)++(aV L k).yG):=xh (by
        rw[List.range_succ,List.flatMap_append,List.flatMap_singleton])
       clear hok;obtain⟨⟨pb,so,sa,sf,sm⟩,hseg⟩:∃s,aV L k=s:=⟨_,rfl⟩;rw[hseg]at hc HSL;have Un:=xh hseg;clear hseg;have hz:=kr.size
       go_wp2_with (first
        | (go_at_call 261;with_reducible refine aH hc.out ?_;rintro e w1 ⟨rfl,k1⟩)
        | (refine au rfl 412 414 (.tmp 44) rfl [.int .i64 pb,.int .u64 so,.int .u64 sa,.int .u64 sf,.int .u64 sm] rfl underlying412 J4 (by show 0<5;omega) (by show 5≤2^24;omega) ?_;intro w5 B5 K5)
        | (refine bu rfl (.tmp 43) (.tmp 45) 412 rfl underlying412 J4 (by omega) rfl (aO (aO gU.o k1) ((Below.heap_alloc' w1 _).trans (K5.mono (by simp)))) _ [.int .i64 pb,.int .u64 so,.int .u64 sa,.int .u64 sf,.int .u64 sm] 414 rfl B5.out rfl (by intro v hv;simp at hv;rcases hv with rfl|rfl|rfl|rfl|rfl<;>rfl) (by unfold maxLen;omega) (by omega) (bU (bU hz k1.size) (bU (by simp) K5.size)) ?_;intro v6 w6 R6 K6))
       have KB:=(((kr.tr k1).tr (Below.heap_alloc' w1 _)).tr K5);exact⟨⟨k+1,by omega,by go_num,iQ nX.o jW.o,by rw[HSL.o];exact R6,KB.trans (K6.below _ KB.size λi hi=>hi)⟩,by simp only[intOf];omega⟩
    ·obtain rfl:k=N:=by omega
     obtain⟨ps,cp,rfl,hcp,hcm,hps⟩:=aG gU.o;obtain⟨gs,rfl,hb0,hb1,hcl,_⟩:=hps.resolve_left (by omega);have hcl':∀j,j<k→wr.rangeAt gs (j*5) (aV L j).yG:=λj hj i v hv=>by
      have hi:i<5:=by have:=(bV hv).1;simpa [Seg.yG]using this
      rw[hcl _ (by rw[flat_length _ 5 _ (λ_ _=>rfl)];simp;omega),fP _ 5 _ (λ_ _=>rfl) j i hi,List.getElem?_range hj];exact hv
     have jK:=xh hcl';have yz:Hid (∀j,j<k→lN L (aV L j)):=xh λj hj=>Hl L hb.byte j (by omega) (nX.o j hj);have Ij:Hid (gJ L=true):=xh (List.all_eq_true.2 λj hj=>nX.o j (by have:=List.mem_range.1 hj;rw[HN.o]at this;exact this));have uf:=xh kr;have hww:=kr.size;obtain⟨w2,rfl⟩:∃w2:World,w2=wr:=⟨_,rfl⟩;clear hps hcl hcl' gU kr;go_wp2
     go_loopw [11,12] (λl i wr=>∃i0:Nat,i0≤256∧i=.int .i64 i0∧(∀n,n<i0→cnt L k n≤1)∧wr.ownsRow w2.heap.size 260 258 l (fQ L k i0).length (kz L k (fQ L k i0))∧Bel w2 wr) (λ_ i _=>256-(intOf i).toNat)
     case atStart=>exact⟨0,Nat.zero_le _,rfl,λn hn=>by omega,⟨rfl,.inl ⟨rfl,rfl⟩⟩,Below.refl _ _⟩
     case round=>
      obtain⟨i,hi,rfl,hone,abw,kr⟩:=hrel;have qg:=xh hone;have J8:=xh abw;have acW:=xh kr;clear hone abw kr;by_cases hilt:i<256
      ·obtain⟨zs,hzs⟩:∃zs:List Value,zs=ak i (jm L i 0):=⟨_,rfl⟩
       have Dl:Hid (prog.built 260 [(0,.int .i64 (i:Int))]=some zs.toArray):=xh (by rw[hzs];exact J6 i);have oh:Hid (zs.length=258):=xh (by rw[hzs];exact dP _ _ Pg.sQ.len);have HZO:Hid (∀v∈zs,v.oneCell'=true):=xh (by rw[hzs];exact jq _ _);obtain⟨z0,hz0⟩:∃z0:List Value,z0=ak 0 Pg.zero:=⟨_,rfl⟩;have hz:∀w,(zeroValue 260).run prog w=.ok (.agg z0.toArray) w:=λw=>by
        rw[show z0=Value.int .i64 0:: .int .i64 0::List.replicate 256 (Value.int .u8 0)from by rw[hz0];simp[ak,Pg.zero]]
        kernel_rfl
       have HZ0:Hid (z0.length=258):=xh (by rw[hz0];exact dP _ _ Pg.sQ.len);have YU:=xh hzs;clear hzs hz0
       go_upto_region 17 with(first
        | (refine wpList_buildTo rfl 260 _ rfl (some 52) rfl zs.toArray (by simp only[List.map_toArray,List.map_cons,List.map_nil];exact Dl.o) ?_)
        | (refine aA rfl 260 (.tmp 13) (.tmp 52) rfl rfl wr.heap.size zs z0 260 (Blk.new wr z0 _) rfl rfl (by rw[oh.o];kernel_rfl) (HZ0.o.trans oh.o.symm) HZO.o ?_;intro w3 B3 K3))
       have kc:Bel wr w3:=(Below.heap_alloc' wr _).trans (K3.below _ (by simp) (λk hk=>by omega));have K23:=xh (acW.o.tr kc);have ah0:w2.heap.size≤wr.heap.size:=acW.o.size;have acX:Hid (∀w',Keep (λq=>q=wr.heap.size) w3 w'→w'.ownsRow w2.heap.size 260 258 u11 (fQ L k i).length (kz L k (fQ L k i))):=xh λw' hk'=>yO J8.o kc hk' (bM _);have HB3:Hid (Blk w3 wr.heap.size (ak i (jm L i 0)) 260):=xh (by rw[←YU.o];exact B3.out);clear kc K3 B3 Dl oh HZO J8;generalize wr.heap.size=g13 at *
       have ajL:b<g13:=Nat.lt_of_lt_of_le (hb.lt (by omega)) (bU hww ah0);have ah1:gs≠g13:=by omega
       go_wp2
       go_loopw [14,15] (λc x wx=>∃j:Nat,j≤k∧x=.int .i64 j∧c=.int .i64 (cnt L j i:Nat)∧Blk wx g13 (ak i (jm L i j)) 260∧Keep (λy=>y=g13) w3 wx) (λ_ x _=>k-(intOf x).toNat)
       case atStart=>exact⟨0,Nat.zero_le _,rfl,rfl,HB3.o,Keep.refl _ _⟩
       case round=>
        obtain⟨j,hj,rfl,rfl,hbj,hkj⟩:=hrel;have hcj:=cnt_le L i j;by_cases hjlt:j<k
        ·have hf:=yz.o j hjlt
         have hr:=jK.o j hjlt;have acY:=xh (sO L hb.byte i j (λx hx=>yz.o x (by omega)));obtain⟨⟨pb,so,sa,sf,sm⟩,hseg⟩:∃s,aV L j=s:=⟨_,rfl⟩;have Yh:Hid (cnt L (j+1) i=cnt L j i+if Seg.LP ⟨pb,so,sa,sf,sm⟩ i then 1 else 0):=xh (by rw[←hseg];rfl);have OZ:Hid (jm L i (j+1)=if Seg.LP ⟨pb,so,sa,sf,sm⟩ i then⟨pb,(List.range 256).map (ovB L ⟨pb,so,sa,sf,sm⟩ i (jm L i j).bytes)⟩else jm L i j):=xh (by simp only[jm];rw[hseg]);rw[hseg]at hf hr;obtain⟨⟨hp0,hp1⟩,ho,ha,hfi,hfit,hm1,hfm,htop⟩:=hf;simp only at hp0 hp1 ho ha hfi hfit hm1 hfm htop
         have HR:Hid (wr.rangeAt gs (j*5) [.int .i64 pb,.int .u64 so,.int .u64 sa,.int .u64 sf,.int .u64 sm]):=xh (λx v hv=>by
          rw[hkj.cell ⟨gs,j*5+x,none⟩ (Nat.lt_of_lt_of_le hb1 K23.o.size) ah1,World.cell?_of_block (a:=⟨gs,j*5+x,none⟩) (K23.o.block gs hb1)];exact hr x v hv)
         have HBJ:=xh hbj;have HKJ:=xh hkj;clear hseg hr hbj hkj;go_upto_region 22 with(refine wpList_load_mid rfl 414 (.tmp 60) rfl gs (j*5) rfl [.int .i64 pb,.int .u64 so,.int .u64 sa,.int .u64 sf,.int .u64 sm] _ HR.o underlying414 rfl (by kernel_rfl) ?_)
         have k4:Bel wr (wr.alloc (.cells #[.int .i64 pb,.int .u64 so,.int .u64 sa,.int .u64 sf,.int .u64 sm] 414)):=Below.heap_alloc' wr _;have b16:=Blk.new wr [.int .i64 pb,.int .u64 so,.int .u64 sa,.int .u64 sf,.int .u64 sm] 414;have hne16:g13≠wr.heap.size:=by have:=HBJ.o.lt;omega
         generalize (wr.alloc (.cells #[.int .i64 pb,.int .u64 so,.int .u64 sa,.int .u64 sf,.int .u64 sm] 414))=w4 at *
         have qh:=xh (HKJ.o.tr (Keep.of_bel _ k4));have Uo:=xh (HBJ.o.bel k4);clear k4;generalize wr.heap.size=g16 at *
         have e0:=b16.cell 0;have e2:=b16.cell 2;have e4:=b16.cell 4;simp only[List.getElem?_cons_zero,List.getElem?_cons_succ]at e0 e2 e4
         have ah2:=xh b16;clear b16;have hc8:cnt L j i<100:=by omega
         by_cases c1:(i:Int)<sa/256
         ·have hcov:Seg.LP ⟨pb,so,sa,sf,sm⟩ i=false:=by
           rw[Bool.eq_false_iff];intro h;have h2:=(Seg.lM.1 h).1;unfold Seg.first at h2;dsimp only at h2;omega
          rw[hcov]at Yh OZ;have HC2:Hid (cnt L (j+1) i=cnt L j i):=xh (by rw[Yh.o];simp);have HP2:Hid (jm L i (j+1)=jm L i j):=xh (by rw[OZ.o];simp);clear hcov Yh OZ;go_wp2
          go_roundw
          case rel=>exact⟨j+1,by omega,by go_num,by rw[HC2.o],by rw[HP2.o];exact Uo.o,qh.o⟩
          case measure=>simp[intOf]<;>omega
         ·by_cases c2:(sa+sm-1)/256<(i:Int)
          ·have hcov:Seg.LP ⟨pb,so,sa,sf,sm⟩ i=false:=by
            rw[Bool.eq_false_iff];intro h;have h2:=(Seg.lM.1 h).2;unfold Seg.last at h2;dsimp only at h2;omega
           rw[hcov]at Yh OZ;have HC2:Hid (cnt L (j+1) i=cnt L j i):=xh (by rw[Yh.o];simp);have HP2:Hid (jm L i (j+1)=jm L i j):=xh (by rw[OZ.o];simp);clear hcov Yh OZ;go_wp2
           go_roundw
           case rel=>exact⟨j+1,by omega,by go_num,by rw[HC2.o],by rw[HP2.o];exact Uo.o,qh.o⟩
           case measure=>simp[intOf]<;>omega
          ·have hcov:Seg.LP ⟨pb,so,sa,sf,sm⟩ i=true:=by
            refine Seg.lM.2 ?_;unfold Seg.first Seg.last;dsimp only;omega
           rw[hcov]at Yh OZ;have HC2:Hid (cnt L (j+1) i=cnt L j i+1):=xh (by rw[Yh.o];simp);have HP2:Hid (jm L i (j+1)=⟨pb,(List.range 256).map (ovB L ⟨pb,so,sa,sf,sm⟩ i (jm L i j).bytes)⟩):=xh (by rw[OZ.o];simp);clear hcov Yh OZ;obtain⟨old,hold⟩:=e_x ((jm L i j).bytes);have hol:old.length=256:=by rw[←hold];exact acY.out.len
           have hcp:=Uo.o.c 1 rfl;have hfp:=Uo.o.frozen 1;have ah3:=Uo.o.lt;go_upto_region 27 with fail
           have B5:=Uo.o.Yg pb;have K5:=qh.o.tr (Keep.setCell w4 g13 1 (.int .i64 pb));have afw:=ah2.o.aB (a:=⟨g13,1,none⟩) hne16.symm (.int .i64 pb);rw[hold,←J5 (ovB L ⟨pb,so,sa,sf,sm⟩ i old) old hol]at B5;rw[hold]at HP2;clear hcp hfp hold;generalize w4.setCell (g13,1) (.int .i64 pb)=w5 at *
           have zU:=xh B5;have pX:=xh K5;have afx:=xh afw;have CO:=xh ((hbr.out.keep (Keep.of_bel (λ_=>False) K23.o) (λ_ h=>h)).keep K5 (λ_=>by omega));clear B5 K5 afw e0 e2 e4;go_wp2
           go_loopw [19] (λx wx=>∃y:Nat,y≤256∧x=.int .i64 y∧Blk wx g13 (ak i ⟨pb,iM (ovB L ⟨pb,so,sa,sf,sm⟩ i old) old y⟩) 260∧Keep (λq=>q=g13) w5 wx) (λx _=>256-(intOf x).toNat)
           case atStart=>exact⟨0,Nat.zero_le _,rfl,zU.o,Keep.refl _ _⟩
           case round=>
            obtain⟨y,hy,rfl,hby,hky⟩:=hrel;by_cases hylt:y<256
            ·have b16:=afx.o.keep hky hne16.symm
             have e1:=b16.cell 1;have e2:=b16.cell 2;have e3:=b16.cell 3;simp only[List.getElem?_cons_zero,List.getElem?_cons_succ]at e1 e2 e3
             have HOV:Hid (ovB L ⟨pb,so,sa,sf,sm⟩ i old y=if sa≤(i:Int)*256+y∧(i:Int)*256+y-sa<sf then L.getD (so+((i:Int)*256+y)-sa).toNat 0 else old.getD y 0):=xh rfl;have ah4:=xh (CO.o.keep hky (λ_=>by omega));have fz:=hby.frozen (2+y);have cz:∃v,wr.cell? (g13,2+y)=some v:=by
              rw[hby.cell];exact⟨_,bT (by rw[dP _ _ (DU _ _ _)];omega)⟩
             obtain⟨vz,cz⟩:=cz;have ah3:=hby.lt;have zT:=xh hby;have HKY:=xh hky;clear b16 hby hky;by_cases d1:sa≤(i:Int)*256+y
             ·by_cases d2:(i:Int)*256+y-sa<sf
              ·have hbt:=ah4.o.at_ (so+((i:Int)*256+y)-sa).toNat (by omega)
               have Qr:=xh (HOV.o.trans (if_pos ⟨d1,d2⟩));generalize hx:L.getD (so+((i:Int)*256+y)-sa).toNat 0=x at *
               have HX:=xh hx;clear hx;go_wp2
               go_roundw
               case rel=>exact⟨y+1,by omega,by go_num,by have:=zT.o.aaF hylt;rw[Qr.o]at this;exact this,HKY.o.tr (Keep.setCell _ _ _ _)⟩
               case measure=>simp[intOf]<;>omega
              ·have Qr:=xh (HOV.o.trans (if_neg λh=>d2 h.2))
               go_wp2
               go_roundw
               case rel=>exact⟨y+1,by omega,by go_num,zT.o.Yf Qr.o,HKY.o⟩
               case measure=>simp[intOf]<;>omega
             ·have Qr:=xh (HOV.o.trans (if_neg λh=>d1 h.1))
              go_wp2
              go_roundw
              case rel=>exact⟨y+1,by omega,by go_num,zT.o.Yf Qr.o,HKY.o⟩
              case measure=>simp[intOf]<;>omega
            ·obtain rfl:y=256:=by omega
             rw[Ol]at hby;have zT:=xh hby;have HKY:=xh hky;clear hby hky;go_wp2
             go_roundw
             case rel=>exact⟨j+1,by omega,by go_num,by rw[HC2.o];go_num,by rw[HP2.o];exact zT.o,pX.o.tr HKY.o⟩
             case measure=>simp[intOf]<;>omega
        ·obtain rfl:j=k:=by omega
         have HBJ:=xh hbj;have HKJ:=xh hkj;have pV:Hid (Bel w2 wr):=xh (Below.trans K23.o (hkj.below _ (K23.o.size) (λq hq=>by omega)));have Yi:=xh (acX.o wr hkj);have acY:=xh (sO L hb.byte i j (λx hx=>yz.o x (by omega)));have hdl:=qZ L j i;clear hbj hkj;by_cases q1:1<cnt L j i
         ·have q1':(1:Int)<((cnt L j i:Nat):Int):=by omega
          have hno:=xh (show ¬∀q,q<(dQ L).toNat→iT L q by rw[HN.o,IJ];intro h;have:=h i;omega);go_wp2
          go_ret3
          exact⟨uf.o.tr pV.o,⟨λh=>absurd h HY.o,λ_ h=>absurd Ij.o (by rw[h];decide),λ_ _ _=>rfl,λ_ _ h=>absurd h hno.out,λ_ _ h=>absurd h hno.out⟩⟩
         ·have hle1:=xh (show cnt L j i≤1 by omega)
          by_cases q2:cnt L j i=1
          ·have HDN:=wC L j i
           rw[if_pos q2]at HDN;have HDC:Hid (kz L j (fQ L j (i+1))=kz L j (fQ L j i)++ak i (jm L i j)):=xh (by
            rw[HDN];unfold kz;rw[List.flatMap_append,List.flatMap_singleton])
           have HDL:Hid ((fQ L j (i+1)).length=(fQ L j i).length+1):=xh (by rw[HDN];simp);obtain⟨cs,hcs⟩:∃cs,cs=ak i (jm L i j):=⟨_,rfl⟩;have jK:Hid (cs.length=258):=xh (by rw[hcs];exact dP _ _ acY.out.len);have HCO:Hid (∀v∈cs,v.oneCell'=true):=xh (by rw[hcs];exact jq _ _);rw[←hcs]at HDC HBJ;have q1':((cnt L j i:Nat):Int)≤1:=by omega
           have q2':(((cnt L j i:Nat):Int)==1)=true:=by rw[q2];rfl
           have hwb:=pV.o.size;clear hcs q2 q1 HDN
           go_wp2_with (first
            | (refine wpList_load_mid rfl 260 (.tmp 13) rfl g13 0 rfl cs _ (by have:=HBJ.o.range 0;simpa using this) underlying260 rfl (by rw[jK.o];kernel_rfl) ?_)
            | (refine au rfl 164 260 (.tmp 127) rfl cs rfl underlying164 (by rw[jK.o];exact iP) (by rw[jK.o];omega) (by rw[jK.o];decide) ?_;intro w5 B5 K5)
            | (refine bu rfl (.tmp 126) (.tmp 128) 164 rfl underlying164 iP (by omega) rfl (aO Yi.o K5) _ cs 260 rfl B5.out jK.o HCO.o (by unfold maxLen;omega) (by omega) (bU hwb K5.size) ?_;intro v6 w6 R6 K6))
           exact⟨⟨i+1,by omega,by go_num,iQ qg.o hle1.out,by rw[HDC.o,HDL.o];exact R6,(pV.o.tr K5).trans (K6.below _ (bU hwb K5.size) λq hq=>hq)⟩,by simp only[intOf];omega⟩
          ·have HDN:=wC L j i
           rw[if_neg q2,List.append_nil]at HDN;have ah5:=xh HDN;have q1':((cnt L j i:Nat):Int)≤1:=by omega
           have q2':(((cnt L j i:Nat):Int)==1)=false:=by simp;omega
           clear q2 q1 HDN;go_wp2
           go_roundw
           case rel=>exact⟨i+1,by omega,by go_num,iQ qg.o hle1.out,by rw[ah5.o];exact Yi.o,pV.o⟩
           case measure=>simp[intOf]<;>omega
      ·obtain rfl:i=256:=by omega
       have Qd:∀n,cnt L k n≤1:=λn=>by
        by_cases hn:n<256
        ·exact qg.o n hn
        ·rw[O4 L n (by omega) k yz.o];omega
       have zq:Hid (∀q,q<(dQ L).toNat→iT L q):=xh (by rw[HN.o,IJ];exact Qd);have pV:Hid (Bel w wr):=xh (uf.o.tr acW.o);have afy:=hb.keep (Keep.of_bel (λ_=>False) pV.o) (λ_ h=>h);obtain⟨E,hE⟩:=e_x (numAt L 24 8);have hEb:=jo L hb.byte 24 8 (by omega);rw[hE]at hEb;obtain⟨hE0,hE1⟩:=hEb;have hnum:=dH b o 24 8 (cap-24) L wr afy (by omega) (by omega);rw[hE]at hnum;have yF:=xh (hnum.mono λe w' h=>And.intro h.1 h.2.symm);have hent:=xh (QG L k HN.o yz.o hb.byte Qd E hE hE0);have abx:=xh (IK L k Qd);have aby:=xh (Gg L k);have HE:=xh hE;have HCAP:64≤cap:=by omega
       obtain⟨ns,hns⟩:=e_x (fQ L k 256);have hnl:=qZ L k 256;have ah6:Hid (∀n∈ns,n<256):=xh (λn hn=>by rw[←hns]at hn;exact List.mem_range.1 (List.mem_filter.1 hn).1);rw[hns]at J8 hent abx aby hnl;clear hE Qd hnum hns afy;by_cases q:E%4=0
       ·by_cases r:E<65536
        ·have Gq:Hid (dS L=ns.any (mX L k E)):=xh (by rw[hent.out];simp[q,r])
         have q1:(E%4 != 0)=false:=by simp[q]
         obtain⟨ps,cp,rfl,hcp,hcm,hps⟩:=aG J8.o;have vO:=xh hps;clear hent q hps;go_wp2_with (go_at_call 203;with_reducible refine aH yF.o ?_;rintro e wx ⟨rfl,rfl⟩)
         go_loop [22] (λx=>∃y:Nat,y≤ns.length∧x=.int .i64 y∧∀z,z<y→mX L k E (ns.getD z 0)=false) (λx=>ns.length-(intOf x).toNat)
         case atStart=>exact⟨0,Nat.zero_le _,rfl,λz hz=>by omega⟩
         case round=>
          obtain⟨y,hy,rfl,hno⟩:=hrel;have HNF:=xh hno;clear hno;by_cases hylt:y<ns.length
          ·obtain⟨gp,rfl,hb0,ajM,hcl,_⟩:=vO.o.resolve_left (by omega)
           have lr:∀n∈ns,(ak n (jm L n k)).length=258:=λn _=>dP _ _ (sO L hb.byte n k yz.o).len;have hg:ns.getD y 0=ns[y]:=by rw[List.getD_eq_getElem?_getD,bT hylt];rfl
           have ca:∀j,j<258→wr.cell? (gp,y*258+j)=(ak ns[y] (jm L ns[y] k))[j]?:=λj hj=>by
            rw[hcl _ (by unfold kz;rw[flat_length _ 258 ns lr];omega)];unfold kz;rw[fP _ 258 ns lr y j hj,bT hylt];rfl
           have a0:wr.cell? (gp,y*258)=some (.int .i64 (ns[y]:Nat)):=ca 0 (by omega);have a1:wr.cell? (gp,y*258+1)=some (.int .i64 (jm L ns[y] k).perm):=ca 1 (by omega);have hwf:=sO L hb.byte ns[y] k yz.o;have hp0:=hwf.perm.1;have hp1:=hwf.perm.2;have VH:=ah6.o _ (List.getElem_mem hylt);have HDF:Hid (mX L k E (ns.getD y 0)=(((ns[y]:Nat):Int)==E/256&&(bits .and .i64 (jm L ns[y] k).perm 1==1))):=xh (by rw[hg];rfl);have QU:Hid (ns[y]∈ns):=xh (List.getElem_mem hylt);have HG:=xh hg;clear ca lr hcl hwf hg;generalize hpp:(jm L ns[y] k).perm=pp at *
           generalize hnn:ns[y]=nn at *
           have HNN:=xh hnn;have PV:=xh hpp;clear hnn hpp;by_cases f1:((nn:Nat):Int)=E/256
           ·have f1':(((nn:Nat):Int)==E/256)=true:=by simpa using f1
            by_cases f2:bits .and .i64 pp 1=1
            ·have f2':(bits .and .i64 pp 1==1)=true:=by simpa using f2
             have acZ:Hid (dS L=true):=xh (by
              rw[Gq.o,List.any_eq_true];exact⟨nn,QU.o,by have:=HDF.o;rw[HG.o]at this;rw[this,f1',f2'];rfl⟩)
             clear f1 f2;go_wp2
             go_ret3
             exact⟨pV.o,⟨λh=>absurd h HY.o,λ_ h=>absurd Ij.o (by rw[h];decide),λ_ _ h=>absurd zq.o h,λ_ _ _ h=>absurd acZ.o (by rw[h];decide),λ_ _ _ _=>⟨_,by rw[HE.o];try rfl,by rw[HN.o,←abx.o,←aby.o];exact J8.o.mono hww⟩⟩⟩
            ·have f2':(bits .and .i64 pp 1==1)=false:=by simpa using f2
             have DT:Hid (mX L k E (ns.getD y 0)=false):=xh (by rw[HDF.o,f2',Bool.and_false]);clear f1 f2;go_wp2
             go_round
             case rel=>exact⟨y+1,by omega,by go_num,iQ HNF.o DT.o⟩
             case measure=>simp[intOf]<;>omega
           ·have f1':(((nn:Nat):Int)==E/256)=false:=by simpa using f1
            have DT:Hid (mX L k E (ns.getD y 0)=false):=xh (by rw[HDF.o,f1',Bool.false_and]);clear f1;go_wp2
            go_round
            case rel=>exact⟨y+1,by omega,by go_num,iQ HNF.o DT.o⟩
            case measure=>simp[intOf]<;>omega
          ·obtain rfl:y=ns.length:=by omega
           have xK:Hid (dS L=false):=xh (by
            rw[Gq.o,List.any_eq_false];intro n hn;obtain⟨z,hz,rfl⟩:=List.getElem_of_mem hn;have:=HNF.o z hz;rw[List.getD_eq_getElem?_getD,bT hz]at this
            simpa using this)
           clear HNF;go_wp2
           go_ret3
           exact⟨pV.o,⟨λh=>absurd h HY.o,λ_ h=>absurd Ij.o (by rw[h];decide),λ_ _ h=>absurd zq.o h,λ_ _ _ _=>rfl,λ_ _ _ h=>absurd xK.o (by rw[h];decide)⟩⟩
        ·have Gq:Hid (dS L=false):=xh (by rw[hent.out];simp[r])
         have q1:(E%4 != 0)=false:=by simp[q]
         have r1:65536≤E:=by omega
         clear hent q r;go_wp2_with (go_at_call 203;with_reducible refine aH yF.o ?_;rintro e wx ⟨rfl,rfl⟩)
         go_ret3
         exact⟨pV.o,⟨λh=>absurd h HY.o,λ_ h=>absurd Ij.o (by rw[h];decide),λ_ _ h=>absurd zq.o h,λ_ _ _ _=>rfl,λ_ _ _ h=>absurd Gq.o (by rw[h];decide)⟩⟩
       ·have Gq:Hid (dS L=false):=xh (by rw[hent.out];simp[q])
        have q1:(E%4 != 0)=true:=by simp[q]
        clear hent q;go_wp2_with (go_at_call 203;with_reducible refine aH yF.o ?_;rintro e wx ⟨rfl,rfl⟩)
        go_ret3
        exact⟨pV.o,⟨λh=>absurd h HY.o,λ_ h=>absurd Ij.o (by rw[h];decide),λ_ _ h=>absurd zq.o h,λ_ _ _ _=>rfl,λ_ _ _ h=>absurd Gq.o (by rw[h];decide)⟩⟩
theorem DW(p:Option Addr)(n cap:Nat)(w:World)(hn:n<64) :
 Calls prog 260 #[(p,n,cap)] w (Z.e (.tuple #[(0:Int),false]) w):=by
 go_enter func260,ntmps260;go_wp2
 go_ret2
 exact⟨rfl,rfl⟩
theorem JI(p:Option Addr)(n cap:Nat)(w:World)(hn:n<64) :
 Calls prog 186 #[(p,n,cap)] w (Z.e (.tuple #[(),.int .u64 0,(2:Int)]) w):=by
 go_enter func186,ntmps186;go_wp2_with (go_at_call 260;refine aH (DW p n cap _ hn) ?_;rintro e w1 ⟨rfl,rfl⟩)
 go_ret3
 exact⟨rfl,rfl⟩
end
end Go.Proofs.YtcnjjchlebmfiaaGreatDoor
