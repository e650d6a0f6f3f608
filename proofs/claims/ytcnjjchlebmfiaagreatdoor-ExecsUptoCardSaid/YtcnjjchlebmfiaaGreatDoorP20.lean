/-.-/
import Derived.Test.YtcnjjchlebmfiaaGreatDoorP19
set_option linter.all false
set_option maxRecDepth 100000
set_option maxHeartbeats 16000000
namespace Go.Proofs.YtcnjjchlebmfiaaGreatDoor
section
open Go.RowKit
def U(n:Int):Prop:=0≤n∧n<18446744073709551616
end
section
open Go.RowKit Go.Maps
structure Xp where
 pid:Nat
 par:Nat
 live:Bool
 sv:Int
 pc:Int
 rs:List Int
 M:ax
def Xp.st(p:Xp):Int:=if p.live then 0 else 2
def Xp.n(p:Xp):Nat:=(ag p.M).length
def aI(ps:List Xp):Nat:=(ps.map Xp.n).sum
structure lQ(lp lf:Nat)(ps:List Xp):Prop where
 head:∃p r,ps=p::r∧p.pid=1∧p.live=true
 sort:(ps.map Xp.pid).Pairwise (·< ·)
 MH:∀p∈ps,1≤p.pid∧p.pid≤lp
 par:∀p∈ps,p.par≤lp
 reg:∀p∈ps,p.rs.length=16∧(∀x∈p.rs,U x)∧U p.pc∧0≤p.sv∧p.sv≤255
 ok:∀p∈ps,bF p.M
 live:∀p∈ps,p.live=true→∃y,254≤y∧(p.M y).isSome=true
 dead:∀p∈ps,p.live=false→∀n,p.M n=none
 fr:aI ps≤lf
theorem gW(a b:List Xp):aI (a++b)=aI a+aI b:=by unfold aI;rw[List.map_append,List.sum_append]
theorem dh(p:Xp)(b:List Xp):aI (p::b)=p.n+aI b:=by unfold aI;rw[List.map_cons,List.sum_cons]
section
variable {lp lf:Nat} {ps:List Xp}
theorem lQ.lt(h:lQ lp lf ps){i j:Nat}{p q:Xp}(hij:i<j)(hi:ps[i]?=some p)(hj:ps[j]?=some q):p.pid<q.pid:=by
 obtain⟨a,ea⟩:=bV hi;obtain⟨b,eb⟩:=bV hj;have:=List.pairwise_iff_getElem.1 h.sort i j (by simpa using a) (by simpa using b) hij;simp only[List.getElem_map]at this
 rwa [ea,eb]at this
theorem lQ.uniq(h:lQ lp lf ps){i j:Nat}{p q:Xp}(hi:ps[i]?=some p)(hj:ps[j]?=some q)(e:p.pid=q.pid):i=j:=by
 rcases Nat.lt_trichotomy i j with c|c|c
 ·have:=h.lt c hi hj;omega
 ·exact c
 ·have:=h.lt c hj hi;omega
theorem lQ.ge(h:lQ lp lf ps):∀(i:Nat) (p:Xp),ps[i]?=some p→i+1≤p.pid
 | 0,p,hp=>(h.MH p (List.mem_of_getElem? hp)).1
 | i+1,p,hp=>by
   have hl:=(bV hp).1;have h1:=h.ge i _ (bT (by omega:i<ps.length));have h2:=h.lt (Nat.lt_succ_self i) (bT (by omega:i<ps.length)) hp;omega
theorem lQ.len(h:lQ lp lf ps):ps.length≤lp:=by
 obtain⟨p,r,e,_⟩:=h.head;have hl:0<ps.length:=by rw[e];simp
 have h1:=h.ge (ps.length-1) _ (bT (by omega));have h2:=(h.MH _ (List.getElem_mem (by omega:ps.length-1<ps.length))).2;omega
theorem lQ.gap(h:lQ lp lf ps):∃i,i≤ps.length∧(∀j p,j<i→ps[j]?=some p→p.pid=j+1)∧∀j p,i≤j→ps[j]?=some p→j+2≤p.pid:=by
 have key:∀n,n≤ps.length→(∀j p,j<n→ps[j]?=some p→p.pid=j+1)∨∃i,i≤ps.length∧(∀j p,j<i→ps[j]?=some p→p.pid=j+1)∧∀j p,i≤j→ps[j]?=some p→j+2≤p.pid:=by
  intro n
  induction n with
  | zero=>exact λ_=>.inl λj p hj=>absurd hj (by omega)
  | succ n ih=>
    intro hn;rcases ih (by omega)with h1|h1
    ·have hq:=bT (by omega:n<ps.length)
     by_cases e:(ps[n]'(by omega)).pid=n+1
     ·refine .inl λj p hj hp=>?_
      rcases Nat.lt_or_ge j n with c|c
      ·exact h1 j p c hp
      ·obtain rfl:j=n:=by omega
       rw[hq]at hp;cases hp
       exact e
     ·refine .inr ⟨n,by omega,h1,?_⟩
      have hg:=h.ge n _ hq;intro j
      induction j with
      | zero=>
        intro p hj hp;obtain rfl:n=0:=by omega
        rw[hq]at hp;cases hp
        omega
      | succ j ihj=>
        intro p hj hp;rcases Nat.lt_or_ge j n with c|c
        ·obtain rfl:n=j+1:=by omega
         rw[hq]at hp;cases hp
         omega
        ·have hjl:=(bV hp).1
         have hp0:=bT (by omega:j<ps.length);have h2:=ihj _ c hp0;have h3:=h.lt (Nat.lt_succ_self j) hp0 hp;omega
    ·exact .inr h1
 rcases key ps.length (bM _)with h1|h1
 ·exact⟨ps.length,bM _,h1,λj p hj hp=>absurd (bV hp).1 (by omega)⟩
 ·exact h1
theorem lQ.least(h:lQ lp lf ps):(lp≤ps.length∧∀j,1≤j→j≤lp→∃p,ps[j-1]?=some p∧p.pid=j)∨
 (ps.length<lp∧∃r,1≤r∧r≤lp∧r-1≤ps.length∧(∀j,1≤j→j<r→∃p,ps[j-1]?=some p∧p.pid=j)∧∀j p,ps[j]?=some p→p.pid≠r∧(j<r-1→p.pid<r)∧(r-1≤j→r<p.pid)):=by
 obtain⟨i,h1,h2,h3⟩:=h.gap;have hl:=h.len;rcases Nat.lt_or_ge ps.length lp with c|c
 ·refine .inr ⟨c,i+1,by omega,?_,by omega,λj hj1 hj2=>?_,λj p hp=>?_⟩
  ·rcases Nat.lt_or_ge i ps.length with d|d
   ·have hq:=bT d
    have:=h3 i _ (bM _) hq;have:=(h.MH _ (List.mem_of_getElem? hq)).2;omega
   ·omega
  ·have hq:=bT (by omega:j-1<ps.length)
   exact⟨_,hq,by have:=h2 (j-1) _ (by omega) hq;omega⟩
  ·rcases Nat.lt_or_ge j i with d|d
   ·have:=h2 j p d hp
    refine⟨by omega,λ_=>by omega,λ_=>by omega⟩
   ·have:=h3 j p d hp
    refine⟨by omega,λ_=>by omega,λ_=>by omega⟩
 ·refine .inl ⟨c,λj hj1 hj2=>?_⟩
  have hq:=bT (by omega:j-1<ps.length);refine⟨_,hq,?_⟩;rcases Nat.lt_or_ge (j-1) i with d|d
  ·have:=h2 (j-1) _ d hq;omega
  ·have hq2:=bT (by omega:ps.length-1<ps.length)
   have h4:=h3 (ps.length-1) _ (by omega) hq2;have:=(h.MH _ (List.mem_of_getElem? hq2)).2;omega
end
end
section
open Go.RowKit
end
section
open Go.RowKit Go.Maps
theorem AY{M:Nat→Int}{A:Nat}{bs:List Int}(hM:∀a,0≤M a∧M a≤255)(hb:∀x∈bs,0≤x∧x≤255)(a:Nat):0≤aW M A bs a∧aW M A bs a≤255:=by
 unfold aW;split
 ·rename_i h
  rw[List.getD_eq_getElem?_getD,bT (by omega)];exact hb _ (List.getElem_mem _)
 ·exact hM a
end
section
open Go.Proofs.Tryz Go.RowKit Go.Maps
abbrev BM(w:World)(pv:Value)(m:ax):Prop:=Rd w pv (ag m).length (aQ m)
theorem Ym{m:ax}(hm:bF m){k N:Nat}(hk:(ag m)[k]?=some N)(j:Nat)(hj:j<258):(aQ m)[k*258+j]?=(ak N ((m N).getD Pg.zero))[j]?∧k*258+j<(aQ m).length:=by
 have hwf:∀n,((m n).getD Pg.zero).wf:=λn=>by
  cases h:m n with
  | none=>exact Pg.sQ
  | some p=>exact hm.wf n p h
 have hl:∀n∈ag m,(ak n ((m n).getD Pg.zero)).length=258:=λn _=>by simp[ak,(hwf n).len]
 have hlt:=(bV hk).1;refine⟨?_,?_⟩
 ·unfold aQ
  rw[fP _ 258 _ hl k j hj,hk];rfl
 ·unfold aQ
  rw[flat_length _ 258 _ hl];omega
theorem BM.page{w:World}{pv:Value}{m:ax}(h:BM w pv m)(hm:bF m){k N:Nat}(hk:(ag m)[k]?=some N) :
 ∃g cap,pv=.slice (g,0) (ag m).length cap∧g<w.heap.size∧∀j,j<258→w.cell? (g,k*258+j)=(ak N ((m N).getD Pg.zero))[j]?:=by
 obtain⟨p,cap,rfl,hp⟩:=h;have hlt:=(bV hk).1;obtain⟨g,rfl,h1,h2⟩:=hp (by omega);refine⟨g,cap,rfl,h1,λj hj=>?_⟩;obtain⟨e1,e2⟩:=Ym hm hk j hj;rw[h2 _ e2,e1]
theorem kH{m:ax}{n:Nat}:n∈ag m↔n<256∧(m n).isSome=true:=by
 unfold ag;rw[List.mem_filter,List.mem_range]
def findF(m:ax)(N:Nat):Int:=if N∈ag m then(((ag m).idxOf N:Nat):Int)else -1
theorem vg{m:ax}{N:Nat}(h:N<256)(hs:(m N).isSome=true):∃k,findF m N=(k:Nat)∧(ag m)[k]?=some N:=by
 have hmem:N∈ag m:=kH.2 ⟨h,hs⟩;refine⟨(ag m).idxOf N,by unfold findF;rw[if_pos hmem],?_⟩;rw[bT (List.idxOf_lt_length_of_mem hmem),List.getElem_idxOf]
theorem Oy{m:ax}{N:Nat}(hs:m N=none):findF m N = -1:=by
 unfold findF;rw[if_neg λh=>by have:=(kH.1 h).2;rw[hs]at this;cases this]
theorem yx(pv:Value)(m:ax)(N:Nat)(w:World)(h:BM w pv m)(hm:bF m)(hN:N≤1000000) :
 Calls prog 107 #[pv,.int .i64 N] w (Z.e (.int .i64 (findF m N)) w):=by
 have hl:=aT m;have HPG:=xh λk n (hk:(ag m)[k]?=some n)=>h.page hm hk;obtain⟨p,cap,rfl,_⟩:=h;obtain⟨l,hll⟩:∃l,l=ag m:=⟨_,rfl⟩;have hF:findF m N=if N∈l then((l.idxOf N:Nat):Int)else -1:=by rw[hll];rfl
 have HF:=xh hF;rw[←hll]at HPG hl⊢;clear hF hll;go_enter func107,ntmps107;go_wp2_with fail
 go_loop [5] (λi=>∃k:Nat,k≤l.length∧i=.int .i64 k∧∀j,j<k→l[j]?≠some N) (λi=>l.length-(intOf i).toNat)
 case atStart=>exact⟨0,Nat.zero_le _,rfl,λj hj=>by omega⟩
 case round=>
  obtain⟨k,hk,rfl,hno⟩:=hrel;by_cases hlt:k<l.length
  ·obtain⟨n,hn⟩:∃n,l[k]?=some n:=⟨_,bT hlt⟩
   obtain⟨g,cap',e,_,hc⟩:=HPG.o k n hn;cases e
   have c0:w.cell? (g,k*258)=some (.int .i64 n):=hc 0 (by omega);have DT:=xh hno;have HN:=xh hn;clear hc hno hn;by_cases he:n=N
   ·subst he
    go_wp2_with fail
    go_ret
    refine⟨?_,rfl⟩;have hidx:l.idxOf n=k:=by
     obtain⟨h2,h3⟩:=bV HN.o;unfold List.idxOf;rw[List.findIdx_eq h2];refine⟨by rw[h3];simp,λj hj=>?_⟩;have h4:=DT.o j hj;rw[bT (by omega)]at h4
     simpa using λe:l[j]=n=>h4 (by rw[e])
    rw[HF.o,if_pos (List.mem_iff_getElem?.2 ⟨k,HN.o⟩),hidx];rfl
   ·have hb:((n:Int)==N)=false:=dK (by omega)
    go_wp2_with fail
    go_round
    case rel=>exact⟨k+1,by omega,by go_num,λj hj=>by
     by_cases e:j=k
     ·subst e
      rw[HN.o];intro h;exact he (Option.some.inj h)
     ·exact DT.o j (by omega)⟩
    case measure=>simp[intOf]<;>omega
  ·obtain rfl:k=l.length:=by omega
   have DT:=xh hno;clear hno;go_wp2_with fail
   go_ret
   refine⟨?_,rfl⟩;rw[HF.o,if_neg λh=>by
    obtain⟨j,hj⟩:=List.mem_iff_getElem?.1 h;exact DT.o j (bV hj).1 hj]
   rfl
theorem Yn(p k:Int)(h0:0≤p)(h7:p≤7)(hk:k=1∨k=2∨k=4):(bits .and .i64 p k==0)=(bits .and .u8 p k==0):=by
 have hp:p=0∨p=1∨p=2∨p=3∨p=4∨p=5∨p=6∨p=7:=by omega
 rcases hk with rfl|rfl|rfl<;>rcases hp with rfl|rfl|rfl|rfl|rfl|rfl|rfl|rfl<;>decide
theorem Yo{m:ax}{N:Nat}(h:m N=none){k:Int}(hk:k=1∨k=2∨k=4):lX m N k=false:=by
 unfold lX Pg.can;rw[h];rcases hk with rfl|rfl|rfl<;>decide
theorem wS(pv:Value)(m:ax)(a n k:Int)(w:World)(h:BM w pv m)(hm:bF m)(ha:U a)(hn : -9223372036854775808≤n)(hn1:n<9223372036854775808)(hk:k=1∨k=2∨k=4) :
 Calls prog 106 #[pv,.int .u64 a,n,k] w (Z.e (.bool (gz m a n k)) w):=by
 obtain⟨ha,ha1⟩:=ha;by_cases h0:n=0
 ·subst h0
  go_enter func106,ntmps106;go_wp2
  go_ret
  exact⟨by simp[gz],rfl⟩
 have g0:(n==0)=false:=by simpa using h0
 by_cases h1:n<0∨65536≤a∨65536-a<n
 ·have hr:gz m a n k=false:=by simp[gz,h0,h1]
  have HR:=xh hr;clear hr h hm hk;by_cases h2:n<0
  ·clear h1 h0
   go_enter func106,ntmps106;go_wp2
   go_ret
   exact⟨by rw[HR.o];try rfl,rfl⟩
  ·have h3:0≤n:=by omega
   by_cases h4:65536≤a
   ·clear h1 h0 h2
    go_enter func106,ntmps106;go_wp2
    go_ret
    exact⟨by rw[HR.o];try rfl,rfl⟩
   ·have h5:a<65536:=by omega
    have h6:65536-a<n:=by omega
    clear h1 h0 h2 h4;go_enter func106,ntmps106;go_wp2
    go_ret
    exact⟨by rw[HR.o];try rfl,rfl⟩
 ·have h2:0<n:=by omega
  have h3:a<65536:=by omega
  have h4:n≤65536-a:=by omega
  have hr:gz m a n k=kC m k (a/256).toNat (lastOf a n):=by simp[gz,h0,h1]
  have HR:=xh hr;have QV:=xh λN (hN:N≤1000000)=>yx pv m N w h hm hN;have HPG:=xh λi N (hi:(ag m)[i]?=some N)=>h.page hm hi;have HM:=xh hm;have HKK:=xh hk;clear hr h1 h0 hn hn1 ha1 h hm hk;go_enter func106,ntmps106;go_wp2_with fail
  go_loop [10] (λp=>∃q:Nat,(a/256).toNat≤q∧q≤lastOf a n∧p=.int .i64 q∧kC m k (a/256).toNat q=true) (λp=>lastOf a n-(intOf p).toNat)
  case atStart=>exact⟨(a/256).toNat,bM _,by simp only[lastOf];omega,by congr 1;omega,by simp[kC]⟩
  case round=>
   obtain⟨q,hq,hq1,rfl,hall⟩:=hrel;have HA:=xh hall;clear hall;have DC:(q:Int)≤256:=by simp only[lastOf]at hq1;omega
   by_cases hlt:(q:Int)≤(a+n-1)/256
   ·have hlast:q<lastOf a n:=by simp only[lastOf];omega
    have afD:q<256:=by omega
    have hfd:=QV.o q (by omega);cases Ny:m q with
    | none=>
      have hres:=xh (HR.o.trans (qB m k _ _ q hq hlast (Yo Ny HKK.o)));rw[Oy Ny]at hfd;have HF:=xh hfd;clear hfd Ny;go_wp2_with (go_at_call 107;((with_reducible refine aH HF.o ?_);rintro e2 w2 ⟨rfl,rfl⟩))
      go_ret
      exact⟨by rw[hres.out];try rfl,rfl⟩
    | some p=>
      obtain⟨i,hi,hin⟩:=vg (m:=m) afD (by rw[Ny];rfl);rw[hi]at hfd;have HF:=xh hfd;have hil:i<(ag m).length:=(bV hin).1;have hpl:=aT m;obtain⟨g,cap,hpv,hgl,hcell⟩:=HPG.o i q hin;have c1:w.cell? (g,i*258+1)=some (.int .i64 p.perm):=by rw[hcell 1 (by omega),Ny];rfl
      have hwf:=(HM.o.wf q p Ny).perm;have hap:=Yn p.perm k hwf.1 hwf.2 HKK.o;subst hpv;have ajQ:(i:Int)<((ag m).length:Nat):=by omega
      have hi0:(0:Int)≤i:=by omega
      cases hc:lX m q k with
      | false=>
        have hres:=xh (HR.o.trans (qB m k _ _ q hq hlast hc));have hb:(bits .and .i64 p.perm k==0)=true:=by rw[hap];simpa [lX,Pg.can,Ny]using hc
        have HWF:=xh hwf;clear hc hfd hcell hap Ny hi hin hwf;go_wp2_with (go_at_call 107;((with_reducible refine aH HF.o ?_);rintro e2 w2 ⟨rfl,rfl⟩))
        go_ret
        exact⟨by rw[hres.out];try rfl,rfl⟩
      | true=>
        have hnext:=xh ((rq m k _ q hq).trans (by rw[HA.o,hc]));have hb:(bits .and .i64 p.perm k==0)=false:=by rw[hap];simpa [lX,Pg.can,Ny]using hc
        have HWF:=xh hwf;clear hc hfd hcell hap Ny hi hin hwf;go_wp2_with (go_at_call 107;((with_reducible refine aH HF.o ?_);rintro e2 w2 ⟨rfl,rfl⟩))
        go_round
        case rel=>exact⟨q+1,by omega,by omega,by go_num,hnext.out⟩
        case measure=>simp[intOf]<;>omega
   ·have hlast:lastOf a n=q:=by simp only[lastOf]at hq1⊢;omega
    have hres:=xh (HR.o.trans (by rw[hlast];exact HA.o):gz m a n k=true);clear hlast;go_wp2_with fail
    go_ret
    exact⟨by rw[hres.out];try rfl,rfl⟩
end
section
open Go.RowKit
end
section
open Go.RowKit Go.Maps
theorem ac4(perm:Nat→Option Int)(M:Nat→Int)(a:Nat)(p:Int)(h:perm (a/256)=some p)(j:Nat)(hj:j<256):(ak (a/256) ((ah perm M (a/256)).getD Pg.zero))[2+j]?=some (.int .u8 (M (256*(a/256)+j))):=by
 unfold ah ak;rw[h];simp only[Option.map_some,Option.getD_some]
 rw[Nat.add_comm];simp[hj]
end
section
open Go.Proofs.Tryz Go.RowKit Go.Maps
theorem Uy:(prog.info? 5).map (λi=>(i.size,i.bytes,(i.zero.map (·.cells.size))))=some (1,1,some 1):=by kernel_rfl
theorem JG{w:World}{pv:Value}{perm:Nat→Option Int}{M:Nat→Int}(h:BM w pv (ah perm M))(hm:bF (ah perm M))(a:Nat)(ha:a<65536)(hp:(perm (a/256)).isSome=true) :
 ∃k g cap:Nat,findF (ah perm M) (a/256)=(k:Nat)∧k<(ag (ah perm M)).length∧pv=.slice (g,0) (ag (ah perm M)).length cap∧w.cell? (g,k*258+2+a%256)=some (.int .u8 (M a)):=by
 obtain⟨p,hpp⟩:=Option.isSome_iff_exists.1 hp;obtain⟨k,hk,hkn⟩:=vg (m:=ah perm M) (N:=a/256) (by omega) (by unfold ah;rw[hpp];rfl);obtain⟨g,cap,hpv,_,hc⟩:=h.page hm hkn;refine⟨k,g,cap,hk,(bV hkn).1,hpv,?_⟩;rw[Nat.add_assoc,hc _ (by omega),ac4 perm M a p hpp (a%256) (by omega)];congr 3
 omega
theorem Tq(pv:Value)(perm:Nat→Option Int)(M:Nat→Int)(A n:Nat)(w:World)(h:BM w pv (ah perm M))(hm:bF (ah perm M))(hA:A+n≤65536)(hperm:∀a,A≤a→a<A+n→(perm (a/256)).isSome=true) :
 Calls prog 202 #[pv,.int .u64 A,.int .i64 n] w λe w'=>∃v,e=.returned v∧w'.ownsRow w.heap.size 5 1 v n ((List.range n).map λi=>.int .u8 (M (A+i)))∧Bel w w':=by
 have zT:=xh λW (hW:Bel w W) i (hi:i<n)=>JG (h.bel hW) hm (A+i) (by omega) (hperm (A+i) (by omega) (by omega));have QV:=xh λW (hW:Bel w W) N (hN:N≤1000000)=>yx pv (ah perm M) N W (h.bel hW) hm hN;have hpl:=aT (ah perm M);clear h hm hperm;go_enter func202,ntmps202;go_wp2_with fail
 go_loopw [7,8] (λv i wr=>∃k:Nat,k≤n∧i=.int .i64 k∧wr.ownsRow w.heap.size 5 1 v k ((List.range k).map λi=>.int .u8 (M (A+i)))∧Bel w wr) (λ_ i _=>n-(intOf i).toNat)
 case atStart=>exact⟨0,Nat.zero_le _,rfl,World.ownsRow_nil _ _ _ _,Bel.refl _⟩
 case round=>
  obtain⟨k,hk,rfl,hr,hb⟩:=hrel;by_cases hlt:k<n
  ·obtain⟨kk,g,cap,hfk,hkl,hpv,hcell⟩:=zT.o wr hb k hlt
   have hfd:=QV.o wr hb ((A+k)/256) (by omega);rw[hfk]at hfd;subst hpv;obtain⟨N,hN⟩:=e_x ((A+k)/256);obtain⟨r,hr2⟩:=e_x ((A+k)%256);rw[hN]at hfd;rw[hr2]at hcell;have hsum:IntKind.i64.wrap ((A:Int)+(k:Int))=(A:Int)+(k:Int):=by rw[IntKind.wrap_i64];omega
   have hdv:((A:Int)+k)/256=(N:Int):=by omega
   have hmd:((A:Int)+k)%256=(r:Int):=by omega
   have BL:r<256:=by omega
   have hk0:(0:Int)≤kk:=by omega
   have hk1:(kk:Int)<((ag (ah perm M)).length:Nat):=by omega
   obtain⟨x,hx⟩:=e_x (M (A+k));rw[hx]at hcell;have HX:=xh hx;have HF:=xh hfd;have HR:=xh hr;have HB:=xh hb;generalize (ag (ah perm M)).length=pl at *
   clear hfd hr hb hfk hN hr2 hx hkl
   go_wp2_with (first
    | (go_at_call 107;((with_reducible refine aH HF.o ?_);rintro e2 w2 ⟨rfl,rfl⟩))
    | (refine bu rfl (.tmp 24) (.tmp 33) 59 rfl underlying59 Uy (by omega) rfl (aO HR.o (Bel.start wr (.cells #[.int .u8 x] 5))) wr.heap.size [.int .u8 x] 5 rfl (Blk.new wr [.int .u8 x] 5) rfl (by intro v hv;simp at hv;rcases hv with rfl;rfl) (by unfold maxLen;omega) (by omega) (bU HB.o.size (by simp)) ?_;intro v6 w6 R6 K6))
   go_roundw
   case rel=>exact⟨k+1,by omega,by go_num,by rw[List.range_succ,List.map_append];rw[List.map_singleton,HX.o];exact R6,Below.trans (HB.o.ac _) (K6.below _ (HB.o.ac _).size λq hq=>hq)⟩
   case measure=>simp[intOf]<;>omega
  ·obtain rfl:k=n:=by omega
   have HR:=xh hr;have HB:=xh hb;clear hr hb;go_wp2_with fail
   go_ret
   exact⟨_,rfl,HR.o,HB.o⟩
def Be(w:World)(pv:Value)(m:ax):Prop:=
 ∃p cap,pv=.slice p (ag m).length cap∧(0<(ag m).length→∃g cs,p=some ⟨g,0,none⟩∧Blk w g cs 260∧∀j,j<(aQ m).length→cs[j]?=(aQ m)[j]?)
theorem Be.rd{w:World}{pv:Value}{m:ax}(h:Be w pv m):BM w pv m:=by
 obtain⟨p,cap,rfl,h⟩:=h;refine⟨p,cap,rfl,λh0=>?_⟩;obtain⟨g,cs,rfl,hb,hc⟩:=h h0;exact⟨g,rfl,hb.lt,λj hj=>by rw[hb.cell];exact hc j hj⟩
theorem Be.keep{S:Nat→Prop}{w w':World}{pv:Value}{m:ax}(h:Be w pv m)(k:Keep S w w')(hs:∀g,pv.ownBlock=some g→¬S g):Be w' pv m:=by
 obtain⟨p,cap,rfl,h⟩:=h;refine⟨p,cap,rfl,λh0=>?_⟩;obtain⟨g,cs,rfl,hb,hc⟩:=h h0;exact⟨g,cs,rfl,hb.keep k (hs g rfl),hc⟩
theorem Be.bel{w w':World}{pv:Value}{m:ax}(h:Be w pv m)(k:Bel w w'):Be w' pv m:=h.keep (Keep.of_bel (λ_=>False) k) (λ_ _ h=>h)
theorem lT(perm:Nat→Option Int)(M M':Nat→Int):ag (ah perm M)=ag (ah perm M'):=by
 unfold ag ah;apply List.filter_congr
 intro n _;cases perm n<;>rfl
theorem kK(n:Nat)(perm:Nat→Option Int)(M:Nat→Int):(ak n ((ah perm M n).getD Pg.zero)).length=258:=by
 unfold ak ah;cases perm n<;>simp[Pg.zero]
theorem Oz(perm:Nat→Option Int)(M:Nat→Int)(a k:Nat)(x:Int)(hk:(ag (ah perm M))[k]?=some (a/256))(hp:(perm (a/256)).isSome=true)(j:Nat) :
 (aQ (ah perm (jk M a x)))[j]?=if j=k*258+2+a%256 then some (.int .u8 x)else(aQ (ah perm M))[j]?:=by
 have hlen:∀(M:Nat→Int),∀n∈ag (ah perm M),(ak n ((ah perm M n).getD Pg.zero)).length=258:=λM n _=>kK n perm M;have hj:j=(j/258)*258+j%258:=by omega
 have hm:j%258<258:=by omega
 have hget:∀M',(aQ (ah perm M'))[j]?=(ag (ah perm M))[j/258]?.bind λn=>(ak n ((ah perm M' n).getD Pg.zero))[j%258]?:=λM'=>by
  unfold aQ;have h1:=fP (λn=>ak n ((ah perm M' n).getD Pg.zero)) 258 (ag (ah perm M')) (λn _=>kK n perm M') (j/258) (j%258) hm;rw[←hj,lT perm M' M]at h1;rw[lT perm M' M];exact h1
 rw[hget (jk M a x),hget M];have hsorted:=qG (ah perm M);obtain⟨p,hpp⟩:=Option.isSome_iff_exists.1 hp;by_cases e:j/258=k
 ·rw[e,hk]
  simp only[Option.bind_some]
  unfold ah ak;rw[hpp];simp only[Option.map_some,Option.getD_some]
  by_cases e2:j%258=2+a%256
  ·rw[if_pos (by omega),e2,Nat.add_comm]
   have h256:a%256<256:=by omega
   have ha:256*(a/256)+a%256=a:=by omega
   simp[h256,jk,ha]
  ·rw[if_neg (by omega)]
   rcases hjm:j%258 with _|_|q
   ·simp
   ·simp
   ·have hq:q<256:=by omega
    simp only[List.getElem?_cons_succ,fA,List.map_map]
    rw[List.getElem?_range hq];have hne:256*(a/256)+q≠a:=by omega
    simp[jk,hne]
 ·have hne:j≠k*258+2+a%256:=λh=>e (by omega)
  rw[if_neg hne];cases hn:(ag (ah perm M))[j/258]? with
  | none=>rfl
  | some n=>
    have hna:n≠a/256:=λh=>by
     subst h;have h1:=(bV hn);have h2:=(bV hk);obtain⟨l1,g1⟩:=h1;obtain⟨l2,g2⟩:=h2;rcases Nat.lt_or_gt_of_ne e with h|h
     ·have:=List.pairwise_iff_getElem.1 hsorted _ _ l1 l2 h
      omega
     ·have:=List.pairwise_iff_getElem.1 hsorted _ _ l2 l1 h
      omega
    simp only[Option.bind_some]
    unfold ah ak;cases hpn:perm n with
    | none=>rfl
    | some q=>
      simp only[Option.map_some,Option.getD_some]
      congr 2
      congr 1
      congr 1
      apply List.map_congr_left
      intro i hi;have hi:=List.mem_range.1 hi;have:256*n+i≠a:=by omega
      simp[jk,this]
theorem Be.set{w:World}{pv:Value}{perm:Nat→Option Int}{M:Nat→Int}(h:Be w pv (ah perm M))(a k g cap:Nat)(x:Int)(hpv:pv=.slice (g,0) (ag (ah perm M)).length cap)(hk:(ag (ah perm M))[k]?=some (a/256))(hp:(perm (a/256)).isSome=true) :
 Be (w.setCell (g,k*258+2+a%256) (.int .u8 x)) pv (ah perm (jk M a x)):=by
 obtain⟨p,cap',e,h⟩:=h;rw[hpv]at e;cases e
 have hkl:k<(ag (ah perm M)).length:=(bV hk).1;have hln:=lT perm (jk M a x) M;refine⟨_,_,by rw[hln];exact hpv,λ_=>?_⟩;obtain⟨g',cs,e,hb,hc⟩:=h (by omega);cases e
 refine⟨g,_,rfl,hb.setCell _,λj hj=>?_⟩;rw[Oz perm M a k x hk hp];have hll:(aQ (ah perm (jk M a x))).length=(aQ (ah perm M)).length:=by
  unfold aQ;rw[flat_length _ 258 _ λn _=>kK n perm _,flat_length _ 258 _ λn _=>kK n perm _,hln]
 have hcl:k*258+2+a%256<cs.length:=by
  have hrl:k*258+2+a%256<(aQ (ah perm M)).length:=by unfold aQ;rw[flat_length _ 258 _ λn _=>kK n perm _];omega
  have h1:=hc (k*258+2+a%256) hrl;rw[bT hrl]at h1;exact(bV h1).1
 by_cases e:j=k*258+2+a%256
 ·subst e
  rw[if_pos rfl,List.getElem?_set_self hcl]
 ·rw[if_neg e,List.getElem?_set_ne (λh=>e h.symm)]
  exact hc j (by omega)
theorem NG(M:Nat→Int)(A k:Nat)(bs:List Int)(x:Int)(hx:bs[k]?=some x):jk (aW M A (bs.take k)) (A+k) x=aW M A (bs.take (k+1)):=by
 have hk:k<bs.length:=(bV hx).1;funext a
 unfold jk aW;simp only[List.length_take,List.getD_eq_getElem?_getD,List.getElem?_take]
 by_cases e:a=A+k
 ·subst e
  rw[if_pos rfl,if_pos (by omega),if_pos (by omega),show A+k-A=k from by omega,hx];rfl
 ·rw[if_neg e]
  by_cases e2:A≤a∧a<A+min k bs.length
  ·rw[if_pos e2,if_pos (by omega),if_pos (by omega),if_pos (by omega)]
  ·rw[if_neg e2,if_neg (by omega)]
end
end Go.Proofs.YtcnjjchlebmfiaaGreatDoor
