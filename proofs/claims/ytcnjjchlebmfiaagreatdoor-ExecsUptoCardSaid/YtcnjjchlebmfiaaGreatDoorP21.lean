/-.-/
import Derived.Test.YtcnjjchlebmfiaaGreatDoorP17
set_option linter.all false
set_option maxRecDepth 100000
set_option maxHeartbeats 16000000
namespace Go.Proofs.YtcnjjchlebmfiaaGreatDoor
section
open Go.Proofs.Tryz Go.RowKit
theorem Qx(l:fD)(F:List aF)(v:Value)(w:World)(hF:uP w F v)(hmx:eX w)(hfix:iG w) :
 Calls prog 32 #[.agg (mW l).toArray,v] w λe w'=>Bel w w'∧(bD l F≠0→e=.returned (.tuple #[.pointer none,fH (bD l F:Nat)]))∧(bD l F=0→∃kb:Nat,e=.returned (.tuple #[kb,.nilIface])∧w.heap.size≤kb∧gy w' w.heap.size kb l.a l.b l.c l.d.toNat l.e.toNat F):=by
 by_cases hA:l.okA=true
 ·by_cases hB:l.okB=true
  ·by_cases hd:l.d=0
   ·have he:bD l F=12:=by unfold bD;rw[if_neg (by rw[hA];simp),if_neg (by rw[hB];simp),if_pos hd]
    refine(Zc l v w hA hB hd).mono ?_;rintro e w' ⟨rfl,k⟩;exact⟨k,λ_=>by rw[he];rfl,λh=>by rw[he]at h;cases h⟩
   ·obtain⟨a,b,c,d,e⟩:=l
    have hB':=hB;simp only[fD.okB,decide_eq_true_eq]at hB'
    obtain⟨mi,rfl⟩:=Int.eq_ofNat_of_zero_le hB'.2.2.1;obtain⟨mb,rfl⟩:=Int.eq_ofNat_of_zero_le hB'.2.2.2.2.1;exact Lh a b c mi mb F v w hF hA hB (λh=>hd (by show((mi:Nat):Int)=0;omega)) hmx hfix
  ·have hB':l.okB=false:=by simpa using hB
   have he:bD l F=6:=by unfold bD;rw[if_neg (by rw[hA];simp),if_pos hB']
   refine(Zb l v w hA hB').mono ?_;rintro e w' ⟨rfl,k⟩;exact⟨k,λ_=>by rw[he];rfl,λh=>by rw[he]at h;cases h⟩
 ·have hA':l.okA=false:=by simpa using hA
  have he:bD l F=6:=by unfold bD;rw[if_pos hA']
  refine(Za l v w hA').mono ?_;rintro e w' ⟨rfl,k⟩;exact⟨k,λ_=>by rw[he];rfl,λh=>by rw[he]at h;cases h⟩
theorem En(l:fD)(F:List aF)(v1 v2 v3:Value)(w:World)(hF:KX w F v1 v2 v3) :
 Calls prog 60 #[.agg (mW l).toArray,v1,v2,v3] w λe w'=>Iz w l F e w':=by
 by_cases hA:l.okA=true
 ·by_cases hB:l.okB=true
  ·by_cases hd:l.d=0
   ·have he:bD l F=12:=by unfold bD;rw[if_neg (by rw[hA];simp),if_neg (by rw[hB];simp),if_pos hd]
    refine(Y6 l v1 v2 v3 w hA hB hd).mono ?_;rintro e w' ⟨rfl,k⟩;exact⟨k,λ_=>by rw[he];rfl,λh=>by rw[he]at h;cases h⟩
   ·exact KY l F v1 v2 v3 w hF hA hB hd
  ·have hB':l.okB=false:=by simpa using hB
   have he:bD l F=6:=by unfold bD;rw[if_neg (by rw[hA];simp),if_pos hB']
   refine(Y5 l v1 v2 v3 w hA hB').mono ?_;rintro e w' ⟨rfl,k⟩;exact⟨k,λ_=>by rw[he];rfl,λh=>by rw[he]at h;cases h⟩
 ·have hA':l.okA=false:=by simpa using hA
  have he:bD l F=6:=by unfold bD;rw[if_pos hA']
  refine(Y4 l v1 v2 v3 w hA').mono ?_;rintro e w' ⟨rfl,k⟩;exact⟨k,λ_=>by rw[he];rfl,λh=>by rw[he]at h;cases h⟩
def IE(w:World)(l:fD)(F:List aF)(e:Ending)(w':World):Prop:=
 Bel w w'∧(bD l F≠0→e=.returned (.tuple #[.pointer none,fH (bD l F:Nat)]))∧(bD l F=0→∃tk kb:Nat,e=.returned (.tuple #[tk,.nilIface])∧w.heap.size≤tk∧w.heap.size≤kb∧Blk w' tk [kb] 83∧gy w' w.heap.size kb l.a l.b l.c l.d.toNat l.e.toNat F)
theorem gy.bel{w w':World}{B kb:Nat}{a b c:Int}{mi mb:Nat}{F:List aF}(h:gy w B kb a b c mi mb F)(k:Bel w w'):gy w' B kb a b c mi mb F:=by
 obtain⟨pm,tb,ob,cb,pb,sb,A,T,h1,h2,h3,h4,h5,h6,h7,h8,h9,h10,h11⟩:=h;exact⟨pm,tb,ob,cb,pb,sb,A,T,h1.bel k,h2.bel k,h3.bel k,h4.bel k,h5.bel k,h6,h7.bel k,h8.bel k,h9,h10,h11⟩
theorem gy.base{w:World}{B B' kb:Nat}{a b c:Int}{mi mb:Nat}{F:List aF}(h:gy w B kb a b c mi mb F)(k:B'≤B):gy w B' kb a b c mi mb F:=by
 obtain⟨pm,tb,ob,cb,pb,sb,A,T,h1,h2,h3,h4,h5,h6,h7,h8,h9,h10,h11⟩:=h;exact⟨pm,tb,ob,cb,pb,sb,A,T,h1,h2,h3,h4,h5,h6,h7,h8,λq hq=>bU k (h9 q hq),bU k h10,bU k h11.1,bU k h11.2.1,bU k h11.2.2.1,bU k h11.2.2.2.1,bU k h11.2.2.2.2⟩
theorem gy.keep{S:Nat→Prop}{w w':World}{B kb:Nat}{a b c:Int}{mi mb:Nat}{F:List aF}(h:gy w B kb a b c mi mb F)(k:Keep S w w')(hs:∀q,S q→q<B∧∃cs,Blk w q cs 5):gy w' B kb a b c mi mb F:=by
 obtain⟨pm,tb,ob,cb,pb,sb,A,T,h1,h2,h3,h4,h5,h6,h7,h8,h9,h10,h11⟩:=h;have nb:∀{q:Nat} {cs:List Value} {t:TypeId},Blk w q cs t→t≠5→¬S q:=λhb ht hq=>by
  obtain⟨_,cs',hb'⟩:=hs _ hq;exact hb.ne hb' ht rfl
 exact⟨pm,tb,ob,cb,pb,sb,A,T,h1.keep k (nb h1 (by decide)),h2.of_block (k.block _ h2.lt λhq=>by
  obtain⟨_,cs',hb'⟩:=hs _ hq;exact hb'.aP h2 rfl),h3.keep k (nb h3 (by decide)),h4.keep k (nb h4 (by decide)),h5.keep k (λq hq hS=>by
  have h1:=h9 q hq;have h2:=(hs q hS).1;omega),h6,h7.keep k (nb h7 (by decide)),h8.of_block (k.block _ h8.lt λhq=>by
  obtain⟨_,cs',hb'⟩:=hs _ hq;obtain⟨kv,hm,_⟩:=h8;exact hb'.aP hm rfl),h9,h10,h11⟩
theorem Eo(l:fD)(F:List aF)(v:Value)(w:World)(hF:∀W,Bel w W→uP W F v)(hmx:eX w)(hfix:iG w) :
 Calls prog 20 #[.agg (mW l).toArray,v] w λe w'=>IE w l F e w':=by
 have hb:=λW (hW:Bel w W)=>Qx l F v W (hF W hW) (hmx.bel hW) (hfix.bel hW);by_cases h0:bD l F=0
 ·have HB:=xh λW hW=>(hb W hW).mono λe w' k=>And.intro k.1 (k.2.2 h0)
  have H0:=xh h0;obtain⟨a,b,c,d,e⟩:=l;simp only[mW]at HB⊢
  clear hb h0;go_enter func20,ntmps20;go_wp2_with (go_at_call 32;((with_reducible refine aH (HB.o _ (Bel.start w _)) ?_);rintro e2 w1 ⟨k1,kb,rfl,hkb,hk⟩;have H1:=xh (And.intro k1 (And.intro hkb hk));clear k1 hkb hk))
  go_ret2
  have k:=(Bel.start w (.cells #[.int .i64 a,.int .i64 b,.int .i64 c,.int .i64 d,.int .i64 e] 23)).tr H1.o.1;have hkb:=H1.o.2.1;refine⟨k.ac _,λh=>absurd H0.o h,λ_=>⟨w1.heap.size,kb,rfl,k.size,by simp at hkb;omega,Blk.new w1 _ _,(H1.o.2.2.bel (Bel.start w1 _)).base (by simp)⟩⟩
 ·have HB:=xh λW hW=>(hb W hW).mono λe w' k=>And.intro k.1 (k.2.1 h0)
  obtain⟨ec,qK⟩:=e_x (bD l F);rw[qK]at HB h0;have hcb:((ec:Int)==0)=false:=dK (by omega);have O0:=xh qK;have H0:=xh h0;obtain⟨a,b,c,d,e⟩:=l;simp only[mW]at HB⊢
  clear hb h0 qK;go_enter func20,ntmps20;go_wp2_with (go_at_call 32;((with_reducible refine aH (HB.o _ (Bel.start w _)) ?_);rintro e2 w1 ⟨k1,rfl⟩;have H1:=xh k1;clear k1))
  go_ret2
  exact⟨(Bel.start w _).tr H1.o,λ_=>by rw[O0.o];rfl,λh=>absurd (O0.o.symm.trans h) H0.o⟩
end
section
open Go.Proofs.Tryz Go.RowKit Go.Maps Go.Shelf
theorem xU(n:Int)(w:World)(hg:ErrVar w):Calls prog 14 #[fH n] w (Z.b (.int .i64 n) w):=Bv _ _ n w (yZ n w) hg
theorem JX(n:Int)(w:World):Calls prog 61 #[n] w (Z.e (.int .i64 n) w):=by
 go_enter func61,ntmps61;go_wp2
 go_ret
 exact⟨rfl,rfl⟩
end
section
open Go.RowKit Go.Maps
structure rQ(N:List Nd):Prop where
 root:isDir N 1=true
 conn:Gh N
 size:∀n∈N,n.name.size≤1000
theorem rQ.new{N:List Nd}(h:rQ N)(d:Nat)(nm:ByteArray)(b:Bool)(hd:d≠0)(hn:bC nm.data.toList=true):rQ (N++[⟨d,nm,b,[],eU⟩]):=by
 refine⟨xJ h.root,λi n hi h0=>?_,λn hn2=>?_⟩
 ·rcases Nat.lt_or_ge i N.length with hl|hl
  ·rw[List.getElem?_append_left hl]at hi
   exact h.conn i n hi h0
  ·rw[List.getElem?_append_right hl]at hi
   have:i-N.length=0:=by have:=(bV hi).1;simp at this;omega
   rw[this]at hi;cases hi
   exact hd
 ·rcases List.mem_append.1 hn2 with h1|h1
  ·exact h.size n h1
  ·rw[List.mem_singleton.1 h1]
   show nm.size≤1000
   unfold bC at hn;simp only[Bool.and_eq_true,decide_eq_true_eq]at hn
   have h2:nm.data.toList.length=nm.size:=by simp
   omega
theorem rQ.put{mb:Nat}{N:List Nd}(h:rQ N)(n:Nat)(b:List Int):rQ (qL mb N n b).2∧(qL mb N n b).2.length=N.length:=by
 unfold qL;cases hx:N[n-1]? with
 | none=>exact⟨h,rfl⟩
 | some x=>
   simp only
   by_cases hd:x.dir=true
   ·rw[if_pos hd];exact⟨h,rfl⟩
   ·rw[if_neg hd]
    by_cases hc:0<b.length∧mb<cZ N+(b.length-x.byt.length)
    ·rw[if_pos hc];exact⟨h,rfl⟩
    ·rw[if_neg hc]
     have hat:∀(j:Nat) (m:Nd),(N.set (n-1) {x with byt:=b++x.byt.drop b.length})[j]?=some m→∃m0:Nd,N[j]?=some m0∧m.par=m0.par∧m.name=m0.name∧m.dir=m0.dir:=λj m hj=>by
      by_cases e:n-1=j
      ·subst e
       rw[List.getElem?_set_self (bV hx).1]at hj;cases hj
       exact⟨x,hx,rfl,rfl,rfl⟩
      ·rw[List.getElem?_set_ne e]at hj
       exact⟨m,hj,rfl,rfl,rfl⟩
     refine⟨⟨?_,λj m hj h0=>?_,λm hm=>?_⟩,by simp⟩
     ·have h1:=h.root
      unfold isDir at h1⊢;cases hy:(N.set (n-1) {x with byt:=b++x.byt.drop b.length})[1-1]? with
      | none=>
        have h3:=List.getElem?_eq_none_iff.1 hy;rw[List.length_set]at h3;rw[List.getElem?_eq_none_iff.2 h3]at h1;cases h1
      | some m=>
        obtain⟨m0,h2,_,_,h3⟩:=hat _ m hy;rw[h2]at h1;show m.dir=true
        rw[h3];exact h1
     ·obtain⟨m0,h2,h3,_⟩:=hat j m hj
      rw[h3];exact h.conn j m0 h2 h0
     ·obtain⟨j,hj⟩:=List.mem_iff_getElem?.1 hm
      obtain⟨m0,h2,_,h3,_⟩:=hat j m hj;rw[h3];exact h.size m0 (List.mem_iff_getElem?.2 ⟨j,h2⟩)
theorem rQ.file{mi mb:Nat}{N:List Nd}(h:rQ N)(path:List UInt8)(is:Bool)(b:List Int):rQ (kR mi mb N path is b).2∧(kR mi mb N path is b).2.length≤N.length+1:=by
 unfold kR;by_cases hi:is=true
 ·rw[if_pos hi]
  unfold Vg;by_cases h1:(az N path).2.2.2≠0
  ·rw[if_pos h1];exact⟨h,Nat.le_succ _⟩
  ·rw[if_neg h1]
   by_cases h2:(az N path).2.2.1≠0
   ·rw[if_pos h2];exact⟨h,Nat.le_succ _⟩
   ·rw[if_neg h2]
    by_cases h3:mi≤N.length
    ·rw[if_pos h3];exact⟨h,Nat.le_succ _⟩
    ·rw[if_neg h3]
     obtain⟨n1,_,_,n4,_⟩:=oH h.root (by omega) (by omega:(az N path).2.2.1=0);exact⟨h.new _ _ _ n1 n4,Nat.le_of_eq (by simp)⟩
 ·rw[if_neg hi]
  by_cases h1:(az N path).2.2.2≠0
  ·rw[if_pos h1];exact⟨h,Nat.le_succ _⟩
  ·rw[if_neg h1]
   by_cases h2:(az N path).2.2.1=0
   ·rw[if_pos h2]
    by_cases h3:mi≤N.length
    ·rw[if_pos h3];exact⟨h,Nat.le_succ _⟩
    ·rw[if_neg h3]
     obtain⟨n1,_,_,n4,_⟩:=oH h.root (by omega) h2;obtain⟨p1,p2⟩:=(h.new _ _ false n1 n4).put (mb:=mb) (N.length+1) b;exact⟨p1,by rw[p2];simp⟩
   ·rw[if_neg h2]
    obtain⟨p1,p2⟩:=h.put (mb:=mb) (az N path).2.2.1 b;exact⟨p1,by rw[p2];omega⟩
theorem rQ.files{mi mb:Nat}:∀{N:List Nd} (_:rQ N) (F:List aF),rQ (bK mi mb N F).2∧(bK mi mb N F).2.length≤N.length+F.length
 | N,h,[]=>⟨h,bM _⟩
 | N,h,f::fs=>by
   unfold bK;by_cases h1:(kR mi mb N f.path.data.toList f.dir f.byt).1≠0
   ·rw[if_pos h1];exact⟨h,Nat.le_add_right _ _⟩
   ·rw[if_neg h1]
    obtain⟨p1,p2⟩:=h.file (mi:=mi) (mb:=mb) f.path.data.toList f.dir f.byt;obtain⟨q1,q2⟩:=rQ.files p1 fs;exact⟨q1,by simp;omega⟩
theorem rQ.first:rQ [dZ]:=⟨rfl,λi n hi h0=>by
 have:=(bV hi).1;simp at this;omega,λn hn=>by rw[List.mem_singleton.1 hn];decide⟩
theorem alive{w:World}{A:bJ}{T:List Pn}(h:dV w A T)(hc:Gh (aJ T))(i:Nat)(n:Pn)(hi:T[i]?=some n):n.gone=false:=by
 by_cases h0:i=0
 ·subst h0
  obtain⟨r,hr,_,_,hg⟩:=h.root;rw[hr]at hi;cases hi;exact hg
 ·have:=hc i n.nd (NL hi) h0
  cases hg:n.gone with
  | false=>rfl
  | true=>exact absurd (show n.nd.par=0 by unfold Pn.nd;rw[hg];rfl) this
theorem aaj{w:World}{A:bJ}{T:List Pn}(h:dV w A T)(hc:Gh (aJ T)):Live T:=λi n hi _ hp=>by
 obtain⟨p,hp1,_⟩:=h.KW i n hi hp;exact⟨p,hp1,alive h hc _ p hp1⟩
theorem EZ(A:bJ)(d:Nat):∀(i:Nat) (T:List Pn) (j:Nat) (n:Pn),T[j]?=some n→n.nd.par=d→∃k:Nat,(gQ A d i T)[k]?=some (n.name,A.ptr (i+j+1)):=λi T=>by
 induction T generalizing i with
 | nil=>intro j n hj;cases hj
 | cons x T ih=>
   intro j n hj hp;unfold gQ;cases j with
   | zero=>
     cases hj
     rw[if_pos hp];exact⟨0,rfl⟩
   | succ j=>
     obtain⟨k,hk⟩:=ih (i+1) j n hj hp;rw[show i+(j+1)+1=i+1+j+1 from by omega];split
     ·exact⟨k+1,hk⟩
     ·exact⟨k,hk⟩
theorem TS(A:bJ)(d:Nat):∀(i:Nat) (T:List Pn) (j j':Nat) (n n':Pn),T[j]?=some n→T[j']?=some n'→n.nd.par=d→n'.nd.par=d→n.name=n'.name→((gQ A d i T).map Prod.fst).Nodup→j=j':=λi T=>by
 induction T generalizing i with
 | nil=>intro j j' n n' hj;cases hj
 | cons x T ih=>
   intro j j' n n' hj hj' hp hp' hnm hnd;unfold gQ at hnd;cases j with
   | zero=>
     cases j' with
     | zero=>rfl
     | succ j'=>
       cases hj
       rw[if_pos hp]at hnd;obtain⟨k,hk⟩:=EZ A d (i+1) T j' n' hj' hp';rw[List.map_cons,List.nodup_cons]at hnd;exact absurd (List.mem_map.2 ⟨_,List.mem_iff_getElem?.2 ⟨k,hk⟩,hnm.symm⟩) hnd.1
   | succ j=>
     cases j' with
     | zero=>
       cases hj'
       rw[if_pos hp']at hnd;obtain⟨k,hk⟩:=EZ A d (i+1) T j n hj hp;rw[List.map_cons,List.nodup_cons]at hnd;exact absurd (List.mem_map.2 ⟨_,List.mem_iff_getElem?.2 ⟨k,hk⟩,hnm⟩) hnd.1
     | succ j'=>
       have acI:((gQ A d (i+1) T).map Prod.fst).Nodup:=by
        split at hnd
        ·rw[List.map_cons,List.nodup_cons]at hnd;exact hnd.2
        ·exact hnd
       rw[ih (i+1) j j' n n' hj hj' hp hp' hnm acI]
theorem TT{w:World}{A:bJ}{T:List Pn}(h:dV w A T)(hc:Gh (aJ T)):VI (aJ T):=by
 have at_:∀(i:Nat) (n:Nd),(aJ T)[i]?=some n→∃p,T[i]?=some p∧n=p.nd:=λi n hi=>by
  unfold aJ at hi;rw[fA]at hi;cases ht:T[i]? with
  | none=>rw[ht]at hi;cases hi
  | some p=>rw[ht]at hi;cases hi;exact⟨p,rfl,rfl⟩
 refine⟨λi j m n hi hj hm he hnm=>?_,λi n hi hn=>?_⟩
 ·obtain⟨p,hp,rfl⟩:=at_ i m hi
  obtain⟨q,hq,rfl⟩:=at_ j n hj;have uF:=alive h hc i p hp;have hpp:p.nd.par=p.par:=by unfold Pn.nd;rw[uF];rfl
  obtain⟨d,hd,hdd⟩:=h.KW i p hp (hpp▸hm);have hk:=(h.kids _ d hd hdd).nodup;have h1:1≤p.par:=Nat.pos_of_ne_zero (hpp▸hm);rw[show p.par-1+1=p.par from by omega]at hk;exact TS A p.par 0 T i j p q hp hq hpp (he▸hpp) hnm hk
 ·obtain⟨p,hp,rfl⟩:=at_ i n hi
  have h0:i≠0:=λe=>by
   subst e;obtain⟨r,hr,hr2,_⟩:=h.root;rw[hr]at hp;cases hp;exact hn (by unfold Pn.nd;rw[hr2];simp)
  exact(h.name i p hp (alive h hc i p hp) h0).2
theorem JP(L:List Nd):∀(f id:Nat),oI (iD L) f id=oI L f id
 | 0,_=>rfl
 | f+1,id=>by
   unfold oI;by_cases h1:id≤1
   ·rw[if_pos h1,if_pos h1]
   ·rw[if_neg h1,if_neg h1]
    unfold iD;rw[fA];cases L[id-1]? with
    | none=>rfl
    | some n=>
      simp only[Option.map_some]
      have:=JP L f n.par;unfold iD at this;rw[show n.sk.par=n.par from rfl,this];rfl
theorem XY(L:List Nd)(id:Nat):dW (iD L) id=dW L id:=JP L id id
structure Fit(L:List Nd)(R:List FileR):Prop where
 len:R.length+1=L.length
 has:∀(k:Nat) (n:Nd),L[k]?=some n→k≠0→∃(j:Nat) (r:FileR),R[j]?=some r∧r.path=dW L (k+1)
 fit:∀(j:Nat) (r:FileR),R[j]?=some r→∀(k:Nat) (n:Nd),L[k]?=some n→k≠0→r.path=dW L (k+1)→r.dir=n.dir∧r.byt=n.byt
 strict:R.Pairwise λx y=>x.path<y.path
 pos:∀r∈R,r.path≠[]
theorem ae8{T:List Pn}{L:List Nd}(h:iD L=aJ T){k:Nat}{n:Nd}(hk:L[k]?=some n):∃p,T[k]?=some p∧p.nd.dir=n.dir∧p.nd.byt=n.byt∧p.nd.par=n.par:=by
 have h1:(iD L)[k]?=some n.sk:=by unfold iD;rw[fA,hk];rfl
 rw[h]at h1;unfold aJ at h1;rw[fA]at h1;cases ht:T[k]? with
 | none=>rw[ht]at h1;cases h1
 | some p=>
   rw[ht]at h1;have h2:p.nd=n.sk:=by simpa using h1
   exact⟨p,rfl,by rw[h2];rfl,by rw[h2];rfl,by rw[h2];rfl⟩
theorem ace{w:World}{A:bJ}{T:List Pn}{L:List Nd}{R:List FileR}(h:dV w A T)(hc:Gh (aJ T))(hL:iD L=aJ T)(hp:(R.map FileR.key).Perm ((eH (aJ T) T.length 1).map (uw T)))(hs:FZ R):Fit L R:=by
 have hd:=h.down;have hpt:=TT h hc;have hlen:(aJ T).length=T.length:=by unfold aJ;simp
 have hLl:L.length=T.length:=by rw[←hlen,←hL];unfold iD;simp
 have abr:∀x,dW (aJ T) x=dW L x:=λx=>by rw[←hL];exact XY L x
 have hde:(eH (aJ T) T.length 1).Perm (List.range' 2 (T.length-1)):=by have:=Es (aJ T) hd hc;rwa [hlen]at this
 have h1:1≤T.length:=by obtain⟨r,hr,_⟩:=h.root;exact(bV hr).1
 have hk:(R.map FileR.key).Perm ((List.range' 2 (T.length-1)).map (uw T)):=hp.trans (hde.map _);have hmem:∀r∈R,∃x,2≤x∧x≤T.length∧r.key=uw T x:=λr hr=>by
  have:=hk.mem_iff.1 (List.mem_map.2 ⟨r,hr,rfl⟩);obtain⟨x,hx,he⟩:=List.mem_map.1 this;rw[List.mem_range'_1]at hx;exact⟨x,hx.1,by omega,he.symm⟩
 have hinj:∀x y,1≤x→x≤T.length→1≤y→y≤T.length→dW (aJ T) x=dW (aJ T) y→x=y:=λx y a b c d e=>IM hd hc hpt x x y (bM _) a (by omega) c (by omega) e;have hnd:(R.map FileR.path).Nodup:=by
  have e:(R.map FileR.path).Perm ((List.range' 2 (T.length-1)).map (dW (aJ T))):=by
   have:=hk.map Prod.fst;rw[List.map_map,List.map_map]at this;exact this
  rw[e.nodup_iff];refine List.pairwise_map.2 (List.Pairwise.imp_of_mem (λ{x y} hx hy hne he=>?_) (List.nodup_range' (s:=2) (n:=T.length-1)));rw[List.mem_range'_1]at hx hy;exact hne (hinj x y (by omega) (by omega) (by omega) (by omega) he)
 refine⟨?_,λk n hkn h0=>?_,λj r hj k n hkn h0 he=>?_,?_,λr hr=>?_⟩
 ·have:=hk.length_eq
  simp at this
  omega
 ·have hlt:=(bV hkn).1
  have:uw T (k+1)∈R.map FileR.key:=hk.mem_iff.2 (List.mem_map.2 ⟨k+1,List.mem_range'_1.2 ⟨by omega,by omega⟩,rfl⟩);obtain⟨r,hr,he⟩:=List.mem_map.1 this;obtain⟨j,hj⟩:=List.mem_iff_getElem?.1 hr;exact⟨j,r,hj,by rw[←abr];exact congrArg Prod.fst he⟩
 ·obtain⟨x,hx1,hx2,hx⟩:=hmem r (List.mem_iff_getElem?.2 ⟨j,hj⟩)
  have hlt:=(bV hkn).1;have e1:r.path=dW (aJ T) x:=congrArg Prod.fst hx;have e2:x=k+1:=hinj x (k+1) (by omega) hx2 (by omega) (by omega) (by rw[←e1,he,abr]);subst e2;obtain⟨p,hp1,hp2,hp3,_⟩:=ae8 hL hkn;have e3:r.dir=((T[k+1-1]?).map Pn.dir).getD false:=congrArg (λq=>q.2.1) hx;have e4:r.byt=((T[k+1-1]?).map Pn.byt).getD []:=congrArg (λq=>q.2.2) hx;rw[Nat.add_sub_cancel,hp1]at e3 e4;exact⟨e3.trans hp2,e4.trans hp3⟩
 ·have h2:R.Pairwise λx y=>x.path≠y.path:=List.pairwise_map.1 hnd
  refine(hs.and h2).imp λ{x y} hxy=>?_;rcases Std.lt_trichotomy x.path y.path with h3|h3|h3
  ·exact h3
  ·exact absurd h3 hxy.2
  ·exact absurd h3 hxy.1
 ·obtain⟨x,hx1,hx2,hx⟩:=hmem r hr
  have e1:r.path=dW (aJ T) x:=congrArg Prod.fst hx;have hlt:x-1<(aJ T).length:=by omega
  rw[e1,jc hd (by omega) (bT hlt)];simp
end
section
open Go.RowKit Go.Maps Go.Shelf
def CZ(M:Nat→Int):Prop:=∀a,0≤M a∧M a≤255
theorem Fz{M:Nat→Int}(h:CZ M)(A:Nat)(l:List Int)(hl:∀x∈l,0≤x∧x≤255):CZ (aW M A l):=λa=>by
 unfold aW;split
 ·rename_i hc
  rw[List.getD_eq_getElem?_getD,bT (by omega)];exact hl _ (List.getElem_mem _)
 ·exact h a
theorem aaJ(ss:List ByteArray):∀is:List Nat,CZ (nT ss is).M:=by
 refine C9 ?_ ?_
 ·intro a;simp[nT]
 ·intro is i ih
  rw[nD];exact Fz ih _ _ (Yp ss i)
theorem Yq(ss:List ByteArray)(hg:Good ss)(hn:ss.length≤8):CZ (nO ss):=by
 have:∀k,CZ (ja (aK ss) ss.length k):=by
  intro k
  induction k with
  | zero=>exact aaJ ss _
  | succ k ih=>
    have:=vH ss hg hn k;exact Fz ih _ _ (zx _ this.1 (by omega))
 exact this _
def stM(ss:List ByteArray):ax:=ah dR (nO ss)
theorem ac6(ss:List ByteArray)(hg:Good ss)(hn:ss.length≤8):bF (stM ss):=by
 refine⟨λn h=>?_,λn p h=>?_⟩
 ·unfold stM ah dR
  rw[if_neg (by omega)];rfl
 ·unfold stM ah at h
  obtain⟨q,hq,rfl⟩:=Option.map_eq_some_iff.1 h;refine⟨by simp,λx hx=>?_,?_⟩
  ·obtain⟨i,_,rfl⟩:=List.mem_map.1 hx
   exact Yq ss hg hn _
  ·unfold dR at hq
   split at hq
   ·cases hq;exact⟨by simp,by simp⟩
   ·cases hq
theorem ac7(ss:List ByteArray)(n:Nat)(h:n=254∨n=255):stM ss n=some ⟨6,(List.range 256).map λi=>nO ss (256*n+i)⟩:=by
 unfold stM ah dR;rw[if_pos h];rfl
theorem wJ{m:ax}{ss:List ByteArray}(h:bF m)(hg:Good ss)(hn:ss.length≤8):bF (aN m ss):=by
 have hs:=ac6 ss hg hn;refine⟨λn hn2=>?_,λn p hp=>?_⟩
 ·unfold aN
  rw[if_neg (by omega)];exact h.below n hn2
 ·unfold aN at hp
  by_cases e:n=254∨n=255
  ·rw[if_pos e]at hp
   exact hs.wf n p ((ac7 ss n e).trans hp)
  ·rw[if_neg e]at hp
   exact h.wf n p hp
def pW(m:ax):List (Nat×Pg):=(ag m).map λn=>(n,(m n).getD Pg.zero)
theorem aag(m:ax):(pW m).flatMap (λq=>dI q.1 q.2)=jg m (ag m):=by
 unfold pW jg;rw[List.flatMap_map]
theorem aah(m:ax):(pW m).flatMap (λq=>ak q.1 q.2)=aQ m:=by
 unfold pW aQ;rw[List.flatMap_map]
theorem GX(m:ax):(pW m).length=(ag m).length:=by unfold pW;simp
theorem ab9(m:ax):(pW m).length≤256:=by
 rw[GX];have:=List.length_filter_le (λn=>(m n).isSome) (List.range 256)
 simpa [ag]using this
theorem acd{m:ax}(h:bF m):∀q∈pW m,q.2.wf:=λq hq=>by
 obtain⟨n,hn,rfl⟩:=List.mem_map.1 hq;have h1:=(List.mem_filter.1 hn).2;cases hm:m n with
 | none=>rw[hm]at h1;cases h1
 | some p=>exact h.wf n p hm
theorem Jv(L:List Nd)(path:List UInt8):aY (iD L) path=aY L path:=by
 unfold aY;rw[qp];unfold iD;rw[fA];cases L[(az L path).2.2.1-1]?<;>rfl
theorem Nl{l:fD}{F:List aF}(h:bD l F=0):dM (bK l.d.toNat l.e.toNat [dZ] F).2 fF true 0 0 l.b.toNat=0:=by
 unfold bD at h;by_cases h1:l.okA=false
 ·rw[if_pos h1]at h;cases h
 ·rw[if_neg h1]at h
  by_cases h2:l.okB=false
  ·rw[if_pos h2]at h;cases h
  ·rw[if_neg h2]at h
   by_cases h3:l.d=0
   ·rw[if_pos h3]at h;cases h
   ·rw[if_neg h3]at h
    by_cases h4:(bK l.d.toNat l.e.toNat [dZ] F).1≠0
    ·rw[if_pos h4]at h;exact absurd h h4
    ·rw[if_neg h4]at h;exact h
theorem Nj{T:List Pn}{L:List Nd}(h:iD L=aJ T){k:Nat}{n:Nd}(hk:L[k]?=some n):(aJ T)[k]?=some n.sk:=by
 rw[←h];unfold iD;rw[fA,hk];rfl
theorem Xo{L:List Nd}(h:Down (iD L)):Down L:=λi n hn=>h i n.sk (by unfold iD;rw[fA,hn];rfl)
def pR(F:List aF):Nat:=(F.map λf=>f.path.size+f.byt.length).sum
theorem Ou{F:List aF}{k:Nat}{f:aF}(h:F[k]?=some f):pR (F.take (k+1))=pR (F.take k)+(f.path.size+f.byt.length):=by
 unfold pR;rw[List.take_add_one,h];simp
end
section
open Go.RowKit Go.Maps
def aF.said(f:aF):ByteArray×Bool×List Int:=(f.path,f.dir,f.byt)
theorem yM(mi mb:Nat):∀(N:List Nd) (F G:List aF),F.map aF.said=G.map aF.said→bK mi mb N F=bK mi mb N G:=λN F=>by
 induction F generalizing N with
 | nil=>
   intro G h;cases G with
   | nil=>rfl
   | cons g G=>cases h
 | cons f F ih=>
   intro G h;cases G with
   | nil=>cases h
   | cons g G=>
     rw[List.map_cons,List.map_cons]at h
     injection h with h1 h2
     unfold aF.said at h1
     injection h1 with h3 h4
     injection h4 with h5 h6
     unfold bK;rw[h3,h5,h6,ih _ G h2]
theorem Lm(l:fD)(F G:List aF)(h:F.map aF.said=G.map aF.said):bD l F=bD l G:=by
 unfold bD;rw[yM _ _ _ F G h]
theorem gy.same{w:World}{B kb:Nat}{a b c:Int}{mi mb:Nat}{F G:List aF}(h:gy w B kb a b c mi mb F)(e:F.map aF.said=G.map aF.said):gy w B kb a b c mi mb G:=by
 obtain⟨pm,tb,ob,cb,pb,sb,A,T,h1,h2,h3,h4,h5,h6,h7⟩:=h;exact⟨pm,tb,ob,cb,pb,sb,A,T,h1,h2,h3,h4,h5,h6.trans (by rw[yM _ _ _ F G e]),h7⟩
theorem uN.bel{w w':World}{kb:Nat}{l:fD}{F:List aF}(h:uN w kb l F)(k:Bel w w'):uN w' kb l F:=by
 obtain⟨iv,L,s,pb,pc,cells,v,h1,h2,h3,h4,h5,hb,hpc,hlt,htk,hr⟩:=h;exact⟨iv,L,s,pb,pc,cells,v,h1.bel k,h2,h3,h4,h5,hb.bel k,hpc,hlt,htk,aO hr k⟩
end
section
open Go.RowKit Go.Maps Go.Shelf
theorem gK{w w':World}{base X7:Nat}{e e2:TypeId}{size size2:Nat}{v v2:Value}{n n2:Nat}{xs ys:List Value}(h:w.ownsRow base e size v n xs)(h2:w.ownsRow X7 e2 size2 v2 n2 ys)(hne:e≠e2)(k:Keep (λq=>v2.ownBlock=some q) w w'):w'.ownsRow base e size v n xs:=by
 refine⟨h.1,?_⟩;rcases h.2 with h3|⟨g,cap,cur,rfl,h3,h4,h5⟩
 ·exact .inl h3
 ·have hb:Blk w g cur.toList e:=h4
  refine .inr ⟨g,cap,cur,rfl,h3,(k.block g hb.lt λhq=>?_).trans h4,h5⟩;obtain⟨_,c2,hb2⟩:=row_blk h2 hq;exact hb.ne hb2 hne rfl
theorem jU{w w':World}{X7:Nat}{e e2:TypeId}{size2:Nat}{v2:Value}{n2:Nat}{ys cs:List Value}{g:Nat}(h:Blk w g cs e)(h2:w.ownsRow X7 e2 size2 v2 n2 ys)(hne:e≠e2)(k:Keep (λq=>v2.ownBlock=some q) w w'):Blk w' g cs e:=
 h.keep k λhq=>by
  obtain⟨_,c2,hb2⟩:=row_blk h2 hq;exact h.ne hb2 hne rfl
def aF.cells(f:aF):List Value:=[.string f.path,.bool f.dir,.slice f.p f.byt.length f.cap]
structure Roomy(W:World)(base:Nat)(G:List aF):Prop where
 row:∀(i:Nat) (g:aF),G[i]?=some g→∃b,g.p=some ⟨b,0,none⟩∧g.cap=g.byt.length+2∧base≤b∧Blk W b ((g.byt++[71,72]).map (Value.int .u8)) 5
 acO:∀(i j:Nat) (g h:aF) (b c:Nat),i<j→G[i]?=some g→G[j]?=some h→g.p=some ⟨b,0,none⟩→h.p=some ⟨c,0,none⟩→b<c
structure abt(w0:World)(F:List aF)(k:Nat)(v5 v6 v7 v8:Value)(W:World):Prop where
 bel:Bel w0 W
 r5:W.ownsRow w0.heap.size 9 1 v5 k ((F.take k).map λf=>.string f.path)
 r6:W.ownsRow w0.heap.size 4 1 v6 k ((F.take k).map λf=>.bool f.dir)
 r7:W.ownsRow w0.heap.size 59 1 v7 k ((F.take k).map λf=>.slice f.p f.byt.length f.cap)
 r8:∃G:List aF,G.map aF.said=(F.take k).map aF.said∧W.ownsRow w0.heap.size 71 3 v8 k (G.flatMap aF.cells)∧Roomy W w0.heap.size G
end
section
open Go.RowKit Go.Maps Go.Shelf
structure xm(w2:World)(fb:Nat)(f:aF)(x5 x6 x7:List Value)(n5 n6 n7:Nat)(G:List aF)(v5 v6 v7 v8:Value)(W:World):Prop where
 bel:Bel w2 W
 fbk:w2.heap.size≤fb
 fb:Blk W fb f.cells 71
 r5:W.ownsRow w2.heap.size 9 1 v5 n5 x5
 r6:W.ownsRow w2.heap.size 4 1 v6 n6 x6
 r7:W.ownsRow w2.heap.size 59 1 v7 n7 x7
 r8:W.ownsRow w2.heap.size 71 3 v8 G.length (G.flatMap aF.cells)
 rm:Roomy W w2.heap.size G
theorem Roomy.to{W W':World}{base:Nat}{G:List aF}(h:Roomy W base G)(k:∀b cs,Blk W b cs 5→Blk W' b cs 5):Roomy W' base G:=⟨λi g hg=>by
 obtain⟨b,h1,h2,h3,h4⟩:=h.row i g hg;exact⟨b,h1,h2,h3,k b _ h4⟩,h.acO⟩
theorem Roomy.nil(W:World)(base:Nat):Roomy W base []:=⟨λi g h=>(by simp at h),λi j g h b c _ hi=>(by simp at hi)⟩
variable {w2 W W':World} {fb n5 n6 n7:Nat} {f:aF} {x5 x6 x7:List Value} {G:List aF} {v5 v6 v7 v8:Value}
theorem xm.to(h:xm w2 fb f x5 x6 x7 n5 n6 n7 G v5 v6 v7 v8 W)(k:Bel W W'):xm w2 fb f x5 x6 x7 n5 n6 n7 G v5 v6 v7 v8 W':=
 ⟨h.bel.tr k,h.fbk,h.fb.bel k,aO h.r5 k,aO h.r6 k,aO h.r7 k,aO h.r8 k,h.rm.to λ_ _ hb=>hb.bel k⟩
theorem Ac{e:TypeId}{size n:Nat}{v:Value}{xs:List Value}(h:Bel w2 W)(hr:W.ownsRow w2.heap.size e size v n xs)(k:Keep (λq=>v.ownBlock=some q) W W'):Bel w2 W':=
 ((Keep.of_bel (λq=>v.ownBlock=some q) h).tr k).below _ (bM _) λq hq=>(row_blk hr hq).1
theorem xm.afb(h:xm w2 fb f x5 x6 x7 n5 n6 n7 G v5 v6 v7 v8 W){v':Value}{n':Nat}{x':List Value}(k:Keep (λq=>v5.ownBlock=some q) W W')(r:W'.ownsRow w2.heap.size 9 1 v' n' x'):xm w2 fb f x' x6 x7 n' n6 n7 G v' v6 v7 v8 W':=
 ⟨Ac h.bel h.r5 k,h.fbk,jU h.fb h.r5 (by decide) k,r,gK h.r6 h.r5 (by decide) k,gK h.r7 h.r5 (by decide) k,gK h.r8 h.r5 (by decide) k,h.rm.to λ_ _ hb=>jU hb h.r5 (by decide) k⟩
theorem xm.afc(h:xm w2 fb f x5 x6 x7 n5 n6 n7 G v5 v6 v7 v8 W){v':Value}{n':Nat}{x':List Value}(k:Keep (λq=>v6.ownBlock=some q) W W')(r:W'.ownsRow w2.heap.size 4 1 v' n' x'):xm w2 fb f x5 x' x7 n5 n' n7 G v5 v' v7 v8 W':=
 ⟨Ac h.bel h.r6 k,h.fbk,jU h.fb h.r6 (by decide) k,gK h.r5 h.r6 (by decide) k,r,gK h.r7 h.r6 (by decide) k,gK h.r8 h.r6 (by decide) k,h.rm.to λ_ _ hb=>jU hb h.r6 (by decide) k⟩
theorem xm.afd(h:xm w2 fb f x5 x6 x7 n5 n6 n7 G v5 v6 v7 v8 W){v':Value}{n':Nat}{x':List Value}(k:Keep (λq=>v7.ownBlock=some q) W W')(r:W'.ownsRow w2.heap.size 59 1 v' n' x'):xm w2 fb f x5 x6 x' n5 n6 n' G v5 v6 v' v8 W':=
 ⟨Ac h.bel h.r7 k,h.fbk,jU h.fb h.r7 (by decide) k,gK h.r5 h.r7 (by decide) k,gK h.r6 h.r7 (by decide) k,r,gK h.r8 h.r7 (by decide) k,h.rm.to λ_ _ hb=>jU hb h.r7 (by decide) k⟩
theorem lU{α β:Type}{F:List α}{k:Nat}{f:α}(hf:F[k]?=some f)(g:α→β):(F.take k).map g++[g f]=(F.take (k+1)).map g:=by
 rw[List.take_add_one,hf];simp
theorem Uc{F:List aF}{k:Nat}(hf:F[k]?=some f)(h:xm w2 fb f ((F.take k).map (λf=>.string f.path)++[.string f.path]) ((F.take k).map (λf=>.bool f.dir)++[.bool f.dir]) ((F.take k).map (λf=>.slice f.p f.byt.length f.cap)++[.slice f.p f.byt.length f.cap]) (k+1) (k+1) (k+1) G v5 v6 v7 v8 W)
 (hG:G.map aF.said=(F.take k).map aF.said)(YY:G.length=k)(g:Nat)(hg:w2.heap.size≤g)(hnew:∀(i:Nat) (g0:aF) (b:Nat),G[i]?=some g0→g0.p=some ⟨b,0,none⟩→b<g)(hb:Blk W g ((f.byt++[71,72]).map (Value.int .u8)) 5){v':Value}(K:Keep (λq=>v8.ownBlock=some q) W W')
 (r:W'.ownsRow w2.heap.size 71 3 v' (G.length+1) (G.flatMap aF.cells++[.string f.path,.bool f.dir,.slice (g,0) f.byt.length (f.byt.length+2)])):abt w2 F (k+1) v5 v6 v7 v' W':=by
 refine⟨Ac h.bel h.r8 K,?_,?_,?_,G++[⟨f.path,f.dir,some ⟨g,0,none⟩,f.byt.length+2,f.byt⟩],?_,?_,?_⟩
 ·have:=gK h.r5 h.r8 (by decide) K
  rwa [lU hf (λf=>Value.string f.path)]at this
 ·have:=gK h.r6 h.r8 (by decide) K
  rwa [lU hf (λf=>Value.bool f.dir)]at this
 ·have:=gK h.r7 h.r8 (by decide) K
  rwa [lU hf (λf=>Value.slice f.p f.byt.length f.cap)]at this
 ·rw[←lU hf aF.said,List.map_append,hG]
  rfl
 ·rw[List.flatMap_append,←YY]
  simpa [aF.cells]using r
 ·have hsplit:∀(i:Nat) (g':aF),(G++[⟨f.path,f.dir,some ⟨g,0,none⟩,f.byt.length+2,f.byt⟩])[i]?=some g'→G[i]?=some g'∧i<G.length∨i=G.length∧g'=⟨f.path,f.dir,some ⟨g,0,none⟩,f.byt.length+2,f.byt⟩:=λi g' hi=>by
   by_cases h1:i<G.length
   ·rw[List.getElem?_append_left h1]at hi
    exact .inl ⟨hi,h1⟩
   ·rw[List.getElem?_append_right (by omega)]at hi
    have h2:=(bV hi).1;simp at h2
    have e:i-G.length=0:=by omega
    rw[e]at hi;cases hi
    exact .inr ⟨by omega,rfl⟩
  refine⟨λi g' hi=>?_,λi j g1 h1 b c hij hi hj hb1 hc1=>?_⟩
  ·rcases hsplit i g' hi with⟨h1,_⟩|⟨_,rfl⟩
   ·obtain⟨b,e1,e2,e3,e4⟩:=h.rm.row i g' h1
    exact⟨b,e1,e2,e3,jU e4 h.r8 (by decide) K⟩
   ·exact⟨g,rfl,rfl,hg,jU hb h.r8 (by decide) K⟩
  ·rcases hsplit i g1 hi with⟨e1,_⟩|⟨e1,rfl⟩
   ·rcases hsplit j h1 hj with⟨e2,_⟩|⟨_,rfl⟩
    ·exact h.rm.acO i j g1 h1 b c hij e1 e2 hb1 hc1
    ·cases hc1
     exact hnew i g1 b e1 hb1
   ·rcases hsplit j h1 hj with⟨_,e2⟩|⟨e2,_⟩<;>omega
theorem Fg{w:World}{F G:List aF}{v:Value}{base:Nat}(hG:G.map aF.said=F.map aF.said)(hl:F.length≤100)(hs:∀f∈F,(∀x∈f.byt,0≤x∧x≤255)∧f.byt.length≤200000∧f.path.size≤200000)
 (hr:w.ownsRow base 71 3 v G.length (G.flatMap aF.cells))(hm:Roomy w base G):uP w G v:=by
 have YY:G.length=F.length:=by have:=congrArg List.length hG;simpa using this
 have hmem:∀g∈G,∃f∈F,g.said=f.said:=λg hg=>by
  have h1:g.said∈G.map aF.said:=List.mem_map_of_mem hg;rw[hG]at h1;obtain⟨f,hf,e⟩:=List.mem_map.1 h1;exact⟨f,hf,e.symm⟩
 obtain⟨p,c,rfl,_,_,h3⟩:=aG hr;refine⟨by omega,⟨p,c,rfl,λi f hf=>?_⟩,λf hf=>?_⟩
 ·have hlt:=(bV hf).1
  rcases h3 with⟨h0,_⟩|⟨g,rfl,_,_,hc,_⟩
  ·omega
  ·refine⟨g,rfl,λj u hj=>?_⟩
   have hj3:j<3:=by have:=(bV hj).1;simpa using this
   have hfl:=fP aF.cells 3 G (λ_ _=>rfl) i j hj3;have hlen:i*3+j<(G.flatMap aF.cells).length:=by
    rw[flat_length aF.cells 3 G (λ_ _=>rfl)];omega
   show w.cell? (g,i*3+j)=_
   rw[hc _ hlen,hfl,hf];exact hj
 ·obtain⟨f',hf',e⟩:=hmem f hf
  obtain⟨h1,h2,h4⟩:=hs f' hf';have e1:f.path=f'.path:=congrArg (·.1) e;have e2:f.byt=f'.byt:=congrArg (·.2.2) e;obtain⟨i,hi⟩:=List.mem_iff_getElem?.1 hf;obtain⟨b,k1,k2,_,k4⟩:=hm.row i f hi;rw[e1,k1,k2];have hby:∀x∈f.byt,0≤x∧x≤255:=by rw[e2];exact h1
  refine⟨⟨hby,λh0=>⟨b,0,rfl,k4.lt,⟨λi hi=>?_,hby⟩⟩⟩,by omega,by rw[e2];exact h2,by omega,λb' o hb=>?_⟩
  ·rw[Nat.zero_add,k4.cell,fA,List.getElem?_append_left hi]
  ·cases hb
   exact k4.lt
def qA(G:List aF)(q:Nat):Prop:=∃(i:Nat) (g:aF),G[i]?=some g∧g.p=some ⟨q,0,none⟩
theorem Roomy.blk{W:World}{base:Nat}{G:List aF}(h:Roomy W base G){q:Nat}(hq:qA G q):base≤q∧q<W.heap.size∧∃cs,Blk W q cs 5:=by
 obtain⟨i,g,hi,hp⟩:=hq;obtain⟨b,h1,_,h3,h4⟩:=h.row i g hi;rw[hp]at h1;cases h1
 exact⟨h3,h4.lt,_,h4⟩
theorem Ud{S:Nat→Prop}{w w':World}{base:Nat}{e:TypeId}{size:Nat}{v:Value}{n:Nat}{xs:List Value}(h:w.ownsRow base e size v n xs)(k:Keep S w w')(hs:∀q,S q→∃cs t,Blk w q cs t∧t≠e):w'.ownsRow base e size v n xs:=by
 refine⟨h.1,?_⟩;rcases h.2 with h3|⟨g,cap,cur,rfl,h3,h4,h5⟩
 ·exact .inl h3
 ·have hb:Blk w g cur.toList e:=h4
  refine .inr ⟨g,cap,cur,rfl,h3,(k.block g hb.lt λhq=>?_).trans h4,h5⟩;obtain⟨cs,t,hb2,hne⟩:=hs g hq;exact hb.ne hb2 (λe=>hne e.symm) rfl
theorem Cm{w:World}{base:Nat}{e:TypeId}{v:Value}{F:List aF}(c:aF→Value)(h:w.ownsRow base e 1 v F.length (F.map c)):∃p cp,v=.slice p F.length cp∧∀(i:Nat) (f:aF),F[i]?=some f→∃g,p=some ⟨g,0,none⟩∧w.cell? ⟨g,i,none⟩=some (c f):=by
 obtain⟨p,cp,rfl,_,_,h3⟩:=aG h;refine⟨p,cp,rfl,λi f hf=>?_⟩;have hlt:=(bV hf).1;rcases h3 with⟨h0,_⟩|⟨g,rfl,_,_,hc,_⟩
 ·omega
 ·exact⟨g,rfl,by rw[hc i (by simpa using hlt),fA,hf];rfl⟩
structure CB(w:World)(base:Nat)(G:List aF)(k:Nat)(W:World):Prop where
 keep:Keep (qA G) w W
 rest:∀(i:Nat) (g:aF),k≤i→G[i]?=some g→∃b,g.p=some ⟨b,0,none⟩∧Blk W b ((g.byt++[71,72]).map (Value.int .u8)) 5
theorem CB.start{w:World}{base:Nat}{G:List aF}(h:Roomy w base G):CB w base G 0 w:=⟨Keep.refl _ _,λi g _ hi=>by
 obtain⟨b,h1,_,_,h4⟩:=h.row i g hi;exact⟨b,h1,h4⟩⟩
theorem CB.next{w W W':World}{base:Nat}{G:List aF}{k b:Nat}{g:aF}(h:CB w base G k W)(hr:Roomy w base G)(hg:G[k]?=some g)(hp:g.p=some ⟨b,0,none⟩)(K:Keep (λq=>q=b) W W'):CB w base G (k+1) W':=
 ⟨h.keep.tr (K.mono λq hq=>by subst hq;exact⟨k,g,hg,hp⟩),λi g' hi hg'=>by
   obtain⟨c,h1,h2⟩:=h.rest i g' (by omega) hg';exact⟨c,h1,h2.keep K λe=>by have h3:=hr.acO k i g g' b c (by omega) hg hg' hp h1;have e:c=b:=e;omega⟩⟩
end
section
open Go.Proofs.Tryz Go.RowKit Go.Maps
theorem Ih(tb:Nat)(A:bJ)(t:TN)(w:World)(hT:Blk w tb (t.cells A) 220) :
 Calls prog 49 #[tb] w λe w'=>e=.returned (.tuple #[.int .i64 t.di,.int .i64 t.bytes])∧∃n,w'=w.drewN n:=by
 have c1:=hT.c 1 rfl;have c2:=hT.c 2 rfl;clear hT;go_enter func49,ntmps49;go_upto_region 1 with fail
 go_quiet (fail)
 go_wp2
 go_ret2
 exact⟨rfl,nq,rfl⟩
theorem Eb(ob:Nat)(n m:Int)(w:World)(h:Blk w ob [n,m] 222) :
 Calls prog 50 #[ob] w (Z.e (.int .i64 n) w):=by
 have c0:=h.c 0 rfl;clear h;go_enter func50,ntmps50;go_wp2
 go_ret
 exact⟨rfl,rfl⟩
theorem Mp.aa0{w:World}{b:Nat}{kv:List (Int×Value)}(h:Mp kM w b kv):∃es clock,w.heap[b]?=some (.map es clock)∧es.size=kv.length:=by
 obtain⟨es,clock,hb,_,he,_⟩:=h;have:=congrArg List.length he;simp only[jE,Array.length_toList]at this
 exact⟨es,clock,hb,this⟩
theorem Ii{P:Program}{w:World}{ops:Array Oper}{o:Oper}{a:Act}{K:Act→World→Prop}{Q:Exit→Act→World→Prop}{E:Prop}(hgd:o.guard=none)(x:Operand)(t:TypeId){k e:TypeId}(ho:o.op=.call {callee:=.builtin .len,args:= #[x],argTypes:= #[t]})(ht:P.underlying t=some (.map k e))
 (b:Nat)(hx:a.eval x=.map (some b)){es:Array MapEntry}{clock:Nat}(hb:w.heap[b]?=some (.map es clock))(n:Nat)(hn:es.size=n)
 (h:K (a.put o.dst (.int .i64 (n:Int))) w):if Region.wanted o (yielded ops a.tmps)=true then Oper.wp P o a w K Q else E:=by
 have hw:Region.wanted o (yielded ops a.tmps)=true:=by simp[Region.wanted,hgd]
 rw[if_pos hw];have hrun:=run_len_map (P:=P) (ty:=o.type) ht hb;unfold Oper.wp;simp[execOp,ho,resolve,invoke,builtin,hx,hrun,Result.andThen]
 rw[hn];exact h
theorem SN(kb:Nat)(a b c d e:Int)(pm tb ob cb:Nat)(fr now:Int)(sl:Value)(kv:List (Int×Value))(A:bJ)(t:TN)(n m:Int)(w:World)(hk:Blk w kb (lV a b c d e pm tb ob cb fr now sl) 111)(hp:Mp kM w pm kv)(hT:Blk w tb (t.cells A) 220)(ho:Blk w ob [n,m] 222) :
 Calls prog 29 #[kb] w (Z.b (.agg #[.int .i64 (kv.length:Nat),fr,n,.int .i64 t.di,.int .i64 t.bytes]) w):=by
 have HK:=xh hk;have HP:=xh hp;have HT:=xh hT;have HO:=xh ho;have c6:=hk.c 6 rfl;have hkl:=hk.lt;clear hk hp hT ho;go_enter func29,ntmps29;go_upto_region 2 with(go_at_call 49;((with_reducible refine aH (Ih tb A t _ (HT.o.alloc _)) ?_);rintro e2 w1 ⟨rfl,nq,h1⟩;have k1:Bel w w1:=h1▸aj (Bel.start w _) nq;have B1:Blk w1 w.heap.size [(0:Int),(0:Int),(0:Int),(0:Int),(0:Int)] 23:=h1▸Blk.new w _ _;have bP:=xh k1;have HB1:=xh B1;clear h1 k1 B1))
 have d5:=(HK.o.bel bP.o).c 5 rfl;have d9:=(HK.o.bel bP.o).c 9 rfl;have d7:=(HK.o.bel bP.o).c 7 rfl;obtain⟨es,clock,hes,pI⟩:=(HP.o.bel bP.o).aa0;have HES:=xh (And.intro hes pI);obtain⟨g,hg⟩:=e_x w.heap.size;rw[hg]at HB1⊢;have HG:=xh hg;have r0:=HB1.o.c 0 rfl;have r1:=HB1.o.c 1 rfl;have r2:=HB1.o.c 2 rfl;have r3:=HB1.o.c 3 rfl;have r4:=HB1.o.c 4 rfl;have rf:=HB1.o.frozen;have rl:=HB1.o.lt;have hne:kb≠g:=by omega
 have hne2:g≠kb:=by omega
 clear hes pI hg c6;refine wp_region_noPanic ?_;refine wp_region_held_drew (S:=λw'=>w'.cell? ⟨kb,5,none⟩=some (.map (some pm))∧w'.cell? ⟨kb,9,none⟩=some (.int .i64 fr)∧w'.cell? ⟨kb,7,none⟩=some (.pointer (ob,0))) (by kernel_rfl) (by(try dsimp only);first|(go_keep;done)|assumption) (λhHeld=>?_);refine plan [0,1,2,3,5,6,7,8,9,10,11,12,14,15] ?_;repeat refine tk rfl (by kernel_rfl) rfl (by intro w hw;(try dsimp only at hw);go_simp;with_reducible rfl) (by assumption) (λ_ _ _ h=>h) (by(try simp only[Act.put,lits]);exact rfl) ?_
 refine iI ?_;refine rd 4 rfl (by kernel_rfl) (λK hK=>?_);refine Ii rfl (.tmp 16) 103 rfl underlying103 pm rfl (w:=w1.drew) HES.o.1 kv.length HES.o.2 ?_;refine hK.out _ _ (by(try dsimp only);first|assumption|(go_keep;done)) (λhH=>?_);clear hK K;(try simp only[Act.put,lits])
 refine rd 13 rfl (by kernel_rfl) (λK hK=>?_);go_simp;go_at_call 50;((with_reducible refine aH (Eb ob n m _ (HO.o.bel (bP.o.tr (Bel.drew (Bel.refl _))))) ?_);rintro e3 w3 ⟨rfl,hh⟩;subst hh);refine hK.out _ _ (by(try dsimp only);first|assumption|(go_keep;done)) (λhH=>?_);clear hK K;(try simp only[Act.put,lits])
 refine plan [16] ?_;repeat refine tk rfl (by kernel_rfl) rfl (by intro w hw;(try dsimp only at hw);go_simp;with_reducible rfl) (by assumption) (λ_ _ _ h=>h) (by(try simp only[Act.put,lits]);exact rfl) ?_
 refine iI ?_;refine rd 17 rfl (by kernel_rfl) (λK hK=>?_);go_simp;refine hK.out _ _ ?aiO (λhH=>?_)
 case aiO=>
  have vK:∀(W:World) (i o:Nat) (v:Value),(W.setCell ⟨g,i,none⟩ v).cell? ⟨kb,o,none⟩=W.cell? ⟨kb,o,none⟩:=λW i o v=>World.cell?_setCell_far W ⟨g,i,none⟩ ⟨kb,o,none⟩ v hne2;have hdr:∀(W:World) (a:Addr),W.drew.cell? a=W.cell? a:=λ_ _=>rfl;refine⟨?_,?_,?_⟩
  ·rw[hdr,vK,vK,vK,vK,vK]
   exact(hdr w1 _).symm.trans hHeld.1
  ·rw[hdr,vK,vK,vK,vK,vK]
   exact(hdr w1 _).symm.trans hHeld.2.1
  ·rw[hdr,vK,vK,vK,vK,vK]
   exact(hdr w1 _).symm.trans hHeld.2.2
 clear hK K;(try simp only[Act.put,lits])
 refine wpAnyH_done (by kernel_rfl) ?_ _;refine NoPanic.normal ?_;go_wp2_with fail
 refine bodyPost_ret (v:=.agg #[.int .i64 (kv.length:Nat),fr,n,.int .i64 t.di,.int .i64 t.bytes]) (by simp[results,results29,go_sem, *]) rfl ⟨rfl,?_⟩;have hgw:w.heap.size≤g:=by rw[HG.o];exact bM _
 exact((((((bP.o).store (p:=⟨g,0,none⟩) hgw _).store (p:=⟨g,1,none⟩) hgw _).store (p:=⟨g,2,none⟩) hgw _).store (p:=⟨g,3,none⟩) hgw _).store (p:=⟨g,4,none⟩) hgw _).drew
theorem sH{tk kb:Nat}{w:World}(h:Blk w tk [kb] 83):w.cell? (tk,0)=some (.pointer (kb,0)):=h.cell 0
theorem Na(tk kb:Nat)(Q:Value→World→Prop)(w:World)(h:Blk w tk [kb] 83)(hk:Calls prog 26 #[kb] w λe w'=>∃v,e=.returned v∧Q v w') :
 Calls prog 11 #[tk] w λe w'=>∃v,e=.returned v∧Q v w':=by
 have c0:=sH h;have HK:=xh hk;clear h hk;go_enter func11,ntmps11;go_wp2_with (go_at_call 26;((with_reducible refine aH HK.o ?_);rintro e w1 ⟨v,rfl,h1⟩;have H1:=xh h1;clear h1))
 go_ret
 exact⟨v,rfl,H1.o⟩
theorem Nh(kb tb:Nat)(Q:Value→World→Prop)(w:World)(hc:w.cell? (kb,6)=some (.pointer (tb,0)))(hk:Calls prog 52 #[tb] w λe w'=>∃v,e=.returned v∧Q v w') :
 Calls prog 31 #[kb] w λe w'=>∃v,e=.returned v∧Q v w':=by
 have HK:=xh hk;clear hk;go_enter func31,ntmps31;go_wp2_with (go_at_call 52;((with_reducible refine aH HK.o ?_);rintro e w1 ⟨v,rfl,h1⟩;have H1:=xh h1;clear h1))
 go_ret
 exact⟨v,rfl,H1.o⟩
theorem Nc(tk kb:Nat)(Q:Value→World→Prop)(w:World)(h:Blk w tk [kb] 83)(hk:Calls prog 31 #[kb] w λe w'=>∃v,e=.returned v∧Q v w') :
 Calls prog 19 #[tk] w λe w'=>∃v,e=.returned v∧Q v w':=by
 have c0:=sH h;have HK:=xh hk;clear h hk;go_enter func19,ntmps19;go_wp2_with (go_at_call 31;((with_reducible refine aH HK.o ?_);rintro e w1 ⟨v,rfl,h1⟩;have H1:=xh h1;clear h1))
 go_ret
 exact⟨v,rfl,H1.o⟩
theorem SL(tk kb:Nat)(x0 x1 x2 x3 x4:Int)(Q:World→Prop)(w:World)(h:Blk w tk [kb] 83)(hk:∀W,Bel w W→Calls prog 29 #[kb] W (Z.b (.agg #[x0,x1,x2,x3,x4]) W)) :
 Calls prog 16 #[tk] w (Z.b (.agg #[x0,x1,x2,x3,x4]) w):=by
 have c0:=sH h;have hl:=h.lt;have HK:=xh hk;clear h hk;go_enter func16,ntmps16;go_wp2_with (go_at_call 29;((with_reducible refine aH (HK.o _ (Bel.start w _)) ?_);rintro e w1 ⟨rfl,k1⟩;have BB:=(Blk.new w [(0:Int),(0:Int),(0:Int),(0:Int),(0:Int)] 23).bel k1;have r0:=BB.c 0 rfl;have r1:=BB.c 1 rfl;have r2:=BB.c 2 rfl;have r3:=BB.c 3 rfl;have r4:=BB.c 4 rfl;have rf:=BB.frozen;have rl:=BB.lt;have H1:=xh ((Bel.start w _).tr k1);clear k1 BB))
 refine bodyPost_ret (v:=.agg #[x0,x1,x2,x3,x4]) (by simp[results,results16,go_sem, *]) rfl ⟨rfl,?_⟩;have hgw:w.heap.size≤w.heap.size:=bM _;exact(((((H1.o).store (p:=⟨w.heap.size,0,none⟩) hgw _).store (p:=⟨w.heap.size,1,none⟩) hgw _).store (p:=⟨w.heap.size,2,none⟩) hgw _).store (p:=⟨w.heap.size,3,none⟩) hgw _).store (p:=⟨w.heap.size,4,none⟩) hgw _
end
end Go.Proofs.YtcnjjchlebmfiaaGreatDoor
