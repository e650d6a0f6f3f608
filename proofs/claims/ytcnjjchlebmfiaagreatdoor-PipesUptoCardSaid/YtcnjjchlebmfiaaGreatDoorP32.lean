/-.-/
import Derived.Test.YtcnjjchlebmfiaaGreatDoorP21
set_option linter.unusedVariables false
set_option linter.unusedSimpArgs false
set_option maxRecDepth 100000
set_option maxHeartbeats 16000000
namespace Go.Proofs.YtcnjjchlebmfiaaGreatDoor
section
open Go.RowKit Go.Maps
structure pV(N:List Nd):Prop where
 root:isDir N 1=true
 conn:Ci N
 size:∀n∈N,n.name.size≤1000
theorem pV.new{N:List Nd}(h:pV N)(d:Nat)(nm:ByteArray)(b:Bool)(hd:d≠0)(hn:aS nm.data.toList=true):pV (N++[⟨d,nm,b,[],dM⟩]):=by
 refine⟨uS h.root,λi n hi h0=>?_,λn hn2=>?_⟩
 ·rcases Nat.lt_or_ge i N.length with hl|hl
  ·rw[List.getElem?_append_left hl]at hi
   exact h.conn i n hi h0
  ·rw[List.getElem?_append_right hl]at hi
   have:i-N.length=0:=by have:=(bZ hi).1;simp at this;omega
   rw[this]at hi;cases hi
   exact hd
 ·rcases List.mem_append.1 hn2 with h1|h1
  ·exact h.size n h1
  ·rw[List.mem_singleton.1 h1]
   show nm.size≤1000
   unfold aS at hn;simp only[Bool.and_eq_true,decide_eq_true_eq]at hn
   have h2:nm.data.toList.length=nm.size:=by simp
   omega
theorem pV.put{mb:Nat}{N:List Nd}(h:pV N)(n:Nat)(b:List Int):pV (oG mb N n b).2∧(oG mb N n b).2.length=N.length:=by
 unfold oG;cases hx:N[n-1]? with
 | none=>exact⟨h,rfl⟩
 | some x=>
   simp only
   by_cases hd:x.dir=true
   ·rw[if_pos hd];exact⟨h,rfl⟩
   ·rw[if_neg hd]
    by_cases hc:0<b.length∧mb<bN N+(b.length-x.byt.length)
    ·rw[if_pos hc];exact⟨h,rfl⟩
    ·rw[if_neg hc]
     have hat:∀(j:Nat) (m:Nd),(N.set (n-1) {x with byt:=b++x.byt.drop b.length})[j]?=some m→∃m0:Nd,N[j]?=some m0∧m.par=m0.par∧m.name=m0.name∧m.dir=m0.dir:=λj m hj=>by
      by_cases e:n-1=j
      ·subst e
       rw[List.getElem?_set_self (bZ hx).1]at hj;cases hj
       exact⟨x,hx,rfl,rfl,rfl⟩
      ·rw[List.getElem?_set_ne e]at hj
       exact⟨m,hj,rfl,rfl,rfl⟩
     refine⟨⟨?_,λj m hj h0=>?_,λm hm=>?_⟩,by simp⟩
     ·have h1:=h.root
      unfold isDir at h1⊢;cases hy:(N.set (n-1) {x with byt:=b++x.byt.drop b.length})[1-1]? with
      | none=>
        have h3:=List.getElem?_eq_none_iff.1 hy;rw[List.length_set]at h3;rw[List.getElem?_eq_none_iff.2 h3]at h1;cases h1
      | some m=>
        obtain⟨m0,h2,_,_,h3⟩:=hat _ m hy;rw[h2]at h1;show m.dir=true
        rw[h3];exact h1
     ·obtain⟨m0,h2,h3,_⟩:=hat j m hj
      rw[h3];exact h.conn j m0 h2 h0
     ·obtain⟨j,hj⟩:=List.mem_iff_getElem?.1 hm
      obtain⟨m0,h2,_,h3,_⟩:=hat j m hj;rw[h3];exact h.size m0 (List.mem_iff_getElem?.2 ⟨j,h2⟩)
theorem pV.file{mi mb:Nat}{N:List Nd}(h:pV N)(path:List UInt8)(is:Bool)(b:List Int):pV (jq mi mb N path is b).2∧(jq mi mb N path is b).2.length≤N.length+1:=by
 unfold jq;by_cases hi:is=true
 ·rw[if_pos hi]
  unfold Ph;by_cases h1:(ay N path).2.2.2≠0
  ·rw[if_pos h1];exact⟨h,Nat.le_succ _⟩
  ·rw[if_neg h1]
   by_cases h2:(ay N path).2.2.1≠0
   ·rw[if_pos h2];exact⟨h,Nat.le_succ _⟩
   ·rw[if_neg h2]
    by_cases h3:mi≤N.length
    ·rw[if_pos h3];exact⟨h,Nat.le_succ _⟩
    ·rw[if_neg h3]
     obtain⟨n1,_,_,n4,_⟩:=mg h.root (by omega) (by omega:(ay N path).2.2.1=0);exact⟨h.new _ _ _ n1 n4,Nat.le_of_eq (by simp)⟩
 ·rw[if_neg hi]
  by_cases h1:(ay N path).2.2.2≠0
  ·rw[if_pos h1];exact⟨h,Nat.le_succ _⟩
  ·rw[if_neg h1]
   by_cases h2:(ay N path).2.2.1=0
   ·rw[if_pos h2]
    by_cases h3:mi≤N.length
    ·rw[if_pos h3];exact⟨h,Nat.le_succ _⟩
    ·rw[if_neg h3]
     obtain⟨n1,_,_,n4,_⟩:=mg h.root (by omega) h2;obtain⟨p1,p2⟩:=(h.new _ _ false n1 n4).put (mb:=mb) (N.length+1) b;exact⟨p1,by rw[p2];simp⟩
   ·rw[if_neg h2]
    obtain⟨p1,p2⟩:=h.put (mb:=mb) (ay N path).2.2.1 b;exact⟨p1,by rw[p2];omega⟩
theorem pV.files{mi mb:Nat}:∀{N:List Nd} (_:pV N) (F:List av),pV (bu mi mb N F).2∧(bu mi mb N F).2.length≤N.length+F.length
 | N,h,[]=>⟨h,bH _⟩
 | N,h,f::fs=>by
   unfold bu;by_cases h1:(jq mi mb N f.path.data.toList f.dir f.byt).1≠0
   ·rw[if_pos h1];exact⟨h,Nat.le_add_right _ _⟩
   ·rw[if_neg h1]
    obtain⟨p1,p2⟩:=h.file (mi:=mi) (mb:=mb) f.path.data.toList f.dir f.byt;obtain⟨q1,q2⟩:=pV.files p1 fs;exact⟨q1,by simp;omega⟩
theorem pV.first:pV [cZ]:=⟨rfl,λi n hi h0=>by
 have:=(bZ hi).1;simp at this;omega,λn hn=>by rw[List.mem_singleton.1 hn];decide⟩
theorem alive{w:World}{A:bB}{T:List Pn}(h:bT w A T)(hc:Ci (aH T))(i:Nat)(n:Pn)(hi:T[i]?=some n):n.gone=false:=by
 by_cases h0:i=0
 ·subst h0
  obtain⟨r,hr,_,_,hg⟩:=h.root;rw[hr]at hi;cases hi;exact hg
 ·have:=hc i n.nd (IQ hi) h0
  cases hg:n.gone with
  | false=>rfl
  | true=>exact absurd (show n.nd.par=0 by unfold Pn.nd;rw[hg];rfl) this
theorem UG{w:World}{A:bB}{T:List Pn}(h:bT w A T)(hc:Ci (aH T)):Live T:=λi n hi _ hp=>by
 obtain⟨p,hp1,_⟩:=h.GQ i n hi hp;exact⟨p,hp1,alive h hc _ p hp1⟩
theorem A9(A:bB)(d:Nat):∀(i:Nat) (T:List Pn) (j:Nat) (n:Pn),T[j]?=some n→n.nd.par=d→∃k:Nat,(eY A d i T)[k]?=some (n.name,A.ptr (i+j+1)):=λi T=>by
 induction T generalizing i with
 | nil=>intro j n hj;cases hj
 | cons x T ih=>
   intro j n hj hp;unfold eY;cases j with
   | zero=>
     cases hj
     rw[if_pos hp];exact⟨0,rfl⟩
   | succ j=>
     obtain⟨k,hk⟩:=ih (i+1) j n hj hp;rw[show i+(j+1)+1=i+1+j+1 from by omega];split
     ·exact⟨k+1,hk⟩
     ·exact⟨k,hk⟩
theorem Nq(A:bB)(d:Nat):∀(i:Nat) (T:List Pn) (j j':Nat) (n n':Pn),T[j]?=some n→T[j']?=some n'→n.nd.par=d→n'.nd.par=d→n.name=n'.name→((eY A d i T).map Prod.fst).Nodup→j=j':=λi T=>by
 induction T generalizing i with
 | nil=>intro j j' n n' hj;cases hj
 | cons x T ih=>
   intro j j' n n' hj hj' hp hp' hnm hnd;unfold eY at hnd;cases j with
   | zero=>
     cases j' with
     | zero=>rfl
     | succ j'=>
       cases hj
       rw[if_pos hp]at hnd;obtain⟨k,hk⟩:=A9 A d (i+1) T j' n' hj' hp';rw[List.map_cons,List.nodup_cons]at hnd;exact absurd (List.mem_map.2 ⟨_,List.mem_iff_getElem?.2 ⟨k,hk⟩,hnm.symm⟩) hnd.1
   | succ j=>
     cases j' with
     | zero=>
       cases hj'
       rw[if_pos hp']at hnd;obtain⟨k,hk⟩:=A9 A d (i+1) T j n hj hp;rw[List.map_cons,List.nodup_cons]at hnd;exact absurd (List.mem_map.2 ⟨_,List.mem_iff_getElem?.2 ⟨k,hk⟩,hnm⟩) hnd.1
     | succ j'=>
       have XO:((eY A d (i+1) T).map Prod.fst).Nodup:=by
        split at hnd
        ·rw[List.map_cons,List.nodup_cons]at hnd;exact hnd.2
        ·exact hnd
       rw[ih (i+1) j j' n n' hj hj' hp hp' hnm XO]
theorem Nr{w:World}{A:bB}{T:List Pn}(h:bT w A T)(hc:Ci (aH T)):PV (aH T):=by
 have at_:∀(i:Nat) (n:Nd),(aH T)[i]?=some n→∃p,T[i]?=some p∧n=p.nd:=λi n hi=>by
  unfold aH at hi;rw[dA]at hi;cases ht:T[i]? with
  | none=>rw[ht]at hi;cases hi
  | some p=>rw[ht]at hi;cases hi;exact⟨p,rfl,rfl⟩
 refine⟨λi j m n hi hj hm he hnm=>?_,λi n hi hn=>?_⟩
 ·obtain⟨p,hp,rfl⟩:=at_ i m hi
  obtain⟨q,hq,rfl⟩:=at_ j n hj;have KT:=alive h hc i p hp;have bA:p.nd.par=p.par:=by unfold Pn.nd;rw[KT];rfl
  obtain⟨d,hd,hdd⟩:=h.GQ i p hp (bA▸hm);have hk:=(h.kids _ d hd hdd).nodup;have h1:1≤p.par:=Nat.pos_of_ne_zero (bA▸hm);rw[show p.par-1+1=p.par from by omega]at hk;exact Nq A p.par 0 T i j p q hp hq bA (he▸bA) hnm hk
 ·obtain⟨p,hp,rfl⟩:=at_ i n hi
  have h0:i≠0:=λe=>by
   subst e;obtain⟨r,hr,hr2,_⟩:=h.root;rw[hr]at hp;cases hp;exact hn (by unfold Pn.nd;rw[hr2];simp)
  exact(h.name i p hp (alive h hc i p hp) h0).2
theorem Fa(L:List Nd):∀(f id:Nat),mh (fA L) f id=mh L f id
 | 0,_=>rfl
 | f+1,id=>by
   unfold mh;by_cases h1:id≤1
   ·rw[if_pos h1,if_pos h1]
   ·rw[if_neg h1,if_neg h1]
    unfold fA;rw[dA];cases L[id-1]? with
    | none=>rfl
    | some n=>
      simp only[Option.map_some]
      have:=Fa L f n.par;unfold fA at this;rw[show n.sk.par=n.par from rfl,this];rfl
theorem QS(L:List Nd)(id:Nat):dz (fA L) id=dz L id:=Fa L id id
structure Fit(L:List Nd)(R:List FileR):Prop where
 len:R.length+1=L.length
 has:∀(k:Nat) (n:Nd),L[k]?=some n→k≠0→∃(j:Nat) (r:FileR),R[j]?=some r∧r.path=dz L (k+1)
 fit:∀(j:Nat) (r:FileR),R[j]?=some r→∀(k:Nat) (n:Nd),L[k]?=some n→k≠0→r.path=dz L (k+1)→r.dir=n.dir∧r.byt=n.byt
 strict:R.Pairwise λx y=>x.path<y.path
 pos:∀r∈R,r.path≠[]
theorem aaV{T:List Pn}{L:List Nd}(h:fA L=aH T){k:Nat}{n:Nd}(hk:L[k]?=some n):∃p,T[k]?=some p∧p.nd.dir=n.dir∧p.nd.byt=n.byt∧p.nd.par=n.par:=by
 have h1:(fA L)[k]?=some n.sk:=by unfold fA;rw[dA,hk];rfl
 rw[h]at h1;unfold aH at h1;rw[dA]at h1;cases ht:T[k]? with
 | none=>rw[ht]at h1;cases h1
 | some p=>
   rw[ht]at h1;have h2:p.nd=n.sk:=by simpa using h1
   exact⟨p,rfl,by rw[h2];rfl,by rw[h2];rfl,by rw[h2];rfl⟩
theorem XU{w:World}{A:bB}{T:List Pn}{L:List Nd}{R:List FileR}(h:bT w A T)(hc:Ci (aH T))(hL:fA L=aH T)(hp:(R.map FileR.key).Perm ((dK (aH T) T.length 1).map (qZ T)))(hs:Cg R):Fit L R:=by
 have hd:=h.down;have hpt:=Nr h hc;have hlen:(aH T).length=T.length:=by unfold aH;simp
 have hLl:L.length=T.length:=by rw[←hlen,←hL];unfold fA;simp
 have Wq:∀x,dz (aH T) x=dz L x:=λx=>by rw[←hL];exact QS L x
 have hde:(dK (aH T) T.length 1).Perm (List.range' 2 (T.length-1)):=by have:=Az (aH T) hd hc;rwa [hlen]at this
 have h1:1≤T.length:=by obtain⟨r,hr,_⟩:=h.root;exact(bZ hr).1
 have hk:(R.map FileR.key).Perm ((List.range' 2 (T.length-1)).map (qZ T)):=hp.trans (hde.map _);have hmem:∀r∈R,∃x,2≤x∧x≤T.length∧r.key=qZ T x:=λr hr=>by
  have:=hk.mem_iff.1 (List.mem_map.2 ⟨r,hr,rfl⟩);obtain⟨x,hx,he⟩:=List.mem_map.1 this;rw[List.mem_range'_1]at hx;exact⟨x,hx.1,by omega,he.symm⟩
 have hinj:∀x y,1≤x→x≤T.length→1≤y→y≤T.length→dz (aH T) x=dz (aH T) y→x=y:=λx y a b c d e=>El hd hc hpt x x y (bH _) a (by omega) c (by omega) e;have hnd:(R.map FileR.path).Nodup:=by
  have e:(R.map FileR.path).Perm ((List.range' 2 (T.length-1)).map (dz (aH T))):=by
   have:=hk.map Prod.fst;rw[List.map_map,List.map_map]at this;exact this
  rw[e.nodup_iff];refine List.pairwise_map.2 (List.Pairwise.imp_of_mem (λ{x y} hx hy hne he=>?_) (List.nodup_range' (s:=2) (n:=T.length-1)));rw[List.mem_range'_1]at hx hy;exact hne (hinj x y (by omega) (by omega) (by omega) (by omega) he)
 refine⟨?_,λk n hkn h0=>?_,λj r hj k n hkn h0 he=>?_,?_,λr hr=>?_⟩
 ·have:=hk.length_eq
  simp at this
  omega
 ·have hlt:=(bZ hkn).1
  have:qZ T (k+1)∈R.map FileR.key:=hk.mem_iff.2 (List.mem_map.2 ⟨k+1,List.mem_range'_1.2 ⟨by omega,by omega⟩,rfl⟩);obtain⟨r,hr,he⟩:=List.mem_map.1 this;obtain⟨j,hj⟩:=List.mem_iff_getElem?.1 hr;exact⟨j,r,hj,by rw[←Wq];exact congrArg Prod.fst he⟩
 ·obtain⟨x,hx1,hx2,hx⟩:=hmem r (List.mem_iff_getElem?.2 ⟨j,hj⟩)
  have hlt:=(bZ hkn).1;have e1:r.path=dz (aH T) x:=congrArg Prod.fst hx;have e2:x=k+1:=hinj x (k+1) (by omega) hx2 (by omega) (by omega) (by rw[←e1,he,Wq]);subst e2;obtain⟨p,hp1,hp2,hp3,_⟩:=aaV hL hkn;have e3:r.dir=((T[k+1-1]?).map Pn.dir).getD false:=congrArg (λq=>q.2.1) hx;have e4:r.byt=((T[k+1-1]?).map Pn.byt).getD []:=congrArg (λq=>q.2.2) hx;rw[Nat.add_sub_cancel,hp1]at e3 e4;exact⟨e3.trans hp2,e4.trans hp3⟩
 ·have h2:R.Pairwise λx y=>x.path≠y.path:=List.pairwise_map.1 hnd
  refine(hs.and h2).imp λ{x y} hxy=>?_;rcases Std.lt_trichotomy x.path y.path with h3|h3|h3
  ·exact h3
  ·exact absurd h3 hxy.2
  ·exact absurd h3 hxy.1
 ·obtain⟨x,hx1,hx2,hx⟩:=hmem r hr
  have e1:r.path=dz (aH T) x:=congrArg Prod.fst hx;have hlt:x-1<(aH T).length:=by omega
  rw[e1,gP hd (by omega) (bP hlt)];simp
end
section
open Go.Proofs.Tryz Go.RowKit Go.Maps
theorem Dx(tb:Nat)(A:bB)(t:TN)(w:World)(hT:Blk w tb (t.cells A) 220) :
 Calls prog 49 #[tb] w λe w'=>e=.returned (.tuple #[.int .i64 t.bM,.int .i64 t.bytes])∧∃n,w'=w.drewN n:=by
 have c1:=hT.c 1 rfl;have c2:=hT.c 2 rfl;clear hT;go_enter func49,ntmps49;go_upto_region 1 with fail
 go_quiet (fail)
 go_wp2
 go_ret2
 exact⟨rfl,nq,rfl⟩
theorem Ao(ob:Nat)(n m:Int)(w:World)(h:Blk w ob [n,m] 222) :
 Calls prog 50 #[ob] w (Z.e (.int .i64 n) w):=by
 have c0:=h.c 0 rfl;clear h;go_enter func50,ntmps50;go_wp2
 go_ret
 exact⟨rfl,rfl⟩
theorem Mp.VJ{w:World}{b:Nat}{kv:List (Int×Value)}(h:Mp nD w b kv):∃es clock,w.heap[b]?=some (.map es clock)∧es.size=kv.length:=by
 obtain⟨es,clock,hb,_,he,_⟩:=h;have:=congrArg List.length he;simp only[fJ,Array.length_toList]at this
 exact⟨es,clock,hb,this⟩
theorem Dy{P:Program}{w:World}{ops:Array Oper}{o:Oper}{a:Act}{K:Act→World→Prop}{Q:Exit→Act→World→Prop}{E:Prop}(hgd:o.guard=none)(x:Operand)(t:TypeId){k e:TypeId}(ho:o.op=.call {callee:=.builtin .len,args:= #[x],argTypes:= #[t]})(ht:P.underlying t=some (.map k e))
 (b:Nat)(hx:a.eval x=.map (some b)){es:Array MapEntry}{clock:Nat}(hb:w.heap[b]?=some (.map es clock))(n:Nat)(hn:es.size=n)
 (h:K (a.put o.dst (.int .i64 (n:Int))) w):if Region.wanted o (yielded ops a.tmps)=true then Oper.wp P o a w K Q else E:=by
 have hw:Region.wanted o (yielded ops a.tmps)=true:=by simp[Region.wanted,hgd]
 rw[if_pos hw];have hrun:=run_len_map (P:=P) (ty:=o.type) ht hb;unfold Oper.wp;simp[execOp,ho,resolve,invoke,builtin,hx,hrun,Result.andThen]
 rw[hn];exact h
theorem Oz(kb:Nat)(a b c d e:Int)(pm tb ob cb:Nat)(fr now:Int)(sl:Value)(kv:List (Int×Value))(A:bB)(t:TN)(n m:Int)(w:World)(hk:Blk w kb (qX a b c d e pm tb ob cb fr now sl) 111)(hp:Mp nD w pm kv)(hT:Blk w tb (t.cells A) 220)(ho:Blk w ob [n,m] 222) :
 Calls prog 29 #[kb] w (Z.b (.agg #[.int .i64 (kv.length:Nat),fr,n,.int .i64 t.bM,.int .i64 t.bytes]) w):=by
 have HK:=xh hk;have HP:=xh hp;have HT:=xh hT;have HO:=xh ho;have c6:=hk.c 6 rfl;have hkl:=hk.lt;clear hk hp hT ho;go_enter func29,ntmps29;go_upto_region 2 with(go_at_call 49;((with_reducible refine au (Dx tb A t _ (HT.o.alloc _)) ?_);rintro e2 w1 ⟨rfl,nq,h1⟩;have k1:Bel w w1:=h1▸ah (Bel.start w _) nq;have B1:Blk w1 w.heap.size [(0:Int),(0:Int),(0:Int),(0:Int),(0:Int)] 23:=h1▸Blk.new w _ _;have bG:=xh k1;have HB1:=xh B1;clear h1 k1 B1))
 have d5:=(HK.o.bel bG.o).c 5 rfl;have d9:=(HK.o.bel bG.o).c 9 rfl;have d7:=(HK.o.bel bG.o).c 7 rfl;obtain⟨es,clock,hes,ES⟩:=(HP.o.bel bG.o).VJ;have HES:=xh (And.intro hes ES);obtain⟨g,hg⟩:=e_x w.heap.size;rw[hg]at HB1⊢;have HG:=xh hg;have r0:=HB1.o.c 0 rfl;have r1:=HB1.o.c 1 rfl;have r2:=HB1.o.c 2 rfl;have r3:=HB1.o.c 3 rfl;have r4:=HB1.o.c 4 rfl;have rf:=HB1.o.frozen;have rl:=HB1.o.lt;have hne:kb≠g:=by omega
 have hne2:g≠kb:=by omega
 clear hes ES hg c6;refine wp_region_noPanic ?_;refine wp_region_held_drew (S:=λw'=>w'.cell? ⟨kb,5,none⟩=some (.map (some pm))∧w'.cell? ⟨kb,9,none⟩=some (.int .i64 fr)∧w'.cell? ⟨kb,7,none⟩=some (.pointer (ob,0))) (by kernel_rfl) (by(try dsimp only);first|(go_keep;done)|assumption) (λhHeld=>?_);refine plan [0,1,2,3,5,6,7,8,9,10,11,12,14,15] ?_;repeat refine tk rfl (by kernel_rfl) rfl (by intro w hw;(try dsimp only at hw);go_simp;with_reducible rfl) (by assumption) (λ_ _ _ h=>h) (by(try simp only[Act.put,lits]);exact rfl) ?_
 refine aK ?_;refine rd 4 rfl (by kernel_rfl) (λK hK=>?_);refine Dy rfl (.tmp 16) 103 rfl underlying103 pm rfl (w:=w1.drew) HES.o.1 kv.length HES.o.2 ?_;refine hK.out _ _ (by(try dsimp only);first|assumption|(go_keep;done)) (λhH=>?_);clear hK K;(try simp only[Act.put,lits])
 refine rd 13 rfl (by kernel_rfl) (λK hK=>?_);go_simp;go_at_call 50;((with_reducible refine au (Ao ob n m _ (HO.o.bel (bG.o.tr (Bel.drew (Bel.refl _))))) ?_);rintro e3 w3 ⟨rfl,hh⟩;subst hh);refine hK.out _ _ (by(try dsimp only);first|assumption|(go_keep;done)) (λhH=>?_);clear hK K;(try simp only[Act.put,lits])
 refine plan [16] ?_;repeat refine tk rfl (by kernel_rfl) rfl (by intro w hw;(try dsimp only at hw);go_simp;with_reducible rfl) (by assumption) (λ_ _ _ h=>h) (by(try simp only[Act.put,lits]);exact rfl) ?_
 refine aK ?_;refine rd 17 rfl (by kernel_rfl) (λK hK=>?_);go_simp;refine hK.out _ _ ?aeh (λhH=>?_)
 case aeh=>
  have sH:∀(W:World) (i o:Nat) (v:Value),(W.setCell ⟨g,i,none⟩ v).cell? ⟨kb,o,none⟩=W.cell? ⟨kb,o,none⟩:=λW i o v=>World.cell?_setCell_far W ⟨g,i,none⟩ ⟨kb,o,none⟩ v hne2;have hdr:∀(W:World) (a:Addr),W.drew.cell? a=W.cell? a:=λ_ _=>rfl;refine⟨?_,?_,?_⟩
  ·rw[hdr,sH,sH,sH,sH,sH]
   exact(hdr w1 _).symm.trans hHeld.1
  ·rw[hdr,sH,sH,sH,sH,sH]
   exact(hdr w1 _).symm.trans hHeld.2.1
  ·rw[hdr,sH,sH,sH,sH,sH]
   exact(hdr w1 _).symm.trans hHeld.2.2
 clear hK K;(try simp only[Act.put,lits])
 refine wpAnyH_done (by kernel_rfl) ?_ _;refine NoPanic.normal ?_;go_wp2_with fail
 refine bodyPost_ret (v:=.agg #[.int .i64 (kv.length:Nat),fr,n,.int .i64 t.bM,.int .i64 t.bytes]) (by simp[results,results29,go_sem, *]) rfl ⟨rfl,?_⟩;have hgw:w.heap.size≤g:=by rw[HG.o];exact bH _
 exact((((((bG.o).store (p:=⟨g,0,none⟩) hgw _).store (p:=⟨g,1,none⟩) hgw _).store (p:=⟨g,2,none⟩) hgw _).store (p:=⟨g,3,none⟩) hgw _).store (p:=⟨g,4,none⟩) hgw _).drew
theorem qy{tk kb:Nat}{w:World}(h:Blk w tk [kb] 83):w.cell? (tk,0)=some (.pointer (kb,0)):=h.cell 0
theorem JS(tk kb:Nat)(Q:Value→World→Prop)(w:World)(h:Blk w tk [kb] 83)(hk:Calls prog 26 #[kb] w λe w'=>∃v,e=.returned v∧Q v w') :
 Calls prog 11 #[tk] w λe w'=>∃v,e=.returned v∧Q v w':=by
 have c0:=qy h;have HK:=xh hk;clear h hk;go_enter func11,ntmps11;go_wp2_with (go_at_call 26;((with_reducible refine au HK.o ?_);rintro e w1 ⟨v,rfl,h1⟩;have H1:=xh h1;clear h1))
 go_ret
 exact⟨v,rfl,H1.o⟩
theorem JV(kb tb:Nat)(Q:Value→World→Prop)(w:World)(hc:w.cell? (kb,6)=some (.pointer (tb,0)))(hk:Calls prog 52 #[tb] w λe w'=>∃v,e=.returned v∧Q v w') :
 Calls prog 31 #[kb] w λe w'=>∃v,e=.returned v∧Q v w':=by
 have HK:=xh hk;clear hk;go_enter func31,ntmps31;go_wp2_with (go_at_call 52;((with_reducible refine au HK.o ?_);rintro e w1 ⟨v,rfl,h1⟩;have H1:=xh h1;clear h1))
 go_ret
 exact⟨v,rfl,H1.o⟩
theorem JU(tk kb:Nat)(Q:Value→World→Prop)(w:World)(h:Blk w tk [kb] 83)(hk:Calls prog 31 #[kb] w λe w'=>∃v,e=.returned v∧Q v w') :
 Calls prog 19 #[tk] w λe w'=>∃v,e=.returned v∧Q v w':=by
 have c0:=qy h;have HK:=xh hk;clear h hk;go_enter func19,ntmps19;go_wp2_with (go_at_call 31;((with_reducible refine au HK.o ?_);rintro e w1 ⟨v,rfl,h1⟩;have H1:=xh h1;clear h1))
 go_ret
 exact⟨v,rfl,H1.o⟩
theorem Oy(tk kb:Nat)(x0 x1 x2 x3 x4:Int)(Q:World→Prop)(w:World)(h:Blk w tk [kb] 83)(hk:∀W,Bel w W→Calls prog 29 #[kb] W (Z.b (.agg #[x0,x1,x2,x3,x4]) W)) :
 Calls prog 16 #[tk] w (Z.b (.agg #[x0,x1,x2,x3,x4]) w):=by
 have c0:=qy h;have hl:=h.lt;have HK:=xh hk;clear h hk;go_enter func16,ntmps16;go_wp2_with (go_at_call 29;((with_reducible refine au (HK.o _ (Bel.start w _)) ?_);rintro e w1 ⟨rfl,k1⟩;have BB:=(Blk.new w [(0:Int),(0:Int),(0:Int),(0:Int),(0:Int)] 23).bel k1;have r0:=BB.c 0 rfl;have r1:=BB.c 1 rfl;have r2:=BB.c 2 rfl;have r3:=BB.c 3 rfl;have r4:=BB.c 4 rfl;have rf:=BB.frozen;have rl:=BB.lt;have H1:=xh ((Bel.start w _).tr k1);clear k1 BB))
 refine bodyPost_ret (v:=.agg #[x0,x1,x2,x3,x4]) (by simp[results,results16,go_sem, *]) rfl ⟨rfl,?_⟩;have hgw:w.heap.size≤w.heap.size:=bH _;exact(((((H1.o).store (p:=⟨w.heap.size,0,none⟩) hgw _).store (p:=⟨w.heap.size,1,none⟩) hgw _).store (p:=⟨w.heap.size,2,none⟩) hgw _).store (p:=⟨w.heap.size,3,none⟩) hgw _).store (p:=⟨w.heap.size,4,none⟩) hgw _
end
section
open Go.Proofs.Tryz Go.RowKit Go.Maps Go.Shelf
theorem yS{w:World}{base:Nat}{v:Value}{R:List FileR}(h:FRows w base v R):∃p cap,v=.slice p R.length cap∧∀j r,R[j]?=some r→∃g,p=some ⟨g,0,none⟩∧base≤g∧g<w.heap.size∧w.cell? (g,j*3)=some (strV r.path)∧w.cell? (g,j*3+1)=some (.bool r.dir)∧w.cell? (g,j*3+2)=some r.bv:=by
 obtain⟨p,cap,rfl,_,_,hp⟩:=aD h.row;refine⟨p,cap,rfl,λj r hj=>?_⟩;have hlt:=(bZ hj).1;obtain⟨g,rfl,h1,h2,h3,_⟩:=hp.resolve_left (by omega);have hc:∀i,i<3→w.cell? (g,j*3+i)=(r.cells)[i]?:=λi hi=>by
  rw[h3 _ (by rw[rowsLen];omega),iK FileR.cells 3 R (λx _=>rfl) j i hi,hj];rfl
 exact⟨g,rfl,h1,h2,hc 0 (by omega),hc 1 (by omega),hc 2 (by omega)⟩
def E9(R:List FileR)(j:Nat)(p:List UInt8):Bool:=(R.take j).any λr=>decide (r.path=p)
theorem Ns{R:List FileR}{j:Nat}{r:FileR}(h:R[j]?=some r)(p:List UInt8):E9 R (j+1) p=(E9 R j p||decide (r.path=p)):=by
 unfold E9;rw[List.take_add_one,h];simp
def Bb(R:List FileR):Nat→List UInt8
 | 0=>[]
 | m+1=>((R[m]?).map FileR.path).getD []
theorem QO{L:List Nd}{R:List FileR}(h:Fit L R){m:Nat}{r:FileR}(hr:R[m]?=some r):Bb R m<r.path:=by
 cases m with
 | zero=>
   have h1:=h.pos r (List.mem_iff_getElem?.2 ⟨0,hr⟩);cases hp:r.path with
   | nil=>exact absurd hp h1
   | cons x xs=>exact List.nil_lt_cons _ _
 | succ m=>
   obtain⟨hlt,he⟩:=bZ hr;have h2:=List.pairwise_iff_getElem.1 h.strict m (m+1) (by omega) hlt (by omega);show((R[m]?).map FileR.path).getD []<r.path
   rw[bP (by omega:m<R.length),←he];exact h2
theorem toList_mk(l:List UInt8):(⟨l.toArray⟩:ByteArray).toList=l:=by simp
def UH(base:Nat)(w:World)(r:FileR):Prop:=∀i,i<r.byt.length→∃g,r.p=some ⟨g,0,none⟩∧base≤g∧∃cs:List Value,Blk w g cs 5∧∀j,j<r.byt.length→∃x,cs[j]?=some (.int .u8 x)
structure pW(w w2:World)(lp:Option Addr)(R:List FileR)(W:World):Prop where
 bel:Bel w W
 row:∀g,lp=some ⟨g,0,none⟩→W.heap[g]?=w2.heap[g]?
 byt:∀r∈R,UH w.heap.size W r
theorem UH.set{base:Nat}{w:World}{r:FileR}(h:UH base w r)(q k:Nat)(y:Int):UH base (w.setCell (q,k) (.int .u8 y)) r:=λi hi=>by
 obtain⟨g,hp,hg,cs,hb,hx⟩:=h i hi;by_cases e:g=q
 ·subst e
  refine⟨g,hp,hg,_,hb.setCell _,λj hj=>?_⟩;obtain⟨x,h1⟩:=hx j hj;by_cases e2:k=j
  ·subst e2
   exact⟨y,List.getElem?_set_self (bZ h1).1⟩
  ·exact⟨x,by rw[List.getElem?_set_ne e2];exact h1⟩
 ·exact⟨g,hp,hg,cs,hb.aA e _,hx⟩
theorem pW.set{w w2 W:World}{lp:Option Addr}{R:List FileR}{cap:Nat}(h:pW w w2 lp R W)(hF:FRows w2 w.heap.size (.slice lp R.length cap) R){q:Nat}{cs:List Value}(hb:Blk W q cs 5)(hq:w.heap.size≤q)(k:Nat)(y:Int):pW w w2 lp R (W.setCell (q,k) (.int .u8 y)):=by
 refine⟨h.bel.store hq _,λg hg=>?_,λr hr=>(h.byt r hr).set q k y⟩;subst hg;obtain⟨_,cur,hb2⟩:=row_blk hF.row (g:=g) rfl;have hb3:Blk W g cur 71:=(h.row g rfl).trans hb2;have hne:g≠q:=hb3.ne hb (by decide);exact((Keep.setCell W q k (.int .u8 y)).block g hb3.lt hne).trans (h.row g rfl)
theorem pW.drew{w w2 W:World}{lp:Option Addr}{R:List FileR}(h:pW w w2 lp R W):pW w w2 lp R W.drew:=⟨h.bel.drew,h.row,h.byt⟩
theorem pW.first{w w2 W:World}{lp:Option Addr}{R:List FileR}{cap:Nat}(hF:FRows w2 w.heap.size (.slice lp R.length cap) R)(h2:Bel w w2)(h:Bel w2 W):pW w w2 lp R W:=by
 refine⟨h2.tr h,λg hg=>?_,λr hr i hi=>?_⟩
 ·subst hg
  obtain⟨_,cur,hb2⟩:=row_blk hF.row (g:=g) rfl;exact h.block g hb2.lt
 ·obtain⟨h3,h4⟩:=hF.byt r hr
  rcases h3.2 with⟨_,h5⟩|⟨g,cp,cur,h5,h6,_,_,h7⟩
  ·rw[h5]at hi;cases hi
  ·have hp:r.p=some ⟨g,0,none⟩:=by unfold FileR.bv at h5;injection h5
   refine⟨g,hp,h4 g (by rw[h5];rfl),cur,h6.bel h,λj hj=>⟨r.byt[j],?_⟩⟩;have h8:(cur.take r.byt.length)[j]?=some (.int .u8 r.byt[j]):=by rw[h7.2,dA,bP hj];rfl
   rwa [List.getElem?_take_of_lt hj]at h8
theorem Nt(wb tk rb g cap:Nat)(o1 o2 o3:Value)(L:List Nd)(w:World)(hW:Blk w wb [tk,rb,o1,o2,o3] 96)
 (hF:Calls prog 19 #[tk] w λe w'=>∃v,e=.returned v∧Bel w w'∧∃R,Fit L R∧FRows w' w.heap.size v R∧∀r∈R,r.byt.length≤1000000)
 (ht:lu w rb g cap L)(hl:L.length≤8000)(hl1:1≤L.length)(hd:Down L)(hc:Ci L)(hs:∀n∈L,n.name.size≤1000)(hb:∀n∈L,Rw w n.bv n.byt∧n.byt.length≤1000000)(us:List Int)(hu:us.length=5)
 (hk:∀W,Bel w W→Calls prog 16 #[tk] W (Z.b (.agg (us.map (Value.int .i64)).toArray) W))(hr:∀W,Bel w W→Calls prog 118 #[rb] W (Z.b (.agg (us.map (Value.int .i64)).toArray) W)) :
 Calls prog 70 #[wb] w (Z.b (.bool true) w):=by
 have c0:=hW.cell 0;have c1:=hW.cell 1;simp only[List.getElem?_cons_zero,List.getElem?_cons_succ]at c0 c1
 have c7:=ht.1;have c00:=c0;have c10:=c1
 have HUS:Hid (∃u0 u1 u2 u3 u4:Int,us=[u0,u1,u2,u3,u4]):=xh (match us,hu with
  | [u0,u1,u2,u3,u4],_=>⟨u0,u1,u2,u3,u4,rfl⟩)
 clear hu;have HF:=xh hF;have HT:=xh ht;have HD:=xh hd;have HC:=xh hc;have HS:=xh hs;have xK:=xh hb;have HUK:=xh hk;have HUR:=xh hr;clear hW hF ht hd hc hs hb hk hr;go_enter func70,ntmps70;go_upto_region 5 with(go_at_call 19;((with_reducible refine au HF.o ?_);rintro e2 w2 ⟨lv,rfl,k2,R,hfit,hrows,hsmall⟩;have HR:=xh (And.intro hfit hrows);have XP:=xh hsmall;have gq:=xh k2;clear hfit hrows hsmall k2))
 obtain⟨hfit,hrows⟩:=HR.o;obtain⟨lp,aaU,rfl,hlc⟩:=yS hrows;have HLC:=xh hlc;have vv:=xh hfit;have wL:=xh hrows;have c1:=aa gq.o c1;have c0:=aa gq.o c0;have c7:=aa gq.o c7;have hRl:R.length+1=L.length:=hfit.len;clear hfit hrows hlc HR
 go_loopw [4,6] (λn i wr=>∃k:Nat,k≤L.length∧i=.int .i64 k∧n=.int .i64 (k-1:Nat)∧Hid (Bel w2 wr)) (λ_ i _=>L.length-(intOf i).toNat)
 case atStart=>exact⟨0,Nat.zero_le _,rfl,rfl,xh (Bel.refl _)⟩
 case round=>
  obtain⟨k,hk,rfl,rfl,HB⟩:=hrel;have c1:=aa HB.out c1;have c0:=aa HB.out c0;have c7:=aa HB.out c7;by_cases hlt:k<L.length
  ·have hn:=bP hlt
   obtain⟨n,hnn⟩:=e_x (L[k]);rw[hnn]at hn;have fI:=HT.o.2.2 k n hn;have hcc:∀j u,(n.cells k)[j]?=some u→wr.cell? (g,k*5+j)=some u:=λj u hu=>aa HB.out (aa gq.o (fI j u hu));have n0:wr.cell? (g,k*5)=some (.int .i64 (k+1:Nat)):=hcc 0 _ rfl;have n1:wr.cell? (g,k*5+1)=some (.int .i64 n.par):=hcc 1 _ rfl;have n2:wr.cell? (g,k*5+2)=some (.string n.name):=hcc 2 _ rfl;have n3:wr.cell? (g,k*5+3)=some (.bool n.dir):=hcc 3 _ rfl;have n4:wr.cell? (g,k*5+4)=some n.bv:=hcc 4 _ rfl;have hmem:n∈L:=List.mem_iff_getElem?.2 ⟨k,hn⟩;obtain⟨qb,qc,hbv,_⟩:=(xK.o n hmem).1.slice;rw[hbv]at n4;clear fI hcc;go_upto_region 8 with fail
   have Zx:=Blk.new wr [.int .i64 ((k:Int)+1),.int .i64 n.par,.string n.name,.bool n.dir,.slice qb n.byt.length qc] 252;have kx0:Bel wr (wr.alloc (.cells #[.int .i64 ((k:Int)+1),.int .i64 n.par,.string n.name,.bool n.dir,.slice qb n.byt.length qc] 252)):=Bel.start _ _;change Blk (wr.alloc (.cells #[.int .i64 ((k:Int)+1),.int .i64 n.par,.string n.name,.bool n.dir,.slice qb n.byt.length qc] 252)) wr.heap.size _ _ at Zx
   have c1:=aa kx0 c1;have c0:=aa kx0 c0;have c7:=aa kx0 c7;have iY:Hid (Bel w2 (wr.alloc (.cells #[.int .i64 ((k:Int)+1),.int .i64 n.par,.string n.name,.bool n.dir,.slice qb n.byt.length qc] 252))):=xh (HB.out.tr kx0);clear kx0 n0 n1 n2 n3 n4;generalize wr.alloc (.cells #[.int .i64 ((k:Int)+1),.int .i64 n.par,.string n.name,.bool n.dir,.slice qb n.byt.length qc] 252)=w4 at *
   generalize wr.heap.size=xb at *
   have x0:=Zx.c 0 rfl;have x1:=Zx.c 1 rfl;have x3:=Zx.c 3 rfl;have x4:=Zx.c 4 rfl;clear Zx;by_cases hk0:k=0
   ·subst hk0
    have hpar:n.par=0:=by have:=HD.o 0 n hn;omega
    rw[hpar]at x1;go_wp2_with fail
    go_roundw
    case rel=>exact⟨0+1,by omega,by go_num,rfl,iY⟩
    case measure=>simp[intOf]<;>omega
   ·have hpar:n.par≠0:=HC.o k n hn hk0
    have V9:¬((n.par:Int)=0):=by omega
    have HPD:Hid (∀q,Calls prog 117 #[rb,.int .i64 ((k:Int)+1)] (w4.drewN q) λe w'=>e=.returned (strV (dz L (k+1)))∧w'=w4.drewN q):=xh λq=>(Nu rb g cap L (w4.drewN q) ((HT.o.bel gq.o).bel (ah iY.o q)) (k+1) (by omega) hl HD.o HS.o).mono λe w' h=>⟨h.1,h.2.symm⟩;go_upto_region 10 with fail
    go_quiet ((go_at_call 117;exact Calls.quiet_of_same (HPD.o _)))
    have k5:Bel w4 (w4.drewN nq):=ah (Bel.refl _) nq;have c1:=aa k5 c1;have c0:=aa k5 c0;have c7:=aa k5 c7;have x3:=aa k5 x3;have x4:=aa k5 x4;have nH:Hid (Bel w2 (w4.drewN nq)):=xh (iY.o.tr k5);clear k5 x0 x1;generalize w4.drewN nq=w5 at *
    obtain⟨p,hp⟩:∃p,p=dz L (k+1):=⟨_,rfl⟩;rw[←hp];rw[show strV p=.string ⟨p.toArray⟩from rfl];obtain⟨sp,hsp⟩:∃sp:ByteArray,sp=⟨p.toArray⟩:=⟨_,rfl⟩;rw[←hsp];have HP:=xh hp;have CG:=xh hsp;clear hp hsp;go_wp2_with fail
    go_loopw [9,10] (λth j ws=>∃m:Nat,m≤R.length∧j=.int .i64 m∧th=.bool (E9 R m p)∧Hid (Bel w5 ws)) (λ_ j _=>R.length-(intOf j).toNat)
    case atStart=>exact⟨0,Nat.zero_le _,rfl,rfl,xh (Bel.refl _)⟩
    case round=>
     obtain⟨m,hm,rfl,rfl,XQ⟩:=hrel;have x3:=aa XQ.out x3;have x4:=aa XQ.out x4;by_cases hmt:m<R.length
     ·have hr:=bP hmt
      obtain⟨r,hrr⟩:=e_x (R[m]);rw[hrr]at hr;obtain⟨gr,rfl,acQ,XT,r0,r1,r2⟩:=HLC.o m r hr;have kk:Bel w2 _:=nH.o.tr XQ.out;have r0:=aa kk r0;have r1:=aa kk r1;have r2:=aa kk r2;rw[show strV r.path=.string ⟨r.path.toArray⟩from rfl]at r0;obtain⟨sr,uK⟩:∃sr:ByteArray,sr=⟨r.path.toArray⟩:=⟨_,rfl⟩;rw[←uK]at r0;have HSU:Hid (E9 R (m+1) p=(E9 R m p||decide (r.path=p))):=xh (Ns hr p);by_cases he:r.path=p
      ·have e2:sr=sp:=by rw[uK,CG.o,he]
       subst e2;obtain⟨e3,e4⟩:=vv.o.fit m r hr k n hn hk0 (he.trans HP.o);rw[e3]at r1;rw[show r.bv=.slice r.p n.byt.length r.cap from by unfold FileR.bv;rw[e4]]at r2;obtain⟨qb2,qc2,aeX,_⟩:=(xK.o n hmem).1.slice;have hsm:∀W,Bel w5 W→∀q,Calls prog 68 #[.slice r.p n.byt.length r.cap,.slice qb n.byt.length qc] (W.drewN q) λe w'=>e=.returned (.bool true)∧∃m,w'=(W.drewN q).drewN m:=λW hW q=>fB r.p qb r.cap qc n.byt (W.drewN q) ((((wL.o.byt r (List.mem_iff_getElem?.2 ⟨m,hr⟩)).1.bs (by unfold FileR.bv;rw[e4])).bel (nH.o.tr hW)).bel (ah (Bel.refl W) q) |> λh=>e4▸h) (((xK.o n hmem).1.bs hbv).bel (gq.o.tr (nH.o.tr (ah hW q)))) (xK.o n hmem).2;have qV:=xh (hsm _ XQ.out);clear hsm;go_upto_region 16 with fail
       go_quiet ((go_at_call 68;exact Calls.quiet_of (qV.o _)))
       have k6:Bel wr (wr.drewN nq):=ah (Bel.refl _) nq;have x3:=aa k6 x3;have r1:=aa k6 r1;have yx:Hid (Bel w5 (wr.drewN nq)):=xh (XQ.out.tr k6);clear k6 r0 r2 x4;go_upto_region 17 with fail
       generalize wr.drewN nq=w6 at *
       go_quiet (fail)
       have uW:Hid (Bel w5 (w6.drewN nq)):=xh (yx.o.tr (ah (Bel.refl _) _));go_wp2_with fail
       go_roundw
       case rel=>exact⟨m+1,by omega,by go_num,by rw[HSU.o,decide_eq_true he,Bool.or_true],uW⟩
       case measure=>simp[intOf]<;>omega
      ·have e2:¬sr=sp:=λe=>he (by
        have:r.path.toArray=p.toArray:=by rw[uK,CG.o]at e;exact congrArg ByteArray.data e
        simpa using this)
       have DL:=xh uK;have hb1:(sr.toList==sp.toList)=false:=by
        rw[beq_eq_false_iff_ne];intro e;apply he
        rw[uK,CG.o]at e
        simpa using e
       clear uK;go_wp2_with fail
       go_roundw
       case rel=>exact⟨m+1,by omega,by go_num,by rw[HSU.o,decide_eq_false he,Bool.or_false],XQ⟩
       case measure=>simp[intOf]<;>omega
     ·obtain rfl:m=R.length:=by omega
      have hall:E9 R R.length p=true:=by
       obtain⟨j,r,hj,hjp⟩:=vv.o.has k n hn hk0;unfold E9;rw[List.take_length,List.any_eq_true];exact⟨r,List.mem_iff_getElem?.2 ⟨j,hj⟩,decide_eq_true (hjp.trans HP.o.symm)⟩
      rw[hall];have HBk:Hid (Bel w2 wr):=xh (nH.o.tr XQ.out);go_wp2_with fail
      go_roundw
      case rel=>exact⟨k+1,by omega,by go_num,by go_num,HBk⟩
      case measure=>simp[intOf]<;>omega
  ·obtain rfl:k=L.length:=by omega
   have hn1:L.length-1=R.length:=by omega
   rw[hn1];have HX0:=xh (pW.first wL.o gq.o HB.out);go_wp2_with fail
   go_loopw [5,12] (λla j ws=>∃m:Nat,m≤R.length∧j=.int .i64 m∧la=strV (Bb R m)∧Hid (pW w w2 lp R ws)) (λ_ j _=>R.length-(intOf j).toNat)
   case atStart=>exact⟨0,Nat.zero_le _,rfl,rfl,HX0⟩
   case round=>
    obtain⟨m,hm,rfl,rfl,HX⟩:=hrel;by_cases hmt:m<R.length
    ·have hr:=bP hmt
     obtain⟨r,hrr⟩:=e_x (R[m]);rw[hrr]at hr;have hmr:r∈R:=List.mem_iff_getElem?.2 ⟨m,hr⟩;obtain⟨gr,rfl,acQ,XT,r0,r1,r2⟩:=HLC.o m r hr;have hbk:=HX.out.row gr rfl;have r0:=(World.cell?_of_block (a:=⟨gr,m*3,none⟩) hbk).trans r0;have r2:=(World.cell?_of_block (a:=⟨gr,m*3+2,none⟩) hbk).trans r2;rw[show strV r.path=.string ⟨r.path.toArray⟩from rfl]at r0;obtain⟨sr,uK⟩:∃sr:ByteArray,sr=⟨r.path.toArray⟩:=⟨_,rfl⟩;rw[←uK]at r0;rw[show strV (Bb R m)=.string ⟨(Bb R m).toArray⟩from rfl];obtain⟨sl,hsl⟩:∃sl:ByteArray,sl=⟨(Bb R m).toArray⟩:=⟨_,rfl⟩;rw[←hsl];have DL:=xh uK;have aeY:=xh hsl;have hlt2:=QO vv.o hr;have hb1:Op.bytesLess sr.toList sl.toList=false:=by
      rw[uK,hsl,toList_mk,toList_mk,bytesLess_eq];exact decide_eq_false λh=>List.lt_irrefl _ (List.lt_trans h hlt2)
     have hb2:(sr.toList==sl.toList)=false:=by
      rw[uK,hsl,toList_mk,toList_mk,beq_eq_false_iff_ne];intro e;rw[e]at hlt2;exact absurd hlt2 (List.lt_irrefl _)
     clear uK hsl hlt2;have hbv:r.bv=.slice r.p r.byt.length r.cap:=rfl;rw[hbv]at r2;have hgf:=HX.out.bel.le;have aeZ:=XP.o r hmr;clear hbk r1 hbv;go_wp2_with fail
     go_loopw [13] (λi ws=>∃q:Nat,q≤r.byt.length∧i=.int .i64 q∧Hid (pW w w2 (some ⟨gr,0,none⟩) R ws)) (λi _=>r.byt.length-(intOf i).toNat)
     case atStart=>exact⟨0,Nat.zero_le _,rfl,HX⟩
     case round=>
      obtain⟨q,hq,rfl,HXq⟩:=hrel;obtain⟨_,_,e9,hz9⟩:=yS wL.o;obtain⟨g9,e10,_,_,_,_,z2⟩:=hz9 m r hr;cases e9
      cases e10
      have r2:=(World.cell?_of_block (a:=⟨gr,m*3+2,none⟩) (HXq.out.row gr rfl)).trans z2;rw[show r.bv=.slice r.p r.byt.length r.cap from rfl]at r2;clear z2 hz9;by_cases Wl:q<r.byt.length
      ·obtain⟨gb,hp,hgb,cs,hb,hx⟩:=HXq.out.byt r hmr q Wl
       obtain⟨x,hx1⟩:=hx q Wl;rw[←hb.cell]at hx1;have fz:=hb.frozen q;rw[hp]at r2;have HXB:=xh (And.intro hb hgb);have hne:gb≠gr:=by
        obtain⟨_,cur,hb2⟩:=row_blk wL.o.row (g:=gr) rfl;have hb3:Blk wr gr cur 71:=(HXq.out.row gr rfl).trans hb2;exact(hb3.ne hb (by decide)).symm
       clear hb hx;go_upto_region 31 with fail
       go_still_tail 16,(by kernel_rfl)
       change wpList _ _ _ _ _ wr.drew
       go_wp2_with fail
       go_roundw
       case rel=>exact⟨q+1,by omega,by go_num,xh (HXq.out.drew.set wL.o HXB.o.1.drew HXB.o.2 q _)⟩
       case measure=>simp[intOf]<;>omega
      ·obtain rfl:q=r.byt.length:=by omega
       go_wp2_with fail
       go_roundw
       case rel=>exact⟨m+1,by omega,by go_num,by rw[show Bb R (m+1)=r.path from by show((R[m]?).map FileR.path).getD []=r.path;rw[hr];rfl,DL.o];rfl,HXq⟩
       case measure=>simp[intOf]<;>omega
    ·obtain rfl:m=R.length:=by omega
     have fG:Hid (Bel w wr):=xh HX.out.bel;have c0:=aa fG.o c00;have c1:=aa fG.o c10;obtain⟨u0,u1,u2,u3,u4,hus⟩:=HUS.o;have HU1:Hid (Calls prog 16 #[tk] wr λe w'=>e=.returned (.agg #[.int .i64 u0,.int .i64 u1,.int .i64 u2,.int .i64 u3,.int .i64 u4])∧Bel wr w'):=xh (by have:=HUK.o wr fG.o;rw[hus]at this;exact this);have HU2:Hid (∀W,Bel w W→Calls prog 118 #[rb] W (Z.b (.agg #[.int .i64 u0,.int .i64 u1,.int .i64 u2,.int .i64 u3,.int .i64 u4]) W)):=xh (λW hW=>by have:=HUR.o W hW;rw[hus]at this;exact this);go_upto_region 33 with(go_at_call 16;((with_reducible refine au HU1.o ?_);rintro e3 w3 ⟨rfl,k3⟩;have jm:Hid (Bel wr w3):=xh k3;clear k3))
     have B4:=Blk.new w3 [.int .i64 u0,.int .i64 u1,.int .i64 u2,.int .i64 u3,.int .i64 u4] 23;have k4:Bel wr (w3.alloc (.cells #[.int .i64 u0,.int .i64 u1,.int .i64 u2,.int .i64 u3,.int .i64 u4] 23)):=jm.o.ac _;change Blk (w3.alloc (.cells #[.int .i64 u0,.int .i64 u1,.int .i64 u2,.int .i64 u3,.int .i64 u4] 23)) w3.heap.size _ _ at B4
     generalize w3.alloc (.cells #[.int .i64 u0,.int .i64 u1,.int .i64 u2,.int .i64 u3,.int .i64 u4] 23)=w4 at *
     generalize w3.heap.size=b4 at *
     have c1:=aa k4 c1;have iY:=xh B4;have oM:Hid (Bel w w4):=xh (fG.o.tr k4);clear B4 k4;go_upto_region 34 with(go_at_call 118;((with_reducible refine au (HU2.o _ oM.o) ?_);rintro e5 w5 ⟨rfl,k5⟩;have ow:Hid (Bel w4 w5):=xh k5;clear k5))
     have B6:=Blk.new w5 [.int .i64 u0,.int .i64 u1,.int .i64 u2,.int .i64 u3,.int .i64 u4] 159;have k6:Bel w4 (w5.alloc (.cells #[.int .i64 u0,.int .i64 u1,.int .i64 u2,.int .i64 u3,.int .i64 u4] 159)):=ow.o.ac _;change Blk (w5.alloc (.cells #[.int .i64 u0,.int .i64 u1,.int .i64 u2,.int .i64 u3,.int .i64 u4] 159)) w5.heap.size _ _ at B6
     generalize w5.alloc (.cells #[.int .i64 u0,.int .i64 u1,.int .i64 u2,.int .i64 u3,.int .i64 u4] 159)=w6 at *
     generalize w5.heap.size=b6 at *
     have B4:=iY.o.bel k6;have p0:=B4.c 0 rfl;have p1:=B4.c 1 rfl;have p2:=B4.c 2 rfl;have p3:=B4.c 3 rfl;have p4:=B4.c 4 rfl;have q0:=B6.c 0 rfl;have q1:=B6.c 1 rfl;have q2:=B6.c 2 rfl;have q3:=B6.c 3 rfl;have q4:=B6.c 4 rfl;have HF6:Hid (Bel w w6):=xh (oM.o.tr k6);clear B4 B6 k6;go_wp2_with fail
     go_ret
     exact⟨rfl,HF6.o⟩
end
end Go.Proofs.YtcnjjchlebmfiaaGreatDoor
