/- Boot's trees: what the law's files need of them. Plain. -/
import Derived.Test.YtjdaddmjpicflaaGreatDoorP19
import Derived.Test.YtjdaddmjpicflaaGreatDoorP21
import Derived.StillTailTactics
import Derived.Test.YtjdaddmjpicflaaGreatDoorP07
import Derived.Test.YtjdaddmjpicflaaGreatDoorP04
import Derived.Test.YtjdaddmjpicflaaGreatDoorP29
set_option linter.unusedVariables false
set_option linter.unusedSimpArgs false
set_option maxRecDepth 100000
set_option maxHeartbeats 16000000
namespace Go.Proofs.YtjdaddmjpicflaaGreatDoor
open Go.RowKit Go.Maps
structure FInv (N:List Nd):Prop where
 root:isDir N 1=true
 conn:Conn N
 size:∀n∈N,n.name.size≤1000
theorem FInv.new {N:List Nd} (h:FInv N) (d:Nat) (nm:ByteArray) (b:Bool) (hd:d≠0) (hn:nameOk nm.data.toList=true):FInv (N++[⟨d,nm,b,[],emptyB⟩]):=by
 refine⟨isDir_app h.root,λi n hi h0=>?_,λn hn2=>?_⟩
 ·rcases Nat.lt_or_ge i N.length with hl|hl
  ·rw[List.getElem?_append_left hl]at hi
   exact h.conn i n hi h0
  ·rw[List.getElem?_append_right hl]at hi
   have:i-N.length=0:=by have:=(List.getElem?_eq_some_iff.1 hi).1;simp at this;omega
   rw[this]at hi
   cases hi
   exact hd
 ·rcases List.mem_append.1 hn2 with h1|h1
  ·exact h.size n h1
  ·rw[List.mem_singleton.1 h1]
   show nm.size≤1000
   unfold nameOk at hn
   simp only[Bool.and_eq_true,decide_eq_true_eq]at hn
   have h2:nm.data.toList.length=nm.size:=by simp
   omega
theorem FInv.put {mb:Nat} {N:List Nd} (h:FInv N) (n:Nat) (b:List Int):FInv (putB mb N n b).2∧(putB mb N n b).2.length=N.length:=by
 unfold putB
 cases hx:N[n-1]? with
 | none=>exact⟨h,rfl⟩
 | some x=>
   simp only
   by_cases hd:x.dir=true
   ·rw[if_pos hd];exact⟨h,rfl⟩
   ·rw[if_neg hd]
    by_cases hc:0<b.length∧mb<sumB N+(b.length-x.byt.length)
    ·rw[if_pos hc];exact⟨h,rfl⟩
    ·rw[if_neg hc]
     have hat:∀(j:Nat) (m:Nd),(N.set (n-1) {x with byt:=b++x.byt.drop b.length})[j]?=some m→∃m0:Nd,N[j]?=some m0∧m.par=m0.par∧m.name=m0.name∧m.dir=m0.dir:=λj m hj=>by
      by_cases e:n-1=j
      ·subst e
       rw[List.getElem?_set_self (List.getElem?_eq_some_iff.1 hx).1]at hj
       cases hj
       exact⟨x,hx,rfl,rfl,rfl⟩
      ·rw[List.getElem?_set_ne e]at hj
       exact⟨m,hj,rfl,rfl,rfl⟩
     refine⟨⟨?_,λj m hj h0=>?_,λm hm=>?_⟩,by simp⟩
     ·have h1:=h.root
      unfold isDir at h1⊢
      cases hy:(N.set (n-1) {x with byt:=b++x.byt.drop b.length})[1-1]? with
      | none=>
        have h3:=List.getElem?_eq_none_iff.1 hy
        rw[List.length_set]at h3
        rw[List.getElem?_eq_none_iff.2 h3]at h1
        cases h1
      | some m=>
        obtain⟨m0,h2,_,_,h3⟩:=hat _ m hy
        rw[h2]at h1
        show m.dir=true
        rw[h3];exact h1
     ·obtain⟨m0,h2,h3,_⟩:=hat j m hj
      rw[h3];exact h.conn j m0 h2 h0
     ·obtain⟨j,hj⟩:=List.mem_iff_getElem?.1 hm
      obtain⟨m0,h2,_,h3,_⟩:=hat j m hj
      rw[h3];exact h.size m0 (List.mem_iff_getElem?.2 ⟨j,h2⟩)
theorem FInv.file {mi mb:Nat} {N:List Nd} (h:FInv N) (path:List UInt8) (is:Bool) (b:List Int):FInv (fileF mi mb N path is b).2∧(fileF mi mb N path is b).2.length≤N.length+1:=by
 unfold fileF
 by_cases hi:is=true
 ·rw[if_pos hi]
  unfold mkF
  by_cases h1:(docWalk N path).2.2.2≠0
  ·rw[if_pos h1];exact⟨h,Nat.le_succ _⟩
  ·rw[if_neg h1]
   by_cases h2:(docWalk N path).2.2.1≠0
   ·rw[if_pos h2];exact⟨h,Nat.le_succ _⟩
   ·rw[if_neg h2]
    by_cases h3:mi≤N.length
    ·rw[if_pos h3];exact⟨h,Nat.le_succ _⟩
    ·rw[if_neg h3]
     obtain⟨n1,_,_,n4,_⟩:=docWalk_new h.root (by omega) (by omega:(docWalk N path).2.2.1=0)
     exact⟨h.new _ _ _ n1 n4,Nat.le_of_eq (by simp)⟩
 ·rw[if_neg hi]
  by_cases h1:(docWalk N path).2.2.2≠0
  ·rw[if_pos h1];exact⟨h,Nat.le_succ _⟩
  ·rw[if_neg h1]
   by_cases h2:(docWalk N path).2.2.1=0
   ·rw[if_pos h2]
    by_cases h3:mi≤N.length
    ·rw[if_pos h3];exact⟨h,Nat.le_succ _⟩
    ·rw[if_neg h3]
     obtain⟨n1,_,_,n4,_⟩:=docWalk_new h.root (by omega) h2
     obtain⟨p1,p2⟩:=(h.new _ _ false n1 n4).put (mb:=mb) (N.length+1) b
     exact⟨p1,by rw[p2];simp⟩
   ·rw[if_neg h2]
    obtain⟨p1,p2⟩:=h.put (mb:=mb) (docWalk N path).2.2.1 b
    exact⟨p1,by rw[p2];omega⟩
theorem FInv.files {mi mb:Nat}:∀{N:List Nd} (_:FInv N) (F:List FileA),FInv (filesF mi mb N F).2∧(filesF mi mb N F).2.length≤N.length+F.length
 | N,h,[]=>⟨h,Nat.le_refl _⟩
 | N,h,f::fs=>by
   unfold filesF
   by_cases h1:(fileF mi mb N f.path.data.toList f.dir f.byt).1≠0
   ·rw[if_pos h1];exact⟨h,Nat.le_add_right _ _⟩
   ·rw[if_neg h1]
    obtain⟨p1,p2⟩:=h.file (mi:=mi) (mb:=mb) f.path.data.toList f.dir f.byt
    obtain⟨q1,q2⟩:=FInv.files p1 fs
    exact⟨q1,by simp;omega⟩
theorem FInv.first:FInv [rootNd]:=⟨rfl,λi n hi h0=>by
 have:=(List.getElem?_eq_some_iff.1 hi).1
 simp at this;omega,λn hn=>by rw[List.mem_singleton.1 hn];decide⟩
theorem alive {w:World} {A:Adr} {T:List Pn} (h:PTree w A T) (hc:Conn (nds T)) (i:Nat) (n:Pn) (hi:T[i]?=some n):n.gone=false:=by
 by_cases h0:i=0
 ·subst h0
  obtain⟨r,hr,_,_,hg⟩:=h.root
  rw[hr]at hi;cases hi;exact hg
 ·have:=hc i n.nd (nds_at hi) h0
  cases hg:n.gone with
  | false=>rfl
  | true=>exact absurd (show n.nd.par=0 by unfold Pn.nd;rw[hg];rfl) this
theorem live_of {w:World} {A:Adr} {T:List Pn} (h:PTree w A T) (hc:Conn (nds T)):Live T:=λi n hi _ hp=>by
 obtain⟨p,hp1,_⟩:=h.pdir i n hi hp
 exact⟨p,hp1,alive h hc _ p hp1⟩
theorem kidsF_mem (A:Adr) (d:Nat):∀(i:Nat) (T:List Pn) (j:Nat) (n:Pn),T[j]?=some n→n.nd.par=d→∃k:Nat,(kidsF A d i T)[k]?=some (n.name,A.ptr (i+j+1)):=λi T=>by
 induction T generalizing i with
 | nil=>intro j n hj;cases hj
 | cons x T ih=>
   intro j n hj hp
   unfold kidsF
   cases j with
   | zero=>
     cases hj
     rw[if_pos hp]
     exact⟨0,rfl⟩
   | succ j=>
     obtain⟨k,hk⟩:=ih (i+1) j n hj hp
     rw[show i+(j+1)+1=i+1+j+1 from by omega]
     split
     ·exact⟨k+1,hk⟩
     ·exact⟨k,hk⟩
theorem kidsF_two (A:Adr) (d:Nat):∀(i:Nat) (T:List Pn) (j j':Nat) (n n':Pn),T[j]?=some n→T[j']?=some n'→n.nd.par=d→n'.nd.par=d→n.name=n'.name→((kidsF A d i T).map Prod.fst).Nodup→j=j':=λi T=>by
 induction T generalizing i with
 | nil=>intro j j' n n' hj;cases hj
 | cons x T ih=>
   intro j j' n n' hj hj' hp hp' hnm hnd
   unfold kidsF at hnd
   cases j with
   | zero=>
     cases j' with
     | zero=>rfl
     | succ j'=>
       cases hj
       rw[if_pos hp]at hnd
       obtain⟨k,hk⟩:=kidsF_mem A d (i+1) T j' n' hj' hp'
       rw[List.map_cons,List.nodup_cons]at hnd
       exact absurd (List.mem_map.2 ⟨_,List.mem_iff_getElem?.2 ⟨k,hk⟩,hnm.symm⟩) hnd.1
   | succ j=>
     cases j' with
     | zero=>
       cases hj'
       rw[if_pos hp']at hnd
       obtain⟨k,hk⟩:=kidsF_mem A d (i+1) T j n hj hp
       rw[List.map_cons,List.nodup_cons]at hnd
       exact absurd (List.mem_map.2 ⟨_,List.mem_iff_getElem?.2 ⟨k,hk⟩,hnm⟩) hnd.1
     | succ j'=>
       have hnd2:((kidsF A d (i+1) T).map Prod.fst).Nodup:=by
        split at hnd
        ·rw[List.map_cons,List.nodup_cons]at hnd;exact hnd.2
        ·exact hnd
       rw[ih (i+1) j j' n n' hj hj' hp hp' hnm hnd2]
theorem parted_of {w:World} {A:Adr} {T:List Pn} (h:PTree w A T) (hc:Conn (nds T)):Parted (nds T):=by
 have at_:∀(i:Nat) (n:Nd),(nds T)[i]?=some n→∃p,T[i]?=some p∧n=p.nd:=λi n hi=>by
  unfold nds at hi
  rw[List.getElem?_map]at hi
  cases ht:T[i]? with
  | none=>rw[ht]at hi;cases hi
  | some p=>rw[ht]at hi;cases hi;exact⟨p,rfl,rfl⟩
 refine⟨λi j m n hi hj hm he hnm=>?_,λi n hi hn=>?_⟩
 ·obtain⟨p,hp,rfl⟩:=at_ i m hi
  obtain⟨q,hq,rfl⟩:=at_ j n hj
  have hpg:=alive h hc i p hp
  have hpp:p.nd.par=p.par:=by unfold Pn.nd;rw[hpg];rfl
  obtain⟨d,hd,hdd⟩:=h.pdir i p hp (hpp▸hm)
  have hk:=(h.kids _ d hd hdd).nodup
  have h1:1≤p.par:=Nat.pos_of_ne_zero (hpp▸hm)
  rw[show p.par-1+1=p.par from by omega]at hk
  exact kidsF_two A p.par 0 T i j p q hp hq hpp (he▸hpp) hnm hk
 ·obtain⟨p,hp,rfl⟩:=at_ i n hi
  have h0:i≠0:=λe=>by
   subst e
   obtain⟨r,hr,hr2,_⟩:=h.root
   rw[hr]at hp;cases hp
   exact hn (by unfold Pn.nd;rw[hr2];simp)
  exact(h.name i p hp (alive h hc i p hp) h0).2
theorem pathF_sk (L:List Nd):∀(f id:Nat),pathF (sks L) f id=pathF L f id
 | 0,_=>rfl
 | f+1,id=>by
   unfold pathF
   by_cases h1:id≤1
   ·rw[if_pos h1,if_pos h1]
   ·rw[if_neg h1,if_neg h1]
    unfold sks
    rw[List.getElem?_map]
    cases L[id-1]? with
    | none=>rfl
    | some n=>
      simp only[Option.map_some]
      have:=pathF_sk L f n.par
      unfold sks at this
      rw[show n.sk.par=n.par from rfl,this]
      rfl
theorem pathL_sk (L:List Nd) (id:Nat):pathL (sks L) id=pathL L id:=pathF_sk L id id
structure Fit (L:List Nd) (R:List FileR):Prop where
 len:R.length+1=L.length
 has:∀(k:Nat) (n:Nd),L[k]?=some n→k≠0→∃(j:Nat) (r:FileR),R[j]?=some r∧r.path=pathL L (k+1)
 fit:∀(j:Nat) (r:FileR),R[j]?=some r→∀(k:Nat) (n:Nd),L[k]?=some n→k≠0→r.path=pathL L (k+1)→r.dir=n.dir∧r.byt=n.byt
 strict:R.Pairwise λx y=>x.path<y.path
 pos:∀r∈R,r.path≠[]
theorem sk_at {T:List Pn} {L:List Nd} (h:sks L=nds T) {k:Nat} {n:Nd} (hk:L[k]?=some n):∃p,T[k]?=some p∧p.nd.dir=n.dir∧p.nd.byt=n.byt∧p.nd.par=n.par:=by
 have h1:(sks L)[k]?=some n.sk:=by unfold sks;rw[List.getElem?_map,hk];rfl
 rw[h]at h1
 unfold nds at h1
 rw[List.getElem?_map]at h1
 cases ht:T[k]? with
 | none=>rw[ht]at h1;cases h1
 | some p=>
   rw[ht]at h1
   have h2:p.nd=n.sk:=by simpa using h1
   exact⟨p,rfl,by rw[h2];rfl,by rw[h2];rfl,by rw[h2];rfl⟩
theorem fit_of {w:World} {A:Adr} {T:List Pn} {L:List Nd} {R:List FileR} (h:PTree w A T) (hc:Conn (nds T)) (hL:sks L=nds T) (hp:(R.map FileR.key).Perm ((descF (nds T) T.length 1).map (nodeK T))) (hs:ByPath R):Fit L R:=by
 have hd:=h.down
 have hpt:=parted_of h hc
 have hlen:(nds T).length=T.length:=by unfold nds;simp
 have hLl:L.length=T.length:=by rw[←hlen,←hL];unfold sks;simp
 have hpath:∀x,pathL (nds T) x=pathL L x:=λx=>by rw[←hL];exact pathL_sk L x
 have hde:(descF (nds T) T.length 1).Perm (List.range' 2 (T.length-1)):=by have:=desc_perm (nds T) hd hc;rwa [hlen]at this
 have h1:1≤T.length:=by obtain⟨r,hr,_⟩:=h.root;exact(List.getElem?_eq_some_iff.1 hr).1
 have hk:(R.map FileR.key).Perm ((List.range' 2 (T.length-1)).map (nodeK T)):=hp.trans (hde.map _)
 have hmem:∀r∈R,∃x,2≤x∧x≤T.length∧r.key=nodeK T x:=λr hr=>by
  have:=hk.mem_iff.1 (List.mem_map.2 ⟨r,hr,rfl⟩)
  obtain⟨x,hx,he⟩:=List.mem_map.1 this
  rw[List.mem_range'_1]at hx
  exact⟨x,hx.1,by omega,he.symm⟩
 have hinj:∀x y,1≤x→x≤T.length→1≤y→y≤T.length→pathL (nds T) x=pathL (nds T) y→x=y:=λx y a b c d e=>path_inj hd hc hpt x x y (Nat.le_refl _) a (by omega) c (by omega) e
 have hnd:(R.map FileR.path).Nodup:=by
  have e:(R.map FileR.path).Perm ((List.range' 2 (T.length-1)).map (pathL (nds T))):=by
   have:=hk.map Prod.fst
   rw[List.map_map,List.map_map]at this
   exact this
  rw[e.nodup_iff]
  refine List.pairwise_map.2 (List.Pairwise.imp_of_mem (λ{x y} hx hy hne he=>?_) (List.nodup_range' (s:=2) (n:=T.length-1)))
  rw[List.mem_range'_1]at hx hy
  exact hne (hinj x y (by omega) (by omega) (by omega) (by omega) he)
 refine⟨?_,λk n hkn h0=>?_,λj r hj k n hkn h0 he=>?_,?_,λr hr=>?_⟩
 ·have:=hk.length_eq
  simp at this
  omega
 ·have hlt:=(List.getElem?_eq_some_iff.1 hkn).1
  have:nodeK T (k+1)∈R.map FileR.key:=hk.mem_iff.2 (List.mem_map.2 ⟨k+1,List.mem_range'_1.2 ⟨by omega,by omega⟩,rfl⟩)
  obtain⟨r,hr,he⟩:=List.mem_map.1 this
  obtain⟨j,hj⟩:=List.mem_iff_getElem?.1 hr
  exact⟨j,r,hj,by rw[←hpath];exact congrArg Prod.fst he⟩
 ·obtain⟨x,hx1,hx2,hx⟩:=hmem r (List.mem_iff_getElem?.2 ⟨j,hj⟩)
  have hlt:=(List.getElem?_eq_some_iff.1 hkn).1
  have e1:r.path=pathL (nds T) x:=congrArg Prod.fst hx
  have e2:x=k+1:=hinj x (k+1) (by omega) hx2 (by omega) (by omega) (by rw[←e1,he,hpath])
  subst e2
  obtain⟨p,hp1,hp2,hp3,_⟩:=sk_at hL hkn
  have e3:r.dir=((T[k+1-1]?).map Pn.dir).getD false:=congrArg (λq=>q.2.1) hx
  have e4:r.byt=((T[k+1-1]?).map Pn.byt).getD []:=congrArg (λq=>q.2.2) hx
  rw[Nat.add_sub_cancel,hp1]at e3 e4
  exact⟨e3.trans hp2,e4.trans hp3⟩
 ·have h2:R.Pairwise λx y=>x.path≠y.path:=List.pairwise_map.1 hnd
  refine(hs.and h2).imp λ{x y} hxy=>?_
  rcases Std.lt_trichotomy x.path y.path with h3|h3|h3
  ·exact h3
  ·exact absurd h3 hxy.2
  ·exact absurd h3 hxy.1
 ·obtain⟨x,hx1,hx2,hx⟩:=hmem r hr
  have e1:r.path=pathL (nds T) x:=congrArg Prod.fst hx
  have hlt:x-1<(nds T).length:=by omega
  rw[e1,pathL_step hd (by omega) (List.getElem?_eq_getElem hlt)]
  simp
end Go.Proofs.YtjdaddmjpicflaaGreatDoor
namespace Go.Proofs.YtjdaddmjpicflaaGreatDoor
open Go.RowKit Go.Maps Go.Shelf
theorem frow_cells {w:World} {base:Nat} {v:Value} {R:List FileR} (h:FRows w base v R):∃p cap,v=.slice p R.length cap∧∀j r,R[j]?=some r→∃g,p=some ⟨g,0,none⟩∧base≤g∧g<w.heap.size∧w.cell? ⟨g,j*3,none⟩=some (strV r.path)∧w.cell? ⟨g,j*3+1,none⟩=some (.bool r.dir)∧w.cell? ⟨g,j*3+2,none⟩=some r.bv:=by
 obtain⟨p,cap,rfl,_,_,hp⟩:=row_slice h.row
 refine⟨p,cap,rfl,λj r hj=>?_⟩
 have hlt:=(List.getElem?_eq_some_iff.1 hj).1
 obtain⟨g,rfl,h1,h2,h3,_⟩:=hp.resolve_left (by omega)
 have hc:∀i,i<3→w.cell? ⟨g,j*3+i,none⟩=(r.cells)[i]?:=λi hi=>by
  rw[h3 _ (by rw[rowsLen];omega),flat_at FileR.cells 3 R (λx _=>rfl) j i hi,hj];rfl
 exact⟨g,rfl,h1,h2,hc 0 (by omega),hc 1 (by omega),hc 2 (by omega)⟩
def hasP (R:List FileR) (j:Nat) (p:List UInt8):Bool:=(R.take j).any λr=>decide (r.path=p)
theorem hasP_succ {R:List FileR} {j:Nat} {r:FileR} (h:R[j]?=some r) (p:List UInt8):hasP R (j+1) p=(hasP R j p||decide (r.path=p)):=by
 unfold hasP
 rw[List.take_add_one,h]
 simp
def lastP (R:List FileR):Nat→List UInt8
 | 0=>[]
 | m+1=>((R[m]?).map FileR.path).getD []
theorem lastP_lt {L:List Nd} {R:List FileR} (h:Fit L R) {m:Nat} {r:FileR} (hr:R[m]?=some r):lastP R m<r.path:=by
 cases m with
 | zero=>
   have h1:=h.pos r (List.mem_iff_getElem?.2 ⟨0,hr⟩)
   cases hp:r.path with
   | nil=>exact absurd hp h1
   | cons x xs=>exact List.nil_lt_cons _ _
 | succ m=>
   obtain⟨hlt,he⟩:=List.getElem?_eq_some_iff.1 hr
   have h2:=List.pairwise_iff_getElem.1 h.strict m (m+1) (by omega) hlt (by omega)
   show((R[m]?).map FileR.path).getD []<r.path
   rw[List.getElem?_eq_getElem (by omega:m<R.length),←he]
   exact h2
theorem toList_mk (l:List UInt8):(⟨l.toArray⟩:ByteArray).toList=l:=by simp
def BRow (base:Nat) (w:World) (r:FileR):Prop:=∀i,i<r.byt.length→∃g,r.p=some ⟨g,0,none⟩∧base≤g∧∃cs:List Value,Blk w g cs 5∧∀j,j<r.byt.length→∃x,cs[j]?=some (.int .u8 x)
structure Xored (w w2:World) (lp:Option Addr) (R:List FileR) (W:World):Prop where
 bel:Bel w W
 row:∀g,lp=some ⟨g,0,none⟩→W.heap[g]?=w2.heap[g]?
 byt:∀r∈R,BRow w.heap.size W r
theorem BRow.set {base:Nat} {w:World} {r:FileR} (h:BRow base w r) (q k:Nat) (y:Int):BRow base (w.setCell ⟨q,k,none⟩ (.int .u8 y)) r:=λi hi=>by
 obtain⟨g,hp,hg,cs,hb,hx⟩:=h i hi
 by_cases e:g=q
 ·subst e
  refine⟨g,hp,hg,_,hb.setCell _,λj hj=>?_⟩
  obtain⟨x,h1⟩:=hx j hj
  by_cases e2:k=j
  ·subst e2
   exact⟨y,List.getElem?_set_self (List.getElem?_eq_some_iff.1 h1).1⟩
  ·exact⟨x,by rw[List.getElem?_set_ne e2];exact h1⟩
 ·exact⟨g,hp,hg,cs,hb.setCell_other e _,hx⟩
theorem Xored.set {w w2 W:World} {lp:Option Addr} {R:List FileR} {cap:Nat} (h:Xored w w2 lp R W) (hF:FRows w2 w.heap.size (.slice lp R.length cap) R) {q:Nat} {cs:List Value} (hb:Blk W q cs 5) (hq:w.heap.size≤q) (k:Nat) (y:Int):Xored w w2 lp R (W.setCell ⟨q,k,none⟩ (.int .u8 y)):=by
 refine⟨h.bel.store hq _,λg hg=>?_,λr hr=>(h.byt r hr).set q k y⟩
 subst hg
 obtain⟨_,cur,hb2⟩:=row_blk hF.row (g:=g) rfl
 have hb3:Blk W g cur 46:=(h.row g rfl).trans hb2
 have hne:g≠q:=hb3.ne hb (by decide)
 exact((Keep.setCell W q k (.int .u8 y)).block g hb3.lt hne).trans (h.row g rfl)
theorem Xored.drew {w w2 W:World} {lp:Option Addr} {R:List FileR} (h:Xored w w2 lp R W):Xored w w2 lp R W.drew:=⟨h.bel.drew,h.row,h.byt⟩
theorem Xored.first {w w2 W:World} {lp:Option Addr} {R:List FileR} {cap:Nat} (hF:FRows w2 w.heap.size (.slice lp R.length cap) R) (h2:Bel w w2) (h:Bel w2 W):Xored w w2 lp R W:=by
 refine⟨h2.tr h,λg hg=>?_,λr hr i hi=>?_⟩
 ·subst hg
  obtain⟨_,cur,hb2⟩:=row_blk hF.row (g:=g) rfl
  exact h.block g hb2.lt
 ·obtain⟨h3,h4⟩:=hF.byt r hr
  rcases h3.2 with⟨_,h5⟩|⟨g,cp,cur,h5,h6,_,_,h7⟩
  ·rw[h5]at hi;cases hi
  ·have hp:r.p=some ⟨g,0,none⟩:=by unfold FileR.bv at h5;injection h5
   refine⟨g,hp,h4 g (by rw[h5];rfl),cur,h6.bel h,λj hj=>⟨r.byt[j],?_⟩⟩
   have h8:(cur.take r.byt.length)[j]?=some (.int .u8 r.byt[j]):=by rw[h7.2,List.getElem?_map,List.getElem?_eq_getElem hj];rfl
   rwa [List.getElem?_take_of_lt hj]at h8
theorem files_any (wb tk rb g cap:Nat) (o1 o2 o3:Value) (L:List Nd) (w:World) (hW:Blk w wb [.pointer (some ⟨tk,0,none⟩),.pointer (some ⟨rb,0,none⟩),o1,o2,o3] 55)
 (hF:Calls Tryz.prog 59 #[.pointer (some ⟨tk,0,none⟩)] w λe w'=>∃v,e=.returned v∧Bel w w'∧∃R,Fit L R∧FRows w' w.heap.size v R∧∀r∈R,r.byt.length≤1000000)
 (ht:TreeAt w rb g cap L) (hl:L.length≤8000) (hl1:1≤L.length) (hd:Down L) (hc:Conn L) (hs:∀n∈L,n.name.size≤1000) (hb:∀n∈L,Rw w n.bv n.byt∧n.byt.length≤1000000) (us:List Int) (hu:us.length=5)
 (hk:∀W,Bel w W→Calls Tryz.prog 61 #[.pointer (some ⟨tk,0,none⟩)] W λe w'=>e=.returned (.agg (us.map (Value.int .i64)).toArray)∧Bel W w') (hr:∀W,Bel w W→Calls Tryz.prog 62 #[.pointer (some ⟨rb,0,none⟩)] W λe w'=>e=.returned (.agg (us.map (Value.int .i64)).toArray)∧Bel W w') :
 Calls Tryz.prog 30 #[.pointer (some ⟨wb,0,none⟩)] w λe w'=>e=.returned (.bool true)∧Bel w w':=by
 have c0:=hW.cell 0
 have c1:=hW.cell 1
 simp only[List.getElem?_cons_zero,List.getElem?_cons_succ]at c0 c1
 have c7:=ht.1
 have c00:=c0
 have c10:=c1
 have HUS:Hid (∃u0 u1 u2 u3 u4:Int,us=[u0,u1,u2,u3,u4]):=xh (match us,hu with
  | [u0,u1,u2,u3,u4],_=>⟨u0,u1,u2,u3,u4,rfl⟩)
 clear hu
 have HF:=xh hF
 have HT:=xh ht
 have HD:=xh hd
 have HC:=xh hc
 have HS:=xh hs
 have HBY:=xh hb
 have HUK:=xh hk
 have HUR:=xh hr
 clear hW hF ht hd hc hs hb hk hr
 go_enter Tryz.func30,Tryz.ntmps30
 go_upto_region 5 with(go_at_call 59;((with_reducible refine Calls.mono HF.out ?_);rintro e2 w2 ⟨lv,rfl,k2,R,hfit,hrows,hsmall⟩;have HR:=xh (And.intro hfit hrows);have HSMALL:=xh hsmall;have HK2:=xh k2;clear hfit hrows hsmall k2))
 obtain⟨hfit,hrows⟩:=HR.out
 obtain⟨lp,lcap,rfl,hlc⟩:=frow_cells hrows
 have HLC:=xh hlc
 have HFIT:=xh hfit
 have HROWS:=xh hrows
 have c1:=cell_bel HK2.out c1
 have c0:=cell_bel HK2.out c0
 have c7:=cell_bel HK2.out c7
 have hRl:R.length+1=L.length:=hfit.len
 clear hfit hrows hlc HR
 go_loopw [4,6] (λn i wr=>∃k:Nat,k≤L.length∧i=.int .i64 k∧n=.int .i64 (k-1:Nat)∧Hid (Bel w2 wr)) (λ_ i _=>L.length-(intOf i).toNat)
 case atStart=>exact⟨0,Nat.zero_le _,rfl,rfl,xh (Bel.refl _)⟩
 case round=>
  obtain⟨k,hk,rfl,rfl,HB⟩:=hrel
  have c1:=cell_bel HB.out c1
  have c0:=cell_bel HB.out c0
  have c7:=cell_bel HB.out c7
  by_cases hlt:k<L.length
  ·have hn:=List.getElem?_eq_getElem hlt
   obtain⟨n,hnn⟩:∃n,L[k]=n:=⟨_,rfl⟩
   rw[hnn]at hn
   have hran:=HT.out.2.2 k n hn
   have hcc:∀j u,(n.cells k)[j]?=some u→wr.cell? ⟨g,k*5+j,none⟩=some u:=λj u hu=>cell_bel HB.out (cell_bel HK2.out (hran j u hu))
   have n0:wr.cell? ⟨g,k*5,none⟩=some (.int .i64 (k+1:Nat)):=hcc 0 _ rfl
   have n1:wr.cell? ⟨g,k*5+1,none⟩=some (.int .i64 n.par):=hcc 1 _ rfl
   have n2:wr.cell? ⟨g,k*5+2,none⟩=some (.string n.name):=hcc 2 _ rfl
   have n3:wr.cell? ⟨g,k*5+3,none⟩=some (.bool n.dir):=hcc 3 _ rfl
   have n4:wr.cell? ⟨g,k*5+4,none⟩=some n.bv:=hcc 4 _ rfl
   have hmem:n∈L:=List.mem_iff_getElem?.2 ⟨k,hn⟩
   obtain⟨qb,qc,hbv,_⟩:=(HBY.out n hmem).1.slice
   rw[hbv]at n4
   clear hran hcc
   go_upto_region 8 with fail
   have BX0:=Blk.new wr [.int .i64 ((k:Int)+1),.int .i64 n.par,.string n.name,.bool n.dir,.slice qb n.byt.length qc] 138
   have kx0:Bel wr (wr.alloc (.cells #[.int .i64 ((k:Int)+1),.int .i64 n.par,.string n.name,.bool n.dir,.slice qb n.byt.length qc] 138)):=Bel.start _ _
   change Blk (wr.alloc (.cells #[.int .i64 ((k:Int)+1),.int .i64 n.par,.string n.name,.bool n.dir,.slice qb n.byt.length qc] 138)) wr.heap.size _ _ at BX0
   have c1:=cell_bel kx0 c1
   have c0:=cell_bel kx0 c0
   have c7:=cell_bel kx0 c7
   have HB4:Hid (Bel w2 (wr.alloc (.cells #[.int .i64 ((k:Int)+1),.int .i64 n.par,.string n.name,.bool n.dir,.slice qb n.byt.length qc] 138))):=xh (HB.out.tr kx0)
   clear kx0 n0 n1 n2 n3 n4
   generalize wr.alloc (.cells #[.int .i64 ((k:Int)+1),.int .i64 n.par,.string n.name,.bool n.dir,.slice qb n.byt.length qc] 138)=w4 at *
   generalize wr.heap.size=xb at *
   have x0:w4.cell? ⟨xb,0,none⟩=some (.int .i64 ((k:Int)+1)):=BX0.cell 0
   have x1:w4.cell? ⟨xb,1,none⟩=some (.int .i64 n.par):=BX0.cell 1
   have x3:w4.cell? ⟨xb,3,none⟩=some (.bool n.dir):=BX0.cell 3
   have x4:w4.cell? ⟨xb,4,none⟩=some (.slice qb n.byt.length qc):=BX0.cell 4
   clear BX0
   by_cases hk0:k=0
   ·subst hk0
    have hpar:n.par=0:=by have:=HD.out 0 n hn;omega
    rw[hpar]at x1
    go_wp2_with fail
    go_roundw
    case rel=>exact⟨0+1,by omega,by go_num,rfl,HB4⟩
    case measure=>simp[intOf]<;>omega
   ·have hpar:n.par≠0:=HC.out k n hn hk0
    have hpar2:¬((n.par:Int)=0):=by omega
    have HPD:Hid (∀q,Calls Tryz.prog 60 #[.pointer (some ⟨rb,0,none⟩),.int .i64 ((k:Int)+1)] (w4.drewN q) λe w'=>e=.returned (strV (pathL L (k+1)))∧w'=w4.drewN q):=xh λq=>(pathD_any rb g cap L (w4.drewN q) ((HT.out.bel HK2.out).bel (bel_drewN HB4.out q)) (k+1) (by omega) hl HD.out HS.out).mono λe w' h=>⟨h.1,h.2.symm⟩
    go_upto_region 10 with fail
    go_quiet ((go_at_call 60;exact Calls.quiet_of_same (HPD.out _)))
    have k5:Bel w4 (w4.drewN nq):=bel_drewN (Bel.refl _) nq
    have c1:=cell_bel k5 c1
    have c0:=cell_bel k5 c0
    have c7:=cell_bel k5 c7
    have x3:=cell_bel k5 x3
    have x4:=cell_bel k5 x4
    have HB5:Hid (Bel w2 (w4.drewN nq)):=xh (HB4.out.tr k5)
    clear k5 x0 x1
    generalize w4.drewN nq=w5 at *
    obtain⟨p,hp⟩:∃p,p=pathL L (k+1):=⟨_,rfl⟩
    rw[←hp]
    rw[show strV p=.string ⟨p.toArray⟩from rfl]
    obtain⟨sp,hsp⟩:∃sp:ByteArray,sp=⟨p.toArray⟩:=⟨_,rfl⟩
    rw[←hsp]
    have HP:=xh hp
    have HSP:=xh hsp
    clear hp hsp
    go_wp2_with fail
    go_loopw [9,10] (λth j ws=>∃m:Nat,m≤R.length∧j=.int .i64 m∧th=.bool (hasP R m p)∧Hid (Bel w5 ws)) (λ_ j _=>R.length-(intOf j).toNat)
    case atStart=>exact⟨0,Nat.zero_le _,rfl,rfl,xh (Bel.refl _)⟩
    case round=>
     obtain⟨m,hm,rfl,rfl,HBm⟩:=hrel
     have x3:=cell_bel HBm.out x3
     have x4:=cell_bel HBm.out x4
     by_cases hmt:m<R.length
     ·have hr:=List.getElem?_eq_getElem hmt
      obtain⟨r,hrr⟩:∃r,R[m]=r:=⟨_,rfl⟩
      rw[hrr]at hr
      obtain⟨gr,rfl,hgr1,hgr2,r0,r1,r2⟩:=HLC.out m r hr
      have kk:Bel w2 _:=HB5.out.tr HBm.out
      have r0:=cell_bel kk r0
      have r1:=cell_bel kk r1
      have r2:=cell_bel kk r2
      rw[show strV r.path=.string ⟨r.path.toArray⟩from rfl]at r0
      obtain⟨sr,hsr⟩:∃sr:ByteArray,sr=⟨r.path.toArray⟩:=⟨_,rfl⟩
      rw[←hsr]at r0
      have HSU:Hid (hasP R (m+1) p=(hasP R m p||decide (r.path=p))):=xh (hasP_succ hr p)
      by_cases he:r.path=p
      ·have e2:sr=sp:=by rw[hsr,HSP.out,he]
       subst e2
       obtain⟨e3,e4⟩:=HFIT.out.fit m r hr k n hn hk0 (he.trans HP.out)
       rw[e3]at r1
       rw[show r.bv=.slice r.p n.byt.length r.cap from by unfold FileR.bv;rw[e4]]at r2
       obtain⟨qb2,qc2,hbv2,_⟩:=(HBY.out n hmem).1.slice
       have hsm:∀W,Bel w5 W→∀q,Calls Tryz.prog 28 #[.slice r.p n.byt.length r.cap,.slice qb n.byt.length qc] (W.drewN q) λe w'=>e=.returned (.bool true)∧∃m,w'=(W.drewN q).drewN m:=λW hW q=>same_bytes r.p qb r.cap qc n.byt (W.drewN q) ((((HROWS.out.byt r (List.mem_iff_getElem?.2 ⟨m,hr⟩)).1.bs (by unfold FileR.bv;rw[e4])).bel (HB5.out.tr hW)).bel (bel_drewN (Bel.refl W) q) |> λh=>e4▸h) (((HBY.out n hmem).1.bs hbv).bel (HK2.out.tr (HB5.out.tr (bel_drewN hW q)))) (HBY.out n hmem).2
       have HSM:=xh (hsm _ HBm.out)
       clear hsm
       go_upto_region 16 with fail
       go_quiet ((go_at_call 28;exact Calls.quiet_of (HSM.out _)))
       have k6:Bel wr (wr.drewN nq):=bel_drewN (Bel.refl _) nq
       have x3:=cell_bel k6 x3
       have r1:=cell_bel k6 r1
       have HB6:Hid (Bel w5 (wr.drewN nq)):=xh (HBm.out.tr k6)
       clear k6 r0 r2 x4
       go_upto_region 17 with fail
       generalize wr.drewN nq=w6 at *
       go_quiet (fail)
       have HB7:Hid (Bel w5 (w6.drewN nq)):=xh (HB6.out.tr (bel_drewN (Bel.refl _) _))
       go_wp2_with fail
       go_roundw
       case rel=>exact⟨m+1,by omega,by go_num,by rw[HSU.out,decide_eq_true he,Bool.or_true],HB7⟩
       case measure=>simp[intOf]<;>omega
      ·have e2:¬sr=sp:=λe=>he (by
        have:r.path.toArray=p.toArray:=by rw[hsr,HSP.out]at e;exact congrArg ByteArray.data e
        simpa using this)
       have HSR:=xh hsr
       have hb1:(sr.toList==sp.toList)=false:=by
        rw[beq_eq_false_iff_ne]
        intro e
        apply he
        rw[hsr,HSP.out]at e
        simpa using e
       clear hsr
       go_wp2_with fail
       go_roundw
       case rel=>exact⟨m+1,by omega,by go_num,by rw[HSU.out,decide_eq_false he,Bool.or_false],HBm⟩
       case measure=>simp[intOf]<;>omega
     ·obtain rfl:m=R.length:=by omega
      have hall:hasP R R.length p=true:=by
       obtain⟨j,r,hj,hjp⟩:=HFIT.out.has k n hn hk0
       unfold hasP
       rw[List.take_length,List.any_eq_true]
       exact⟨r,List.mem_iff_getElem?.2 ⟨j,hj⟩,decide_eq_true (hjp.trans HP.out.symm)⟩
      rw[hall]
      have HBk:Hid (Bel w2 wr):=xh (HB5.out.tr HBm.out)
      go_wp2_with fail
      go_roundw
      case rel=>exact⟨k+1,by omega,by go_num,by go_num,HBk⟩
      case measure=>simp[intOf]<;>omega
  ·obtain rfl:k=L.length:=by omega
   have hn1:L.length-1=R.length:=by omega
   rw[hn1]
   have HX0:=xh (Xored.first HROWS.out HK2.out HB.out)
   go_wp2_with fail
   go_loopw [5,12] (λla j ws=>∃m:Nat,m≤R.length∧j=.int .i64 m∧la=strV (lastP R m)∧Hid (Xored w w2 lp R ws)) (λ_ j _=>R.length-(intOf j).toNat)
   case atStart=>exact⟨0,Nat.zero_le _,rfl,rfl,HX0⟩
   case round=>
    obtain⟨m,hm,rfl,rfl,HX⟩:=hrel
    by_cases hmt:m<R.length
    ·have hr:=List.getElem?_eq_getElem hmt
     obtain⟨r,hrr⟩:∃r,R[m]=r:=⟨_,rfl⟩
     rw[hrr]at hr
     have hmr:r∈R:=List.mem_iff_getElem?.2 ⟨m,hr⟩
     obtain⟨gr,rfl,hgr1,hgr2,r0,r1,r2⟩:=HLC.out m r hr
     have hbk:=HX.out.row gr rfl
     have r0:=(World.cell?_of_block (a:=⟨gr,m*3,none⟩) hbk).trans r0
     have r2:=(World.cell?_of_block (a:=⟨gr,m*3+2,none⟩) hbk).trans r2
     rw[show strV r.path=.string ⟨r.path.toArray⟩from rfl]at r0
     obtain⟨sr,hsr⟩:∃sr:ByteArray,sr=⟨r.path.toArray⟩:=⟨_,rfl⟩
     rw[←hsr]at r0
     rw[show strV (lastP R m)=.string ⟨(lastP R m).toArray⟩from rfl]
     obtain⟨sl,hsl⟩:∃sl:ByteArray,sl=⟨(lastP R m).toArray⟩:=⟨_,rfl⟩
     rw[←hsl]
     have HSR:=xh hsr
     have HSLL:=xh hsl
     have hlt2:=lastP_lt HFIT.out hr
     have hb1:Op.bytesLess sr.toList sl.toList=false:=by
      rw[hsr,hsl,toList_mk,toList_mk,bytesLess_eq]
      exact decide_eq_false λh=>List.lt_irrefl _ (List.lt_trans h hlt2)
     have hb2:(sr.toList==sl.toList)=false:=by
      rw[hsr,hsl,toList_mk,toList_mk,beq_eq_false_iff_ne]
      intro e
      rw[e]at hlt2
      exact absurd hlt2 (List.lt_irrefl _)
     clear hsr hsl hlt2
     have hbv:r.bv=.slice r.p r.byt.length r.cap:=rfl
     rw[hbv]at r2
     have hgf:=HX.out.bel.le
     have hrsm:=HSMALL.out r hmr
     clear hbk r1 hbv
     go_wp2_with fail
     go_loopw [13] (λi ws=>∃q:Nat,q≤r.byt.length∧i=.int .i64 q∧Hid (Xored w w2 (some ⟨gr,0,none⟩) R ws)) (λi _=>r.byt.length-(intOf i).toNat)
     case atStart=>exact⟨0,Nat.zero_le _,rfl,HX⟩
     case round=>
      obtain⟨q,hq,rfl,HXq⟩:=hrel
      obtain⟨_,_,e9,hz9⟩:=frow_cells HROWS.out
      obtain⟨g9,e10,_,_,_,_,z2⟩:=hz9 m r hr
      cases e9
      cases e10
      have r2:=(World.cell?_of_block (a:=⟨gr,m*3+2,none⟩) (HXq.out.row gr rfl)).trans z2
      rw[show r.bv=.slice r.p r.byt.length r.cap from rfl]at r2
      clear z2 hz9
      by_cases hqt:q<r.byt.length
      ·obtain⟨gb,hp,hgb,cs,hb,hx⟩:=HXq.out.byt r hmr q hqt
       obtain⟨x,hx1⟩:=hx q hqt
       rw[←hb.cell]at hx1
       have fz:=hb.frozen q
       rw[hp]at r2
       have HXB:=xh (And.intro hb hgb)
       have hne:gb≠gr:=by
        obtain⟨_,cur,hb2⟩:=row_blk HROWS.out.row (g:=gr) rfl
        have hb3:Blk wr gr cur 46:=(HXq.out.row gr rfl).trans hb2
        exact(hb3.ne hb (by decide)).symm
       clear hb hx
       go_upto_region 31 with fail
       go_still_tail 16,(by kernel_rfl)
       change wpList _ _ _ _ _ wr.drew
       go_wp2_with fail
       go_roundw
       case rel=>exact⟨q+1,by omega,by go_num,xh (HXq.out.drew.set HROWS.out HXB.out.1.drew HXB.out.2 q _)⟩
       case measure=>simp[intOf]<;>omega
      ·obtain rfl:q=r.byt.length:=by omega
       go_wp2_with fail
       go_roundw
       case rel=>exact⟨m+1,by omega,by go_num,by rw[show lastP R (m+1)=r.path from by show((R[m]?).map FileR.path).getD []=r.path;rw[hr];rfl,HSR.out];rfl,HXq⟩
       case measure=>simp[intOf]<;>omega
    ·obtain rfl:m=R.length:=by omega
     have HBX:Hid (Bel w wr):=xh HX.out.bel
     have c0:=cell_bel HBX.out c00
     have c1:=cell_bel HBX.out c10
     obtain⟨u0,u1,u2,u3,u4,hus⟩:=HUS.out
     have HU1:Hid (Calls Tryz.prog 61 #[.pointer (some ⟨tk,0,none⟩)] wr λe w'=>e=.returned (.agg #[.int .i64 u0,.int .i64 u1,.int .i64 u2,.int .i64 u3,.int .i64 u4])∧Bel wr w'):=xh (by have:=HUK.out wr HBX.out;rw[hus]at this;exact this)
     have HU2:Hid (∀W,Bel w W→Calls Tryz.prog 62 #[.pointer (some ⟨rb,0,none⟩)] W λe w'=>e=.returned (.agg #[.int .i64 u0,.int .i64 u1,.int .i64 u2,.int .i64 u3,.int .i64 u4])∧Bel W w'):=xh (λW hW=>by have:=HUR.out W hW;rw[hus]at this;exact this)
     go_upto_region 33 with(go_at_call 61;((with_reducible refine Calls.mono HU1.out ?_);rintro e3 w3 ⟨rfl,k3⟩;have HK3:Hid (Bel wr w3):=xh k3;clear k3))
     have B4:=Blk.new w3 [.int .i64 u0,.int .i64 u1,.int .i64 u2,.int .i64 u3,.int .i64 u4] 23
     have k4:Bel wr (w3.alloc (.cells #[.int .i64 u0,.int .i64 u1,.int .i64 u2,.int .i64 u3,.int .i64 u4] 23)):=HK3.out.ac _
     change Blk (w3.alloc (.cells #[.int .i64 u0,.int .i64 u1,.int .i64 u2,.int .i64 u3,.int .i64 u4] 23)) w3.heap.size _ _ at B4
     generalize w3.alloc (.cells #[.int .i64 u0,.int .i64 u1,.int .i64 u2,.int .i64 u3,.int .i64 u4] 23)=w4 at *
     generalize w3.heap.size=b4 at *
     have c1:=cell_bel k4 c1
     have HB4:=xh B4
     have HK4:Hid (Bel w w4):=xh (HBX.out.tr k4)
     clear B4 k4
     go_upto_region 34 with(go_at_call 62;((with_reducible refine Calls.mono (HU2.out _ HK4.out) ?_);rintro e5 w5 ⟨rfl,k5⟩;have HK5:Hid (Bel w4 w5):=xh k5;clear k5))
     have B6:=Blk.new w5 [.int .i64 u0,.int .i64 u1,.int .i64 u2,.int .i64 u3,.int .i64 u4] 70
     have k6:Bel w4 (w5.alloc (.cells #[.int .i64 u0,.int .i64 u1,.int .i64 u2,.int .i64 u3,.int .i64 u4] 70)):=HK5.out.ac _
     change Blk (w5.alloc (.cells #[.int .i64 u0,.int .i64 u1,.int .i64 u2,.int .i64 u3,.int .i64 u4] 70)) w5.heap.size _ _ at B6
     generalize w5.alloc (.cells #[.int .i64 u0,.int .i64 u1,.int .i64 u2,.int .i64 u3,.int .i64 u4] 70)=w6 at *
     generalize w5.heap.size=b6 at *
     have B4:=HB4.out.bel k6
     have p0:w6.cell? ⟨b4,0,none⟩=some (.int .i64 u0):=B4.cell 0
     have p1:w6.cell? ⟨b4,1,none⟩=some (.int .i64 u1):=B4.cell 1
     have p2:w6.cell? ⟨b4,2,none⟩=some (.int .i64 u2):=B4.cell 2
     have p3:w6.cell? ⟨b4,3,none⟩=some (.int .i64 u3):=B4.cell 3
     have p4:w6.cell? ⟨b4,4,none⟩=some (.int .i64 u4):=B4.cell 4
     have q0:w6.cell? ⟨b6,0,none⟩=some (.int .i64 u0):=B6.cell 0
     have q1:w6.cell? ⟨b6,1,none⟩=some (.int .i64 u1):=B6.cell 1
     have q2:w6.cell? ⟨b6,2,none⟩=some (.int .i64 u2):=B6.cell 2
     have q3:w6.cell? ⟨b6,3,none⟩=some (.int .i64 u3):=B6.cell 3
     have q4:w6.cell? ⟨b6,4,none⟩=some (.int .i64 u4):=B6.cell 4
     have HF6:Hid (Bel w w6):=xh (HK4.out.tr k6)
     clear B4 B6 k6
     go_wp2_with fail
     go_ret
     exact⟨rfl,HF6.out⟩
end Go.Proofs.YtjdaddmjpicflaaGreatDoor
