/- The program's Room. -/
import Derived.IntWalk
import Derived.Test.YtjdaddmjpicflaaGreatDoorP08
set_option linter.unusedVariables false
set_option linter.unusedSimpArgs false
set_option maxRecDepth 100000
set_option maxHeartbeats 16000000
namespace Go.Proofs.YtjdaddmjpicflaaGreatDoor
open Go.RowKit Go.MapKept Go.Maps
def roomB (t:TN) (a b:Int):Bool:=decide (t.inodes+a≤t.most)&&decide (t.bytes+b≤t.mostBytes)
structure TN.ok (t:TN):Prop where
 inodes:t.inodes≤1000000
 bytes:t.bytes≤10000000
 most : -10000000≤t.most∧t.most≤10000000
 mostBytes : -10000000≤t.mostBytes∧t.mostBytes≤10000000
theorem room_any (tb:Nat) (A:Adr) (t:TN) (a b:Int) (w:World) (hT:Blk w tb (t.cells A) 185) (ht:t.ok) (ha:0≤a∧a≤10000000) (hb:0≤b∧b≤10000000) :
 Calls Tryz.prog 67 #[.pointer (some ⟨tb,0,none⟩),.int .i64 a,.int .i64 b] w λe w'=>e=.returned (.bool (roomB t a b))∧∃n,w'=w.drewN n:=by
 have c1:w.cell? ⟨tb,1,none⟩=some (.int .i64 (t.inodes:Int)):=hT.cell 1
 have c2:w.cell? ⟨tb,2,none⟩=some (.int .i64 (t.bytes:Int)):=hT.cell 2
 have c3:w.cell? ⟨tb,3,none⟩=some (.int .i64 t.most):=hT.cell 3
 have c4:w.cell? ⟨tb,4,none⟩=some (.int .i64 t.mostBytes):=hT.cell 4
 obtain⟨o1,o2,o3,o4⟩:=ht
 have w1:IntKind.i64.wrap ((t.inodes:Int)+a)=(t.inodes:Int)+a:=by rw[IntKind.wrap_i64];omega
 have w2:IntKind.i64.wrap ((t.bytes:Int)+b)=(t.bytes:Int)+b:=by rw[IntKind.wrap_i64];omega
 clear hT
 by_cases h1:(t.inodes:Int)+a≤t.most
 ·by_cases h2:(t.bytes:Int)+b≤t.mostBytes
  ·have HR:Hid (roomB t a b=true):=xh (by unfold roomB;simp[h1,h2])
   have d1:decide ((t.inodes:Int)+a≤t.most)=true:=by simpa using h1
   have d2:decide ((t.bytes:Int)+b≤t.mostBytes)=true:=by simpa using h2
   generalize ((t.inodes:Nat):Int)=x at *
   generalize ((t.bytes:Nat):Int)=y at *
   clear h1 h2
   go_enter Tryz.func67,Tryz.ntmps67
   go_upto_region 1 with fail
   go_quiet (fail)
   go_wp2
   go_ret
   exact⟨by rw[HR.out];rfl,nq,rfl⟩
  ·have HR:Hid (roomB t a b=false):=xh (by unfold roomB;simp[h2])
   have d1:decide ((t.inodes:Int)+a≤t.most)=true:=by simpa using h1
   have d2:decide ((t.bytes:Int)+b≤t.mostBytes)=false:=by simpa using h2
   generalize ((t.inodes:Nat):Int)=x at *
   generalize ((t.bytes:Nat):Int)=y at *
   clear h1 h2
   go_enter Tryz.func67,Tryz.ntmps67
   go_upto_region 1 with fail
   go_quiet (fail)
   go_wp2
   go_ret
   exact⟨by rw[HR.out];rfl,nq,rfl⟩
 ·have HR:Hid (roomB t a b=false):=xh (by unfold roomB;simp[h1])
  have d1:decide ((t.inodes:Int)+a≤t.most)=false:=by simpa using h1
  generalize ((t.inodes:Nat):Int)=x at *
  generalize ((t.bytes:Nat):Int)=y at *
  clear h1
  go_enter Tryz.func67,Tryz.ntmps67
  go_upto_region 1 with fail
  go_quiet (fail)
  go_wp2
  go_ret
  exact⟨by rw[HR.out];rfl,nq,rfl⟩
theorem room_bel (tb:Nat) (A:Adr) (t:TN) (a b:Int) (w:World) (hT:Blk w tb (t.cells A) 185) (ht:t.ok) (ha:0≤a∧a≤10000000) (hb:0≤b∧b≤10000000) :
 Calls Tryz.prog 67 #[.pointer (some ⟨tb,0,none⟩),.int .i64 a,.int .i64 b] w λe w'=>e=.returned (.bool (roomB t a b))∧Bel w w':=by
 refine(room_any tb A t a b w hT ht ha hb).mono ?_
 rintro e w' ⟨rfl,n,rfl⟩
 exact⟨rfl,bel_drewN (Bel.refl w) n⟩
theorem kidsF_app (A:Adr) (d:Nat):∀(i:Nat) (T U:List Pn),kidsF A d i (T++U)=kidsF A d i T++kidsF A d (i+T.length) U
 | i,[],U=>by simp[kidsF]
 | i,n::T,U=>by
   have ih:=kidsF_app A d (i+1) T U
   simp only[List.cons_append,kidsF,ih,List.length_cons]
   rw[show i+1+T.length=i+(T.length+1)from by omega]
   split<;>simp
theorem ptr_congr {A B:Adr} {n:Nat} (h:n≠0→A.nb n=B.nb n):A.ptr n=B.ptr n:=by
 unfold Adr.ptr Adr.at_
 by_cases h0:n=0
 ·simp[h0]
 ·simp[h0,h h0]
theorem kidsF_congr {A B:Adr} (d:Nat):∀(i:Nat) (T:List Pn),(∀j,i<j→j≤i+T.length→A.nb j=B.nb j)→kidsF A d i T=kidsF B d i T
 | i,[],_=>rfl
 | i,n::T,h=>by
   have ih:=kidsF_congr (A:=A) (B:=B) d (i+1) T (λj h1 h2=>h j (by omega) (by simp;omega))
   simp only[kidsF,ih]
   rw[ptr_congr (A:=A) (B:=B) λ_=>h (i+1) (by omega) (by simp)]
def Adr.add (A:Adr) (n nb mb:Nat):Adr:=⟨λi=>if i=n then nb else A.nb i,λi=>if i=n then mb else A.mb i⟩
theorem Adr.add_nb (A:Adr) (n nb mb i:Nat) (h:i≠n):(A.add n nb mb).nb i=A.nb i:=by simp[Adr.add,h]
theorem Adr.add_mb (A:Adr) (n nb mb i:Nat) (h:i≠n):(A.add n nb mb).mb i=A.mb i:=by simp[Adr.add,h]
theorem cells_congr {A B:Adr} (n:Pn) (i:Nat) (h1:n.par≠0→A.nb n.par=B.nb n.par) (h2:A.mb i=B.mb i):n.cells A i=n.cells B i:=by
 unfold Pn.cells Pn.map
 rw[ptr_congr h1,h2]
theorem notKey_of {α:Type} [DecidableEq α] {kv:List (α×Value)} {a:α} (h:getKv kv a=none):a∉kv.map Prod.fst:=by
 intro hm
 obtain⟨p,hp,rfl⟩:=List.mem_map.1 hm
 unfold getKv at h
 rw[Option.map_eq_none_iff,List.find?_eq_none]at h
 have:=h p hp
 simp at this
theorem PTree.add {w w':World} {A:Adr} {T:List Pn} {S:Nat→Prop} (h:PTree w A T) (d:Nat) (D:Pn) (hD:T[d]?=some D) (hDd:D.dir=true) (n:Pn) (nb mb:Nat)
 (hp:n.par=d+1) (hbv:n.bv=.slice none 0 0∧n.byt=[]) (hg:n.gone=false) (hnew:child (nds T) (d+1) n.name=0) (hnm:nameOk n.name.data.toList=true∧(47:UInt8)∉n.name.data.toList) (hfew:T.length+1≤100000)
 (hnode:Blk w' nb (n.cells (A.add (T.length+1) nb mb) (T.length+1)) 183) (hnb:w.heap.size≤nb)
 (hmap:n.dir=true→Mp keyS w' mb []) (hmb:n.dir=true→w.heap.size≤mb)
 (hupd:Mp keyS w' (A.mb (d+1)) (putKv (Go.Proofs.YtjdaddmjpicflaaGreatDoor.kids A (d+1) T) n.name (.pointer (some ⟨nb,0,none⟩))))
 (hk:Keep S w w') (hS:∀q,TFoot A T q→S q→q=A.mb (d+1)):PTree w' (A.add (T.length+1) nb mb) (T++[n]):=by
 have hdl:d<T.length:=(List.getElem?_eq_some_iff.1 hD).1
 have hlt:∀(i:Nat) (m:Pn),(T++[n])[i]?=some m→i<T.length∧T[i]?=some m∨i=T.length∧m=n:=by
  intro i m hi
  by_cases h1:i<T.length
  ·rw[List.getElem?_append_left h1]at hi;exact .inl ⟨h1,hi⟩
  ·rw[List.getElem?_append_right (by omega)]at hi
   have:=(List.getElem?_eq_some_iff.1 hi).1
   simp at this
   have e:i-T.length=0:=by omega
   rw[e]at hi
   simp at hi
   exact .inr ⟨by omega,hi.symm⟩
 have hkids:∀i,i≠d+1→Go.Proofs.YtjdaddmjpicflaaGreatDoor.kids (A.add (T.length+1) nb mb) i (T++[n])=Go.Proofs.YtjdaddmjpicflaaGreatDoor.kids A i T:=by
  intro i hi
  unfold Go.Proofs.YtjdaddmjpicflaaGreatDoor.kids
  rw[kidsF_app,kidsF_congr (A:=A.add (T.length+1) nb mb) (B:=A) i 0 T (λj h1 h2=>Adr.add_nb _ _ _ _ _ (by omega))]
  have:n.nd.par≠i:=by simp[Pn.nd,hg,hp];omega
  simp[kidsF,this]
 have hnone:getKv (Go.Proofs.YtjdaddmjpicflaaGreatDoor.kids A (d+1) T) n.name=none:=by
  unfold Go.Proofs.YtjdaddmjpicflaaGreatDoor.kids
  rw[kidsF_get,if_pos]
  exact hnew
 have hkd:Go.Proofs.YtjdaddmjpicflaaGreatDoor.kids (A.add (T.length+1) nb mb) (d+1) (T++[n])=putKv (Go.Proofs.YtjdaddmjpicflaaGreatDoor.kids A (d+1) T) n.name (.pointer (some ⟨nb,0,none⟩)):=by
  unfold putKv
  rw[if_neg (notKey_of hnone)]
  unfold Go.Proofs.YtjdaddmjpicflaaGreatDoor.kids
  rw[kidsF_app,kidsF_congr (A:=A.add (T.length+1) nb mb) (B:=A) (d+1) 0 T (λj h1 h2=>Adr.add_nb _ _ _ _ _ (by omega))]
  have:n.nd.par=d+1:=by simp[Pn.nd,hg,hp]
  simp[kidsF,this,Adr.ptr,Adr.at_,Adr.add]
 have hold:∀q,TFoot A T q→q≠A.mb (d+1)→¬S q:=λq hq hne hs=>hne (hS q hq hs)
 have hmd:∀(i:Nat) (m:Pn),T[i]?=some m→A.nb (i+1)≠A.mb (d+1):=λi m hi=>(h.node i m hi).ne_map (h.kids d D hD hDd)
 have hbd:∀(i:Nat) (m:Pn),T[i]?=some m→∀g,m.bv.ownBlock=some g→g≠A.mb (d+1):=λi m hi g hgg=>by
  obtain⟨_,cur,hb⟩:=(h.byts i m hi).lt hgg
  exact hb.ne_map (h.kids d D hD hDd)
 have hfl:∀q,TFoot A T q→q<w.heap.size:=λq hq=>h.foot_lt hq
 refine⟨?_,?_,?_,?_,?_,?_,?_,?_,?_,?_,?_,by simpa using hfew⟩
 ·intro i m hi
  rcases hlt i m hi with⟨h1,h2⟩|⟨rfl,rfl⟩
  ·rw[Adr.add_nb _ _ _ _ _ (by omega),cells_congr (B:=A) m (i+1) (λ_=>Adr.add_nb _ _ _ _ _ (by have:=h.par i m h2;omega)) (Adr.add_mb _ _ _ _ _ (by omega))]
   exact(h.node i m h2).keep hk (hold _ ⟨i,m,h2,.inl rfl⟩ (hmd i m h2))
  ·rw[show(A.add (T.length+1) nb mb).nb (T.length+1)=nb from by simp[Adr.add]]
   exact hnode
 ·intro i m hi hd
  rcases hlt i m hi with⟨h1,h2⟩|⟨rfl,rfl⟩
  ·rw[Adr.add_mb _ _ _ _ _ (by omega)]
   by_cases e:i=d
   ·subst e
    rw[hkd];exact hupd
   ·rw[hkids (i+1) (by omega)]
    have hne:A.mb (i+1)≠A.mb (d+1):=λhe=>e (h.minj i d m D h2 hD hd hDd he)
    exact(h.kids i m h2 hd).of_block (hk.block _ (h.kids i m h2 hd).lt (hold _ ⟨i,m,h2,.inr (.inl ⟨hd,rfl⟩)⟩ hne))
  ·rw[show(A.add (T.length+1) nb mb).mb (T.length+1)=mb from by simp[Adr.add],hkids _ (by omega)]
   have:Go.Proofs.YtjdaddmjpicflaaGreatDoor.kids A (T.length+1) T=[]:=by
    unfold Go.Proofs.YtjdaddmjpicflaaGreatDoor.kids
    have hg:∀(k:Nat) (U:List Pn),(∀m∈U,m.par≤T.length)→kidsF A (T.length+1) k U=[]:=by
     intro k U
     induction U generalizing k with
     | nil=>intro _;rfl
     | cons x U ih=>
       intro hU
       have hx:=hU x (by simp)
       have:x.nd.par≠T.length+1:=by unfold Pn.nd;simp only;split<;>omega
       simp only[kidsF,this,if_false]
       exact ih _ λm hm=>hU m (by simp[hm])
    refine hg 0 T λm hm=>?_
    obtain⟨j,hj,he⟩:=List.getElem_of_mem hm
    have:=h.par j m (by rw[List.getElem?_eq_getElem hj,he])
    omega
   rw[this]
   exact hmap hd
 ·intro i m hi
  rcases hlt i m hi with⟨h1,h2⟩|⟨rfl,rfl⟩
  ·exact(h.byts i m h2).keep hk λg hgg=>hold _ ⟨i,m,h2,.inr (.inr hgg)⟩ (hbd i m h2 g hgg)
  ·rw[hbv.1,hbv.2]
   exact⟨(λx hx=>by cases hx),.inl ⟨rfl,rfl⟩⟩
 ·intro i j hi hj he
  simp at hi hj
  by_cases h1:i=T.length<;>by_cases h2:j=T.length
  ·omega
  ·subst h1
   rw[Adr.add_nb _ _ _ _ (j+1) (by omega)]at he
   simp[Adr.add]at he
   have:=hfl _ ⟨j,T[j]'(by omega),List.getElem?_eq_getElem (by omega),.inl rfl⟩
   omega
  ·subst h2
   rw[Adr.add_nb _ _ _ _ (i+1) (by omega)]at he
   simp[Adr.add]at he
   have:=hfl _ ⟨i,T[i]'(by omega),List.getElem?_eq_getElem (by omega),.inl rfl⟩
   omega
  ·rw[Adr.add_nb _ _ _ _ _ (by omega),Adr.add_nb _ _ _ _ _ (by omega)]at he
   exact h.inj i j (by omega) (by omega) he
 ·intro i j m k hi hj hdi hdj he
  rcases hlt i m hi with⟨h1,h2⟩|⟨rfl,rfl⟩<;>rcases hlt j k hj with⟨h3,h4⟩|⟨rfl,rfl⟩
  ·rw[Adr.add_mb _ _ _ _ _ (by omega),Adr.add_mb _ _ _ _ _ (by omega)]at he
   exact h.minj i j m k h2 h4 hdi hdj he
  ·rw[Adr.add_mb _ _ _ _ (i+1) (by omega)]at he
   simp[Adr.add]at he
   have:=hfl _ ⟨i,m,h2,.inr (.inl ⟨hdi,rfl⟩)⟩
   have:=hmb hdj
   omega
  ·rw[Adr.add_mb _ _ _ _ (j+1) (by omega)]at he
   simp[Adr.add]at he
   have:=hfl _ ⟨j,k,h4,.inr (.inl ⟨hdj,rfl⟩)⟩
   have:=hmb hdi
   omega
  ·rfl
 ·intro i j m k g hi hj hm hkk
  rcases hlt i m hi with⟨h1,h2⟩|⟨rfl,rfl⟩
  ·rcases hlt j k hj with⟨h3,h4⟩|⟨rfl,rfl⟩
   ·exact h.sep i j m k g h2 h4 hm hkk
   ·rw[hbv.1]at hkk;cases hkk
  ·rw[hbv.1]at hm;cases hm
 ·intro i m hi
  rcases hlt i m hi with⟨h1,h2⟩|⟨rfl,rfl⟩
  ·exact h.par i m h2
  ·omega
 ·intro i m hi h0
  rcases hlt i m hi with⟨h1,h2⟩|⟨rfl,rfl⟩
  ·obtain⟨p,hp1,hp2⟩:=h.pdir i m h2 h0
   exact⟨p,by rw[List.getElem?_append_left (by have:=h.par i m h2;omega)];exact hp1,hp2⟩
  ·exact⟨D,by rw[hp,Nat.add_sub_cancel,List.getElem?_append_left hdl];exact hD,hDd⟩
 ·obtain⟨r,h1,h2⟩:=h.root
  exact⟨r,by rw[List.getElem?_append_left (List.getElem?_eq_some_iff.1 h1).1];exact h1,h2⟩
 ·intro i m hi h0 h1
  rcases hlt i m hi with⟨h3,h4⟩|⟨rfl,rfl⟩
  ·exact h.top i m h4 h0 h1
  ·omega
 ·intro i m hi h0 h1
  rcases hlt i m hi with⟨h3,h4⟩|⟨rfl,rfl⟩
  ·exact h.name i m h4 h0 h1
  ·exact hnm
def newPn (d:Nat) (nm:ByteArray) (is:Bool):Pn:=⟨d,nm,is,[],.slice none 0 0,0,false⟩
structure Made (A:Adr) (T:List Pn) (t:TN) (tb d:Nat) (nm:ByteArray) (is:Bool) (w:World) (nb mb:Nat) (w':World):Prop where
 tree:PTree w' (A.add (T.length+1) nb mb) (T++[newPn d nm is])
 block:Blk w' tb ({t with inodes:=t.inodes+1}.cells (A.add (T.length+1) nb mb)) 185
 keep:Keep (λq=>q=tb∨q=A.mb d) w w'
 nbge:w.heap.size≤nb
 mbge:w.heap.size≤mb
theorem make_full (tb:Nat) (A:Adr) (t:TN) (d:Nat) (nm:ByteArray) (is:Bool) (w:World) (hT:Blk w tb (t.cells A) 185) (ht:t.ok) (hf:roomB t 1 0=false) :
 Calls Tryz.prog 65 #[.pointer (some ⟨tb,0,none⟩),.agg #[A.ptr d,.string nm,.pointer none],.bool is] w λe w'=>e=.returned (.tuple #[.pointer none,errN 12])∧Bel w w':=by
 have HR:=xh λW hW=>hf▸room_bel tb A t 1 0 W (hT.bel hW) ht (by omega) (by omega)
 obtain⟨p,hp⟩:∃p,A.at_ d=p:=⟨_,rfl⟩
 have hpp:A.ptr d=.pointer p:=by rw[←hp];rfl
 rw[hpp]
 clear hT ht hf hp hpp
 go_enter Tryz.func65,Tryz.ntmps65
 go_upto_region 1 with fail
 have k1:Bel w (w.alloc (.cells #[.pointer p,.string nm,.pointer none] 190)):=Bel.start w _
 generalize w.alloc (.cells #[.pointer p,.string nm,.pointer none] 190)=w1 at *
 have K1:=xh k1
 clear k1
 go_wp2_with (go_at_call 67;((with_reducible refine Calls.mono (HR.out w1 K1.out) ?_);rintro e w2 ⟨rfl,kd⟩))
 go_ret2
 exact⟨rfl,K1.out.tr kd⟩
theorem make_ok (tb:Nat) (A:Adr) (T:List Pn) (t:TN) (d:Nat) (D:Pn) (nm:ByteArray) (is:Bool) (w:World) (hT:Blk w tb (t.cells A) 185) (hP:PTree w A T) (ht:t.ok) (hf:roomB t 1 0=true)
 (hD:T[d]?=some D) (hDd:D.dir=true) (hnew:child (nds T) (d+1) nm=0) (hnm:nameOk nm.data.toList=true∧(47:UInt8)∉nm.data.toList) (hfew:T.length+1≤100000) :
 Calls Tryz.prog 65 #[.pointer (some ⟨tb,0,none⟩),.agg #[A.ptr (d+1),.string nm,.pointer none],.bool is] w λe w'=>∃nb mb,e=.returned (.tuple #[.pointer (some ⟨nb,0,none⟩),.nilIface])∧Made A T t tb (d+1) nm is w nb mb w':=by
 have HR:=xh λW hW=>hf▸room_bel tb A t 1 0 W (hT.bel hW) ht (by omega) (by omega)
 have HTI:=xh ht
 have hdl:d<T.length:=(List.getElem?_eq_some_iff.1 hD).1
 have hti:=ht.inodes
 obtain⟨p,hp⟩:∃p,A.at_ (d+1)=some ⟨p,0,none⟩:=⟨A.nb (d+1),by simp[Adr.at_]⟩
 have hpe:p=A.nb (d+1):=by have:some (⟨A.nb (d+1),0,none⟩:Addr)=some ⟨p,0,none⟩:=by rw[←hp];simp[Adr.at_]
                           injection this with h;injection h with h;exact h.symm
 have hpp:A.ptr (d+1)=.pointer (some ⟨p,0,none⟩):=by rw[←hp];rfl
 rw[hpp]
 have cI:w.cell? ⟨p,2,none⟩=some (.map (some (A.mb (d+1)))):=by
  have:=(hP.node d D hD).cell 2
  rw[←hpe]at this
  rw[this]
  simp[Pn.cells,Pn.map,hDd]
 have HCI:=xh cI
 have HT:=xh hT
 have HPT:=xh hP
 have HD:=xh hD
 have HDD:=xh hDd
 have HNEW:=xh hnew
 have HNM:=xh hnm
 have HPP:=xh hpp
 have HPE:=xh hpe
 clear hT ht hf hp hpp hP hD hDd hnew hnm hpe cI
 go_enter Tryz.func65,Tryz.ntmps65
 go_upto_region 1 with fail
 have k1:Bel w (w.alloc (.cells #[.pointer (some ⟨p,0,none⟩),.string nm,.pointer none] 190)):=Bel.start w _
 have B1:=Blk.new w [.pointer (some ⟨p,0,none⟩),.string nm,.pointer none] 190
 generalize w.alloc (.cells #[.pointer (some ⟨p,0,none⟩),.string nm,.pointer none] 190)=w1 at *
 obtain⟨g4,hg4⟩:∃g,w.heap.size=g:=⟨_,rfl⟩
 rw[hg4]at B1⊢
 have HG4:=xh hg4
 have HB1:=xh B1
 have K1:=xh k1
 clear k1 B1 hg4
 go_upto_region 3 with(go_at_call 67;((with_reducible refine Calls.mono (HR.out w1 K1.out) ?_);rintro e w2 ⟨rfl,kd⟩))
 have B2:=HB1.out.bel kd
 have c0:w2.cell? ⟨g4,0,none⟩=some (.pointer (some ⟨p,0,none⟩)):=B2.cell 0
 have c1:w2.cell? ⟨g4,1,none⟩=some (.string nm):=B2.cell 1
 have HB2:=xh B2
 have K2:=xh (K1.out.tr kd)
 clear B2 kd HB1
 go_upto_region 4 with fail
 have k3:Bel w2 (w2.alloc (.cells #[.string nm,.pointer (some ⟨p,0,none⟩),.map none,.slice none 0 0,.int .i64 0,.bool false] 183)):=Bel.start w2 _
 have B3:=Blk.new w2 [.string nm,.pointer (some ⟨p,0,none⟩),.map none,.slice none 0 0,.int .i64 0,.bool false] 183
 generalize w2.alloc (.cells #[.string nm,.pointer (some ⟨p,0,none⟩),.map none,.slice none 0 0,.int .i64 0,.bool false] 183)=w3 at *
 obtain⟨nb,hnb⟩:∃g,w2.heap.size=g:=⟨_,rfl⟩
 rw[hnb]at B3⊢
 have hnbge:w.heap.size≤nb:=by rw[←hnb];exact K2.out.size
 have HB3:=xh B3
 have K3:=xh (K2.out.tr k3)
 have HBG3:=xh (HB2.out.bel k3)
 have hl3:=B3.lt
 have f3:=B3.frozen
 have hg4n:g4<nb:=by rw[←hnb];exact HB2.out.lt
 clear k3 B3 hnb c0 c1
 have HBT3:=xh (HT.out.bel K3.out)
 have HPT3:=xh (HPT.out.bel K3.out)
 have cI3:w3.cell? ⟨p,2,none⟩=some (.map (some (A.mb (d+1)))):=cell_bel K3.out HCI.out
 have cg0:w3.cell? ⟨g4,0,none⟩=some (.pointer (some ⟨p,0,none⟩)):=HBG3.out.cell 0
 have cg1:w3.cell? ⟨g4,1,none⟩=some (.string nm):=HBG3.out.cell 1
 have ct1:w3.cell? ⟨tb,1,none⟩=some (.int .i64 (t.inodes:Int)):=HBT3.out.cell 1
 have ft:=HBT3.out.frozen
 have hnm1:nm.size≤maxLen:=by
  have:=HNM.out.1
  simp only[nameOk,Bool.and_eq_true,decide_eq_true_eq]at this
  have h2:nm.data.toList.length=nm.size:=by simp
  rw[h2]at this
  unfold maxLen
  omega
 have hpn:p≠nb:=by have:=World.block_lt_of_cell? _ _ HCI.out;simp at this;omega
 cases is with
 | false=>
   have HB4:Hid (Blk w3 nb ((newPn (d+1) nm false).cells (A.add (T.length+1) nb w.heap.size) (T.length+1)) 183):=xh (by
    have:=HB3.out
    rw[←HPP.out,ptr_congr (A:=A) (B:=A.add (T.length+1) nb w.heap.size) λ_=>(Adr.add_nb _ _ _ _ _ (by omega)).symm]at this
    exact this)
   have HPT4:=HPT3
   have HBT4:=HBT3
   have K4:=K3
   have HMB:Hid (w.heap.size≤w.heap.size):=xh (Nat.le_refl _)
   have cI4:=cI3
   clear cI3
   generalize w3=w4 at *
   have hkd:=(HPT4.out.bel (Bel.drew (Bel.refl w4))).kids d D HD.out HDD.out
   obtain⟨es,clock,hup0,hmp⟩:=hkd.update keyedS Tryz.underlying181 nm hnm1 (.pointer (some ⟨nb,0,none⟩))
   have hup:(Instr.mapUpdate 181 (.map (some (A.mb (d+1)))) (.string nm) (.pointer (some ⟨nb,0,none⟩))).run Tryz.prog w4.drew=.ok () (Go.ChangeMaps.setBlock w4.drew (A.mb (d+1)) (.map es clock)):=hup0
   obtain⟨es0,clock0,hb0,_⟩:=hkd
   clear hup0
   have HKB:=xh (Keep.setBlock hb0 (.map es clock))
   have HMP:=xh hmp
   have hne:p≠A.mb (d+1):=λe=>by
    have h1:=(HPT4.out.node d D HD.out).ne_map (HPT4.out.kids d D HD.out HDD.out)
    exact h1 (HPE.out.symm.trans e)
   clear hmp hb0
   go_upto_region 6 with fail
   go_still_tail 8,(by kernel_rfl)
   change wpList _ _ _ _ _ w4.drew
   have HKD:Hid (Bel w4 w4.drew):=xh (Bel.drew (Bel.refl w4))
   generalize w4.drew=wd at *
   clear cI4 cg0 cg1 ct1
   go_upto_region 7 with fail
   generalize Go.ChangeMaps.setBlock wd (A.mb (d+1)) (.map es clock)=w5 at *
   have HBT5:Hid (Blk w5 tb (t.cells A) 185):=xh ((HBT4.out.bel HKD.out).keep HKB.out (λe=>((HBT4.out.ne_map (HPT4.out.kids d D HD.out HDD.out)) e).elim))
   have ct1:w5.cell? ⟨tb,1,none⟩=some (.int .i64 (t.inodes:Int)):=HBT5.out.cell 1
   have ft:=HBT5.out.frozen
   have hlt5:=HBT5.out.lt
   have hi1:(0:Int)≤(t.inodes:Int)∧(t.inodes:Int)≤1000000:=by omega
   clear hup
   go_wp2
   go_ret2
   have hK:Keep (λq=>q=tb∨q=A.mb (d+1)) w (w5.setCell ⟨tb,1,none⟩ (.int .i64 ((t.inodes:Int)+1))):=
    ((Keep.of_bel _ (K4.out.tr HKD.out)).tr (HKB.out.mono λ_ h=>.inr h)).tr ((Keep.setCell w5 tb 1 _).mono λ_ h=>.inl h)
   refine⟨nb,w.heap.size,rfl,?_,?_,hK,hnbge,HMB.out⟩
   ·have hn5:Blk w5 nb ((newPn (d+1) nm false).cells (A.add (T.length+1) nb w.heap.size) (T.length+1)) 183:=
     (HB4.out.bel HKD.out).keep HKB.out (λe=>by have:=HPT.out.foot_lt ⟨d,D,HD.out,.inr (.inl ⟨HDD.out,rfl⟩)⟩;omega)
    refine HPT.out.add d D HD.out HDD.out (newPn (d+1) nm false) nb w.heap.size rfl ⟨rfl,rfl⟩ rfl HNEW.out HNM.out hfew (hn5.setCell_other ?_ _) hnbge ?_ (λ_=>HMB.out) (HMP.out.setCell _) hK ?_
    ·have:=HB4.out.ne HBT4.out (by decide);exact this
    ·intro h;cases h
    ·rintro q hq (rfl|rfl)
     ·exfalso
      obtain⟨i,m,hi,h1|⟨hd,h1⟩|h1⟩:=hq
      ·exact(HT.out.ne (HPT.out.node i m hi) (by decide)) h1
      ·exact(HT.out.ne_map (HPT.out.kids i m hi hd)) h1
      ·obtain⟨_,cur,hb⟩:=(HPT.out.byts i m hi).lt h1
       exact(HT.out.ne hb (by decide)) rfl
     ·rfl
   ·have:=HBT5.out.setCell (o:=1) (.int .i64 ((t.inodes:Int)+1))
    have e:({t with inodes:=t.inodes+1}:TN).cells (A.add (T.length+1) nb w.heap.size)=(t.cells A).set 1 (.int .i64 ((t.inodes:Int)+1)):=by
     simp only[TN.cells,List.set_cons_succ,List.set_cons_zero]
     rw[ptr_congr (A:=A.add (T.length+1) nb w.heap.size) (B:=A) λ_=>Adr.add_nb _ _ _ _ _ (by omega)]
     rfl
    rw[e];exact this
 | true=>
   have hmm:∀w,(Instr.makeMap 181 none).run Tryz.prog w=.ok (.map (some w.heap.size)) (w.alloc (.map #[] 0)):=λw=>by kernel_rfl
   have f3b:∀o,(w3.alloc (.map #[] 0)).frozen? ⟨nb,o,none⟩=false:=λo=>((HB3.out.alloc (.map #[] 0)).frozen o)
   have c3b:(w3.alloc (.map #[] 0)).cell? ⟨nb,2,none⟩=some (.map none):=(HB3.out.alloc (.map #[] 0)).cell 2
   go_upto_region 6 with fail
   have B4:=(HB3.out.setCell (o:=2) (.map (some w3.heap.size))).alloc (.map #[] 0)
   have k4:Bel w ((w3.setCell ⟨nb,2,none⟩ (.map (some w3.heap.size))).alloc (.map #[] 0)):=(K3.out.store (p:=⟨nb,2,none⟩) hnbge _).ac _
   have M4:Mp keyS ((w3.setCell ⟨nb,2,none⟩ (.map (some w3.heap.size))).alloc (.map #[] 0)) w3.heap.size []:=by
    have:=Mp.new keyS (w3.setCell ⟨nb,2,none⟩ (.map (some w3.heap.size)))
    rw[show(w3.setCell ⟨nb,2,none⟩ (.map (some w3.heap.size))).heap.size=w3.heap.size from by simp[World.setCell]]at this
    exact this
   have G4:=(HBG3.out.setCell_other (a:=⟨nb,2,none⟩) (by show g4≠nb;omega) (.map (some w3.heap.size))).alloc (.map #[] 0)
   generalize (w3.setCell ⟨nb,2,none⟩ (.map (some w3.heap.size))).alloc (.map #[] 0)=w4 at *
   obtain⟨mb,hmb⟩:∃g,w3.heap.size=g:=⟨_,rfl⟩
   rw[hmb]at B4 M4⊢
   have HMB:Hid (w.heap.size≤mb):=xh (by rw[←hmb];exact K3.out.size)
   have HM4:=xh M4
   have K4:=xh k4
   have hl3m:w3.heap.size≤mb:=by omega
   have HB4:Hid (Blk w4 nb ((newPn (d+1) nm true).cells (A.add (T.length+1) nb mb) (T.length+1)) 183):=xh (by
    have:=B4
    rw[←HPP.out,ptr_congr (A:=A) (B:=A.add (T.length+1) nb mb) λ_=>(Adr.add_nb _ _ _ _ _ (by omega)).symm]at this
    simp[newPn,Pn.cells,Pn.map,Adr.add]at this⊢
    exact this)
   have HPT4:=xh (HPT.out.bel K4.out)
   have HBT4:=xh (HT.out.bel K4.out)
   have cI4:w4.cell? ⟨p,2,none⟩=some (.map (some (A.mb (d+1)))):=cell_bel K4.out HCI.out
   have cg0:w4.cell? ⟨g4,0,none⟩=some (.pointer (some ⟨p,0,none⟩)):=G4.cell 0
   have cg1:w4.cell? ⟨g4,1,none⟩=some (.string nm):=G4.cell 1
   clear B4 k4 M4 G4 hmb hmm f3b c3b ct1 ft f3
   have hkd:=(HPT4.out.bel (Bel.drew (Bel.refl w4))).kids d D HD.out HDD.out
   obtain⟨es,clock,hup0,hmp⟩:=hkd.update keyedS Tryz.underlying181 nm hnm1 (.pointer (some ⟨nb,0,none⟩))
   have hup:(Instr.mapUpdate 181 (.map (some (A.mb (d+1)))) (.string nm) (.pointer (some ⟨nb,0,none⟩))).run Tryz.prog w4.drew=.ok () (Go.ChangeMaps.setBlock w4.drew (A.mb (d+1)) (.map es clock)):=hup0
   obtain⟨es0,clock0,hb0,_⟩:=hkd
   clear hup0
   have HKB:=xh (Keep.setBlock hb0 (.map es clock))
   have HMP:=xh hmp
   have hne:p≠A.mb (d+1):=λe=>by
    have h1:=(HPT4.out.node d D HD.out).ne_map (HPT4.out.kids d D HD.out HDD.out)
    exact h1 (HPE.out.symm.trans e)
   clear hmp hb0
   go_still_tail 8,(by kernel_rfl)
   change wpList _ _ _ _ _ w4.drew
   have HKD:Hid (Bel w4 w4.drew):=xh (Bel.drew (Bel.refl w4))
   generalize w4.drew=wd at *
   clear cI4 cg0 cg1
   go_upto_region 7 with fail
   generalize Go.ChangeMaps.setBlock wd (A.mb (d+1)) (.map es clock)=w5 at *
   have HBT5:Hid (Blk w5 tb (t.cells A) 185):=xh ((HBT4.out.bel HKD.out).keep HKB.out (λe=>((HBT4.out.ne_map (HPT4.out.kids d D HD.out HDD.out)) e).elim))
   have ct1:w5.cell? ⟨tb,1,none⟩=some (.int .i64 (t.inodes:Int)):=HBT5.out.cell 1
   have ft:=HBT5.out.frozen
   have hlt5:=HBT5.out.lt
   have hi1:(0:Int)≤(t.inodes:Int)∧(t.inodes:Int)≤1000000:=by omega
   clear hup
   go_wp2
   go_ret2
   have hK:Keep (λq=>q=tb∨q=A.mb (d+1)) w (w5.setCell ⟨tb,1,none⟩ (.int .i64 ((t.inodes:Int)+1))):=
    ((Keep.of_bel _ (K4.out.tr HKD.out)).tr (HKB.out.mono λ_ h=>.inr h)).tr ((Keep.setCell w5 tb 1 _).mono λ_ h=>.inl h)
   refine⟨nb,mb,rfl,?_,?_,hK,hnbge,HMB.out⟩
   ·have hn5:Blk w5 nb ((newPn (d+1) nm true).cells (A.add (T.length+1) nb mb) (T.length+1)) 183:=
     (HB4.out.bel HKD.out).keep HKB.out (λe=>by have:=HPT.out.foot_lt ⟨d,D,HD.out,.inr (.inl ⟨HDD.out,rfl⟩)⟩;omega)
    refine HPT.out.add d D HD.out HDD.out (newPn (d+1) nm true) nb mb rfl ⟨rfl,rfl⟩ rfl HNEW.out HNM.out hfew (hn5.setCell_other ?_ _) hnbge ?_ (λ_=>HMB.out) (HMP.out.setCell _) hK ?_
    ·have:=HB4.out.ne HBT4.out (by decide);exact this
    ·intro _
     have h1:A.mb (d+1)≠mb:=λe=>by have:=HPT.out.foot_lt ⟨d,D,HD.out,.inr (.inl ⟨HDD.out,rfl⟩)⟩;have:=HMB.out;omega
     exact((HM4.out.bel HKD.out).of_block (HKB.out.block _ (HM4.out.bel HKD.out).lt (λe=>h1 e.symm))).setCell _
    ·rintro q hq (rfl|rfl)
     ·exfalso
      obtain⟨i,m,hi,h1|⟨hd,h1⟩|h1⟩:=hq
      ·exact(HT.out.ne (HPT.out.node i m hi) (by decide)) h1
      ·exact(HT.out.ne_map (HPT.out.kids i m hi hd)) h1
      ·obtain⟨_,cur,hb⟩:=(HPT.out.byts i m hi).lt h1
       exact(HT.out.ne hb (by decide)) rfl
     ·rfl
   ·have:=HBT5.out.setCell (o:=1) (.int .i64 ((t.inodes:Int)+1))
    have e:({t with inodes:=t.inodes+1}:TN).cells (A.add (T.length+1) nb mb)=(t.cells A).set 1 (.int .i64 ((t.inodes:Int)+1)):=by
     simp only[TN.cells,List.set_cons_succ,List.set_cons_zero]
     rw[ptr_congr (A:=A.add (T.length+1) nb mb) (B:=A) λ_=>Adr.add_nb _ _ _ _ _ (by omega)]
     rfl
    rw[e];exact this
def Nd.sk (n:Nd):Nd:={n with bv:=emptyB}
def sks (L:List Nd):List Nd:=L.map Nd.sk
def sumB (N:List Nd):Nat:=(N.map λn=>n.byt.length).sum
theorem childF_sk (d:Nat) (s:ByteArray):∀(i:Nat) (L:List Nd),childF d s i (sks L)=childF d s i L
 | _,[]=>rfl
 | i,n::L=>by
   have ih:=childF_sk d s (i+1) L
   unfold sks at *
   simp only[List.map_cons,childF,ih]
   rfl
theorem child_sk (L:List Nd) (d:Nat) (s:ByteArray):child (sks L) d s=child L d s:=childF_sk d s 0 L
theorem isDir_sk (L:List Nd) (n:Nat):isDir (sks L) n=isDir L n:=by
 unfold isDir sks
 rw[List.getElem?_map]
 cases L[n-1]?<;>rfl
theorem walkF_sk (L:List Nd):∀(l:List (List UInt8)) (d:Nat),walkF (sks L) d l=walkF L d l
 | [],_=>rfl
 | [x],d=>by simp only[walkF,child_sk]
 | x::y::t,d=>by
   have ih:=walkF_sk L (y::t) (child L d ⟨x.toArray⟩)
   simp only[walkF,child_sk,isDir_sk,ih]
theorem docWalk_sk (L:List Nd) (s:List UInt8):docWalk (sks L) s=docWalk L s:=by
 unfold docWalk
 cases pathOf s with
 | none=>rfl
 | some l=>exact walkF_sk L l 1
theorem walkF_spec (L:List Nd):∀(l:List (List UInt8)) (d:Nat),l≠[]→d≠0→isDir L d=true→(walkF L d l).2.2.2=0→
 (walkF L d l).1≠0∧isDir L (walkF L d l).1=true∧(walkF L d l).2.2.1=child L (walkF L d l).1 (walkF L d l).2.1∧∃x∈l,(walkF L d l).2.1=⟨x.toArray⟩
 | [],_,h,_,_,_=>absurd rfl h
 | [x],d,_,hd,hi,_=>⟨hd,hi,rfl,x,by simp,rfl⟩
 | x::y::t,d,_,hd,hi,he=>by
   simp only[walkF]at he⊢
   by_cases h0:child L d ⟨x.toArray⟩=0
   ·rw[if_pos h0]at he;cases he
   ·rw[if_neg h0]at he⊢
    cases hc:isDir L (child L d ⟨x.toArray⟩)with
    | false=>rw[hc]at he;cases he
    | true=>
      rw[hc]at he
      simp only[if_true]at he⊢
      obtain⟨h1,h2,h3,z,h4,h5⟩:=walkF_spec L (y::t) _ (by simp) h0 hc he
      exact⟨h1,h2,h3,z,by simp only[List.mem_cons]at h4⊢;exact .inr h4,h5⟩
theorem isDir_lt {L:List Nd} {n:Nat} (h:isDir L n=true):∃x,L[n-1]?=some x∧x.dir=true:=by
 unfold isDir at h
 cases hx:L[n-1]? with
 | none=>rw[hx]at h;cases h
 | some x=>rw[hx]at h;exact⟨x,rfl,h⟩
theorem docWalk_new {L:List Nd} {s:List UInt8} (hr:isDir L 1=true) (he:(docWalk L s).2.2.2=0) (hn:(docWalk L s).2.2.1=0) :
 (docWalk L s).1≠0∧isDir L (docWalk L s).1=true∧child L (docWalk L s).1 (docWalk L s).2.1=0∧nameOk (docWalk L s).2.1.data.toList=true∧(47:UInt8)∉(docWalk L s).2.1.data.toList:=by
 unfold docWalk at *
 cases hp:pathOf s with
 | none=>rw[hp]at he;cases he
 | some l=>
   rw[hp]at he hn
   simp only at he hn⊢
   have hne:l≠[]:=by
    rintro rfl
    cases hn
   obtain⟨h1,h2,h3,x,h4,h5⟩:=walkF_spec L l 1 hne (by decide) hr he
   refine⟨h1,h2,by rw[←h3];exact hn,?_⟩
   rw[h5]
   simp only[List.toList_toArray]
   cases s with
   | nil=>cases hp
   | cons b r=>
     rw[pathOf_cons]at hp
     split at hp
     ·split at hp
      ·cases hp;cases h4
      ·split at hp
       ·cases hp
        rename_i ha
        exact⟨List.all_eq_true.1 ha x h4,splitOn_no 47 r x h4⟩
       ·cases hp
     ·cases hp
theorem docWalk_old {L:List Nd} {s:List UInt8} (hr:isDir L 1=true) (he:(docWalk L s).2.2.2=0):(docWalk L s).2.2.1≤L.length:=by
 have h1:1≤L.length:=by
  obtain⟨x,hx,_⟩:=isDir_lt hr
  have:=(List.getElem?_eq_some_iff.1 hx).1
  omega
 unfold docWalk at *
 cases hp:pathOf s with
 | none=>simp
 | some l=>
   rw[hp]at he
   simp only at he⊢
   by_cases hne:l=[]
   ·subst hne;exact h1
   ·obtain⟨_,_,h3,_⟩:=walkF_spec L l 1 hne (by decide) hr he
    rw[h3];exact child_le _ _ _
def putB (mb:Nat) (N:List Nd) (n:Nat) (b:List Int):Nat×List Nd:=
 match N[n-1]? with
 | none=>(11,N)
 | some x=>if x.dir then(11,N)else if 0<b.length∧mb<sumB N+(b.length-x.byt.length)then(12,N)else(0,N.set (n-1) {x with byt:=b++x.byt.drop b.length})
def mkF (mi:Nat) (N:List Nd) (path:List UInt8):Nat×List Nd:=
 if (docWalk N path).2.2.2≠0 then((docWalk N path).2.2.2,N)else if (docWalk N path).2.2.1≠0 then(10,N)else if mi≤N.length then(12,N)
 else(0,N++[⟨(docWalk N path).1,(docWalk N path).2.1,true,[],emptyB⟩])
def fileF (mi mb:Nat) (N:List Nd) (path:List UInt8) (is:Bool) (b:List Int):Nat×List Nd:=
 if is then mkF mi N path
 else if (docWalk N path).2.2.2≠0 then((docWalk N path).2.2.2,N)
 else if (docWalk N path).2.2.1=0 then
  if mi≤N.length then(12,N)else putB mb (N++[⟨(docWalk N path).1,(docWalk N path).2.1,false,[],emptyB⟩]) (N.length+1) b
 else putB mb N (docWalk N path).2.2.1 b
structure PT (w:World) (tb:Nat) (A:Adr) (T:List Pn) (mi mb:Nat):Prop where
 tree:PTree w A T
 block:Blk w tb ((⟨T.length,sumB (nds T),mi,mb⟩:TN).cells A) 185
 few:T.length≤mi
 small:sumB (nds T)≤mb
 mi:mi≤100000
 mb:mb≤100000
def Foot (tb:Nat) (A:Adr) (T:List Pn) (q:Nat):Prop:=q=tb∨TFoot A T q
theorem PT.ok {w:World} {tb:Nat} {A:Adr} {T:List Pn} {mi mb:Nat} (h:PT w tb A T mi mb):(⟨T.length,sumB (nds T),mi,mb⟩:TN).ok:=
 ⟨by have:=h.few;have:=h.mi;show T.length≤_;omega,by have:=h.small;have:=h.mb;show sumB (nds T)≤_;omega,by have:=h.mi;show -10000000≤((mi:Nat):Int)∧((mi:Nat):Int)≤10000000;omega,by have:=h.mb;show -10000000≤((mb:Nat):Int)∧((mb:Nat):Int)≤10000000;omega⟩
theorem PT.foot_lt {w:World} {tb:Nat} {A:Adr} {T:List Pn} {mi mb:Nat} (h:PT w tb A T mi mb) {q:Nat} (hq:Foot tb A T q):q<w.heap.size:=by
 rcases hq with rfl|hq
 ·exact h.block.lt
 ·exact h.tree.foot_lt hq
theorem PT.keep {S:Nat→Prop} {w w':World} {tb:Nat} {A:Adr} {T:List Pn} {mi mb:Nat} (h:PT w tb A T mi mb) (k:Keep S w w') (hs:∀q,Foot tb A T q→¬S q):PT w' tb A T mi mb:=
 ⟨h.tree.keep k λq hq=>hs q (.inr hq),h.block.keep k (hs _ (.inl rfl)),h.few,h.small,h.mi,h.mb⟩
theorem PT.bel {w w':World} {tb:Nat} {A:Adr} {T:List Pn} {mi mb:Nat} (h:PT w tb A T mi mb) (k:Bel w w'):PT w' tb A T mi mb:=h.keep (Keep.of_bel (λ_=>False) k) (λ_ _ h=>h)
theorem PTree.isRoot {w:World} {A:Adr} {T:List Pn} (h:PTree w A T):isDir (nds T) 1=true:=by
 obtain⟨r,h0,_,h1,_⟩:=h.root
 rw[nd_dir T 0 r h0];exact h1
theorem nds_app (T U:List Pn):nds (T++U)=nds T++nds U:=by simp[nds]
theorem sumB_app (N M:List Nd):sumB (N++M)=sumB N+sumB M:=by simp[sumB]
structure PStep (w:World) (tb:Nat) (A:Adr) (T:List Pn) (mi mb:Nat) (N':List Nd) (A':Adr) (T':List Pn) (w':World):Prop where
 pt:PT w' tb A' T' mi mb
 nds:nds T'=N'
 keep:Keep (Foot tb A T) w w'
 foot:∀q,Foot tb A' T' q→Foot tb A T q∨w.heap.size≤q
theorem PStep.refl {w w':World} {tb:Nat} {A:Adr} {T:List Pn} {mi mb:Nat} (h:PT w tb A T mi mb) (k:Bel w w'):PStep w tb A T mi mb (Go.Proofs.YtjdaddmjpicflaaGreatDoor.nds T) A T w':=⟨h.bel k,rfl,Keep.of_bel _ k,λ_ h=>.inl h⟩
theorem PStep.tr {w w1 w2:World} {tb:Nat} {A A1 A2:Adr} {T T1 T2:List Pn} {mi mb:Nat} {N1 N2:List Nd} (h:PStep w tb A T mi mb N1 A1 T1 w1) (k:PStep w1 tb A1 T1 mi mb N2 A2 T2 w2):PStep w tb A T mi mb N2 A2 T2 w2:=
 ⟨k.pt,k.nds,h.keep.tr_new k.keep h.foot,λq hq=>by
   rcases k.foot q hq with h1|h1
   ·exact h.foot q h1
   ·exact .inr (Nat.le_trans h.keep.size h1)⟩
theorem Made.step {w w':World} {A:Adr} {T:List Pn} {tb d nb mb mi mx:Nat} {nm:ByteArray} {is:Bool} (h:PT w tb A T mi mx) (D:Pn) (hD:T[d]?=some D) (hDd:D.dir=true) (hroom:T.length<mi)
 (k:Made A T ⟨T.length,sumB (nds T),mi,mx⟩ tb (d+1) nm is w nb mb w'):PStep w tb A T mi mx (nds T++[⟨d+1,nm,is,[],emptyB⟩]) (A.add (T.length+1) nb mb) (T++[newPn (d+1) nm is]) w':=by
 have hn:nds (T++[newPn (d+1) nm is])=nds T++[⟨d+1,nm,is,[],emptyB⟩]:=by rw[nds_app];rfl
 have hs:sumB (nds (T++[newPn (d+1) nm is]))=sumB (nds T):=by rw[hn,sumB_app];rfl
 refine⟨⟨k.tree,?_,by simp;omega,by rw[hs];exact h.small,h.mi,h.mb⟩,hn,?_,?_⟩
 ·rw[hs]
  have:=k.block
  simpa using this
 ·exact k.keep.mono λq hq=>by
   rcases hq with rfl|rfl
   ·exact .inl rfl
   ·exact .inr ⟨d,D,hD,.inr (.inl ⟨hDd,rfl⟩)⟩
 ·rintro q (rfl|⟨i,m,hi,hq⟩)
  ·exact .inl (.inl rfl)
  ·by_cases h1:i<T.length
   ·rw[List.getElem?_append_left h1]at hi
    rw[Adr.add_nb _ _ _ _ _ (by omega),Adr.add_mb _ _ _ _ _ (by omega)]at hq
    exact .inl (.inr ⟨i,m,hi,hq⟩)
   ·rw[List.getElem?_append_right (by omega)]at hi
    have h2:=(List.getElem?_eq_some_iff.1 hi).1
    simp at h2
    have e:i=T.length:=by omega
    subst e
    simp at hi
    subst hi
    right
    rcases hq with rfl|⟨_,rfl⟩|hq
    ·simp[Adr.add];exact k.nbge
    ·simp[Adr.add];exact k.mbge
    ·cases hq
end Go.Proofs.YtjdaddmjpicflaaGreatDoor
