/-.-/
import Derived.Deep.RegionHeld3
import Derived.Lib.Hide
set_option linter.all false
set_option maxRecDepth 100000
set_option maxHeartbeats 16000000
namespace Go.Proofs
theorem fe{α:Type}{a:Option α}{f g:α}(h:a=some f)(e:f=g):a=some g:=h.trans (congrArg some e)
end Go.Proofs
namespace Go.Proofs.YtcnjjchlebmfiaaGreatDoor
def Hid(p:Prop):Prop:=p
theorem Hid.o{p:Prop}(h:Hid p):p:=h
theorem Hid.out{p:Prop}(h:Hid p):p:=h
theorem xh{p:Prop}(h:p):Hid p:=h
theorem xk{p:Prop}(h:p):RowKit.Hid p:=h
instance:Coe Nat Value:=⟨λn=>.pointer (some ⟨n,0,none⟩)⟩
instance:Coe Int Value:=⟨λn=>.int .i64 n⟩
instance:Coe ByteArray Value:=⟨λn=>.string n⟩
instance:Coe Bool Value:=⟨λn=>.bool n⟩
instance:Coe Unit Value:=⟨λ_=>.slice none 0 0⟩
instance(p:Option Addr)(n c:Nat):CoeDep (Option Addr×Nat×Nat) (p,n,c) Value:=⟨.slice p n c⟩
instance(b o:Nat):CoeDep (Nat×Nat) (b,o) Addr:=⟨⟨b,o,none⟩⟩
instance(b o:Nat):CoeDep (Nat×Nat) (b,o) (Option Addr):=⟨some ⟨b,o,none⟩⟩
inductive Z where
 | b (v:Value) (w:World)
 | e (v:Value) (w:World)
instance (v w):CoeDep Z (.e v w) (Ending→World→Prop):=⟨λe w'=>e=.returned v∧w=w'⟩
theorem bV{α:Type _}{l:List α}{i:Nat}{a:α}(h:l[i]?=some a):∃h:i<l.length,l[i]=a:=List.getElem?_eq_some_iff.1 h
theorem bT{α:Type _}{l:List α}{i:Nat}(h:i<l.length):l[i]?=some l[i]:=List.getElem?_eq_getElem h
theorem fA{α:Type _}{β:Type _}{f:α→β}{l:List α}{i:Nat}:(l.map f)[i]?=(l[i]?).map f:=List.getElem?_map
theorem bU{a b c:Nat}(h:a≤b)(k:b≤c):a≤c:=Nat.le_trans h k
theorem bM(n:Nat):n≤n:=Nat.le_refl n
theorem jE{α:Type _}{β:Type _}{l:List α}(f:α→β):(l.map f).length=l.length:=List.length_map f
theorem aH{P:Program}{f:FuncId}{args:Array Value}{w:World}{R R':Ending→World→Prop}(h:Calls P f args w R)(hr:∀e w',R e w'→R' e w'):Calls P f args w R':=h.mono hr
theorem e_x{α:Sort _}(x:α):∃y,x=y:=⟨_,rfl⟩
theorem dK{α:Type}[BEq α][LawfulBEq α]{a b:α}(h:a≠b):(a==b)=false:=beq_eq_false_iff_ne.2 h
theorem lits{α:Type}:(∀(l:List α) (i:Nat) (a:α),l.toArray.setIfInBounds i a=(l.set i a).toArray)∧(∀(a b:α) (l:List α),(a::l).set 0 b=b::l)∧
 (∀(a b:α) (l:List α) (n:Nat),(a::l).set (n+1) b=a::l.set n b)∧(∀(l:List α) (i:Nat) (h:i<l.toArray.size),l.toArray[i]'h=l[i]'(by simpa using h))∧
 (∀(a:α) (l:List α) (h:0<(a::l).length),(a::l)[0]'h=a)∧(∀(a:α) (l:List α) (i:Nat) (h:i+1<(a::l).length),(a::l)[i+1]'h=l[i]'(by simpa using h)):=
 ⟨λ_ _ _=>by simp,λ_ _ _=>rfl,λ_ _ _ _=>rfl,λ_ _ _=>by simp,λ_ _ _=>rfl,λ_ _ _ _=>rfl⟩
section
variable {P:Program} {md:Region.Mode} {ops:Array Oper} {Q:Exit→Act→World→Prop} {S:World→Prop}
def UM(_:List Nat)(p:Prop):Prop:=p
theorem plan(is:List Nat){p:Prop}(h:UM is p):p:=h
theorem iI{p:Prop}(h:p):UM [] p:=h
theorem tk{i:Nat}{is:List Nat}{oi:Oper}{v:Value}{f:Nat}{l:Array Bool}{a a1:Act}{w:World}(hi:ops[i]?=some oi)
 (hk:(Region.noSelect ops&&Region.free md ops l i&&(Region.ready md ops l).contains i)=true)(hw:Region.wanted oi (yielded ops a.tmps)=true)
 (hy:∀w,S w→(execOp a.eval oi).run P w=.ok (.value v) w)(hS:S w)(hQ:∀c a w,Q (.panic c) (Act.put a oi.dst v) w→Q (.panic c) a w)(ha:a.put oi.dst v=a1)
 (h:UM is (wpAnyH P md ops Q S f (l.setIfInBounds i true) a1 w)):UM (i::is) (wpAnyH P md ops Q S (f+1) l a w):=by
 simp only[Bool.and_eq_true]at hk
 subst ha;exact wpAnyH_take hi hk.1.1 hk.1.2 hk.2 hQ (Or.inl ⟨hw,hy⟩) hS h
theorem t0{Q:Exit→Act→World→Prop}{i:Nat}{is:List Nat}{oi:Oper}{v:Value}{f:Nat}{l:Array Bool}{a a1:Act}{w:World}(hi:ops[i]?=some oi)
 (hk:(Region.noSelect ops&&Region.free md ops l i&&(Region.ready md ops l).contains i&&Region.wanted oi (yielded ops a.tmps))=true)
 (hy:∀w,S w→(execOp a.eval oi).run P w=.ok (.value v) w)(hS:S w)(ha:a.put oi.dst v=a1)
 (h:UM is (wpAnyH P md ops (NoPanic Q) S f (l.setIfInBounds i true) a1 w)):UM (i::is) (wpAnyH P md ops (NoPanic Q) S (f+1) l a w):=by
 simp only[Bool.and_eq_true]at hk
 exact tk hi (by simp only[Bool.and_eq_true];exact hk.1) hk.2 hy hS (λ_ _ _ h=>h) ha h
theorem rd(i:Nat){o:Oper}{fuel:Nat}{listed:Array Bool}{a:Act}{w:World}(ho:ops[i]?=some o)(hr:Region.ready md ops listed=[i])
 (h:∀K':Act→World→Prop,Shut (∀a w,S w→(S w→wpAnyH P md ops Q S fuel (listed.setIfInBounds i true) a w)→K' a w)→if Region.wanted o (yielded ops a.tmps)=true then Oper.wp P o a w K' Q else K' (a.put o.dst undef) w) :
 wpAnyH P md ops Q S (fuel+1) listed a w:=
 wpAnyH_ready hr (by simp) (AllReadyH.cons ho h AllReadyH.nil)
end
end Go.Proofs.YtcnjjchlebmfiaaGreatDoor
