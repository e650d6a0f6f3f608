/- Operations of a region taken by hand, in few words. -/
import Derived.Deep.RegionHeld3
import Derived.Lib.Hide
set_option linter.unusedVariables false
set_option linter.unusedSimpArgs false
set_option maxRecDepth 100000
set_option maxHeartbeats 16000000
namespace Go.Proofs.YtjdaddmjpicflaaGreatDoor
theorem xh {p:Prop} (h:p):RowKit.Hid p:=h
theorem lits {α:Type}:(∀(l:List α) (i:Nat) (a:α),l.toArray.setIfInBounds i a=(l.set i a).toArray)∧(∀(a b:α) (l:List α),(a::l).set 0 b=b::l)∧
 (∀(a b:α) (l:List α) (n:Nat),(a::l).set (n+1) b=a::l.set n b)∧(∀(l:List α) (i:Nat) (h:i<l.toArray.size),l.toArray[i]'h=l[i]'(by simpa using h))∧
 (∀(a:α) (l:List α) (h:0<(a::l).length),(a::l)[0]'h=a)∧(∀(a:α) (l:List α) (i:Nat) (h:i+1<(a::l).length),(a::l)[i+1]'h=l[i]'(by simpa using h)):=
 ⟨λ_ _ _=>by simp,λ_ _ _=>rfl,λ_ _ _ _=>rfl,λ_ _ _=>by simp,λ_ _ _=>rfl,λ_ _ _ _=>rfl⟩
section
variable {P:Program} {md:Region.Mode} {ops:Array Oper} {Q:Exit→Act→World→Prop} {S:World→Prop}
def Plan (_:List Nat) (p:Prop):Prop:=p
theorem plan (is:List Nat) {p:Prop} (h:Plan is p):p:=h
theorem planned {p:Prop} (h:p):Plan [] p:=h
theorem tk {i:Nat} {is:List Nat} {oi:Oper} {v:Value} {f:Nat} {l:Array Bool} {a a1:Act} {w:World} (hi:ops[i]?=some oi)
 (hk:(Region.noSelect ops&&Region.free md ops l i&&(Region.ready md ops l).contains i)=true) (hw:Region.wanted oi (yielded ops a.tmps)=true)
 (hy:∀w,S w→(execOp a.eval oi).run P w=.ok (.value v) w) (hS:S w) (hQ:∀c a w,Q (.panic c) (Act.put a oi.dst v) w→Q (.panic c) a w) (ha:a.put oi.dst v=a1)
 (h:Plan is (wpAnyH P md ops Q S f (l.setIfInBounds i true) a1 w)):Plan (i::is) (wpAnyH P md ops Q S (f+1) l a w):=by
 simp only[Bool.and_eq_true]at hk
 subst ha
 exact wpAnyH_take hi hk.1.1 hk.1.2 hk.2 hQ (Or.inl ⟨hw,hy⟩) hS h
theorem rd (i:Nat) {o:Oper} {fuel:Nat} {listed:Array Bool} {a:Act} {w:World} (ho:ops[i]?=some o) (hr:Region.ready md ops listed=[i])
 (h:∀K':Act→World→Prop,Shut (∀a w,S w→(S w→wpAnyH P md ops Q S fuel (listed.setIfInBounds i true) a w)→K' a w)→if Region.wanted o (yielded ops a.tmps)=true then Oper.wp P o a w K' Q else K' (a.put o.dst undef) w) :
 wpAnyH P md ops Q S (fuel+1) listed a w:=
 wpAnyH_ready hr (by simp) (AllReadyH.cons ho h AllReadyH.nil)
end
end Go.Proofs.YtjdaddmjpicflaaGreatDoor
