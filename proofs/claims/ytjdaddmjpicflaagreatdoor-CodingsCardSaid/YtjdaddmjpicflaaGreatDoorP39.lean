/- The law Codings: the contract of the card. -/
import Derived.Test.YtjdaddmjpicflaaGreatDoorP37
import Derived.Test.YtjdaddmjpicflaaGreatDoorP38
set_option linter.unusedVariables false
set_option linter.unusedSimpArgs false
set_option maxRecDepth 100000
set_option maxHeartbeats 16000000
namespace Go.Proofs.YtjdaddmjpicflaaGreatDoor.codings
open Go.ChangeShapes Go.WideShapes Go.ChangeAt Go.RowKit
set_option maxRecDepth 100000
theorem laidParts {W:World} (h:laidMetH Tryz.prog Rows.codingsRow.laid W):FixVar W∧ErrVar W:=by
 have h':laidMet Tryz.prog [("unicode/utf8.acceptRanges",Rows.laid_unicode_utf8_acceptRanges),("tinyos/machine.fixed",Rows.laid_tinyos_machine_fixed),("tinyos/kernel.has",Rows.laid_tinyos_kernel_has),("unicode/utf8.first",Rows.laid_unicode_utf8_first)] W∧handlesMet Tryz.prog [("errors.errorType",Rows.laid_errors_errorType)] W:=h
 obtain⟨ps,⟨_,_,_,_,_,_,_,_,_,_,hrest,_⟩,_⟩:=h'.1
 obtain⟨g',t',cs,fuel,p,q,hg',ht',hvar,hd,_,_⟩:=hrest
 exact⟨fixVar_of hg' ht' hvar hd,errVar_of (by simp) h'.2⟩
theorem contract (H:Type) (enc:TypeId×Value→H) (W:World) (base:Nat) (args:Array Value) (ds gs:List (DataW H)) (before:List MemPlace)
 (hval:∀(j:Nat) t v,Tryz.f3.params[j]?=some t→args[j]?=some v→Value.okWide Tryz.prog W .any base t v)
 (hW:DataW.Whole enc Tryz.prog Tryz.f3.params.toList Rows.codingsSpec.vars false W args.toList ds gs before)
 (hsz:(DataW.weightsEach Tryz.prog (Tryz.f3.params.toList++(OpenSpec.ofChange Rows.codingsSpec).bare.plain.varTypes Tryz.prog) (ds++gs)).all (·≤reachBytes)=true) (hL:laidMetH Tryz.prog Rows.codingsRow.laid W) (hS:W.ShapedOpen Tryz.prog) :
 Calls Tryz.prog 3 args W λe W'=>∃v,e=.returned v∧Rows.codingsSpec.post enc Tryz.prog Tryz.f3 false true false false W args v W':=by
 have hW':=hW
 obtain⟨p,q,hA0,hV,rfl,hfz,hnd⟩:=hW
 have hA:DataW.TrodAll enc Tryz.prog W 0 (λ_=>true) true Tryz.f3.params.toList args.toList ds p:=hA0
 rw[Tryz.params3]at hA hval hsz
 obtain⟨v0,v1,d0,d1,p0,p1,rfl,rfl,rfl,h0,hi1⟩:=trodAll_two hA
 obtain⟨rfl,rfl⟩:=trodVars_none hV
 obtain⟨fuel,hf⟩:=h0
 obtain⟨nn,rfl⟩:=okWide_int Tryz.underlying3 (hval 1 3 v1 rfl rfl)
 have hnn : -9223372036854775808≤nn∧nn<9223372036854775808:=by
  obtain⟨fuel1,hf1⟩:=hi1
  obtain⟨n2,e1,_,w1⟩:=DataW.trod_int Tryz.underlying3 hf1
  have e2:(Value.int .i64 nn)=.int .i64 n2:=by
   have e3:[Value.int .i64 nn]=[.int .i64 n2]:=e1
   exact List.cons.inj e3 |>.1
  injection e2 with _ e2
  subst e2
  simp[Lit.wf,IntKind.min,IntKind.max,IntKind.signed,IntKind.bits]at w1
  omega
 obtain⟨l,pt,F,cap,rfl,h1,h2,h3⟩:=open_setting (hval 0 26 v0 rfl rfl) hf (λn hn=>by
  have:=List.all_eq_true.1 hsz n (DataW.weights_mem_each (j:=0) rfl rfl n hn)
  simpa using this)
 have hr:reachBytes≤140737488351232:=by decide
 obtain⟨hfix,herr⟩:=laidParts hL
 refine(codings_any l F pt cap nn W hnn h2 (Nat.le_trans h1 hr) (λf hf=>⟨(h3 f hf).bs,Nat.le_trans (h3 f hf).len hr,Nat.le_trans (h3 f hf).path hr,(h3 f hf).cap,(h3 f hf).lt⟩) (maxVar_of hS) hfix herr).mono λe W' ⟨he,hb⟩=>?_
 subst he
 exact⟨_,rfl,law_post hW' rfl (by kernel_rfl) (by rw[Tryz.params3];intro t ht;simp at ht;rcases ht with rfl|rfl<;>exact⟨by kernel_rfl,of_decide_eq_true (by kernel_rfl)⟩) rfl hb⟩
end Go.Proofs.YtjdaddmjpicflaaGreatDoor.codings
