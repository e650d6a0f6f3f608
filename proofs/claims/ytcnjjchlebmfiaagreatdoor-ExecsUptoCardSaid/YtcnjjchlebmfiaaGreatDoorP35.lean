/-.-/
import Derived.Test.YtcnjjchlebmfiaaGreatDoorP34
set_option linter.all false
set_option maxRecDepth 100000
set_option maxHeartbeats 16000000
namespace Go.Proofs.YtcnjjchlebmfiaaGreatDoor.execs
open Go.Proofs.Tryz
open Go.ChangeShapes Go.WideShapes Go.ChangeAt Go.RowKit
theorem TJ{W:World}(h:laidMetH prog Rows.execsUptoRow.laid W):iG W∧ErrVar W:=by
 have h':laidMet prog [("unicode/utf8.acceptRanges",Rows.laid_unicode_utf8_acceptRanges),("tinyos/machine.fixed",Rows.laid_tinyos_machine_fixed),("tinyos/kernel.has",Rows.laid_tinyos_kernel_has),("unicode/utf8.first",Rows.laid_unicode_utf8_first)] W∧handlesMet prog [("errors.errorType",Rows.laid_errors_errorType)] W:=h;obtain⟨ps,⟨_,_,_,_,_,_,_,_,_,_,hrest,_⟩,_⟩:=h'.1;obtain⟨g',t',cs,fuel,p,q,hg',ht',hvar,hd,_,_⟩:=hrest;exact⟨QB hg' ht' hvar hd,TK (by simp) h'.2⟩
theorem contract(H:Type)(enc:TypeId×Value→H)(W:World)(base:Nat)(args:Array Value)(ds gs:List (DataW H))(before:List MemPlace)
 (hval:∀(j:Nat) t v,Tryz.f7.params[j]?=some t→args[j]?=some v→Value.okWide prog W .any base t v)
 (hW:DataW.Whole enc prog Tryz.f7.params.toList Rows.execsSpec.vars false W args.toList ds gs before)
 (hsz:(DataW.weightsEach prog (Tryz.f7.params.toList++(Rows.OpenSpec.upto Rows.execsSpec).bare.plain.varTypes prog) (ds++gs)).all (·≤reachBytes)=true)(hcond:∀k,(Rows.OpenSpec.upto Rows.execsSpec).cond=some k→k H (ds++gs)=true)(hL:laidMetH prog Rows.execsUptoRow.laid W)(hS:W.ShapedOpen prog) :
 Calls prog 7 args W λe W'=>∃v,e=.returned v∧Rows.execsSpec.post enc prog Tryz.f7 false true false false W args v W':=by
 have hW':=hW;obtain⟨p,q,hA0,hV,rfl,hfz,hnd⟩:=hW;have hA:DataW.TrodAll enc prog W 0 (λ_=>true) true Tryz.f7.params.toList args.toList ds p:=hA0;rw[params7]at hA hval hsz;obtain⟨v0,v1,d0,d1,p0,p1,rfl,rfl,rfl,h0,h1⟩:=trodAll_two hA;obtain⟨rfl,rfl⟩:=trodVars_none hV;have hsm:Rows.uptoBulkAll [d0,d1]≤1048576:=of_decide_eq_true (hcond _ rfl);have w0:Rows.uptoBulk d0≤1048576:=bU (Bk.vP (by simp)) hsm;have w1:Rows.uptoBulk d1≤1048576:=bU (Bk.vP (by simp)) hsm;obtain⟨fuel,hf⟩:=h0;obtain⟨fuel1,hf1⟩:=h1;obtain⟨q0,n0,c0,rfl⟩:=okWide_slice underlying27 (hval 1 27 v1 rfl rfl);obtain⟨l,pt,F,cap,rfl,f1,f2,f3⟩:=Du (hval 0 26 v0 rfl rfl) hf w0;obtain⟨sp,ops,sc,e1,s1,s2⟩:=FQ (v:=.slice q0 n0 c0) hf1 w1 (bM _);rw[e1]at hW'⊢;obtain⟨hfix,herr⟩:=TJ hL;refine(TG l F pt cap ops sp sc W f2 f1 (λf hf=>⟨(f3 f hf).bs,(f3 f hf).len,(f3 f hf).path,(f3 f hf).cap,(f3 f hf).lt⟩) (QC hS) hfix herr s2 s1).mono λe W' ⟨he,hb⟩=>?_;subst he;exact⟨_,rfl,XN hW' rfl (by kernel_rfl) (by rw[params7];intro t ht;simp at ht;rcases ht with rfl|rfl<;>exact⟨by kernel_rfl,of_decide_eq_true (by kernel_rfl)⟩) rfl hb⟩
end Go.Proofs.YtcnjjchlebmfiaaGreatDoor.execs
