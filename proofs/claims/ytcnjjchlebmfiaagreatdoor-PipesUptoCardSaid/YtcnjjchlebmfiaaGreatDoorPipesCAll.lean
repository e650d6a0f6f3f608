/- The law Pipes: the card. -/
import Derived.Test.YtcnjjchlebmfiaaGreatDoorP34
import Derived.Test.YtcnjjchlebmfiaaGreatDoorP40
set_option linter.all false
set_option maxRecDepth 100000
set_option maxHeartbeats 16000000
namespace Go.Proofs.YtcnjjchlebmfiaaGreatDoor.pipes
open Go.Proofs.Tryz
open Go.ChangeShapes Go.WideShapes Go.ChangeAt Go.RowKit
theorem N7{W:World}(h:laidMetH prog Rows.pipesUptoRow.laid W):gN W∧ErrVar W:=by
 have h':laidMet prog [("unicode/utf8.acceptRanges",Rows.laid_unicode_utf8_acceptRanges),("tinyos/machine.fixed",Rows.laid_tinyos_machine_fixed),("tinyos/kernel.has",Rows.laid_tinyos_kernel_has),("unicode/utf8.first",Rows.laid_unicode_utf8_first)] W∧handlesMet prog [("errors.errorType",Rows.laid_errors_errorType)] W:=h;obtain⟨ps,⟨_,_,_,_,_,_,_,_,_,_,hrest,_⟩,_⟩:=h'.1;obtain⟨g',t',cs,fuel,p,q,hg',ht',hvar,hd,_,_⟩:=hrest;exact⟨Mf hg' ht' hvar hd,N8 (by simp) h'.2⟩
theorem contract(H:Type)(enc:TypeId×Value→H)(W:World)(base:Nat)(args:Array Value)(ds gs:List (DataW H))(before:List MemPlace)
 (hval:∀(j:Nat) t v,Tryz.f6.params[j]?=some t→args[j]?=some v→Value.okWide prog W .any base t v)
 (hW:DataW.Whole enc prog Tryz.f6.params.toList Rows.pipesSpec.vars false W args.toList ds gs before)
 (hsz:(DataW.weightsEach prog (Tryz.f6.params.toList++(Rows.OpenSpec.upto Rows.pipesSpec).bare.plain.varTypes prog) (ds++gs)).all (·≤reachBytes)=true)(hcond:∀k,(Rows.OpenSpec.upto Rows.pipesSpec).cond=some k→k H (ds++gs)=true)(hL:laidMetH prog Rows.pipesUptoRow.laid W)(hS:W.ShapedOpen prog) :
 Calls prog 6 args W λe W'=>∃v,e=.returned v∧Rows.pipesSpec.post enc prog Tryz.f6 false true false false W args v W':=by
 have hW':=hW;obtain⟨p,q,hA0,hV,rfl,hfz,hnd⟩:=hW;have hA:DataW.TrodAll enc prog W 0 (λ_=>true) true Tryz.f6.params.toList args.toList ds p:=hA0;rw[params6]at hA hval hsz;obtain⟨v0,v1,d0,d1,p0,p1,rfl,rfl,rfl,h0,h1⟩:=trodAll_two hA;obtain⟨rfl,rfl⟩:=trodVars_none hV;have hsm:Rows.uptoBulkAll [d0,d1]≤1048576:=of_decide_eq_true (hcond _ rfl);have w0:Rows.uptoBulk d0≤1048576:=aV (Bk.sJ (by simp)) hsm;have w1:Rows.uptoBulk d1≤1048576:=aV (Bk.sJ (by simp)) hsm;obtain⟨fuel,hf⟩:=h0;obtain⟨fuel1,hf1⟩:=h1;obtain⟨q0,n0,c0,rfl⟩:=okWide_slice underlying27 (hval 1 27 v1 rfl rfl);obtain⟨l,pt,F,cap,rfl,f1,f2,f3⟩:=zR (hval 0 26 v0 rfl rfl) hf w0;obtain⟨sp,ops,sc,e1,s1,s2⟩:=BU (v:=.slice q0 n0 c0) hf1 w1 (bH _);rw[e1]at hW'⊢;obtain⟨hfix,adn⟩:=N7 hL;refine(NZ l F pt cap ops sp sc W f2 f1 (λf hf=>⟨(f3 f hf).bs,(f3 f hf).len,(f3 f hf).path,(f3 f hf).cap,(f3 f hf).lt⟩) (Mg hS) hfix adn s2 s1).mono λe W' ⟨he,hb⟩=>?_;subst he;exact⟨_,rfl,Rv hW' rfl (by kernel_rfl) (by rw[params6];intro t ht;simp at ht;rcases ht with rfl|rfl<;>exact⟨by kernel_rfl,of_decide_eq_true (by kernel_rfl)⟩) rfl hb⟩
noncomputable def kR(os:Os):World:=
 {World.holding prog os ⟨#[],#[],[]⟩with heap:=(((((World.holding prog os ⟨#[],#[],[]⟩).heap.modify 0 (putCells #[.iface 205 (.agg #[.pointer (6,46)])])).modify 2 (putCells yo.toArray)).modify 5 (putCells TS.toArray)).modify 1 (putCells #[(0:Int),(0:Int),(3:Int),(0:Int),(0:Int),(0:Int),(0:Int),(0:Int),(1:Int),(0:Int),(8:Int),(4:Int),(0:Int),(0:Int),(0:Int),(1:Int),(1:Int),(0:Int),(8:Int),(4:Int),(1:Int),(1:Int)])).modify 4 (putCells Xd.toArray)}
abbrev wU:Array Value:= #[.agg #[(0:Int),(0:Int),(0:Int),(0:Int),(0:Int),()],.slice none 0 0]
theorem Rx(os:Os):laidMetH prog Rows.pipesUptoRow.laid ((kR os).forCall (λ_ _=>0) ⟨#[],wU,[]⟩).memory:=
 laidMetH_of_parts (laidMet_of_run' 8 (by kernel_rfl) (by kernel_rfl)) (by kernel_rfl)
theorem reads(os:Os){H:Type}(enc:TypeId×Value→H):∃places,DataW.whole enc prog ((kR os).forCall (λ_ _=>0) ⟨#[],wU,[]⟩).memory Tryz.f6.params.toList Rows.pipesSpec.vars false wU.toList 8 =
 some ([.agg [.agg [.lit (.int .i64 0),.lit (.int .i64 0),.lit (.int .i64 0),.lit (.int .i64 0),.lit (.int .i64 0)],.nil],.nil],[],places):=
 ⟨[],by kernel_rfl⟩
theorem l1(os:Os):((kR os).forCall (λ_ _=>0) ⟨#[],wU,[]⟩).variablesB prog=true:=by kernel_rfl
theorem l2(os:Os):((((kR os).forCall (λ_ _=>0) ⟨#[],wU,[]⟩).heap.toList.drop prog.globals.size).take ((begin prog (λ_ _=>0) default).world.heap.size-prog.globals.size)=(begin prog (λ_ _=>0) default).world.heap.toList.drop prog.globals.size):=by kernel_rfl
theorem l3(os:Os):Input.okWideB prog ((kR os).forCall (λ_ _=>0) ⟨#[],wU,[]⟩) 6 ⟨#[],wU,[]⟩=true:=by kernel_rfl
theorem lifted(os:Os)(started:os.Started)(H:Type)(enc:TypeId×Value→H)(F:Stop.Interp) :
 ReturnsInHanded {} Tryz.checked os 6 .any ((Rows.OpenSpec.upto Rows.pipesSpec).preRow enc prog Tryz.f6 Rows.pipesUptoRow.domain false Rows.pipesUptoRow.laid) (((Rows.OpenSpec.upto Rows.pipesSpec).at F).post enc prog Tryz.f6 false true false false):=by
 obtain⟨places,hx⟩:=reads os enc
 refine returnsInHanded_of_row (C:=Tryz.checked) (s:=Rows.OpenSpec.upto Rows.pipesSpec) own started (by kernel_rfl) func6
  (witness_row_at (enc:=enc) (C:=Tryz.checked) false (kR os) wU rfl (l1 os) (l2 os) (l3 os)
    (OpenSpec.preRow_of_cond 8 hx (by kernel_rfl) (λk hk=>by cases hk;kernel_rfl) (by kernel_rfl) (Rx os))) ?_
 intro W base args ds gs before hval hW _ hcond hsz hL hS _;exact contract H enc W base args ds gs before hval hW hsz hcond hL hS
theorem said:Rows.PipesUptoSaid:=
 OpenClaim.holds_of_cond 6 Tryz.f6 rfl rfl rfl rfl rfl rfl rfl ⟨rfl,rfl,rfl,rfl,rfl⟩ rfl rfl rfl rfl rfl (by kernel_rfl) func6 closed
  (of_decide_eq_true (by kernel_rfl)) (by unfold Func.isWrapper;rw[if_neg (of_decide_eq_false (by kernel_rfl))];exact⟨rfl,rfl⟩)
  (λos started H enc _ F=>by rw[OpenClaim.pre_eq_preRow];exact lifted os started H enc F)
theorem Yv:Rows.pipesUptoRow.wfByText (Rows.OpenSpec.upto Rows.pipesSpec)=true:=by kernel_rfl
theorem plain(f:FuncId)(fn:Func)(hf:Tryz.pinned.checked.prog.funcNamed "tinyos/tinyoslaw.Pipes" = some f)(hfn:Tryz.pinned.checked.prog.funcs[f]?=some fn) :
 true=Tryz.pinned.checked.prog.looks []∧∀(j:Nat) t,fn.params[j]?=some t→Tryz.pinned.checked.prog.wantsStandIn t=false:=by
 obtain rfl:f=6:=Option.some.inj ((show prog.funcNamed "tinyos/tinyoslaw.Pipes" = some 6 by kernel_rfl).symm.trans hf) |>.symm
 obtain rfl:fn=Tryz.f6:=(Option.some.inj (func6.symm.trans hfn)).symm;refine⟨by kernel_rfl,λj t ht=>?_⟩;rw[params6]at ht;have hm:=Array.mem_of_getElem? ht;simp at hm
 rcases hm with rfl|rfl
 ·exact(show prog.wantsStandIn 26=false by kernel_rfl)
 ·exact(show prog.wantsStandIn 27=false by kernel_rfl)
theorem ado:prog.funcs.any Func.goes=false:=by kernel_rfl
theorem N9{P:Program}(h:P.funcs.any Func.goes=false)(c:OpenClaim)(hc:c.start=.entering):false=c.goesBy P:=by
 have h1:∀g:Nat,(P.funcs[g]?).any Func.goes=false:=λg=>by
  cases hg:P.funcs[g]? with
  | none=>rfl
  | some fn=>
    rw[Array.any_eq_false]at h;obtain⟨hl,e⟩:=Array.getElem?_eq_some_iff.1 hg;have:=h g hl;rw[e]at this
    simpa using this
 unfold OpenClaim.goesBy Program.goesAt Program.goesFrom;rw[hc];cases P.funcNamed c.func with
 | none=>rfl
 | some f=>simp[Program.goes,h,h1]
theorem U1:false=Rows.pipesUptoRow.goesBy Tryz.pinned.checked.prog:=N9 ado Rows.pipesUptoRow rfl
theorem card:Rows.PipesUptoCardSaid:=
 Claim7.holds_tied_plain_at .later [] _ _ _ _ said (λ_ h=>by cases h) Yv (λ_ h=>by cases h) pipesUpto_row_tie rfl ⟨rfl,rfl⟩ (by kernel_rfl) rfl plain U1
#print axioms card
end Go.Proofs.YtcnjjchlebmfiaaGreatDoor.pipes
