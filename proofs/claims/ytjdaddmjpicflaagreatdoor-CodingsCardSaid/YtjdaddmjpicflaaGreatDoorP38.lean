/- From a law's walk (it returns true, and at most new blocks were made) to what the row asks behind the call; the variable errors.errorType out of the row's list. -/
import Derived.Test.YtjdaddmjpicflaaGreatDoorCards
import Derived.Test.YtjdaddmjpicflaaGreatDoorTie
import Derived.ProofKit
import Derived.OpenShut
import Derived.LaidLaws
import Derived.LaidHandle
import Derived.Deep.DeepHandedRow
import Derived.Lib.LaidTab
import Derived.Lib.SmallJoins
import Derived.Test.YtjdaddmjpicflaaGreatDoorP01
import Derived.Deep.Slices
import Derived.Deep.Fields
import Derived.Deep.Strs
import Derived.ChangeSame
import Derived.SizedLaws
import Derived.Test.YtjdaddmjpicflaaGreatDoorP17
import Derived.Test.YtjdaddmjpicflaaGreatDoorP06
set_option linter.unusedVariables false
set_option linter.unusedSimpArgs false
set_option maxRecDepth 100000
set_option maxHeartbeats 16000000
namespace Go.Proofs.YtjdaddmjpicflaaGreatDoor
open Go.ChangeShapes Go.WideShapes Go.ChangeAt Go.RowKit
theorem own:ownKnob Tryz.prog.godebug=none:=by kernel_rfl
theorem laidOut:laidOutB Tryz.prog=true:=by kernel_rfl
theorem trodAll_stays {H:Type} {enc:TypeId×Value→H} {W W':World} (hb:Bel W W'):∀{ts:List TypeId} {vs:List Value} {ds:List (DataW H)} {ps:List MemPlace},
 (∀t∈ts,Tryz.prog.readableRec t=true∧t<Tryz.prog.types.size)→DataW.TrodAll enc Tryz.prog W 0 (λ_=>true) true ts vs ds ps→(∀x∈ps,x.block<W.heap.size)→
 DataW.TrodAll enc Tryz.prog W' 0 (λb=>decide (b<W.heap.size)) true ts vs ds ps
 | [],vs,ds,ps,_,h,_=>by
   obtain⟨rfl,rfl,rfl⟩:=trodAll_nil h
   exact trodAll_mk0
 | t::ts,vs,ds,ps,hr,h,hlt=>by
   obtain⟨v,vs',d,ds',p,q,rfl,rfl,rfl,h1,h2⟩:=trodAll_cons h
   exact trodAll_cons_mk (Below.trod laidOut (hr t (by simp)).1 (hr t (by simp)).2 h1 hb (λx hx=>hlt x (by simp[hx]))) (trodAll_stays hb (λu hu=>hr u (by simp[hu])) h2 (λx hx=>hlt x (by simp[hx])))
theorem law_post {H:Type} {enc:TypeId×Value→H} {f:Func} {s:ChangeSpec} {W W':World} {args:Array Value} {ds:List (DataW H)} {before:List MemPlace}
 (hW:DataW.Whole enc Tryz.prog f.params.toList s.vars false W args.toList ds [] before) (hv:s.vars=[]) (hres:f.resultTypes = #[4])
 (hr:∀t∈f.params.toList,Tryz.prog.readableRec t=true∧t<Tryz.prog.types.size) (hs:s.fn H (ds++[])={results:=[.lit (.bool true)],args:=ds}) (hb:Bel W W') :
 s.post enc Tryz.prog f false true false false W args (.bool true) W':=by
 have hW':=hW
 obtain⟨p,q,hA,hV,hbef,hfz,hnd⟩:=hW
 have hlt:∀x∈p,x.block<W.heap.size:=λx hx=>hW'.lt x (by rw[hbef];simp[hx])
 refine⟨ds,[],before,[],p,[],hW',?_,?_,?_,Below.frame hb _,λh=>by cases h⟩
 ·rw[hs,hres];exact trodAll_mk1 (shut_bool Tryz.underlying4 true)
 ·rw[hs];exact trodAll_stays hb hr hA hlt
 ·rw[hs,hv];rfl
theorem etName:Tryz.prog.globalNamed "errors.errorType" = some 0:=by kernel_rfl
theorem rtName:(Tryz.prog.cutTypes.find? (·.1== "internal/reflectlite.rtype")).map (·.2)=some 204:=by kernel_rfl
theorem oneRow:((List.range Tryz.prog.types.size).filter λt=>Tryz.prog.rowNamed t [101,114,114,111,114])=[41]:=by kernel_rfl
theorem errVar_of {laid:List (String×DataW Unit)} (hm:("errors.errorType",Rows.laid_errors_errorType)∈laid) {W:World} (h:handlesMet Tryz.prog laid W):ErrVar W:=by
 obtain⟨name,u,ty,e1,e2,e3,e4,e5⟩:=h _ hm
 have en:name=[101,114,114,111,114]:=(Option.some.inj e1).symm
 subst en
 obtain rfl:=Option.some.inj (rtName.symm.trans e2)
 have hm:ty∈(List.range Tryz.prog.types.size).filter λt=>Tryz.prog.rowNamed t [101,114,114,111,114]:=List.mem_filter.2 ⟨List.mem_range.2 e3,e4⟩
 rw[oneRow]at hm
 obtain rfl:=List.mem_singleton.1 hm
 have hh:typeHandle Tryz.prog 41=.pointer (some ⟨6,41,none⟩):=by kernel_rfl
 rw[hh]at e5
 have:=World.var?_cell etName e5 0
 simpa [ErrVar]using this
end Go.Proofs.YtjdaddmjpicflaaGreatDoor
namespace Go.Proofs.YtjdaddmjpicflaaGreatDoor
open Go.ChangeShapes Go.WideShapes Go.ChangeAt Go.RowKit Go.Deep
section
variable {H:Type} {enc:TypeId×Value→H} {P:Program} {w:World} {base:Nat} {spare:Nat→Bool} {held:Bool}
theorem open_fields {t e:TypeId} {fs:Array Field} {fuel:Nat} {cs:List Value} {x:DataW H×List MemPlace} (ht:P.underlying t=some (.slice e)) (he:P.underlying e=some (.struct fs))
 (hone:oneCellFields P fs=true) (hC:P.cellsOf e=fs.size) (h:DataW.trod enc P w base spare held fuel t cs=some x) :
 (cs=[.slice none 0 0]∧x=(.nil,[]))∨
 ∃(a:Addr) (len cap m:Nat) (D:Nat→DataW H),cs=[.slice (some a) len cap]∧len≤cap∧cap≤maxLen∧m=(if spare a.block then cap else len)∧
  x.1=.slice ((List.range len).map D) ((List.range (m-len)).map λj=>D (len+j))∧
  ∀i,i<m→∃(ys:List (DataW H×List MemPlace)) (n:Nat),D i=.agg (ys.map (·.1))∧ys.length=fs.size∧
   ∀(j:Nat) (f:Field),fs[j]?=some f→∃(v:Value) (y:DataW H×List MemPlace),w.cell? (a.add (i*fs.size+j))=some v∧ys[j]?=some y∧DataW.trod enc P w base spare held n f.type [v]=some y:=by
 rcases open_slice ht h with h0|⟨a,len,cap,m,n,D,Pl,hcs,hb,hl,hm,hmm,hx,hi⟩
 ·exact .inl h0
 ·refine .inr ⟨a,len,cap,m,D,hcs,hl,hm,hmm,by rw[hx],λi him=>?_⟩
  obtain⟨cs',hc,ht'⟩:=hi i him
  rw[hC]at hc
  obtain⟨ys,n',hn',hy,hlen,hyl,hf⟩:=DataW.trod_struct he ht'
  obtain⟨_,hcl,hat⟩:=World.cells?_some hc
  simp only[Prod.mk.injEq]at hy
  refine⟨ys,n',hy.1,hyl,λj f hj=>?_⟩
  obtain⟨ho,hk⟩:=hone_of hone j f hj
  have hjl:j<fs.size:=(Array.getElem?_eq_some_iff.1 hj).1
  have hcell:=hat j hjl
  have hv:cs'[j]?=some (cs'[j]'(by omega)):=List.getElem?_eq_getElem (by omega)
  have h1:=hf j f hj
  rw[ho,hk]at h1
  have hone':(cs'.drop j).take 1=[cs'[j]'(by omega)]:=by
   rw[List.drop_eq_getElem_cons (by omega)]
   rfl
  rw[hone']at h1
  have hys:ys[j]?=some (ys[j]'(by omega)):=List.getElem?_eq_getElem (by omega)
  refine⟨_,_,?_,hys,h1.trans hys⟩
  rw[←Go.Deep.add_add,hcell,hv]
theorem weights_all {e:TypeId} {n:Nat}:∀{l:List (DataW H)} {d:DataW H},d∈l→n∈d.weights P e→n∈DataW.weightsAll P e l
 | d0::l,d,hd,hn=>by
   simp only[DataW.weightsAll,List.mem_append]
   rcases List.mem_cons.1 hd with rfl|h
   ·exact .inl hn
   ·exact .inr (weights_all h hn)
end
theorem u8_bds {n:Int} (h:(Lit.int .u8 n).wf=true):0≤n∧n≤255:=by
 simp[Lit.wf,IntKind.min,IntKind.max,IntKind.signed,IntKind.bits]at h;omega
section
variable {H:Type} {enc:TypeId×Value→H} {W:World}
theorem open_bytes {fuel:Nat} {v:Value} {y:DataW H×List MemPlace} (h:DataW.trod enc Tryz.prog W 0 (λ_=>true) true fuel 32 [v]=some y) (hw:∀n∈y.1.weights Tryz.prog 32,n≤reachBytes) :
 ∃(q:Option Addr) (L:List Int) (cap:Nat),v=.slice q L.length cap∧BS W q L∧L.length≤cap∧L.length≤reachBytes∧(0<L.length→∀b o,q=some ⟨b,o,none⟩→b<W.heap.size):=by
 rcases open_ints Tryz.underlying32 Tryz.underlying5 (by kernel_rfl) h with⟨hcs,hx⟩|⟨a,len',cap',zs,hcs,_,hl,hm,hz,hx,hcell,hwz⟩
 ·obtain rfl:=List.singleton_inj.1 hcs
  exact⟨none,[],0,rfl,⟨λx hx=>(by cases hx),λh=>absurd h (by simp)⟩,Nat.zero_le _,Nat.zero_le _,λh=>absurd h (by simp)⟩
 ·obtain rfl:=List.singleton_inj.1 hcs
  simp only[if_true]at hz
  have hlz:len'≤zs.length:=by omega
  have hreach:zs.length≤reachBytes:=by
   rw[hx]at hw
   have:=hw (((ChangeShapes.lits .u8 (zs.take len'):List (DataW H)).length+(ChangeShapes.lits .u8 (zs.drop len'):List (DataW H)).length)*Tryz.prog.bytesOf 5) (by simp[DataW.weights,Tryz.underlying32])
   rw[show Tryz.prog.bytesOf 5=1 from by kernel_rfl]at this
   simp[ChangeShapes.lits]at this
   omega
  obtain⟨ab,ao,spot⟩:=a
  by_cases h0:0<zs.length
  ·have hspot:spot=none:=by simpa [Addr.add]using World.cell?_spot (hcell 0 h0)
   subst hspot
   have hc:∀i,i<len'→W.cell? ⟨ab,ao+i,none⟩=((zs.take len')[i]?).map (Value.int .u8):=λi hi=>by
    have:=hcell i (by omega)
    rw[Addr.add_lit]at this
    rw[this,List.getElem?_take,if_pos hi,List.getD_eq_getElem?_getD,List.getElem?_eq_getElem (by omega)]
    rfl
   have hlt:ab<W.heap.size:=by
    have:=World.block_lt_of_cell? _ _ (hcell 0 h0)
    simpa [Addr.add]using this
   refine⟨_,zs.take len',cap',by simp;omega,⟨λx hx=>u8_bds (hwz x (List.mem_of_mem_take hx)),λh0=>⟨ab,ao,rfl,hlt,⟨λi hi=>hc i (by simp at hi;omega),λx hx=>u8_bds (hwz x (List.mem_of_mem_take hx))⟩⟩⟩,by simp;omega,by simp;omega,λ_ b o e=>by cases e;exact hlt⟩
  ·obtain rfl:len'=0:=by omega
   exact⟨_,[],cap',rfl,⟨λx hx=>(by cases hx),λh=>absurd h (by simp)⟩,Nat.zero_le _,Nat.zero_le _,λh=>absurd h (by simp)⟩
structure FileOk (W:World) (f:FileA):Prop where
 bs:BS W f.p f.byt
 len:f.byt.length≤reachBytes
 path:f.path.size≤reachBytes
 cap:f.byt.length≤f.cap
 lt:0<f.byt.length→∀b o,f.p=some ⟨b,o,none⟩→b<W.heap.size
def FileAt (W:World) (a:Addr) (i:Nat) (f:FileA):Prop:=W.cell? (a.add (i*3))=some (.string f.path)∧W.cell? (a.add (i*3+1))=some (.bool f.dir)∧W.cell? (a.add (i*3+2))=some (.slice f.p f.byt.length f.cap)∧FileOk W f
theorem open_files {fuel:Nat} {v:Value} {y:DataW H×List MemPlace} (h:DataW.trod enc Tryz.prog W 0 (λ_=>true) true fuel 24 [v]=some y) (hw:∀n∈y.1.weights Tryz.prog 24,n≤reachBytes) :
 ∃(q:Option Addr) (F:List FileA) (cap:Nat),v=.slice q F.length cap∧F.length≤reachBytes∧(∀(i:Nat) (f:FileA),F[i]?=some f→∃g o,q=some ⟨g,o,none⟩∧W.rangeAt g (o+i*3) [.string f.path,.bool f.dir,.slice f.p f.byt.length f.cap])∧∀f∈F,FileOk W f:=by
 rcases open_fields Tryz.underlying24 Tryz.underlying46 (by kernel_rfl) (by kernel_rfl) h with⟨hcs,hx⟩|⟨a,len,cap,m,D,hcs,hl,hm,hmm,hx,hi⟩
 ·obtain rfl:=List.singleton_inj.1 hcs
  exact⟨none,[],0,rfl,Nat.zero_le _,λi f h=>(by cases h),λf h=>(by cases h)⟩
 ·obtain rfl:=List.singleton_inj.1 hcs
  simp only[if_true]at hmm
  subst hmm
  rw[hx]at hw
  have hlen:len≤reachBytes:=by
   have:=hw ((((List.range len).map D).length+((List.range (m-len)).map λj=>D (len+j)).length)*Tryz.prog.bytesOf 46) (by simp[DataW.weights,Tryz.underlying24])
   rw[show Tryz.prog.bytesOf 46=48 from by kernel_rfl]at this
   simp at this
   omega
  have hex:∀i,∃f:FileA,i<len→FileAt W a i f:=λi=>by
   by_cases hil:i<len
   ·obtain⟨ys,n,hD,hyl,hf⟩:=hi i (by omega)
    have hwD:∀k∈(D i).weights Tryz.prog 46,k≤reachBytes:=λk hk=>hw k (by
     simp only[DataW.weights,Tryz.underlying24,List.mem_cons,List.mem_append]
     exact .inr (.inl (weights_all (List.mem_map.2 ⟨i,List.mem_range.2 hil,rfl⟩) hk)))
    obtain⟨v0,y0,c0,k0,t0⟩:=hf 0 _ rfl
    obtain⟨v1,y1,c1,k1,t1⟩:=hf 1 _ rfl
    obtain⟨v2,y2,c2,k2,t2⟩:=hf 2 _ rfl
    have hys:ys=[y0,y1,y2]:=by
     match ys,hyl with
     | [z0,z1,z2],_=>cases k0;cases k1;cases k2;rfl
    rw[hD,hys]at hwD
    have hw3:∀k,k∈y0.1.weights Tryz.prog 9∨k∈y1.1.weights Tryz.prog 4∨k∈y2.1.weights Tryz.prog 32→k≤reachBytes:=λk hk=>hwD k (by
     simp only[DataW.weights,Tryz.underlying46,List.map_cons,List.map_nil,DataW.weightsEach,List.mem_append]
     rcases hk with hk|hk|hk
     ·exact .inl hk
     ·exact .inr (.inl hk)
     ·exact .inr (.inr (.inl hk)))
    obtain⟨s,e0,x0,_⟩:=DataW.trod_string Tryz.underlying9 t0
    obtain⟨b,e1,x1⟩:=DataW.trod_bool Tryz.underlying4 t1
    obtain⟨q,L,c,rfl,b1,b2,b3,b4⟩:=open_bytes t2 (λk hk=>hw3 k (.inr (.inr hk)))
    obtain rfl:=List.singleton_inj.1 e0
    obtain rfl:=List.singleton_inj.1 e1
    refine⟨⟨s,b,q,c,L⟩,λ_=>⟨c0,c1,c2,b1,b3,?_,b2,b4⟩⟩
    have:=hw3 s.data.toList.length (.inl (by rw[x0];simp[DataW.weights]))
    simpa using this
   ·exact⟨⟨⟨#[]⟩,false,none,0,[]⟩,λh=>absurd h hil⟩
  obtain⟨Ff,hFf⟩:=Classical.skolem.1 hex
  have hget:∀(i:Nat) (f:FileA),((List.range len).map Ff)[i]?=some f→i<len∧FileAt W a i f:=λi f hf=>by
   have hlt:=(List.getElem?_eq_some_iff.1 hf).1
   simp at hlt
   rw[List.getElem?_map,List.getElem?_range hlt]at hf
   cases hf
   exact⟨hlt,hFf i hlt⟩
  refine⟨some a,(List.range len).map Ff,m,by simp,by simpa using hlen,λi f hf=>?_,λf hf=>?_⟩
  ·obtain⟨hil,h0,h1,h2,_⟩:=hget i f hf
   have h00:=(hFf 0 (by omega)).1
   obtain⟨ab,ao,spot⟩:=a
   have hspot:spot=none:=by simpa [Addr.add]using World.cell?_spot h00
   subst hspot
   refine⟨ab,ao,rfl,λj u hj=>?_⟩
   rw[Addr.add_lit]at h0 h1 h2
   match j,hj with
   | 0,hj=>cases hj;exact h0
   | 1,hj=>cases hj;rw[Nat.add_assoc];exact h1
   | 2,hj=>cases hj;rw[Nat.add_assoc];exact h2
  ·obtain⟨i,hi⟩:=List.mem_iff_getElem?.1 hf
   exact(hget i f hi).2.2.2.2
theorem int_of {t:TypeId} {k:IntKind} {n:Nat} {c:Value} {y:Option (DataW H×List MemPlace)} (hu:Tryz.prog.underlying t=some (.int k)) (h:DataW.trod enc Tryz.prog W 0 (λ_=>true) true n t [c]=y) (hy:y.isSome=true):∃z,c=.int k z:=by
 obtain⟨y',rfl⟩:=Option.isSome_iff_exists.1 hy
 obtain⟨z,hz,_⟩:=DataW.trod_int hu h
 exact⟨z,List.singleton_inj.1 hz⟩
theorem open_setting {base fuel:Nat} {v:Value} {y:DataW H×List MemPlace} (hv:Value.okWide Tryz.prog W .any base 26 v) (h:DataW.trod enc Tryz.prog W 0 (λ_=>true) true fuel 26 v.cells.toList=some y) (hw:∀n∈y.1.weights Tryz.prog 26,n≤reachBytes) :
 ∃(l:Lims) (q:Option Addr) (F:List FileA) (cap:Nat),v=.agg #[.int .i64 l.a,.int .i64 l.b,.int .i64 l.c,.int .i64 l.d,.int .i64 l.e,.slice q F.length cap]∧F.length≤reachBytes∧(∀(i:Nat) (f:FileA),F[i]?=some f→∃g o,q=some ⟨g,o,none⟩∧W.rangeAt g (o+i*3) [.string f.path,.bool f.dir,.slice f.p f.byt.length f.cap])∧∀f∈F,FileOk W f:=by
 obtain⟨cs,rfl,hsz⟩:=okWide_struct Tryz.underlying26 hv
 obtain⟨L⟩:=cs
 have hL:L.length=6:=hsz.trans (by kernel_rfl)
 match L,hL with
 | [c0,c1,c2,c3,c4,c5],_=>
   obtain⟨xs,n,_,hx,_,hlen,hg⟩:=DataW.trod_struct Tryz.underlying26 h
   have g0:=hg 0 _ rfl
   have g1:=hg 1 _ rfl
   match xs,hlen with
   | [z0,z1],_=>
     have g0':DataW.trod enc Tryz.prog W 0 (λ_=>true) true n 23 [c0,c1,c2,c3,c4]=some z0:=g0
     have g1':DataW.trod enc Tryz.prog W 0 (λ_=>true) true n 24 [c5]=some z1:=g1
     obtain⟨us,n',_,hux,_,hul,hug⟩:=DataW.trod_struct Tryz.underlying23 g0'
     have hs:∀i,i<5→(us[i]?).isSome=true:=λi hi=>by
      have:us.length=5:=hul
      rw[List.getElem?_eq_getElem (by omega)];rfl
     obtain⟨a,rfl⟩:=int_of Tryz.underlying3 (show DataW.trod enc Tryz.prog W 0 (λ_=>true) true n' 3 [c0]=us[0]? from hug 0 _ rfl) (hs 0 (by omega))
     obtain⟨b,rfl⟩:=int_of Tryz.underlying3 (show DataW.trod enc Tryz.prog W 0 (λ_=>true) true n' 3 [c1]=us[1]? from hug 1 _ rfl) (hs 1 (by omega))
     obtain⟨c,rfl⟩:=int_of Tryz.underlying3 (show DataW.trod enc Tryz.prog W 0 (λ_=>true) true n' 3 [c2]=us[2]? from hug 2 _ rfl) (hs 2 (by omega))
     obtain⟨d,rfl⟩:=int_of Tryz.underlying3 (show DataW.trod enc Tryz.prog W 0 (λ_=>true) true n' 3 [c3]=us[3]? from hug 3 _ rfl) (hs 3 (by omega))
     obtain⟨e,rfl⟩:=int_of Tryz.underlying3 (show DataW.trod enc Tryz.prog W 0 (λ_=>true) true n' 3 [c4]=us[4]? from hug 4 _ rfl) (hs 4 (by omega))
     obtain⟨q,F,cap,rfl,h1,h2,h3⟩:=open_files g1' (λk hk=>hw k (by
      rw[hx]
      simp only[DataW.weights,Tryz.underlying26,List.map_cons,List.map_nil,DataW.weightsEach,List.mem_append]
      exact .inr (.inl hk)))
     exact⟨⟨a,b,c,d,e⟩,q,F,cap,rfl,h1,h2,h3⟩
end
end Go.Proofs.YtjdaddmjpicflaaGreatDoor
namespace Go.Proofs.YtjdaddmjpicflaaGreatDoor
open Go.ChangeShapes Go.WideShapes Go.ChangeAt Go.RowKit
theorem fixName:Tryz.prog.globalNamed "tinyos/machine.fixed" = some 1:=by kernel_rfl
theorem fixType:(Tryz.prog.globals[1]?).map (·.type)=some 321:=by kernel_rfl
theorem fixData:(Rows.laid_tinyos_machine_fixed:DataW Unit)=.agg (fixedL.map λq=>.agg [.lit (.int .i64 q.1),.lit (.int .i64 q.2.1),.lit (.int .u64 q.2.2)]):=rfl
theorem take1 {c:List Value} {k:Nat} {v:Value} (h:(c.drop k).take 1=[v]):c[k]?=some v:=by
 have:=congrArg (·[0]?) h
 simpa [List.getElem?_take,List.getElem?_drop]using this
theorem field_cells {w:World} {m:Nat} {c:List Value} {p:List MemPlace} {q:Nat×Nat×Int}
 (h:DataW.trod (λ_=>()) Tryz.prog w 0 (λ_=>true) false m 320 c=some (.agg [.lit (.int .i64 q.1),.lit (.int .i64 q.2.1),.lit (.int .u64 q.2.2)],p)):c=[.int .i64 q.1,.int .i64 q.2.1,.int .u64 q.2.2]:=by
 obtain⟨y0,y1,y2,n,hx,hl,h0,h1,h2⟩:=Deep.trod_struct3 Tryz.underlying320 h
 simp only[Prod.mk.injEq,DataW.agg.injEq,List.cons.injEq,and_true]at hx
 obtain⟨⟨e0,e1,e2⟩,_⟩:=hx
 obtain⟨z0,c0,r0,_⟩:=DataW.trod_int Tryz.underlying3 h0
 obtain⟨z1,c1,r1,_⟩:=DataW.trod_int Tryz.underlying3 h1
 obtain⟨z2,c2,r2,_⟩:=DataW.trod_int Tryz.underlying75 h2
 rw[r0]at e0;rw[r1]at e1;rw[r2]at e2
 simp only[DataW.lit.injEq,Lit.int.injEq,true_and]at e0 e1 e2
 have a0:=take1 c0
 have a1:=take1 c1
 have a2:=take1 c2
 have hl3:c.length=3:=hl.trans (by kernel_rfl)
 rw[←e0]at a0;rw[←e1]at a1;rw[←e2]at a2
 match c,hl3 with
 | [x,y,z],_=>
   have b0:some x=some (Value.int .i64 (q.1:Int)):=a0
   have b1:some y=some (Value.int .i64 (q.2.1:Int)):=a1
   have b2:some z=some (Value.int .u64 q.2.2):=a2
   rw[Option.some.inj b0,Option.some.inj b1,Option.some.inj b2]
theorem fixVar_of {W:World} {g':Nat} {t':TypeId} {cs:Array Value} {fuel:Nat} {p:List MemPlace} (hg':Tryz.prog.globalNamed "tinyos/machine.fixed" = some g') (ht':(Tryz.prog.globals[g']?).map (·.type)=some t') (hvar:W.var? Tryz.prog "tinyos/machine.fixed" = some cs) (hd:DataW.trod (λ_=>()) Tryz.prog W 0 (λ_=>true) false fuel t' cs.toList=some (Rows.laid_tinyos_machine_fixed,p)):FixVar W:=by
 obtain rfl:=Option.some.inj (fixName.symm.trans hg')
 obtain rfl:=Option.some.inj (fixType.symm.trans ht')
 have hcell:=λi=>World.var?_cell fixName hvar i
 rw[fixData]at hd
 obtain⟨xs,m,_,hx,hl,hxl,hel⟩:=DataW.trod_array Tryz.underlying321 hd
 have hxm:xs.map (·.1)=fixedL.map λq=>(DataW.agg [.lit (.int .i64 q.1),.lit (.int .i64 q.2.1),.lit (.int .u64 q.2.2)]:DataW Unit):=by
  have:=congrArg Prod.fst hx
  simpa using this.symm
 have hch:∀i,i<8→∀q,fixedL[i]?=some q→(cs.toList.drop (i*3)).take 3=[.int .i64 q.1,.int .i64 q.2.1,.int .u64 q.2.2]:=by
  intro i hi q hq
  have h1:=hel i hi
  rw[show Tryz.prog.cellsOf 320=3 from by kernel_rfl]at h1
  have h2:=congrArg (·[i]?) hxm
  simp only[List.getElem?_map,hq,Option.map_some]at h2
  cases hxi:xs[i]? with
  | none=>rw[hxi]at h2;cases h2
  | some y=>
    rw[hxi]at h1 h2
    simp only[Option.map_some,Option.some.injEq]at h2
    obtain⟨d,pp⟩:=y
    simp only at h2
    subst h2
    exact field_cells h1
 have hlt:1<W.heap.size:=by
  have h0:=hcell 0
  have h1:=hch 0 (by omega) _ rfl
  have h2:=congrArg (·[0]?) h1
  simp only[List.getElem?_take,List.getElem?_drop,Nat.zero_mul,Nat.zero_add,if_pos (show 0<3 by omega),Array.getElem?_toList]at h2
  rw[h2]at h0
  have:=World.block_lt_of_cell? _ _ h0
  simpa using this
 refine⟨λj v hv=>?_,hlt⟩
 rw[Nat.zero_add,hcell j,←hv]
 have hj:j<24:=by have:=(List.getElem?_eq_some_iff.1 hv).1;simpa [fixedV,fixedL]using this
 have e:j=(j/3)*3+j%3:=by omega
 have hf:=flat_at (λq:Nat×Nat×Int=>[Value.int .i64 q.1,.int .i64 q.2.1,.int .u64 q.2.2]) 3 fixedL (λ_ _=>rfl) (j/3) (j%3) (by omega)
 rw[←e]at hf
 show cs[j]?=(fixedL.flatMap _)[j]?
 rw[hf]
 have hq:j/3<fixedL.length:=by show j/3<8;omega
 rw[List.getElem?_eq_getElem hq]
 have h1:=congrArg (·[j%3]?) (hch (j/3) (by omega) _ (List.getElem?_eq_getElem hq))
 simp only[List.getElem?_take,List.getElem?_drop,if_pos (show j%3<3 by omega),←e,Array.getElem?_toList]at h1
 rw[h1]
 rfl
theorem maxZero:((begin Tryz.prog (λ_ _=>0) default).world.heap[3]?).bind Obj.row?=some (#[.int .i64 0],3):=by kernel_rfl
theorem intCells:Tryz.prog.cellTypes Tryz.prog.depth 3=some [3]:=by kernel_rfl
theorem maxVar_of {W:World} (h:W.ShapedOpen Tryz.prog):MaxVar W:=by
 obtain⟨cs,hh,hs,hr⟩:=h.1 _ _ _ (of_decide_eq_true (by kernel_rfl)) maxZero
 obtain⟨ts,hts,_,hall⟩:=hr (by kernel_rfl)
 rw[intCells]at hts
 cases hts
 have h1:0<cs.size:=by rw[hs];decide
 obtain⟨u,hu,hok⟩:=hall 0 cs[0] (by simp[h1])
 have:u=3:=by simpa using hu.symm
 subst this
 have hc:W.cell? ⟨3,0,none⟩=some cs[0]:=by simp[World.cell?,hh,h1]
 generalize cs[0]=v at hok hc
 cases v with
 | int k n=>
   simp only[Cell.ok,Tryz.underlying3]at hok
   obtain⟨rfl,_⟩:=hok
   exact⟨n,hc⟩
 | _=>simp[Cell.ok,Tryz.underlying3]at hok
def putCells (cs:Array Value):Obj→Obj
 | .cells _ t frozen=>.cells cs t frozen
 | o=>o
def rangesV:List Value:=[128,191,160,191,128,159,144,191,128,143,0,0,0,0,0,0,0,0,0,0,0,0,0,0,0,0,0,0,0,0,0,0].map (Value.int .u8)
def firstV:List Value:=Go.Pinned.utf8FirstZ.map λ(n:Nat)=>Value.int .u8 (n:Int)
end Go.Proofs.YtjdaddmjpicflaaGreatDoor
