/-.-/
import Derived.Test.YtcnjjchlebmfiaaGreatDoorP21
import Derived.Test.YtcnjjchlebmfiaaGreatDoorCards
import Derived.Test.YtcnjjchlebmfiaaGreatDoorTie
import Derived.Deep.DeepHandedRow
import Derived.Lib.SmallJoins
set_option linter.unusedVariables false
set_option linter.unusedSimpArgs false
set_option maxRecDepth 100000
set_option maxHeartbeats 16000000
namespace Go.Proofs.YtcnjjchlebmfiaaGreatDoor
section
open Go.Proofs.Tryz Go.RowKit Go.Maps Go.Shelf
structure iH where
 kind:Int
 a:Int
 b:Int
 s:ByteArray
 l:List ByteArray
 lp:Option Addr
 lc:Nat
 d:List Int
 dp:Option Addr
 dc:Nat
structure rq where
 kind:Int
 a:Int
 b:Int
 c:iH
 d:List Int
 dp:Option Addr
 dc:Nat
def iH.cells(c:iH):List Value:=[.int .i64 c.kind,.int .i64 c.a,.int .i64 c.b,.string c.s,.slice c.lp c.l.length c.lc,.slice c.dp c.d.length c.dc]
def rq.cells(o:rq):List Value:=[.int .i64 o.kind,.int .i64 o.a,.int .i64 o.b,.int .i64 o.c.kind,.int .i64 o.c.a,.int .i64 o.c.b,.string o.c.s,.slice o.c.lp o.c.l.length o.c.lc,.slice o.c.dp o.c.d.length o.c.dc,.slice o.dp o.d.length o.dc]
def VM(w:World)(p:Option Addr)(l:List ByteArray):Prop:=∀(i:Nat) (s:ByteArray),l[i]?=some s→∃g o,p=some ⟨g,o,none⟩∧w.cell? ⟨g,o+i,none⟩=some (.string s)
theorem VM.bel{w w':World}{p:Option Addr}{l:List ByteArray}(h:VM w p l)(k:Bel w w'):VM w' p l:=λi s hi=>by
 obtain⟨g,o,e,hc⟩:=h i s hi;exact⟨g,o,e,aa k hc⟩
structure sM(w:World)(o:rq):Prop where
 l:VM w o.c.lp o.c.l
 cd:BS w o.c.dp o.c.d
 d:BS w o.dp o.d
 n1:o.c.s.size≤1048576
 n2:o.c.l.length≤1048576∧o.c.l.length≤o.c.lc
 n3:∀s∈o.c.l,s.size≤1048576
 n4:o.c.d.length≤1048576∧o.c.d.length≤o.c.dc
 n5:o.d.length≤1048576∧o.d.length≤o.dc
 z:o.c.lp=none→o.c.lc=0
 aw : -9223372036854775808≤o.a∧o.a≤9223372036854775807
def BV(w:World)(p:Option Addr)(l:List rq):Prop:=(∀(i:Nat) (x:rq),l[i]?=some x→∃g o,p=some ⟨g,o,none⟩∧w.rangeAt g (o+i*10) x.cells)∧∀x∈l,sM w x
theorem sM.bel{w w':World}{o:rq}(h:sM w o)(k:Bel w w'):sM w' o:=
 ⟨h.l.bel k,h.cd.bel k,h.d.bel k,h.n1,h.n2,h.n3,h.n4,h.n5,h.z,h.aw⟩
theorem BV.bel{w w':World}{p:Option Addr}{l:List rq}(h:BV w p l)(k:Bel w w'):BV w' p l:=by
 refine⟨λi x hi=>?_,λx hx=>(h.2 x hx).bel k⟩;obtain⟨g,o,e,hc⟩:=h.1 i x hi;exact⟨g,o,e,λj u hj=>aa k (hc j u hj)⟩
theorem BV.at{w:World}{p:Option Addr}{l:List rq}(h:BV w p l){i:Nat}{x:rq}(hi:l[i]?=some x):∃g o,p=some ⟨g,o,none⟩∧w.rangeAt g (o+i*10) x.cells∧sM w x:=by
 obtain⟨g,o,e,hc⟩:=h.1 i x hi;exact⟨g,o,e,hc,h.2 x (List.mem_of_getElem? hi)⟩
def xE(l:List ByteArray):Nat:=(l.map ByteArray.size).sum
theorem NV{l:List ByteArray}{k:Nat}{s:ByteArray}(h:l[k]?=some s):xE (l.take (k+1))=xE (l.take k)+s.size:=by
 unfold xE;rw[List.take_add_one,h];simp
def iH.weight(c:iH):Nat:=if 1000<c.l.length then 200001 else c.s.size+c.d.length+xE c.l
theorem Jq(c:iH)(w:World)(hl:VM w c.lp c.l)(n1:c.s.size≤1048576)(n2:c.l.length≤1048576)(n3:∀s∈c.l,s.size≤1048576)(n4:c.d.length≤1048576) :
 Calls prog 23 #[.agg c.cells.toArray] w (Z.b (.int .i64 (c.weight:Nat)) w):=by
 obtain⟨kind,a,b,s,l,lp,lc,d,dp,dc⟩:=c
 dsimp only at hl n1 n2 n3 n4
 change Calls prog 23 #[.agg #[.int .i64 kind,.int .i64 a,.int .i64 b,.string s,.slice lp l.length lc,.slice dp d.length dc]] w _
 have HL:=xh λW (hW:Bel w W)=>hl.bel hW;have HN3:=xh n3;clear hl n3;go_enter func23,ntmps23;go_upto_region 1 with fail
 have k1:Bel w (w.alloc (.cells #[.int .i64 kind,.int .i64 a,.int .i64 b,.string s,.slice lp l.length lc,.slice dp d.length dc] 68)):=Bel.start _ _;have BX:=Blk.new w [.int .i64 kind,.int .i64 a,.int .i64 b,.string s,.slice lp l.length lc,.slice dp d.length dc] 68;change Blk (w.alloc (.cells #[.int .i64 kind,.int .i64 a,.int .i64 b,.string s,.slice lp l.length lc,.slice dp d.length dc] 68)) w.heap.size _ _ at BX
 generalize w.alloc (.cells #[.int .i64 kind,.int .i64 a,.int .i64 b,.string s,.slice lp l.length lc,.slice dp d.length dc] 68)=w1 at *
 generalize w.heap.size=bx at *
 have x3:=BX.c 3 rfl;have x4:=BX.c 4 rfl;have x5:=BX.c 5 rfl;have K1:=xh k1;clear k1 BX;by_cases h1:1000<l.length
 ·have hd:decide ((1000:Int)<l.length)=true:=by simp;omega
  go_wp2_with fail
  go_ret
  exact⟨by simp only[iH.weight,if_pos h1];rfl,K1.o⟩
 ·have hd:decide ((1000:Int)<l.length)=false:=by simp;omega
  go_wp2_with fail
  go_loopw [3,4] (λn i wr=>∃k:Nat,k≤l.length∧i=.int .i64 k∧n=.int .i64 (s.size+d.length+xE (l.take k):Nat)∧xE (l.take k)≤1048576*k∧wr=w1) (λ_ i _=>l.length-(intOf i).toNat)
  case atStart=>exact⟨0,Nat.zero_le _,rfl,by simp[xE],by simp[xE],rfl⟩
  case round=>
   obtain⟨k,hk,rfl,rfl,hb,hw⟩:=hrel;rw[hw];clear hw;by_cases hlt:k<l.length
   ·have hf:=bP hlt
    obtain⟨t,ht⟩:=e_x (l[k]);rw[ht]at hf;obtain⟨g,o,rfl,hc⟩:=(HL.o _ K1.o) _ _ hf;have hst:=NV hf;have hts:=HN3.o t (List.mem_of_getElem? hf);go_wp2_with fail
    go_roundw
    case rel=>exact⟨k+1,by omega,by go_num,by rw[hst];go_num,by omega,by first|exact trivial|rfl⟩
    case measure=>simp[intOf]<;>omega
   ·obtain rfl:k=l.length:=by omega
    rw[List.take_length];go_wp2_with fail
    go_ret
    exact⟨by show _=Ending.returned (.int .i64 ((if 1000<l.length then 200001 else s.size+d.length+xE l:Nat)));rw[if_neg h1];rfl,K1.o⟩
def jH(l:List rq):Nat:=(l.map λo=>o.c.weight+o.d.length).sum
theorem Bg{l:List rq}{k:Nat}{o:rq}(h:l[k]?=some o):jH (l.take (k+1))=jH (l.take k)+(o.c.weight+o.d.length):=by
 unfold jH;rw[List.take_add_one,h];simp
theorem NW{w:World}{o:rq}(h:sM w o):o.c.weight≤1100000000:=by
 unfold iH.weight;split
 ·omega
 ·rename_i hl
  have h1:∀l:List ByteArray,(∀s∈l,s.size≤1048576)→xE l≤1048576*l.length:=λl=>by
   induction l with
   | nil=>intro _;simp[xE]
   | cons a l ih=>
     intro h;have h2:=ih λs hs=>h s (List.mem_cons_of_mem _ hs);have h3:=h a List.mem_cons_self;simp only[xE,List.map_cons,List.sum_cons,List.length_cons]at h2⊢
     omega
  have:=h1 _ h.n3;have:=h.n1;have:=h.n4.1;omega
def vD(F:List av)(l:List rq):Bool:=decide (l.length≤400∧F.length≤100∧nL F+jH l≤200000)
theorem Ja(a b c d e:Int)(F:List av)(p:Option Addr)(cap:Nat)(ops:List rq)(sp:Option Addr)(sc:Nat)(w:World)(hsc:BV w sp ops)(hk0:ops.length≤1048576)(hr:∀(i:Nat) (f:av),F[i]?=some f→∃g o,p=some ⟨g,o,none⟩∧w.rangeAt g (o+i*3) [.string f.path,.bool f.dir,.slice f.p f.byt.length f.cap])(hl:F.length≤1048576)(hs:∀f∈F,f.path.size≤1048576∧f.byt.length≤1048576) :
 Calls prog 9 #[.agg #[a,b,c,d,e,(p,F.length,cap)],(sp,ops.length,sc)] w (Z.b (.bool (vD F ops)) w):=by
 have HR:=xh hr;have HS:=xh hs;have Wm:=xh λW (hW:Bel w W)=>hsc.bel hW;clear hr hs hsc;by_cases h0:ops.length≤400
 ·have hd0:decide ((400:Int)<ops.length)=false:=by simp;omega
  by_cases h1:F.length≤100
  ·have hd:decide ((100:Int)<F.length)=false:=by simp;omega
   go_enter func9,ntmps9;have BX:=Blk.new w [a,b,c,d,e,(p,F.length,cap)] 26;have kx:Bel w (w.alloc (.cells #[a,b,c,d,e,(p,F.length,cap)] 26)):=Bel.start _ _;change Blk (w.alloc (.cells #[a,b,c,d,e,(p,F.length,cap)] 26)) w.heap.size _ _ at BX
   go_upto_region 3 with fail
   generalize w.alloc (.cells #[a,b,c,d,e,(p,F.length,cap)] 26)=w2 at *
   generalize hxb:w.heap.size=xb at *
   have x5:=BX.c 5 rfl;have HK:Hid (Bel w w2):=xh kx;clear kx BX;go_wp2_with fail
   go_loopw [5,6] (λn i wr=>∃k q:Nat,k≤F.length∧i=.int .i64 k∧n=.int .i64 (nL (F.take k):Nat)∧nL (F.take k)≤2097152*k∧wr=w2.drewN q) (λ_ i _=>F.length-(intOf i).toNat)
   case atStart=>exact⟨0,0,Nat.zero_le _,rfl,rfl,bH _,rfl⟩
   case round=>
    obtain⟨k,q,hk,rfl,rfl,hb,rfl⟩:=hrel;by_cases hlt:k<F.length
    ·have hf:=bP hlt
     obtain⟨f,UJ⟩:=e_x (F[k]);rw[UJ]at hf;obtain⟨g,o,rfl,fI⟩:=HR.o k f hf;obtain⟨hs1,hs2⟩:=HS.o f (List.mem_iff_getElem?.2 ⟨k,hf⟩);have r0:w2.cell? (g,o+k*3)=some (.string f.path):=aa HK.o (fI 0 _ rfl);have r2:w2.cell? (g,o+k*3+2)=some (.slice f.p f.byt.length f.cap):=aa HK.o (fI 2 _ rfl);have hst:=Jr hf;have hw1:IntKind.i64.wrap (((nL (F.take k):Nat):Int)+(f.path.size:Int))=((nL (F.take k):Nat):Int)+(f.path.size:Int):=by rw[IntKind.wrap_i64];omega
     have hw2:IntKind.i64.wrap (((nL (F.take k):Nat):Int)+(f.path.size:Int)+(f.byt.length:Int))=((nL (F.take k):Nat):Int)+(f.path.size:Int)+(f.byt.length:Int):=by rw[IntKind.wrap_i64];omega
     clear fI;go_upto_region 7 with fail
     go_quiet (fail)
     go_wp2_with fail
     go_roundw
     case rel=>exact⟨k+1,q+nq,by omega,by go_num,by rw[hst];go_num,by omega,by simp[World.drewN_drewN]⟩
     case measure=>simp[intOf]<;>omega
    ·obtain rfl:k=F.length:=by omega
     rw[List.take_length]at hb⊢;have HQ:Hid (Bel w (w2.drewN q)):=xh (ah HK.o q);go_wp2_with fail
     generalize w2.drewN q=w3 at *
     obtain⟨n,hn⟩:=e_x (nL F);rw[hn]at hb⊢;have HNN:=xh hn;clear hn
     go_loopw [5,7] (λm i wr=>∃j:Nat,j≤ops.length∧i=.int .i64 j∧m=.int .i64 (n+jH (ops.take j):Nat)∧jH (ops.take j)≤1200000000*j∧Hid (Bel w wr)) (λ_ i _=>ops.length-(intOf i).toNat)
     case atStart=>exact⟨0,Nat.zero_le _,rfl,by simp[jH],by simp[jH],HQ⟩
     case round=>
      obtain⟨j,hj,rfl,rfl,hjb,HB⟩:=hrel;by_cases hlt:j<ops.length
      ·have hf:=bP hlt
       obtain⟨⟨aet,oa,oo,⟨kind,ca,cb,s,l,lp,lc,dd,dp,dc⟩,od,mZ,nE⟩,hoo⟩:∃o,ops[j]=o:=⟨_,rfl⟩;rw[hoo]at hf;obtain⟨g,o,rfl,fI,hok⟩:=(Wm.o _ HB.out).at hf;have hst:=Bg hf;have hwl:=NW hok;have r3:wr.cell? (g,o+j*10+3)=some (.int .i64 kind):=fI 3 _ rfl;have r4:wr.cell? (g,o+j*10+4)=some (.int .i64 ca):=fI 4 _ rfl;have r5:wr.cell? (g,o+j*10+5)=some (.int .i64 cb):=fI 5 _ rfl;have r6:wr.cell? (g,o+j*10+6)=some (.string s):=fI 6 _ rfl;have r7:wr.cell? (g,o+j*10+7)=some (.slice lp l.length lc):=fI 7 _ rfl;have r8:wr.cell? (g,o+j*10+8)=some (.slice dp dd.length dc):=fI 8 _ rfl;have r9:wr.cell? (g,o+j*10+9)=some (.slice mZ od.length nE):=fI 9 _ rfl;have HWT:Hid (Calls prog 23 #[.agg #[.int .i64 kind,.int .i64 ca,.int .i64 cb,.string s,.slice lp l.length lc,.slice dp dd.length dc]] wr λe w'=>e=.returned (.int .i64 (iH.weight ⟨kind,ca,cb,s,l,lp,lc,dd,dp,dc⟩:Nat))∧Bel wr w'):=xh (Jq ⟨kind,ca,cb,s,l,lp,lc,dd,dp,dc⟩ wr hok.l hok.n1 hok.n2.1 hok.n3 hok.n4.1);have R9:=xh λW (hW:Bel wr W)=>aa hW r9;have hod:od.length≤1048576:=hok.n5.1;obtain⟨wt,hwt⟩:=e_x (iH.weight ⟨kind,ca,cb,s,l,lp,lc,dd,dp,dc⟩)
       dsimp only at hst hwl
       rw[hwt]at HWT hst hwl;obtain⟨so,hso⟩:=e_x (jH (ops.take j));rw[hso]at hst hjb⊢;have HST:=xh hst;have hw1:IntKind.i64.wrap (((n+so:Nat):Int)+(wt:Nat))=((n+so+wt:Nat):Int):=by rw[IntKind.wrap_i64];omega
       have hw2:IntKind.i64.wrap (((n+so+wt:Nat):Int)+(od.length:Nat))=((n+so+wt+od.length:Nat):Int):=by rw[IntKind.wrap_i64];omega
       clear fI hok hwt hso hst hf hoo r9;go_upto_region 12 with(go_at_call 23;((with_reducible refine au HWT.o ?_);rintro e4 w4 ⟨rfl,k4⟩;have H4:=xh (HB.out.tr k4);have r9:=R9.o _ k4;clear k4))
       clear r3 r4 r5 r6 r7 r8;go_wp2_with fail
       go_roundw
       case rel=>exact⟨j+1,by omega,by go_num,by rw[HST.o];congr 1;omega,by rw[HST.o];omega,H4⟩
       case measure=>simp[intOf]<;>omega
      ·obtain rfl:j=ops.length:=by omega
       rw[List.take_length];rw[List.take_length]at hjb;have hsm:vD F ops=decide (((n+jH ops:Nat):Int)≤200000):=by
        unfold vD;rw[HNN.o];apply decide_eq_decide.2
        constructor
        ·intro h;omega
        ·intro h;exact⟨h0,h1,by omega⟩
       have qV:=xh hsm;clear hsm;go_wp2_with fail
       go_ret
       exact⟨by rw[qV.o];rfl,HB.out⟩
  ·have hd:decide ((100:Int)<F.length)=true:=by simp;omega
   go_enter func9,ntmps9;go_wp2_with fail
   go_ret
   refine⟨?_,Bel.start _ _⟩;rw[show vD F ops=false from decide_eq_false λh=>h1 h.2.1];rfl
 ·have hd:decide ((400:Int)<ops.length)=true:=by simp;omega
  go_enter func9,ntmps9;go_wp2_with fail
  go_ret
  refine⟨?_,Bel.start _ _⟩;rw[show vD F ops=false from decide_eq_false λh=>h0 h.1];rfl
end
section
open Go.Proofs.Tryz Go.ChangeShapes Go.WideShapes Go.ChangeAt Go.RowKit
theorem own:ownKnob prog.godebug=none:=by kernel_rfl
theorem laidOut:laidOutB prog=true:=by kernel_rfl
theorem rA{H:Type}{enc:TypeId×Value→H}{W W':World}(hb:Bel W W'):∀{ts:List TypeId} {vs:List Value} {ds:List (DataW H)} {ps:List MemPlace},
 (∀t∈ts,prog.readableRec t=true∧t<prog.types.size)→DataW.TrodAll enc prog W 0 (λ_=>true) true ts vs ds ps→(∀x∈ps,x.block<W.heap.size)→
 DataW.TrodAll enc prog W' 0 (λb=>decide (b<W.heap.size)) true ts vs ds ps
 | [],vs,ds,ps,_,h,_=>by
   obtain⟨rfl,rfl,rfl⟩:=trodAll_nil h;exact trodAll_mk0
 | t::ts,vs,ds,ps,hr,h,hlt=>by
   obtain⟨v,vs',d,ds',p,q,rfl,rfl,rfl,h1,h2⟩:=trodAll_cons h;exact trodAll_cons_mk (Below.trod laidOut (hr t (by simp)).1 (hr t (by simp)).2 h1 hb (λx hx=>hlt x (by simp[hx]))) (rA hb (λu hu=>hr u (by simp[hu])) h2 (λx hx=>hlt x (by simp[hx])))
theorem Rv{H:Type}{enc:TypeId×Value→H}{f:Func}{s:ChangeSpec}{W W':World}{args:Array Value}{ds:List (DataW H)}{before:List MemPlace}
 (hW:DataW.Whole enc prog f.params.toList s.vars false W args.toList ds [] before)(hv:s.vars=[])(hres:f.resultTypes = #[4])
 (hr:∀t∈f.params.toList,prog.readableRec t=true∧t<prog.types.size)(hs:s.fn H (ds++[])={results:=[.lit (.bool true)],args:=ds})(hb:Bel W W') :
 s.post enc prog f false true false false W args (.bool true) W':=by
 have hW':=hW;obtain⟨p,q,hA,hV,hbef,hfz,hnd⟩:=hW;have hlt:∀x∈p,x.block<W.heap.size:=λx hx=>hW'.lt x (by rw[hbef];simp[hx]);refine⟨ds,[],before,[],p,[],hW',?_,?_,?_,Below.frame hb _,λh=>by cases h⟩
 ·rw[hs,hres];exact trodAll_mk1 (shut_bool underlying4 true)
 ·rw[hs];exact rA hb hr hA hlt
 ·rw[hs,hv];rfl
theorem Y7:prog.globalNamed "errors.errorType" = some 0:=by kernel_rfl
theorem Y8:(prog.cutTypes.find? (·.1== "internal/reflectlite.rtype")).map (·.2)=some 205:=by kernel_rfl
theorem Y9:((List.range prog.types.size).filter λt=>prog.rowNamed t [101,114,114,111,114])=[46]:=by kernel_rfl
theorem N8{laid:List (String×DataW Unit)}(hm:("errors.errorType",Rows.laid_errors_errorType)∈laid){W:World}(h:handlesMet prog laid W):ErrVar W:=by
 obtain⟨name,u,ty,e1,e2,e3,e4,e5⟩:=h _ hm;have en:name=[101,114,114,111,114]:=(Option.some.inj e1).symm;subst en;obtain rfl:=Option.some.inj (Y8.symm.trans e2);have hm:ty∈(List.range prog.types.size).filter λt=>prog.rowNamed t [101,114,114,111,114]:=List.mem_filter.2 ⟨List.mem_range.2 e3,e4⟩;rw[Y9]at hm;obtain rfl:=List.mem_singleton.1 hm;have hh:typeHandle prog 46=.pointer (6,46):=by kernel_rfl
 rw[hh]at e5;have:=World.var?_cell Y7 e5 0
 simpa [ErrVar]using this
end
section
open Go.Proofs.Tryz Go.ChangeShapes Go.WideShapes Go.ChangeAt Go.RowKit Go.Deep
section
variable {H:Type} {enc:TypeId×Value→H} {P:Program} {w:World} {base:Nat} {spare:Nat→Bool} {held:Bool}
theorem DW{t e:TypeId}{fs:Array Field}{fuel:Nat}{cs:List Value}{x:DataW H×List MemPlace}(ht:P.underlying t=some (.slice e))(he:P.underlying e=some (.struct fs))
 (hone:oneCellFields P fs=true)(hC:P.cellsOf e=fs.size)(h:DataW.trod enc P w base spare held fuel t cs=some x) :
 (cs=[.slice none 0 0]∧x=(.nil,[]))∨
 ∃(a:Addr) (len cap m:Nat) (D:Nat→DataW H),cs=[.slice (some a) len cap]∧len≤cap∧cap≤maxLen∧m=(if spare a.block then cap else len)∧
  x.1=.slice ((List.range len).map D) ((List.range (m-len)).map λj=>D (len+j))∧
  ∀i,i<m→∃(ys:List (DataW H×List MemPlace)) (n:Nat),D i=.agg (ys.map (·.1))∧ys.length=fs.size∧
   ∀(j:Nat) (f:Field),fs[j]?=some f→∃(v:Value) (y:DataW H×List MemPlace),w.cell? (a.add (i*fs.size+j))=some v∧ys[j]?=some y∧DataW.trod enc P w base spare held n f.type [v]=some y:=by
 rcases open_slice ht h with h0|⟨a,len,cap,m,n,D,Pl,hcs,hb,hl,hm,hmm,hx,hi⟩
 ·exact .inl h0
 ·refine .inr ⟨a,len,cap,m,D,hcs,hl,hm,hmm,by rw[hx],λi him=>?_⟩
  obtain⟨cs',hc,ht'⟩:=hi i him;rw[hC]at hc;obtain⟨ys,n',hn',hy,hlen,hyl,hf⟩:=DataW.trod_struct he ht';obtain⟨_,hcl,hat⟩:=World.cells?_some hc;simp only[Prod.mk.injEq]at hy
  refine⟨ys,n',hy.1,hyl,λj f hj=>?_⟩;obtain⟨ho,hk⟩:=hone_of hone j f hj;have hjl:j<fs.size:=(Array.getElem?_eq_some_iff.1 hj).1;have hcell:=hat j hjl;have hv:cs'[j]?=some (cs'[j]'(by omega)):=bP (by omega);have h1:=hf j f hj;rw[ho,hk]at h1;have hone':(cs'.drop j).take 1=[cs'[j]'(by omega)]:=by
   rw[List.drop_eq_getElem_cons (by omega)];rfl
  rw[hone']at h1;have hys:ys[j]?=some (ys[j]'(by omega)):=bP (by omega);refine⟨_,_,?_,hys,h1.trans hys⟩;rw[←Go.Deep.add_add,hcell,hv]
end
theorem O6{n:Int}(h:(Lit.int .u8 n).wf=true):0≤n∧n≤255:=by
 simp[Lit.wf,IntKind.min,IntKind.max,IntKind.signed,IntKind.bits]at h;omega
section
variable {H:Type} {enc:TypeId×Value→H} {W:World}
theorem yg{t:TypeId}{k:IntKind}{n:Nat}{c:Value}{y:Option (DataW H×List MemPlace)}(hu:prog.underlying t=some (.int k))(h:DataW.trod enc prog W 0 (λ_=>true) true n t [c]=y)(hy:y.isSome=true):∃z,c=.int k z:=by
 obtain⟨y',rfl⟩:=Option.isSome_iff_exists.1 hy;obtain⟨z,hz,_⟩:=DataW.trod_int hu h;exact⟨z,List.singleton_inj.1 hz⟩
end
end
section
open Go.Proofs.Tryz Go.ChangeShapes Go.WideShapes Go.ChangeAt Go.RowKit
theorem Kn:prog.globalNamed "tinyos/machine.fixed" = some 2:=by kernel_rfl
theorem TP:(prog.globals[2]?).map (·.type)=some 403:=by kernel_rfl
theorem TQ:(Rows.laid_tinyos_machine_fixed:DataW Unit)=.agg (kZ.map λq=>.agg [.lit (.int .i64 q.1),.lit (.int .i64 q.2.1),.lit (.int .u64 q.2.2)]):=rfl
theorem take1{c:List Value}{k:Nat}{v:Value}(h:(c.drop k).take 1=[v]):c[k]?=some v:=by
 have:=congrArg (·[0]?) h
 simpa [List.getElem?_take,List.getElem?_drop]using this
theorem Ef{w:World}{m:Nat}{c:List Value}{p:List MemPlace}{q:Nat×Nat×Int}
 (h:DataW.trod (λ_=>()) prog w 0 (λ_=>true) false m 402 c=some (.agg [.lit (.int .i64 q.1),.lit (.int .i64 q.2.1),.lit (.int .u64 q.2.2)],p)):c=[.int .i64 q.1,.int .i64 q.2.1,.int .u64 q.2.2]:=by
 obtain⟨y0,y1,y2,n,hx,hl,h0,h1,h2⟩:=Deep.trod_struct3 underlying402 h;simp only[Prod.mk.injEq,DataW.agg.injEq,List.cons.injEq,and_true]at hx
 obtain⟨⟨e0,e1,e2⟩,_⟩:=hx;obtain⟨z0,c0,r0,_⟩:=DataW.trod_int underlying3 h0;obtain⟨z1,c1,r1,_⟩:=DataW.trod_int underlying3 h1;obtain⟨z2,c2,r2,_⟩:=DataW.trod_int underlying37 h2;rw[r0]at e0;rw[r1]at e1;rw[r2]at e2;simp only[DataW.lit.injEq,Lit.int.injEq,true_and]at e0 e1 e2
 have a0:=take1 c0;have a1:=take1 c1;have a2:=take1 c2;have hl3:c.length=3:=hl.trans (by kernel_rfl);rw[←e0]at a0;rw[←e1]at a1;rw[←e2]at a2
 match c,hl3 with
 | [x,y,z],_=>
   have b0:some x=some (Value.int .i64 (q.1:Int)):=a0;have b1:some y=some (Value.int .i64 (q.2.1:Int)):=a1;have b2:some z=some (Value.int .u64 q.2.2):=a2;rw[Option.some.inj b0,Option.some.inj b1,Option.some.inj b2]
theorem Mf{W:World}{g':Nat}{t':TypeId}{cs:Array Value}{fuel:Nat}{p:List MemPlace}(hg':prog.globalNamed "tinyos/machine.fixed" = some g')(ht':(prog.globals[g']?).map (·.type)=some t')(hvar:W.var? prog "tinyos/machine.fixed" = some cs)(hd:DataW.trod (λ_=>()) prog W 0 (λ_=>true) false fuel t' cs.toList=some (Rows.laid_tinyos_machine_fixed,p)):gN W:=by
 obtain rfl:=Option.some.inj (Kn.symm.trans hg');obtain rfl:=Option.some.inj (TP.symm.trans ht');have hcell:=λi=>World.var?_cell Kn hvar i;rw[TQ]at hd;obtain⟨xs,m,_,hx,hl,hxl,hel⟩:=DataW.trod_array underlying403 hd;have hxm:xs.map (·.1)=kZ.map λq=>(DataW.agg [.lit (.int .i64 q.1),.lit (.int .i64 q.2.1),.lit (.int .u64 q.2.2)]:DataW Unit):=by
  have:=congrArg Prod.fst hx
  simpa using this.symm
 have hch:∀i,i<8→∀q,kZ[i]?=some q→(cs.toList.drop (i*3)).take 3=[.int .i64 q.1,.int .i64 q.2.1,.int .u64 q.2.2]:=by
  intro i hi q hq;have h1:=hel i hi;rw[show prog.cellsOf 402=3 from by kernel_rfl]at h1;have h2:=congrArg (·[i]?) hxm;simp only[dA,hq,Option.map_some]at h2
  cases hxi:xs[i]? with
  | none=>rw[hxi]at h2;cases h2
  | some y=>
    rw[hxi]at h1 h2;simp only[Option.map_some,Option.some.injEq]at h2
    obtain⟨d,pp⟩:=y;simp only at h2
    subst h2;exact Ef h1
 have hlt:2<W.heap.size:=by
  have h0:=hcell 0;have h1:=hch 0 (by omega) _ rfl;have h2:=congrArg (·[0]?) h1;simp only[List.getElem?_take,List.getElem?_drop,Nat.zero_mul,Nat.zero_add,if_pos (show 0<3 by omega),Array.getElem?_toList]at h2
  rw[h2]at h0;have:=World.block_lt_of_cell? _ _ h0
  simpa using this
 refine⟨λj v hv=>?_,hlt⟩;rw[Nat.zero_add,hcell j,←hv];have hj:j<24:=by have:=(bZ hv).1;simpa [yo,kZ]using this
 have e:j=(j/3)*3+j%3:=by omega
 have hf:=iK (λq:Nat×Nat×Int=>[Value.int .i64 q.1,.int .i64 q.2.1,.int .u64 q.2.2]) 3 kZ (λ_ _=>rfl) (j/3) (j%3) (by omega);rw[←e]at hf;show cs[j]?=(kZ.flatMap _)[j]?
 rw[hf];have hq:j/3<kZ.length:=by show j/3<8;omega
 rw[bP hq];have h1:=congrArg (·[j%3]?) (hch (j/3) (by omega) _ (bP hq));simp only[List.getElem?_take,List.getElem?_drop,if_pos (show j%3<3 by omega),←e,Array.getElem?_toList]at h1
 rw[h1];rfl
theorem TR:((begin prog (λ_ _=>0) default).world.heap[3]?).bind Obj.row?=some (#[.int .i64 0],3):=by kernel_rfl
theorem intCells:prog.cellTypes prog.depth 3=some [3]:=by kernel_rfl
theorem Mg{W:World}(h:W.ShapedOpen prog):dZ W:=by
 obtain⟨cs,hh,hs,hr⟩:=h.1 _ _ _ (of_decide_eq_true (by kernel_rfl)) TR;obtain⟨ts,hts,_,hall⟩:=hr (by kernel_rfl);rw[intCells]at hts;cases hts
 have h1:0<cs.size:=by rw[hs];decide
 obtain⟨u,hu,hok⟩:=hall 0 cs[0] (by simp[h1]);have:u=3:=by simpa using hu.symm
 subst this;have hc:W.cell? (3,0)=some cs[0]:=by simp[World.cell?,hh,h1]
 generalize cs[0]=v at hok hc;cases v with
 | int k n=>
   simp only[Cell.ok,underlying3]at hok
   obtain⟨rfl,_⟩:=hok;exact⟨n,hc⟩
 | _=>simp[Cell.ok,underlying3]at hok
def putCells(cs:Array Value):Obj→Obj
 | .cells _ t frozen=>.cells cs t frozen
 | o=>o
def TS:List Value:=[128,191,160,191,128,159,144,191,128,143,0,0,0,0,0,0,0,0,0,0,0,0,0,0,0,0,0,0,0,0,0,0].map (Value.int .u8)
def Xd:List Value:=Go.Pinned.utf8FirstZ.map λ(n:Nat)=>Value.int .u8 (n:Int)
end
end Go.Proofs.YtcnjjchlebmfiaaGreatDoor
namespace Go.Proofs.YtcnjjchlebmfiaaGreatDoor
open Go.Proofs.Tryz
open Go.ChangeShapes Go.WideShapes Go.ChangeAt Go.RowKit Go.Deep
namespace Bk
variable {H:Type}
theorem one_le(d:DataW H):1≤Rows.uptoBulk d:=by
 cases d with
 | lit l=>cases l<;>simp[Rows.uptoBulk]
 | nil=>simp[Rows.uptoBulk]
 | ptr d=>simp[Rows.uptoBulk]
 | slice elems spare=>simp[Rows.uptoBulk]
 | agg parts=>simp[Rows.uptoBulk]
 | iface t d=>simp[Rows.uptoBulk]
 | map entries=>simp[Rows.uptoBulk]
 | held h=>simp[Rows.uptoBulk]
theorem sJ{d:DataW H}:∀{l:List (DataW H)},d∈l→Rows.uptoBulk d≤Rows.uptoBulkAll l
 | x::r,h=>by
   simp only[Rows.uptoBulkAll]
   rcases List.mem_cons.1 h with rfl|e
   ·omega
   ·have:=sJ e;omega
theorem length_le:∀l:List (DataW H),l.length≤Rows.uptoBulkAll l
 | []=>by simp[Rows.uptoBulkAll]
 | x::r=>by have:=one_le x;have:=length_le r;simp only[Rows.uptoBulkAll,List.length_cons];omega
theorem sK(elems spare:List (DataW H)):elems.length+spare.length+1≤Rows.uptoBulk (.slice elems spare):=by
 have h1:=length_le elems;have h2:=length_le spare;simp only[Rows.uptoBulk]
 omega
theorem BP{d:DataW H}{elems spare:List (DataW H)}(h:d∈elems):Rows.uptoBulk d≤Rows.uptoBulk (.slice elems spare):=by
 have:=sJ h;simp only[Rows.uptoBulk]
 omega
theorem oO{d:DataW H}{parts:List (DataW H)}(h:d∈parts):Rows.uptoBulk d≤Rows.uptoBulk (.agg parts):=by
 have:=sJ h;simp only[Rows.uptoBulk]
 omega
theorem uP(bytes:List UInt8):Rows.uptoBulk (DataW.lit (H:=H) (.string bytes))=bytes.length+1:=by simp[Rows.uptoBulk]
end Bk
section
variable {H:Type} {enc:TypeId×Value→H} {W:World}
theorem oP{K fuel:Nat}{v:Value}{y:DataW H×List MemPlace}(h:DataW.trod enc prog W 0 (λ_=>true) true fuel 59 [v]=some y)(hw:Rows.uptoBulk y.1≤K) :
 ∃(q:Option Addr) (L:List Int) (cap:Nat),v=.slice q L.length cap∧BS W q L∧L.length≤cap∧L.length≤K∧(0<L.length→∀b o,q=some ⟨b,o,none⟩→b<W.heap.size):=by
 rcases open_ints underlying59 underlying5 (by kernel_rfl) h with⟨hcs,hx⟩|⟨a,len',cap',zs,hcs,_,hl,hm,hz,hx,hcell,hwz⟩
 ·obtain rfl:=List.singleton_inj.1 hcs
  exact⟨none,[],0,rfl,⟨λx hx=>(by cases hx),λh=>absurd h (by simp)⟩,Nat.zero_le _,Nat.zero_le _,λh=>absurd h (by simp)⟩
 ·obtain rfl:=List.singleton_inj.1 hcs
  simp only[if_true]at hz
  have hlz:len'≤zs.length:=by omega
  have GR:zs.length≤K:=by
   rw[hx]at hw;have:=aV (Bk.sK (H:=H) (ChangeShapes.lits .u8 (zs.take len')) (ChangeShapes.lits .u8 (zs.drop len'))) hw;simp[ChangeShapes.lits]at this
   omega
  obtain⟨ab,ao,spot⟩:=a;by_cases h0:0<zs.length
  ·have hspot:spot=none:=by simpa [Addr.add]using World.cell?_spot (hcell 0 h0)
   subst hspot;have hc:∀i,i<len'→W.cell? ⟨ab,ao+i,none⟩=((zs.take len')[i]?).map (Value.int .u8):=λi hi=>by
    have:=hcell i (by omega);rw[Addr.add_lit]at this;rw[this,List.getElem?_take,if_pos hi,List.getD_eq_getElem?_getD,bP (by omega)];rfl
   have hlt:ab<W.heap.size:=by
    have:=World.block_lt_of_cell? _ _ (hcell 0 h0)
    simpa [Addr.add]using this
   refine⟨_,zs.take len',cap',by simp;omega,⟨λx hx=>O6 (hwz x (List.mem_of_mem_take hx)),λh0=>⟨ab,ao,rfl,hlt,⟨λi hi=>hc i (by simp at hi;omega),λx hx=>O6 (hwz x (List.mem_of_mem_take hx))⟩⟩⟩,by simp;omega,by simp;omega,λ_ b o e=>by cases e;exact hlt⟩
  ·obtain rfl:len'=0:=by omega
   exact⟨_,[],cap',rfl,⟨λx hx=>(by cases hx),λh=>absurd h (by simp)⟩,Nat.zero_le _,Nat.zero_le _,λh=>absurd h (by simp)⟩
theorem DX{K fuel:Nat}{v:Value}{y:DataW H×List MemPlace}(h:DataW.trod enc prog W 0 (λ_=>true) true fuel 66 [v]=some y)(hw:Rows.uptoBulk y.1≤K) :
 ∃(q:Option Addr) (L:List ByteArray) (cap:Nat),v=.slice q L.length cap∧VM W q L∧L.length≤cap∧L.length≤K∧(∀s∈L,s.size≤K)∧(q=none→cap=0):=by
 rcases open_strs underlying66 underlying9 (by kernel_rfl) h with⟨hcs,hx⟩|⟨a,len,cap,m,Sx,hcs,_,hl,hm,hmm,hx,hi⟩
 ·obtain rfl:=List.singleton_inj.1 hcs
  exact⟨none,[],0,rfl,λi s h=>(by cases h),Nat.zero_le _,Nat.zero_le _,λs h=>(by cases h),λ_=>rfl⟩
 ·obtain rfl:=List.singleton_inj.1 hcs
  simp only[if_true]at hmm
  subst hmm;rw[hx]at hw;have h1:=aV (Bk.sK (H:=H) _ _) hw;simp at h1
  have hget:∀(i:Nat) (s:ByteArray),((List.range len).map Sx)[i]?=some s→i<len∧s=Sx i:=λi s hs=>by
   have hlt:=(bZ hs).1;simp at hlt
   rw[dA,List.getElem?_range hlt]at hs;cases hs
   exact⟨hlt,rfl⟩
  refine⟨some a,(List.range len).map Sx,m,by simp,λi s hs=>?_,by simpa using hl,by simp;omega,λs hs=>?_,λe=>by cases e⟩
  ·obtain⟨hil,rfl⟩:=hget i s hs
   have hc:=(hi i (by omega)).1;obtain⟨ab,ao,spot⟩:=a;have hspot:spot=none:=by simpa [Addr.add]using World.cell?_spot (hi 0 (by omega)).1
   subst hspot;rw[Addr.add_lit]at hc;exact⟨ab,ao,rfl,hc⟩
  ·obtain⟨i,hi2⟩:=List.mem_iff_getElem?.1 hs
   obtain⟨hil,rfl⟩:=hget i s hi2;have:=aV (Bk.BP (H:=H) (spare:=(List.range (m-len)).map λj=>.lit (.string (Sx (len+j)).data.toList)) (List.mem_map.2 ⟨i,List.mem_range.2 hil,rfl⟩)) hw;rw[Bk.uP]at this;have e:(Sx i).data.toList.length=(Sx i).size:=by simp
   omega
structure O7(K:Nat)(W:World)(f:av):Prop where
 bs:BS W f.p f.byt
 len:f.byt.length≤K
 path:f.path.size≤K
 cap:f.byt.length≤f.cap
 lt:0<f.byt.length→∀b o,f.p=some ⟨b,o,none⟩→b<W.heap.size
theorem DY{K fuel:Nat}{v:Value}{y:DataW H×List MemPlace}(h:DataW.trod enc prog W 0 (λ_=>true) true fuel 24 [v]=some y)(hw:Rows.uptoBulk y.1≤K) :
 ∃(q:Option Addr) (F:List av) (cap:Nat),v=.slice q F.length cap∧F.length≤K∧(∀(i:Nat) (f:av),F[i]?=some f→∃g o,q=some ⟨g,o,none⟩∧W.rangeAt g (o+i*3) [.string f.path,.bool f.dir,.slice f.p f.byt.length f.cap])∧∀f∈F,O7 K W f:=by
 rcases DW underlying24 underlying71 (by kernel_rfl) (by kernel_rfl) h with⟨hcs,hx⟩|⟨a,len,cap,m,D,hcs,hl,hm,hmm,hx,hi⟩
 ·obtain rfl:=List.singleton_inj.1 hcs
  exact⟨none,[],0,rfl,Nat.zero_le _,λi f h=>(by cases h),λf h=>(by cases h)⟩
 ·obtain rfl:=List.singleton_inj.1 hcs
  simp only[if_true]at hmm
  subst hmm;rw[hx]at hw;have h1:=aV (Bk.sK (H:=H) _ _) hw;simp at h1
  have hex:∀i,∃f:av,i<len→(W.cell? (a.add (i*3))=some (.string f.path)∧W.cell? (a.add (i*3+1))=some (.bool f.dir)∧W.cell? (a.add (i*3+2))=some (.slice f.p f.byt.length f.cap)∧O7 K W f):=λi=>by
   by_cases hil:i<len
   ·obtain⟨ys,n,hD,hyl,hf⟩:=hi i (by omega)
    have ZO:Rows.uptoBulk (D i)≤K:=aV (Bk.BP (H:=H) (List.mem_map.2 ⟨i,List.mem_range.2 hil,rfl⟩)) hw;obtain⟨v0,y0,c0,k0,t0⟩:=hf 0 _ rfl;obtain⟨v1,y1,c1,k1,t1⟩:=hf 1 _ rfl;obtain⟨v2,y2,c2,k2,t2⟩:=hf 2 _ rfl;have hys:ys=[y0,y1,y2]:=by
     match ys,hyl with
     | [z0,z1,z2],_=>cases k0;cases k1;cases k2;rfl
    rw[hD,hys]at ZO;obtain⟨s,e0,x0,_⟩:=DataW.trod_string underlying9 t0;obtain⟨b,e1,x1⟩:=DataW.trod_bool underlying4 t1;obtain⟨q,L,c,rfl,b1,b2,b3,b4⟩:=oP t2 (aV (Bk.oO (H:=H) (by simp)) ZO);obtain rfl:=List.singleton_inj.1 e0;obtain rfl:=List.singleton_inj.1 e1;refine⟨⟨s,b,q,c,L⟩,λ_=>⟨c0,c1,c2,b1,b3,?_,b2,b4⟩⟩;have:=aV (Bk.oO (H:=H) (d:=y0.1) (by simp)) ZO;rw[x0,Bk.uP]at this;have e:s.data.toList.length=s.size:=by simp
    show s.size≤K
    omega
   ·exact⟨⟨⟨#[]⟩,false,none,0,[]⟩,λh=>absurd h hil⟩
  obtain⟨Ff,hFf⟩:=Classical.skolem.1 hex;have hget:∀(i:Nat) (f:av),((List.range len).map Ff)[i]?=some f→i<len∧f=Ff i:=λi f hf=>by
   have hlt:=(bZ hf).1;simp at hlt
   rw[dA,List.getElem?_range hlt]at hf;cases hf
   exact⟨hlt,rfl⟩
  refine⟨some a,(List.range len).map Ff,m,by simp,by simp;omega,λi f hf=>?_,λf hf=>?_⟩
  ·obtain⟨hil,rfl⟩:=hget i f hf
   obtain⟨h0,h1,h2,_⟩:=hFf i hil;have h00:=(hFf 0 (by omega)).1;obtain⟨ab,ao,spot⟩:=a;have hspot:spot=none:=by simpa [Addr.add]using World.cell?_spot h00
   subst hspot;refine⟨ab,ao,rfl,λj u hj=>?_⟩;rw[Addr.add_lit]at h0 h1 h2
   match j,hj with
   | 0,hj=>cases hj;exact h0
   | 1,hj=>cases hj;rw[Nat.add_assoc];exact h1
   | 2,hj=>cases hj;rw[Nat.add_assoc];exact h2
  ·obtain⟨i,hi2⟩:=List.mem_iff_getElem?.1 hf
   obtain⟨hil,rfl⟩:=hget i f hi2;exact(hFf i hil).2.2.2
theorem Tw{n:Int}(h:(Lit.int .i64 n).wf=true) : -9223372036854775808≤n∧n≤9223372036854775807:=by
 simp[Lit.wf,IntKind.min,IntKind.max,IntKind.signed,IntKind.bits]at h;omega
theorem zR{K base fuel:Nat}{v:Value}{y:DataW H×List MemPlace}(hv:Value.okWide prog W .any base 26 v)(h:DataW.trod enc prog W 0 (λ_=>true) true fuel 26 v.cells.toList=some y)(hw:Rows.uptoBulk y.1≤K) :
 ∃(l:dN) (q:Option Addr) (F:List av) (cap:Nat),v=.agg #[.int .i64 l.a,.int .i64 l.b,.int .i64 l.c,.int .i64 l.d,.int .i64 l.e,.slice q F.length cap]∧F.length≤K∧(∀(i:Nat) (f:av),F[i]?=some f→∃g o,q=some ⟨g,o,none⟩∧W.rangeAt g (o+i*3) [.string f.path,.bool f.dir,.slice f.p f.byt.length f.cap])∧∀f∈F,O7 K W f:=by
 obtain⟨cs,rfl,hsz⟩:=okWide_struct underlying26 hv;obtain⟨L⟩:=cs;have hL:L.length=6:=hsz.trans (by kernel_rfl)
 match L,hL with
 | [c0,c1,c2,c3,c4,c5],_=>
   obtain⟨xs,n,_,hx,_,hlen,hg⟩:=DataW.trod_struct underlying26 h;have g0:=hg 0 _ rfl;have g1:=hg 1 _ rfl
   match xs,hlen with
   | [z0,z1],_=>
     have g0':DataW.trod enc prog W 0 (λ_=>true) true n 23 [c0,c1,c2,c3,c4]=some z0:=g0;have g1':DataW.trod enc prog W 0 (λ_=>true) true n 24 [c5]=some z1:=g1;obtain⟨us,n',_,hux,_,hul,OM⟩:=DataW.trod_struct underlying23 g0';have hs:∀i,i<5→(us[i]?).isSome=true:=λi hi=>by
      have:us.length=5:=hul;rw[bP (by omega)];rfl
     obtain⟨a,rfl⟩:=yg underlying3 (show DataW.trod enc prog W 0 (λ_=>true) true n' 3 [c0]=us[0]? from OM 0 _ rfl) (hs 0 (by omega));obtain⟨b,rfl⟩:=yg underlying3 (show DataW.trod enc prog W 0 (λ_=>true) true n' 3 [c1]=us[1]? from OM 1 _ rfl) (hs 1 (by omega));obtain⟨c,rfl⟩:=yg underlying3 (show DataW.trod enc prog W 0 (λ_=>true) true n' 3 [c2]=us[2]? from OM 2 _ rfl) (hs 2 (by omega));obtain⟨d,rfl⟩:=yg underlying3 (show DataW.trod enc prog W 0 (λ_=>true) true n' 3 [c3]=us[3]? from OM 3 _ rfl) (hs 3 (by omega));obtain⟨e,rfl⟩:=yg underlying3 (show DataW.trod enc prog W 0 (λ_=>true) true n' 3 [c4]=us[4]? from OM 4 _ rfl) (hs 4 (by omega));obtain⟨q,F,cap,rfl,h1,h2,h3⟩:=DY (K:=K) g1' (by
      rw[hx]at hw;exact aV (Bk.oO (H:=H) (by simp)) hw)
     exact⟨⟨a,b,c,d,e⟩,q,F,cap,rfl,h1,h2,h3⟩
theorem O9{K fuel:Nat}{cs:List Value}{y:DataW H×List MemPlace}(hl:cs.length=10)(h:DataW.trod enc prog W 0 (λ_=>true) true fuel 79 cs=some y)(hw:Rows.uptoBulk y.1≤K)(hK:K≤1048576):∃o:rq,cs=o.cells∧sM W o:=by
 match cs,hl with
 | [c0,c1,c2,c3,c4,c5,c6,c7,c8,c9],_=>
   obtain⟨xs,n,_,hx,_,hlen,hg⟩:=DataW.trod_struct underlying79 h;have g0:=hg 0 _ rfl;have g1:=hg 1 _ rfl;have g2:=hg 2 _ rfl;have g3:=hg 3 _ rfl;have g4:=hg 4 _ rfl
   match xs,hlen with
   | [z0,z1,z2,z3,z4],_=>
     rw[hx]at hw;have g0':DataW.trod enc prog W 0 (λ_=>true) true n 3 [c0]=some z0:=g0;have g1':DataW.trod enc prog W 0 (λ_=>true) true n 3 [c1]=some z1:=g1;have g2':DataW.trod enc prog W 0 (λ_=>true) true n 3 [c2]=some z2:=g2;have g3':DataW.trod enc prog W 0 (λ_=>true) true n 68 [c3,c4,c5,c6,c7,c8]=some z3:=g3;have g4':DataW.trod enc prog W 0 (λ_=>true) true n 59 [c9]=some z4:=g4;obtain⟨kd,e0,_,_⟩:=DataW.trod_int underlying3 g0';obtain⟨oa,e1,_,w1⟩:=DataW.trod_int underlying3 g1';obtain⟨ob,e2,_,_⟩:=DataW.trod_int underlying3 g2';obtain rfl:=List.singleton_inj.1 e0;obtain rfl:=List.singleton_inj.1 e1;obtain rfl:=List.singleton_inj.1 e2;have hw4:Rows.uptoBulk z4.1≤K:=aV (Bk.oO (H:=H) (by simp)) hw;have hw3:Rows.uptoBulk z3.1≤K:=aV (Bk.oO (H:=H) (by simp)) hw;obtain⟨dp,dd,dc,rfl,d1,d2,d3,_⟩:=oP g4' hw4;obtain⟨us,n',_,hux,_,hul,OM⟩:=DataW.trod_struct underlying68 g3';have u0:=OM 0 _ rfl;have u1:=OM 1 _ rfl;have u2:=OM 2 _ rfl;have u3:=OM 3 _ rfl;have u4:=OM 4 _ rfl;have u5:=OM 5 _ rfl
     match us,hul with
     | [x0,x1,x2,x3,x4,x5],_=>
       rw[hux]at hw3;have u0':DataW.trod enc prog W 0 (λ_=>true) true n' 65 [c3]=some x0:=u0;have u1':DataW.trod enc prog W 0 (λ_=>true) true n' 3 [c4]=some x1:=u1;have u2':DataW.trod enc prog W 0 (λ_=>true) true n' 3 [c5]=some x2:=u2;have u3':DataW.trod enc prog W 0 (λ_=>true) true n' 9 [c6]=some x3:=u3;have u4':DataW.trod enc prog W 0 (λ_=>true) true n' 66 [c7]=some x4:=u4;have u5':DataW.trod enc prog W 0 (λ_=>true) true n' 59 [c8]=some x5:=u5;obtain⟨ck,f0,_,_⟩:=DataW.trod_int underlying65 u0';obtain⟨ca,f1,_,_⟩:=DataW.trod_int underlying3 u1';obtain⟨cb,f2,_,_⟩:=DataW.trod_int underlying3 u2';obtain⟨s,f3,sx,_⟩:=DataW.trod_string underlying9 u3';obtain rfl:=List.singleton_inj.1 f0;obtain rfl:=List.singleton_inj.1 f1;obtain rfl:=List.singleton_inj.1 f2;obtain rfl:=List.singleton_inj.1 f3;have hs:s.size≤K:=by
        have:=aV (Bk.oO (H:=H) (d:=x3.1) (by simp)) hw3;rw[sx,Bk.uP]at this;have e:s.data.toList.length=s.size:=by simp
        omega
       obtain⟨lp,ls,lc,rfl,l1,l2,l3,l4,l5⟩:=DX u4' (aV (Bk.oO (H:=H) (d:=x4.1) (by simp)) hw3);obtain⟨p,cd,cc,rfl,c1,c2,c3,_⟩:=oP u5' (aV (Bk.oO (H:=H) (d:=x5.1) (by simp)) hw3);exact⟨⟨kd,oa,ob,⟨ck,ca,cb,s,ls,lp,lc,cd,p,cc⟩,dd,dp,dc⟩,rfl,l1,c1,d1,aV hs hK,⟨aV l3 hK,l2⟩,λt ht=>aV (l4 t ht) hK,⟨aV c3 hK,c2⟩,⟨aV d3 hK,d2⟩,l5,Tw w1⟩
theorem BU{K fuel:Nat}{v:Value}{y:DataW H×List MemPlace}(h:DataW.trod enc prog W 0 (λ_=>true) true fuel 27 [v]=some y)(hw:Rows.uptoBulk y.1≤K)(hK:K≤1048576) :
 ∃(q:Option Addr) (ops:List rq) (cap:Nat),v=.slice q ops.length cap∧ops.length≤K∧BV W q ops:=by
 rcases open_slice underlying27 h with⟨hcs,hx⟩|⟨a,len,cap,m,n,D,Pl,hcs,hb,hl,hm,hmm,hx,hi⟩
 ·obtain rfl:=List.singleton_inj.1 hcs
  exact⟨none,[],0,rfl,Nat.zero_le _,λi f h=>(by cases h),λf h=>(by cases h)⟩
 ·obtain rfl:=List.singleton_inj.1 hcs
  simp only[if_true]at hmm
  subst hmm;rw[hx]at hw;have h1:=aV (Bk.sK (H:=H) _ _) hw;simp at h1
  have hC:prog.cellsOf 79=10:=by kernel_rfl
  have hex:∀i,∃o:rq,i<len→((∀j,j<10→W.cell? (a.add (i*10+j))=o.cells[j]?)∧sM W o):=λi=>by
   by_cases hil:i<len
   ·obtain⟨cs',hc,ht'⟩:=hi i (by omega)
    rw[hC]at hc;obtain⟨_,hcl,hat⟩:=World.cells?_some hc;have ZO:Rows.uptoBulk (D i)≤K:=aV (Bk.BP (H:=H) (List.mem_map.2 ⟨i,List.mem_range.2 hil,rfl⟩)) hw;obtain⟨o,ho,hok⟩:=O9 (by omega) ht' ZO hK;refine⟨o,λ_=>⟨λj hj=>?_,hok⟩⟩;rw[←ho,←Go.Deep.add_add,hat j hj]
   ·exact⟨⟨0,0,0,⟨0,0,0,⟨#[]⟩,[],none,0,[],none,0⟩,[],none,0⟩,λh=>absurd h hil⟩
  obtain⟨Of,jk⟩:=Classical.skolem.1 hex;have hget:∀(i:Nat) (o:rq),((List.range len).map Of)[i]?=some o→i<len∧o=Of i:=λi o ho=>by
   have hlt:=(bZ ho).1;simp at hlt
   rw[dA,List.getElem?_range hlt]at ho;cases ho
   exact⟨hlt,rfl⟩
  refine⟨some a,(List.range len).map Of,m,by simp,by simp;omega,λi o ho=>?_,λo ho=>?_⟩
  ·obtain⟨hil,rfl⟩:=hget i o ho
   obtain⟨h2,_⟩:=jk i hil;have h0:=(jk 0 (by omega)).1 0 (by omega);have h00:(Of 0).cells[0]?=some (.int .i64 (Of 0).kind):=rfl;rw[h00]at h0;obtain⟨ab,ao,spot⟩:=a;have hspot:spot=none:=by simpa [Addr.add]using World.cell?_spot h0
   subst hspot;refine⟨ab,ao,rfl,λj u hj=>?_⟩;have abX:j<10:=by have:=(bZ hj).1;simpa [rq.cells]using this
   have:=h2 j abX;rw[Addr.add_lit,hj]at this;rw[Nat.add_assoc];exact this
  ·obtain⟨i,hi2⟩:=List.mem_iff_getElem?.1 ho
   obtain⟨hil,rfl⟩:=hget i o hi2;exact(jk i hil).2
end
end Go.Proofs.YtcnjjchlebmfiaaGreatDoor
