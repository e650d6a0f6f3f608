/-.-/
import Derived.Test.YtcnjjchlebmfiaaGreatDoorP07
import Derived.Deep.RegionHeldLaw
set_option linter.unusedVariables false
set_option linter.unusedSimpArgs false
set_option maxRecDepth 100000
set_option maxHeartbeats 16000000
namespace Go.Proofs.YtcnjjchlebmfiaaGreatDoor
section
open Go.Proofs.Tryz Go.RowKit Go.MapKept Go.Maps
theorem PW(g o f r:Nat)(fds:List Int)(w:World)(hf:∀i x,fds[i]?=some x→w.cell? (g,o+23+i)=some (.int .i64 x))(hl:fds.length=8)(hfr:f≤r)(hr:r<8)(h1:∀i x,f≤i→i<r→fds[i]?=some x→x≠0)(h2:fds[r]?=some 0) :
 Calls prog 274 #[.pointer (g,o),.int .i64 f] w (Z.e (.int .i64 r) w):=by
 have HF:=xh hf;have H1:=xh h1;have HL:=xh hl;have H2:=xh h2;clear hf h1 hl h2;go_enter func274,ntmps274;go_upto_region 2 with fail
 go_loopw [5] (λi wr=>∃j:Nat,i=.int .i64 j∧f≤j∧j≤r∧wr=w) (λi _=>8-(intOf i).toNat)
 case atStart=>exact⟨f,rfl,bH _,hfr,by first|exact rfl|trivial⟩
 case round=>
  obtain⟨j,rfl,hj,hjr,rfl⟩:=hrel;have hlt:(j:Int)<8:=by omega
  have hj0:(0:Int)≤j:=by omega
  obtain⟨x,hx⟩:∃x,fds[j]?=some x:=⟨_,bP (by have:=HL.o;omega)⟩;have cx:=HF.o j x hx;by_cases e:j=r
  ·subst e
   have hx0:x=0:=by have:=H2.o;rw[hx]at this;exact Option.some.inj this
   subst hx0;clear hx;go_wp2_with fail
   go_ret
   exact⟨rfl,by first|exact rfl|trivial⟩
  ·have hb:(x==0)=false:=bK (H1.o j x hj (by omega) hx)
   clear hx;go_wp2_with fail
   go_roundw
   case rel=>exact⟨j+1,by go_num,by omega,by omega,by first|exact rfl|trivial⟩
   case measure=>simp[intOf]<;>omega
theorem Ig(g o f:Nat)(fds:List Int)(w:World)(hf:∀i x,fds[i]?=some x→w.cell? (g,o+23+i)=some (.int .i64 x))(hl:fds.length=8)(hfr:f≤8)(h1:∀i x,f≤i→fds[i]?=some x→x≠0) :
 Calls prog 274 #[.pointer (g,o),.int .i64 f] w (Z.e (.int .i64 (-1)) w):=by
 have HF:=xh hf;have H1:=xh h1;have HL:=xh hl;clear hf h1 hl;go_enter func274,ntmps274;go_upto_region 2 with fail
 go_loopw [5] (λi wr=>∃j:Nat,i=.int .i64 j∧f≤j∧j≤8∧wr=w) (λi _=>8-(intOf i).toNat)
 case atStart=>exact⟨f,rfl,bH _,hfr,by first|exact rfl|trivial⟩
 case round=>
  obtain⟨j,rfl,hj,hjr,rfl⟩:=hrel;by_cases hlt':j<8
  ·have hlt:(j:Int)<8:=by omega
   have hj0:(0:Int)≤j:=by omega
   obtain⟨x,hx⟩:∃x,fds[j]?=some x:=⟨_,bP (by have:=HL.o;omega)⟩;have cx:=HF.o j x hx;have hb:(x==0)=false:=bK (H1.o j x hj hx);clear hx;go_wp2_with fail
   go_roundw
   case rel=>exact⟨j+1,by go_num,by omega,by omega,by first|exact rfl|trivial⟩
   case measure=>simp[intOf]<;>omega
  ·obtain rfl:j=8:=by omega
   go_wp2_with fail
   go_ret
   exact⟨rfl,by first|exact rfl|trivial⟩
structure Oj where
 id:Int
 kind:Int
 of:Int
def Oj.cells(x:Oj):List Value:=[.int .i64 x.id,.int .i64 x.kind,.int .i64 x.of,.int .i64 0]
def xx(w:World)(base:Nat)(v:Value)(l:List Oj):Prop:=w.ownsRow base 357 4 v l.length (l.flatMap Oj.cells)
theorem Kr:∀(l:List Oj) (i j:Nat) (x:Oj),l[i]?=some x→j<4→(l.flatMap Oj.cells)[i*4+j]?=x.cells[j]?
 | [],i,j,x,h,_=>by simp at h
 | y::l,0,j,x,h,hj=>by
   simp at h
   subst h;rw[List.flatMap_cons,Nat.zero_mul,Nat.zero_add,List.getElem?_append_left (by simpa [Oj.cells]using hj)]
 | y::l,i+1,j,x,h,hj=>by
   rw[List.flatMap_cons,List.getElem?_append_right (by simp[Oj.cells];omega),show(i+1)*4+j-y.cells.length=i*4+j from by simp[Oj.cells];omega];exact Kr l i j x (by simpa using h) hj
theorem TT(l:List Oj):(l.flatMap Oj.cells).length=l.length*4:=by
 induction l with
 | nil=>rfl
 | cons x l ih=>rw[List.flatMap_cons,List.length_append,ih,List.length_cons];simp[Oj.cells];omega
theorem xx.cell{w:World}{base:Nat}{v:Value}{l:List Oj}(h:xx w base v l):∃p c,v=.slice p l.length c∧∀i x,l[i]?=some x→∃g,p=some ⟨g,0,none⟩∧∀j,j<4→w.cell? (g,i*4+j)=x.cells[j]?:=by
 obtain⟨p,c,e,_,_,hp⟩:=aD h;refine⟨p,c,e,λi x hx=>?_⟩;have hlt:=(bZ hx).1;obtain⟨g,hg,_,_,hc,_⟩:=hp.resolve_left (by omega);refine⟨g,hg,λj hj=>?_⟩;rw[hc _ (by rw[TT];omega),Kr l i j x hx hj]
theorem Ih(kb base r:Nat)(id:Int)(v:Value)(l:List Oj)(w:World)(hk:w.cell? (kb,6)=some v)(hO:xx w base v l)(hll:l.length≤1000000)(hr:∃x,l[r]?=some x∧x.id=id)(h1:∀i x,i<r→l[i]?=some x→x.id≠id) :
 Calls prog 273 #[kb,id] w (Z.e (.int .i64 r) w):=by
 obtain⟨x,hx,hid⟩:=hr;obtain⟨p,c,rfl,hcl⟩:=hO.cell;obtain⟨g,rfl,_⟩:=hcl r x hx;have hlt:=(bZ hx).1;have hcell:∀i y,l[i]?=some y→w.cell? (g,i*4)=some (.int .i64 y.id):=λi y hy=>by
  obtain⟨g2,e,h⟩:=hcl i y hy;cases e
  exact h 0 (by omega)
 have HC:=xh hcell;have H1:=xh h1;have HX:=xh (And.intro hx hid);clear hO hcl hcell h1 hx hid;go_enter func273,ntmps273;go_upto_region 2 with fail
 go_loopw [5] (λi wr=>∃j:Nat,i=.int .i64 j∧j≤r∧wr=w) (λi _=>l.length-(intOf i).toNat)
 case atStart=>exact⟨0,rfl,Nat.zero_le _,by first|exact rfl|trivial⟩
 case round=>
  obtain⟨j,rfl,hjr,rfl⟩:=hrel;have hjl:(j:Int)<l.length:=by omega
  have hj0:(0:Int)≤j:=by omega
  obtain⟨y,hy⟩:∃y,l[j]?=some y:=⟨_,bP (by omega)⟩;have cy:=HC.o j y hy;by_cases e:j=r
  ·subst e
   have hid:y.id=id:=by have:=HX.o.1;rw[hy]at this;cases this;exact HX.o.2
   rw[hid]at cy;clear hy hid;go_wp2_with fail
   go_ret
   exact⟨rfl,by first|exact rfl|trivial⟩
  ·have hb:(y.id==id)=false:=bK (H1.o j y (by omega) hy)
   clear hy;go_wp2_with fail
   go_roundw
   case rel=>exact⟨j+1,by go_num,by omega,by first|exact rfl|trivial⟩
   case measure=>simp[intOf]<;>omega
def aP(of kind:Int)(l:List Oj):Nat:=(l.filter λx=>x.of==of&&x.kind==kind).length
theorem Ii{of kind:Int}{l:List Oj}{j:Nat}{x:Oj}(h:l[j]?=some x):aP of kind (l.take (j+1))=aP of kind (l.take j)+if x.of==of&&x.kind==kind then 1 else 0:=by
 unfold aP;rw[List.take_add_one,h,Option.toList_some,List.filter_append,List.length_append];congr 1
 by_cases e:(x.of==of&&x.kind==kind)=true
 ·simp[e]
 ·have e':(x.of==of&&x.kind==kind)=false:=by simpa using e
  simp[e']
theorem yw(of kind:Int)(l:List Oj):aP of kind l≤l.length:=List.length_filter_le _ _
theorem Ij(kb base:Nat)(of kind:Int)(v:Value)(l:List Oj)(w:World)(hk:w.cell? (kb,6)=some v)(hO:xx w base v l)(hll:l.length≤1000000) :
 Calls prog 326 #[kb,of,kind] w (Z.e (.int .i64 (aP of kind l)) w):=by
 obtain⟨p,c,rfl,hcl⟩:=hO.cell;have HC:=xh hcl;clear hO hcl;go_enter func326,ntmps326;go_upto_region 3 with fail
 go_loopw [7,8] (λn i wr=>∃j:Nat,n=.int .i64 (aP of kind (l.take j))∧i=.int .i64 j∧j≤l.length∧wr=w) (λ_ i _=>l.length-(intOf i).toNat)
 case atStart=>exact⟨0,rfl,rfl,Nat.zero_le _,by first|exact rfl|trivial⟩
 case round=>
  obtain⟨j,rfl,rfl,hjr,rfl⟩:=hrel;by_cases hlt:j<l.length
  ·have hjl:(j:Int)<l.length:=by omega
   have hj0:(0:Int)≤j:=by omega
   obtain⟨y,hy⟩:∃y,l[j]?=some y:=⟨_,bP hlt⟩;obtain⟨g,rfl,hg⟩:=HC.o j y hy;have cy2:wr.cell? (g,j*4+2)=some (.int .i64 y.of):=hg 2 (by omega);have cy1:wr.cell? (g,j*4+1)=some (.int .i64 y.kind):=hg 1 (by omega);have hE:=Ii (of:=of) (kind:=kind) hy;have hEl:=yw of kind (l.take j);have ab9:(l.take j).length≤j:=by simp;omega
   have HE:=xh hE;obtain⟨en,hen⟩:=e_x (aP of kind (l.take j));rw[hen]at hEl HE⊢;have hw:IntKind.i64.wrap ((en:Int)+1)=(en:Int)+1:=by rw[IntKind.wrap_i64];omega
   clear hg hy hE;by_cases e1:y.of=of
   ·have VW:(y.of==of)=true:=by simpa using e1
    by_cases e2:y.kind=kind
    ·have eb2:(y.kind==kind)=true:=by simpa using e2
     clear e1 e2;go_wp2_with fail
     go_roundw
     case rel=>exact⟨j+1,by have:=HE.o;rw[VW,eb2]at this;simp at this;simp[this],by go_num,by omega,by first|exact rfl|trivial⟩
     case measure=>simp[intOf]<;>omega
    ·have eb2:(y.kind==kind)=false:=bK e2
     clear e1 e2;go_wp2_with fail
     go_roundw
     case rel=>exact⟨j+1,by have:=HE.o;rw[VW,eb2]at this;simp at this;simp[this],by go_num,by omega,by first|exact rfl|trivial⟩
     case measure=>simp[intOf]<;>omega
   ·have VW:(y.of==of)=false:=bK e1
    clear e1;go_wp2_with fail
    go_roundw
    case rel=>exact⟨j+1,by have:=HE.o;rw[VW]at this;simp at this;simp[this],by go_num,by omega,by first|exact rfl|trivial⟩
    case measure=>simp[intOf]<;>omega
  ·obtain rfl:j=l.length:=by omega
   rw[List.take_length]at *
   go_wp2_with fail
   go_ret
   exact⟨rfl,by first|exact rfl|trivial⟩
structure Pp where
 id:Int
 bv:Value
 byt:List Int
def Pp.cells(x:Pp):List Value:=[.int .i64 x.id,x.bv]
def xA(w:World)(base:Nat)(v:Value)(l:List Pp):Prop:=w.ownsRow base 421 2 v l.length (l.flatMap Pp.cells)
theorem Cm:∀(l:List Pp) (i j:Nat) (x:Pp),l[i]?=some x→j<2→(l.flatMap Pp.cells)[i*2+j]?=x.cells[j]?
 | [],i,j,x,h,_=>by simp at h
 | y::l,0,j,x,h,hj=>by
   simp at h
   subst h;rw[List.flatMap_cons,Nat.zero_mul,Nat.zero_add,List.getElem?_append_left (by simpa [Pp.cells]using hj)]
 | y::l,i+1,j,x,h,hj=>by
   rw[List.flatMap_cons,List.getElem?_append_right (by simp[Pp.cells];omega),show(i+1)*2+j-y.cells.length=i*2+j from by simp[Pp.cells];omega];exact Cm l i j x (by simpa using h) hj
theorem Kw(l:List Pp):(l.flatMap Pp.cells).length=l.length*2:=by
 induction l with
 | nil=>rfl
 | cons x l ih=>rw[List.flatMap_cons,List.length_append,ih,List.length_cons];simp[Pp.cells];omega
theorem xA.cell{w:World}{base:Nat}{v:Value}{l:List Pp}(h:xA w base v l):∃p c,v=.slice p l.length c∧∀i x,l[i]?=some x→∃g,p=some ⟨g,0,none⟩∧∀j,j<2→w.cell? (g,i*2+j)=x.cells[j]?:=by
 obtain⟨p,c,e,_,_,hp⟩:=aD h;refine⟨p,c,e,λi x hx=>?_⟩;have hlt:=(bZ hx).1;obtain⟨g,hg,_,_,hc,_⟩:=hp.resolve_left (by omega);refine⟨g,hg,λj hj=>?_⟩;rw[hc _ (by rw[Kw];omega),Cm l i j x hx hj]
theorem Mo(kb base r:Nat)(id:Int)(v:Value)(l:List Pp)(w:World)(hk:w.cell? (kb,8)=some v)(hO:xA w base v l)(hll:l.length≤1000000)(hr:∃x,l[r]?=some x∧x.id=id)(h1:∀i x,i<r→l[i]?=some x→x.id≠id) :
 Calls prog 324 #[.pointer (kb,0),.int .i64 id] w (Z.e (.int .i64 r) w):=by
 obtain⟨x,hx,hid⟩:=hr;obtain⟨p,c,rfl,hcl⟩:=hO.cell;obtain⟨g,rfl,_⟩:=hcl r x hx;have hlt:=(bZ hx).1;have hcell:∀i y,l[i]?=some y→w.cell? (g,i*2)=some (.int .i64 y.id):=λi y hy=>by
  obtain⟨g2,e,h⟩:=hcl i y hy;cases e
  exact h 0 (by omega)
 have HC:=xh hcell;have H1:=xh h1;have HX:=xh (And.intro hx hid);clear hO hcl hcell h1 hx hid;go_enter func324,ntmps324;go_upto_region 2 with fail
 go_loopw [5] (λi wr=>∃j:Nat,i=.int .i64 j∧j≤r∧wr=w) (λi _=>l.length-(intOf i).toNat)
 case atStart=>exact⟨0,rfl,Nat.zero_le _,by first|exact rfl|trivial⟩
 case round=>
  obtain⟨j,rfl,hjr,rfl⟩:=hrel;have hjl:(j:Int)<l.length:=by omega
  have hj0:(0:Int)≤j:=by omega
  obtain⟨y,hy⟩:∃y,l[j]?=some y:=⟨_,bP (by omega)⟩;have cy:=HC.o j y hy;by_cases e:j=r
  ·subst e
   have hid:y.id=id:=by have:=HX.o.1;rw[hy]at this;cases this;exact HX.o.2
   rw[hid]at cy;clear hy hid;go_wp2_with fail
   go_ret
   exact⟨rfl,by first|exact rfl|trivial⟩
  ·have hb:(y.id==id)=false:=bK (H1.o j y (by omega) hy)
   clear hy;go_wp2_with fail
   go_roundw
   case rel=>exact⟨j+1,by go_num,by omega,by first|exact rfl|trivial⟩
   case measure=>simp[intOf]<;>omega
theorem AA:prog.built 357 []=some #[.int .i64 0,.int .i64 0,.int .i64 0,.int .i64 0]:=by kernel_rfl
theorem Mq(k:Int):prog.built 357 [(1,.int .i64 k)]=some #[.int .i64 0,.int .i64 k,.int .i64 0,.int .i64 0]:=by kernel_rfl
theorem tF{fn:Func}{p u:Tmp}(h:fn.results = #[.cell p 357,.tmp u]){R:Ending→World→Prop}{a:Act}{w:World}{q:Nat}{c0 c1 c2 c3:Int}(hp:a.tmps.getD p undef=.pointer (q,0))
 (hb:Blk w q [.int .i64 c0,.int .i64 c1,.int .i64 c2,.int .i64 c3] 357)(hd:a.defers=[])(hR:R (.returned (.tuple #[.agg #[.int .i64 c0,.int .i64 c1,.int .i64 c2,.int .i64 c3],a.tmps.getD u undef])) w):bodyPost prog fn R .ret a w:=by
 refine bodyPost_ret (v:=.tuple #[.agg #[.int .i64 c0,.int .i64 c1,.int .i64 c2,.int .i64 c3],a.tmps.getD u undef]) ?_ hd hR;have e0:=hb.c 0 rfl;have e1:=hb.c 1 rfl;have e2:=hb.c 2 rfl;have e3:=hb.c 3 rfl;rw[results_cell_tmp h,hp];go_simp
theorem Xt(kb g o n:Nat)(w:World)(hn:n<8)(hc:w.cell? (g,o+23+n)=some (.int .i64 0)) :
 Calls prog 272 #[kb,.pointer (g,o),.int .i64 n] w (Z.b (.tuple #[.agg #[(0:Int),(0:Int),(0:Int),(0:Int)],false]) w):=by
 have b0:=AA;have h0:(0:Int)≤n:=by omega
 have h1:(n:Int)<8:=by omega
 have k1:Bel w (w.alloc (.cells #[(0:Int),(0:Int),(0:Int),(0:Int)] 357)):=Bel.start w _;have HK:=xh k1;have hc2:=aa k1 hc;clear k1 hc;go_enter func272,ntmps272;go_wp2_with fail
 (try simp only[Exit.inBlock,Exit.then])
 exact tF (q:=w.heap.size) rfl rfl (Blk.new w [(0:Int),(0:Int),(0:Int),(0:Int)] _) rfl ⟨rfl,HK.o⟩
theorem Ky(kb g o:Nat)(n:Int)(w:World)(hn:n<0∨8≤n) :
 Calls prog 272 #[kb,.pointer (g,o),n] w (Z.b (.tuple #[.agg #[(0:Int),(0:Int),(0:Int),(0:Int)],false]) w):=by
 have b0:=AA;have k1:Bel w (w.alloc (.cells #[(0:Int),(0:Int),(0:Int),(0:Int)] 357)):=Bel.start w _;have HK:=xh k1;clear k1;by_cases h0:n<0
 ·clear hn
  go_enter func272,ntmps272;go_wp2_with fail
  (try simp only[Exit.inBlock,Exit.then])
  exact tF (q:=w.heap.size) rfl rfl (Blk.new w [(0:Int),(0:Int),(0:Int),(0:Int)] _) rfl ⟨rfl,HK.o⟩
 ·have h1:8≤n:=hn.resolve_left h0
  clear hn;go_enter func272,ntmps272;go_wp2_with fail
  (try simp only[Exit.inBlock,Exit.then])
  exact tF (q:=w.heap.size) rfl rfl (Blk.new w [(0:Int),(0:Int),(0:Int),(0:Int)] _) rfl ⟨rfl,HK.o⟩
theorem Ue(kb g o n:Nat)(w:World)(hn:n<8)(hc:w.cell? (g,o+23+n)=some (.int .i64 (-1))) :
 Calls prog 272 #[kb,.pointer (g,o),.int .i64 n] w (Z.b (.tuple #[.agg #[(0:Int),(4:Int),(0:Int),(0:Int)],true]) w):=by
 have b4:=Mq 4;have h0:(0:Int)≤n:=by omega
 have h1:(n:Int)<8:=by omega
 have k1:Bel w (w.alloc (.cells #[(0:Int),(0:Int),(0:Int),(0:Int)] 357)):=Bel.start w _;have HB:Hid (Blk (w.alloc (.cells #[(0:Int),(0:Int),(0:Int),(0:Int)] 357)) w.heap.size [(0:Int),(0:Int),(0:Int),(0:Int)] 357):=xh (Blk.new w _ _);have HK:=xh k1;have hc2:=aa k1 hc;clear k1 hc;go_enter func272,ntmps272;go_wp2_with fail
 (try simp only[Exit.inBlock,Exit.then])
 refine tF (q:=w.heap.size) (c0:=0) (c1:=4) (c2:=0) (c3:=0) rfl rfl ?_ rfl ⟨rfl,?_⟩
 ·first
   | exact Blk.new w [(0:Int),(4:Int),(0:Int),(0:Int)] _
   | exact(((HB.o.setCell (o:=0) _).setCell (o:=1) _).setCell (o:=2) _).setCell (o:=3) _
 ·first
   | exact Bel.start w _
   | exact dP (dP (dP (dP HK.o (bH _)) (bH _)) (bH _)) (bH _)
theorem Uf(kb g o n base r:Nat)(v:Value)(l:List Oj)(x:Oj)(w:World)(hn:n<8)(hc:w.cell? (g,o+23+n)=some (.int .i64 x.id))(hx0:x.id≠0)(hx1:x.id≠ -1)(hk:w.cell? (kb,6)=some v)(hO:xx w base v l)(hll:l.length≤1000000)(hr:l[r]?=some x)(h1:∀i y,i<r→l[i]?=some y→y.id≠x.id)(hO2:∀W,Bel w W→xx W base v l) :
 Calls prog 272 #[kb,.pointer (g,o),.int .i64 n] w (Z.b (.tuple #[.agg #[.int .i64 x.id,.int .i64 x.kind,.int .i64 x.of,(0:Int)],true]) w):=by
 have h0:(0:Int)≤n:=by omega
 have V6:(n:Int)<8:=by omega
 have hb0:(x.id==0)=false:=bK hx0;have hb1:(x.id== -1)=false:=bK hx1;have k1:Bel w (w.alloc (.cells #[(0:Int),(0:Int),(0:Int),(0:Int)] 357)):=Bel.start w _;have HB:Hid (Blk (w.alloc (.cells #[(0:Int),(0:Int),(0:Int),(0:Int)] 357)) w.heap.size [(0:Int),(0:Int),(0:Int),(0:Int)] 357):=xh (Blk.new w _ _);have HOB:=xh (Ih kb base r x.id v l _ (aa k1 hk) (hO2 _ k1) hll ⟨x,hr,rfl⟩ h1);have HK:=xh k1;have hc2:=aa k1 hc;have hk2:=aa k1 hk;obtain⟨p,c,rfl,hcl⟩:=hO.cell;obtain⟨q,rfl,hq⟩:=hcl r x hr;have r0:=aa k1 (hq 0 (by omega):w.cell? (q,r*4+0)=some (.int .i64 x.id));have r1:=aa k1 (hq 1 (by omega):w.cell? (q,r*4+1)=some (.int .i64 x.kind));have r2:=aa k1 (hq 2 (by omega):w.cell? (q,r*4+2)=some (.int .i64 x.of));have r3:=aa k1 (hq 3 (by omega):w.cell? (q,r*4+3)=some (.int .i64 0));rw[Nat.add_zero]at r0;have hrl:(r:Int)<l.length:=by have:=(bZ hr).1;omega
 have hr0:(0:Int)≤r:=by omega
 clear k1 hc hk hO hO2 hcl hq hr h1 hx0 hx1;go_enter func272,ntmps272;go_wp2_with (go_at_call 273;((with_reducible refine au HOB.o ?_);rintro e w2 ⟨rfl,rfl⟩))
 (try simp only[Exit.inBlock,Exit.then])
 refine tF (q:=w.heap.size) (c0:=x.id) (c1:=x.kind) (c2:=x.of) (c3:=0) rfl rfl ?_ rfl ⟨rfl,?_⟩
 ·first
   | exact Blk.new w [.int .i64 x.id,.int .i64 x.kind,.int .i64 x.of,(0:Int)] _
   | exact(((HB.o.setCell (o:=0) _).setCell (o:=1) _).setCell (o:=2) _).setCell (o:=3) _
 ·first
   | exact Bel.start w _
   | exact dP (dP (dP (dP HK.o (bH _)) (bH _)) (bH _)) (bH _)
def gT(ids:List Int)(id:Int):Nat:=(ids.filter λx=>x==id).length
theorem Im{ids:List Int}{id:Int}{j:Nat}{x:Int}(h:ids[j]?=some x):gT (ids.take (j+1)) id=gT (ids.take j) id+if x==id then 1 else 0:=by
 unfold gT;rw[List.take_add_one,h,Option.toList_some,List.filter_append,List.length_append];congr 1
 by_cases e:(x==id)=true
 ·simp[e]
 ·have e':(x==id)=false:=by simpa using e
  simp[e']
theorem P9(ids:List Int)(id:Int):gT ids id≤ids.length:=List.length_filter_le _ _
theorem Xu(kb g cap:Nat)(ids:List Int)(id:Int)(w:World)(hk:w.cell? (kb,5)=some (.slice (g,0) 1 cap))(hf:∀i x,ids[i]?=some x→w.cell? (g,23+i)=some (.int .i64 x))(hl:ids.length=8) :
 Calls prog 325 #[kb,id] w (Z.e (.int .i64 (gT ids id)) w):=by
 have HF:=xh hf;have HL:=xh hl;clear hf hl;go_enter func325,ntmps325;go_upto_region 3 with fail
 go_loopw [5,6] (λn i wr=>(n=.int .i64 0∧i=.int .i64 0∨n=.int .i64 (gT ids id)∧i=.int .i64 1)∧wr=w) (λ_ i _=>1-(intOf i).toNat)
 case atStart=>exact⟨.inl ⟨rfl,rfl⟩,by first|exact rfl|trivial⟩
 case round=>
  obtain⟨⟨rfl,rfl⟩|⟨rfl,rfl⟩,hw⟩:=hrel
  ·rw[hw]
   clear hw;go_upto_region 6 with fail
   go_loopw [5,7] (λn i W=>∃j:Nat,j≤8∧n=.int .i64 (gT (ids.take j) id)∧i=.int .i64 j∧W=w) (λ_ i _=>8-(intOf i).toNat)
   case atStart=>exact⟨0,Nat.zero_le _,rfl,rfl,by first|exact rfl|trivial⟩
   case round=>
    obtain⟨j,hj,rfl,rfl,hw⟩:=hrel;rw[hw];clear hw;by_cases hlt:j<8
    ·have hjl:(j:Int)<8:=by omega
     have hj0:(0:Int)≤j:=by omega
     obtain⟨x,hx⟩:∃x,ids[j]?=some x:=⟨_,bP (by have:=HL.o;omega)⟩;have cx:=HF.o j x hx;have hE:=Im (id:=id) hx;have hEl:=P9 (ids.take j) id;have ab9:(ids.take j).length≤j:=by simp;omega
     have HE:=xh hE;obtain⟨en,hen⟩:=e_x (gT (ids.take j) id);rw[hen]at hEl HE⊢;have hw:IntKind.i64.wrap ((en:Int)+1)=(en:Int)+1:=by rw[IntKind.wrap_i64];omega
     clear hx hE hen;by_cases e1:x=id
     ·have VW:(x==id)=true:=by simpa using e1
      clear e1;go_wp2_with fail
      go_roundw
      case rel=>exact⟨j+1,by omega,by have:=HE.o;rw[VW]at this;simp at this;simp[this],by go_num,by first|exact rfl|trivial⟩
      case measure=>simp[intOf]<;>omega
     ·have VW:(x==id)=false:=bK e1
      clear e1;go_wp2_with fail
      go_roundw
      case rel=>exact⟨j+1,by omega,by have:=HE.o;rw[VW]at this;simp at this;simp[this],by go_num,by first|exact rfl|trivial⟩
      case measure=>simp[intOf]<;>omega
    ·obtain rfl:j=8:=by omega
     have ht:ids.take 8=ids:=List.take_of_length_le (by rw[HL.o];exact bH _);rw[ht];clear ht;go_wp2_with fail
     go_roundw
     case rel=>exact⟨.inr ⟨rfl,by go_num⟩,by first|exact rfl|trivial⟩
     case measure=>simp[intOf]<;>omega
  ·rw[hw]
   clear hw;go_wp2_with fail
   go_ret
   exact⟨rfl,by first|exact rfl|trivial⟩
structure DQ(w:World)(kb:Nat)(s:KV)(iv:Value)(n:Nat)(L:List Nd):Prop where
 blk:Blk w kb (s.cells iv n) 174
 row:w.ownsRow (kb+1) 252 5 iv L.length (bE 0 L)
 aN:∀n∈L,Rw w n.bv n.byt∧∀g,n.bv.ownBlock=some g→kb≤g
 few:L.length≤100000
 one:1≤L.length
theorem DQ.bel{w w':World}{kb n:Nat}{s:KV}{iv:Value}{L:List Nd}(h:DQ w kb s iv n L)(k:Bel w w'):DQ w' kb s iv n L:=
 ⟨h.blk.bel k,aB h.row k,λm hm=>⟨(h.aN m hm).1.keep (Keep.of_bel (λ_=>False) k) λ_ _ h=>h,(h.aN m hm).2⟩,h.few,h.one⟩
theorem DQ.tree{w:World}{kb:Nat}{s:KV}{iv:Value}{m:Nat}{L:List Nd}(h:DQ w kb s iv m L):∃g cap,iv=.slice (g,0) L.length cap∧lu w kb g cap L∧kb+1≤g:=by
 obtain⟨p,cap,hv,hn,_,hp⟩:=aD h.row;have h1:=h.one;obtain⟨g,rfl,hg,hgl,hc,_⟩:=hp.resolve_left (by omega);refine⟨g,cap,hv,⟨?_,hn,λi n hi j v hj=>?_⟩,hg⟩
 ·rw[←hv];exact h.blk.cell 7
 ·have hj5:j<5:=by have:=(bZ hj).1;simpa [Nd.cells]using this
  have hil:=(bZ hi).1;rw[hc _ (by rw[pK];omega),pM 0 i j L n hi hj5,Nat.zero_add,hj]
theorem Cn:(prog.info? 357).map (λi=>(i.size,i.bytes,(i.zero.map (·.cells.size))))=some (4,32,some 4):=by kernel_rfl
theorem xM:(prog.info? 421).map (λi=>(i.size,i.bytes,(i.zero.map (·.cells.size))))=some (2,32,some 2):=by kernel_rfl
theorem fH{S:Nat→Prop}{w w':World}{base:Nat}{e:TypeId}{size:Nat}{v:Value}{n:Nat}{xs:List Value}(h:w.ownsRow base e size v n xs)(k:Keep S w w')(hs:∀q cs,Blk w q cs e→¬S q):w'.ownsRow base e size v n xs:=by
 refine⟨h.1,?_⟩;rcases h.2 with h2|⟨g,cap,cur,rfl,h3,h4,h5⟩
 ·exact .inl h2
 ·exact .inr ⟨g,cap,cur,rfl,h3,(k.block g (Array.getElem?_eq_some_iff.1 h4).1 (hs g _ h4)).trans h4,h5⟩
def tH(ids:List Int)(l:List Oj):List Oj:=l.filter λx=>decide (0<gT ids x.id)
def Kz(O:List Oj)(l:List Pp):List Pp:=l.filter λx=>decide (0<aP x.id 2 O+aP x.id 3 O)
theorem wD{α:Type}(p:α→Bool){l:List α}{j:Nat}{x:α}(h:l[j]?=some x):(l.take (j+1)).filter p=(l.take j).filter p++if p x then[x]else[]:=by
 rw[List.take_add_one,h,Option.toList_some,List.filter_append];congr 1
 by_cases e:p x=true
 ·simp[e]
 ·simp[e]
theorem xx.bel{w w':World}{base:Nat}{v:Value}{l:List Oj}(h:xx w base v l)(k:Bel w w'):xx w' base v l:=aB h k
theorem xA.bel{w w':World}{base:Nat}{v:Value}{l:List Pp}(h:xA w base v l)(k:Bel w w'):xA w' base v l:=aB h k
theorem Io(kb g cap aap AB n:Nat)(s:KV)(iv:Value)(L:List Nd)(O:List Oj)(P:List Pp)(ids:List Int)(w:World)(h:DQ w kb s iv n L)(hp:s.pv=.slice (g,0) 1 cap)(hf:∀i x,ids[i]?=some x→w.cell? (g,23+i)=some (.int .i64 x))(hl:ids.length=8)(hg:g≠kb)
 (hO:xx w aap s.ov O)(hP:xA w AB s.xv P)(hol:O.length≤1000)(hpl:P.length≤1000)(hk1:∀x∈O,x.kind≠1)(hpv:∀x∈P,∃p m c,x.bv=.slice p m c)(hpar:∀i m,L[i]?=some m→1≤i→0<m.par)(hb:∀m∈L,∃p k c,m.bv=.slice p k c) :
 Calls prog 267 #[kb] w λe w'=>e=.returned (.tuple #[])∧∃ov xv zU,DQ w' kb {s with ov:=ov,xv:=xv} zU n L∧xx w' w.heap.size ov (tH ids O)∧xA w' w.heap.size xv (Kz (tH ids O) P)∧Keep (λq=>q=kb) w w':=by
 have hkl:=h.blk.lt;have hL:=h.few;have c6:w.cell? (kb,6)=some s.ov:=h.blk.cell 6;have f6:=h.blk.frozen 6;have hHE:=λ(id:Int) (W:World) (hW:Bel w W)=>Xu kb g cap ids id W (aa hW (by have:=h.blk.cell 5;rw[this];show some s.pv=_;rw[hp])) (λi x hx=>aa hW (hf i x hx)) hl;obtain⟨po,co,hov,hoc⟩:=hO.cell;have HD:=xh h;have TA:=xh hp;have HHE:=xh hHE;have HO:=xh (And.intro hO (And.intro hov hoc));have HP:=xh hP;have bG:=xh hk1;have HPB:=xh hpv;have acw:=xh hpar;have jE:=xh hb;rw[hov]at c6;clear h hHE hO hP hk1 hpv hpar hb hp hf hl hov hoc;go_enter func267,ntmps267;go_upto_region 2 with fail
 go_loopw [2,3,4] (λv i _u wr=>∃k:Nat,k≤O.length∧i=.int .i64 k∧Hid (xx wr w.heap.size v ((O.take k).filter λx=>decide (0<gT ids x.id))∧Bel w wr)) (λ_ i _ _=>O.length-(intOf i).toNat)
 case atStart=>exact⟨0,Nat.zero_le _,rfl,xh ⟨World.ownsRow_nil _ _ _ _,Bel.refl _⟩⟩
 case round=>
  obtain⟨k,hk,rfl,HI⟩:=hrel;have c6:=aa HI.out.2 c6;by_cases hlt:k<O.length
  ·obtain⟨x,hx⟩:∃x,O[k]?=some x:=⟨_,bP hlt⟩
   obtain⟨go,rfl,hr⟩:=HO.o.2.2 k x hx;have n0:wr.cell? (go,k*4)=some (.int .i64 x.id):=aa HI.out.2 (hr 0 (by omega));have n1:wr.cell? (go,k*4+1)=some (.int .i64 x.kind):=aa HI.out.2 (hr 1 (by omega));have n2:wr.cell? (go,k*4+2)=some (.int .i64 x.of):=aa HI.out.2 (hr 2 (by omega));have n3:wr.cell? (go,k*4+3)=some (.int .i64 0):=aa HI.out.2 (hr 3 (by omega));have HX:=xh (wD (λx=>decide (0<gT ids x.id)) hx);have Qa:Hid (((O.take k).filter λx=>decide (0<gT ids x.id)).length≤1000):=xh (aV (List.length_filter_le _ _) (by simp;omega));have iV:Hid (∀l:List Oj,(l++[x]).flatMap Oj.cells=l.flatMap Oj.cells++[.int .i64 x.id,.int .i64 x.kind,.int .i64 x.of,.int .i64 0]):=xh λl=>by rw[List.flatMap_append];rfl
   obtain⟨fl,hfl⟩:∃fl,(O.take k).filter (λx=>decide (0<gT ids x.id))=fl:=⟨_,rfl⟩;rw[hfl]at HI HX Qa;have yB:=xh (HHE.o x.id wr HI.out.2);have hk0:(0:Int)≤k:=by omega
   have Ug:(k:Int)<O.length:=by omega
   by_cases hn:0<gT ids x.id
   ·have hd:decide (0<gT ids x.id)=true:=by simpa using hn
    have hn2:(0:Int)<gT ids x.id:=by omega
    rw[hd]at HX;clear hr hx hfl
    go_wp2_with (first
     | (go_at_call 325;((with_reducible refine au yB.o ?_);rintro e w2 ⟨rfl,rfl⟩))
     | (refine af rfl 169 357 (.tmp 39) rfl [.int .i64 x.id,.int .i64 x.kind,.int .i64 x.of,(0:Int)] rfl underlying169 Cn (by show 0<4;omega) (by show 4≤2^24;omega) ?_;intro w5 B5 K5)
     | (refine aI rfl (.tmp 32) (.tmp 40) 169 rfl underlying169 Cn (by omega) rfl (aB HI.out.1 K5) _ 1 1 [.int .i64 x.id,.int .i64 x.kind,.int .i64 x.of,(0:Int)] 357 rfl B5.out rfl (by intro v hv;simp at hv;rcases hv with rfl|rfl|rfl|rfl<;>rfl) (by have:=Qa.o;unfold maxLen;omega) (by have:=Qa.o;omega) (by have:=K5.size;have:=HI.out.2.size;omega) ?_;intro p9 c9 w9 R9 K9;have KD:=xh (And.intro R9 (((Keep.of_bel _ (HI.out.2.tr K5)).tr (K9.mono λq hq=>hq)).below _ (bH _) λq hq=>fQ HI.out.1 q hq));clear R9 K9))
    go_roundw
    case rel=>exact⟨k+1,by omega,by go_num,xh ⟨by rw[HX.o];unfold xx;simp only[if_true,iV.o,List.length_append,List.length_cons,List.length_nil];exact KD.o.1,KD.o.2⟩⟩
    case measure=>simp[intOf]<;>omega
   ·have hd:decide (0<gT ids x.id)=false:=by simpa using hn
    have hn2:gT ids x.id=0:=by omega
    rw[hn2]at yB;rw[hd]at HX;clear hr hx hfl
    go_wp2_with (first
     | (go_at_call 325;((with_reducible refine au yB.o ?_);rintro e w2 ⟨rfl,rfl⟩)))
    go_roundw
    case rel=>exact⟨k+1,by omega,by go_num,xh ⟨by rw[HX.o];simpa using HI.out.1,HI.out.2⟩⟩
    case measure=>simp[intOf]<;>omega
  ·obtain rfl:k=O.length:=by omega
   rw[List.take_length]at HI;have Ug:kb<wr.heap.size:=by have:=HI.out.2.size;omega
   have f6:=(HD.o.blk.bel HI.out.2).frozen 6;obtain⟨Uh,Ui,rfl,_⟩:=aD HI.out.1;obtain⟨K,hK⟩:∃K,O.filter (λx=>decide (0<gT ids x.id))=K:=⟨_,rfl⟩;have Zl:Hid (tH ids O=K):=xh hK;rw[hK]at HI⊢;have Zm:Hid (K.length≤1000):=xh (by rw[←hK];exact aV (List.length_filter_le _ _) hol);have acy:Hid (∀x∈K,x.kind≠1):=xh λx hx=>bG.o x (by rw[←hK]at hx;exact(List.mem_filter.1 hx).1);clear hK;go_upto_region 10 with fail
   have B1:Blk (wr.setCell (kb,6) (.slice Uh K.length Ui)) kb ({s with ov:=.slice Uh K.length Ui}.cells iv n) 174:=(HD.o.blk.bel HI.out.2).setCell (o:=6) _;have K1:Keep (λq=>q=kb) w (wr.setCell (kb,6) (.slice Uh K.length Ui)):=(Keep.of_bel _ HI.out.2).tr (Keep.setCell wr kb 6 _);have R1:xx (wr.setCell (kb,6) (.slice Uh K.length Ui)) w.heap.size (.slice Uh K.length Ui) K:=aZ HI.out.1 (Keep.setCell wr kb 6 _) (λg hg e=>by have e:g=kb:=e;omega);generalize wr.setCell (kb,6) (.slice Uh K.length Ui)=w1 at *
   have HB1:=xh B1;have HW1:=xh K1;have HR1:=xh R1;have hP1:xA w1 AB s.xv P:=fH HP.o K1 λq cs hq e=>by
    have e:q=kb:=e;subst e;exact HD.o.blk.ne hq (by decide) rfl
   obtain⟨pp,cp,hxv,hpc⟩:=hP1.cell;have c8:w1.cell? (kb,8)=some (.slice pp P.length cp):=by rw[B1.cell];show some s.xv=_;rw[hxv]
   have yB:=xh λ(of kind:Int) (W:World) (hW:Bel w1 W)=>Ij kb w.heap.size of kind _ K W (aa hW (by rw[HB1.o.cell];rfl)) (HR1.o.bel hW) (by have:=Zm.o;omega);have uG:=xh (And.intro hP1 hpc);have aeG:kb<w1.heap.size:=B1.lt;clear B1 K1 R1 hP1 hpc c6 f6
   go_loopw [5,6,7] (λv i _u wr=>∃k:Nat,k≤P.length∧i=.int .i64 k∧Hid (xA wr w1.heap.size v ((P.take k).filter λx=>decide (0<aP x.id 2 K+aP x.id 3 K))∧Bel w1 wr)) (λ_ i _ _=>P.length-(intOf i).toNat)
   case atStart=>exact⟨0,Nat.zero_le _,rfl,xh ⟨World.ownsRow_nil _ _ _ _,Bel.refl _⟩⟩
   case round=>
    obtain⟨k,hk,rfl,HI⟩:=hrel;have c8:=aa HI.out.2 c8;by_cases hlt:k<P.length
    ·obtain⟨x,hx⟩:∃x,P[k]?=some x:=⟨_,bP hlt⟩
     obtain⟨go,rfl,hr⟩:=uG.o.2 k x hx;obtain⟨p5,m5,q5,e5⟩:=HPB.o x (List.mem_of_getElem? hx);have n0:wr.cell? (go,k*2)=some (.int .i64 x.id):=aa HI.out.2 (hr 0 (by omega));have n1:wr.cell? (go,k*2+1)=some x.bv:=aa HI.out.2 (hr 1 (by omega));rw[e5]at n1;have HX:=xh (wD (λx=>decide (0<aP x.id 2 K+aP x.id 3 K)) hx);have Qa:Hid (((P.take k).filter λx=>decide (0<aP x.id 2 K+aP x.id 3 K)).length≤1000):=xh (aV (List.length_filter_le _ _) (by simp;omega));have iV:Hid (∀l:List Pp,(l++[x]).flatMap Pp.cells=l.flatMap Pp.cells++[.int .i64 x.id,.slice p5 m5 q5]):=xh λl=>by rw[List.flatMap_append,←e5];rfl
     have hb1:aP x.id 2 K≤1000:=aV (yw _ _ _) Zm.o;have hb2:aP x.id 3 K≤1000:=aV (yw _ _ _) Zm.o;obtain⟨fl,hfl⟩:∃fl,(P.take k).filter (λx=>decide (0<aP x.id 2 K+aP x.id 3 K))=fl:=⟨_,rfl⟩;rw[hfl]at HI HX Qa;have hq1:Hid (∀(kind:Int) q,Calls prog 326 #[kb,.int .i64 x.id,.int .i64 kind] (wr.drewN q) λe w'=>e=.returned (.int .i64 (aP x.id kind K))∧w'=wr.drewN q):=xh λkind q=>(yB.o x.id kind _ (ah HI.out.2 q)).mono λe w' k=>⟨k.1,k.2.symm⟩;have hwr:IntKind.i64.wrap ((aP x.id 2 K:Int)+aP x.id 3 K)=((aP x.id 2 K+aP x.id 3 K:Nat):Int):=by rw[IntKind.wrap_i64];omega
     have hk0:(0:Int)≤k:=by omega
     have Ug:(k:Int)<P.length:=by omega
     have HPX:=xh (And.intro hx e5);clear hr hx hfl e5 hb1 hb2;go_upto_region 12 with fail
     go_quiet ((go_at_call 326;exact Calls.quiet_of_same (hq1.out _ _)))
     have yz:Hid (Bel wr (wr.drewN nq)):=xh (ah (Bel.refl _) nq);by_cases hn:0<aP x.id 2 K+aP x.id 3 K
     ·have hd:decide (0<aP x.id 2 K+aP x.id 3 K)=true:=by simpa using hn
      have hn2:(0:Int)<(aP x.id 2 K+aP x.id 3 K:Nat):=by omega
      have hn3:(0:Int)<(aP x.id 2 K:Int)+aP x.id 3 K:=by omega
      rw[hd]at HX;clear hd hn;have n0:=aa yz.o n0;have n1:=aa yz.o n1;have c8:=aa yz.o c8;generalize wr.drewN nq=wq at *
      clear hwr
      go_wp2_with (first
       | (refine af rfl 171 421 (.tmp 85) rfl [.int .i64 x.id,.slice p5 m5 q5] rfl underlying171 xM (by show 0<2;omega) (by show 2≤2^24;omega) ?_;intro w5 B5 K5)
       | (refine aI rfl (.tmp 78) (.tmp 86) 171 rfl underlying171 xM (by omega) rfl (aB (aB HI.out.1 yz.o) K5) _ 1 1 [.int .i64 x.id,.slice p5 m5 q5] 421 rfl B5.out rfl (by intro v hv;simp at hv;rcases hv with rfl|rfl<;>rfl) (by have:=Qa.o;unfold maxLen;omega) (by have:=Qa.o;omega) (by have:=K5.size;have:=yz.o.size;have:=HI.out.2.size;omega) ?_;intro p9 c9 w9 R9 K9;have KD:=xh (And.intro R9 (((Keep.of_bel _ (HI.out.2.tr (yz.o.tr K5))).tr (K9.mono λq hq=>hq)).below _ (bH _) λq hq=>fQ HI.out.1 q hq));clear R9 K9))
      go_roundw
      case rel=>exact⟨k+1,by omega,by go_num,xh ⟨by rw[HX.o];unfold xA;simp only[if_true,iV.o,List.length_append,List.length_cons,List.length_nil];exact KD.o.1,KD.o.2⟩⟩
      case measure=>simp[intOf]<;>omega
     ·have hd:decide (0<aP x.id 2 K+aP x.id 3 K)=false:=by simpa using hn
      have hn2:¬(0:Int)<(aP x.id 2 K+aP x.id 3 K:Nat):=by omega
      have hn3:¬(0:Int)<(aP x.id 2 K:Int)+aP x.id 3 K:=by omega
      rw[hd]at HX;clear hd hn;generalize wr.drewN nq=wq at *
      clear hwr;go_wp2_with fail
      go_roundw
      case rel=>exact⟨k+1,by omega,by go_num,xh ⟨by rw[HX.o];simp only[Bool.false_eq_true,if_false,List.append_nil];exact aB HI.out.1 yz.o,HI.out.2.tr yz.o⟩⟩
      case measure=>simp[intOf]<;>omega
    ·obtain rfl:k=P.length:=by omega
     rw[List.take_length]at HI;have Mr:kb<wr.heap.size:=by have:=HI.out.2.size;omega
     obtain⟨V7,V8,rfl,_⟩:=aD HI.out.1;obtain⟨V,hV⟩:∃V,P.filter (λx=>decide (0<aP x.id 2 K+aP x.id 3 K))=V:=⟨_,rfl⟩;have Ta:Hid (Kz (tH ids O) P=V):=xh (by rw[Zl.o];exact hV);rw[hV]at HI⊢;have B2:Blk (wr.setCell (kb,8) (.slice V7 V.length V8)) kb ({s with ov:=.slice Uh K.length Ui,xv:=.slice V7 V.length V8}.cells iv n) 174:=(HB1.o.bel HI.out.2).setCell (o:=8) _;have f8:=(HB1.o.bel HI.out.2).frozen 8;have K2:Keep (λq=>q=kb) w (wr.setCell (kb,8) (.slice V7 V.length V8)):=(HW1.o.tr (Keep.of_bel _ HI.out.2)).tr (Keep.setCell wr kb 8 _);have acz:w.heap.size≤w1.heap.size:=HW1.o.size;have R2:xx (wr.setCell (kb,8) (.slice V7 V.length V8)) w.heap.size (.slice Uh K.length Ui) K:=aZ (aB HR1.o HI.out.2) (Keep.setCell wr kb 8 _) (λg hg e=>by have e:g=kb:=e;omega);have V2:xA (wr.setCell (kb,8) (.slice V7 V.length V8)) w.heap.size (.slice V7 V.length V8) V:=(aZ HI.out.1 (Keep.setCell wr kb 8 _) (λg hg e=>by have e:g=kb:=e;omega)).mono acz;clear hV;go_upto_region 18 with fail
     generalize wr.setCell (kb,8) (.slice V7 V.length V8)=w3 at *
     have D3:DQ w3 kb {s with ov:=.slice Uh K.length Ui,xv:=.slice V7 V.length V8} iv n L:=by
      refine⟨B2,aZ HD.o.row K2 (λg hg e=>by have e:g=kb:=e;omega),λm hm=>⟨(HD.o.aN m hm).1.keep K2 λg hg e=>?_,(HD.o.aN m hm).2⟩,HD.o.few,HD.o.one⟩;obtain⟨_,cur,hb⟩:=(HD.o.aN m hm).1.lt hg;have e:g=kb:=e;subst e;exact HD.o.blk.ne hb (by decide) rfl
     obtain⟨gi,acA,hiv,Ep,_⟩:=D3.tree;have hB7:w3.cell? (kb,7)=some (.slice (gi,0) L.length acA):=by have:=B2.cell 7;rw[this];show some iv=_;rw[hiv]
     have HD3:=xh D3;have SY:=xh Ep;have aeH:kb<w3.heap.size:=B2.lt;have HR3:=xh (And.intro R2 (And.intro V2 (And.intro K2 hiv)));have HB3:=xh B2;have Xv:=xh λ(of:Int) (W:World) (hW:Bel w3 W)=>(Ij kb w.heap.size of 1 _ K W (aa hW (by rw[HB3.o.cell];rfl)) (xx.bel HR3.o.1 hW) (by have:=Zm.o;omega)).mono λe w' k=>And.intro (k.1.trans (by rw[show aP of 1 K=0 from by unfold aP;rw[List.length_eq_zero_iff,List.filter_eq_nil_iff];intro x hx;have:=acy.o x hx;simp[this]])) k.2;clear Ep D3 c6 c8 f8 R2 V2 K2 B2
     go_loopw [8,9] (λv i wr=>∃k:Nat,k≤L.length∧i=.int .i64 k∧Hid (wr.ownsRow w3.heap.size 252 5 v k (bE 0 (L.take k))∧Bel w3 wr)) (λ_ i _=>L.length-(intOf i).toNat)
     case atStart=>exact⟨0,Nat.zero_le _,rfl,xh ⟨World.ownsRow_nil _ _ _ _,Bel.refl _⟩⟩
     case round=>
      obtain⟨k,hk,rfl,HI⟩:=hrel;have c7:=aa HI.out.2 hB7;by_cases hlt:k<L.length
      ·obtain⟨n,hn⟩:∃n,L[k]?=some n:=⟨_,bP hlt⟩
       have hr:=(SY.o.bel HI.out.2).2.2 k n hn;have n0:wr.cell? (gi,k*5)=some (.int .i64 (k+1:Nat)):=hr 0 _ rfl;have n1:wr.cell? (gi,k*5+1)=some (.int .i64 n.par):=hr 1 _ rfl;have n2:wr.cell? (gi,k*5+2)=some (.string n.name):=hr 2 _ rfl;have n3:wr.cell? (gi,k*5+3)=some (.bool n.dir):=hr 3 _ rfl;have n4:wr.cell? (gi,k*5+4)=some n.bv:=hr 4 _ rfl;obtain⟨p5,m5,q5,e5⟩:=jE.o n (List.mem_iff_getElem?.2 ⟨k,hn⟩);rw[e5]at n4;have zW:Hid (∀v∈n.cells k,v.oneCell'=true):=xh (Xw n k ⟨p5,m5,q5,e5⟩);have iV:Hid (n.cells k=[.int .i64 (k+1:Nat),.int .i64 n.par,.string n.name,.bool n.dir,.slice p5 m5 q5]):=xh (by rw[←e5];rfl);have HX:Hid (bE 0 (L.take (k+1))=bE 0 (L.take k)++n.cells k):=xh (Co L k n hn);have HN:=xh hn;have HE5:=xh e5;have hpar:k=0∨0<(n.par:Int):=by
        by_cases e:k=0
        ·exact .inl e
        ·have:=acw.o k n hn (by omega);right;omega
       clear hr hn e5;rcases hpar with e0|hpar
       ·have hz:(((k+1:Nat):Int)==1)=true:=by rw[e0];rfl
        have hz2:((k:Int)+1==1)=true:=by rw[e0];rfl
        clear e0;by_cases V9:0<n.par
        ·have aaq:0<(n.par:Int):=by omega
         go_wp2_with (first
          | (go_at_call 326;((with_reducible refine au (Xv.o _ _ HI.out.2) ?_);rintro e w2 ⟨rfl,rfl⟩))
          | (refine af rfl 170 252 (.tmp 142) rfl [.int .i64 (k+1:Nat),.int .i64 n.par,.string n.name,.bool n.dir,.slice p5 m5 q5] rfl underlying170 gz (by show 0<5;omega) (by show 5≤2^24;omega) ?_;intro w5 B5 K5)
          | (refine aI rfl (.tmp 135) (.tmp 143) 170 rfl underlying170 gz (by omega) rfl (aB HI.out.1 K5) _ 1 1 [.int .i64 (k+1:Nat),.int .i64 n.par,.string n.name,.bool n.dir,.slice p5 m5 q5] 252 rfl B5.out rfl (by intro v hv;simp at hv;rcases hv with rfl|rfl|rfl|rfl|rfl<;>rfl) (by unfold maxLen;omega) (by omega) (by have:=K5.size;have:=HI.out.2.size;omega) ?_;intro p9 c9 w9 R9 K9;have KD:=xh (And.intro R9 (((Keep.of_bel _ (HI.out.2.tr K5)).tr (K9.mono λq hq=>hq)).below _ (bH _) λq hq=>fQ HI.out.1 q hq));clear R9 K9))
         go_roundw
         case rel=>exact⟨k+1,by omega,by go_num,xh ⟨by rw[HX.o,iV.o];exact KD.o.1,KD.o.2⟩⟩
         case measure=>simp[intOf]<;>omega
        ·have aaq:¬0<(n.par:Int):=by omega
         go_wp2_with (first
          | (go_at_call 326;((with_reducible refine au (Xv.o _ _ HI.out.2) ?_);rintro e w2 ⟨rfl,rfl⟩))
          | (refine af rfl 170 252 (.tmp 142) rfl [.int .i64 (k+1:Nat),.int .i64 n.par,.string n.name,.bool n.dir,.slice p5 m5 q5] rfl underlying170 gz (by show 0<5;omega) (by show 5≤2^24;omega) ?_;intro w5 B5 K5)
          | (refine aI rfl (.tmp 135) (.tmp 143) 170 rfl underlying170 gz (by omega) rfl (aB HI.out.1 K5) _ 1 1 [.int .i64 (k+1:Nat),.int .i64 n.par,.string n.name,.bool n.dir,.slice p5 m5 q5] 252 rfl B5.out rfl (by intro v hv;simp at hv;rcases hv with rfl|rfl|rfl|rfl|rfl<;>rfl) (by unfold maxLen;omega) (by omega) (by have:=K5.size;have:=HI.out.2.size;omega) ?_;intro p9 c9 w9 R9 K9;have KD:=xh (And.intro R9 (((Keep.of_bel _ (HI.out.2.tr K5)).tr (K9.mono λq hq=>hq)).below _ (bH _) λq hq=>fQ HI.out.1 q hq));clear R9 K9))
         go_roundw
         case rel=>exact⟨k+1,by omega,by go_num,xh ⟨by rw[HX.o,iV.o];exact KD.o.1,KD.o.2⟩⟩
         case measure=>simp[intOf]<;>omega
       ·have V9:0<n.par:=by omega
        go_wp2_with (first
         | (go_at_call 326;((with_reducible refine au (Xv.o _ _ HI.out.2) ?_);rintro e w2 ⟨rfl,rfl⟩))
         | (refine af rfl 170 252 (.tmp 142) rfl [.int .i64 (k+1:Nat),.int .i64 n.par,.string n.name,.bool n.dir,.slice p5 m5 q5] rfl underlying170 gz (by show 0<5;omega) (by show 5≤2^24;omega) ?_;intro w5 B5 K5)
         | (refine aI rfl (.tmp 135) (.tmp 143) 170 rfl underlying170 gz (by omega) rfl (aB HI.out.1 K5) _ 1 1 [.int .i64 (k+1:Nat),.int .i64 n.par,.string n.name,.bool n.dir,.slice p5 m5 q5] 252 rfl B5.out rfl (by intro v hv;simp at hv;rcases hv with rfl|rfl|rfl|rfl|rfl<;>rfl) (by unfold maxLen;omega) (by omega) (by have:=K5.size;have:=HI.out.2.size;omega) ?_;intro p9 c9 w9 R9 K9;have KD:=xh (And.intro R9 (((Keep.of_bel _ (HI.out.2.tr K5)).tr (K9.mono λq hq=>hq)).below _ (bH _) λq hq=>fQ HI.out.1 q hq));clear R9 K9))
        go_roundw
        case rel=>exact⟨k+1,by omega,by go_num,xh ⟨by rw[HX.o,iV.o];exact KD.o.1,KD.o.2⟩⟩
        case measure=>simp[intOf]<;>omega
      ·obtain rfl:k=L.length:=by omega
       have hr:=HI.out.1;rw[List.take_length]at hr;have hl2:kb<wr.heap.size:=by have:=HI.out.2.size;omega
       have BK:=HB3.o.bel HI.out.2;have uJ:=xh BK;have f7:=BK.frozen 7;have HR:=xh hr;have c7v:=c7;obtain⟨pv,cv,rfl,_⟩:=aD hr;clear hr BK;go_wp2_with fail
       go_end0
       have K4:=Keep.setCell wr kb 7 (.slice pv L.length cv);have K34:=(Keep.of_bel (λq=>q=kb) HI.out.2).tr K4;have K04:=HR3.o.2.2.1.tr K34;refine⟨rfl,_,_,_,⟨uJ.o.setCell (o:=7) _,aZ (HR.o.mono (by have:=HB3.o.lt;omega)) K4 (λg hg e=>by have e:g=kb:=e;omega),λn hn=>⟨(HD.o.aN n hn).1.keep K04 λq hq e=>?_,(HD.o.aN n hn).2⟩,HD.o.few,HD.o.one⟩,by rw[Zl.o];exact aZ HR3.o.1 K34 (λg hg e=>by have e:g=kb:=e;omega),by rw[Ta.o];exact aZ HR3.o.2.1 K34 (λg hg e=>by have e:g=kb:=e;omega),K04⟩;obtain⟨_,cur,hb⟩:=(HD.o.aN n hn).1.lt hq;have e:q=kb:=e;subst e;exact HD.o.blk.ne hb (by decide) rfl
end
end Go.Proofs.YtcnjjchlebmfiaaGreatDoor
