/-.-/
import Derived.Test.YtcnjjchlebmfiaaGreatDoorP18
set_option linter.unusedVariables false
set_option linter.unusedSimpArgs false
set_option maxRecDepth 100000
set_option maxHeartbeats 16000000
namespace Go.Proofs.YtcnjjchlebmfiaaGreatDoor
section
open Go.Proofs.Tryz Go.RowKit Go.Maps Go.Sort Go.Shelf
theorem Od(mb:Option Nat)(w:World):Calls prog 39 #[.map mb] w λe w'=>e=.returned (.func (.func 74) #[] #[w.heap.size])∧w'=w.alloc (.cells #[.map mb] 103):=
 (callsIn_wide (n:=5)).1 (AnyZI.keys_in Tryz.WA Fence.wide 5 trivial rfl mb w)
theorem FK(q b:Nat)(kv:List (Int×Value))(w:World)(hs:Mp nD w b kv)(hl:kv.length≤1000000)(hq:q<w.heap.size)(hc:w.cell? (q,0)=some (.map (some b))) :
 Calls prog 38 #[.func (.func 74) #[] #[q]] w λe w'=>∃(v:Value) (ss:List Int),e=.returned v∧ss.Perm (kv.map Prod.fst)∧
  w'.ownsRow w.heap.size 3 1 v ss.length ((ss.mergeSort λx y=>decide (x≤y)).map (Value.int .i64))∧Bel w w':=by
 have hmax:kv.length≤maxLen:=by unfold maxLen;omega
 have hown:=Mp.owns hs hmax;have hseq:SeqGives Fence.wide 2 prog 74 #[q] encZ (λss=>ss.Perm (intKeys (D0 kv))) (Maps.size (D0 kv)) w:=
  AnyZI.keys_gives (ρ:=Tryz.Bh) {Tryz.WA with} Fence.wide _ trivial rfl (by omega) q b kv.length (D0 kv) _ hq hc hown
 have cS:=AnyZI.sorted_in Tryz.KY Fence.wide 5 trivial trivial trivial trivial rfl (by omega) (sorts _) (enters_of func73 (by kernel_rfl) rfl) 74 #[q] trivial (enters_of func74 (by kernel_rfl) rfl) _ _ (by rw[xP];exact hmax) (by rw[xP];omega) _ hseq;refine((callsIn_wide (n:=5)).1 cS).mono ?_;rintro e w' ⟨v,ss,rfl,hS,hrow,_,hb⟩;exact⟨v,ss,rfl,hS.trans (KX kv),hrow,hb⟩
theorem yJ(w:World):(zeroValue 104).run prog w=.ok (.pointer none) w:=by kernel_rfl
def iW(pid parent state status left:Int)(pc:Int)(regs:List Value)(pv fv:Value):List Value:=[.int .i64 pid,.int .i64 parent,.int .i64 state,.int .i64 status,.int .i64 left,.int .u64 pc]++regs++[pv,fv]
theorem Bo:(prog.info? 42).map (λi=>(i.size,i.bytes,(i.zero.map (·.cells.size))))=some (24,224,some 24):=by kernel_rfl
theorem Yw:(prog.info? 88).map (λi=>(i.size,i.bytes,(i.zero.map (·.cells.size))))=some (3,24,some 3):=by kernel_rfl
theorem Ag(pid parent state status E:Int)(r0 r1 r2 r3 r4 r5 r6 r7 r8 r9 zQ C9 Da Db Dc De:Value)(p:Option Addr)(n c:Nat):prog.built 42 [(0,.int .i64 pid),(1,.int .i64 parent),(2,.int .i64 state),(3,.int .i64 status),(5,.int .u64 E),(6,.agg #[r0,r1,r2,r3,r4,r5,r6,r7,r8,r9,zQ,C9,Da,Db,Dc,De]),(7,.slice p n c)]=some (iW pid parent state status 0 E [r0,r1,r2,r3,r4,r5,r6,r7,r8,r9,zQ,C9,Da,Db,Dc,De] (.slice p n c) (.slice none 0 0)).toArray:=by kernel_rfl
theorem pY(pid parent state status E:Int)(regs:List Value)(hr:regs.length=16)(p:Option Addr)(n c:Nat):prog.built 42 [(0,.int .i64 pid),(1,.int .i64 parent),(2,.int .i64 state),(3,.int .i64 status),(5,.int .u64 E),(6,.agg regs.toArray),(7,.slice p n c)]=some (iW pid parent state status 0 E regs (.slice p n c) (.slice none 0 0)).toArray:=
 match regs,hr with
 | [r0,r1,r2,r3,r4,r5,r6,r7,r8,r9,zQ,C9,Da,Db,Dc,De],_=>Ag pid parent state status E r0 r1 r2 r3 r4 r5 r6 r7 r8 r9 zQ C9 Da Db Dc De p n c
def Rz(pid parent state status left:Int)(pc:Int)(regs:List Value)(pv:Value):List Value:=[.int .i64 pid,.int .i64 parent,.int .i64 state,.int .i64 status,.int .i64 left,.int .u64 pc]++regs++[pv]
theorem Lg(a b c d e f:Int)(regs:List Value)(pv fv:Value):iW a b c d e f regs pv fv=Rz a b c d e f regs pv++[fv]:=by simp[iW,Rz]
theorem zw(a b c d e f:Int)(regs:List Value)(pv:Value)(hr:regs.length=16):(Rz a b c d e f regs pv).length=23:=by simp[Rz,hr]
theorem qd{P:Program}{ops:Array Oper}{S:World→Prop}{op:Oper}{a:Act}(hw:Region.wanted op (yielded ops a.tmps)=true)(t:TypeId)(parts:Array (Nat×Operand))(ho:op.op=.build t parts)(cells:Array Value)(hb:P.built t (parts.toList.map λx=>(x.1,a.eval x.2))=some cells):YieldsIf P ops S op (.agg cells) a:=
 .inl ⟨hw,λw _=>by
  have hb2:P.built t (parts.map λ(i,x)=>(i,a.eval x)).toList=some cells:=by rw[Array.toList_map];exact hb
  unfold execOp;simp only[ho,Sem.run_bind,run_build w t _ cells hb2,Result.andThen_ok,Sem.run_pure]⟩
theorem AQ(cb:Nat)(w:World):Calls prog 387 #[cb] w λe w'=>e=.returned (.int .i64 4)∧w'=w:=by
 go_enter func387,ntmps387;go_wp2
 go_ret
 exact⟨rfl,rfl⟩
theorem zx(cb:Nat)(w:World):Calls prog 388 #[cb] w λe w'=>e=.returned (.int .i64 0)∧w'=w:=by
 go_enter func388,ntmps388;go_wp2
 go_ret
 exact⟨rfl,rfl⟩
theorem qG:(prog.info? 42).map (·.size)=some 24:=by kernel_rfl
inductive Ob|no|jo (b:Nat)|rd (b:Nat)|wr (b:Nat)
def Ob.v:Ob→Value
 | .no=>.nilIface
 | .jo b=>.iface 107 (.pointer (b,0))
 | .rd b=>.iface 443 (.pointer (b,0))
 | .wr b=>.iface 447 (.pointer (b,0))
def Ob.kind:Ob→Int | .no=>0 | .jo _=>4 | .rd _=>2 | .wr _=>3
def Ob.cnt:Ob→Nat | .no=>0|_=>1
def Ob.row(x:Ob)(i:Nat):List Value:=match x with | .no=>[]|x=>[.int .i64 i,.int .i64 x.kind,(0:Int)]
def uu(l:List Ob):Nat:=(l.map Ob.cnt).sum
def iJ:Nat→List Ob→List Value
 | _,[]=>[]
 | i,x::r=>x.row i++iJ (i+1) r
theorem zy(l:List Ob)(x:Ob):uu (l++[x])=uu l+x.cnt:=by simp[uu]
theorem rW:∀(l:List Ob) (i:Nat) (x:Ob),iJ i (l++[x])=iJ i l++x.row (i+l.length)
 | [],i,x=>by simp[iJ]
 | y::l,i,x=>by simp[iJ,rW l (i+1) x,Nat.add_assoc,Nat.add_comm 1]
theorem Jy(l:List Ob):uu l≤l.length:=by
 induction l with
 | nil=>exact bH _
 | cons x l ih=>
   have:x.cnt≤1:=by cases x<;>simp[Ob.cnt]
   simp[uu]at ih⊢
   omega
theorem AR(cb:Nat)(w:World):Calls prog 421 #[cb] w λe w'=>e=.returned (.int .i64 2)∧w'=w:=by
 go_enter func421,ntmps421;go_wp2
 go_ret
 exact⟨rfl,rfl⟩
theorem AU(cb:Nat)(w:World):Calls prog 425 #[cb] w λe w'=>e=.returned (.int .i64 3)∧w'=w:=by
 go_enter func425,ntmps425;go_wp2
 go_ret
 exact⟨rfl,rfl⟩
structure adp(v:Value)(kd:Int)(t:TypeId)(b fK fO:Nat):Prop where
 v:v=.iface t (.pointer (b,0))
 mK:∀w,(Go.method 667 t (.pointer (b,0)) "Kind").run prog w=.ok (fK,.pointer (b,0)) w
 mO:∀w,(Go.method 667 t (.pointer (b,0)) "Offset").run prog w=.ok (fO,.pointer (b,0)) w
 c1:∀(args:Array Value) (W:World),(callFunc fK args).run prog W=.ok (.enter fK args) W
 c2:∀(args:Array Value) (W:World),(callFunc fO args).run prog W=.ok (.enter fO args) W
 cK:∀w,Calls prog fK #[b] w λe w'=>e=.returned (.int .i64 kd)∧w'=w
 cO:∀w,Calls prog fO #[b] w λe w'=>e=.returned (.int .i64 0)∧w'=w
theorem Ob.adq(x:Ob)(h:x.cnt=1):∃t b fK fO,adp x.v x.kind t b fK fO:=by
 cases x with
 | no=>cases h
 | jo b=>exact⟨_,b,387,388,rfl,λw=>by kernel_rfl,λw=>by kernel_rfl,λ_ _=>by kernel_rfl,λ_ _=>by kernel_rfl,AQ b,zx b⟩
 | rd b=>exact⟨_,b,421,388,rfl,λw=>by kernel_rfl,λw=>by kernel_rfl,λ_ _=>by kernel_rfl,λ_ _=>by kernel_rfl,AR b,zx b⟩
 | wr b=>exact⟨_,b,425,388,rfl,λw=>by kernel_rfl,λw=>by kernel_rfl,λ_ _=>by kernel_rfl,λ_ _=>by kernel_rfl,AU b,zx b⟩
structure qH where
 pid:Int
 par:Int
 st:Int
 sv:Int
 wake:Int
 E:Int
 regs:List Value
 Lh:Value
 pn:Nat
 RA:List Value
 pb:Nat
 fds:List Ob
structure RB(w:World)(x:qH):Prop where
 blk:Blk w x.pb (.int .u64 x.E::x.regs++[x.Lh]++sS x.pid x.par x.st x.sv x.wake (x.fds.map Ob.v)) 120
 rl:x.regs.length=16
 r1:∀v∈x.regs,v.oneCell'=true
 fl:x.fds.length=8
 pid:0≤x.pid∧x.pid≤1000
 st:x.st≠1
 sp:∃b,x.Lh=.map b
 pg:∀W,Bel w W→Calls prog 40 #[x.Lh] W λe w'=>∃v,e=.returned v∧w'.ownsRow W.heap.size 57 258 v x.pn x.RA∧Bel W w'
theorem RB.bel{w w':World}{x:qH}(h:RB w x)(k:Bel w w'):RB w' x:=⟨h.blk.bel k,h.rl,h.r1,h.fl,h.pid,h.st,h.sp,λW hW=>h.pg W (k.tr hW)⟩
def qH.Yx(x:qH)(pv fv:Value):List Value:=iW x.pid x.par x.st x.sv 0 x.E x.regs pv fv
def qH.ent(x:qH):Int×Value:=(x.pid,.pointer (x.pb,0))
def iP:List qH→List (Value×Value)→List Value
 | x::xs,p::r=>x.Yx p.1 p.2++iP xs r
 | _,_=>[]
theorem wV:∀(xs:List qH) (r:List (Value×Value)) (x:qH) (p:Value×Value),xs.length=r.length→iP (xs++[x]) (r++[p])=iP xs r++x.Yx p.1 p.2
 | [],[],x,p,_=>by simp[iP]
 | y::xs,q::r,x,p,h=>by simp[iP,wV xs r x p (by simpa using h)]
structure U2(w:World)(lo hi:Nat)(x:qH)(pv fv:Value):Prop where
 pg:w.ownsRow lo 57 258 pv x.pn x.RA
 fd:w.ownsRow lo 88 3 fv (uu x.fds) (iJ 0 x.fds)
 hp:∀q,pv.ownBlock=some q→q<hi
 hf:∀q,fv.ownBlock=some q→q<hi
def eG(w:World):Nat→List qH→List (Value×Value)→Nat→Prop
 | lo,[],[],hi=>lo≤hi
 | lo,x::xs,p::r,hi=>∃mid,lo≤mid∧U2 w lo mid x p.1 p.2∧eG w mid xs r hi
 | _,_,_,_=>False
theorem kU{S:Nat→Prop}{w w':World}{base:Nat}{e:TypeId}{size:Nat}{v:Value}{n:Nat}{xs:List Value}(h:w.ownsRow base e size v n xs)(k:Keep S w w')(hs:∀q cs,Blk w q cs e→¬S q):w'.ownsRow base e size v n xs:=by
 refine⟨h.1,?_⟩;rcases h.2 with h2|⟨g,cap,cur,rfl,h3,h4,h5⟩
 ·exact .inl h2
 ·exact .inr ⟨g,cap,cur,rfl,h3,(k.block g (Array.getElem?_eq_some_iff.1 h4).1 (hs g cur.toList h4)).trans h4,h5⟩
theorem eG.keep{S:Nat→Prop}{w w':World}:∀{lo hi:Nat} {xs:List qH} {r:List (Value×Value)},eG w lo xs r hi→Keep S w w'→(∀q cs t,Blk w q cs t→t=57∨t=88→¬S q)→eG w' lo xs r hi
 | _,_,[],[],h,_,_=>h
 | _,_,x::xs,p::r,⟨mid,h1,h2,h3⟩,k,hs=>⟨mid,h1,⟨kU h2.pg k λq cs hb=>hs q cs _ hb (.inl rfl),kU h2.fd k λq cs hb=>hs q cs _ hb (.inr rfl),h2.hp,h2.hf⟩,eG.keep h3 k hs⟩
 | _,_,[],_::_,h,_,_=>h
 | _,_,_::_,[],h,_,_=>h
theorem eG.up{w:World}:∀{lo hi hi':Nat} {xs:List qH} {r:List (Value×Value)},eG w lo xs r hi→hi≤hi'→eG w lo xs r hi'
 | _,_,_,[],[],h,k=>aV h k
 | _,_,_,x::xs,p::r,⟨mid,h1,h2,h3⟩,k=>⟨mid,h1,h2,eG.up h3 k⟩
 | _,_,_,[],_::_,h,_=>h
 | _,_,_,_::_,[],h,_=>h
theorem eG.snoc{w:World}{hi hi':Nat}{x:qH}{p:Value×Value}(hx:U2 w hi hi' x p.1 p.2)(hh:hi≤hi'):∀{lo:Nat} {xs:List qH} {r:List (Value×Value)},eG w lo xs r hi→eG w lo (xs++[x]) (r++[p]) hi'
 | _,[],[],h=>⟨hi',aV h hh,⟨hx.pg.mono h,hx.fd.mono h,hx.hp,hx.hf⟩,bH _⟩
 | _,y::xs,q::r,⟨mid,h1,h2,h3⟩=>⟨mid,h1,h2,eG.snoc hx hh h3⟩
 | _,[],_::_,h=>h.elim
 | _,_::_,[],h=>h.elim
theorem FL{ps:List qH}{kv:List (Int×Value)}{ss:List Int}(hs:(ps.map qH.pid).Pairwise (·< ·))(hk:kv.Perm (ps.map qH.ent))(h:ss.Perm (kv.map Prod.fst)):(ss.mergeSort λx y=>decide (x≤y))=ps.map qH.pid:=by
 have h1:ss.Perm (ps.map qH.pid):=h.trans (by have:=hk.map Prod.fst;rwa [List.map_map]at this);have h2:=(List.mergeSort_perm ss λx y=>decide (x≤y)).trans h1;refine List.Perm.eq_of_pairwise (le:=(·≤ ·)) (λa b _ _ h1 h2=>Int.le_antisymm h1 h2) ?_ (hs.imp λh=>Int.le_of_lt h) h2;have:=List.pairwise_mergeSort (le:=λx y:Int=>decide (x≤y)) (λa b c h1 h2=>by simp at *;omega) (λa b=>by simp;omega) ss;exact this.imp λh=>by simpa using h
theorem RD{w0 W w8:World}{gp n m:Nat}{xs ys cs:List Value}{fv:Value}{t e:TypeId}{o:Obj}(hb:Blk W gp (xs++[fv]) t)(hn:xs.length=n)(hr:W.ownsRow w0.heap.size e 3 fv m ys)(hk:Keep (λq=>q=gp) w0 W)(hg:gp<w0.heap.size){p8:Option Addr}{c8:Nat}
 (R8:w8.ownsRow w0.heap.size e 3 (.slice p8 (m+1) c8) (m+1) (ys++cs))(K8:Keep (λq=>fv.ownBlock=some q) (W.drew.alloc o) w8) :
 (Blk (w8.setCell (gp,n) (.slice p8 (m+1) c8)) gp (xs++[.slice p8 (m+1) c8]) t∧(w8.setCell (gp,n) (.slice p8 (m+1) c8)).ownsRow w0.heap.size e 3 (.slice p8 (m+1) c8) (m+1) (ys++cs)∧Keep (λq=>q=gp) w0 (w8.setCell (gp,n) (.slice p8 (m+1) c8)))∧w8.cell? (gp,n)=some fv∧w8.frozen? (gp,n)=false:=by
 subst hn;have hbl:Bel W (W.drew.alloc o):=(Bel.drew (Bel.refl _)).ac _;have hne:¬fv.ownBlock=some gp:=λh=>by have:=(row_blk hr h).1;omega
 have b8:Blk w8 gp (xs++[fv]) t:=(hb.bel hbl).keep K8 hne;refine⟨⟨?_,ownsRow_setCell_below R8 (show(⟨gp,xs.length,none⟩:Addr).block<_ from hg) _,?_⟩,?_,b8.frozen _⟩
 ·have h:=b8.setCell (o:=xs.length) (.slice p8 (m+1) c8)
  simpa using h
 ·have h1:Keep (λq=>q=gp) w0 w8:=(hk.tr (Keep.of_bel _ hbl)).aY K8 (λq hq=>.inr (row_blk hr hq).1)
  exact h1.tr (Keep.setCell _ _ _ _)
 ·rw[b8.cell];simp
theorem eG.dn{w:World}:∀{lo lo' hi:Nat} {xs:List qH} {r:List (Value×Value)},eG w lo xs r hi→lo'≤lo→eG w lo' xs r hi
 | _,_,_,[],[],h,k=>aV k h
 | _,_,_,x::xs,p::r,⟨mid,h1,h2,h3⟩,k=>⟨mid,aV k h1,⟨h2.pg.mono k,h2.fd.mono k,h2.hp,h2.hf⟩,h3⟩
 | _,_,_,[],_::_,h,_=>h.elim
 | _,_,_,_::_,[],h,_=>h.elim
theorem Ob.row_one{x:Ob}(h:x.cnt=1)(i:Nat):x.row i=[.int .i64 i,.int .i64 x.kind,.int .i64 0]:=by
 cases x<;>first|rfl|cases h
theorem Ob.U3{x:Ob}(h:x.cnt≠1):x=.no:=by
 cases x<;>first|rfl|exact absurd rfl h
theorem eight{l:List Ob}(h:l.length=8):∃f0 f1 f2 f3 f4 f5 f6 f7,l=[f0,f1,f2,f3,f4,f5,f6,f7]:=
 match l,h with
 | [f0,f1,f2,f3,f4,f5,f6,f7],_=>⟨f0,f1,f2,f3,f4,f5,f6,f7,rfl⟩
theorem Yy(v0 v1 v2 v3 v4 v5 v6 v7:Value)(j:Nat)(hj:j<8)(W:World):(Instr.index 118 (.agg #[v0,v1,v2,v3,v4,v5,v6,v7]) (.int .i64 j)).run prog W=.ok (([v0,v1,v2,v3,v4,v5,v6,v7].getD j .nilIface)) W:=by
 rcases show j=0∨j=1∨j=2∨j=3∨j=4∨j=5∨j=6∨j=7 by omega with rfl|rfl|rfl|rfl|rfl|rfl|rfl|rfl<;>kernel_rfl
theorem Jz(kb:Nat)(a b c d e:Int)(pm tb ob cb:Nat)(fr now:Int)(sl:Value)(ps:List qH)(kv:List (Int×Value))(w:World)(hk:Blk w kb (qX a b c d e pm tb ob cb fr now sl) 111)(hp:Mp nD w pm kv)(hkv:kv.Perm (ps.map qH.ent))(hso:(ps.map qH.pid).Pairwise (·< ·))(hlen:ps.length≤1000)(hB:∀x∈ps,RB w x) :
 Calls prog 26 #[kb] w λe w'=>∃v r,e=.returned v∧r.length=ps.length∧Bel w w'∧w'.ownsRow w.heap.size 42 24 v ps.length (iP ps r)∧eG w' w.heap.size ps r w'.heap.size:=by
 have c5:=hk.c 5 rfl;have hkl:=hk.lt;have Ug:kv.length=ps.length:=by rw[hkv.length_eq,fJ]
 have HP:=xh hp;have HB:=xh hB;have HKV:=xh hkv;have xg:=xh hso;clear hk hp hB hkv hso;go_enter func26,ntmps26
 go_wp2_with (first
  | (go_at_call 39;refine(Od _ _).mono ?_;rintro e2 w1 ⟨rfl,rfl⟩)
  | (go_at_call 38;refine(FK w.heap.size pm kv _ (HP.o.alloc _) (by omega) (by simp) (by simp)).mono ?_;rintro e2 w2 ⟨v,ss,rfl,hss,hrow,k2⟩
     have hsl:ss.length=ps.length:=by rw[hss.length_eq,fJ];exact Ug
     rw[FL xg.o HKV.o hss,hsl]at hrow;obtain⟨gs,cap,rfl,hcap,hcm,hps⟩:=aD hrow;have GD:=xh hps;have gq:Hid (Bel w w2):=xh ((Bel.start w _).tr k2);clear hss hrow k2 hps hsl))
 have C5:=xh (aa gq.o c5);clear c5
 go_loopw [3,17] (λl i wr=>∃(k:Nat) (r:List (Value×Value)),k≤ps.length∧r.length=k∧i=.int .i64 k∧Hid (wr.ownsRow w2.heap.size 42 24 l k (iP (ps.take k) r))∧Hid (eG wr w2.heap.size (ps.take k) r wr.heap.size)∧Hid (Bel w2 wr)) (λ_ i _=>ps.length-(intOf i).toNat)
 case atStart=>exact⟨0,[],Nat.zero_le _,rfl,rfl,xh ⟨rfl,.inl ⟨rfl,rfl⟩⟩,xh (bH _),xh (Bel.refl _)⟩
 case round=>
  obtain⟨wo,hwo⟩:∃W,W=wr:=⟨_,rfl⟩;subst hwo;obtain⟨k,r,hk,abe,rfl,eZ,HOWN,Yz⟩:=hrel;by_cases hlt:k<ps.length
  ·obtain⟨gs',rfl,_,hb1,hcells,_⟩:=GD.o.resolve_left (by omega)
   obtain⟨⟨pid,par,st,sv,wake,E,regs,Lh,pn,RA,pb,fds⟩,hx⟩:∃x,ps[k]=x:=⟨_,rfl⟩;have hxm:=hx▸List.getElem_mem hlt;have hok:=(HB.o _ hxm).bel (gq.o.tr Yz.out);have hc:wo.cell? ⟨gs',k,none⟩=some (.int .i64 pid):=by
    rw[World.cell?_of_block (a:=⟨gs',k,none⟩) (Yz.out.block gs' hb1),hcells k (by simpa using hlt)];simp[hlt,hx]
   have hc5:wo.cell? (kb,5)=some (.map (some pm)):=aa Yz.out C5.o;have MV:0≤pid∧pid≤1000:=hok.pid;have hlk:(Instr.lookup 103 (.map (some pm)) (.int .i64 pid) false).run prog wo=.ok (.pointer (pb,0)) wo:=by
    have h1:=(HP.o.bel (gq.o.tr Yz.out)).lookup mM underlying103 pid (WalkArith.wf_i64 (by omega)) false (yJ wo);rw[show dD kv pid=some (.pointer (pb,0))from nW HP.o.nodup (HKV.o.mem_iff.2 (List.mem_map.2 ⟨_,hxm,rfl⟩))]at h1;simp only[Bool.false_eq_true,if_false]at h1
    exact h1
   have htk:ps.take (k+1)=ps.take k++[⟨pid,par,st,sv,wake,E,regs,Lh,pn,RA,pb,fds⟩]:=by rw[List.take_succ_eq_append_getElem hlt,hx]
   have ZG:=xh htk;have ji:=xh hok;have iV:=xh hcells;clear hx hxm hok htk hcells;go_upto_region 6 with fail
   have B2:Blk wo pb (.int .u64 E::regs++[Lh]++sS pid par st sv wake (fds.map Ob.v)) 120:=ji.o.blk;have hrl:regs.length=16:=ji.o.rl;have hr1:∀v∈regs,v.oneCell'=true:=ji.o.r1;have p0:=B2.c 0 rfl;have pr:wo.rangeAt pb 1 regs:=λj u hj=>by
    have ae9:j<16:=by have:=(bZ hj).1;omega
    rw[B2.cell,←hj];rw[show 1+j=j+1 from by omega,List.append_assoc,List.cons_append,List.getElem?_cons_succ,List.getElem?_append_left (by omega)]
   have hoff:∀j,((Value.int .u64 E::regs++[Lh]++sS pid par st sv wake (fds.map Ob.v)):List Value)[17+j]?=([Lh]++sS pid par st sv wake (fds.map Ob.v):List Value)[j]?:=λj=>by
    rw[List.append_assoc,List.getElem?_append_right (by simp;omega)];simp[hrl]
   have adr:=xh hoff;have p17:wo.cell? (pb,17)=some Lh:=(B2.cell 17).trans (hoff 0);have p19:wo.cell? (pb,19)=some (.int .i64 par):=(B2.cell 19).trans (hoff 2);have p20:wo.cell? (pb,20)=some (.int .i64 st):=(B2.cell 20).trans (hoff 3);have p21:wo.cell? (pb,21)=some (.int .i64 sv):=(B2.cell 21).trans (hoff 4);have hpl:=B2.lt;have hbl:∀(p:Option Addr) (n c:Nat) (W:World),(Instr.build 42 #[(0,.int .i64 pid),(1,.int .i64 par),(2,.int .i64 st),(3,.int .i64 sv),(5,.int .u64 E),(6,.agg regs.toArray),(7,.slice p n c)]).run prog W=.ok (.agg (iW pid par st sv 0 E regs (.slice p n c) (.slice none 0 0)).toArray) W:=λp n c W=>run_build W _ _ _ (pY pid par st sv E regs hrl p n c);have hu:=underlying38;have hi:(prog.info? 38).map (·.size)=some regs.length:=by rw[hrl];kernel_rfl
   have Zr:Hid (∀pv fv,pv.oneCell'=true→fv.oneCell'=true→(iW pid par st sv 0 E regs pv fv).length=24∧∀v∈iW pid par st sv 0 E regs pv fv,v.oneCell'=true):=xh λpv fv h1 h2=>⟨by simp[iW,hrl],λv hv=>by
    simp only[iW,List.mem_append,List.mem_cons,List.not_mem_nil,or_false]at hv
    rcases hv with(h|h)|h
    ·rcases h with rfl|rfl|rfl|rfl|rfl|rfl<;>rfl
    ·exact hr1 v h
    ·rcases h with rfl|rfl
     ·exact h1
     ·exact h2⟩
   have Oe:=xh λ(p:Option Addr) (n c:Nat)=>Zr.o (.slice p n c) (.slice none 0 0) rfl rfl;clear B2 hoff hlk hc5 hc;obtain⟨zs,hzs⟩:∃zs:List Value,zs=iW 0 0 0 0 0 0 (List.replicate 16 (.int .u64 0)) (.slice none 0 0) (.slice none 0 0):=⟨_,rfl⟩;have hz:∀W,(zeroValue 42).run prog W=.ok (.agg zs.toArray) W:=λW=>by rw[hzs];kernel_rfl
   have Zj:=xh hzs;clear hzs
   go_cut [7,17]from 17 to 98 (λs7 s17 wx=>∃gp:Nat,s7=.pointer (gp,0)∧s17=.int .i64 k∧Hid (∃p n c,Blk wx gp (iW pid par st sv 0 E regs (.slice p n c) (.slice none 0 0)) 42∧wx.ownsRow wo.heap.size 57 258 (.slice p n c) pn RA∧wo.heap.size≤gp∧gp<wx.heap.size∧Bel wo wx))
   case first=>
    have abf:=xh ji.o.pg;have hsk:∀W,Bel wo W→W.cell? (pb,0)=some (.int .u64 E)∧W.rangeAt pb 1 regs∧W.cell? (pb,17)=some Lh∧W.cell? (pb,19)=some (.int .i64 par)∧W.cell? (pb,20)=some (.int .i64 st)∧W.cell? (pb,21)=some (.int .i64 sv):=λW hW=>⟨aa hW p0,λj u hj=>aa hW (pr j u hj),aa hW p17,aa hW p19,aa hW p20,aa hW p21⟩;have Jm:=xh hsk;clear hsk;refine wp_region_noPanic ?_;refine wp_region_held_drew (S:=λw'=>w'.cell? ⟨pb,0,none⟩=some (.int .u64 E)∧w'.rangeAt pb 1 regs∧w'.cell? ⟨pb,17,none⟩=some Lh∧w'.cell? ⟨pb,19,none⟩=some (.int .i64 par)∧w'.cell? ⟨pb,20,none⟩=some (.int .i64 st)∧w'.cell? ⟨pb,21,none⟩=some (.int .i64 sv)) (by kernel_rfl) (Jm.o _ (Bel.drew (Bel.refl _))) (λhHeld=>?_);refine plan [0,1,2,3,4,5,6,7,8,9,10,11,12,13,14,15,16,17,18,19,20,21] ?_;repeat refine t0 rfl (by kernel_rfl) (by intro w hw;(try dsimp only at hw);go_simp;with_reducible rfl) (by assumption) (by(try simp only[Act.put,lits]);exact rfl) ?_
    refine aK ?_;refine wpAnyH_take (i:=22) (v:=_) rfl (by kernel_rfl) (by kernel_rfl) (by kernel_rfl) (λ_ _ _ h=>h) (yieldsIf_load_mid (by rfl) _ _ rfl _ _ rfl regs _ (λ_ h=>h.2.1) hu rfl hi) (by assumption) ?_;(try simp only[Act.put,lits])
    refine plan [23,24,25,26,27] ?_;repeat refine t0 rfl (by kernel_rfl) (by intro w hw;(try dsimp only at hw);go_simp;with_reducible rfl) (by assumption) (by(try simp only[Act.put,lits]);exact rfl) ?_
    refine aK ?_;refine wpAnyH_ready (rs:=[28,30]) (by kernel_rfl) (by simp) ?_;refine AllReadyH.cons rfl (λK hK=>?o28) ?x28
    case o28=>
     go_simp;go_at_call 40
     refine au (abf.o _ (Bel.drew (Bel.refl _))) ?_;rintro e3 w3 ⟨v3,rfl,h3,k3⟩;obtain⟨p3,c3,rfl,_⟩:=aD h3;have HB3:Hid (Bel wo w3):=xh (Bel.tr (Bel.drew (Bel.refl _)) k3);have jm:=xh k3;have HR3:=xh h3;clear h3 k3;refine hK.out _ _ (Jm.o _ HB3.o) (λhH3=>?_);clear hK K;(try simp only[Act.put,lits])
     refine wpAnyH_take (i:=29) (v:=_) rfl (by kernel_rfl) (by kernel_rfl) (by kernel_rfl) (λ_ _ _ h=>h) (qd (by rfl) _ _ rfl _ (pY pid par st sv E regs hrl p3 pn c3)) (by assumption) ?_;(try simp only[Act.put,lits])
     refine rd 30 rfl (by kernel_rfl) (λK hK=>?_);go_simp;refine hK.out _ _ (Jm.o _ (HB3.o.ac _)) (λhH5=>?_);clear hK K;(try simp only[Act.put,lits])
     refine rd 31 rfl (by kernel_rfl) (λK hK=>?_);rw[if_pos (by rfl)];refine wp_store_row _ _ _ rfl w3.heap.size (iW pid par st sv 0 E regs (.slice p3 pn c3) (.slice none 0 0)).toArray rfl rfl 42 zs.toArray (Blk.new w3 zs 42) ?_ ?_ ?_ ?_
     ·simp only[List.size_toArray,(Oe.o _ _ _).1];exact qG
     ·simp only[List.size_toArray,(Oe.o _ _ _).1,Zj.o];rfl
     ·exact all_oneCell_toArray (Oe.o _ _ _).2
     have kS:Keep (λk=>k=w3.heap.size) (w3.alloc (.cells zs.toArray 42)) _:=Keep.setRow _ w3.heap.size (iW pid par st sv 0 E regs (.slice p3 pn c3) (.slice none 0 0)).toArray;have kB:Bel wo _:=((Keep.of_bel _ (HB3.o.ac _)).tr kS).below _ (bH _) (λk hk=>hk▸HB3.o.le);refine hK.out _ _ (Jm.o _ kB) (λhH6=>?_);clear hK K;refine wpAnyH_done (by kernel_rfl) ?_ _;refine NoPanic.normal ?_;go_wp2_with fail
     go_meet
     refine⟨_,rfl,rfl,xh ⟨p3,_,c3,(Blk.new w3 zs 42).setRow _,wh (HR3.o.mono (show wo.heap.size≤wo.drew.heap.size from bH _)) (Bel.start w3 _) kS (bH _),HB3.o.le,by simp,kB⟩⟩
    case x28=>
     refine AllReadyH.cons rfl (λK hK=>?_) AllReadyH.nil;go_simp;refine hK.out _ _ (Jm.o _ ((Bel.drew (Bel.refl _)).ac _)) (λhH5=>?_);clear hK K;(try simp only[Act.put,lits])
     refine rd 28 rfl (by kernel_rfl) (λK hK=>?_);go_simp;go_at_call 40
     refine au (abf.o _ ((Bel.drew (Bel.refl wo)).ac (.cells zs.toArray 42))) ?_;rintro e3 w3 ⟨v3,rfl,h3,k3⟩;obtain⟨p3,c3,rfl,_⟩:=aD h3;have HB3:Hid (Bel wo w3):=xh (Bel.tr ((Bel.drew (Bel.refl wo)).ac (.cells zs.toArray 42)) k3);have jm:=xh k3;have HR3:=xh h3;clear h3 k3;refine hK.out _ _ (Jm.o _ HB3.o) (λhH3=>?_);clear hK K;(try simp only[Act.put,lits])
     refine wpAnyH_take (i:=29) (v:=_) rfl (by kernel_rfl) (by kernel_rfl) (by kernel_rfl) (λ_ _ _ h=>h) (qd (by rfl) _ _ rfl _ (pY pid par st sv E regs hrl p3 pn c3)) (by assumption) ?_;(try simp only[Act.put,lits])
     refine rd 31 rfl (by kernel_rfl) (λK hK=>?_);rw[if_pos (by rfl)];refine wp_store_row _ _ _ rfl wo.heap.size (iW pid par st sv 0 E regs (.slice p3 pn c3) (.slice none 0 0)).toArray rfl rfl 42 zs.toArray ((Blk.new wo.drew zs 42).bel jm.o) ?_ ?_ ?_ ?_
     ·simp only[List.size_toArray,(Oe.o _ _ _).1];exact qG
     ·simp only[List.size_toArray,(Oe.o _ _ _).1,Zj.o];rfl
     ·exact all_oneCell_toArray (Oe.o _ _ _).2
     have kS:Keep (λk=>k=wo.heap.size) w3 _:=Keep.setRow w3 wo.heap.size (iW pid par st sv 0 E regs (.slice p3 pn c3) (.slice none 0 0)).toArray;have kB:Bel wo _:=((Keep.of_bel _ HB3.o).tr kS).below _ (bH _) (λk hk=>hk▸bH _);refine hK.out _ _ (Jm.o _ kB) (λhH6=>?_);clear hK K;refine wpAnyH_done (by kernel_rfl) ?_ _;refine NoPanic.normal ?_;go_wp2_with fail
     go_meet
     refine⟨_,rfl,rfl,xh ⟨p3,_,c3,((Blk.new wo.drew zs 42).bel jm.o).setRow _,(aZ HR3.o kS (λq hq hq2=>?_)).mono (by simp),bH _,?_,kB⟩⟩
     ·simp at hq;omega
     ·have:=jm.o.le;simp at this⊢;omega
   case rest=>
    obtain⟨gp,rfl,rfl,hq⟩:=hcut;obtain⟨pp,U4,pc,hgB,hpv,hgp,hgl,kc⟩:=hq.out;obtain⟨f0,f1,f2,f3,f4,f5,f6,f7,RF⟩:=eight ji.o.fl;have RF:fds=[f0,f1,f2,f3,f4,f5,f6,f7]:=RF;have BW:Blk wc pb (.int .u64 E::regs++[Lh]++sS pid par st sv wake (fds.map Ob.v)) 120:=ji.o.blk.bel kc;have hoff:=adr.o;rw[RF]at BW hoff;have q20:wc.cell? (pb,20)=some (.int .i64 st):=(BW.cell 20).trans (hoff 3);have afa:(st==1)=false:=bK ji.o.st;have q23:wc.cell? (pb,23)=some f0.v:=(BW.cell 23).trans (hoff 6);have q24:wc.cell? (pb,24)=some f1.v:=(BW.cell 24).trans (hoff 7);have q25:wc.cell? (pb,25)=some f2.v:=(BW.cell 25).trans (hoff 8);have q26:wc.cell? (pb,26)=some f3.v:=(BW.cell 26).trans (hoff 9);have q27:wc.cell? (pb,27)=some f4.v:=(BW.cell 27).trans (hoff 10);have q28:wc.cell? (pb,28)=some f5.v:=(BW.cell 28).trans (hoff 11);have q29:wc.cell? (pb,29)=some f6.v:=(BW.cell 29).trans (hoff 12);have q30:wc.cell? (pb,30)=some f7.v:=(BW.cell 30).trans (hoff 13);have KT:pb<wc.heap.size:=BW.lt;have HFD:=xh RF;have T9:=xh hgB;have TA:=xh hpv;have vW:=xh kc;have HGP:=xh (And.intro hgp hgl);obtain⟨W0,hW⟩:∃W,W=wc:=⟨_,rfl⟩;subst hW;clear RF hgB hpv hgp hgl kc BW hoff hq hbl hu hi p0 pr p17 p19 p20 p21 hpl hz;go_upto_region 10 with fail
    go_loopw [76] (λi wx=>∃(j:Nat) (fv:Value),j≤8∧i=.int .i64 j∧Hid (Blk wx gp (iW pid par st sv 0 E regs (.slice pp U4 pc) fv) 42∧wx.ownsRow W0.heap.size 88 3 fv (uu (fds.take j)) (iJ 0 (fds.take j))∧Keep (λq=>q=gp) W0 wx)) (λi _=>8-(intOf i).toNat)
    case atStart=>exact⟨0,.slice none 0 0,Nat.zero_le _,rfl,xh ⟨T9.o,World.ownsRow_nil _ _ _ _,Keep.refl _ _⟩⟩
    case round=>
     obtain⟨wn,hwn⟩:∃W,W=wr:=⟨_,rfl⟩;subst hwn;obtain⟨j,fv,hj,rfl,HI⟩:=hrel;by_cases hlj:j<8
     ·have YA:j<fds.length:=by rw[HFD.o];exact hlj
      obtain⟨xo,hxo⟩:=e_x (fds[j]);have hix:∀W,(Instr.index 118 (.agg #[f0.v,f1.v,f2.v,f3.v,f4.v,f5.v,f6.v,f7.v]) (.int .i64 j)).run prog W=.ok xo.v W:=λW=>by
       rw[Yy _ _ _ _ _ _ _ _ j hlj W,show[f0.v,f1.v,f2.v,f3.v,f4.v,f5.v,f6.v,f7.v]=fds.map Ob.v from by rw[HFD.o];rfl];simp[List.getD,YA,hxo]
      have U5:fds.take (j+1)=fds.take j++[xo]:=by rw[List.take_succ_eq_append_getElem YA,hxo]
      have hln:(fds.take j).length=j:=by rw[List.length_take];omega
      clear hxo YA;obtain⟨m,hm⟩:=e_x (uu (fds.take j));obtain⟨ys,hys⟩:=e_x (iJ 0 (fds.take j));have Ul:m≤8:=by have:=Jy (fds.take j);omega
      have hI:=HI.out;rw[hm,hys]at hI;by_cases hno:xo.cnt=1
      ·obtain⟨t,bo,fK,fO,hM⟩:=xo.adq hno
       obtain⟨hMv,hmk,hmo,hfK,hfO,hcK,hcO⟩:=hM;rw[hMv]at hix;obtain⟨kd,hkd⟩:=e_x xo.kind;rw[hkd]at hcK;have HCK:=xh hcK;have Yh:=xh hcO;obtain⟨bI,rI,kI⟩:=hI;rw[Lg]at bI;have c23:wn.cell? (gp,23)=some fv:=by rw[bI.cell,List.getElem?_append_right (Nat.le_of_eq (zw _ _ _ _ _ _ _ _ hrl)),zw _ _ _ _ _ _ _ _ hrl];rfl
       have afb:∀o,(wn.drew.alloc o).cell? (gp,23)=some fv:=λo=>aa ((Bel.drew (Bel.refl _)).ac o) c23;have HST:=xh λ(p8:Option Addr) (c8:Nat) (w8:World) (R8:w8.ownsRow W0.heap.size 88 3 (.slice p8 (m+1) c8) (m+1) (ys++[.int .i64 j,.int .i64 kd,.int .i64 0])) (K8:Keep (λq=>fv.ownBlock=some q) (wn.drew.alloc (.cells #[.int .i64 j,.int .i64 kd,(0:Int)] 88)) w8)=>RD bI (zw _ _ _ _ _ _ _ _ hrl) rI kI HGP.o.2 R8 K8;have HR:=xh rI;have abg:gp<wn.heap.size:=Nat.lt_of_lt_of_le HGP.o.2 kI.size;have afc:wn.heap.size≠gp:=Nat.ne_of_gt abg;have afd:gp≠wn.heap.size:=Nat.ne_of_lt abg;have ads:W0.heap.size≤wn.heap.size:=kI.size;have ZF:Hid (∀(p8:Option Addr) (c8:Nat) (W:World),(Blk W gp (Rz pid par st sv 0 E regs (.slice pp U4 pc)++[.slice p8 (m+1) c8]) 42∧W.ownsRow W0.heap.size 88 3 (.slice p8 (m+1) c8) (m+1) (ys++[.int .i64 j,.int .i64 kd,.int .i64 0])∧Keep (λq=>q=gp) W0 W)→∃(j2:Nat) (fv:Value),j2≤8∧Value.int .i64 ((j:Int)+1)=.int .i64 j2∧Hid (Blk W gp (iW pid par st sv 0 E regs (.slice pp U4 pc) fv) 42∧W.ownsRow W0.heap.size 88 3 fv (uu (fds.take j2)) (iJ 0 (fds.take j2))∧Keep (λq=>q=gp) W0 W)):=xh λp8 c8 W h=>⟨j+1,.slice p8 (m+1) c8,by omega,by simp,xh ⟨by rw[Lg];exact h.1,by rw[U5,zy,rW,hno,hm,hys,Ob.row_one hno,hkd,hln,Nat.zero_add];exact h.2.1,h.2.2⟩⟩;clear bI rI kI hno hMv hcK hcO hkd U5 hln hm hys HI;go_upto_region 13 with fail
       refine wp_region_noPanic ?_;refine wp_region_held_drew (S:=λ_=>True) (by kernel_rfl) trivial (λhHeld=>?_);refine plan [0,2,3,5] ?_;repeat refine t0 rfl (by kernel_rfl) (by intro w hw;(try dsimp only at hw);go_simp;with_reducible rfl) (by assumption) (by(try simp only[Act.put,lits]);exact rfl) ?_
       refine aK ?_;refine wpAnyH_ready (rs:=[1,4]) (by kernel_rfl) (by simp) ?_;refine AllReadyH.cons rfl (λK hK=>?v1) (AllReadyH.cons rfl (λK hK=>?v2) AllReadyH.nil)
       case' v1=>(go_simp;refine hK.out _ _ (by trivial) (λhH=>?_);clear hK K;(try simp only[Act.put,lits]);refine rd 4 rfl (by kernel_rfl) (λK hK=>?_))
       all_goals (go_simp;((with_reducible refine au (HCK.o _) ?_);rintro e wx ⟨rfl,hh⟩;subst hh);refine hK.out _ _ (by trivial) (λhH=>?_);clear hK K;(try simp only[Act.put,lits]))
       case' v2=>(refine wpAnyH_ready (rs:=[1,6]) (by kernel_rfl) (by simp) ?_;refine AllReadyH.cons rfl (λK hK=>?v3) (AllReadyH.cons rfl (λK hK=>?v4) AllReadyH.nil))
       case' v3=>(go_simp;refine hK.out _ _ (by trivial) (λhH=>?_);clear hK K;(try simp only[Act.put,lits]);refine rd 6 rfl (by kernel_rfl) (λK hK=>?_))
       case' v1=>(refine rd 6 rfl (by kernel_rfl) (λK hK=>?_))
       all_goals (go_simp;((with_reducible refine au (Yh.o _) ?_);rintro e wx ⟨rfl,hh⟩;subst hh);refine hK.out _ _ (by trivial) (λhH=>?_);clear hK K;(try simp only[Act.put,lits]);refine plan [7] ?_;(repeat refine t0 rfl (by kernel_rfl) (by intro w hw;(try dsimp only at hw);go_simp;with_reducible rfl) (by assumption) (by(try simp only[Act.put,lits]);exact rfl) ?_);refine aK ?_)
       case' v4=>(refine wpAnyH_ready (rs:=[1,8]) (by kernel_rfl) (by simp) ?_;refine AllReadyH.cons rfl (λK hK=>?v5) (AllReadyH.cons rfl (λK hK=>?v6) AllReadyH.nil))
       case' v5=>(go_simp;refine hK.out _ _ (by trivial) (λhH=>?_);clear hK K;(try simp only[Act.put,lits]);refine rd 8 rfl (by kernel_rfl) (λK hK=>?_))
       case' v1=>(refine rd 8 rfl (by kernel_rfl) (λK hK=>?_))
       case' v3=>(refine rd 8 rfl (by kernel_rfl) (λK hK=>?_))
       all_goals (go_simp;refine hK.out _ _ (by trivial) (λhH=>?_);clear hK K;(try simp only[Act.put,lits]))
       case' v6=>(refine rd 1 rfl (by kernel_rfl) (λK hK=>?_);go_simp;refine hK.out _ _ (by trivial) (λhH=>?_);clear hK K;(try simp only[Act.put,lits]))
       all_goals
        refine rd 9 rfl (by kernel_rfl) (λK hK=>?_);refine gK (base:=W0.heap.size) (n:=m) (xs:=ys) (size:=3) (bytes:=24) rfl (.tmp 83) (.tmp 90) 40 rfl underlying40 Yw (by omega) rfl (aB HR.o ((Bel.drew (Bel.refl _)).ac _)) wn.heap.size 1 1 [.int .i64 j,.int .i64 kd,(0:Int)] rfl (λj2 u hj2=>by rw[←hj2];exact(Blk.new wn.drew [.int .i64 j,.int .i64 kd,(0:Int)] 88).cell j2) rfl (λv hv=>by simp only[List.mem_cons,List.not_mem_nil,or_false]at hv;rcases hv with rfl|rfl|rfl<;>rfl) (by unfold maxLen;omega) (by omega) (aV ads (by simp)) ?_;intro p8 c8 w8 R8 K8;obtain⟨h8,x8,f8⟩:=HST.o p8 c8 w8 R8 K8;have H8:=xh h8;clear h8 R8 K8;refine hK.out _ _ (by trivial) (λhH=>?_);clear hK K;(try simp only[Act.put,lits])
        refine plan [10] ?_;repeat refine t0 rfl (by kernel_rfl) (by intro w hw;(try dsimp only at hw);go_simp;with_reducible rfl) (by assumption) (by(try simp only[Act.put,lits]);exact rfl) ?_
        refine aK ?_;refine rd 11 rfl (by kernel_rfl) (λK hK=>?_);go_simp;refine hK.out _ _ (by trivial) (λhH=>?_);clear hK K;(try simp only[Act.put,lits])
        refine wpAnyH_done (by kernel_rfl) ?_ _;refine NoPanic.normal ?_;go_wp2_with fail
        go_roundw
        case rel=>exact ZF.o _ _ _ H8.o
        case measure=>simp[intOf]<;>omega
      ·obtain rfl:=Ob.U3 hno
       replace hix:∀W,(Instr.index 118 (.agg #[f0.v,f1.v,f2.v,f3.v,f4.v,f5.v,f6.v,f7.v]) (.int .i64 j)).run prog W=.ok .nilIface W:=hix;have ZF:Hid (∃(j2:Nat) (fv:Value),j2≤8∧Value.int .i64 ((j:Int)+1)=.int .i64 j2∧Hid (Blk wn gp (iW pid par st sv 0 E regs (.slice pp U4 pc) fv) 42∧wn.ownsRow W0.heap.size 88 3 fv (uu (fds.take j2)) (iJ 0 (fds.take j2))∧Keep (λq=>q=gp) W0 wn)):=xh ⟨j+1,fv,by omega,by simp,xh ⟨hI.1,by rw[U5,zy,rW,hm,hys];simpa [Ob.cnt,Ob.row]using hI.2.1,hI.2.2⟩⟩;clear hI U5 hln hm hys HI hno;go_wp2_with fail
       go_roundw
       case rel=>exact ZF.o
       case measure=>simp[intOf]<;>omega
     ·obtain rfl:j=8:=by omega
      obtain⟨b3,r3,k3⟩:=HI.out;have hall:fds.take 8=fds:=List.take_of_length_le (by rw[HFD.o];exact bH _);rw[hall]at r3;obtain⟨p3,c3,ZH,_⟩:=aD r3;obtain⟨cs,hcs⟩:∃cs,cs=iW pid par st sv 0 E regs (.slice pp U4 pc) fv:=⟨_,rfl⟩;have hbc:=Zr.o (.slice pp U4 pc) fv rfl (by rw[ZH];rfl);rw[←hcs]at hbc b3;have RG:Hid (cs.length=24):=xh hbc.1;have Yh:Hid (∀v∈cs,v.oneCell'=true):=xh hbc.2;have HRA:Hid (wn.rangeAt gp 0 cs):=xh (by have:=b3.range 0;simpa using this);have abh:Blk W0 gp _ 42:=T9.o;have hkn:Bel wo wn:=((Keep.of_bel (λq=>q=gp) vW.o).tr k3).below _ (bH _) (λk hk=>hk▸HGP.o.1);have HKN:=xh hkn;have Wp:Hid (U2 wn wo.heap.size wn.heap.size ⟨pid,par,st,sv,wake,E,regs,Lh,pn,RA,pb,fds⟩ (.slice pp U4 pc) fv):=xh (by
       have h1:=kU TA.o k3 λq cs2 hb hq=>Blk.ne abh hb (by decide) hq.symm;exact⟨h1,r3.mono vW.o.le,λq hq=>(row_blk h1 hq).2.elim λ_ hb=>hb.lt,λq hq=>(row_blk r3 hq).2.elim λ_ hb=>hb.lt⟩)
      have HON:Hid (eG wn w2.heap.size (ps.take k) r wo.heap.size):=xh (HOWN.out.keep (Keep.of_bel (λ_=>False) hkn) λ_ _ _ _ _ h=>h);have Zc:=xh hcs;have abj:w2.heap.size≤wn.heap.size:=aV Yz.out.le hkn.le;have OQ:Hid (wn.ownsRow w2.heap.size 42 24 u3 k (iP (ps.take k) r)):=xh (aB eZ.out hkn);clear b3 r3 k3 hcs hkn hbc HI ZH hall abh;go_upto_region 15 with fail
      go_wp2_with (first
       | (refine wpList_load_mid rfl 42 (.tmp 7) rfl gp 0 rfl cs _ HRA.o underlying42 rfl (by rw[RG.o];exact qG) ?_)
       | (refine af rfl 34 42 (.tmp 95) rfl cs rfl underlying34 (by rw[RG.o];exact Bo) (by have:=RG.o;omega) (by have:=RG.o;omega) ?_;intro w9 B9 K9;have DC:Hid (Blk w9 wn.heap.size cs 42):=B9;have oQ:Hid (Bel wn w9):=xh K9;clear B9 K9)
       | (refine bX (base:=w2.heap.size) (n:=k) (xs:=iP (ps.take k) r) (size:=24) (bytes:=224) rfl (.tmp 94) (.tmp 96) 34 rfl underlying34 Bo (by omega) rfl (aB OQ.o oQ.o) wn.heap.size 1 1 cs rfl (λj u hj=>by rw[←hj];exact DC.o.cell j) (by rw[RG.o]) Yh.o (by unfold maxLen;omega) (by omega) (aV abj oQ.o.le) ?_;intro p10 c10 sI R10 PZ;have UA:=xh R10;have zZ:=xh PZ;clear R10 PZ))
      go_roundw
      case rel=>
       have Wz:=aB OQ.o oQ.o;have adt:Bel w2 sI:=((Yz.out.tr HKN.o).tr oQ.o).trans (zZ.o.below _ (aV abj oQ.o.le) λq hq=>(row_blk Wz hq).1);have hnot:∀q cs2 t2,Blk w9 q cs2 t2→t2=57∨t2=88→¬u3.ownBlock=some q:=λq cs2 t2 hb ht hq=>by
        obtain⟨_,cur,WW⟩:=row_blk Wz hq;rcases ht with rfl|rfl
        ·exact Blk.ne WW hb (by decide) rfl
        ·exact Blk.ne WW hb (by decide) rfl
       have h9:=HON.o.keep (Keep.of_bel (λ_=>False) oQ.o) λ_ _ _ _ _ h=>h;have h10:=h9.keep zZ.o hnot;have hp9:=Wp.o;have adu:U2 sI wo.heap.size sI.heap.size ⟨pid,par,st,sv,wake,E,regs,Lh,pn,RA,pb,fds⟩ (.slice pp U4 pc) fv:=by
        have hle:wn.heap.size≤sI.heap.size:=aV oQ.o.le zZ.o.size;exact⟨kU (aB hp9.pg oQ.o) zZ.o λq cs2 hb=>hnot q cs2 _ hb (.inl rfl),kU (aB hp9.fd oQ.o) zZ.o λq cs2 hb=>hnot q cs2 _ hb (.inr rfl),λq hq=>Nat.lt_of_lt_of_le (hp9.hp q hq) hle,λq hq=>Nat.lt_of_lt_of_le (hp9.hf q hq) hle⟩
       refine⟨k+1,r++[(.slice pp U4 pc,fv)],by omega,by simp[abe],by go_num,xh ?_,xh ?_,xh adt⟩
       ·rw[ZG.o,wV _ _ _ _ (by rw[List.length_take];omega)]
        have h:=UA.o;rw[Zc.o]at h;exact h
       ·rw[ZG.o]
        exact eG.snoc adu (aV HKN.o.le (aV oQ.o.le zZ.o.size)) h10
      case measure=>simp[intOf]<;>omega
  ·obtain rfl:k=ps.length:=by omega
   rw[List.take_length]at eZ HOWN;go_wp2
   go_ret
   exact⟨_,r,rfl,abe,gq.o.tr Yz.out,eZ.out.mono gq.o.le,HOWN.out.dn gq.o.le⟩
end
end Go.Proofs.YtcnjjchlebmfiaaGreatDoor
