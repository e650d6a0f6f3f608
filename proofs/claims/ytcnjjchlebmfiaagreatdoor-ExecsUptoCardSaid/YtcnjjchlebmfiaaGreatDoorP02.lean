/-.-/
import Derived.Test.YtcnjjchlebmfiaaGreatDoorP01
import Derived.Lib.EndianBits
import Derived.BigQuiet
import Derived.Laws.CopyOwn
import Derived.Deep.AppendSrc
set_option linter.all false
set_option maxRecDepth 100000
set_option maxHeartbeats 16000000
namespace Go.Proofs.YtcnjjchlebmfiaaGreatDoor
section
open Go.RowKit
end
section
open Go.Proofs.Tryz Go.RowKit Go.Maps
def iR(b:Int):Prop:=0≤b∧b≤255
structure Pg where
 perm:Int
 bytes:List Int
structure Pg.wf(p:Pg):Prop where
 len:p.bytes.length=256
 byte:∀x∈p.bytes,iR x
 perm:0≤p.perm∧p.perm≤7
def Pg.cells(p:Pg):List Value:=.int .u8 p.perm::p.bytes.map (Value.int .u8)
def Pg.v(p:Pg):Value:=.agg p.cells.toArray
def Pg.zero:Pg:=⟨0,List.replicate 256 0⟩
theorem Pg.sQ:Pg.zero.wf:=⟨by simp[Pg.zero],by simp[Pg.zero,iR],by simp[Pg.zero]⟩
noncomputable def iK:kZ prog 3 Int:=Vh underlying3
theorem iJ:Keyed prog 3:=int_keyed underlying3
abbrev ax:=Nat→Option Pg
structure bF(m:ax):Prop where
 below:∀n,256≤n→m n=none
 wf:∀n p,m n=some p→p.wf
def Sp(w:World)(b:Nat)(m:ax):Prop:=
 ∃kv,Mp iK w b kv∧(∀n:Nat,bQ kv (n:Int)=(m n).map Pg.v)∧∀p∈kv,0≤p.1
theorem Sp.lt{w:World}{b:Nat}{m:ax}(h:Sp w b m):b<w.heap.size:=by
 obtain⟨kv,h,_⟩:=h;exact h.lt
theorem Sp.of_block{w w':World}{b:Nat}{m:ax}(h:Sp w b m)(hb:w'.heap[b]?=w.heap[b]?):Sp w' b m:=by
 obtain⟨kv,h1,h2⟩:=h;exact⟨kv,h1.of_block hb,h2⟩
theorem Sp.bel{w w':World}{b:Nat}{m:ax}(h:Sp w b m)(hb:Bel w w'):Sp w' b m:=h.of_block (hb.block b h.lt)
theorem Sp.alloc{w:World}{b:Nat}{m:ax}(h:Sp w b m)(o:Obj):Sp (w.alloc o) b m:=h.bel (Bel.start w o)
theorem Sp.setCell{w:World}{b:Nat}{m:ax}{a:Addr}(h:Sp w b m)(v:Value):Sp (w.setCell a v) b m:=by
 obtain⟨kv,h1,h2⟩:=h;exact⟨kv,h1.setCell v,h2⟩
theorem pz(w:World):(zeroValue 187).run prog w=.ok Pg.zero.v w:=by
 have:Pg.zero.v=.agg (.int .u8 0::(List.replicate 256 (Value.int .u8 0))).toArray:=by simp[Pg.v,Pg.cells,Pg.zero]
 rw[this];exact(by kernel_rfl:(zeroValue 187).run prog w=.ok (.agg (.int .u8 0::(List.replicate 256 (Value.int .u8 0))).toArray) w)
theorem Sp.lookup{w:World}{b:Nat}{m:ax}(h:Sp w b m)(n:Nat)(hn:n<9223372036854775808) :
 (Instr.lookup 113 (.map (some b)) (.int .i64 n) false).run prog w=.ok ((m n).getD Pg.zero).v w:=by
 obtain⟨kv,h1,h2,_⟩:=h;have:=h1.lookup iJ underlying113 (n:Int) (WalkArith.wf_i64 (by omega)) false (pz w);simp only[Bool.false_eq_true,if_false]at this
 rw[h2 n]at this;rw[show Value.int .i64 (n:Int)=(iK).kf (n:Int)from rfl,this];cases m n<;>rfl
theorem CW(p:Pg)(w:World):(Instr.field 187 p.v 0).run prog w=.ok (.int .u8 p.perm) w:=by
 kernel_rfl
def Pg.can(p:Pg)(perm:Int):Bool:=!(bits .and .u8 p.perm perm==0)
def lX(m:ax)(n:Nat)(perm:Int):Bool:=((m n).getD Pg.zero).can perm
def kC(m:ax)(perm:Int)(first last:Nat):Bool:=(List.range (last-first)).all λi=>lX m (first+i) perm
def lastOf(a n:Int):Nat:=((a+n+255)/256).toNat
def gz(m:ax)(a n perm:Int):Bool:=
 if n=0 then true else if n<0∨65536≤a∨65536-a<n then false else kC m perm (a/256).toNat (lastOf a n)
theorem rq(m:ax)(perm:Int)(f l:Nat)(h:f≤l):kC m perm f (l+1)=(kC m perm f l&&lX m l perm):=by
 unfold kC;rw[show l+1-f=(l-f)+1 from by omega,List.range_succ,List.all_append];simp[show f+(l-f)=l from by omega]
theorem qB(m:ax)(perm:Int)(f l k:Nat)(h1:f≤k)(h2:k<l)(hk:lX m k perm=false):kC m perm f l=false:=by
 unfold kC;rw[List.all_eq_false];refine⟨k-f,by simp;omega,?_⟩;simp[show f+(k-f)=k from by omega,hk]
theorem wQ(b:Nat)(m:ax)(a n perm:Int)(w:World)(hs:Sp w b m)(ha:0≤a)(ha1:a<18446744073709551616)(hn : -9223372036854775808≤n)(hn1:n<9223372036854775808) :
 Calls prog 124 #[.map (some b),.int .u64 a,n,.int .u8 perm] w (Z.e (.bool (gz m a n perm)) w):=by
 by_cases h0:n=0
 ·subst h0
  go_enter func124,ntmps124;go_wp2
  go_ret
  exact⟨by simp[gz],rfl⟩
 have g0:(n==0)=false:=by simpa using h0
 by_cases h1:n<0∨65536≤a∨65536-a<n
 ·have hr:gz m a n perm=false:=by simp[gz,h0,h1]
  have HR:=xh hr;clear hr;by_cases h2:n<0
  ·clear h1 h0
   go_enter func124,ntmps124;go_wp2
   go_ret
   exact⟨by rw[HR.o];try rfl,rfl⟩
  ·have h3:0≤n:=by omega
   by_cases h4:65536≤a
   ·clear h1 h0 h2
    go_enter func124,ntmps124;go_wp2
    go_ret
    exact⟨by rw[HR.o];try rfl,rfl⟩
   ·have h5:a<65536:=by omega
    have h6:65536-a<n:=by omega
    clear h1 h0 h2 h4;go_enter func124,ntmps124;go_wp2
    go_ret
    exact⟨by rw[HR.o];try rfl,rfl⟩
 ·have h2:0<n:=by omega
  have h3:a<65536:=by omega
  have h4:n≤65536-a:=by omega
  have hr:gz m a n perm=kC m perm (a/256).toNat (lastOf a n):=by simp[gz,h0,h1]
  have HR:=xh hr;clear hr h1 h0 hn hn1 ha1;go_enter func124,ntmps124;go_wp2
  go_loop [9] (λp=>∃k:Nat,(a/256).toNat≤k∧k≤lastOf a n∧p=.int .i64 k∧kC m perm (a/256).toNat k=true) (λp=>lastOf a n-(intOf p).toNat)
  case atStart=>exact⟨(a/256).toNat,bM _,by simp only[lastOf];omega,by congr 1;omega,by simp[kC]⟩
  case round=>
   obtain⟨k,hk,hk1,rfl,hall⟩:=hrel;have hl:=hs.lookup k (by simp only[lastOf]at hk1;omega);have hf:=CW ((m k).getD Pg.zero);have HA:=xh hall;clear hall;have hkb:(k:Int)≤256:=by simp only[lastOf]at hk1;omega
   by_cases hlt:(k:Int)*256<a+n
   ·have hlast:k<lastOf a n:=by simp only[lastOf];omega
    cases hc:lX m k perm with
    | false=>
      have hres:=xh (HR.o.trans (qB m perm _ _ k hk hlast hc));have hb:(bits .and .u8 ((m k).getD Pg.zero).perm perm==0)=true:=by simpa [lX,Pg.can]using hc
      clear hc;go_wp2
      go_ret
      exact⟨by rw[hres.out];try rfl,rfl⟩
    | true=>
      have hnext:=xh ((rq m perm _ k hk).trans (by rw[HA.o,hc]));have hb:(bits .and .u8 ((m k).getD Pg.zero).perm perm==0)=false:=by simpa [lX,Pg.can]using hc
      clear hc;go_wp2
      go_round
      case rel=>exact⟨k+1,by omega,by omega,by go_num,hnext.out⟩
      case measure=>simp[intOf]<;>omega
   ·have hlast:lastOf a n=k:=by simp only[lastOf]at hk1⊢;omega
    have hres:=xh (HR.o.trans (by rw[hlast];exact HA.o):gz m a n perm=true);clear hlast;go_wp2
    go_ret
    exact⟨by rw[hres.out];try rfl,rfl⟩
end
section
open Go.Proofs.Tryz Go.RowKit
structure jF(w:World)(b o:Nat)(l:List Int):Prop where
 cell:∀i,i<l.length→w.cell? ⟨b,o+i,none⟩=(l[i]?).map (Value.int .u8)
 byte:∀x∈l,0≤x∧x≤255
theorem jF.at_{w:World}{b o:Nat}{l:List Int}(h:jF w b o l)(i:Nat)(hi:i<l.length):w.cell? ⟨b,o+i,none⟩=some (.int .u8 (l.getD i 0)):=by
 rw[h.cell i hi,bT hi,List.getD_eq_getElem?_getD,bT hi];rfl
theorem jF.byteAt{w:World}{b o:Nat}{l:List Int}(h:jF w b o l)(i:Nat)(hi:i<l.length):0≤l.getD i 0∧l.getD i 0≤255:=by
 rw[List.getD_eq_getElem?_getD,bT hi];exact h.byte _ (List.getElem_mem hi)
theorem jF.part{w:World}{b o:Nat}{l:List Int}(h:jF w b o l)(k n:Nat)(hn:k+n≤l.length):jF w b (o+k) ((l.drop k).take n) where
 cell i hi:=by
  simp only[List.length_take,List.length_drop]at hi
  rw[show o+k+i=o+(k+i)from by omega,h.cell (k+i) (by omega),List.getElem?_take,List.getElem?_drop];simp[show i<n from by omega]
 byte x hx:=h.byte x (List.mem_of_mem_drop (List.mem_of_mem_take hx))
theorem jF.of_cell{w w':World}{b o:Nat}{l:List Int}(h:jF w b o l)(hc:∀a,a.block=b→w'.cell? a=w.cell? a):jF w' b o l:=
 ⟨λi hi=>(hc _ rfl).trans (h.cell i hi),h.byte⟩
def lY:List Int→Int
 | []=>0
 | x::r=>x+256*lY r
theorem Fq(l:List Int)(i:Nat)(hi:i<l.length):lY (l.drop i)=l.getD i 0+256*lY (l.drop (i+1)):=by
 rw[List.drop_eq_getElem_cons hi,lY,List.getD_eq_getElem?_getD,bT hi];rfl
theorem jM:∀(l:List Int),(∀x∈l,0≤x∧x≤255)→0≤lY l∧lY l<256^l.length
 | [],_=>by simp[lY]
 | x::r,h=>by
   have h1:=jM r λy hy=>h y (List.mem_cons_of_mem _ hy);have h2:=h x List.mem_cons_self;simp only[lY,List.length_cons,Int.pow_succ]
   omega
theorem Kr:∀(n:Nat),n≤7→(256:Int)^n≤72057594037927936
 | 0,_=>by decide
 | 1,_=>by decide
 | 2,_=>by decide
 | 3,_=>by decide
 | 4,_=>by decide
 | 5,_=>by decide
 | 6,_=>by decide
 | 7,_=>by decide
 | n+8,h=>by omega
theorem CU(l:List Int)(h:∀x∈l,0≤x∧x≤255)(hl:l.length≤7):0≤lY l∧lY l<72057594037927936:=by
 have:=jM l h;have:=Kr l.length hl;omega
theorem VP(l:List Int)(h:∀x∈l,0≤x∧x≤255)(hl:l.length≤8):0≤lY l∧lY l<18446744073709551616:=by
 have h1:=jM l h;by_cases h8:l.length=8
 ·rw[h8]at h1
  omega
 ·have:=Kr l.length (by omega)
  omega
theorem aaI(n x:Int)(hn:0≤n)(hn1:n<72057594037927936)(hx:0≤x)(hx1:x≤255):bits .or .u64 (n*256) x=n*256+x:=
 bits_join .u64 64 (by decide) (λn h0 h1=>by rw[IntKind.wrap_u64];omega) 8 (n*256) x (by omega) (by omega) (by omega) hx (by omega) (by omega)
theorem L6(b o c:Nat)(l:List Int)(w:World)(hl:l.length≤8)(h:jF w b o l) :
 Calls prog 145 #[.slice (b,o) l.length c] w (Z.e (.int .u64 (lY l)) w):=by
 go_enter func145,ntmps145;go_wp2
 go_loop [3,4] (λn i=>∃k:Nat,k≤l.length∧i=.int .i64 k∧n=.int .u64 (lY (l.drop k))) (λ_ i=>(intOf i).toNat)
 case atStart=>exact⟨l.length,bM _,rfl,by simp[lY]⟩
 case round=>
  obtain⟨k,hk,rfl,rfl⟩:=hrel;cases k with
  | zero=>
    go_wp2
    go_ret
    exact⟨rfl,rfl⟩
  | succ k=>
    have hs:=xh (Fq l k hk);have hc:=h.at_ k hk;have hx:=h.byteAt k hk;have hn:=CU (l.drop (k+1)) (λx hx=>h.byte x (List.mem_of_mem_drop hx)) (by simp;omega);have hor:=aaI _ _ hn.1 hn.2 hx.1 hx.2;have hx0:=hx.1;have hx1:=hx.2;have hn0:=hn.1;have hn1:=hn.2;clear hx hn;generalize l.getD k 0=x at *
    generalize hy:lY (l.drop (k+1))=y at *
    have HY:=xh hy;clear hy;go_wp2
    go_round
    case rel=>exact⟨k,by omega,by go_num,by rw[hs.out];congr 1;omega⟩
    case measure=>simp[intOf]<;>omega
theorem IU(b o c:Nat)(l:List Int)(w:World)(hl:l.length≤8)(h:jF w b o l) :
 Calls prog 203 #[.slice (b,o) l.length c] w (Z.e (.int .u64 (lY l)) w):=by
 go_enter func203,ntmps203;go_wp2
 go_loop [3,4] (λn i=>∃k:Nat,k≤l.length∧i=.int .i64 ((k:Int)-1)∧n=.int .u64 (lY (l.drop k))) (λ_ i=>(intOf i+1).toNat)
 case atStart=>exact⟨l.length,bM _,rfl,by simp[lY]⟩
 case round=>
  obtain⟨k,hk,rfl,rfl⟩:=hrel;cases k with
  | zero=>
    go_wp2
    go_ret
    exact⟨rfl,rfl⟩
  | succ k=>
    have hs:=xh (Fq l k hk);have hc:=h.at_ k hk;have hx:=h.byteAt k hk;have hn:=CU (l.drop (k+1)) (λx hx=>h.byte x (List.mem_of_mem_drop hx)) (by simp;omega);have hx0:=hx.1;have hx1:=hx.2;have hn0:=hn.1;have hn1:=hn.2;clear hx hn;generalize l.getD k 0=x at *
    rw[show(((k+1:Nat):Int)-1)=(k:Int)from by omega];generalize hy:lY (l.drop (k+1))=y at *
    have HY:=xh hy;clear hy;go_wp2
    go_round
    case rel=>exact⟨k,by omega,by go_num,by rw[hs.out];congr 1;omega⟩
    case measure=>simp[intOf]<;>omega
def gu(n:Int):List Int:=[n%256,n/256%256,n/65536%256,n/16777216%256,n/4294967296%256,n/1099511627776%256,n/281474976710656%256,n/72057594037927936]
def rowOf(f:Nat→Int)(N:Nat):List Value:=(List.range N).map λi=>Value.int .u8 (f i)
def jk(f:Nat→Int)(i:Nat)(x:Int):Nat→Int:=λj=>if j=i then x else f j
def UF(f:Nat→Int)(o:Nat)(n:Int):Nat→Int:=
 jk (jk (jk (jk (jk (jk (jk (jk f o (n%256)) (o+1) (n/256%256)) (o+2) (n/65536%256)) (o+3) (n/16777216%256)) (o+4) (n/4294967296%256)) (o+5) (n/1099511627776%256)) (o+6) (n/281474976710656%256)) (o+7) (n/72057594037927936)
theorem UG(f:Nat→Int)(N i:Nat)(x:Int):(rowOf f N).set i (.int .u8 x)=rowOf (jk f i x) N:=by
 apply List.ext_getElem?
 intro k;simp only[rowOf,List.getElem?_set,fA,jE,List.length_range,jk]
 by_cases hk:k<N
 ·rw[List.getElem?_range hk]
  by_cases hi:i=k
  ·subst hi;simp[hk]
  ·simp[hi,Ne.symm hi]
 ·rw[List.getElem?_eq_none (by simp;omega)]
  by_cases hi:i=k
  ·subst hi;simp[hk]
  ·simp[hi]
theorem Ic(f:Nat→Int)(N:Nat):(rowOf f N).length=N:=by simp[rowOf]
theorem tX(f:Nat→Int)(N i:Nat)(h:i<N):(rowOf f N)[i]?=some (.int .u8 (f i)):=by simp[rowOf,h]
theorem Blk.fV{w:World}{g N:Nat}{f:Nat→Int}{t:TypeId}(h:Blk w g (rowOf f N) t)(i:Nat)(x:Int):Blk (w.setCell (g,i) (.int .u8 x)) g (rowOf (jk f i x) N) t:=by
 rw[←UG];exact h.setCell _
theorem Keep.setCell(w:World)(g i:Nat)(v:Value):Keep (λk=>k=g) w (w.setCell (g,i) v):=
 ⟨rfl,rfl,rfl,by simp,λk _ hk=>Below.heap_setCell w ⟨g,i,none⟩ v k hk⟩
theorem put_any(g o N:Nat)(f:Nat→Int)(t:TypeId)(cap:Nat)(n:Int)(w:World)(hB:Blk w g (rowOf f N) t)(ho:o+8≤N)(hN:N<100000)(hcap:8≤cap)(hn:0≤n)(hn1:n<18446744073709551616) :
 Calls prog 146 #[.slice (g,o) 8 cap,.int .u64 n] w λe w'=>e=.returned (.tuple #[])∧Blk w' g (rowOf (UF f o n) N) t∧Keep (λk=>k=g) w w':=by
 have hc:∀i,i<8→w.cell? ⟨g,o+i,none⟩=some (.int .u8 (f (o+i))):=λi hi=>(hB.cell _).trans (tX f N _ (by omega));have c0:w.cell? (g,o)=some (.int .u8 (f o)):=hc 0 (by omega);have c1:=hc 1 (by omega);have c2:=hc 2 (by omega);have c3:=hc 3 (by omega);have c4:=hc 4 (by omega);have c5:=hc 5 (by omega);have c6:=hc 6 (by omega);have c7:=hc 7 (by omega);have hf:=hB.frozen;have hg:=hB.lt;clear hc;go_enter func146,ntmps146;go_wp2
 refine wp_loop_rounds 9 ?_
 iterate 9 (rw[rounds_succ];go_wp2)
 go_end0
 exact⟨rfl,(((((((hB.fV _ _).fV _ _).fV _ _).fV _ _).fV _ _).fV _ _).fV _ _).fV _ _,
  (((((((Keep.setCell _ _ _ _).tr (Keep.setCell _ _ _ _)).tr (Keep.setCell _ _ _ _)).tr (Keep.setCell _ _ _ _)).tr (Keep.setCell _ _ _ _)).tr (Keep.setCell _ _ _ _)).tr (Keep.setCell _ _ _ _)).tr (Keep.setCell _ _ _ _)⟩
theorem Kv(g o N:Nat)(f:Nat→Int)(t:TypeId)(cap:Nat)(n:Int)(w:World)(hB:Blk w g (rowOf f N) t)(ho:o+8≤N)(hN:N<100000)(hn:0≤n)(hn1:n<18446744073709551616) :
 Calls prog 262 #[.slice (g,0) N cap,.int .i64 o,.int .u64 n] w λe w'=>e=.returned (.tuple #[])∧Blk w' g (rowOf (UF f o n) N) t∧Keep (λk=>k=g) w w':=by
 have hc:∀i,i<8→w.cell? ⟨g,o+i,none⟩=some (.int .u8 (f (o+i))):=λi hi=>(hB.cell _).trans (tX f N _ (by omega));have c0:w.cell? (g,o)=some (.int .u8 (f o)):=hc 0 (by omega);have c1:=hc 1 (by omega);have c2:=hc 2 (by omega);have c3:=hc 3 (by omega);have c4:=hc 4 (by omega);have c5:=hc 5 (by omega);have c6:=hc 6 (by omega);have c7:=hc 7 (by omega);have hf:=hB.frozen;have hg:=hB.lt;clear hc;go_enter func262,ntmps262;go_wp2
 refine wp_loop_rounds 9 ?_
 iterate 9 (rw[rounds_succ];go_wp2)
 go_end0
 exact⟨rfl,(((((((hB.fV _ _).fV _ _).fV _ _).fV _ _).fV _ _).fV _ _).fV _ _).fV _ _,
  (((((((Keep.setCell _ _ _ _).tr (Keep.setCell _ _ _ _)).tr (Keep.setCell _ _ _ _)).tr (Keep.setCell _ _ _ _)).tr (Keep.setCell _ _ _ _)).tr (Keep.setCell _ _ _ _)).tr (Keep.setCell _ _ _ _)).tr (Keep.setCell _ _ _ _)⟩
end
section
open Go.RowKit Go.Maps
def UT(w:World)(p:Option Addr)(l:List ByteArray):Prop:=0<l.length→∃g o,p=some ⟨g,o,none⟩∧∃cs t,Blk w g cs t∧t=9∧∀i s,l[i]?=some s→cs[o+i]?=some (.string s)
theorem UT.keep{S:Nat→Prop}{w w':World}{p:Option Addr}{l:List ByteArray}(h:UT w p l)(k:Keep S w w')(hs:∀q cs,Blk w q cs 9→¬S q):UT w' p l:=λh0=>by
 obtain⟨g,o,e,cs,t,hb,ht,hc⟩:=h h0;subst ht;exact⟨g,o,e,cs,_,hb.keep k (hs g cs hb),rfl,hc⟩
theorem UT.bel{w w':World}{p:Option Addr}{l:List ByteArray}(h:UT w p l)(k:Bel w w'):UT w' p l:=h.keep (Keep.of_bel (λ_=>False) k) λ_ _ _ h=>h
theorem UT.cell{w:World}{p:Option Addr}{l:List ByteArray}(h:UT w p l){i:Nat}{s:ByteArray}(hi:l[i]?=some s):∃g o,p=some ⟨g,o,none⟩∧w.cell? ⟨g,o+i,none⟩=some (.string s):=by
 obtain⟨g,o,e,cs,t,hb,_,hc⟩:=h (by have:=(bV hi).1;omega);exact⟨g,o,e,by rw[hb.cell];exact hc i s hi⟩
def zQ(w:World)(p:Option Addr)(l:List Int):Prop:=(∀x∈l,iR x)∧(0<l.length→∃g o,p=some ⟨g,o,none⟩∧∃cs,Blk w g cs 5∧∀i x,l[i]?=some x→cs[o+i]?=some (.int .u8 x))
theorem zQ.keep{S:Nat→Prop}{w w':World}{p:Option Addr}{l:List Int}(h:zQ w p l)(k:Keep S w w')(hs:∀q cs,Blk w q cs 5→¬S q):zQ w' p l:=⟨h.1,λh0=>by
 obtain⟨g,o,e,cs,hb,hc⟩:=h.2 h0;exact⟨g,o,e,cs,hb.keep k (hs g cs hb),hc⟩⟩
theorem zQ.bel{w w':World}{p:Option Addr}{l:List Int}(h:zQ w p l)(k:Bel w w'):zQ w' p l:=h.keep (Keep.of_bel (λ_=>False) k) λ_ _ _ h=>h
theorem Gf{w w3:World}{q o:Nat}{v:Value}(k:Bel w w3)(hq:w.heap.size≤q):Bel w (w3.setCell (q,o) v):=by
 have k2:=(Keep.of_bel (λx=>x=q) k).tr (Keep.setCell w3 q o v);exact⟨k2.os,k2.tape,k2.output,k2.size,λx hx=>k2.block x hx (by omega)⟩
theorem Blk.setCells{w:World}{b:Nat}{c:List Value}{t:TypeId}(h:Blk w b c t):∀(o:Nat) (vs:List Value),o+vs.length≤c.length→Blk (w.setCells b o vs) b (splice c o vs) t:=by
 intro o vs
 induction vs generalizing w c o with
 | nil=>intro _;simpa [World.setCells,splice]using h
 | cons v vs ih=>
   intro hl;simp only[List.length_cons]at hl
   have:=ih (h.setCell (o:=o) v) (o+1) (by simp;omega);rw[World.setCells];have e:splice (c.set o v) (o+1) vs=splice c o (v::vs):=by
    have h1:(c.set o v).take (o+1)=c.take o++[v]:=by
     rw[List.take_succ_eq_append_getElem (by simp;omega),List.take_set_of_le (bM _)];simp
    have h2:(c.set o v).drop (o+1+vs.length)=c.drop (o+(vs.length+1)):=by
     rw[List.drop_set_of_lt (by omega),show o+1+vs.length=o+(vs.length+1)from by omega]
    unfold splice;rw[h1,h2];simp
   rw[←e];exact this
theorem Keep.setCells(w:World)(b:Nat):∀(o:Nat) (vs:List Value),Keep (λq=>q=b) w (w.setCells b o vs):=by
 intro o vs
 induction vs generalizing w o with
 | nil=>exact Keep.refl _ _
 | cons v vs ih=>exact(Keep.setCell w b o v).tr (ih (w.setCell ⟨b,o,none⟩ v) (o+1))
end
section
open Go.Proofs.Tryz Go.RowKit Go.Maps
def aU:Value→Option Nat
 | .slice (some a) _ _=>some a.block
 | _=>none
def Buf(w:World)(v:Value)(L:List Int):Prop:=
 ∃p cap,v=.slice p L.length cap∧L.length≤cap∧cap≤maxLen∧(∀x∈L,iR x)∧(p=none∧cap=0∨∃g o cs,p=some ⟨g,o,none⟩∧Blk w g cs 5∧o+cap≤cs.length∧∀i x,L[i]?=some x→cs[o+i]?=some (.int .u8 x))
theorem Buf.nil(w:World):Buf w (.slice none 0 0) []:=⟨none,0,rfl,bM _,by unfold maxLen;omega,λ_ h=>(by cases h),.inl ⟨rfl,rfl⟩⟩
theorem Buf.slice{w:World}{v:Value}{L:List Int}(h:Buf w v L):∃p cap,v=.slice p L.length cap∧L.length≤cap∧cap≤maxLen:=by
 obtain⟨p,cap,e,h1,h2,_⟩:=h;exact⟨p,cap,e,h1,h2⟩
theorem Buf.blk{w:World}{v:Value}{L:List Int}(h:Buf w v L){g:Nat}(hg:aU v=some g):∃cs,Blk w g cs 5:=by
 obtain⟨p,cap,rfl,_,_,_,⟨rfl,_⟩|⟨g',o,cs,rfl,hb,_⟩⟩:=h
 ·cases hg
 ·cases hg
  exact⟨cs,hb⟩
theorem Buf.keep{S:Nat→Prop}{w w':World}{v:Value}{L:List Int}(h:Buf w v L)(k:Keep S w w')(hs:∀g,aU v=some g→¬S g):Buf w' v L:=by
 obtain⟨p,cap,rfl,h1,h2,h3,h4⟩:=h;refine⟨p,cap,rfl,h1,h2,h3,?_⟩;rcases h4 with h4|⟨g,o,cs,rfl,hb,h5,h6⟩
 ·exact .inl h4
 ·exact .inr ⟨g,o,cs,rfl,hb.keep k (hs g rfl),h5,h6⟩
theorem Buf.bel{w w':World}{v:Value}{L:List Int}(h:Buf w v L)(k:Bel w w'):Buf w' v L:=h.keep (Keep.of_bel (λ_=>False) k) λ_ _ h=>h
theorem Buf.byt{w:World}{p:Option Addr}{n cap:Nat}{L:List Int}(h:Buf w (.slice p n cap) L):zQ w p L:=by
 obtain⟨p',cap',e,h1,h2,h3,h4⟩:=h;cases e
 refine⟨h3,λh0=>?_⟩;rcases h4 with⟨rfl,rfl⟩|⟨g,o,cs,rfl,hb,_,h6⟩
 ·omega
 ·exact⟨g,o,rfl,cs,hb,h6⟩
structure qf(w w':World)(v:Value)(e:Nat→Prop):Prop where
 keep:Keep (λq=>aU v=some q) w w'
 own:∀g,aU v=some g→∀cs t,Blk w g cs t→∃cs',Blk w' g cs' t∧cs'.length=cs.length∧∀j,e j→cs'[j]?=cs[j]?
theorem qf.bel{w w':World}{v:Value}{e:Nat→Prop}(h:Bel w w'):qf w w' v e:=⟨Keep.of_bel _ h,λ_ _ cs _ hb=>⟨cs,hb.bel h,rfl,λ_ _=>rfl⟩⟩
theorem qf.adD{w w' w'':World}{v:Value}{e:Nat→Prop}(k:Bel w w')(h:qf w' w'' v e):qf w w'' v e:=⟨(Keep.of_bel _ k).tr h.keep,λg hg cs t hb=>h.own g hg cs t (hb.bel k)⟩
def endOf:Value→Nat→Prop
 | .slice (some a) n c=>λj=>c=0∨j<a.off+n
 | _=>λ_=>False
theorem Au{α:Type}(L:List α)(o:Nat)(vs:List α)(j:Nat)(hl:o+vs.length≤L.length)(h:j<o∨o+vs.length≤j):(splice L o vs)[j]?=L[j]?:=by
 unfold splice;rcases h with h|h
 ·rw[List.getElem?_append_left (by rw[List.length_take];omega),List.getElem?_take_of_lt h]
 ·rw[List.getElem?_append_right (by rw[List.length_take];omega),List.length_take,Nat.min_eq_left (by omega),List.getElem?_append_right (by omega),List.getElem?_drop]
  congr 1
  omega
section
variable {P:Program} {w:World}
theorem qC(t tx ty:TypeId)(i:TypeInfo)(z:Value)(ht:P.underlying t=some (.slice 5))(hi:P.info? 5=some i)(hz:i.zero=some z)(hs:i.size=1)(hb:i.bytes=1)(hzc:z.cells = #[.int .u8 0])
 (v x:Value)(L M:List Int)(hv:Buf w v L)(hM:∀y∈M,iR y)(hx:Src P 1 tx x M.length (M.map (Value.int .u8)) w)(hlen:L.length+M.length≤100000000) :
 ∃v' w',(Builtin.append_ #[t,tx] ty #[v,x]).run P w=.ok v' w'∧Buf w' v' (L++M)∧qf w w' v (endOf v)∧(∀g,aU v'=some g→aU v=some g∨w.heap.size≤g)∧(∀p,v=.slice p L.length L.length→Bel w w')∧(∀g,aU v'=some g→aU v=some g→∀j,endOf v j→endOf v' j):=by
 obtain⟨p,cap,rfl,h1,h2,h3,h4⟩:=hv;have hby:∀y∈L++M,iR y:=λy hy=>(List.mem_append.1 hy).elim (h3 y) (hM y);by_cases hroom:L.length+M.length≤cap
 ·rcases h4 with⟨rfl,rfl⟩|⟨g,o,cs,rfl,hbk,h5,h6⟩
  ·have hL:L=[]:=List.eq_nil_of_length_eq_zero (by omega)
   have hM0:M=[]:=List.eq_nil_of_length_eq_zero (by omega);subst hL hM0;have hcl:=hx.cells;rw[List.length_nil]at hcl;have hk:=hx.kind;have hle:=hx.len;simp only[List.length_nil]at hle
   refine⟨.slice none 0 0,w,?_,Buf.nil w,qf.bel (Bel.refl w),λg hg=>(by cases hg),λ_ _=>Bel.refl w,λg hg=>(by cases hg)⟩;rcases hk with⟨e',hk⟩|hk<;>simp[Builtin.append_,run_underlying ht,run_underlying hk,sizeOf,typeInfo,hi,hs,hle,hcl]
  ·have hr:=run_append_room_src (P:=P) w t tx ty 5 i ht hi g o L.length cap x M.length (M.map (Value.int .u8)) (by rw[hs];exact hx) hroom (λj hj=>by
    rw[jE]at hj;rw[hs,Nat.mul_one,hbk.cell,bT (by omega)];rfl) (λj hj=>hbk.frozen _)
   rw[hs,Nat.mul_one]at hr;have hfit:(o+L.length)+(M.map (Value.int .u8)).length≤cs.length:=by rw[jE];omega
   refine⟨_,_,hr,⟨some ⟨g,o,none⟩,cap,by rw[List.length_append],by rw[List.length_append];exact hroom,h2,hby,.inr ⟨g,o,_,rfl,hbk.setCells (o+L.length) _ hfit,by rw[length_splice _ _ _ hfit];exact h5,λi' y hy=>?_⟩⟩,⟨Keep.mono (Keep.setCells w g _ _) λq hq=>by rw[show q=g from hq];rfl,λg' hg' cs' t' hb'=>?_⟩,λg' hg'=>.inl hg',λp' hp'=>?_,λg' _ _ j hj=>?_⟩
   rotate_right
   ·have hj:cap=0∨j<o+L.length:=hj
    show cap=0∨j<o+(L.length+M.length)
    omega
   rotate_right
   ·have hM0:M=[]:=List.eq_nil_of_length_eq_zero (by cases hp';omega)
    subst hM0;exact Bel.refl w
   ·by_cases hlt:i'<L.length
    ·rw[Au _ _ _ _ hfit (.inl (by omega))]
     rw[List.getElem?_append_left hlt]at hy;exact h6 i' y hy
    ·rw[List.getElem?_append_right (by omega)]at hy
     have hlt2:=(bV hy).1;rw[show o+i'=(o+L.length)+(i'-L.length)from by omega];unfold splice;rw[List.getElem?_append_right (by rw[List.length_take];omega),List.length_take,Nat.min_eq_left (by omega),List.getElem?_append_left (by rw[jE];omega),show o+L.length+(i'-L.length)-(o+L.length)=i'-L.length from by omega,fA,hy];rfl
   ·cases hg'
    unfold Blk at hbk hb';rw[hbk]at hb'
    injection hb' with hb'
    injection hb' with e1 e2
    have e1:cs=cs':=by simpa using e1
    subst e1 e2;exact⟨_,(show Blk w g cs 5 from hbk).setCells (o+L.length) _ hfit,length_splice _ _ _ hfit,λj hj=>Au _ _ _ _ hfit (by
     have hj:cap=0∨j<o+L.length:=hj;rcases hj with hj|hj
     ·rw[jE];omega
     ·exact .inl hj)⟩
 ·have hold:(Builtin.firstCells i.size L.length (.slice p L.length cap)).run P w.drew=.ok (L.map (Value.int .u8)).toArray w.drew:=by
   rw[hs];rcases h4 with⟨rfl,rfl⟩|⟨g,o,cs,rfl,hbk,h5,h6⟩
   ·have hL:L=[]:=List.eq_nil_of_length_eq_zero (by omega)
    subst hL;exact run_firstCells_none (P:=P) w.drew 1 0 0 0
   ·refine run_firstCells_some (P:=P) w.drew 1 L.length ⟨g,o,none⟩ L.length cap (L.map (Value.int .u8)) (by simp) λj u hj=>?_
    rw[fA]at hj;obtain⟨y,hy,rfl⟩:=Option.map_eq_some_iff.1 hj;rw[Addr.add_lit];show w.cell? _=_
    rw[hbk.cell];exact h6 j y hy
  have hg:cap<L.length+M.length:=by omega
  have hr:=run_append_grow_src (P:=P) w t tx ty 5 i z ht hi hz p L.length cap (L.map (Value.int .u8)) hold x M.length (M.map (Value.int .u8)) (by rw[hs];exact hx) hg (by omega) (by rw[hb];exact growslice_fits (bytes:=1) hg (by omega));rw[hzc,lK]at hr;have hge:=grownCap_ge w (L.length+M.length) cap 5;have hb2:Bel w (w.drew.alloc (.cells ((L.map (Value.int .u8)++M.map (Value.int .u8)).toArray++(List.replicate (grownCap w (L.length+M.length) cap 5-(L.length+M.length)) (Value.int .u8 0)).toArray) 5)):=(Bel.drew (Bel.refl w)).tr (Bel.start _ _);refine⟨_,_,hr,⟨_,grownCap w (L.length+M.length) cap 5,by rw[List.length_append],by rw[List.length_append];exact hge,grownCap_le_maxLen w _ _ _ (by unfold maxLen;omega),hby,.inr ⟨w.heap.size,0,(L.map (Value.int .u8)++M.map (Value.int .u8))++List.replicate (grownCap w (L.length+M.length) cap 5-(L.length+M.length)) (Value.int .u8 0),rfl,?_,by simp;omega,λi' y hy=>?_⟩⟩,qf.bel hb2,λg' hg'=>.inr (by cases hg';exact bM _),λ_ _=>hb2,λg' hg' hg2=>?_⟩
  ·have h:=Blk.new w.drew ((L.map (Value.int .u8)++M.map (Value.int .u8))++List.replicate (grownCap w (L.length+M.length) cap 5-(L.length+M.length)) (Value.int .u8 0)) 5
   rw[←List.append_toArray]at h;exact h
  ·rw[Nat.zero_add,←List.map_append,List.getElem?_append_left (by rw[jE];exact(bV hy).1),fA,hy]
   rfl
  ·rcases h4 with⟨rfl,_⟩|⟨g,o,cs,rfl,hbk,_⟩
   ·cases hg2
   ·have hl:=hbk.lt
    have e1:w.heap.size=g':=by injection hg'
    have e2:g=g':=by injection hg2
    omega
theorem qY(t tx ty:TypeId)(i:TypeInfo)(z:Value)(ht:P.underlying t=some (.slice 5))(hi:P.info? 5=some i)(hz:i.zero=some z)(hs:i.size=1)(hb:i.bytes=1)(hzc:z.cells = #[.int .u8 0])
 (v x:Value)(L M:List Int)(hv:Buf w v L)(hM:∀y∈M,iR y)(hx:Src P 1 tx x M.length (M.map (Value.int .u8)) w)(hlen:L.length+M.length≤100000000) :
 ∃v' w',(Builtin.append_ #[t,tx] ty #[v,x]).run P w=.ok v' w'∧Buf w' v' (L++M)∧qf w w' v (endOf v)∧(∀g,aU v'=some g→aU v=some g∨w.heap.size≤g)∧(∀p,v=.slice p L.length L.length→Bel w w'):=
 have⟨v',w',h1,h2,h3,h4,h5,_⟩:=qC t tx ty i z ht hi hz hs hb hzc v x L M hv hM hx hlen
 ⟨v',w',h1,h2,h3,h4,h5⟩
theorem vZ{ops:Array Oper}{rest:List Oper}{o:Oper}{a:Act}{Q:Exit→Act→World→Prop}(hgd:o.guard=none)(s x:Operand)(t tx:TypeId)
 (ho:o.op=.call {callee:=.builtin .append,args:= #[s,x],argTypes:= #[t,tx]})(i:TypeInfo)(z:Value)(ht:P.underlying t=some (.slice 5))(hi:P.info? 5=some i)(hz:i.zero=some z)(hs:i.size=1)(hb:i.bytes=1)(hzc:z.cells = #[.int .u8 0])
 (v xv:Value)(L M:List Int)(hsv:a.eval s=v)(hxv:a.eval x=xv)(hv:Buf w v L)(hM:∀y∈M,iR y)(hx:Src P 1 tx xv M.length (M.map (Value.int .u8)) w)(hlen:L.length+M.length≤100000000)
 (h:∀v' w',Buf w' v' (L++M)→qf w w' v (endOf v)→(∀g,aU v'=some g→aU v=some g∨w.heap.size≤g)→(∀p,v=.slice p L.length L.length→Bel w w')→wpList P ops Q rest (a.put o.dst v') w'):wpList P ops Q (o::rest) a w:=by
 refine wpList_plain hgd λK hK'=>?_;obtain⟨v',w',hrun,h1,h2,h3,h4⟩:=qY (P:=P) (w:=w) t tx o.type i z ht hi hz hs hb hzc v xv L M hv hM hx hlen;unfold Oper.wp;simp[execOp,ho,resolve,invoke,builtin,hsv,hxv,hrun,Result.andThen]
 exact hK' _ _ (h v' w' h1 h2 h3 h4)
theorem zF{ops:Array Oper}{o:Oper}{a:Act}{K:Act→World→Prop}{Q:Exit→Act→World→Prop}{E:Prop}(hgd:o.guard=none)(s x:Operand)(t tx:TypeId)
 (ho:o.op=.call {callee:=.builtin .append,args:= #[s,x],argTypes:= #[t,tx]})(i:TypeInfo)(z:Value)(ht:P.underlying t=some (.slice 5))(hi:P.info? 5=some i)(hz:i.zero=some z)(hs:i.size=1)(hb:i.bytes=1)(hzc:z.cells = #[.int .u8 0])
 (v xv:Value)(L M:List Int)(hsv:a.eval s=v)(hxv:a.eval x=xv)(hv:Buf w v L)(hM:∀y∈M,iR y)(hx:Src P 1 tx xv M.length (M.map (Value.int .u8)) w)(hlen:L.length+M.length≤100000000)
 (h:∀v' w',Buf w' v' (L++M)→qf w w' v (endOf v)→(∀g,aU v'=some g→aU v=some g∨w.heap.size≤g)→(∀p,v=.slice p L.length L.length→Bel w w')→K (a.put o.dst v') w'):if Region.wanted o (yielded ops a.tmps)=true then Oper.wp P o a w K Q else E:=by
 have hw:Region.wanted o (yielded ops a.tmps)=true:=by simp[Region.wanted,hgd]
 rw[if_pos hw];obtain⟨v',w',hrun,h1,h2,h3,h4⟩:=qY (P:=P) (w:=w) t tx o.type i z ht hi hz hs hb hzc v xv L M hv hM hx hlen;unfold Oper.wp;simp[execOp,ho,resolve,invoke,builtin,hsv,hxv,hrun,Result.andThen]
 exact h v' w' h1 h2 h3 h4
theorem Zi{tx:TypeId}(hk:P.underlying tx=some (.slice 5)){p:Option Addr}{M:List Int}{cap:Nat}(h:zQ w p M):Src P 1 tx (.slice p M.length cap) M.length (M.map (Value.int .u8)) w:=by
 by_cases h0:0<M.length
 ·obtain⟨g,o,rfl,cs,hb,hc⟩:=h.2 h0
  refine Src.ofSlice w hk ⟨g,o,none⟩ M.length cap _ (by simp) (λj u hj=>?_) λu hu=>?_
  ·rw[fA]at hj
   obtain⟨y,hy,rfl⟩:=Option.map_eq_some_iff.1 hj;rw[Addr.add_lit,hb.cell];exact hc j y hy
  ·obtain⟨y,_,rfl⟩:=List.mem_map.1 hu
   rfl
 ·have hM:M=[]:=List.eq_nil_of_length_eq_zero (by omega)
  subst hM;refine⟨.inl ⟨_,hk⟩,λ_=>rfl,?_,?_,by simp,λ_ h=>(by cases h)⟩
  ·cases p with
   | none=>exact run_firstCells_none (P:=P) w 1 0 0 cap
   | some a=>exact run_firstCells_some (P:=P) w 1 0 a 0 cap [] (by simp) λ_ _ h=>(by simp at h)
  ·cases p with
   | none=>exact run_firstCells_none (P:=P) w.drew 1 0 0 cap
   | some a=>exact run_firstCells_some (P:=P) w.drew 1 0 a 0 cap [] (by simp) λ_ _ h=>(by simp at h)
end
theorem Qy:(prog.info? 5).map (λi=>(i.size,i.bytes,i.zero))=some (1,1,some (.int .u8 0)):=by kernel_rfl
theorem FX:∃i,prog.info? 5=some i∧i.size=1∧i.bytes=1∧i.zero=some (.int .u8 0):=by
 have h:=Qy;cases hi:prog.info? 5 with
 | none=>rw[hi]at h;cases h
 | some i=>
   rw[hi]at h;simp only[Option.map_some,Option.some.injEq,Prod.mk.injEq]at h
   exact⟨i,rfl,h.1,h.2.1,h.2.2⟩
end
end Go.Proofs.YtcnjjchlebmfiaaGreatDoor
