/- Plain arithmetic on bytes; no program. -/
import Derived.WalkKit
import Derived.Lib.EndianBits
import Derived.Test.YtjdaddmjpicflaaGreatDoorP00
import Derived.Test.YtjdaddmjpicflaaGreatDoorProg
import Derived.Deep.QuietTactic
import Derived.BigQuiet
import Derived.Lib.Hide
import Derived.Test.YtjdaddmjpicflaaGreatDoorP01
import Derived.Deep.MidRow
import Derived.Shelf.SlIterI.Nil
import Derived.Shelf.SortM.Plain
import Derived.Shelf.SortM.SortNone
import Derived.Ground.GgzProg
import Derived.Ground.SlgmProg
import Derived.WalkLawsBesides
set_option linter.unusedVariables false
set_option linter.unusedSimpArgs false
set_option maxRecDepth 100000
set_option maxHeartbeats 16000000
namespace Go.Proofs.YtjdaddmjpicflaaGreatDoor
open Go.RowKit
theorem wrap_i16 (n:Int):IntKind.i16.wrap n=(n+32768)%65536-32768:=by
 simp[IntKind.wrap,IntKind.bits,IntKind.signed]
 split<;>omega
theorem ofInt_congr {k:Nat} (m n:Int) (h:m%((2^k:Nat):Int)=n%((2^k:Nat):Int)):BitVec.ofInt k m=BitVec.ofInt k n:=by
 apply BitVec.eq_of_toNat_eq
 rw[BitVec.toNat_ofInt,BitVec.toNat_ofInt,h]
theorem i16_join (x y:Int) (h0:0≤x) (h1:x≤255) (h2:0≤y) (h3:y≤255):bits .or .i16 x (IntKind.i16.wrap (y*256))=IntKind.i16.wrap (x+y*256):=by
 obtain⟨a,rfl⟩:=Int.eq_ofNat_of_zero_le h0
 obtain⟨b,rfl⟩:=Int.eq_ofNat_of_zero_le h2
 have hb16:2^IntKind.i16.bits=65536:=rfl
 have e:BitVec.ofInt IntKind.i16.bits (IntKind.i16.wrap ((b:Int)*256))=BitVec.ofInt IntKind.i16.bits (((b*256:Nat)):Int):=by
  apply ofInt_congr
  rw[wrap_i16,hb16]
  omega
 have ha:a<2^8:=by omega
 have hj:=Nat.two_pow_add_eq_or_of_lt ha b
 show IntKind.i16.wrap (((BitVec.ofInt IntKind.i16.bits (a:Int) ||| BitVec.ofInt IntKind.i16.bits (IntKind.i16.wrap ((b:Int)*256))).toNat:Nat):Int)=_
 rw[e]
 rw[BitVec.ofInt_natCast,BitVec.ofInt_natCast,BitVec.toNat_or,BitVec.toNat_ofNat,BitVec.toNat_ofNat,hb16]
 rw[Nat.mod_eq_of_lt (by omega:a<65536),Nat.mod_eq_of_lt (by omega:b*256<65536),Nat.or_comm,Nat.mul_comm b 256,show(256:Nat)=2^8 from rfl,←hj]
 exact congrArg IntKind.i16.wrap (by omega)
structure Bts (w:World) (b o:Nat) (l:List Int):Prop where
 cell:∀i,i<l.length→w.cell? ⟨b,o+i,none⟩=(l[i]?).map (Value.int .u8)
 byte:∀x∈l,0≤x∧x≤255
theorem Bts.at_ {w:World} {b o:Nat} {l:List Int} (h:Bts w b o l) (i:Nat) (hi:i<l.length):w.cell? ⟨b,o+i,none⟩=some (.int .u8 (l.getD i 0)):=by
 rw[h.cell i hi,List.getElem?_eq_getElem hi,List.getD_eq_getElem?_getD,List.getElem?_eq_getElem hi];rfl
theorem Bts.byteAt {w:World} {b o:Nat} {l:List Int} (h:Bts w b o l) (i:Nat) (hi:i<l.length):0≤l.getD i 0∧l.getD i 0≤255:=by
 rw[List.getD_eq_getElem?_getD,List.getElem?_eq_getElem hi];exact h.byte _ (List.getElem_mem hi)
theorem Bts.part {w:World} {b o:Nat} {l:List Int} (h:Bts w b o l) (k n:Nat) (hn:k+n≤l.length):Bts w b (o+k) ((l.drop k).take n) where
 cell i hi:=by
  simp only[List.length_take,List.length_drop]at hi
  rw[show o+k+i=o+(k+i)from by omega,h.cell (k+i) (by omega),List.getElem?_take,List.getElem?_drop]
  simp[show i<n from by omega]
 byte x hx:=h.byte x (List.mem_of_mem_drop (List.mem_of_mem_take hx))
theorem Bts.of_cell {w w':World} {b o:Nat} {l:List Int} (h:Bts w b o l) (hc:∀a,a.block=b→w'.cell? a=w.cell? a):Bts w' b o l:=
 ⟨λi hi=>(hc _ rfl).trans (h.cell i hi),h.byte⟩
def numV:List Int→Int
 | []=>0
 | x::r=>x+256*numV r
theorem numV_step (l:List Int) (i:Nat) (hi:i<l.length):numV (l.drop i)=l.getD i 0+256*numV (l.drop (i+1)):=by
 rw[List.drop_eq_getElem_cons hi,numV,List.getD_eq_getElem?_getD,List.getElem?_eq_getElem hi];rfl
theorem numV_bound:∀(l:List Int),(∀x∈l,0≤x∧x≤255)→0≤numV l∧numV l<256^l.length
 | [],_=>by simp[numV]
 | x::r,h=>by
   have h1:=numV_bound r λy hy=>h y (List.mem_cons_of_mem _ hy)
   have h2:=h x List.mem_cons_self
   simp only[numV,List.length_cons,Int.pow_succ]
   omega
theorem pow_le_8:∀(n:Nat),n≤7→(256:Int)^n≤72057594037927936
 | 0,_=>by decide
 | 1,_=>by decide
 | 2,_=>by decide
 | 3,_=>by decide
 | 4,_=>by decide
 | 5,_=>by decide
 | 6,_=>by decide
 | 7,_=>by decide
 | n+8,h=>by omega
theorem numV_small (l:List Int) (h:∀x∈l,0≤x∧x≤255) (hl:l.length≤7):0≤numV l∧numV l<72057594037927936:=by
 have:=numV_bound l h
 have:=pow_le_8 l.length hl
 omega
theorem numV_u64 (l:List Int) (h:∀x∈l,0≤x∧x≤255) (hl:l.length≤8):0≤numV l∧numV l<18446744073709551616:=by
 have h1:=numV_bound l h
 by_cases h8:l.length=8
 ·rw[h8]at h1
  omega
 ·have:=pow_le_8 l.length (by omega)
  omega
theorem or_byte (n x:Int) (hn:0≤n) (hn1:n<72057594037927936) (hx:0≤x) (hx1:x≤255):bits .or .u64 (n*256) x=n*256+x:=
 bits_join .u64 64 (by decide) (λn h0 h1=>by rw[IntKind.wrap_u64];omega) 8 (n*256) x (by omega) (by omega) (by omega) hx (by omega) (by omega)
theorem number_any (b o c:Nat) (l:List Int) (w:World) (hl:l.length≤8) (h:Bts w b o l) :
 Calls Tryz.prog 113 #[.slice (some ⟨b,o,none⟩) l.length c] w λe w'=>e=.returned (.int .u64 (numV l))∧w=w':=by
 go_enter Tryz.func113,Tryz.ntmps113
 go_wp2
 go_loop [3,4] (λn i=>∃k:Nat,k≤l.length∧i=.int .i64 k∧n=.int .u64 (numV (l.drop k))) (λ_ i=>(intOf i).toNat)
 case atStart=>exact⟨l.length,Nat.le_refl _,rfl,by simp[numV]⟩
 case round=>
  obtain⟨k,hk,rfl,rfl⟩:=hrel
  cases k with
  | zero=>
    go_wp2
    go_ret
    exact⟨rfl,rfl⟩
  | succ k=>
    have hs:=xh (numV_step l k hk)
    have hc:=h.at_ k hk
    have hx:=h.byteAt k hk
    have hn:=numV_small (l.drop (k+1)) (λx hx=>h.byte x (List.mem_of_mem_drop hx)) (by simp;omega)
    have hor:=or_byte _ _ hn.1 hn.2 hx.1 hx.2
    have hx0:=hx.1
    have hx1:=hx.2
    have hn0:=hn.1
    have hn1:=hn.2
    clear hx hn
    generalize l.getD k 0=x at *
    generalize hy:numV (l.drop (k+1))=y at *
    have HY:=xh hy
    clear hy
    go_wp2
    go_round
    case rel=>exact⟨k,by omega,by go_num,by rw[hs.out];congr 1;omega⟩
    case measure=>simp[intOf]<;>omega
theorem numberR_any (b o c:Nat) (l:List Int) (w:World) (hl:l.length≤8) (h:Bts w b o l) :
 Calls Tryz.prog 98 #[.slice (some ⟨b,o,none⟩) l.length c] w λe w'=>e=.returned (.int .u64 (numV l))∧w=w':=by
 go_enter Tryz.func98,Tryz.ntmps98
 go_wp2
 go_loop [3,4] (λn i=>∃k:Nat,k≤l.length∧i=.int .i64 ((k:Int)-1)∧n=.int .u64 (numV (l.drop k))) (λ_ i=>(intOf i+1).toNat)
 case atStart=>exact⟨l.length,Nat.le_refl _,rfl,by simp[numV]⟩
 case round=>
  obtain⟨k,hk,rfl,rfl⟩:=hrel
  cases k with
  | zero=>
    go_wp2
    go_ret
    exact⟨rfl,rfl⟩
  | succ k=>
    have hs:=xh (numV_step l k hk)
    have hc:=h.at_ k hk
    have hx:=h.byteAt k hk
    have hn:=numV_small (l.drop (k+1)) (λx hx=>h.byte x (List.mem_of_mem_drop hx)) (by simp;omega)
    have hx0:=hx.1
    have hx1:=hx.2
    have hn0:=hn.1
    have hn1:=hn.2
    clear hx hn
    generalize l.getD k 0=x at *
    rw[show(((k+1:Nat):Int)-1)=(k:Int)from by omega]
    generalize hy:numV (l.drop (k+1))=y at *
    have HY:=xh hy
    clear hy
    go_wp2
    go_round
    case rel=>exact⟨k,by omega,by go_num,by rw[hs.out];congr 1;omega⟩
    case measure=>simp[intOf]<;>omega
def bytes8 (n:Int):List Int:=[n%256,n/256%256,n/65536%256,n/16777216%256,n/4294967296%256,n/1099511627776%256,n/281474976710656%256,n/72057594037927936]
def rowOf (f:Nat→Int) (N:Nat):List Value:=(List.range N).map λi=>Value.int .u8 (f i)
def setF (f:Nat→Int) (i:Nat) (x:Int):Nat→Int:=λj=>if j=i then x else f j
def putF (f:Nat→Int) (o:Nat) (n:Int):Nat→Int:=
 setF (setF (setF (setF (setF (setF (setF (setF f o (n%256)) (o+1) (n/256%256)) (o+2) (n/65536%256)) (o+3) (n/16777216%256)) (o+4) (n/4294967296%256)) (o+5) (n/1099511627776%256)) (o+6) (n/281474976710656%256)) (o+7) (n/72057594037927936)
theorem rowOf_set (f:Nat→Int) (N i:Nat) (x:Int):(rowOf f N).set i (.int .u8 x)=rowOf (setF f i x) N:=by
 apply List.ext_getElem?
 intro k
 simp only[rowOf,List.getElem?_set,List.getElem?_map,List.length_map,List.length_range,setF]
 by_cases hk:k<N
 ·rw[List.getElem?_range hk]
  by_cases hi:i=k
  ·subst hi;simp[hk]
  ·simp[hi,Ne.symm hi]
 ·rw[List.getElem?_eq_none (by simp;omega)]
  by_cases hi:i=k
  ·subst hi;simp[hk]
  ·simp[hi]
theorem rowOf_length (f:Nat→Int) (N:Nat):(rowOf f N).length=N:=by simp[rowOf]
theorem rowOf_get (f:Nat→Int) (N i:Nat) (h:i<N):(rowOf f N)[i]?=some (.int .u8 (f i)):=by simp[rowOf,h]
theorem Blk.row_set {w:World} {g N:Nat} {f:Nat→Int} {t:TypeId} (h:Blk w g (rowOf f N) t) (i:Nat) (x:Int):Blk (w.setCell ⟨g,i,none⟩ (.int .u8 x)) g (rowOf (setF f i x) N) t:=by
 rw[←rowOf_set];exact h.setCell _
theorem Keep.setCell (w:World) (g i:Nat) (v:Value):Keep (λk=>k=g) w (w.setCell ⟨g,i,none⟩ v):=
 ⟨rfl,rfl,rfl,by simp,λk _ hk=>Below.heap_setCell w ⟨g,i,none⟩ v k hk⟩
theorem put_any (g o N:Nat) (f:Nat→Int) (t:TypeId) (cap:Nat) (n:Int) (w:World) (hB:Blk w g (rowOf f N) t) (ho:o+8≤N) (hN:N<100000) (hcap:8≤cap) (hn:0≤n) (hn1:n<18446744073709551616) :
 Calls Tryz.prog 118 #[.slice (some ⟨g,o,none⟩) 8 cap,.int .u64 n] w λe w'=>e=.returned (.tuple #[])∧Blk w' g (rowOf (putF f o n) N) t∧Keep (λk=>k=g) w w':=by
 have hc:∀i,i<8→w.cell? ⟨g,o+i,none⟩=some (.int .u8 (f (o+i))):=λi hi=>(hB.cell _).trans (rowOf_get f N _ (by omega))
 have c0:w.cell? ⟨g,o,none⟩=some (.int .u8 (f o)):=hc 0 (by omega)
 have c1:=hc 1 (by omega)
 have c2:=hc 2 (by omega)
 have c3:=hc 3 (by omega)
 have c4:=hc 4 (by omega)
 have c5:=hc 5 (by omega)
 have c6:=hc 6 (by omega)
 have c7:=hc 7 (by omega)
 have hf:=hB.frozen
 have hg:=hB.lt
 clear hc
 go_enter Tryz.func118,Tryz.ntmps118
 go_wp2
 refine wp_loop_rounds 9 ?_
 iterate 9 (rw[rounds_succ];go_wp2)
 go_end0
 exact⟨rfl,(((((((hB.row_set _ _).row_set _ _).row_set _ _).row_set _ _).row_set _ _).row_set _ _).row_set _ _).row_set _ _,
  (((((((Keep.setCell _ _ _ _).tr (Keep.setCell _ _ _ _)).tr (Keep.setCell _ _ _ _)).tr (Keep.setCell _ _ _ _)).tr (Keep.setCell _ _ _ _)).tr (Keep.setCell _ _ _ _)).tr (Keep.setCell _ _ _ _)).tr (Keep.setCell _ _ _ _)⟩
theorem putR_any (g o N:Nat) (f:Nat→Int) (t:TypeId) (cap:Nat) (n:Int) (w:World) (hB:Blk w g (rowOf f N) t) (ho:o+8≤N) (hN:N<100000) (hn:0≤n) (hn1:n<18446744073709551616) :
 Calls Tryz.prog 123 #[.slice (some ⟨g,0,none⟩) N cap,.int .i64 o,.int .u64 n] w λe w'=>e=.returned (.tuple #[])∧Blk w' g (rowOf (putF f o n) N) t∧Keep (λk=>k=g) w w':=by
 have hc:∀i,i<8→w.cell? ⟨g,o+i,none⟩=some (.int .u8 (f (o+i))):=λi hi=>(hB.cell _).trans (rowOf_get f N _ (by omega))
 have c0:w.cell? ⟨g,o,none⟩=some (.int .u8 (f o)):=hc 0 (by omega)
 have c1:=hc 1 (by omega)
 have c2:=hc 2 (by omega)
 have c3:=hc 3 (by omega)
 have c4:=hc 4 (by omega)
 have c5:=hc 5 (by omega)
 have c6:=hc 6 (by omega)
 have c7:=hc 7 (by omega)
 have hf:=hB.frozen
 have hg:=hB.lt
 clear hc
 go_enter Tryz.func123,Tryz.ntmps123
 go_wp2
 refine wp_loop_rounds 9 ?_
 iterate 9 (rw[rounds_succ];go_wp2)
 go_end0
 exact⟨rfl,(((((((hB.row_set _ _).row_set _ _).row_set _ _).row_set _ _).row_set _ _).row_set _ _).row_set _ _).row_set _ _,
  (((((((Keep.setCell _ _ _ _).tr (Keep.setCell _ _ _ _)).tr (Keep.setCell _ _ _ _)).tr (Keep.setCell _ _ _ _)).tr (Keep.setCell _ _ _ _)).tr (Keep.setCell _ _ _ _)).tr (Keep.setCell _ _ _ _)).tr (Keep.setCell _ _ _ _)⟩
end Go.Proofs.YtjdaddmjpicflaaGreatDoor
namespace Go.Proofs.YtjdaddmjpicflaaGreatDoor
open Go.RowKit Go.Maps
def IsByte (b:Int):Prop:=0≤b∧b≤255
structure Pg where
 perm:Int
 bytes:List Int
structure Pg.wf (p:Pg):Prop where
 len:p.bytes.length=256
 byte:∀x∈p.bytes,IsByte x
 perm:0≤p.perm∧p.perm≤7
def Pg.cells (p:Pg):List Value:=.int .u8 p.perm::p.bytes.map (Value.int .u8)
def Pg.v (p:Pg):Value:=.agg p.cells.toArray
def Pg.zero:Pg:=⟨0,List.replicate 256 0⟩
theorem Pg.zero_wf:Pg.zero.wf:=⟨by simp[Pg.zero],by simp[Pg.zero,IsByte],by simp[Pg.zero]⟩
noncomputable def keyI:KeyEnc Tryz.prog 3 Int:=intEnc Tryz.underlying3
theorem keyedI:Keyed Tryz.prog 3:=int_keyed Tryz.underlying3
abbrev Pages:=Nat→Option Pg
structure PagesOk (m:Pages):Prop where
 below:∀n,256≤n→m n=none
 wf:∀n p,m n=some p→p.wf
def Sp (w:World) (b:Nat) (m:Pages):Prop:=
 ∃kv,Mp keyI w b kv∧(∀n:Nat,getKv kv (n:Int)=(m n).map Pg.v)∧∀p∈kv,0≤p.1
theorem Sp.lt {w:World} {b:Nat} {m:Pages} (h:Sp w b m):b<w.heap.size:=by
 obtain⟨kv,h,_⟩:=h
 exact h.lt
theorem Sp.of_block {w w':World} {b:Nat} {m:Pages} (h:Sp w b m) (hb:w'.heap[b]?=w.heap[b]?):Sp w' b m:=by
 obtain⟨kv,h1,h2⟩:=h
 exact⟨kv,h1.of_block hb,h2⟩
theorem Sp.bel {w w':World} {b:Nat} {m:Pages} (h:Sp w b m) (hb:Bel w w'):Sp w' b m:=h.of_block (hb.block b h.lt)
theorem Sp.alloc {w:World} {b:Nat} {m:Pages} (h:Sp w b m) (o:Obj):Sp (w.alloc o) b m:=h.bel (Bel.start w o)
theorem Sp.setCell {w:World} {b:Nat} {m:Pages} {a:Addr} (h:Sp w b m) (v:Value):Sp (w.setCell a v) b m:=by
 obtain⟨kv,h1,h2⟩:=h
 exact⟨kv,h1.setCell v,h2⟩
theorem zeroPage (w:World):(zeroValue 202).run Tryz.prog w=.ok Pg.zero.v w:=by
 have:Pg.zero.v=.agg (.int .u8 0::(List.replicate 256 (Value.int .u8 0))).toArray:=by simp[Pg.v,Pg.cells,Pg.zero]
 rw[this]
 exact(by kernel_rfl:(zeroValue 202).run Tryz.prog w=.ok (.agg (.int .u8 0::(List.replicate 256 (Value.int .u8 0))).toArray) w)
theorem Sp.lookup {w:World} {b:Nat} {m:Pages} (h:Sp w b m) (n:Nat) (hn:n<9223372036854775808) :
 (Instr.lookup 113 (.map (some b)) (.int .i64 n) false).run Tryz.prog w=.ok ((m n).getD Pg.zero).v w:=by
 obtain⟨kv,h1,h2,_⟩:=h
 have:=h1.lookup keyedI Tryz.underlying113 (n:Int) (WalkArith.wf_i64 (by omega)) false (zeroPage w)
 simp only[Bool.false_eq_true,if_false]at this
 rw[h2 n]at this
 rw[show Value.int .i64 (n:Int)=(keyI).kf (n:Int)from rfl,this]
 cases m n<;>rfl
theorem field_perm (p:Pg) (w:World):(Instr.field 202 p.v 0).run Tryz.prog w=.ok (.int .u8 p.perm) w:=by
 kernel_rfl
def Pg.can (p:Pg) (perm:Int):Bool:=!(bits .and .u8 p.perm perm==0)
def canAt (m:Pages) (n:Nat) (perm:Int):Bool:=((m n).getD Pg.zero).can perm
def mayAll (m:Pages) (perm:Int) (first last:Nat):Bool:=(List.range (last-first)).all λi=>canAt m (first+i) perm
def lastOf (a n:Int):Nat:=((a+n+255)/256).toNat
def mayB (m:Pages) (a n perm:Int):Bool:=
 if n=0 then true else if n<0∨65536≤a∨65536-a<n then false else mayAll m perm (a/256).toNat (lastOf a n)
theorem mayAll_snoc (m:Pages) (perm:Int) (f l:Nat) (h:f≤l):mayAll m perm f (l+1)=(mayAll m perm f l&&canAt m l perm):=by
 unfold mayAll
 rw[show l+1-f=(l-f)+1 from by omega,List.range_succ,List.all_append]
 simp[show f+(l-f)=l from by omega]
theorem mayAll_false (m:Pages) (perm:Int) (f l k:Nat) (h1:f≤k) (h2:k<l) (hk:canAt m k perm=false):mayAll m perm f l=false:=by
 unfold mayAll
 rw[List.all_eq_false]
 refine⟨k-f,by simp;omega,?_⟩
 simp[show f+(k-f)=k from by omega,hk]
theorem may_any (b:Nat) (m:Pages) (a n perm:Int) (w:World) (hs:Sp w b m) (ha:0≤a) (ha1:a<18446744073709551616) (hn : -9223372036854775808≤n) (hn1:n<9223372036854775808) :
 Calls Tryz.prog 114 #[.map (some b),.int .u64 a,.int .i64 n,.int .u8 perm] w λe w'=>e=.returned (.bool (mayB m a n perm))∧w=w':=by
 by_cases h0:n=0
 ·subst h0
  go_enter Tryz.func114,Tryz.ntmps114
  go_wp2
  go_ret
  exact⟨by simp[mayB],rfl⟩
 have g0:(n==0)=false:=by simpa using h0
 by_cases h1:n<0∨65536≤a∨65536-a<n
 ·have hr:mayB m a n perm=false:=by simp[mayB,h0,h1]
  have HR:=xh hr
  clear hr
  by_cases h2:n<0
  ·clear h1 h0
   go_enter Tryz.func114,Tryz.ntmps114
   go_wp2
   go_ret
   exact⟨by rw[HR.out];try rfl,rfl⟩
  ·have h3:0≤n:=by omega
   by_cases h4:65536≤a
   ·clear h1 h0 h2
    go_enter Tryz.func114,Tryz.ntmps114
    go_wp2
    go_ret
    exact⟨by rw[HR.out];try rfl,rfl⟩
   ·have h5:a<65536:=by omega
    have h6:65536-a<n:=by omega
    clear h1 h0 h2 h4
    go_enter Tryz.func114,Tryz.ntmps114
    go_wp2
    go_ret
    exact⟨by rw[HR.out];try rfl,rfl⟩
 ·have h2:0<n:=by omega
  have h3:a<65536:=by omega
  have h4:n≤65536-a:=by omega
  have hr:mayB m a n perm=mayAll m perm (a/256).toNat (lastOf a n):=by simp[mayB,h0,h1]
  have HR:=xh hr
  clear hr h1 h0 hn hn1 ha1
  go_enter Tryz.func114,Tryz.ntmps114
  go_wp2
  go_loop [9] (λp=>∃k:Nat,(a/256).toNat≤k∧k≤lastOf a n∧p=.int .i64 k∧mayAll m perm (a/256).toNat k=true) (λp=>lastOf a n-(intOf p).toNat)
  case atStart=>exact⟨(a/256).toNat,Nat.le_refl _,by simp only[lastOf];omega,by congr 1;omega,by simp[mayAll]⟩
  case round=>
   obtain⟨k,hk,hk1,rfl,hall⟩:=hrel
   have hl:=hs.lookup k (by simp only[lastOf]at hk1;omega)
   have hf:=field_perm ((m k).getD Pg.zero)
   have HA:=xh hall
   clear hall
   have hkb:(k:Int)≤256:=by simp only[lastOf]at hk1;omega
   by_cases hlt:(k:Int)*256<a+n
   ·have hlast:k<lastOf a n:=by simp only[lastOf];omega
    cases hc:canAt m k perm with
    | false=>
      have hres:=xh (HR.out.trans (mayAll_false m perm _ _ k hk hlast hc))
      have hb:(bits .and .u8 ((m k).getD Pg.zero).perm perm==0)=true:=by simpa [canAt,Pg.can]using hc
      clear hc
      go_wp2
      go_ret
      exact⟨by rw[hres.out];try rfl,rfl⟩
    | true=>
      have hnext:=xh ((mayAll_snoc m perm _ k hk).trans (by rw[HA.out,hc]))
      have hb:(bits .and .u8 ((m k).getD Pg.zero).perm perm==0)=false:=by simpa [canAt,Pg.can]using hc
      clear hc
      go_wp2
      go_round
      case rel=>exact⟨k+1,by omega,by omega,by go_num,hnext.out⟩
      case measure=>simp[intOf]<;>omega
   ·have hlast:lastOf a n=k:=by simp only[lastOf]at hk1⊢;omega
    have hres:=xh (HR.out.trans (by rw[hlast];exact HA.out):mayB m a n perm=true)
    clear hlast
    go_wp2
    go_ret
    exact⟨by rw[hres.out];try rfl,rfl⟩
end Go.Proofs.YtjdaddmjpicflaaGreatDoor
namespace Go.Proofs
open Go.Shelf
def Tryz.keysA_ren:Go.Shelf.Ren:=⟨λ|7=>176|10=>232|n=>n,λ|23=>113|26=>3|3=>202|28=>311|0=>0|27=>310|33=>92|4=>4|n=>n,λ|n=>n⟩
theorem Tryz.keysA:Go.Proofs.SlLaysZI.n7 Tryz.prog Tryz.keysA_ren:={
 mixed:=by kernel_rfl
 f7:=⟨Tryz.f176.name,by decide,Tryz.func176.trans (congrArg some (by kernel_rfl))⟩
 f10:=⟨Tryz.f232.name,by decide,Tryz.func232.trans (congrArg some (by kernel_rfl))⟩
 t0:=Tryz.underlying0
 a0:=Tryz.isAgg0
 z0:=Tryz.sizeOf0
 v0:=Tryz.zeroValue0
 t4:=Tryz.underlying4
 a4:=Tryz.isAgg4
 z4:=Tryz.sizeOf4
 v4:=Tryz.zeroValue4
 t23:=Tryz.underlying113
 a23:=Tryz.isAgg113
 z23:=Tryz.sizeOf113
 v23:=Tryz.zeroValue113
 t26:=Tryz.underlying3
 a26:=Tryz.isAgg3
 z26:=Tryz.sizeOf3
 v26:=Tryz.zeroValue3
 t27:=Tryz.underlying310
 a27:=Tryz.isAgg310
 z27:=Tryz.sizeOf310
 v27:=Tryz.zeroValue310
 t28:=Tryz.underlying311
 a28:=Tryz.isAgg311
 z28:=Tryz.sizeOf311
 v28:=Tryz.zeroValue311
 t33:=Tryz.underlying92
 a33:=Tryz.isAgg92
 z33:=Tryz.sizeOf92
 v33:=Tryz.zeroValue92}
def Tryz.sortedA_ren:Go.Shelf.Ren:=⟨λ|6=>143|8=>173|9=>174|11=>229|13=>231|12=>230|23=>277|24=>278|14=>268|15=>269|16=>270|17=>271|18=>272|19=>273|20=>274|21=>275|22=>276|25=>315|26=>316|27=>317|28=>318|29=>319|30=>320|31=>342|n=>n,λ|26=>3|28=>311|24=>94|0=>0|3=>3|37=>29|48=>427|50=>75|4=>4|40=>421|39=>420|45=>278|5=>5|9=>9|51=>491|55=>495|57=>516|58=>140|33=>92|n=>n,λ|n=>n⟩
theorem Tryz.sortedA:Go.Proofs.SlLaysZI.n6 Tryz.prog Tryz.sortedA_ren:={
 mixed:=by kernel_rfl
 f6:=⟨Tryz.f143.name,by decide,Tryz.func143.trans (congrArg some (by kernel_rfl))⟩
 f8:=⟨Tryz.f173.name,by decide,Tryz.func173.trans (congrArg some (by kernel_rfl))⟩
 f11:=⟨Tryz.f229.name,by decide,Tryz.func229.trans (congrArg some (by kernel_rfl))⟩
 t0:=Tryz.underlying0
 a0:=Tryz.isAgg0
 z0:=Tryz.sizeOf0
 v0:=Tryz.zeroValue0
 t24:=Tryz.underlying94
 a24:=Tryz.isAgg94
 z24:=Tryz.sizeOf94
 v24:=Tryz.zeroValue94
 t26:=Tryz.underlying3
 a26:=Tryz.isAgg3
 z26:=Tryz.sizeOf3
 v26:=Tryz.zeroValue3
 t28:=Tryz.underlying311
 a28:=Tryz.isAgg311
 z28:=Tryz.sizeOf311
 v28:=Tryz.zeroValue311
 i26:=by kernel_rfl}
def Tryz.sortA_ren:Go.Shelf.Ren:=⟨λ|5=>174|8=>231|7=>230|19=>277|20=>278|10=>268|11=>269|12=>270|13=>271|14=>272|15=>273|16=>274|17=>275|18=>276|30=>315|31=>316|32=>317|33=>318|34=>319|35=>320|40=>342|n=>n,λ|23=>94|25=>3|3=>3|32=>29|22=>94|0=>0|44=>427|46=>75|4=>4|36=>421|35=>420|41=>278|5=>5|9=>9|53=>491|57=>495|63=>516|64=>140|n=>n,λ|n=>n⟩
theorem Tryz.sortA:Go.Proofs.SlLaysM.n5 Tryz.prog Tryz.sortA_ren:={
 mixed:=by kernel_rfl
 f5:=⟨Tryz.f174.name,by decide,Tryz.func174.trans (congrArg some (by kernel_rfl))⟩
 f7:=⟨Tryz.f230.name,by decide,Tryz.func230.trans (congrArg some (by kernel_rfl))⟩
 f8:=Tryz.func231.trans (congrArg some (by kernel_rfl))
 f10:=⟨Tryz.f268.name,by decide,Tryz.func268.trans (congrArg some (by kernel_rfl))⟩
 f11:=⟨Tryz.f269.name,by decide,Tryz.func269.trans (congrArg some (by kernel_rfl))⟩
 f12:=⟨Tryz.f270.name,by decide,Tryz.func270.trans (congrArg some (by kernel_rfl))⟩
 f13:=⟨Tryz.f271.name,by decide,Tryz.func271.trans (congrArg some (by kernel_rfl))⟩
 f14:=⟨Tryz.f272.name,by decide,Tryz.func272.trans (congrArg some (by kernel_rfl))⟩
 f15:=⟨Tryz.f273.name,by decide,Tryz.func273.trans (congrArg some (by kernel_rfl))⟩
 f16:=⟨Tryz.f274.name,by decide,Tryz.func274.trans (congrArg some (by kernel_rfl))⟩
 f17:=⟨Tryz.f275.name,by decide,Tryz.func275.trans (congrArg some (by kernel_rfl))⟩
 f18:=⟨Tryz.f276.name,by decide,Tryz.func276.trans (congrArg some (by kernel_rfl))⟩
 f19:=Tryz.func277.trans (congrArg some (by kernel_rfl))
 f20:=Tryz.func278.trans (congrArg some (by kernel_rfl))
 f30:=⟨Tryz.f315.name,by decide,Tryz.func315.trans (congrArg some (by kernel_rfl))⟩
 f31:=Tryz.func316.trans (congrArg some (by kernel_rfl))
 f32:=Tryz.func317.trans (congrArg some (by kernel_rfl))
 f33:=⟨Tryz.f318.name,by decide,Tryz.func318.trans (congrArg some (by kernel_rfl))⟩
 f34:=⟨Tryz.f319.name,by decide,Tryz.func319.trans (congrArg some (by kernel_rfl))⟩
 f35:=⟨Tryz.f320.name,by decide,Tryz.func320.trans (congrArg some (by kernel_rfl))⟩
 f40:=⟨Tryz.f342.name,by decide,Tryz.func342.trans (congrArg some (by kernel_rfl))⟩
 t0:=Tryz.underlying0
 a0:=Tryz.isAgg0
 z0:=Tryz.sizeOf0
 v0:=Tryz.zeroValue0
 t3:=Tryz.underlying3
 a3:=Tryz.isAgg3
 z3:=Tryz.sizeOf3
 v3:=Tryz.zeroValue3
 t4:=Tryz.underlying4
 a4:=Tryz.isAgg4
 z4:=Tryz.sizeOf4
 v4:=Tryz.zeroValue4
 t5:=Tryz.underlying5
 a5:=Tryz.isAgg5
 z5:=Tryz.sizeOf5
 v5:=Tryz.zeroValue5
 t9:=Tryz.underlying9
 a9:=Tryz.isAgg9
 z9:=Tryz.sizeOf9
 v9:=Tryz.zeroValue9
 t22:=Tryz.underlying94
 a22:=Tryz.isAgg94
 z22:=Tryz.sizeOf94
 v22:=Tryz.zeroValue94
 t23:=Tryz.underlying94
 a23:=Tryz.isAgg94
 z23:=Tryz.sizeOf94
 v23:=Tryz.zeroValue94
 t25:=Tryz.underlying3
 a25:=Tryz.isAgg3
 z25:=Tryz.sizeOf3
 v25:=Tryz.zeroValue3
 t32:=Tryz.underlying29
 a32:=Tryz.isAgg29
 z32:=Tryz.sizeOf29
 v32:=Tryz.zeroValue29
 t35:=Tryz.underlying420
 a35:=Tryz.isAgg420
 z35:=Tryz.sizeOf420
 v35:=Tryz.zeroValue420
 t36:=Tryz.underlying421
 a36:=Tryz.isAgg421
 z36:=Tryz.sizeOf421
 v36:=Tryz.zeroValue421
 t41:=Tryz.underlying278
 a41:=Tryz.isAgg278
 z41:=Tryz.sizeOf278
 v41:=Tryz.zeroValue278
 t44:=Tryz.underlying427
 a44:=Tryz.isAgg427
 z44:=Tryz.sizeOf427
 v44:=Tryz.zeroValue427
 t46:=Tryz.underlying75
 a46:=Tryz.isAgg75
 z46:=Tryz.sizeOf75
 v46:=Tryz.zeroValue75
 t53:=Tryz.underlying491
 a53:=Tryz.isAgg491
 z53:=Tryz.sizeOf491
 v53:=Tryz.zeroValue491
 t57:=Tryz.underlying495
 a57:=Tryz.isAgg495
 z57:=Tryz.sizeOf495
 v57:=Tryz.zeroValue495
 t63:=Tryz.underlying516
 a63:=Tryz.isAgg516
 z63:=Tryz.sizeOf516
 v63:=Tryz.zeroValue516
 t64:=Tryz.underlying140
 a64:=Tryz.isAgg140
 z64:=Tryz.sizeOf140
 v64:=Tryz.zeroValue140}
end Go.Proofs
namespace Go.Proofs.YtjdaddmjpicflaaGreatDoor
open Go.RowKit Go.Maps Go.Sort Go.Shelf
def pageNums (m:Pages):List Nat:=(List.range 256).filter λn=>(m n).isSome
def R0:Value→Option (DataW Unit×List MemPlace):=λ_=>some (.nil,[])
def D0 (kv:List (Int×Value)):DataW Unit:=.map ((kv.map λp=>(Lit.int .i64 p.1,.nil)).foldr DataW.insert [])
theorem Mp.owns {w:World} {b:Nat} {kv:List (Int×Value)} (h:Mp keyI w b kv) (hl:kv.length≤maxLen):w.ownsMap Tryz.prog 3 R0 b kv.length (D0 kv):=by
 obtain⟨es,clock,h1,h2,h3,h4⟩:=h
 have hlen:es.size=kv.length:=by have:=congrArg List.length h3;simpa using this
 have hrd:∀a v,keyI.ok a→∀c,Go.WideElems.rd Tryz.prog 3 R0 ⟨.int .i64 a,v,c⟩=some (Lit.int .i64 a,.nil):=by
  intro a v ha c
  have:keyOf Tryz.prog 3 (.int .i64 a)=some (.int .i64 a):=keyI.read a ha
  simp[Go.WideElems.rd,this,R0]
 have hent:∀x∈es.toList,∃p∈kv,x.key=.int .i64 p.1:=by
  intro x hx
  have hm:(x.key,x.val)∈kv.map (λp=>(keyI.kf p.1,p.2)):=by rw[←h3];exact List.mem_map.2 ⟨x,hx,rfl⟩
  obtain⟨p,hp,e⟩:=List.mem_map.1 hm
  injection e with e1 _
  exact⟨p,hp,e1.symm⟩
 have hone:∀x∈es.toList,∀a,x.key=.int .i64 a→keyI.ok a→Go.WideElems.rd Tryz.prog 3 R0 x=some (Lit.int .i64 a,.nil):=by
  rintro⟨k,v,c⟩ _ a rfl ha
  exact hrd a v ha c
 refine⟨es,clock,h1,⟨by omega,h2,λx hx=>?_⟩,by omega,?_⟩
 ·obtain⟨p,hp,e⟩:=hent x hx
  exact⟨_,hone x hx p.1 e (h4 p hp)⟩
 ·unfold D0
  congr 2
  apply List.ext_getElem?
  intro i
  have h3i:=congrArg (·[i]?) h3
  simp only[List.getElem?_map]at h3i⊢
  cases he:es.toList[i]? with
  | none=>
    rw[he]at h3i
    cases hk:kv[i]? with
    | none=>rfl
    | some p=>rw[hk]at h3i;cases h3i
  | some x=>
    rw[he]at h3i
    cases hk:kv[i]? with
    | none=>rw[hk]at h3i;cases h3i
    | some p=>
      rw[hk]at h3i
      simp only[Option.map_some,Option.some.injEq,Prod.mk.injEq]at h3i
      have:=hone x (List.mem_of_getElem? he) p.1 h3i.1 (h4 p (List.mem_of_getElem? hk))
      simp only[Option.map_some,Go.WideElems.rg,this,Option.getD_some]
theorem D0_keys (kv:List (Int×Value)):(intKeys (D0 kv)).Perm (kv.map Prod.fst):=by
 unfold D0 intKeys
 have:=(Go.WideShapes.sorted_perm (kv.map λp=>(Lit.int .i64 p.1,(.nil:DataW Unit)))).map (λp=>Go.intOf p.1)
 refine this.trans ?_
 rw[List.map_map]
 exact List.Perm.refl _
theorem D0_size (kv:List (Int×Value)):Maps.size (D0 kv)=kv.length:=by
 unfold D0
 rw[size_eq,length_sorted,List.length_map]
theorem getKv_isSome {kv:List (Int×Value)} {a:Int}:(getKv kv a).isSome=true↔a∈kv.map Prod.fst:=by
 unfold getKv
 rw[Option.isSome_map,List.find?_isSome]
 simp only[decide_eq_true_eq,List.mem_map]
theorem Sp.keys {w:World} {b:Nat} {m:Pages} {kv:List (Int×Value)} (hm:∀n,256≤n→m n=none) (h1:Mp keyI w b kv) (h2:∀n:Nat,getKv kv (n:Int)=(m n).map Pg.v) (h3:∀p∈kv,0≤p.1) :
 (kv.map Prod.fst).Perm ((pageNums m).map λn:Nat=>(n:Int)):=by
 refine(List.perm_ext_iff_of_nodup h1.nodup ?_).2 λx=>?_
 ·refine List.Pairwise.map _ (λa b hab e=>hab (by omega)) ((List.nodup_range (n:=256)).filter _)
 ·constructor
  ·intro hx
   obtain⟨p,hp,rfl⟩:=List.mem_map.1 hx
   obtain⟨n,hn⟩:=Int.eq_ofNat_of_zero_le (h3 p hp)
   have hs:(getKv kv (n:Int)).isSome=true:=getKv_isSome.2 (hn▸hx)
   rw[h2 n,Option.isSome_map]at hs
   refine List.mem_map.2 ⟨n,?_,hn.symm⟩
   refine List.mem_filter.2 ⟨List.mem_range.2 ?_,hs⟩
   by_cases hlt:n<256
   ·exact hlt
   ·rw[hm n (by omega)]at hs;cases hs
  ·intro hx
   obtain⟨n,hn,rfl⟩:=List.mem_map.1 hx
   have hs:=(List.mem_filter.1 hn).2
   refine getKv_isSome.1 ?_
   rw[h2 n,Option.isSome_map]
   exact hs
theorem sorts (m:Nat):AnyZI.SortsIn Tryz.prog Tryz.sortedA_ren Fence.wide m:=
 ⟨λblk off cap ss W hH hblk hsz=>callsIn_wide.2 (AnyM.slices_Sort_int Tryz.sortA blk off cap ss W hH hblk hsz),
  λp cap W=>callsIn_wide.2 (AnyM.slices_Sort_int_none Tryz.sortA p cap W)⟩
theorem keys_any (mb:Option Nat) (w:World):Calls Tryz.prog 176 #[.map mb] w λe w'=>e=.returned (.func (.func 232) #[] #[.pointer (some ⟨w.heap.size,0,none⟩)])∧w'=w.alloc (.cells #[.map mb] 113):=
 (callsIn_wide (n:=5)).1 (AnyZI.keys_in Tryz.keysA Fence.wide 5 trivial rfl mb w)
theorem sorted_eq {ss:List Int} {ns:List Nat} (h:ss.Perm (ns.map λn:Nat=>(n:Int))) (hs:ns.Pairwise (·< ·)):ss.mergeSort (λx y=>decide (x≤y))=ns.map λn:Nat=>(n:Int):=by
 refine List.Perm.eq_of_pairwise (le:=λx y:Int=>decide (x≤y)=true) (λa b _ _ h1 h2=>?_) ?_ ?_ ((List.mergeSort_perm _ _).trans h)
 ·simp at h1 h2;omega
 ·exact List.pairwise_mergeSort (λa b c h1 h2=>by simp at *;omega) (λa b=>by simp;omega) _
 ·exact List.Pairwise.map _ (λa b hab=>by simp;omega) hs
theorem pageNums_sorted (m:Pages):(pageNums m).Pairwise (·< ·):=(List.pairwise_lt_range (n:=256)).filter _
theorem pageNums_length (m:Pages):(pageNums m).length≤256:=by
 have:=List.length_filter_le (λn=>(m n).isSome) (List.range 256)
 simpa [pageNums]using this
theorem sorted_any (q b:Nat) (m:Pages) (w:World) (hm:∀n,256≤n→m n=none) (hs:Sp w b m) (hq:q<w.heap.size) (hc:w.cell? ⟨q,0,none⟩=some (.map (some b))) :
 Calls Tryz.prog 143 #[.func (.func 232) #[] #[.pointer (some ⟨q,0,none⟩)]] w λe w'=>∃v,e=.returned v∧
  w'.ownsRow w.heap.size 3 1 v (pageNums m).length ((pageNums m).map λn:Nat=>Value.int .i64 n)∧Below w.heap.size w w':=by
 obtain⟨kv,h1,h2,h3⟩:=hs
 have hk:=Sp.keys hm h1 h2 h3
 have hlen:kv.length=(pageNums m).length:=by simpa using hk.length_eq
 have hle:=pageNums_length m
 have hmax:kv.length≤maxLen:=by rw[hlen];exact Nat.le_trans hle (by unfold maxLen;omega)
 have hown:=Mp.owns h1 hmax
 have hseq:SeqGives Fence.wide 2 Tryz.prog 232 #[.pointer (some ⟨q,0,none⟩)] encZ (λss=>ss.Perm (intKeys (D0 kv))) (Maps.size (D0 kv)) w:=
  AnyZI.keys_gives (ρ:=Tryz.keysA_ren) {Tryz.keysA with} Fence.wide _ trivial rfl (by omega) q b kv.length (D0 kv) _ hq hc hown
 have cS:=AnyZI.sorted_in Tryz.sortedA Fence.wide 5 trivial trivial trivial trivial rfl (by omega) (sorts _) (enters_of Tryz.func174 (by kernel_rfl) rfl) 232 #[.pointer (some ⟨q,0,none⟩)] trivial (enters_of Tryz.func232 (by kernel_rfl) rfl) _ _ (by rw[D0_size];exact hmax) (by rw[D0_size];omega) _ hseq
 refine((callsIn_wide (n:=5)).1 cS).mono ?_
 rintro e w' ⟨v,ss,rfl,hS,hrow,_,hb⟩
 have hp:ss.Perm ((pageNums m).map λn:Nat=>(n:Int)):=(hS.trans (D0_keys kv)).trans hk
 rw[sorted_eq hp (pageNums_sorted m),List.map_map,show ss.length=(pageNums m).length from by simpa using hp.length_eq]at hrow
 exact⟨v,rfl,hrow,hb⟩
theorem sorted_none (q:Nat) (w:World) (hq:q<w.heap.size) (hc:w.cell? ⟨q,0,none⟩=some (.map none)) :
 Calls Tryz.prog 143 #[.func (.func 232) #[] #[.pointer (some ⟨q,0,none⟩)]] w λe w'=>e=.returned (.slice none 0 0)∧Below w.heap.size w w':=by
 have hseq:SeqGives Fence.wide 2 Tryz.prog 232 #[.pointer (some ⟨q,0,none⟩)] encZ (λss:List Int=>ss=[]) 0 w:=
  AnyZI.keys_gives_nil (ρ:=Tryz.keysA_ren) {Tryz.keysA with} Fence.wide _ trivial rfl q _ hq hc
 have cS:=AnyZI.sorted_in Tryz.sortedA Fence.wide 5 trivial trivial trivial trivial rfl (by omega) (sorts _) (enters_of Tryz.func174 (by kernel_rfl) rfl) 232 #[.pointer (some ⟨q,0,none⟩)] trivial (enters_of Tryz.func232 (by kernel_rfl) rfl) _ 0 (Nat.zero_le _) (by omega) _ hseq
 refine((callsIn_wide (n:=5)).1 cS).mono ?_
 rintro e w' ⟨v,ss,rfl,rfl,_,hnil,hb⟩
 exact⟨by rw[hnil.2 rfl],hb⟩
end Go.Proofs.YtjdaddmjpicflaaGreatDoor
namespace Go.Proofs.YtjdaddmjpicflaaGreatDoor
open Go.RowKit
abbrev errV (n:Int):Value:=.iface 47 (.int .i64 n)
abbrev decM (b0 b1 b2 b3:Int):Value:=.agg #[.int .u8 b0,.int .i64 (b1/16),.int .i64 (b1%16),.int .i16 (IntKind.i16.wrap (b2+b3*256))]
abbrev decR (b0 b1 b2 b3:Int):Value:=.agg #[.int .i64 b0,.int .i64 (b1/16),.int .i64 (b1%16),.int .i64 (IntKind.i16.wrap (b2+b3*256))]
theorem decodeM_ok (b0 b1 b2 b3:Int) (w:World) (h0:1≤b0) (h1:b0≤24) (ha0:0≤b1) (ha1:b1≤255) (hb0:0≤b2) (hb1:b2≤255) (hi0:0≤b3) (hi1:b3≤255) :
 Calls Tryz.prog 205 #[.agg #[.int .u8 b0,.int .u8 b1,.int .u8 b2,.int .u8 b3]] w λe w'=>e=.returned (.tuple #[decM b0 b1 b2 b3,.nilIface])∧Bel w w':=by
 have g1:(b0==0)=false:=by simp;omega
 have g2:=i16_join b2 b3 hb0 hb1 hi0 hi1
 go_enter Tryz.func205,Tryz.ntmps205
 go_wp2
 refine bodyPost_ret (v:=.tuple #[decM b0 b1 b2 b3,.nilIface]) (by simp[results,Tryz.results205,go_sem,g2]) rfl ⟨rfl,?_⟩
 exact(((Below.refl _ _).alloc (Nat.le_refl _) _).alloc (by simp) _)
abbrev zeroM:Value:=.agg #[.int .u8 0,.int .i64 0,.int .i64 0,.int .i16 0]
abbrev zeroR:Value:=.agg #[.int .i64 0,.int .i64 0,.int .i64 0,.int .i64 0]
theorem decodeM_bad (b0 b1 b2 b3:Int) (w:World) (h0:0≤b0) (h1:b0≤255) (h:b0<1∨24<b0) :
 Calls Tryz.prog 205 #[.agg #[.int .u8 b0,.int .u8 b1,.int .u8 b2,.int .u8 b3]] w λe w'=>e=.returned (.tuple #[zeroM,errV 1])∧Bel w w':=by
 by_cases g1:b0=0
 ·subst g1
  clear h h0 h1
  go_enter Tryz.func205,Tryz.ntmps205
  go_wp2
  refine bodyPost_ret (v:=.tuple #[zeroM,errV 1]) (by simp[results,Tryz.results205,go_sem]) rfl ⟨rfl,?_⟩
  exact(((Below.refl _ _).alloc (Nat.le_refl _) _).alloc (by simp) _)
 ·have g2:(b0==0)=false:=by simpa using g1
  have h3:25≤b0:=by omega
  clear g1 h
  go_enter Tryz.func205,Tryz.ntmps205
  go_wp2
  refine bodyPost_ret (v:=.tuple #[zeroM,errV 1]) (by simp[results,Tryz.results205,go_sem]) rfl ⟨rfl,?_⟩
  exact(((Below.refl _ _).alloc (Nat.le_refl _) _).alloc (by simp) _)
theorem decodeR_ok (b0 b1 b2 b3:Int) (w:World) (h0:1≤b0) (h1:b0≤24) (ha0:0≤b1) (ha1:b1≤255) (hb0:0≤b2) (hb1:b2≤255) (hi0:0≤b3) (hi1:b3≤255) :
 Calls Tryz.prog 45 #[.agg #[.int .u8 b0,.int .u8 b1,.int .u8 b2,.int .u8 b3]] w λe w'=>e=.returned (.tuple #[decR b0 b1 b2 b3,.bool true])∧Bel w w':=by
 have g2:wrap64 (IntKind.i16.wrap (b2+b3*256))=IntKind.i16.wrap (b2+b3*256):=by rw[wrap_i16];exact IntWalk.wrap64_in _ (by omega)
 go_enter Tryz.func45,Tryz.ntmps45
 go_wp2
 refine bodyPost_ret (v:=.tuple #[decR b0 b1 b2 b3,.bool true]) (by simp[results,Tryz.results45,go_sem,g2]) rfl ⟨rfl,?_⟩
 exact(((Below.refl _ _).alloc (Nat.le_refl _) _).alloc (by simp) _)
theorem decodeR_bad (b0 b1 b2 b3:Int) (w:World) (h:b0<1∨24<b0) :
 Calls Tryz.prog 45 #[.agg #[.int .u8 b0,.int .u8 b1,.int .u8 b2,.int .u8 b3]] w λe w'=>e=.returned (.tuple #[zeroR,.bool false])∧Bel w w':=by
 rcases h with h|h
 all_goals
  go_enter Tryz.func45,Tryz.ntmps45
  go_wp2
  refine bodyPost_ret (v:=.tuple #[zeroR,.bool false]) (by simp[results,Tryz.results45,go_sem]) rfl ⟨rfl,?_⟩
  exact(((Below.refl _ _).alloc (Nat.le_refl _) _).alloc (by simp) _)
end Go.Proofs.YtjdaddmjpicflaaGreatDoor
