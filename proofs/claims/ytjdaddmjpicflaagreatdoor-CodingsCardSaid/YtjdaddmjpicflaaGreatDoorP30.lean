/- The document's pages: find, may, peek. -/
import Derived.Deep.DeepCutAuto
import Derived.Test.YtjdaddmjpicflaaGreatDoorP16
import Derived.Test.YtjdaddmjpicflaaGreatDoorP05
import Derived.Test.YtjdaddmjpicflaaGreatDoorP03
import Derived.Lib.Hide
import Derived.StillTailTactics
import Derived.BigQuiet
import Derived.Test.YtjdaddmjpicflaaGreatDoorP23
set_option linter.unusedVariables false
set_option linter.unusedSimpArgs false
set_option maxRecDepth 100000
set_option maxHeartbeats 16000000
namespace Go.Proofs.YtjdaddmjpicflaaGreatDoor
open Go.RowKit Go.Maps
abbrev PgsD (w:World) (pv:Value) (m:Pages):Prop:=Rd w pv (pageNums m).length (refRow m)
theorem page_get {m:Pages} (hm:PagesOk m) {k N:Nat} (hk:(pageNums m)[k]?=some N) (j:Nat) (hj:j<258):(refRow m)[k*258+j]?=(refCells N ((m N).getD Pg.zero))[j]?∧k*258+j<(refRow m).length:=by
 have hwf:∀n,((m n).getD Pg.zero).wf:=λn=>by
  cases h:m n with
  | none=>exact Pg.zero_wf
  | some p=>exact hm.wf n p h
 have hl:∀n∈pageNums m,(refCells n ((m n).getD Pg.zero)).length=258:=λn _=>by simp[refCells,(hwf n).len]
 have hlt:=(List.getElem?_eq_some_iff.1 hk).1
 refine⟨?_,?_⟩
 ·unfold refRow
  rw[flat_at _ 258 _ hl k j hj,hk]
  rfl
 ·unfold refRow
  rw[flat_length _ 258 _ hl]
  omega
theorem PgsD.page {w:World} {pv:Value} {m:Pages} (h:PgsD w pv m) (hm:PagesOk m) {k N:Nat} (hk:(pageNums m)[k]?=some N) :
 ∃g cap,pv=.slice (some ⟨g,0,none⟩) (pageNums m).length cap∧g<w.heap.size∧∀j,j<258→w.cell? ⟨g,k*258+j,none⟩=(refCells N ((m N).getD Pg.zero))[j]?:=by
 obtain⟨p,cap,rfl,hp⟩:=h
 have hlt:=(List.getElem?_eq_some_iff.1 hk).1
 obtain⟨g,rfl,h1,h2⟩:=hp (by omega)
 refine⟨g,cap,rfl,h1,λj hj=>?_⟩
 obtain⟨e1,e2⟩:=page_get hm hk j hj
 rw[h2 _ e2,e1]
theorem mem_pageNums {m:Pages} {n:Nat}:n∈pageNums m↔n<256∧(m n).isSome=true:=by
 unfold pageNums
 rw[List.mem_filter,List.mem_range]
def findF (m:Pages) (N:Nat):Int:=if N∈pageNums m then(((pageNums m).idxOf N:Nat):Int)else -1
theorem findF_some {m:Pages} {N:Nat} (h:N<256) (hs:(m N).isSome=true):∃k,findF m N=(k:Nat)∧(pageNums m)[k]?=some N:=by
 have hmem:N∈pageNums m:=mem_pageNums.2 ⟨h,hs⟩
 refine⟨(pageNums m).idxOf N,by unfold findF;rw[if_pos hmem],?_⟩
 rw[List.getElem?_eq_getElem (List.idxOf_lt_length_of_mem hmem),List.getElem_idxOf]
theorem findF_none {m:Pages} {N:Nat} (hs:m N=none):findF m N = -1:=by
 unfold findF
 rw[if_neg λh=>by have:=(mem_pageNums.1 h).2;rw[hs]at this;cases this]
theorem findD_any (pv:Value) (m:Pages) (N:Nat) (w:World) (h:PgsD w pv m) (hm:PagesOk m) (hN:N≤1000000) :
 Calls Tryz.prog 44 #[pv,.int .i64 N] w λe w'=>e=.returned (.int .i64 (findF m N))∧w=w':=by
 have hl:=pageNums_length m
 have HPG:=xh λk n (hk:(pageNums m)[k]?=some n)=>h.page hm hk
 obtain⟨p,cap,rfl,_⟩:=h
 obtain⟨l,hll⟩:∃l,l=pageNums m:=⟨_,rfl⟩
 have hF:findF m N=if N∈l then((l.idxOf N:Nat):Int)else -1:=by rw[hll];rfl
 have HF:=xh hF
 rw[←hll]at HPG hl⊢
 clear hF hll
 go_enter Tryz.func44,Tryz.ntmps44
 go_wp2_with fail
 go_loop [5] (λi=>∃k:Nat,k≤l.length∧i=.int .i64 k∧∀j,j<k→l[j]?≠some N) (λi=>l.length-(intOf i).toNat)
 case atStart=>exact⟨0,Nat.zero_le _,rfl,λj hj=>by omega⟩
 case round=>
  obtain⟨k,hk,rfl,hno⟩:=hrel
  by_cases hlt:k<l.length
  ·obtain⟨n,hn⟩:∃n,l[k]?=some n:=⟨_,List.getElem?_eq_getElem hlt⟩
   obtain⟨g,cap',e,_,hc⟩:=HPG.out k n hn
   cases e
   have c0:w.cell? ⟨g,k*258,none⟩=some (.int .i64 n):=hc 0 (by omega)
   have HNO:=xh hno
   have HN:=xh hn
   clear hc hno hn
   by_cases he:n=N
   ·subst he
    go_wp2_with fail
    go_ret
    refine⟨?_,rfl⟩
    have hidx:l.idxOf n=k:=by
     obtain⟨h2,h3⟩:=List.getElem?_eq_some_iff.1 HN.out
     unfold List.idxOf
     rw[List.findIdx_eq h2]
     refine⟨by rw[h3];simp,λj hj=>?_⟩
     have h4:=HNO.out j hj
     rw[List.getElem?_eq_getElem (by omega)]at h4
     simpa using λe:l[j]=n=>h4 (by rw[e])
    rw[HF.out,if_pos (List.mem_iff_getElem?.2 ⟨k,HN.out⟩),hidx]
    rfl
   ·have hb:((n:Int)==N)=false:=beq_eq_false_iff_ne.2 (by omega)
    go_wp2_with fail
    go_round
    case rel=>exact⟨k+1,by omega,by go_num,λj hj=>by
     by_cases e:j=k
     ·subst e
      rw[HN.out]
      intro h
      exact he (Option.some.inj h)
     ·exact HNO.out j (by omega)⟩
    case measure=>simp[intOf]<;>omega
  ·obtain rfl:k=l.length:=by omega
   have HNO:=xh hno
   clear hno
   go_wp2_with fail
   go_ret
   refine⟨?_,rfl⟩
   rw[HF.out,if_neg λh=>by
    obtain⟨j,hj⟩:=List.mem_iff_getElem?.1 h
    exact HNO.out j (List.getElem?_eq_some_iff.1 hj).1 hj]
   rfl
theorem and_perm (p k:Int) (h0:0≤p) (h7:p≤7) (hk:k=1∨k=2∨k=4):(bits .and .i64 p k==0)=(bits .and .u8 p k==0):=by
 have hp:p=0∨p=1∨p=2∨p=3∨p=4∨p=5∨p=6∨p=7:=by omega
 rcases hk with rfl|rfl|rfl<;>rcases hp with rfl|rfl|rfl|rfl|rfl|rfl|rfl|rfl<;>decide
theorem zero_can {m:Pages} {N:Nat} (h:m N=none) {k:Int} (hk:k=1∨k=2∨k=4):canAt m N k=false:=by
 unfold canAt Pg.can
 rw[h]
 rcases hk with rfl|rfl|rfl<;>decide
theorem mayD_any (pv:Value) (m:Pages) (a n k:Int) (w:World) (h:PgsD w pv m) (hm:PagesOk m) (ha:U a) (hn : -9223372036854775808≤n) (hn1:n<9223372036854775808) (hk:k=1∨k=2∨k=4) :
 Calls Tryz.prog 43 #[pv,.int .u64 a,.int .i64 n,.int .i64 k] w λe w'=>e=.returned (.bool (mayB m a n k))∧w=w':=by
 obtain⟨ha,ha1⟩:=ha
 by_cases h0:n=0
 ·subst h0
  go_enter Tryz.func43,Tryz.ntmps43
  go_wp2
  go_ret
  exact⟨by simp[mayB],rfl⟩
 have g0:(n==0)=false:=by simpa using h0
 by_cases h1:n<0∨65536≤a∨65536-a<n
 ·have hr:mayB m a n k=false:=by simp[mayB,h0,h1]
  have HR:=xh hr
  clear hr h hm hk
  by_cases h2:n<0
  ·clear h1 h0
   go_enter Tryz.func43,Tryz.ntmps43
   go_wp2
   go_ret
   exact⟨by rw[HR.out];try rfl,rfl⟩
  ·have h3:0≤n:=by omega
   by_cases h4:65536≤a
   ·clear h1 h0 h2
    go_enter Tryz.func43,Tryz.ntmps43
    go_wp2
    go_ret
    exact⟨by rw[HR.out];try rfl,rfl⟩
   ·have h5:a<65536:=by omega
    have h6:65536-a<n:=by omega
    clear h1 h0 h2 h4
    go_enter Tryz.func43,Tryz.ntmps43
    go_wp2
    go_ret
    exact⟨by rw[HR.out];try rfl,rfl⟩
 ·have h2:0<n:=by omega
  have h3:a<65536:=by omega
  have h4:n≤65536-a:=by omega
  have hr:mayB m a n k=mayAll m k (a/256).toNat (lastOf a n):=by simp[mayB,h0,h1]
  have HR:=xh hr
  have HFD:=xh λN (hN:N≤1000000)=>findD_any pv m N w h hm hN
  have HPG:=xh λi N (hi:(pageNums m)[i]?=some N)=>h.page hm hi
  have HM:=xh hm
  have HKK:=xh hk
  clear hr h1 h0 hn hn1 ha1 h hm hk
  go_enter Tryz.func43,Tryz.ntmps43
  go_wp2_with fail
  go_loop [10] (λp=>∃q:Nat,(a/256).toNat≤q∧q≤lastOf a n∧p=.int .i64 q∧mayAll m k (a/256).toNat q=true) (λp=>lastOf a n-(intOf p).toNat)
  case atStart=>exact⟨(a/256).toNat,Nat.le_refl _,by simp only[lastOf];omega,by congr 1;omega,by simp[mayAll]⟩
  case round=>
   obtain⟨q,hq,hq1,rfl,hall⟩:=hrel
   have HA:=xh hall
   clear hall
   have hqb:(q:Int)≤256:=by simp only[lastOf]at hq1;omega
   by_cases hlt:(q:Int)≤(a+n-1)/256
   ·have hlast:q<lastOf a n:=by simp only[lastOf];omega
    have hq256:q<256:=by omega
    have hfd:=HFD.out q (by omega)
    cases hmq:m q with
    | none=>
      have hres:=xh (HR.out.trans (mayAll_false m k _ _ q hq hlast (zero_can hmq HKK.out)))
      rw[findF_none hmq]at hfd
      have HF:=xh hfd
      clear hfd hmq
      go_wp2_with (go_at_call 44;((with_reducible refine Calls.mono HF.out ?_);rintro e2 w2 ⟨rfl,rfl⟩))
      go_ret
      exact⟨by rw[hres.out];try rfl,rfl⟩
    | some p=>
      obtain⟨i,hi,hin⟩:=findF_some (m:=m) hq256 (by rw[hmq];rfl)
      rw[hi]at hfd
      have HF:=xh hfd
      have hil:i<(pageNums m).length:=(List.getElem?_eq_some_iff.1 hin).1
      have hpl:=pageNums_length m
      obtain⟨g,cap,hpv,hgl,hcell⟩:=HPG.out i q hin
      have c1:w.cell? ⟨g,i*258+1,none⟩=some (.int .i64 p.perm):=by rw[hcell 1 (by omega),hmq];rfl
      have hwf:=(HM.out.wf q p hmq).perm
      have hap:=and_perm p.perm k hwf.1 hwf.2 HKK.out
      subst hpv
      have hil2:(i:Int)<((pageNums m).length:Nat):=by omega
      have hi0:(0:Int)≤i:=by omega
      cases hc:canAt m q k with
      | false=>
        have hres:=xh (HR.out.trans (mayAll_false m k _ _ q hq hlast hc))
        have hb:(bits .and .i64 p.perm k==0)=true:=by rw[hap];simpa [canAt,Pg.can,hmq]using hc
        have HWF:=xh hwf
        clear hc hfd hcell hap hmq hi hin hwf
        go_wp2_with (go_at_call 44;((with_reducible refine Calls.mono HF.out ?_);rintro e2 w2 ⟨rfl,rfl⟩))
        go_ret
        exact⟨by rw[hres.out];try rfl,rfl⟩
      | true=>
        have hnext:=xh ((mayAll_snoc m k _ q hq).trans (by rw[HA.out,hc]))
        have hb:(bits .and .i64 p.perm k==0)=false:=by rw[hap];simpa [canAt,Pg.can,hmq]using hc
        have HWF:=xh hwf
        clear hc hfd hcell hap hmq hi hin hwf
        go_wp2_with (go_at_call 44;((with_reducible refine Calls.mono HF.out ?_);rintro e2 w2 ⟨rfl,rfl⟩))
        go_round
        case rel=>exact⟨q+1,by omega,by omega,by go_num,hnext.out⟩
        case measure=>simp[intOf]<;>omega
   ·have hlast:lastOf a n=q:=by simp only[lastOf]at hq1⊢;omega
    have hres:=xh (HR.out.trans (by rw[hlast];exact HA.out):mayB m a n k=true)
    clear hlast
    go_wp2_with fail
    go_ret
    exact⟨by rw[hres.out];try rfl,rfl⟩
end Go.Proofs.YtjdaddmjpicflaaGreatDoor
namespace Go.Proofs.YtjdaddmjpicflaaGreatDoor
open Go.RowKit
abbrev insR (op:Nat) (A B imm:Int):Value:=.agg #[.int .i64 op,.int .i64 A,.int .i64 B,.int .i64 imm]
def aluR (op:Nat) (a b imm:Int):Ending:=.returned (.tuple #[.int .u64 (if op≤13 then aluF op a b (u64 imm)else 0),.bool (decide (op≤13))])
theorem aluD1 (A B imm a b:Int) (w:World) (ha:U a) (hb:U b):Calls Tryz.prog 100 #[insR 1 A B imm,.int .u64 a,.int .u64 b] w λe w'=>e=aluR 1 a b imm∧Bel w w':=by
 have hwi:IntKind.wrap .u64 imm=u64 imm:=rfl
 obtain⟨ha0,ha1⟩:=ha
 obtain⟨hb0,hb1⟩:=hb
 go_enter Tryz.func100,Tryz.ntmps100
 go_wp2
 go_ret2
 exact⟨rfl,Bel.start w _⟩
theorem aluD2 (A B imm a b:Int) (w:World) (ha:U a) (hb:U b):Calls Tryz.prog 100 #[insR 2 A B imm,.int .u64 a,.int .u64 b] w λe w'=>e=aluR 2 a b imm∧Bel w w':=by
 have hwi:IntKind.wrap .u64 imm=u64 imm:=rfl
 obtain⟨ha0,ha1⟩:=ha
 obtain⟨hb0,hb1⟩:=hb
 go_enter Tryz.func100,Tryz.ntmps100
 go_wp2
 go_ret2
 exact⟨rfl,Bel.start w _⟩
theorem aluD3 (A B imm a b:Int) (w:World) (ha:U a) (hb:U b):Calls Tryz.prog 100 #[insR 3 A B imm,.int .u64 a,.int .u64 b] w λe w'=>e=aluR 3 a b imm∧Bel w w':=by
 have hwi:IntKind.wrap .u64 imm=u64 imm:=rfl
 obtain⟨ha0,ha1⟩:=ha
 obtain⟨hb0,hb1⟩:=hb
 go_enter Tryz.func100,Tryz.ntmps100
 go_wp2
 go_ret2
 exact⟨rfl,Bel.start w _⟩
theorem aluD4 (A B imm a b:Int) (w:World) (ha:U a) (hb:U b):Calls Tryz.prog 100 #[insR 4 A B imm,.int .u64 a,.int .u64 b] w λe w'=>e=aluR 4 a b imm∧Bel w w':=by
 have hwi:IntKind.wrap .u64 imm=u64 imm:=rfl
 obtain⟨ha0,ha1⟩:=ha
 obtain⟨hb0,hb1⟩:=hb
 go_enter Tryz.func100,Tryz.ntmps100
 go_wp2
 go_ret2
 exact⟨rfl,Bel.start w _⟩
theorem aluD5 (A B imm a b:Int) (w:World) (ha:U a) (hb:U b):Calls Tryz.prog 100 #[insR 5 A B imm,.int .u64 a,.int .u64 b] w λe w'=>e=aluR 5 a b imm∧Bel w w':=by
 have hwi:IntKind.wrap .u64 imm=u64 imm:=rfl
 obtain⟨ha0,ha1⟩:=ha
 obtain⟨hb0,hb1⟩:=hb
 go_enter Tryz.func100,Tryz.ntmps100
 go_wp2
 go_ret2
 exact⟨rfl,Bel.start w _⟩
theorem aluD6 (A B imm a b:Int) (w:World) (ha:U a) (hb:U b):Calls Tryz.prog 100 #[insR 6 A B imm,.int .u64 a,.int .u64 b] w λe w'=>e=aluR 6 a b imm∧Bel w w':=by
 have hwi:IntKind.wrap .u64 imm=u64 imm:=rfl
 obtain⟨ha0,ha1⟩:=ha
 obtain⟨hb0,hb1⟩:=hb
 go_enter Tryz.func100,Tryz.ntmps100
 go_wp2
 go_ret2
 exact⟨rfl,Bel.start w _⟩
theorem aluD7 (A B imm a b:Int) (w:World) (ha:U a) (hb:U b):Calls Tryz.prog 100 #[insR 7 A B imm,.int .u64 a,.int .u64 b] w λe w'=>e=aluR 7 a b imm∧Bel w w':=by
 have hwi:IntKind.wrap .u64 imm=u64 imm:=rfl
 obtain⟨ha0,ha1⟩:=ha
 obtain⟨hb0,hb1⟩:=hb
 by_cases h:b=0
 ·subst h
  go_enter Tryz.func100,Tryz.ntmps100
  go_wp2
  go_ret2
  exact⟨rfl,Bel.start w _⟩
 ·have h2:(b==0)=false:=by simpa using h
  have hf:aluF 7 a b (u64 imm)=a/b:=if_neg h
  have HF:=xh (show aluR 7 a b imm=.returned (.tuple #[.int .u64 (a/b),.bool true]) by unfold aluR;rw[if_pos (by decide),hf];rfl)
  clear hf
  go_enter Tryz.func100,Tryz.ntmps100
  go_wp2
  go_ret2
  exact⟨HF.out.symm,Bel.start w _⟩
theorem aluD8 (A B imm a b:Int) (w:World) (ha:U a) (hb:U b):Calls Tryz.prog 100 #[insR 8 A B imm,.int .u64 a,.int .u64 b] w λe w'=>e=aluR 8 a b imm∧Bel w w':=by
 have hwi:IntKind.wrap .u64 imm=u64 imm:=rfl
 obtain⟨ha0,ha1⟩:=ha
 obtain⟨hb0,hb1⟩:=hb
 by_cases h:b=0
 ·subst h
  go_enter Tryz.func100,Tryz.ntmps100
  go_wp2
  go_ret2
  exact⟨rfl,Bel.start w _⟩
 ·have h2:(b==0)=false:=by simpa using h
  have hf:aluF 8 a b (u64 imm)=a%b:=if_neg h
  have HF:=xh (show aluR 8 a b imm=.returned (.tuple #[.int .u64 (a%b),.bool true]) by unfold aluR;rw[if_pos (by decide),hf];rfl)
  clear hf
  go_enter Tryz.func100,Tryz.ntmps100
  go_wp2
  go_ret2
  exact⟨HF.out.symm,Bel.start w _⟩
theorem aluD9 (A B imm a b:Int) (w:World) (ha:U a) (hb:U b):Calls Tryz.prog 100 #[insR 9 A B imm,.int .u64 a,.int .u64 b] w λe w'=>e=aluR 9 a b imm∧Bel w w':=by
 have hwi:IntKind.wrap .u64 imm=u64 imm:=rfl
 obtain⟨ha0,ha1⟩:=ha
 obtain⟨hb0,hb1⟩:=hb
 go_enter Tryz.func100,Tryz.ntmps100
 go_wp2
 go_ret2
 exact⟨rfl,Bel.start w _⟩
theorem aluD10 (A B imm a b:Int) (w:World) (ha:U a) (hb:U b):Calls Tryz.prog 100 #[insR 10 A B imm,.int .u64 a,.int .u64 b] w λe w'=>e=aluR 10 a b imm∧Bel w w':=by
 have hwi:IntKind.wrap .u64 imm=u64 imm:=rfl
 obtain⟨ha0,ha1⟩:=ha
 obtain⟨hb0,hb1⟩:=hb
 go_enter Tryz.func100,Tryz.ntmps100
 go_wp2
 go_ret2
 exact⟨rfl,Bel.start w _⟩
theorem aluD11 (A B imm a b:Int) (w:World) (ha:U a) (hb:U b):Calls Tryz.prog 100 #[insR 11 A B imm,.int .u64 a,.int .u64 b] w λe w'=>e=aluR 11 a b imm∧Bel w w':=by
 have hwi:IntKind.wrap .u64 imm=u64 imm:=rfl
 obtain⟨ha0,ha1⟩:=ha
 obtain⟨hb0,hb1⟩:=hb
 go_enter Tryz.func100,Tryz.ntmps100
 go_wp2
 go_ret2
 exact⟨rfl,Bel.start w _⟩
theorem aluD12 (A B imm a b:Int) (w:World) (ha:U a) (hb:U b):Calls Tryz.prog 100 #[insR 12 A B imm,.int .u64 a,.int .u64 b] w λe w'=>e=aluR 12 a b imm∧Bel w w':=by
 have hwi:IntKind.wrap .u64 imm=u64 imm:=rfl
 obtain⟨ha0,ha1⟩:=ha
 obtain⟨hb0,hb1⟩:=hb
 have hs:=shl_run a b
 go_enter Tryz.func100,Tryz.ntmps100
 go_wp2
 go_ret2
 exact⟨rfl,Bel.start w _⟩
theorem aluD13 (A B imm a b:Int) (w:World) (ha:U a) (hb:U b):Calls Tryz.prog 100 #[insR 13 A B imm,.int .u64 a,.int .u64 b] w λe w'=>e=aluR 13 a b imm∧Bel w w':=by
 have hwi:IntKind.wrap .u64 imm=u64 imm:=rfl
 obtain⟨ha0,ha1⟩:=ha
 obtain⟨hb0,hb1⟩:=hb
 have hs:=shr_run a b ha0
 go_enter Tryz.func100,Tryz.ntmps100
 go_wp2
 go_ret2
 exact⟨rfl,Bel.start w _⟩
theorem aluD_no (op:Nat) (A B imm a b:Int) (w:World) (h:14≤op) (h2:op≤24):Calls Tryz.prog 100 #[insR op A B imm,.int .u64 a,.int .u64 b] w λe w'=>e=aluR op a b imm∧Bel w w':=by
 have hR:=xh (show aluR op a b imm=.returned (.tuple #[.int .u64 0,.bool false]) by unfold aluR;rw[if_neg (by omega),decide_eq_false (by omega)])
 have hc:op=14∨op=15∨op=16∨op=17∨op=18∨op=19∨op=20∨op=21∨op=22∨op=23∨op=24:=by omega
 clear h h2
 rcases hc with rfl|rfl|rfl|rfl|rfl|rfl|rfl|rfl|rfl|rfl|rfl
 all_goals
  go_enter Tryz.func100,Tryz.ntmps100
  go_wp2
  go_ret2
  exact⟨hR.out.symm,Bel.start w _⟩
theorem aluD_any (op:Nat) (A B imm a b:Int) (w:World) (h1:1≤op) (h2:op≤24) (ha:U a) (hb:U b):Calls Tryz.prog 100 #[insR op A B imm,.int .u64 a,.int .u64 b] w λe w'=>e=aluR op a b imm∧Bel w w':=by
 by_cases h:14≤op
 ·exact aluD_no op A B imm a b w h h2
 ·have hc:op=1∨op=2∨op=3∨op=4∨op=5∨op=6∨op=7∨op=8∨op=9∨op=10∨op=11∨op=12∨op=13:=by omega
  rcases hc with rfl|rfl|rfl|rfl|rfl|rfl|rfl|rfl|rfl|rfl|rfl|rfl|rfl
  ·exact aluD1 A B imm a b w ha hb
  ·exact aluD2 A B imm a b w ha hb
  ·exact aluD3 A B imm a b w ha hb
  ·exact aluD4 A B imm a b w ha hb
  ·exact aluD5 A B imm a b w ha hb
  ·exact aluD6 A B imm a b w ha hb
  ·exact aluD7 A B imm a b w ha hb
  ·exact aluD8 A B imm a b w ha hb
  ·exact aluD9 A B imm a b w ha hb
  ·exact aluD10 A B imm a b w ha hb
  ·exact aluD11 A B imm a b w ha hb
  ·exact aluD12 A B imm a b w ha hb
  ·exact aluD13 A B imm a b w ha hb
def jmpF (op:Nat) (pc a b imm:Int):Int:=if op=23 then a else if brF op a b=true then u64 (pc+u64 imm)else u64 (pc+4)
theorem jmp18 (A B imm pc a b:Int) (w:World) (ha:U a) (hb:U b):Calls Tryz.prog 103 #[insR 18 A B imm,.int .u64 pc,.int .u64 a,.int .u64 b] w λe w'=>e=.returned (.int .u64 (jmpF 18 pc a b imm))∧Bel w w':=by
 have hwi:IntKind.wrap .u64 imm=u64 imm:=rfl
 have hw1:IntKind.wrap .u64 (pc+u64 imm)=u64 (pc+u64 imm):=rfl
 have hw2:IntKind.wrap .u64 (pc+4)=u64 (pc+4):=rfl
 obtain⟨ha0,ha1⟩:=ha
 obtain⟨hb0,hb1⟩:=hb
 by_cases h:a=b
 ·have h2:(a==b)=true:=by simpa using h
  have HJ:=xh (show jmpF 18 pc a b imm=u64 (pc+u64 imm) by unfold jmpF brF;simp[h])
  clear h
  go_enter Tryz.func103,Tryz.ntmps103
  go_wp2
  go_ret
  exact⟨by rw[HJ.out];try rfl,Bel.start w _⟩
 ·have h2:(a==b)=false:=by simpa using h
  have HJ:=xh (show jmpF 18 pc a b imm=u64 (pc+4) by unfold jmpF brF;simp[h])
  clear h
  go_enter Tryz.func103,Tryz.ntmps103
  go_wp2
  go_ret
  exact⟨by rw[HJ.out];try rfl,Bel.start w _⟩
theorem jmp19 (A B imm pc a b:Int) (w:World) (ha:U a) (hb:U b):Calls Tryz.prog 103 #[insR 19 A B imm,.int .u64 pc,.int .u64 a,.int .u64 b] w λe w'=>e=.returned (.int .u64 (jmpF 19 pc a b imm))∧Bel w w':=by
 have hwi:IntKind.wrap .u64 imm=u64 imm:=rfl
 have hw1:IntKind.wrap .u64 (pc+u64 imm)=u64 (pc+u64 imm):=rfl
 have hw2:IntKind.wrap .u64 (pc+4)=u64 (pc+4):=rfl
 obtain⟨ha0,ha1⟩:=ha
 obtain⟨hb0,hb1⟩:=hb
 by_cases h:a=b
 ·have h2:(a != b)=false:=by simpa using h
  have HJ:=xh (show jmpF 19 pc a b imm=u64 (pc+4) by unfold jmpF brF;simp[h])
  clear h
  go_enter Tryz.func103,Tryz.ntmps103
  go_wp2
  go_ret
  exact⟨by rw[HJ.out];try rfl,Bel.start w _⟩
 ·have h2:(a != b)=true:=by simpa using h
  have HJ:=xh (show jmpF 19 pc a b imm=u64 (pc+u64 imm) by unfold jmpF brF;simp[h])
  clear h
  go_enter Tryz.func103,Tryz.ntmps103
  go_wp2
  go_ret
  exact⟨by rw[HJ.out];try rfl,Bel.start w _⟩
theorem jmp20 (A B imm pc a b:Int) (w:World) (ha:U a) (hb:U b):Calls Tryz.prog 103 #[insR 20 A B imm,.int .u64 pc,.int .u64 a,.int .u64 b] w λe w'=>e=.returned (.int .u64 (jmpF 20 pc a b imm))∧Bel w w':=by
 have hwi:IntKind.wrap .u64 imm=u64 imm:=rfl
 have hw1:IntKind.wrap .u64 (pc+u64 imm)=u64 (pc+u64 imm):=rfl
 have hw2:IntKind.wrap .u64 (pc+4)=u64 (pc+4):=rfl
 obtain⟨ha0,ha1⟩:=ha
 obtain⟨hb0,hb1⟩:=hb
 by_cases h:wrap64 a<wrap64 b
 ·have HJ:=xh (show jmpF 20 pc a b imm=u64 (pc+u64 imm) by unfold jmpF brF;simp[h])
  go_enter Tryz.func103,Tryz.ntmps103
  go_wp2
  go_ret
  exact⟨by rw[HJ.out];try rfl,Bel.start w _⟩
 ·have HJ:=xh (show jmpF 20 pc a b imm=u64 (pc+4) by unfold jmpF brF;simp[h])
  go_enter Tryz.func103,Tryz.ntmps103
  go_wp2
  go_ret
  exact⟨by rw[HJ.out];try rfl,Bel.start w _⟩
theorem jmp21 (A B imm pc a b:Int) (w:World) (ha:U a) (hb:U b):Calls Tryz.prog 103 #[insR 21 A B imm,.int .u64 pc,.int .u64 a,.int .u64 b] w λe w'=>e=.returned (.int .u64 (jmpF 21 pc a b imm))∧Bel w w':=by
 have hwi:IntKind.wrap .u64 imm=u64 imm:=rfl
 have hw1:IntKind.wrap .u64 (pc+u64 imm)=u64 (pc+u64 imm):=rfl
 have hw2:IntKind.wrap .u64 (pc+4)=u64 (pc+4):=rfl
 obtain⟨ha0,ha1⟩:=ha
 obtain⟨hb0,hb1⟩:=hb
 by_cases h:a<b
 ·have HJ:=xh (show jmpF 21 pc a b imm=u64 (pc+u64 imm) by unfold jmpF brF;simp[h])
  go_enter Tryz.func103,Tryz.ntmps103
  go_wp2
  go_ret
  exact⟨by rw[HJ.out];try rfl,Bel.start w _⟩
 ·have HJ:=xh (show jmpF 21 pc a b imm=u64 (pc+4) by unfold jmpF brF;simp[h])
  go_enter Tryz.func103,Tryz.ntmps103
  go_wp2
  go_ret
  exact⟨by rw[HJ.out];try rfl,Bel.start w _⟩
theorem jmp22 (A B imm pc a b:Int) (w:World) (ha:U a) (hb:U b):Calls Tryz.prog 103 #[insR 22 A B imm,.int .u64 pc,.int .u64 a,.int .u64 b] w λe w'=>e=.returned (.int .u64 (jmpF 22 pc a b imm))∧Bel w w':=by
 have hwi:IntKind.wrap .u64 imm=u64 imm:=rfl
 have hw1:IntKind.wrap .u64 (pc+u64 imm)=u64 (pc+u64 imm):=rfl
 have hw2:IntKind.wrap .u64 (pc+4)=u64 (pc+4):=rfl
 obtain⟨ha0,ha1⟩:=ha
 obtain⟨hb0,hb1⟩:=hb
 go_enter Tryz.func103,Tryz.ntmps103
 go_wp2
 go_ret
 exact⟨rfl,Bel.start w _⟩
theorem jmp23 (A B imm pc a b:Int) (w:World) (ha:U a) (hb:U b):Calls Tryz.prog 103 #[insR 23 A B imm,.int .u64 pc,.int .u64 a,.int .u64 b] w λe w'=>e=.returned (.int .u64 (jmpF 23 pc a b imm))∧Bel w w':=by
 have hwi:IntKind.wrap .u64 imm=u64 imm:=rfl
 have hw1:IntKind.wrap .u64 (pc+u64 imm)=u64 (pc+u64 imm):=rfl
 have hw2:IntKind.wrap .u64 (pc+4)=u64 (pc+4):=rfl
 obtain⟨ha0,ha1⟩:=ha
 obtain⟨hb0,hb1⟩:=hb
 go_enter Tryz.func103,Tryz.ntmps103
 go_wp2
 go_ret
 exact⟨rfl,Bel.start w _⟩
theorem jumps_any (op:Nat) (A B imm pc a b:Int) (w:World) (h1:18≤op) (h2:op≤23) (ha:U a) (hb:U b):Calls Tryz.prog 103 #[insR op A B imm,.int .u64 pc,.int .u64 a,.int .u64 b] w λe w'=>e=.returned (.int .u64 (jmpF op pc a b imm))∧Bel w w':=by
 have hc:op=18∨op=19∨op=20∨op=21∨op=22∨op=23:=by omega
 rcases hc with rfl|rfl|rfl|rfl|rfl|rfl
 ·exact jmp18 A B imm pc a b w ha hb
 ·exact jmp19 A B imm pc a b w ha hb
 ·exact jmp20 A B imm pc a b w ha hb
 ·exact jmp21 A B imm pc a b w ha hb
 ·exact jmp22 A B imm pc a b w ha hb
 ·exact jmp23 A B imm pc a b w ha hb
end Go.Proofs.YtjdaddmjpicflaaGreatDoor
namespace Go.Proofs.YtjdaddmjpicflaaGreatDoor
open Go.RowKit Go.Maps
theorem may_one (m:Pages) (pc:Int) (h0:0≤pc) (h4:pc%4=0):mayB m pc 4 1=mayB m pc 1 1:=by
 unfold mayB
 rw[if_neg (show ¬(4:Int)=0 by omega),if_neg (show ¬(1:Int)=0 by omega)]
 by_cases h:(65536:Int)≤pc
 ·rw[if_pos (show(4:Int)<0∨65536≤pc∨65536-pc<4 from .inr (.inl h)),if_pos (show(1:Int)<0∨65536≤pc∨65536-pc<1 from .inr (.inl h))]
 ·rw[if_neg (show ¬((4:Int)<0∨65536≤pc∨65536-pc<4) by omega),if_neg (show ¬((1:Int)<0∨65536≤pc∨65536-pc<1) by omega)]
  congr 1
  unfold lastOf
  omega
theorem fetchB_one (perm:Nat→Option Int) (c:Cpu) (h:U c.pc):fetchB perm c=(mayB (pagesOf perm c.M) c.pc 1 1&&c.pc%4==0):=by
 unfold fetchB
 by_cases h4:c.pc%4=0
 ·rw[may_one _ _ h.1 h4,h4,Bool.and_comm]
 ·have:(c.pc%4==0)=false:=by simpa using h4
  rw[this,Bool.false_and,Bool.and_false]
abbrev zInsR:List Value:=[.int .i64 0,.int .i64 0,.int .i64 0,.int .i64 0]
def nextK (perm:Nat→Option Int) (c:Cpu):Nat:=if fetchB perm c=false then 129 else if insB c 0<1∨24<insB c 0 then 130 else 0
def insRC (c:Cpu):Value:=insR (opC c) (rA c:Nat) (rB c:Nat) (immC c)
def nextE (perm:Nat→Option Int) (c:Cpu):Ending:=.returned (.tuple #[if nextK perm c=0 then insRC c else .agg zInsR.toArray,.int .i64 (nextK perm c:Nat)])
theorem decR_eq {c:Cpu} (h:∀i,0≤insB c i∧insB c i≤255):decR (insB c 0) (insB c 1) (insB c 2) (insB c 3)=insRC c:=by
 have h0:=h 0
 have h1:=h 1
 have e0:insB c 0=((opC c:Nat):Int):=by unfold opC;omega
 have e1:insB c 1/16=((rA c:Nat):Int):=by unfold rA;omega
 have e2:insB c 1%16=((rB c:Nat):Int):=by unfold rB;omega
 unfold decR insRC insR immC
 rw[e0,e1,e2]
theorem nextD_bad (b o:Nat) (pv:Value) (perm:Nat→Option Int) (c:Cpu) (w:World) (h5:w.cell? ⟨b,o+5,none⟩=some (.int .u64 c.pc)) (h22:w.cell? ⟨b,o+22,none⟩=some pv) (hp:PgsD w pv (pagesOf perm c.M)) (hm:PagesOk (pagesOf perm c.M)) (hpc:U c.pc) (hf:fetchB perm c=false) :
 Calls Tryz.prog 21 #[.pointer (some ⟨b,o,none⟩)] w λe w'=>e=.returned (.tuple #[.agg zInsR.toArray,.int .i64 129])∧Bel w w':=by
 have hl:=World.block_lt_of_cell? _ _ h5
 obtain⟨pc,hpe⟩:∃pc,c.pc=pc:=⟨_,rfl⟩
 rw[fetchB_one perm c hpc]at hf
 rw[hpe]at h5 hf hpc
 obtain⟨p0,p1⟩:=hpc
 have HMY:=xh λW (hW:Bel w W)=>mayD_any pv (pagesOf perm c.M) pc 1 1 W (hp.bel hW) hm ⟨p0,p1⟩ (by decide) (by decide) (.inl rfl)
 obtain⟨mb,hmb⟩:∃mb,mayB (pagesOf perm c.M) pc 1 1=mb:=⟨_,rfl⟩
 rw[hmb]at hf HMY
 have k1:Bel w (w.alloc (.cells #[.int .i64 0,.int .i64 0,.int .i64 0,.int .i64 0] 89)):=Bel.start _ _
 have B1:Blk (w.alloc (.cells #[.int .i64 0,.int .i64 0,.int .i64 0,.int .i64 0] 89)) w.heap.size zInsR 89:=Blk.new w _ _
 have hmq:∀q,Calls Tryz.prog 43 #[pv,.int .u64 pc,.int .i64 1,.int .i64 1] ((w.alloc (.cells #[.int .i64 0,.int .i64 0,.int .i64 0,.int .i64 0] 89)).drewN q) λe w'=>e=.returned (.bool mb)∧w'=(w.alloc (.cells #[.int .i64 0,.int .i64 0,.int .i64 0,.int .i64 0] 89)).drewN q:=λq=>(HMY.out _ (bel_drewN (Bel.start w _) q)).mono λe w' k=>⟨k.1,k.2.symm⟩
 clear hp hm hmb hpe
 cases mb with
 | false=>
   have HMQ:=xh hmq
   clear hmq hf
   go_enter Tryz.func21,Tryz.ntmps21
   go_upto_region 1 with fail
   go_quiet ((go_at_call 43;exact Calls.quiet_of_same (HMQ.out _)))
   go_wp2_with fail
   refine bodyPost_ret (v:=.tuple #[.agg zInsR.toArray,.int .i64 129]) (by simp[results,Tryz.results21,go_sem]) rfl ⟨rfl,?_⟩
   exact((((bel_drewN (Bel.start w _) nq).store (Nat.le_refl _) _).store (Nat.le_refl _) _).store (Nat.le_refl _) _).store (Nat.le_refl _) _
 | true=>
   have h4:(pc%4==0)=false:=by simpa using hf
   have h4':(pc%4 != 0)=true:=by simpa using h4
   have HMQ:=xh hmq
   clear hmq hf
   go_enter Tryz.func21,Tryz.ntmps21
   go_upto_region 1 with fail
   go_quiet ((go_at_call 43;exact Calls.quiet_of_same (HMQ.out _)))
   go_wp2_with fail
   refine bodyPost_ret (v:=.tuple #[.agg zInsR.toArray,.int .i64 129]) (by simp[results,Tryz.results21,go_sem]) rfl ⟨rfl,?_⟩
   exact((((bel_drewN (Bel.start w _) nq).store (Nat.le_refl _) _).store (Nat.le_refl _) _).store (Nat.le_refl _) _).store (Nat.le_refl _) _
theorem pageAt (perm:Nat→Option Int) (M:Nat→Int) (a:Nat) (p:Int) (h:perm (a/256)=some p) (j:Nat) (hj:j<256):(refCells (a/256) ((pagesOf perm M (a/256)).getD Pg.zero))[2+j]?=some (.int .u8 (M (256*(a/256)+j))):=by
 unfold pagesOf refCells
 rw[h]
 simp only[Option.map_some,Option.getD_some]
 rw[Nat.add_comm]
 simp[hj]
theorem may_page {perm:Nat→Option Int} {M:Nat→Int} {a:Nat} (h:mayB (pagesOf perm M) a 1 1=true):a<65536∧∃p,perm (a/256)=some p:=by
 obtain⟨h1,h2⟩:=may_perm (by omega) h (by decide)
 refine⟨by omega,?_⟩
 exact Option.isSome_iff_exists.1 (h2 a (Nat.le_refl _) (by omega))
theorem nextD_ok (b o:Nat) (pv:Value) (perm:Nat→Option Int) (c:Cpu) (w:World) (h5:w.cell? ⟨b,o+5,none⟩=some (.int .u64 c.pc)) (h22:w.cell? ⟨b,o+22,none⟩=some pv) (hp:PgsD w pv (pagesOf perm c.M)) (hm:PagesOk (pagesOf perm c.M)) (hpc:U c.pc) (hM:∀a,0≤c.M a∧c.M a≤255) (hf:fetchB perm c=true) :
 Calls Tryz.prog 21 #[.pointer (some ⟨b,o,none⟩)] w λe w'=>e=nextE perm c∧Bel w w':=by
 have hl:=World.block_lt_of_cell? _ _ h5
 obtain⟨pc,hpe⟩:∃pc,c.pc=pc:=⟨_,rfl⟩
 have hnk:nextK perm c=if insB c 0<1∨24<insB c 0 then 130 else 0:=by unfold nextK;rw[hf];simp
 rw[fetchB_one perm c hpc]at hf
 rw[hpe]at h5 hf hpc
 obtain⟨p0,p1⟩:=hpc
 obtain⟨hmt,hq4⟩:mayB (pagesOf perm c.M) pc 1 1=true∧pc%4=0:=by simpa using hf
 have HMY:=xh λW (hW:Bel w W)=>mayD_any pv (pagesOf perm c.M) pc 1 1 W (hp.bel hW) hm ⟨p0,p1⟩ (by decide) (by decide) (.inl rfl)
 rw[hmt]at HMY
 obtain⟨pn,hpn⟩:=Int.eq_ofNat_of_zero_le p0
 have hmt2:=hmt
 rw[hpn]at hmt2
 obtain⟨ha,pp,hpp⟩:=may_page hmt2
 obtain⟨N,hN⟩:∃N:Nat,pn/256=N:=⟨_,rfl⟩
 obtain⟨r,hr⟩:∃r:Nat,pn%256=r:=⟨_,rfl⟩
 have hN256:N<256:=by omega
 have hr252:r≤252:=by omega
 obtain⟨kk,hkk,hkn⟩:=findF_some (m:=pagesOf perm c.M) hN256 (by unfold pagesOf;rw[←hN,hpp];rfl)
 have hfd:=λW (hW:Bel w W)=>findD_any pv (pagesOf perm c.M) N W (hp.bel hW) hm (by omega)
 rw[hkk]at hfd
 obtain⟨g,cap,hpv,hgl,hcell⟩:=hp.page hm hkn
 have hkl:kk<(pageNums (pagesOf perm c.M)).length:=(List.getElem?_eq_some_iff.1 hkn).1
 have hln:=pageNums_length (pagesOf perm c.M)
 have hby:∀j,j<4→w.cell? ⟨g,kk*258+2+(r+j),none⟩=some (.int .u8 (insB c j)):=λj hj=>by
  rw[Nat.add_assoc,hcell _ (by omega),←hN,pageAt perm c.M pn pp hpp (r+j) (by omega)]
  unfold insB
  rw[hpe,hpn]
  congr 3
  show 256*(pn/256)+(r+j)=pn+j
  omega
 have hins:∀i,0≤insB c i∧insB c i≤255:=λi=>hM _
 have HNK:=xh hnk
 have HFD:=xh hfd
 have HBY:=xh hby
 have HIN:=xh hins
 have HDE:=xh (decR_eq hins)
 have h44:(pc%4 != 0)=false:=by rw[hq4];rfl
 have hdv:pc/256=(N:Int):=by omega
 have hmd:pc%256=(r:Int):=by omega
 have hk0:(0:Int)≤kk:=by omega
 have hk1:(kk:Int)<((pageNums (pagesOf perm c.M)).length:Nat):=by omega
 have hpn2:pc<65536:=by omega
 subst hpv
 generalize (pageNums (pagesOf perm c.M)).length=pl at *
 clear hnk hfd hby hins hp hm hM hpe hf hmt hmt2 hq4 hpp hN hr hkk hkn hcell hkl hln hpn ha
 have HMQ:=xh λq=>(HMY.out _ (bel_drewN (Bel.start w (.cells #[.int .i64 0,.int .i64 0,.int .i64 0,.int .i64 0] 89)) q)).mono λe w' k=>And.intro k.1 k.2.symm
 go_enter Tryz.func21,Tryz.ntmps21
 go_upto_region 1 with fail
 go_quiet ((go_at_call 43;exact Calls.quiet_of_same (HMQ.out _)))
 go_upto_region 4 with fail
 have k1:Bel w ((w.alloc (.cells #[.int .i64 0,.int .i64 0,.int .i64 0,.int .i64 0] 89)).drewN nq):=bel_drewN (Bel.start _ _) nq
 have B1:Blk ((w.alloc (.cells #[.int .i64 0,.int .i64 0,.int .i64 0,.int .i64 0] 89)).drewN nq) w.heap.size zInsR 89:=(Blk.new w _ _).bel (bel_drewN (Bel.refl _) nq)
 have h5:=cell_bel k1 h5
 have h22:=cell_bel k1 h22
 generalize (w.alloc (.cells #[.int .i64 0,.int .i64 0,.int .i64 0,.int .i64 0] 89)).drewN nq=w1 at *
 obtain⟨rb,hrb⟩:∃rb,w.heap.size=rb:=⟨_,rfl⟩
 rw[hrb]at B1⊢
 have HRB:=xh hrb
 have HK1:=xh k1
 have HB1:=xh B1
 have hl1:b<w1.heap.size:=World.block_lt_of_cell? _ _ h5
 have HFQ:=xh λq=>(HFD.out _ (bel_drewN HK1.out q)).mono λe w' k=>And.intro k.1 k.2.symm
 clear k1 B1 hl hrb HMQ HMY
 go_quiet ((go_at_call 44;exact Calls.quiet_of_same (HFQ.out _)))
 go_upto_region 6 with fail
 clear hdv
 have k2:Bel w1 ((w1.drewN nq).alloc (.cells #[.int .u8 0,.int .u8 0,.int .u8 0,.int .u8 0] 145)):=(bel_drewN (Bel.refl _) nq).ac _
 have B2:Blk ((w1.drewN nq).alloc (.cells #[.int .u8 0,.int .u8 0,.int .u8 0,.int .u8 0] 145)) w1.heap.size (rowOf (λi=>if i<0 then insB c i else 0) 4) 145:=Blk.new (w1.drewN nq) _ _
 obtain⟨bb,hbb⟩:∃bb,w1.heap.size=bb:=⟨_,rfl⟩
 rw[hbb]at B2⊢
 have hrl:rb<bb:=by rw[←hbb];exact HB1.out.lt
 have hbl:b<bb:=by omega
 have hgb:g<bb:=by have:=HK1.out.size;omega
 have h5:=cell_bel k2 h5
 have h22:=cell_bel k2 h22
 have hcell:∀j,j<4→((w1.drewN nq).alloc (.cells #[.int .u8 0,.int .u8 0,.int .u8 0,.int .u8 0] 145)).cell? ⟨g,kk*258+2+(r+j),none⟩=some (.int .u8 (insB c j)):=λj hj=>cell_bel (HK1.out.tr k2) (HBY.out j hj)
 generalize (w1.drewN nq).alloc (.cells #[.int .u8 0,.int .u8 0,.int .u8 0,.int .u8 0] 145)=w2 at *
 have HK2:=xh (HK1.out.tr k2)
 have HB2:=xh B2
 have HRR:=xh (HB1.out.bel k2)
 have HC2:=xh hcell
 have HH:Hid (∀wr,Keep (λq=>q=bb) w2 wr→wr.cell? ⟨b,o+5,none⟩=some (.int .u64 pc)∧wr.cell? ⟨b,o+22,none⟩=some (.slice (some ⟨g,0,none⟩) pl cap)∧∀j,j<4→wr.cell? ⟨g,kk*258+2+(r+j),none⟩=some (.int .u8 (insB c j))):=xh λwr hk=>⟨(hk.cell ⟨b,o+5,none⟩ (World.block_lt_of_cell? _ _ h5) (by show b≠bb;omega)).trans h5,(hk.cell ⟨b,o+22,none⟩ (World.block_lt_of_cell? _ _ h22) (by show b≠bb;omega)).trans h22,λj hj=>(hk.cell ⟨g,kk*258+2+(r+j),none⟩ (World.block_lt_of_cell? _ _ (hcell j hj)) (by show g≠bb;omega)).trans (hcell j hj)⟩
 clear h5 h22 hcell B2 k2 hbb hl1
 go_wp2_with fail
 go_loopw [7] (λi wr=>∃k:Nat,k≤4∧i=.int .i64 k∧Blk wr bb (rowOf (λi=>if i<k then insB c i else 0) 4) 145∧Keep (λq=>q=bb) w2 wr) (λi _=>4-(intOf i).toNat)
 case atStart=>exact⟨0,Nat.zero_le _,rfl,HB2.out,Keep.refl _ _⟩
 case round=>
  obtain⟨k,hk,rfl,hB,hK⟩:=hrel
  by_cases hlt:k<4
  ·obtain⟨e5,e22,ec⟩:=HH.out wr hK
   have eb:=ec k hlt
   have bz:wr.cell? ⟨bb,k,none⟩=some (.int .u8 0):=by
    rw[hB.cell,rowOf_get _ _ _ hlt]
    simp
   have bf:=hB.frozen k
   have hsum:(r:Int)+k<256:=by omega
   have hsum0:(0:Int)≤(r:Int)+k:=by omega
   have hk40:(0:Int)≤k:=by omega
   have hk4:(k:Int)<4:=by omega
   have HB:=xh hB
   have HK:=xh hK
   have hwr:IntKind.i64.wrap ((r:Int)+(k:Int))=(r:Int)+(k:Int):=by rw[IntKind.wrap_i64];omega
   have htn:((r:Int)+(k:Int)).toNat=r+k:=by omega
   have hwp:IntKind.i64.wrap pc=pc:=by rw[IntKind.wrap_i64];omega
   have htm:pc.tmod 256=(r:Int):=by rw[Int.tmod_eq_emod_of_nonneg p0];exact hmd
   obtain⟨x,hx⟩:∃x,insB c k=x:=⟨_,rfl⟩
   rw[hx]at eb
   have HX:=xh hx
   clear hx
   clear hB hK ec
   go_upto_region 9 with fail
   go_still_tail 19,(by kernel_rfl)
   change wpList _ _ _ _ _ wr.drew
   go_wp2_with fail
   go_roundw
   case rel=>exact⟨k+1,by omega,by go_num,by
    have h:=HB.out.row_set k (insB c k)
    rw[rowOf_congr (g:=setF (λi=>if i<k then insB c i else 0) k (insB c k)) (λi _=>?_)]
    ·rw[HX.out]at h⊢;exact h
    ·show(if i<k+1 then insB c i else 0)=setF _ _ _ i
     unfold setF
     by_cases e:i=k
     ·subst e
      rw[if_pos rfl,if_pos (by omega)]
     ·rw[if_neg e]
      show _=(if i<k then insB c i else 0)
      by_cases e2:i<k
      ·rw[if_pos e2,if_pos (by omega)]
      ·rw[if_neg e2,if_neg (by omega)],HK.out.tr ((Keep.setCell _ bb k _).tr (Keep.of_bel _ (Bel.drew (Bel.refl _))))⟩
   case measure=>simp[intOf]<;>omega
  ·obtain rfl:k=4:=by omega
   have HB:=xh hB
   have HK:=xh hK
   have b0:wr.cell? ⟨bb,0,none⟩=some (.int .u8 (insB c 0)):=hB.cell 0
   have b1:wr.cell? ⟨bb,1,none⟩=some (.int .u8 (insB c 1)):=hB.cell 1
   have b2:wr.cell? ⟨bb,2,none⟩=some (.int .u8 (insB c 2)):=hB.cell 2
   have b3:wr.cell? ⟨bb,3,none⟩=some (.int .u8 (insB c 3)):=hB.cell 3
   have BR:=HRR.out.keep hK (λe=>by have e:rb=bb:=e;omega)
   have kw:=HK2.out
   have KF:Hid (Bel w wr):=xh (((Keep.of_bel _ kw).tr hK).below _ (Nat.le_refl _) λq hq=>by have e:q=bb:=hq;have:=HRB.out;omega)
   clear hB hK kw
   by_cases hop:insB c 0<1∨24<insB c 0
   ·have HNB:=xh (HNK.out.trans (if_pos hop))
    have HD:=xh λW=>decodeR_bad (insB c 0) (insB c 1) (insB c 2) (insB c 3) W hop
    have r0:∀i,wr.frozen? ⟨rb,i,none⟩=false:=BR.frozen
    have hrl2:rb<wr.heap.size:=BR.lt
    clear hop
    generalize insB c 0=x0 at *
    generalize insB c 1=x1 at *
    generalize insB c 2=x2 at *
    generalize insB c 3=x3 at *
    go_upto_region 11 with(go_at_call 45;((with_reducible refine Calls.mono (HD.out _) ?_);rintro e3 w3 ⟨rfl,k3⟩;have B3:=BR.bel k3;have H3:=xh k3;clear k3))
    have B4:Blk (w3.alloc (.cells #[.int .i64 0,.int .i64 0,.int .i64 0,.int .i64 0] 89)) rb zInsR 89:=B3.alloc _
    have B8:Blk (w3.alloc (.cells #[.int .i64 0,.int .i64 0,.int .i64 0,.int .i64 0] 89)) w3.heap.size zInsR 89:=Blk.new w3 _ _
    have K4:Hid (Bel w (w3.alloc (.cells #[.int .i64 0,.int .i64 0,.int .i64 0,.int .i64 0] 89))):=xh ((KF.out.tr H3.out).ac _)
    have hne:rb≠w3.heap.size:=by have:=B3.lt;omega
    generalize w3.alloc (.cells #[.int .i64 0,.int .i64 0,.int .i64 0,.int .i64 0] 89)=w4 at *
    obtain⟨b8,hb8⟩:∃b8,w3.heap.size=b8:=⟨_,rfl⟩
    rw[hb8]at B8 hne⊢
    have q0:w4.cell? ⟨rb,0,none⟩=some (.int .i64 0):=B4.cell 0
    have q1:w4.cell? ⟨rb,1,none⟩=some (.int .i64 0):=B4.cell 1
    have q2:w4.cell? ⟨rb,2,none⟩=some (.int .i64 0):=B4.cell 2
    have q3:w4.cell? ⟨rb,3,none⟩=some (.int .i64 0):=B4.cell 3
    have qf:∀i,w4.frozen? ⟨rb,i,none⟩=false:=B4.frozen
    have hrb4:w.heap.size≤rb:=by rw[HRB.out];exact Nat.le_refl _
    clear B3 hb8 B4 B8 b0 b1 b2 b3 BR
    go_wp2_with fail
    refine bodyPost_ret (v:=.tuple #[.agg zInsR.toArray,.int .i64 130]) (by simp[results,Tryz.results21,go_sem,q0,q1,q2,q3]) rfl ⟨?_,(((K4.out.store hrb4 _).store hrb4 _).store hrb4 _).store hrb4 _⟩
    unfold nextE
    rw[HNB.out]
    rfl
   ·have HNB:=xh (HNK.out.trans (if_neg hop))
    have HD:=xh λW=>decodeR_ok (insB c 0) (insB c 1) (insB c 2) (insB c 3) W (by omega) (by omega) (HIN.out 1).1 (HIN.out 1).2 (HIN.out 2).1 (HIN.out 2).2 (HIN.out 3).1 (HIN.out 3).2
    have r0:∀i,wr.frozen? ⟨rb,i,none⟩=false:=BR.frozen
    have hrl2:rb<wr.heap.size:=BR.lt
    clear hop
    obtain⟨x0,x1,x2,x3,hxs⟩:∃x0 x1 x2 x3,insB c 0=x0∧insB c 1=x1∧insB c 2=x2∧insB c 3=x3:=⟨_,_,_,_,rfl,rfl,rfl,rfl⟩
    have HXS:=xh hxs
    obtain⟨hx0,hx1,hx2,hx3⟩:=hxs
    rw[hx0]at b0 HD
    rw[hx1]at b1 HD
    rw[hx2]at b2 HD
    rw[hx3]at b3 HD
    clear hx0 hx1 hx2 hx3
    go_upto_region 11 with(go_at_call 45;((with_reducible refine Calls.mono (HD.out _) ?_);rintro e3 w3 ⟨rfl,k3⟩;have B3:=BR.bel k3;have H3:=xh k3;clear k3))
    have B4:Blk (w3.alloc (.cells #[.int .i64 x0,.int .i64 (x1/16),.int .i64 (x1%16),.int .i64 (IntKind.i16.wrap (x2+x3*256))] 89)) rb zInsR 89:=B3.alloc _
    have B8:Blk (w3.alloc (.cells #[.int .i64 x0,.int .i64 (x1/16),.int .i64 (x1%16),.int .i64 (IntKind.i16.wrap (x2+x3*256))] 89)) w3.heap.size [.int .i64 x0,.int .i64 (x1/16),.int .i64 (x1%16),.int .i64 (IntKind.i16.wrap (x2+x3*256))] 89:=Blk.new w3 _ _
    have K4:Hid (Bel w (w3.alloc (.cells #[.int .i64 x0,.int .i64 (x1/16),.int .i64 (x1%16),.int .i64 (IntKind.i16.wrap (x2+x3*256))] 89))):=xh ((KF.out.tr H3.out).ac _)
    have hne:rb≠w3.heap.size:=by have:=B3.lt;omega
    generalize w3.alloc (.cells #[.int .i64 x0,.int .i64 (x1/16),.int .i64 (x1%16),.int .i64 (IntKind.i16.wrap (x2+x3*256))] 89)=w4 at *
    obtain⟨b8,hb8⟩:∃b8,w3.heap.size=b8:=⟨_,rfl⟩
    rw[hb8]at B8 hne⊢
    have q0:w4.cell? ⟨rb,0,none⟩=some (.int .i64 0):=B4.cell 0
    have q1:w4.cell? ⟨rb,1,none⟩=some (.int .i64 0):=B4.cell 1
    have q2:w4.cell? ⟨rb,2,none⟩=some (.int .i64 0):=B4.cell 2
    have q3:w4.cell? ⟨rb,3,none⟩=some (.int .i64 0):=B4.cell 3
    have qf:∀i,w4.frozen? ⟨rb,i,none⟩=false:=B4.frozen
    have v0:w4.cell? ⟨b8,0,none⟩=some (.int .i64 x0):=B8.cell 0
    have v1:w4.cell? ⟨b8,1,none⟩=some (.int .i64 (x1/16)):=B8.cell 1
    have v2:w4.cell? ⟨b8,2,none⟩=some (.int .i64 (x1%16)):=B8.cell 2
    have v3:w4.cell? ⟨b8,3,none⟩=some (.int .i64 (IntKind.i16.wrap (x2+x3*256))):=B8.cell 3
    have hrb4:w.heap.size≤rb:=by rw[HRB.out];exact Nat.le_refl _
    clear B3 hb8 B4 B8 b0 b1 b2 b3 BR
    go_wp2_with fail
    refine bodyPost_ret (v:=.tuple #[decR x0 x1 x2 x3,.int .i64 0]) (by simp[results,Tryz.results21,go_sem,q0,q1,q2,q3]) rfl ⟨?_,(((K4.out.store hrb4 _).store hrb4 _).store hrb4 _).store hrb4 _⟩
    unfold nextE
    rw[HNB.out]
    rw[if_pos rfl,←HDE.out,HXS.out.1,HXS.out.2.1,HXS.out.2.2.1,HXS.out.2.2.2];rfl
end Go.Proofs.YtjdaddmjpicflaaGreatDoor
