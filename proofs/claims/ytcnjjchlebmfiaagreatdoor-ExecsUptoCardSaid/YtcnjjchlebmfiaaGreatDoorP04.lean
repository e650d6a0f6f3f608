/-.-/
import Derived.Test.YtcnjjchlebmfiaaGreatDoorP01
import Derived.Lib.Split
import Derived.BigQuiet
import Derived.Deep.DeepCutAuto
set_option linter.all false
set_option maxRecDepth 100000
set_option maxHeartbeats 16000000
namespace Go.Proofs.YtcnjjchlebmfiaaGreatDoor
section
open Go.Lib
def pU(b:UInt8):List (List UInt8)→List (List UInt8)
 | []=>[[b]]
 | h::t=>(b::h)::t
def splitOn(c:UInt8):List UInt8→List (List UInt8)
 | []=>[[]]
 | b::l=>if b=c then[]::splitOn c l else pU b (splitOn c l)
theorem lH(c:UInt8):∀l,splitOn c l≠[]
 | []=>by simp[splitOn]
 | b::l=>by
   unfold splitOn;split
   ·simp
   ·cases splitOn c l<;>simp[pU]
theorem index_one(b c:UInt8)(l:List UInt8):index (b::l) [c]=if b=c then 0 else if index l [c] = -1 then -1 else index l [c]+1:=by
 rw[index];by_cases h:b=c
 ·subst h;simp
 ·have:List.isPrefixOf [c] (b::l)=false:=by
   rw[List.isPrefixOf_cons_cons,show(c==b)=false from dK (λe=>h e.symm)];rfl
  rw[this,if_neg h];by_cases h2:index l [c] = -1
  ·rw[if_pos h2];simp[h2]
  ·rw[if_neg h2];simp[h2]
theorem Fv(c:UInt8):∀s:List UInt8,split s [c]=splitOn c s
 | []=>by
   unfold split;rw[count_miss (by rfl)];rfl
 | b::l=>by
   have ih:=Fv c l;unfold split at ih⊢;unfold splitOn;have hi:=index_one b c l;by_cases h:b=c
   ·rw[if_pos h]at hi⊢
    have hc:=count_hit (s:=b::l) (sub:=[c]) (i:=0) (by simp) (by rw[hi];rfl);rw[hc,Nat.add_comm,splitK,hi];simp only[List.length_singleton,Nat.zero_add,List.drop_succ_cons,List.drop_zero]at ih⊢
    rw[←ih];simp
   ·rw[if_neg h]at hi⊢
    by_cases hm:index l [c] = -1
    ·rw[if_pos hm]at hi
     rw[count_miss hi,splitK];rw[count_miss hm,splitK]at ih;rw[←ih];rfl
    ·rw[if_neg hm]at hi
     have hge:=index_ge l [c];obtain⟨i,hii⟩:∃i:Nat,index l [c]=i:=⟨(index l [c]).toNat,by omega⟩;have hc1:=count_hit (s:=b::l) (sub:=[c]) (i:=i+1) (by simp) (by rw[hi,hii];omega);have hc2:=count_hit (s:=l) (sub:=[c]) (i:=i) (by simp) hii;simp only[List.length_singleton]at hc1 hc2
     rw[show(b::l).drop (i+1+1)=l.drop (i+1)from rfl]at hc1;rw[hc1,Nat.add_comm,splitK,hi,hii];rw[hc2,Nat.add_comm,splitK,hii]at ih;have h1:((i:Int)+1== -1)=false:=dK (by omega);have h2:((i:Int)== -1)=false:=dK (by omega);rw[h1];rw[h2]at ih;simp only[Bool.false_eq_true,if_false,List.length_singleton,Int.toNat_natCast,Nat.add_zero]at ih⊢
     rw[←ih,show((i:Int)+1).toNat=i+1 from by omega];rfl
def bC(l:List UInt8):Bool:=decide (1≤l.length)&&decide (l.length≤14)&&!(l==[46])&&!(l==[46,46])&&!decide ((0:UInt8)∈l)
def pathOf:List UInt8→Option (List (List UInt8))
 | []=>none
 | b::r=>if b=47∧r.length≤59 then(if r=[]then some []else if (splitOn 47 r).all bC then some (splitOn 47 r)else none)else none
theorem ji(b:UInt8)(r:List UInt8):pathOf (b::r)=if b=47∧r.length≤59 then(if r=[]then some []else if (splitOn 47 r).all bC then some (splitOn 47 r)else none)else none:=rfl
theorem qy(c:UInt8):∀l:List UInt8,∀x∈splitOn c l,c∉x
 | [],x,hx=>by simp[splitOn]at hx;subst hx;simp
 | b::l,x,hx=>by
   have ih:=qy c l;unfold splitOn at hx;split at hx
   ·rcases List.mem_cons.1 hx with rfl|hx
    ·simp
    ·exact ih x hx
   ·rename_i hb
    cases hs:splitOn c l with
    | nil=>exact absurd hs (lH c l)
    | cons h t=>
      rw[hs]at hx ih;simp only[pU]at hx
      rcases List.mem_cons.1 hx with rfl|hx
      ·intro hm
       rcases List.mem_cons.1 hm with rfl|hm
       ·exact hb rfl
       ·exact ih h (by simp) hm
      ·exact ih x (by simp[hx])
end
section
open Go.Proofs.Tryz Go.RowKit
def dU(l:List UInt8):Bool:=bC l&&!decide ((47:UInt8)∈l)
theorem jy(s:ByteArray)(i:Nat)(h:i<s.size):s.data.toList[i]?=some s[i]:=by
 rw[bT (by simpa using h)];rfl
theorem CQ(s:ByteArray)(w:World)(hs:s.size≤1000000) :
 Calls prog 319 #[s] w (Z.e (.bool (dU s.data.toList)) w):=by
 have hsz:s.data.toList.length=s.size:=by simp
 by_cases h1:s.size<1
 ·have HR:Hid (dU s.data.toList=false):=xh (by unfold dU bC;rw[hsz];simp[show ¬1≤s.size from by omega])
  have h1':(s.size:Int)<1:=by omega
  clear hsz h1;go_enter func319,ntmps319;go_wp2
  go_ret
  exact⟨by rw[HR.o];try rfl,rfl⟩
 by_cases h2:14<s.size
 ·have HR:Hid (dU s.data.toList=false):=xh (by unfold dU bC;rw[hsz];simp[show ¬s.size≤14 from by omega])
  have h1':¬(s.size:Int)<1:=by omega
  have h2':(14:Int)<(s.size:Int):=by omega
  clear hsz h1 h2;go_enter func319,ntmps319;go_wp2
  go_ret
  exact⟨by rw[HR.o];try rfl,rfl⟩
 have h1':¬(s.size:Int)<1:=by omega
 have h2':¬(14:Int)<(s.size:Int):=by omega
 cases h3:(s.toList==[46])with
 | true=>
   have HR:Hid (dU s.data.toList=false):=xh (by rw[ByteArray.toList_eq]at h3;unfold dU bC;rw[h3];simp);clear hsz h1 h2;go_enter func319,ntmps319;go_wp2
   go_ret
   exact⟨by rw[HR.o];try rfl,rfl⟩
 | false=>
   cases h4:(s.toList==[46,46])with
   | true=>
     have HR:Hid (dU s.data.toList=false):=xh (by rw[ByteArray.toList_eq]at h4;unfold dU bC;rw[h4];simp);clear hsz h1 h2;go_enter func319,ntmps319;go_wp2
     go_ret
     exact⟨by rw[HR.o];try rfl,rfl⟩
   | false=>
     have HB:Hid (dU s.data.toList=(!decide ((0:UInt8)∈s.data.toList)&&!decide ((47:UInt8)∈s.data.toList))):=xh (by
      rw[ByteArray.toList_eq]at h3 h4;unfold dU bC;rw[h3,h4,hsz];simp[show 1≤s.size from by omega,show s.size≤14 from by omega])
     have QA:=xh hsz;clear hsz h1 h2;go_enter func319,ntmps319;go_wp2
     go_loop [3] (λi=>∃k:Nat,k≤s.size∧i=.int .i64 k∧∀j,(hj:j<k)→(h:j<s.size)→s[j]≠0∧s[j]≠47) (λi=>s.size-(intOf i).toNat)
     case atStart=>exact⟨0,Nat.zero_le _,rfl,λj hj=>by omega⟩
     case round=>
      obtain⟨k,hk,rfl,hall⟩:=hrel;have nX:=xh hall;clear hall;by_cases hlt:k<s.size
      ·by_cases hz:((s[k].toNat:Nat):Int)=0
       ·have hzb:(((s[k].toNat:Nat):Int)==0)=true:=by simpa using hz
        have HR:Hid (dU s.data.toList=false):=xh (by
         have h0:s[k]=0:=UInt8.toNat_inj.1 (by show s[k].toNat=0;omega);have hm:(0:UInt8)∈s.data.toList:=by rw[←h0];exact List.mem_of_getElem? (jy s k hlt)
         rw[HB.o];simp[hm])
        clear hz;go_wp2
        go_ret
        exact⟨by rw[HR.o];try rfl,rfl⟩
       ·have hzb:(((s[k].toNat:Nat):Int)==0)=false:=by simpa using hz
        by_cases h47:((s[k].toNat:Nat):Int)=47
        ·have ac2:(((s[k].toNat:Nat):Int)==47)=true:=by simpa using h47
         have HR:Hid (dU s.data.toList=false):=xh (by
          have h0:s[k]=47:=UInt8.toNat_inj.1 (by show s[k].toNat=47;omega);have hm:(47:UInt8)∈s.data.toList:=by rw[←h0];exact List.mem_of_getElem? (jy s k hlt)
          rw[HB.o];simp[hm])
         clear hz h47;go_wp2
         go_ret
         exact⟨by rw[HR.o];try rfl,rfl⟩
        ·have ac2:(((s[k].toNat:Nat):Int)==47)=false:=by simpa using h47
         have HN:Hid (s[k]≠0∧s[k]≠47):=xh ⟨λe=>hz (by rw[e];rfl),λe=>h47 (by rw[e];rfl)⟩;clear hz h47;go_wp2
         go_round
         case rel=>exact⟨k+1,by omega,by go_num,λj hj h=>by
          by_cases e:j=k
          ·subst e;exact HN.o
          ·exact nX.o j (by omega) h⟩
         case measure=>simp[intOf]<;>omega
      ·obtain rfl:k=s.size:=by omega
       have HR:Hid (dU s.data.toList=true):=xh (by
        have hno:∀c:UInt8,(c=0∨c=47)→c∉s.data.toList:=λc hc hm=>by
         obtain⟨j,hj,he⟩:=List.getElem_of_mem hm;rw[QA.o]at hj;have h1:=nX.o j hj hj;have h2:=jy s j hj;rw[bT (by rw[QA.o];exact hj),he]at h2;have h3:=Option.some.inj h2;rcases hc with rfl|rfl
         ·exact h1.1 h3.symm
         ·exact h1.2 h3.symm
        rw[HB.o];simp[hno 0 (.inl rfl),hno 47 (.inr rfl)])
       go_wp2
       go_ret
       exact⟨by rw[HR.o];try rfl,rfl⟩
def Ko(w:List UInt8):List (List UInt8)→List (List UInt8)
 | []=>[w]
 | h::t=>(w++h)::t
theorem Uu(w:List UInt8)(c:UInt8)(L:List (List UInt8))(h:L≠[]):Ko w (pU c L)=Ko (w++[c]) L:=by
 cases L with
 | nil=>exact absurd rfl h
 | cons x t=>simp[pU,Ko]
theorem Kq(L:List (List UInt8))(h:L≠[]):Ko [] L=L:=by
 cases L with
 | nil=>exact absurd rfl h
 | cons x t=>simp[Ko]
def strV(l:List UInt8):Value:=.string ⟨l.toArray⟩
theorem jG:(prog.info? 9).map (λi=>(i.size,i.bytes,(i.zero.map (·.cells.size))))=some (1,16,some 1):=by kernel_rfl
def mF(l:List UInt8)(base:Nat)(e:Ending)(w':World):Prop:=
 (pathOf l=none→e=.returned (.tuple #[(),false]))∧(∀L,pathOf l=some L→∃v,e=.returned (.tuple #[v,true])∧w'.ownsRow base 9 1 v L.length (L.map strV))
theorem mF.none{l:List UInt8}{base:Nat}{w':World}(h:pathOf l=none):mF l base (.returned (.tuple #[(),false])) w':=⟨λ_=>rfl,λL hL=>(by rw[h]at hL;cases hL)⟩
theorem yI(s:ByteArray)(w:World)(hs:s.size≤1000000) :
 Calls prog 258 #[s] w λe w'=>mF s.data.toList w.heap.size e w'∧Bel w w':=by
 have hsz:s.data.toList.length=s.size:=by simp
 by_cases h1:60<s.size
 ·have HR:Hid (pathOf s.data.toList=none):=xh (by
   cases hl:s.data.toList with
   | nil=>rfl
   | cons b r=>rw[hl]at hsz;rw[ji,if_neg (λh=>by simp at hsz;omega)])
  have h1':(60:Int)<(s.size:Int):=by omega
  clear hsz;go_enter func258,ntmps258;go_wp2
  go_ret2
  exact⟨mF.none HR.o,Bel.refl _⟩
 by_cases h0:s.size=0
 ·have HR:Hid (pathOf s.data.toList=none):=xh (by
   cases hl:s.data.toList with
   | nil=>rfl
   | cons b r=>rw[hl]at hsz;simp at hsz;omega)
  have h1':¬(60:Int)<(s.size:Int):=by omega
  have h0':((s.size:Int)==0)=true:=by rw[h0];rfl
  clear hsz h0 h1;go_enter func258,ntmps258;go_wp2
  go_ret2
  exact⟨mF.none HR.o,Bel.refl _⟩
 have h1':¬(60:Int)<(s.size:Int):=by omega
 have h0':((s.size:Int)==0)=false:=dK (by omega);have hpos:0<s.size:=by omega
 have hgd:=jy s 0 hpos;obtain⟨b,r,hl⟩:∃b r,s.data.toList=b::r:=by
  cases hl:s.data.toList with
  | nil=>rw[hl]at hsz;simp at hsz;omega
  | cons b r=>exact⟨b,r,rfl⟩
 rw[hl]at hgd hsz;have hb:s[0]=b:=by simpa using hgd.symm
 have hrl:r.length+1=s.size:=by simpa using hsz
 by_cases h47:((s[0].toNat:Nat):Int)=47
 ·have ac2:(((s[0].toNat:Nat):Int) != 47)=false:=by simpa using h47
  have aaH:b=47:=by rw[←hb];exact UInt8.toNat_inj.1 (by show s[0].toNat=47;omega)
  cases hr:(s.toList==[47])with
  | true=>
    have HR:Hid (pathOf s.data.toList=some []):=xh (by
     rw[ByteArray.toList_eq]at hr;have hr':s.data.toList=[47]:=by simpa using hr
     rw[hr'];rfl)
    clear hsz h1 h0 hl hgd hb hrl h47 aaH;go_enter func258,ntmps258;go_wp2
    go_ret2
    exact⟨⟨λh=>(by rw[HR.o]at h;cases h),λL hL=>(by rw[HR.o]at hL;cases hL;exact⟨_,rfl,⟨rfl,.inl ⟨rfl,rfl⟩⟩⟩)⟩,Bel.refl _⟩
  | false=>
    have afB:r≠[]:=λe=>by
     rw[ByteArray.toList_eq,hl,e,aaH]at hr;simp at hr
    have HP:Hid (pathOf s.data.toList=if (splitOn 47 r).all bC then some (splitOn 47 r)else none):=xh (by
     rw[hl,ji,if_pos ⟨aaH,by omega⟩,if_neg afB])
    have LM:Hid (∀i,i+1<s.size→r[i]?=some (s[i+1]?.getD 0)):=xh (λi hi=>by
     have h:=jy s (i+1) hi;rw[hl,List.getElem?_cons_succ]at h;rw[h];simp[hi])
    have xC:=xh hrl;clear hsz h1 h0 hl hgd hb h47 aaH hrl afB;go_enter func258,ntmps258;go_wp2
    go_loopw [4,5,6] (λl x i wr=>∃(k:Nat) (done:List (List UInt8)) (wd:List UInt8),1≤k∧k≤s.size+1∧i=.int .i64 k∧x=strV wd∧wr.ownsRow w.heap.size 9 1 l done.length (done.map strV)∧Bel w wr∧(∀x∈done,bC x=true)∧done.length≤k∧wd.length≤k∧
     (k≤s.size→splitOn 47 r=done++Ko wd (splitOn 47 (r.drop (k-1))))∧(k=s.size+1→splitOn 47 r=done)) (λ_ _ i _=>s.size+1-(intOf i).toNat)
    case atStart=>exact⟨1,[],[],by omega,by omega,rfl,rfl,⟨rfl,.inl ⟨rfl,rfl⟩⟩,Bel.refl _,λx hx=>(by cases hx),by simp,by simp,λ_=>by rw[List.drop_zero,List.nil_append,Kq _ (lH _ _)],λh=>by omega⟩
    case round=>
     obtain⟨k,done,wd,hk1,hk,rfl,rfl,hrow,hbw,hdone,hdl,hwl,hinv,hend⟩:=hrel;have gU:=xh hrow;have pV:=xh hbw;have Qe:=xh hdone;have Vf:=xh hinv;have Zy:=xh hend;have hzw:=hbw.size;clear hrow hbw hdone hinv hend;by_cases hle:k≤s.size
     ·by_cases hkl:k<s.size
      ·have hdr:r.drop (k-1)=s[k]::r.drop k:=by
        have hch:=LM.o (k-1) (by omega);have hlt:k-1<r.length:=by have:=xC.o;omega
        rw[List.drop_eq_getElem_cons hlt,show k-1+1=k from by omega];rw[show k-1+1=k from by omega,bT hlt]at hch;rw[Option.some.inj hch];congr 1
        simp[hkl]
       have HDR:=xh hdr;have hkl':(k:Int)<(s.size:Int):=by omega
       have hle':(k:Int)≤(s.size:Int):=by omega
       clear hdr;by_cases hc:((s[k].toNat:Nat):Int)=47
       ·have hcb:(((s[k].toNat:Nat):Int) != 47)=false:=by simpa using hc
        have aia:Hid (s[k]=47):=xh (UInt8.toNat_inj.1 (by show s[k].toNat=47;omega));have Yk:Hid (splitOn 47 r=done++[wd]++splitOn 47 (r.drop k)):=xh (by
         rw[Vf.o hle,HDR.o,aia.o,splitOn,if_pos rfl];simp[Ko])
        clear hc;have xu:Hid (∀W,Calls prog 319 #[strV wd] W (Z.e (.bool (dU wd)) W)):=xh (λW=>CQ ⟨wd.toArray⟩ W (by show wd.toArray.size≤1000000;simp;omega));cases hnm:dU wd with
        | false=>
          rw[hnm]at xu;have HBAD:Hid (pathOf s.data.toList=none):=xh (by
           rw[HP.o,if_neg];intro hall;have hm:wd∈splitOn 47 r:=by rw[Yk.o];simp
           have h1:=List.all_eq_true.1 hall wd hm;have h2:=qy 47 r wd hm;unfold dU at hnm;rw[h1]at hnm;simp[h2]at hnm)
          clear hnm;go_wp2_with (go_at_call 319;with_reducible refine aH (xu.o _) ?_;rintro e wx ⟨rfl,rfl⟩)
          go_ret2
          exact⟨mF.none HBAD.o,pV.o⟩
        | true=>
          rw[hnm]at xu;have ac3:Hid (bC wd=true):=xh (by unfold dU at hnm;rw[Bool.and_eq_true]at hnm;exact hnm.1);clear hnm;generalize hsv:strV wd=sv at *
          have HSV:=xh hsv;clear hsv
          go_wp2_with (first
           | (go_at_call 319;with_reducible refine aH (xu.o _) ?_;rintro e wx ⟨rfl,rfl⟩)
           | (refine au rfl 66 9 (.tmp 52) rfl [sv] (by rw[←HSV.o];rfl) underlying66 jG (by show 0<1;omega) (by show 1≤2^24;omega) ?_;intro w5 B5 K5)
           | (refine bu rfl (.tmp 51) (.tmp 53) 66 rfl underlying66 jG (by omega) rfl (aO gU.o K5) _ [sv] 9 rfl B5.out rfl (by intro v hv;simp at hv;rcases hv with rfl;rw[←HSV.o];rfl) (by unfold maxLen;omega) (by omega) (bU hzw K5.size) ?_;intro v6 w6 R6 K6))
          refine⟨⟨k+1,done++[wd],[],by omega,by omega,by go_num,rfl,?_,(pV.o.tr K5).trans (K6.below _ (bU hzw K5.size) λi hi=>hi),?_,by simp;omega,by simp,?_,?_⟩,by simp only[intOf];omega⟩
          ·rw[List.length_append,List.map_append,List.map_cons,List.map_nil,HSV.o];exact R6
          ·intro x hx
           rcases List.mem_append.1 hx with hx|hx
           ·exact Qe.o x hx
           ·obtain rfl:=List.mem_singleton.1 hx
            exact ac3.o
          ·intro h;rw[Yk.o,show k+1-1=k from by omega,Kq _ (lH _ _)]
          ·intro h;omega
       ·have hcb:(((s[k].toNat:Nat):Int) != 47)=true:=by simpa using hc
        have nZ:Hid (s[k]≠47):=xh (λe=>hc (by rw[e];rfl));have afC:s.extract k (k+1)=⟨[s[k]].toArray⟩:=by
         apply ByteArray.ext
         rw[ByteArray.data_extract];apply Array.toList_inj.1
         rw[Array.toList_extract];apply List.ext_getElem?
         intro i;rcases i with _|i
         ·have:=jy s k hkl
          simp[List.extract,List.getElem?_take,List.getElem?_drop]<;>simpa using this
         ·simp[List.extract,List.getElem?_take,List.getElem?_drop]<;>omega
        have aib:∀W:World,(Instr.slice 9 (.string s) (some (.int .i64 (k:Int))) (some (.int .i64 ((k:Int)+1))) none).run prog W=.ok (.string ⟨[s[k]].toArray⟩) W:=by
         intro W;have h:=run_slice_string (P:=prog) W 9 s .i64 .i64 (k:Int) ((k:Int)+1) underlying9 (by omega) (by omega) (by omega);rw[h,←afC];congr 2
        have hadd:∀W:World,(Op.stringOp .add ⟨wd.toArray⟩ ⟨[s[k]].toArray⟩).run prog W=.ok (.string ⟨(wd++[s[k]]).toArray⟩) W:=λW=>run_string_add_lists W wd [s[k]] (by omega) (by simp);clear hc afC;have hsw:strV wd=.string ⟨wd.toArray⟩:=rfl;have YW:Hid (Value.string ⟨(wd++[s[k]]).toArray⟩=strV (wd++[s[k]])):=xh rfl;rw[hsw];generalize (⟨wd.toArray⟩:ByteArray)=wa at *
        generalize (⟨[s[k]].toArray⟩:ByteArray)=ck at *
        generalize (⟨(wd++[s[k]]).toArray⟩:ByteArray)=yb at *
        clear hsw;go_wp2
        go_roundw
        case rel=>exact⟨k+1,done,wd++[s[k]],by omega,by omega,by go_num,YW.o,gU.o,pV.o,Qe.o,by omega,by simp;omega,λh=>by
         have hi:=Vf.o (by omega);rw[HDR.o]at hi;rw[hi,show k+1-1=k from by omega,splitOn,if_neg nZ.o,Uu _ _ _ (lH _ _)],λh=>by omega⟩
        case measure=>simp[intOf]<;>omega
      ·obtain rfl:k=s.size:=by omega
       have Yk:Hid (splitOn 47 r=done++[wd]):=xh (by
        rw[Vf.o (bM _),List.drop_of_length_le (by have:=xC.o;omega),splitOn];simp[Ko])
       have hle':(s.size:Int)≤(s.size:Int):=Int.le_refl _;have hlt':¬(s.size:Int)<(s.size:Int):=by omega
       have xu:Hid (∀W,Calls prog 319 #[strV wd] W (Z.e (.bool (dU wd)) W)):=xh (λW=>CQ ⟨wd.toArray⟩ W (by show wd.toArray.size≤1000000;simp;omega));cases hnm:dU wd with
       | false=>
         rw[hnm]at xu;have HBAD:Hid (pathOf s.data.toList=none):=xh (by
          rw[HP.o,if_neg];intro hall;have hm:wd∈splitOn 47 r:=by rw[Yk.o];simp
          have h1:=List.all_eq_true.1 hall wd hm;have h2:=qy 47 r wd hm;unfold dU at hnm;rw[h1]at hnm;simp[h2]at hnm)
         clear hnm;go_wp2_with (go_at_call 319;with_reducible refine aH (xu.o _) ?_;rintro e wx ⟨rfl,rfl⟩)
         go_ret2
         exact⟨mF.none HBAD.o,pV.o⟩
       | true=>
         rw[hnm]at xu;have ac3:Hid (bC wd=true):=xh (by unfold dU at hnm;rw[Bool.and_eq_true]at hnm;exact hnm.1);clear hnm;generalize hsv:strV wd=sv at *
         have HSV:=xh hsv;clear hsv
         go_wp2_with (first
          | (go_at_call 319;with_reducible refine aH (xu.o _) ?_;rintro e wx ⟨rfl,rfl⟩)
          | (refine au rfl 66 9 (.tmp 52) rfl [sv] (by rw[←HSV.o];rfl) underlying66 jG (by show 0<1;omega) (by show 1≤2^24;omega) ?_;intro w5 B5 K5)
          | (refine bu rfl (.tmp 51) (.tmp 53) 66 rfl underlying66 jG (by omega) rfl (aO gU.o K5) _ [sv] 9 rfl B5.out rfl (by intro v hv;simp at hv;rcases hv with rfl;rw[←HSV.o];rfl) (by unfold maxLen;omega) (by omega) (bU hzw K5.size) ?_;intro v6 w6 R6 K6))
         refine⟨⟨s.size+1,done++[wd],[],by omega,by omega,by go_num,rfl,?_,(pV.o.tr K5).trans (K6.below _ (bU hzw K5.size) λi hi=>hi),?_,by simp;omega,by simp,?_,?_⟩,by simp only[intOf];omega⟩
         ·rw[List.length_append,List.map_append,List.map_cons,List.map_nil,HSV.o];exact R6
         ·intro x hx
          rcases List.mem_append.1 hx with hx|hx
          ·exact Qe.o x hx
          ·obtain rfl:=List.mem_singleton.1 hx
           exact ac3.o
         ·intro h;omega
         ·intro h;exact Yk.o
     ·obtain rfl:k=s.size+1:=by omega
      have jW:Hid (pathOf s.data.toList=some done):=xh (by
       rw[HP.o,Zy.o rfl,if_pos (List.all_eq_true.2 Qe.o)])
      have hgt:¬((s.size:Int)+1≤(s.size:Int)):=by omega
      go_wp2
      go_ret2
      exact⟨⟨λh=>(by rw[jW.o]at h;cases h),λL hL=>(by rw[jW.o]at hL;cases hL;exact⟨_,rfl,gU.o⟩)⟩,pV.o⟩
 ·have ac2:(((s[0].toNat:Nat):Int) != 47)=true:=by simpa using h47
  have HR:Hid (pathOf s.data.toList=none):=xh (by
   rw[hl,ji,if_neg (λh=>h47 (by rw[hb,h.1];rfl))])
  clear hsz h1 h0 hl hgd hb hrl h47;go_enter func258,ntmps258;go_wp2
  go_ret2
  exact⟨mF.none HR.o,Bel.refl _⟩
structure Nd where
 par:Nat
 name:ByteArray
 dir:Bool
 byt:List Int
 bv:Value
def Nd.cells(i:Nat)(n:Nd):List Value:=[.int .i64 (i+1:Nat),.int .i64 n.par,.string n.name,.bool n.dir,n.bv]
def oO(w:World)(kb g cap:Nat)(L:List Nd):Prop:=
 w.cell? (kb,7)=some (.slice (g,0) L.length cap)∧L.length≤cap∧∀i n,L[i]?=some n→w.rangeAt g (i*5) (n.cells i)
def iL(d:Nat)(s:ByteArray):Nat→List Nd→Nat
 | _,[]=>0
 | i,n::L=>if n.par=d∧n.name=s then i+1 else iL d s (i+1) L
def child(L:List Nd)(d:Nat)(s:ByteArray):Nat:=iL d s 0 L
theorem sS(kb g cap:Nat)(L:List Nd)(w:World)(ht:oO w kb g cap L)(id:Nat)(h1:1≤id)(h2:id≤L.length)(hl:L.length≤1000000) :
 Calls prog 185 #[kb,.int .i64 id] w (Z.e (.int .i64 ((id-1:Nat):Int)) w):=by
 obtain⟨hc,hcap,hr⟩:=ht;have HR:=xh hr;clear hr;go_enter func185,ntmps185;go_wp2
 go_loop [5] (λi=>∃k:Nat,k<id∧i=.int .i64 k) (λi=>L.length-(intOf i).toNat)
 case atStart=>exact⟨0,by omega,rfl⟩
 case round=>
  obtain⟨k,hk,rfl⟩:=hrel;have hkl:k<L.length:=by omega
  have hr:=HR.o k L[k] (bT hkl);have c0:w.cell? (g,k*5)=some (.int .i64 ((k+1:Nat):Int)):=hr 0 _ rfl;clear hr;by_cases he:id=k+1
  ·subst he
   have hb:(((k+1:Nat):Int)==((k+1:Nat):Int))=true:=by simp
   go_wp2
   go_ret
   exact⟨by simp,rfl⟩
  ·have hb:(((k+1:Nat):Int)==(id:Int))=false:=dK (by omega)
   go_wp2
   go_round
   case rel=>exact⟨k+1,by omega,by go_num⟩
   case measure=>simp[intOf]<;>omega
theorem QJ(kb g cap:Nat)(L:List Nd)(w:World)(ht:oO w kb g cap L)(d:Nat)(s:ByteArray)(hl:L.length≤1000000) :
 Calls prog 259 #[kb,.int .i64 d,s] w (Z.e (.int .i64 (child L d s:Nat)) w):=by
 obtain⟨hc,hcap,hr⟩:=ht;have HR:=xh hr;clear hr;go_enter func259,ntmps259;go_wp2
 go_loop [7] (λi=>∃k:Nat,k≤L.length∧i=.int .i64 k∧child L d s=iL d s k (L.drop k)) (λi=>L.length-(intOf i).toNat)
 case atStart=>exact⟨0,by omega,rfl,by rfl⟩
 case round=>
  obtain⟨k,hk,rfl,hch⟩:=hrel;have HCH:=xh hch;clear hch;by_cases hkl:k<L.length
  ·have hr:=HR.o k L[k] (bT hkl)
   have hd:L.drop k=L[k]::L.drop (k+1):=List.drop_eq_getElem_cons hkl;have HD:=xh hd;clear hd;generalize L[k]=n at *
   obtain⟨np,nn,nd,nb,nv⟩:=n;have c0:w.cell? (g,k*5)=some (.int .i64 ((k+1:Nat):Int)):=hr 0 _ rfl;have c1:w.cell? (g,k*5+1)=some (.int .i64 (np:Int)):=hr 1 _ rfl;have c2:w.cell? (g,k*5+2)=some (.string nn):=hr 2 _ rfl;clear hr;by_cases hp:np=d
   ·by_cases hn:nn=s
    ·have HE:Hid (child L d s=k+1):=xh (by rw[HCH.o,HD.o,iL,if_pos ⟨hp,hn⟩])
     subst hp hn;have hnb:(nn.toList==nn.toList)=true:=beq_self_eq_true _;go_wp2
     go_ret
     exact⟨by rw[HE.o];rfl,rfl⟩
    ·have HE:Hid (child L d s=iL d s (k+1) (L.drop (k+1))):=xh (by rw[HCH.o,HD.o,iL,if_neg (λh=>hn h.2)])
     subst hp;have hnb:(nn.toList==s.toList)=false:=dK (λe=>hn (by rw[ByteArray.toList_eq,ByteArray.toList_eq]at e;exact ByteArray.ext (Array.toList_inj.1 e)));clear hn;go_wp2
     go_round
     case rel=>exact⟨k+1,by omega,by go_num,HE.o⟩
     case measure=>simp[intOf]<;>omega
   ·have HE:Hid (child L d s=iL d s (k+1) (L.drop (k+1))):=xh (by rw[HCH.o,HD.o,iL,if_neg (λh=>hp h.1)])
    have hpb:((np:Int)==(d:Int))=false:=dK (by omega);go_wp2
    go_round
    case rel=>exact⟨k+1,by omega,by go_num,HE.o⟩
    case measure=>simp[intOf]<;>omega
  ·obtain rfl:k=L.length:=by omega
   have HE:Hid (child L d s=0):=xh (by rw[HCH.o,List.drop_length];rfl);go_wp2
   go_ret
   exact⟨by rw[HE.o];rfl,rfl⟩
theorem kL{fn:Func}{t u v x:Tmp}(h:fn.results = #[.tmp t,.tmp u,.tmp v,.tmp x])(tmps:Array Value)(P:Program)(w:World) :
 (results fn tmps).run P w=.ok (.tuple #[tmps.getD t undef,tmps.getD u undef,tmps.getD v undef,tmps.getD x undef]) w:=by
 simp[results,h]
theorem oJ(c:UInt8):∀l:List UInt8,(splitOn c l).length≤l.length+1
 | []=>by simp[splitOn]
 | b::l=>by
   have ih:=oJ c l;unfold splitOn;split
   ·simp;omega
   ·cases hs:splitOn c l with
    | nil=>exact absurd hs (lH c l)
    | cons h t=>rw[hs]at ih;simp[pU]at ih⊢;omega
theorem OW{s:List UInt8}{l:List (List UInt8)}(h:pathOf s=some l):l.length≤60:=by
 cases s with
 | nil=>cases h
 | cons b r=>
   rw[ji]at h;split at h
   ·rename_i hb
    split at h
    ·cases h;simp
    ·split at h
     ·cases h;have:=oJ 47 r;omega
     ·cases h
   ·cases h
theorem FK(d:Nat)(s:ByteArray):∀(i:Nat) (L:List Nd),iL d s i L≤i+L.length
 | _,[]=>by simp[iL]
 | i,n::L=>by
   have ih:=FK d s (i+1) L;unfold iL;split<;>simp<;>omega
theorem wY(L:List Nd)(d:Nat)(s:ByteArray):child L d s≤L.length:=by have:=FK d s 0 L;unfold child;omega
def isDir(L:List Nd)(n:Nat):Bool:=(L[n-1]?.map Nd.dir).getD false
def eu(L:List Nd):Nat→List (List UInt8)→Nat×ByteArray×Nat×Nat
 | _,[]=>(0,⟨#[]⟩,1,0)
 | d,[x]=>(d,⟨x.toArray⟩,child L d ⟨x.toArray⟩,0)
 | d,x::y::t=>if child L d ⟨x.toArray⟩=0 then(0,⟨#[]⟩,0,9)else if isDir L (child L d ⟨x.toArray⟩)then eu L (child L d ⟨x.toArray⟩) (y::t)else(0,⟨#[]⟩,0,11)
def az(L:List Nd)(s:List UInt8):Nat×ByteArray×Nat×Nat:=
 match pathOf s with
 | none=>(0,⟨#[]⟩,0,8)
 | some l=>eu L 1 l
def PZ(r:Nat×ByteArray×Nat×Nat):Value:=.tuple #[.int .i64 r.1,.string r.2.1,.int .i64 r.2.2.1,.int .i64 r.2.2.2]
theorem af{w w':World}{a:Addr}{v:Value}(hb:Bel w w')(h:w.cell? a=some v):w'.cell? a=some v:=(hb.cell (World.block_lt_of_cell? _ _ h)).trans h
theorem oO.bel{w w':World}{kb g cap:Nat}{L:List Nd}(h:oO w kb g cap L)(hb:Bel w w'):oO w' kb g cap L:=
 ⟨af hb h.1,h.2.1,λi n hi j v hv=>af hb (h.2.2 i n hi j v hv)⟩
theorem YR(s:ByteArray)(w:World)(hs:s.size≤1000000)(l:List (List UInt8))(hl:pathOf s.data.toList=some l)(h0:l≠[]) :
 Calls prog 258 #[s] w λe w'=>(∃g cap,e=.returned (.tuple #[.slice (g,0) l.length cap,true])∧l.length≤cap∧∀j x,l[j]?=some x→w'.cell? ⟨g,j,none⟩=some (.string ⟨x.toArray⟩))∧Bel w w':=by
 refine(yI s w hs).mono ?_;rintro e w' ⟨⟨_,h⟩,hb⟩;obtain⟨v,rfl,hrow⟩:=h l hl;obtain⟨p,cap,rfl,hc,_,hp⟩:=aG hrow;have hpos:0<l.length:=List.length_pos_iff.2 h0;obtain⟨g,rfl,_,_,hcl,_⟩:=hp.resolve_left (by omega);refine⟨⟨g,cap,rfl,hc,λj x hx=>?_⟩,hb⟩;have hj:=(bV hx).1;rw[hcl j (by simpa using hj),fA,hx];rfl
theorem OX(s:ByteArray)(w:World)(hs:s.size≤1000000)(hl:pathOf s.data.toList=some []) :
 Calls prog 258 #[s] w λe w'=>(∃p cap,e=.returned (.tuple #[.slice p 0 cap,true]))∧Bel w w':=by
 refine(yI s w hs).mono ?_;rintro e w' ⟨⟨_,h⟩,hb⟩;obtain⟨v,rfl,hrow⟩:=h [] hl;obtain⟨p,cap,rfl,_⟩:=aG hrow;exact⟨⟨p,cap,rfl⟩,hb⟩
theorem walk_any(kb g cap:Nat)(L:List Nd)(w:World)(ht:oO w kb g cap L)(s:ByteArray)(hs:s.size≤1000000)(hl:L.length≤1000000) :
 Calls prog 183 #[kb,s] w (Z.b (PZ (az L s.data.toList)) w):=by
 cases hp:pathOf s.data.toList with
 | none=>
   have HN:=xh ((yI s w hs).mono (λe w' h=>(⟨h.1.1 hp,h.2⟩:e=.returned (.tuple #[(),false])∧Bel w w')));have HR:Hid (az L s.data.toList=(0,⟨#[]⟩,0,8)):=xh (by unfold az;rw[hp]);clear hp;go_enter func183,ntmps183;go_wp2_with (go_at_call 258;with_reducible refine aH HN.o ?_;rintro e w1 ⟨rfl,k1⟩)
   ((try simp only[Exit.inBlock,Exit.then]);refine bodyPost_ret (kL rfl _ _ _) rfl ?_)
   exact⟨by rw[HR.o];rfl,k1⟩
 | some l=>
   have hll:=OW hp;by_cases h0:l=[]
   ·subst h0
    have HN:=xh (OX s w hs hp);have HR:Hid (az L s.data.toList=(0,⟨#[]⟩,1,0)):=xh (by unfold az;rw[hp];rfl);clear hp;go_enter func183,ntmps183;go_wp2_with (go_at_call 258;with_reducible refine aH HN.o ?_;rintro e w1 ⟨⟨p,c1,rfl⟩,k1⟩)
    ((try simp only[Exit.inBlock,Exit.then]);refine bodyPost_ret (kL rfl _ _ _) rfl ?_)
    exact⟨by rw[HR.o];rfl,k1⟩
   ·have HN:=xh (YR s w hs l hp h0)
    have HR:Hid (az L s.data.toList=eu L 1 l):=xh (by unfold az;rw[hp]);have hpos:0<l.length:=List.length_pos_iff.2 h0;have hne:((l.length:Int)==0)=false:=dK (by omega);have HCH:Hid (∀d s W,Bel w W→_):=xh λd s W hW=>QJ kb g cap L W (ht.bel hW) d s hl;have Dq:Hid (∀id W,1≤id→id≤L.length→Bel w W→_):=xh λid W h1 h2 hW=>sS kb g cap L W (ht.bel hW) id h1 h2 hl;have HT:=xh ht;clear hp h0 ht;go_enter func183,ntmps183;go_wp2_with (go_at_call 258;with_reducible refine aH HN.o ?_;rintro e w1 ⟨⟨g1,c1,rfl,hc1,hcl⟩,k1⟩)
    have jK:=xh hcl;have K1:=xh k1;clear hcl k1
    go_loop [10,11] (λdd i=>∃k d:Nat,k<l.length∧i=.int .i64 k∧dd=.int .i64 d∧eu L 1 l=eu L d (l.drop k)) (λ_ i=>l.length-(intOf i).toNat)
    case atStart=>exact⟨0,1,hpos,rfl,rfl,by rfl⟩
    case round=>
     obtain⟨k,d,hk,rfl,rfl,hw⟩:=hrel;have HW:=xh hw;clear hw;have c0:=jK.o k l[k] (bT hk);have hd:l.drop k=l[k]::l.drop (k+1):=List.drop_eq_getElem_cons hk;generalize l[k]=x at *
     have HC:=xh (HCH.o d ⟨x.toArray⟩ w1 K1.o);have HLE:=wY L d ⟨x.toArray⟩;by_cases hk1:k+1<l.length
     ·have hd2:l.drop (k+1)=l[k+1]::l.drop (k+2):=List.drop_eq_getElem_cons hk1
      have HW2:Hid (eu L 1 l=if child L d ⟨x.toArray⟩=0 then(0,⟨#[]⟩,0,9)else if isDir L (child L d ⟨x.toArray⟩)then eu L (child L d ⟨x.toArray⟩) (l.drop (k+1))else(0,⟨#[]⟩,0,11)):=xh (by
       rw[HW.o,hd,hd2];rfl)
      clear hd hd2 HW;generalize (⟨x.toArray⟩:ByteArray)=xs at *
      generalize child L d xs=n at *
      by_cases hn:n=0
      ·have HE:Hid (eu L 1 l=(0,⟨#[]⟩,0,9)):=xh (by rw[HW2.o,if_pos hn])
       subst hn;go_wp2_with (go_at_call 259;with_reducible refine aH HC.o ?_;rintro e w2 ⟨rfl,rfl⟩)
       ((try simp only[Exit.inBlock,Exit.then]);refine bodyPost_ret (kL rfl _ _ _) rfl ?_)
       exact⟨by rw[HR.o,HE.o];rfl,K1.o⟩
      ·have hnb:((n:Int)==0)=false:=dK (by omega)
       have HI:=xh (Dq.o n w1 (by omega) HLE K1.o);have hlt:n-1<L.length:=by omega
       have hr:=(HT.o.bel K1.o).2.2 (n-1) L[n-1] (bT hlt);have hct:=(HT.o.bel K1.o).1;have hcc:=HT.o.2.1;have HDI:Hid (isDir L n=L[n-1].dir):=xh (by unfold isDir;rw[bT hlt];rfl);generalize L[n-1]=nd at *
       obtain⟨np,nn,ndd,nb,nv⟩:=nd;have c3:w1.cell? (g,(n-1)*5+3)=some (.bool ndd):=hr 3 _ rfl;clear hr;cases ndd with
       | false=>
         have HE:Hid (eu L 1 l=(0,⟨#[]⟩,0,11)):=xh (by rw[HW2.o,if_neg hn,HDI.o];rfl);clear hn
         go_wp2_with (first
          | (go_at_call 259;with_reducible refine aH HC.o ?_;rintro e w2 ⟨rfl,rfl⟩)
          | (go_at_call 185;with_reducible refine aH HI.o ?_;rintro e w2 ⟨rfl,rfl⟩))
         ((try simp only[Exit.inBlock,Exit.then]);refine bodyPost_ret (kL rfl _ _ _) rfl ?_)
         exact⟨by rw[HR.o,HE.o];rfl,K1.o⟩
       | true=>
         have HE:Hid (eu L 1 l=eu L n (l.drop (k+1))):=xh (by rw[HW2.o,if_neg hn,HDI.o];rfl);clear hn
         go_wp2_with (first
          | (go_at_call 259;with_reducible refine aH HC.o ?_;rintro e w2 ⟨rfl,rfl⟩)
          | (go_at_call 185;with_reducible refine aH HI.o ?_;rintro e w2 ⟨rfl,rfl⟩))
         go_round
         case rel=>exact⟨k+1,n,hk1,by go_num,rfl,HE.o⟩
         case measure=>simp[intOf]<;>omega
     ·have hkk:k=l.length-1:=by omega
      have hdn:l.drop (k+1)=[]:=List.drop_of_length_le (by omega);have HE:Hid (eu L 1 l=(d,⟨x.toArray⟩,child L d ⟨x.toArray⟩,0)):=xh (by rw[HW.o,hd,hdn];rfl);have hge:¬((k:Int)<(l.length:Int)-1):=by omega
      have c0':w1.cell? (g1,l.length-1)=some (.string ⟨x.toArray⟩):=by rw[←hkk];exact c0
      clear c0;clear hd hdn HW;generalize (⟨x.toArray⟩:ByteArray)=xs at *
      go_wp2_with (go_at_call 259;with_reducible refine aH HC.o ?_;rintro e w2 ⟨rfl,rfl⟩)
      ((try simp only[Exit.inBlock,Exit.then]);refine bodyPost_ret (kL rfl _ _ _) rfl ?_)
      exact⟨by rw[HR.o,HE.o];rfl,K1.o⟩
end
section
open Go.RowKit
def oI(N:List Nd):Nat→Nat→List UInt8
 | 0,_=>[]
 | f+1,id=>if id≤1 then[]else match N[id-1]? with
   | none=>[]
   | some n=>oI N f n.par++(47::n.name.data.toList)
def dW(N:List Nd)(id:Nat):List UInt8:=oI N id id
def Down(N:List Nd):Prop:=∀(i:Nat) (n:Nd),N[i]?=some n→n.par≤i
theorem CX{N:List Nd}(h:Down N):∀(f g id:Nat),id≤f→id≤g→oI N f id=oI N g id
 | 0,g,id,hf,_=>by
   obtain rfl:id=0:=by omega
   cases g<;>simp[oI]
 | f+1,0,id,_,hg=>by
   obtain rfl:id=0:=by omega
   simp[oI]
 | f+1,g+1,id,hf,hg=>by
   unfold oI;by_cases h1:id≤1
   ·rw[if_pos h1,if_pos h1]
   ·rw[if_neg h1,if_neg h1]
    cases hn:N[id-1]? with
    | none=>rfl
    | some n=>
      have:=h (id-1) n hn;simp only
      rw[CX h f g n.par (by omega) (by omega)]
theorem nK(N:List Nd){id:Nat}(h:id≤1):dW N id=[]:=by
 unfold dW;cases id with
 | zero=>rfl
 | succ k=>rw[oI,if_pos h]
theorem jc{N:List Nd}(h:Down N){id:Nat}{n:Nd}(h1:1<id)(hn:N[id-1]?=some n):dW N id=dW N n.par++(47::n.name.data.toList):=by
 unfold dW;cases id with
 | zero=>omega
 | succ k=>
   rw[oI,if_neg (by omega),hn];simp only
   have:=h _ n hn;rw[CX h k n.par n.par (by omega) (bM _)]
theorem yJ{N:List Nd}(h:Down N)(hs:∀n∈N,n.name.size≤1000):∀(f id:Nat),id≤f→(dW N id).length≤1001*id
 | 0,id,hf=>by
   obtain rfl:id=0:=by omega
   simp[dW,oI]
 | f+1,id,hf=>by
   by_cases h1:id≤1
   ·rw[nK N h1];simp
   ·cases hn:N[id-1]? with
    | none=>
      unfold dW;cases id with
      | zero=>omega
      | succ k=>rw[oI,if_neg h1,hn];simp
    | some n=>
      rw[jc h (by omega) hn];have h2:=h (id-1) n hn;have h3:=yJ h hs f n.par (by omega);have h4:=hs n (List.mem_of_getElem? hn);simp only[List.length_append,List.length_cons,Array.length_toList]
      have h5:n.name.data.size≤1000:=h4;omega
end
section
open Go.Proofs.Tryz Go.RowKit
theorem TV(kb g cap:Nat)(L:List Nd)(w:World)(ht:oO w kb g cap L)(id:Nat)(h2:id≤L.length)(hl:L.length≤8000)(hd:Down L)(hs:∀n∈L,n.name.size≤1000) :
 Calls prog 117 #[kb,.int .i64 id] w (Z.e (strV (dW L id)) w):=by
 have Dq:=xh λk (h1:1≤k) (h2:k≤L.length)=>sS kb g cap L w ht k h1 h2 (by omega);have hlen:=yJ hd hs id id (bM _);obtain⟨hc,hcap,hr⟩:=ht;have HR:=xh hr;have HD:=xh hd;have HS:=xh hs;have HC:=xh hc;clear hr hd hs hc;go_enter func117,ntmps117;go_wp2_with fail
 go_loop [1,5] (λi s=>∃(k:Nat) (l:List UInt8),k≤id∧i=.int .i64 k∧s=strV l∧Hid (dW L id=dW L k++l)) (λi _=>(intOf i).toNat)
 case atStart=>exact⟨id,[],bM _,rfl,rfl,xh (by simp)⟩
 case round=>
  obtain⟨k,l,hk,rfl,rfl,HL⟩:=hrel;have hll:l.length≤1001*id:=by have:=congrArg List.length HL.out;simp at this;omega
  by_cases hlt:1<k
  ·have hkl:k-1<L.length:=by omega
   have hx:=bT hkl;have hs1:=HS.o L[k-1] (List.getElem_mem hkl);have hd1:=HD.o (k-1) _ hx;have HST:=xh (jc HD.o hlt hx);have hrg:=HR.o (k-1) _ hx;generalize L[k-1]=n at *
   have c1:w.cell? (g,(k-1)*5+1)=some (.int .i64 (n.par:Int)):=hrg 1 _ rfl;have c2:w.cell? (g,(k-1)*5+2)=some (.string n.name):=hrg 2 _ rfl;have hnn:n.name=⟨n.name.data.toList.toArray⟩:=by cases n.name;rfl
   have hns:n.name.data.toList.length≤1000:=by simpa using hs1
   obtain⟨nl,hnl⟩:=e_x n.name.data.toList;rw[hnl]at hnn HST hns;rw[hnn]at c2;have ha1:∀W:World,(Op.stringOp .add ⟨#[47]⟩ ⟨nl.toArray⟩).run prog W=.ok (.string ⟨(47::nl).toArray⟩) W:=λW=>run_string_add_lists W [47] nl (by simp) (by omega);have ha2:∀W:World,(Op.stringOp .add ⟨(47::nl).toArray⟩ ⟨l.toArray⟩).run prog W=.ok (.string ⟨((47::nl)++l).toArray⟩) W:=λW=>run_string_add_lists W (47::nl) l (by simp;omega) (by omega);have hsv:strV l=.string ⟨l.toArray⟩:=rfl;have YW:Hid (Value.string ⟨((47::nl)++l).toArray⟩=strV ((47::nl)++l)):=xh rfl;rw[hsv];generalize (⟨l.toArray⟩:ByteArray)=s1 at *
   generalize (⟨nl.toArray⟩:ByteArray)=s2 at *
   generalize (⟨(47::nl).toArray⟩:ByteArray)=s3 at *
   generalize (⟨((47::nl)++l).toArray⟩:ByteArray)=s4 at *
   have HI:=xh (Dq.o k (by omega) (by omega));have hc:=HC.o;have aic:(1:Int)<(k:Int):=by omega
   clear hnn hsv hx hrg hs1 hnl;go_wp2_with (go_at_call 185;((with_reducible refine aH HI.o ?_);rintro e wx ⟨rfl,rfl⟩))
   go_round
   case rel=>exact⟨n.par,(47::nl)++l,by omega,rfl,YW.o,xh (by rw[HL.out,HST.o,List.append_assoc])⟩
   case measure=>simp[intOf];omega
  ·have aic:¬(1:Int)<(k:Int):=by omega
   have HE:Hid (strV l=strV (dW L id)):=xh (by rw[HL.out,nK L (by omega)];rfl);go_wp2_with fail
   go_ret
   exact⟨by rw[HE.o];rfl,rfl⟩
end
end Go.Proofs.YtcnjjchlebmfiaaGreatDoor
