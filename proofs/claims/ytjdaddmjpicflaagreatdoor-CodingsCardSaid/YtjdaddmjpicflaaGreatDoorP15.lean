/- The document's Stack. -/
import Derived.Lib.BufferWrite
import Derived.Test.YtjdaddmjpicflaaGreatDoorP14
import Derived.Test.YtjdaddmjpicflaaGreatDoorP13
set_option linter.unusedVariables false
set_option linter.unusedSimpArgs false
set_option maxRecDepth 100000
set_option maxHeartbeats 16000000
namespace Go.Proofs.YtjdaddmjpicflaaGreatDoor
open Go.RowKit Go.Maps
theorem SS.at_ {g:Nat} {w:World} {b o:Nat} {ss:List ByteArray} (h:∀j,(h:j<ss.length)→w.cell? ⟨b,o+j,none⟩=some (.string ss[j])) (j:Nat) (hj:j<ss.length):w.cell? ⟨b,o+j,none⟩=some (.string (ss.getD j ⟨#[]⟩)):=by
 rw[h j hj,List.getD_eq_getElem?_getD,List.getElem?_eq_getElem hj];rfl
theorem slice_pageR (w:World) (g:Nat):(Instr.sliceAt 146 (.pointer (some ⟨g,2,none⟩)) none none none).run Tryz.prog w=.ok (.slice (some ⟨g,2,none⟩) 256 256) w:=by kernel_rfl
theorem slice_512 (w:World) (g:Nat) (x:Int) (r:Nat) (hx:x=r) (hr:r<512) :
 (Instr.sliceAt 285 (.pointer (some ⟨g,0,none⟩)) (some (.int .i64 x)) none none).run Tryz.prog w=.ok (.slice (some ⟨g,r,none⟩) (512-r) (512-r)) w:=by
 subst hx
 have e1:Tryz.prog.arrayLen 285=512:=by kernel_rfl
 have e2:Tryz.prog.elem 285=5:=by kernel_rfl
 have e3:(sizeOf 5).run Tryz.prog w=.ok 1 w:=by kernel_rfl
 rw[run_sliceAt_array_l w _ _ (by rw[e1,e2];exact Tryz.underlying285) .i64 r (by omega) (by rw[e1];omega),e1,e2,e3]
 simp only[Result.andThen_ok,slicedAt]
 rw[if_neg (by omega),Addr.add_mid]
 simp
theorem wpList_copy_str {P:Program} {w:World} {ops:Array Oper} {rest:List Oper} {o:Oper} {a:Act} {Q:Exit→Act→World→Prop} (hgd:o.guard=none) (d s:Operand) (dT sT:TypeId)
 (ho:o.op=.call {callee:=.builtin .copy,args:= #[d,s],argTypes:= #[dT,sT]}) (elem:TypeId) (hu:P.underlying dT=some (.slice elem)) (hsz:(P.info? elem).map (·.size)=some 1)
 (g o1 dLen dCap:Nat) (str:ByteArray) (hd:a.eval d=.slice (some ⟨g,o1,none⟩) dLen dCap) (hs:a.eval s=.string str) (cur:List Value) (t:TypeId) (hB:Blk w g cur t) (hle:str.size≤dLen) (hfit:o1+str.size≤cur.length)
 (h:∀w',Hid (Blk w' g (splice cur o1 ((bts str).map (Value.int .u8))) t)→Keep (λk=>k=g) w w'→wpList P ops Q rest (a.put o.dst (goInt str.size)) w'):wpList P ops Q (o::rest) a w:=by
 refine wpList_plain hgd λK hK=>?_
 have hrun:=Lib.run_copy_row_string (P:=P) w dT sT o.type elem g o1 dLen dCap str cur.toArray t hu hsz hB hle (by simpa using hfit)
 unfold Oper.wp
 simp[execOp,ho,resolve,invoke,builtin,hd,hs,hrun,Result.andThen]
 have e:(cur.take o1++(Lib.byteCells str.data.toList++cur.drop (o1+str.size)))=splice cur o1 ((bts str).map (Value.int .u8)):=by
  unfold splice bts
  rw[show((str.data.toList.map λc=>(c.toNat:Int)).map (Value.int .u8)).length=str.size from by simp,List.map_map]
  rfl
 refine hK _ _ (h _ (xh ?_) ?_)
 ·rw[←e]
  exact setRow_heap w g _ _ t _ hB
 ·exact Keep.setRow w g _
theorem zero_512 (w:World):(zeroValue 285).run Tryz.prog w=.ok (.agg (rowOf (λ_=>0) 512).toArray) w:=by
 rw[show rowOf (λ_=>0) 512=List.replicate 512 (Value.int .u8 0)from by unfold rowOf;rw[List.map_const'];simp]
 exact(by kernel_rfl:(zeroValue 285).run Tryz.prog w=.ok (.agg (List.replicate 512 (Value.int .u8 0)).toArray) w)
theorem full_512 (w:World) (g:Nat):(Instr.sliceAt 285 (.pointer (some ⟨g,0,none⟩)) none none none).run Tryz.prog w=.ok (.slice (some ⟨g,0,none⟩) 512 512) w:=by kernel_rfl
theorem splice_ref (n:Nat) (z:List Int) (bs:List Int) (hz:z.length=256) (hb:bs.length=256):splice (refCells n ⟨6,z⟩) 2 (bs.map (Value.int .u8))=refCells n ⟨6,bs⟩:=by
 unfold splice refCells
 simp only[List.take_succ_cons,List.take_zero,List.length_map]
 rw[List.drop_eq_nil_of_le (by simp[hz,hb])]
 simp
theorem intInfo3:(Tryz.prog.info? 3).map (λi=>(i.size,i.bytes,(i.zero.map (·.cells.size))))=some (1,8,some 1):=by kernel_rfl
theorem built_pageS (n:Int):Tryz.prog.built 148 [(0,.int .i64 n),(1,.int .i64 6)]=some (Value.int .i64 n:: .int .i64 6::(List.replicate 256 (0:Int)).map (Value.int .u8)).toArray:=by kernel_rfl
theorem stackR_any (p:Option Addr) (cap:Nat) (ss:List ByteArray) (w:World) (hS:SS w.heap.size w p ss) (hn:ss.length≤8) :
 Calls Tryz.prog 81 #[.slice p ss.length cap] w λe w'=>Bel w w'∧
  (Good ss→∃v,e=.returned (.tuple #[v,.int .u64 (spOf (stAll ss) ss.length),.int .i64 0])∧
    w'.ownsRow w.heap.size 148 258 v 2 ([254,255].flatMap λn=>refCells n ⟨6,(List.range 256).map λi=>memOf ss (256*n+i)⟩))∧
  (¬Good ss→e=.returned (.tuple #[.slice none 0 0,.int .u64 0,.int .i64 6])):=by
 have HS:=xh hS
 clear hS
 go_enter Tryz.func81,Tryz.ntmps81
 go_wp2
 go_loop [5] (λi=>∃k:Nat,k≤ss.length∧i=.int .i64 k∧∀j,j<k→goodA (arg ss j)=true) (λi=>ss.length-(intOf i).toNat)
 case atStart=>exact⟨0,Nat.zero_le _,rfl,λj hj=>by omega⟩
 case round=>
  obtain⟨k,hk,rfl,hall⟩:=hrel
  have HALL:=xh hall
  clear hall
  by_cases hlt:k<ss.length
  ·obtain⟨b,o,rfl,hb,hc⟩:=HS.out (by omega)
   have hcx:=hc k hlt
   have hax:=arg_at ss k hlt
   generalize hss:ss[k]=s at *
   have HC:=xh hc
   have HAX:=xh hax
   have HSS:=xh hss
   clear hc hax hss
   by_cases hlen:30<s.size
   ·have HBAD:=xh (show ¬Good ss from λh=>by
     have:=(goodA_iff.1 (h k hlt)).1
     rw[HAX.out,bts_length]at this
     omega)
    have hlen':(30:Int)<(s.size:Int):=by omega
    go_wp2
    go_ret3
    exact⟨Below.refl _ _,λh=>absurd h HBAD.out,λ_=>rfl⟩
   ·have hlen':(s.size:Int)≤30:=by omega
    go_wp2
    go_loop [6] (λi=>∃x:Nat,x≤s.size∧i=.int .i64 x∧∀j,j<x→(bts s).getD j 0≠0) (λi=>s.size-(intOf i).toNat)
    case atStart=>exact⟨0,Nat.zero_le _,rfl,λj hj=>by omega⟩
    case round=>
     obtain⟨x,hx,rfl,hno⟩:=hrel
     have HNO:=xh hno
     clear hno
     by_cases hxl:x<s.size
     ·have hgx:(bts s).getD x 0=(s[x].toNat:Int):=by
       unfold bts
       rw[List.getD_eq_getElem?_getD,List.getElem?_map,List.getElem?_eq_getElem (by simpa using hxl)]
       rfl
      have HGX:=xh hgx
      clear hgx
      by_cases hz:((s[x].toNat:Nat):Int)=0
      ·have hzb:(((s[x].toNat:Nat):Int)==0)=true:=by simpa using hz
       have HBAD:=xh (show ¬Good ss from λh=>by
        have:=(goodA_iff.1 (h k hlt)).2
        rw[HAX.out]at this
        refine this ?_
        have h2:=HGX.out
        rw[hz]at h2
        rw[←h2,List.getD_eq_getElem?_getD,List.getElem?_eq_getElem (by rw[bts_length];exact hxl)]
        exact List.getElem_mem _)
       clear hz
       go_wp2
       go_ret3
       exact⟨Below.refl _ _,λh=>absurd h HBAD.out,λ_=>rfl⟩
      ·have hzb:(((s[x].toNat:Nat):Int)==0)=false:=by simpa using hz
       have HNZ:Hid ((bts s).getD x 0≠0):=xh (by rw[HGX.out];exact hz)
       clear hz
       go_wp2
       go_round
       case rel=>exact⟨x+1,by omega,by go_num,upTo_snoc HNO.out HNZ.out⟩
       case measure=>simp[intOf]<;>omega
     ·obtain rfl:x=s.size:=by omega
      have HGK:Hid (goodA (arg ss k)=true):=xh (goodA_iff.2 (by
       rw[HAX.out,bts_length]
       refine⟨by omega,λh=>?_⟩
       obtain⟨j,hj,he⟩:=List.getElem_of_mem h
       have:=HNO.out j (by rw[←bts_length];exact hj)
       rw[List.getD_eq_getElem?_getD,List.getElem?_eq_getElem hj]at this
       exact this he))
      go_wp2
      go_round
      case rel=>exact⟨k+1,by omega,by go_num,upTo_snoc HALL.out HGK.out⟩
      case measure=>simp[intOf]<;>omega
  ·obtain rfl:k=ss.length:=by omega
   have HGOOD:Hid (Good ss):=xh HALL.out
   obtain⟨z5,hz5⟩:∃z5,z5=rowOf (λ_=>0) 512:=⟨_,rfl⟩
   have hz:∀w,(zeroValue 285).run Tryz.prog w=.ok (.agg z5.toArray) w:=λw=>by rw[hz5];exact zero_512 w
   have HZ5:=xh hz5
   clear hz5 HALL
   go_upto_region 18 with fail
   have hl30:∀i∈(revTo ss.length 0),(arg ss i).length≤30:=λi hi=>(goodA_iff.1 (HGOOD.out i (rev_mem hi))).1
   have k7:Bel w (w.alloc (.cells z5.toArray 285)):=Below.heap_alloc' w _
   have b7:Blk (w.alloc (.cells z5.toArray 285)) w.heap.size (rowOf (λj=>(stOf ss (revTo ss.length ss.length)).M (65024+j)) 512) 285:=by rw[revTo_self,show(λj=>(stOf ss []).M (65024+j))=(λ_=>(0:Int))from rfl,←HZ5.out];exact Blk.new w _ _
   have hs7:w.heap.size<(w.alloc (.cells z5.toArray 285)).heap.size:=b7.lt
   generalize (w.alloc (.cells z5.toArray 285))=w7 at *
   have K7:=xh k7
   have HB7:=xh b7
   obtain⟨g7,hg7⟩:∃g7,w.heap.size=g7:=⟨_,rfl⟩
   rw[hg7]at HB7 hs7 HS⊢
   have HG7:=xh hg7
   clear k7 b7 hg7 hz
   go_loopw [9,10,11] (λa l i wr=>∃m:Nat,m≤ss.length∧i=.int .i64 ((ss.length:Int)-1-m)∧a=.int .i64 (stOf ss (revTo ss.length (ss.length-m))).e∧
    Blk wr g7 (rowOf (λj=>(stOf ss (revTo ss.length (ss.length-m))).M (65024+j)) 512) 285∧
    wr.ownsRow w7.heap.size 3 1 l m ((revTo ss.length (ss.length-m)).map λi=>Value.int .i64 ((stOf ss (revTo ss.length (ss.length-m))).A i))∧Keep (λq=>g7≤q) w wr∧w7.heap.size≤wr.heap.size)
    (λ_ _ i _=>(intOf i+1).toNat)
   case atStart=>exact⟨0,Nat.zero_le _,by simp,by rw[Nat.sub_zero,revTo_self];rfl,HB7.out,by rw[Nat.sub_zero,revTo_self];exact⟨rfl,.inl ⟨rfl,rfl⟩⟩,Keep.of_bel _ K7.out,Nat.le_refl _⟩
   case round=>
    obtain⟨m,hm,rfl,rfl,hbm,hrow,hkw,hsw⟩:=hrel
    have HBM:=xh hbm
    have HROW:=xh hrow
    have HKW:=xh hkw
    clear hbm hrow hkw
    by_cases hml:m<ss.length
    ·obtain⟨b,o,rfl,hb,hc⟩:=HS.out (by omega)
     obtain⟨i,hi⟩:∃i:Nat,i=ss.length-1-m:=⟨_,rfl⟩
     have hil:i<ss.length:=by omega
     have hcx:=(HKW.out.cell ⟨b,o+i,none⟩ (by rw[HG7.out];exact hb) (by show ¬g7≤b;omega)).trans (hc i hil)
     have hax:=arg_at ss i hil
     have hgi:=(goodA_iff.1 (HGOOD.out i hil)).1
     have hrev:revTo ss.length (ss.length-(m+1))=revTo ss.length (ss.length-m)++[i]:=by
      rw[revTo_step _ _ (by omega),show ss.length-(m+1)+1=ss.length-m from by omega,show ss.length-(m+1)=i from by omega]
     have hbd:=st_bound ss (revTo ss.length (ss.length-m)) (λj hj=>(goodA_iff.1 (HGOOD.out j (rev_mem hj))).1)
     rw[revTo_length]at hbd
     have hnotin:∀j∈revTo ss.length (ss.length-m),j≠i:=λj hj e=>by
      subst e
      unfold revTo at hj
      have:=List.mem_reverse.1 hj
      rw[List.mem_drop_iff_getElem]at this
      obtain⟨q,hq,he⟩:=this
      simp at he
      omega
     rw[show(ss.length:Int)-1-m=(i:Int)from by omega]
     rw[hax,bts_length]at hgi
     generalize hss:ss[i]=s at *
     obtain⟨st,hst⟩:∃st,stOf ss (revTo ss.length (ss.length-m))=st:=⟨_,rfl⟩
     rw[hst]at hbd HBM HROW⊢
     obtain⟨A,hA⟩:∃A:Nat,st.e-(s.size:Int)-1=A:=⟨(st.e-(s.size:Int)-1).toNat,by omega⟩
     have hA1:65024≤A:=by omega
     have hA2:A+s.size+1≤65536:=by omega
     obtain⟨po,hpo⟩:∃po:Nat,(A:Int)-65024=po:=⟨A-65024,by omega⟩
     have hpo1:po+s.size<512:=by omega
     have HST':Hid (stOf ss (revTo ss.length (ss.length-(m+1)))=⟨A,pokeM st.M A (bts s),setF st.A i A⟩):=xh (by
      rw[hrev,stOf_snoc,hst]
      unfold stStep
      rw[hax,bts_length,show st.e-((s.size:Int)+1)=(A:Int)from by omega,Int.toNat_natCast])
     have HREV:=xh hrev
     have HNOT:=xh hnotin
     have HAP:Hid (A=65024+po):=xh (by omega)
     have hi0:(0:Int)≤(i:Int):=by omega
     have hil':(i:Int)<(ss.length:Int):=by omega
     have hsl:=λW=>slice_512 W g7 (po:Int) po rfl (by omega)
     obtain⟨hbd0,hbd1⟩:=hbd
     have HI:=xh hi
     clear hi hax hst hrev hnotin hss hc
     generalize st.e=e0 at *
     go_upto_region 21 with fail
     have hwr:IntKind.i64.wrap (po:Int)=(po:Int):=by rw[IntKind.wrap_i64];omega
     go_still_tail 8,(by kernel_rfl)
     clear hwr
     change wpList _ _ _ _ _ wr.drew
     have kd:Bel wr wr.drew:=Below.drew (Below.refl _ _)
     generalize wr.drew=wd at *
     have HBD:=xh (HBM.out.bel kd)
     have HRD:=xh (row_bel HROW.out kd)
     have HKD:=xh (HKW.out.tr (Keep.of_bel _ kd))
     have hsd:w7.heap.size≤wd.heap.size:=Nat.le_trans hsw kd.size
     clear kd
     go_upto_region 22 with(refine wpList_copy_str rfl (.tmp 66) (.tmp 70) 32 9 rfl 5 Tryz.underlying32 (by kernel_rfl) g7 po _ _ s rfl rfl _ 285 HBD.out (by omega) (by rw[rowOf_length];omega) ?_;intro w2 B2 K2)
     have HB2:Hid (Blk w2 g7 (rowOf (λj=>pokeM st.M A (bts s) (65024+j)) 512) 285):=xh (by
      have:=B2.out
      rw[splice_poke _ _ _ _ _ (by rw[bts_length];omega),←HAP.out]at this
      exact this)
     have HR2:=xh (row_keep HRD.out K2 (λq hq e=>by omega))
     have HK2:=xh (HKD.out.tr (K2.mono (λq hq=>by omega)))
     have hs2:w7.heap.size≤w2.heap.size:=Nat.le_trans hsd K2.size
     have HMAP:Hid ((revTo ss.length (ss.length-(m+1))).map (λj=>Value.int .i64 (setF st.A i A j))=(revTo ss.length (ss.length-m)).map (λj=>Value.int .i64 (st.A j))++[.int .i64 A]):=xh (by
      rw[HREV.out,List.map_append]
      congr 1
      ·apply List.map_congr_left
       intro j hj
       simp only[setF]
       rw[if_neg (HNOT.out j hj)]
      ·simp[setF])
     clear B2 K2
     go_wp2_with (first
      | (refine wpList_buildSlice_one rfl 94 3 (.tmp 73) rfl [.int .i64 A] rfl Tryz.underlying94 intInfo3 (by show 0<1;omega) (by show 1≤2^24;omega) ?_;intro w5 B5 K5)
      | (refine wpList_append_one rfl (.tmp 72) (.tmp 74) 94 rfl Tryz.underlying94 intInfo3 (by omega) rfl (row_bel HR2.out K5) _ [.int .i64 A] 3 rfl B5.out rfl (by intro v hv;simp at hv;rcases hv with rfl;rfl) (by unfold maxLen;omega) (by omega) (Nat.le_trans hs2 K5.size) ?_;intro v6 w6 R6 K6))
     have hb6:Blk w6 g7 (rowOf (λj=>pokeM st.M A (bts s) (65024+j)) 512) 285:=(HB2.out.bel K5).keep K6 (by show ¬w7.heap.size≤g7;omega)
     exact⟨⟨m+1,by omega,by congr 1;have:=HI.out;omega,by rw[HST'.out],by rw[HST'.out];exact hb6,by rw[HST'.out,HMAP.out];exact R6,(HK2.out.tr (Keep.of_bel _ K5)).tr (K6.mono (λq hq=>by omega)),Nat.le_trans hs2 (Nat.le_trans K5.size K6.size)⟩,by simp only[intOf];have:=HI.out;omega⟩
    ·obtain rfl:m=ss.length:=by omega
     rw[Nat.sub_self]at HBM HROW⊢
     rw[show stOf ss (revTo ss.length 0)=stAll ss from rfl]at HBM HROW⊢
     have hbd:=stAll_bound ss HGOOD.out hn
     have hsb:=sp_bound ss HGOOD.out hn
     have hwb:=word_bound ss HGOOD.out hn
     obtain⟨spn,hspn⟩:∃spn:Nat,spOf (stAll ss) ss.length=spn:=⟨(spOf (stAll ss) ss.length).toNat,by omega⟩
     obtain⟨e0,he⟩:∃e0,(stAll ss).e=e0:=⟨_,rfl⟩
     have hq:(e0-8*((ss.length:Int)+2))/16*16=(spn:Int):=by rw[←hspn,←he];rfl
     rw[hspn,he]at hsb
     rw[he]at hbd⊢
     obtain⟨hb0,hb1⟩:=hbd
     obtain⟨hs0,hs1,hs2⟩:=hsb
     obtain⟨po,hpo⟩:∃po:Nat,(spn:Int)-65024=po:=⟨spn-65024,by omega⟩
     have hpo1:po+8*(ss.length+2)≤512:=by omega
     have HPO:Hid (spn=65024+po):=xh (by omega)
     have HSPN:=xh hspn
     have HWB:=xh hwb
     have HSPT:Hid ((spOf (stAll ss) ss.length).toNat=spn):=xh (by rw[hspn];exact Int.toNat_natCast _)
     have HPUT:=λW (hW:Blk W g7 (rowOf (λj=>(stAll ss).M (65024+j)) 512) 285)=>putR_any g7 po 512 (λj=>(stAll ss).M (65024+j)) 285 512 (ss.length:Int) W hW (by omega) (by omega) (by omega) (by omega)
     have HP:=xh (HPUT wr HBM.out)
     have hfull:=λW=>full_512 W g7
     clear hspn he HPUT hwb
     go_upto_region 25 with(go_at_call 123;with_reducible refine Calls.mono HP.out ?_;rintro e w2 ⟨rfl,B2,K2⟩)
     have HB2:Hid (Blk w2 g7 (rowOf (λj=>finTo (stAll ss) ss.length 1 (65024+j)) 512) 285):=xh (by
      have h2:=B2
      rw[putF_poke,←HPO.out]at h2
      have e:finTo (stAll ss) ss.length 1=pokeM (stAll ss).M spn (bytes8 (ss.length:Int)):=by
       show pokeM (stAll ss).M ((spOf (stAll ss) ss.length).toNat+8*0) (bytes8 (wordAt (stAll ss) ss.length 0))=_
       rw[HSPT.out];rfl
      rw[e];exact h2)
     have HR2:=xh (row_keep HROW.out K2 (λq hq e=>by omega))
     have HK2:=xh (HKW.out.tr (K2.mono (λq hq=>by omega)))
     have hsz2:w7.heap.size≤w2.heap.size:=Nat.le_trans hsw K2.size
     clear B2 K2 HROW HBM HKW HP
     obtain⟨pa,ca,rfl,_,_,hpa⟩:=row_slice HR2.out
     have HPA:=xh hpa
     clear hpa
     go_wp2
     go_loopw [13] (λx wr=>∃i:Nat,i≤ss.length∧x=.int .i64 i∧Blk wr g7 (rowOf (λj=>finTo (stAll ss) ss.length (i+1) (65024+j)) 512) 285∧Keep (λq=>q=g7) w2 wr) (λx _=>ss.length-(intOf x).toNat)
     case atStart=>exact⟨0,Nat.zero_le _,rfl,HB2.out,Keep.refl _ _⟩
     case round=>
      obtain⟨i,hi,rfl,hbi,hki⟩:=hrel
      have HBI:=xh hbi
      have HKI:=xh hki
      clear hbi hki
      by_cases hil:i<ss.length
      ·obtain⟨ga,rfl,hga0,hga1,hgac,_⟩:=HPA.out.resolve_left (by omega)
       obtain⟨x,hx⟩:∃x:Nat,x=ss.length-1-i:=⟨_,rfl⟩
       have hxn:x<ss.length:=by omega
       have hrx:(revTo ss.length 0)[x]?=some i:=by
        unfold revTo
        rw[List.drop_zero,List.getElem?_reverse (by simpa using hxn),List.length_range,List.getElem?_range (by omega)]
        congr 1
        omega
       have hcx:wr.cell? ⟨ga,x,none⟩=some (.int .i64 ((stAll ss).A i)):=by
        rw[HKI.out.cell ⟨ga,x,none⟩ hga1 (by show ¬ga=g7;omega),hgac x (by rw[List.length_map,revTo_length];omega),List.getElem?_map,hrx];rfl
       have hwi:=HWB.out (i+1)
       have hwe:wordAt (stAll ss) ss.length (i+1)=(stAll ss).A i:=by unfold wordAt;rw[if_neg (by omega),if_pos (by omega),Nat.add_sub_cancel]
       rw[hwe]at hwi
       obtain⟨ai,hai⟩:∃ai,(stAll ss).A i=ai:=⟨_,rfl⟩
       rw[hai]at hcx hwi hwe
       obtain⟨hwi0,hwi1⟩:=hwi
       have HP4:Hid (∀W,Blk W g7 (rowOf (λj=>finTo (stAll ss) ss.length (i+1) (65024+j)) 512) 285→Calls Tryz.prog 123 #[.slice (some ⟨g7,0,none⟩) 512 512,.int .i64 ((po:Int)+8+8*i),.int .u64 ai] W λe w'=>e=.returned (.tuple #[])∧
        Blk w' g7 (rowOf (λj=>finTo (stAll ss) ss.length (i+1+1) (65024+j)) 512) 285∧Keep (λk=>k=g7) W w'):=xh (λW hW=>by
        have h:=putR_any g7 (po+8+8*i) 512 (λj=>finTo (stAll ss) ss.length (i+1) (65024+j)) 285 512 ai W hW (by omega) (by omega) hwi0 (by omega)
        rw[putF_poke,show 65024+(po+8+8*i)=spn+8*(i+1)from by have:=HPO.out;omega,show((po+8+8*i:Nat):Int)=(po:Int)+8+8*i from by omega]at h
        have e:finTo (stAll ss) ss.length (i+1+1)=pokeM (finTo (stAll ss) ss.length (i+1)) (spn+8*(i+1)) (bytes8 ai):=by
         rw[finTo,HSPT.out,hwe]
        rw[e];exact h)
       have hw1:IntKind.i64.wrap (po:Int)=(po:Int):=by rw[IntKind.wrap_i64];omega
       have hw2:IntKind.i64.wrap ((po:Int)+8)=(po:Int)+8:=by rw[IntKind.wrap_i64];omega
       have hw3:IntKind.i64.wrap (8*(i:Int))=8*(i:Int):=by rw[IntKind.wrap_i64];omega
       have hw4:IntKind.i64.wrap ((po:Int)+8+8*i)=(po:Int)+8+8*i:=by rw[IntKind.wrap_i64];omega
       have hw5:IntKind.i64.wrap ((ss.length:Int)-1)=(ss.length:Int)-1:=by rw[IntKind.wrap_i64];omega
       have hw6:IntKind.i64.wrap ((ss.length:Int)-1-i)=(x:Int):=by rw[IntKind.wrap_i64];omega
       have hw7:IntKind.u64.wrap ai=ai:=by rw[IntKind.wrap_u64];omega
       have hx0:(0:Int)≤(x:Int):=by omega
       have hxn':(x:Int)<(ss.length:Int):=by omega
       clear hx hrx hwe hai hgac
       go_upto_region 28 with fail
       go_still_tail 17,(by kernel_rfl)
       change wpList _ _ _ _ _ wr.drew
       have kd:Bel wr wr.drew:=Below.drew (Below.refl _ _)
       generalize wr.drew=wd at *
       have HKD:=xh kd
       have HBD:=xh (HBI.out.bel kd)
       clear kd hw1 hw2 hw3 hw4 hw5 hw6 hw7
       go_wp2_with (go_at_call 123;with_reducible refine Calls.mono (HP4.out wd HBD.out) ?_;rintro e w4 ⟨rfl,B4,K4⟩;have HB4:=xh B4;have HK4:=xh K4;clear B4 K4)
       go_roundw
       case rel=>exact⟨i+1,by omega,by go_num,HB4.out,(HKI.out.tr (Keep.of_bel _ HKD.out)).tr HK4.out⟩
       case measure=>simp[intOf]<;>omega
      ·obtain rfl:i=ss.length:=by omega
       rw[mem_last ss HGOOD.out hn]at HBI
       have HKT:=xh (HK2.out.tr (HKI.out.mono (λq hq=>by omega)))
       have hb7:=HBI.out
       have hszr:w7.heap.size≤wr.heap.size:=Nat.le_trans hsz2 HKI.out.size
       obtain⟨M,hM⟩:∃M,memOf ss=M:=⟨_,rfl⟩
       rw[hM]at hb7
       have HM:=xh hM
       have HB7':=xh hb7
       have hg7r:g7<wr.heap.size:=hb7.lt
       clear HBI hb7 HB2 hM HPA HKI HK2 HR2
       obtain⟨w8,rfl⟩:∃w8:World,w8=wr:=⟨_,rfl⟩
       obtain⟨z0,hz0⟩:∃z0:List Value,z0=refCells 0 Pg.zero:=⟨_,rfl⟩
       have hz:∀w,(zeroValue 148).run Tryz.prog w=.ok (.agg z0.toArray) w:=λw=>by
        rw[show z0=Value.int .i64 0:: .int .i64 0::List.replicate 256 (Value.int .u8 0)from by rw[hz0];simp[refCells,Pg.zero]]
        kernel_rfl
       have HZ0:Hid (z0.length=258):=xh (by rw[hz0];exact refCells_length _ _ Pg.zero_wf.len)
       clear hz0
       go_wp2
       go_loopw [14,15] (λl x wr=>∃k:Nat,k≤2∧x=.int .i64 k∧wr.ownsRow w8.heap.size 148 258 l k ((List.range k).flatMap λq=>refCells (254+q) ⟨6,(List.range 256).map λi=>M (256*(254+q)+i)⟩)∧Bel w8 wr) (λ_ x _=>2-(intOf x).toNat)
       case atStart=>exact⟨0,by omega,rfl,⟨rfl,.inl ⟨rfl,rfl⟩⟩,Bel.refl _⟩
       case round=>
        obtain⟨k,hk,rfl,hrow,hbw⟩:=hrel
        have HROW:=xh hrow
        have HBW:=xh hbw
        have hzw:=hbw.size
        clear hrow hbw
        by_cases hk2:k<2
        ·obtain⟨zs,hzs⟩:∃zs:List Value,zs=refCells (254+k) ⟨6,List.replicate 256 0⟩:=⟨_,rfl⟩
         have HBP:Hid (Tryz.prog.built 148 [(0,.int .i64 (254+(k:Int))),(1,.int .i64 6)]=some zs.toArray):=xh (by
          have:=built_pageS (254+(k:Int))
          rw[this,hzs]
          unfold refCells
          rw[show((254+k:Nat):Int)=254+(k:Int)from by omega])
         have HZL:Hid (zs.length=258):=xh (by rw[hzs];exact refCells_length _ _ (by simp))
         have HZO:Hid (∀v∈zs,v.oneCell'=true):=xh (by rw[hzs];exact refCells_one _ _)
         obtain⟨bs,hbs⟩:∃bs:List Int,bs=(List.range 256).map λi=>M (256*(254+k)+i):=⟨_,rfl⟩
         obtain⟨news,hnews⟩:∃news:List Value,news=bs.map (Value.int .u8):=⟨_,rfl⟩
         have HNL:Hid (news.length=256):=xh (by rw[hnews,hbs];simp)
         have HNO:Hid (∀v∈news,v.oneCell'=true):=xh (by rw[hnews];intro v hv;obtain⟨x,_,rfl⟩:=List.mem_map.1 hv;rfl)
         obtain⟨cs,hcs⟩:∃cs:List Value,cs=refCells (254+k) ⟨6,bs⟩:=⟨_,rfl⟩
         have HSPL:Hid (splice zs 2 news=cs):=xh (by rw[hzs,hnews,hcs];exact splice_ref _ _ _ (by simp) (by rw[hbs];simp))
         have HCL:Hid (cs.length=258):=xh (by rw[hcs];exact refCells_length _ _ (by rw[hbs];simp))
         have HCO:Hid (∀v∈cs,v.oneCell'=true):=xh (by rw[hcs];exact refCells_one _ _)
         have HFL:Hid ((List.range (k+1)).flatMap (λq=>refCells (254+q) ⟨6,(List.range 256).map λi=>M (256*(254+q)+i)⟩)=(List.range k).flatMap (λq=>refCells (254+q) ⟨6,(List.range 256).map λi=>M (256*(254+q)+i)⟩)++cs):=xh (by
          rw[show List.range (k+1)=List.range k++[k]from List.range_succ,List.flatMap_append,List.flatMap_singleton,hcs,hbs])
         have HSRC:Hid (∀W,Bel w8 W→∀j v,news[j]?=some v→W.cell? ((⟨g7,k*256,none⟩:Addr).add j)=some v):=xh (λW hW j v hj=>by
          have hjl:=(List.getElem?_eq_some_iff.1 hj).1
          rw[HNL.out]at hjl
          rw[Addr.add_mid,(HB7'.out.bel hW).cell,rowOf_get _ _ _ (by omega),←hj,hnews,hbs,List.getElem?_map,List.getElem?_map,List.getElem?_range hjl]
          simp only[Option.map_some]
          congr 2
          congr 1
          omega)
         clear hzs hbs hnews hcs
         go_upto_region 34 with(first
          | (refine wpList_buildTo rfl 148 _ rfl (some 122) rfl zs.toArray (by simp only[List.map_toArray,List.map_cons,List.map_nil];exact HBP.out) ?_)
          | (refine wpList_store_blk rfl 148 (.tmp 16) (.tmp 122) rfl rfl wr.heap.size zs z0 148 (Blk.new wr z0 _) rfl rfl (by rw[HZL.out];kernel_rfl) (HZ0.out.trans HZL.out.symm) HZO.out ?_;intro w3 B3 K3))
         have kc:Bel wr w3:=(Below.heap_alloc' wr _).trans (K3.below _ (by simp) (λk hk=>by omega))
         have HKC:=xh kc
         have hg16:=B3.out.lt
         have hwm:IntKind.i64.wrap ((k:Int)*256)=(k:Int)*256:=by rw[IntKind.wrap_i64];omega
         have hsl:=λW=>slice_512 W g7 ((k:Int)*256) (k*256) (by omega) (by omega)
         have hsp:=λW=>slice_pageR W wr.heap.size
         clear kc K3 hz
         go_still_tail 5,(by kernel_rfl)
         change wpList _ _ _ _ _ w3.drew
         have kd:Bel w3 w3.drew:=Below.drew (Below.refl _ _)
         generalize w3.drew=wd at *
         have HKD:=xh kd
         have HBD:=xh (show Blk wd wr.heap.size zs 148 from(show Blk w3 wr.heap.size zs 148 from B3.out).bel kd)
         clear kd B3 hwm hsl hsp
         go_wp2_with (first
          | (refine wpList_copy_splice rfl (.tmp 124) (.tmp 127) 32 32 rfl 5 Tryz.underlying32 (by kernel_rfl) _ _ _ _ _ _ rfl rfl wr.heap.size 2 zs 148 HBD.out news (by rw[HNL.out];exact(Nat.min_eq_right (by omega)).symm) (λ_=>⟨rfl,⟨g7,k*256,none⟩,rfl,HSRC.out _ (HBW.out.tr (HKC.out.tr HKD.out))⟩) (by rw[HNL.out,HZL.out];omega) HNO.out wr.heap.size wd (Below.refl _ _) (Nat.le_refl _) ?_;intro w4 B4 K4
             have HB4:Hid (Blk w4 wr.heap.size cs 148):=xh (by have:=B4.out;rw[HSPL.out]at this;exact this)
             have HK4:Hid (Bel wr w4):=xh (Below.trans (HKC.out.tr HKD.out) K4)
             clear B4 K4)
          | (refine wpList_load_mid rfl 148 (.tmp 16) rfl wr.heap.size 0 rfl cs _ (by have:=HB4.out.range 0;simpa using this) Tryz.underlying148 rfl (by rw[HCL.out];kernel_rfl) ?_)
          | (refine wpList_buildSlice_one rfl 77 148 (.tmp 130) rfl cs rfl Tryz.underlying77 (by rw[HCL.out];exact pageInfoR) (by rw[HCL.out];omega) (by rw[HCL.out];decide) ?_;intro w5 B5 K5)
          | (refine wpList_append_one rfl (.tmp 129) (.tmp 131) 77 rfl Tryz.underlying77 pageInfoR (by omega) rfl (row_bel (row_bel HROW.out HK4.out) K5) _ cs 148 rfl B5.out HCL.out HCO.out (by unfold maxLen;omega) (by omega) (Nat.le_trans hzw (Nat.le_trans HK4.out.size K5.size)) ?_;intro v6 w6 R6 K6))
         exact⟨⟨k+1,by omega,by go_num,by rw[HFL.out];exact R6,((HBW.out.tr HK4.out).tr K5).trans (K6.below _ (Nat.le_trans hzw (Nat.le_trans HK4.out.size K5.size)) λq hq=>hq)⟩,by simp only[intOf];omega⟩
        ·obtain rfl:k=2:=by omega
         have hfin:wr.ownsRow w.heap.size 148 258 u14 2 ([254,255].flatMap λn=>refCells n ⟨6,(List.range 256).map λi=>memOf ss (256*n+i)⟩):=by
          have h:=HROW.out
          rw[HM.out]
          exact World.ownsRow.mono h (by rw[HG7.out];omega)
         have HFIN:=xh hfin
         have HBL:Hid (Bel w wr):=xh (Below.trans (HKT.out.below w.heap.size (Nat.le_refl _) (λq hq=>by rw[HG7.out];exact hq)) (Below.mono HBW.out (by rw[HG7.out];omega)))
         clear hfin
         go_wp2
         go_ret3
         exact⟨HBL.out,λ_=>⟨_,by rw[HSPN.out];try rfl,HFIN.out⟩,λh=>absurd HGOOD.out h⟩
end Go.Proofs.YtjdaddmjpicflaaGreatDoor
