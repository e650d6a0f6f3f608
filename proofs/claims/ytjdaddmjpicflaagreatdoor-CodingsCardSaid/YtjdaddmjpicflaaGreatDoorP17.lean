/- The document's exec. -/
import Derived.Test.YtjdaddmjpicflaaGreatDoorP16
import Derived.Test.YtjdaddmjpicflaaGreatDoorP11
set_option linter.unusedVariables false
set_option linter.unusedSimpArgs false
set_option maxRecDepth 100000
set_option maxHeartbeats 16000000
namespace Go.Proofs.YtjdaddmjpicflaaGreatDoor
open Go.RowKit Go.Maps
noncomputable def execE (L:List Nd) (path:List UInt8) (sok:Bool) (own used mf:Nat):Nat:=
 if (docWalk L path).2.2.2≠0 then(docWalk L path).2.2.2 else if (docWalk L path).2.2.1=0 then 9 else
 match L[(docWalk L path).2.2.1-1]? with
 | none=>11
 | some x=>if x.dir=true then 11 else if loadE x.byt≠0 then loadE x.byt else if sok=false then 6 else if mf<used-own+(pageNums (spaceL x.byt)).length+2 then 7 else 0
def execB (L:List Nd) (path:List UInt8):List Int:=(L[(docWalk L path).2.2.1-1]?.map Nd.byt).getD []
def execC (cells:List Value) (o:Nat) (v:Value) (E sp:Int):List Value:=((splice ((cells.set (o+22) v).set (o+5) (.int .u64 E)) (o+6) (List.replicate 16 (.int .u64 0))).set (o+21) (.int .u64 sp))
def ExecDRes (w:World) (pb o:Nat) (cells:List Value) (c:Nat) (B:List Int) (srow:List Value) (sp:Int) (e:Ending) (w':World):Prop:=
 e=.returned (.tuple #[.int .i64 0,.int .i64 (c:Nat)])∧Keep (λq=>q=pb) w w'∧(c=0→∃v,w'.ownsRow w.heap.size 148 258 v ((pageNums (spaceL B)).length+2) (refRow (spaceL B)++srow)∧Blk w' pb (execC cells o v (numAt B 24 8) sp) 80)
theorem wpList_append_cells {P:Program} {w:World} {base:Nat} {e:TypeId} {size:Nat} {v:Value} {n:Nat} {xs:List Value} {ops:Array Oper} {rest:List Oper} {o:Oper} {a:Act} {Q:Exit→Act→World→Prop} (hgd:o.guard=none) (s x:Operand) (t:TypeId)
 (ho:o.op=.call {callee:=.builtin .append,args:= #[s,x],argTypes:= #[t,t]}) {bytes:Nat} (ht:P.underlying t=some (.slice e))
 (hi:(P.info? e).map (λi=>(i.size,i.bytes,(i.zero.map (·.cells.size))))=some (size,bytes,some size)) (hsz:0<size)
 (hs:a.eval s=v) (hown:w.ownsRow base e size v n xs) (g m c:Nat) (cs:List Value) (hx:a.eval x=.slice (some ⟨g,0,none⟩) m c) (hB:∀j u,cs[j]?=some u→w.cell? ⟨g,j,none⟩=some u) (hl:cs.length=m*size) (h1:∀u∈cs,u.oneCell'=true)
 (h63:n+m≤maxLen) (hbytes:(n+m)*bytes≤140737488355328) (hbase:base≤w.heap.size)
 (h:∀p cp w',w'.ownsRow base e size (.slice p (n+m) cp) (n+m) (xs++cs)→Keep (λq=>v.ownBlock=some q) w w'→wpList P ops Q rest (a.put o.dst (.slice p (n+m) cp)) w'):wpList P ops Q (o::rest) a w:=by
 obtain⟨i,z,hi,hz,e1,e2,e3⟩:=info_of hi
 refine wpList_append_own w hgd s x t ho base e i z size bytes ht hi hz e1 e2 e3 hsz v n xs hs hown ⟨g,0,none⟩ m c cs hx hl (λj u hj=>?_) h1 h63 hbytes hbase λv' w' k1 k2 _=>?_
 ·rw[show(⟨g,0,none⟩:Addr).add j=⟨g,j,none⟩from by unfold Addr.add;split<;>simp_all]
  exact hB j u hj
 ·obtain⟨p,cp,rfl,_⟩:=row_slice k1
  exact h p cp w' k1 ⟨k2.os,k2.tape,k2.output,k2.size,λk hk hn=>k2.block k hk λe=>hn e.symm⟩
theorem Rw.bs {w:World} {v:Value} {L:List Int} (h:Rw w v L) {p:Option Addr} {n cap:Nat} (hv:v=.slice p n cap):BS w p L:=by
 refine⟨h.1,λh0=>?_⟩
 rcases h.2 with⟨_,h2⟩|⟨g,c,cur,h1,hb,_⟩
 ·rw[h2]at h0;simp at h0
 ·rw[hv]at h1
  cases h1
  obtain⟨g2,hg2,hc⟩:=h.cells hv
  cases hg2
  exact⟨g,0,rfl,hb.lt,⟨λi hi=>by rw[Nat.zero_add,hc i ((L.map (Value.int .u8))[i]'(by simpa using hi)) (List.getElem?_eq_getElem _)];simp[List.getElem?_eq_getElem hi],h.1⟩⟩
theorem execD_any (kb:Nat) (s:KV) (iv:Value) (L:List Nd) (nm:ByteArray) (pb o own used mf a1 a2 a3 a4:Nat) (cells:List Value) (q:Option Addr) (qc:Nat) (sv:Value) (sok:Bool) (sp:Int) (srow:List Value) (w:World) (h:DK w kb s iv L) (hb:s.b=mf) (hmf:mf≤1000) (hs:nm.size≤1000000) (hsum:sumB (sks L)≤100000)
 (hP:Blk w pb cells 80) (ho:o+31≤cells.length) (hc22:cells[o+22]?=some (.slice q own qc)) (hown:own≤used) (hused:used≤100000) (hpk:pb≠kb) (hroot:isDir L 1=true)
 (hU:∀W,Bel w W→Calls Tryz.prog 62 #[.pointer (some ⟨kb,0,none⟩)] W λe w'=>e=.returned (.agg (usedC a1 used a2 a3 a4).toArray)∧Bel W w')
 (hst:∀W,Bel w W→Calls Tryz.prog 81 #[sv] W λe w'=>Bel W w'∧(sok=true→∃g c,e=.returned (.tuple #[.slice (some ⟨g,0,none⟩) 2 c,.int .u64 sp,.int .i64 0])∧(∀j u,srow[j]?=some u→w'.cell? ⟨g,j,none⟩=some u)∧srow.length=516∧(∀u∈srow,u.oneCell'=true))∧(sok=false→e=.returned (.tuple #[.slice none 0 0,.int .u64 0,.int .i64 6]))) :
 Calls Tryz.prog 42 #[.pointer (some ⟨kb,0,none⟩),.pointer (some ⟨pb,o,none⟩),.string nm,sv] w λe w'=>ExecDRes w pb o cells (execE L nm.data.toList sok own used mf) (execB L nm.data.toList) srow sp e w':=by
 obtain⟨g,cap,hiv,ht,hg⟩:=h.tree
 have hw:=walk_any kb g cap L w ht nm hs (by have:=h.few;omega)
 have hold:=docWalk_old (L:=L) (s:=nm.data.toList) hroot
 have hfew:=h.few
 unfold execE execB
 obtain⟨d,x,n,c,hr⟩:∃d x n c,docWalk L nm.data.toList=(d,x,n,c):=⟨_,_,_,_,rfl⟩
 rw[hr]at hw hold⊢
 simp only[walkV]at hw hold⊢
 have HW:=xh hw
 have HDK:=xh h
 have HTR:=xh ht
 have HU:=xh hU
 have HST:=xh hst
 have HP:=xh hP
 have HC22:=xh hc22
 have HB:=xh hb
 clear hw h ht hU hst hP hc22 hr hiv hb hroot
 by_cases hc:c=0
 ·subst hc
  rw[if_neg (by simp)]
  have hle:=hold rfl
  by_cases hn:n=0
  ·subst hn
   rw[if_pos rfl]
   clear hold hle
   go_enter Tryz.func42,Tryz.ntmps42
   go_wp2_with (go_at_call 77;((with_reducible refine Calls.mono HW.out ?_);rintro e w1 ⟨rfl,k1⟩))
   go_ret2
   exact⟨rfl,Keep.of_bel _ k1,λh=>by cases h⟩
  ·rw[if_neg hn]
   have hlt:n-1<L.length:=by omega
   have hy:=List.getElem?_eq_getElem hlt
   rw[hy]
   simp only
   have hyb:=HDK.out.byts L[n-1] (List.getElem_mem hlt)
   have hyl:L[n-1].byt.length≤100000:=by
    have:=sumB_set (sks L) (n-1) L[n-1].sk {L[n-1].sk with byt:=[]} (by unfold sks;rw[List.getElem?_map,hy];rfl)
    simp[Nd.sk]at this
    omega
   have hrg:=HTR.out.2.2 (n-1) L[n-1] hy
   have hin:=λ(W:World) (hW:Bel w W)=>inode_any kb g cap L W (HTR.out.bel hW) n (by omega) hle (by omega)
   generalize L[n-1]=y at *
   obtain⟨bq,bc,hbv,hbc,_,_⟩:=hyb.1.slice
   have HRG:=xh hrg
   have HIN:=xh hin
   have HYB:=xh hyb
   have HBV:=xh hbv
   have hnb:((n:Int)==0)=false:=beq_eq_false_iff_ne.2 (by omega)
   have hn1:(0:Int)≤((n-1:Nat):Int):=by omega
   have hn2:((n-1:Nat):Int)<(L.length:Int):=by omega
   have hcl:=HTR.out.2.1
   clear hold hy hyb hrg hin hbv hn
   simp only[Option.map_some,Option.getD_some]
   cases hyd:y.dir with
   | true=>
     rw[if_pos rfl]
     have hc3:=λ(W:World) (hW:Bel w W)=>(show W.cell? ⟨g,(n-1)*5+3,none⟩=some (.bool true)from by rw[←hyd];exact cell_bel hW (HRG.out 3 _ rfl))
     have HC3:=xh hc3
     clear hyd hc3
     go_enter Tryz.func42,Tryz.ntmps42
     go_wp2_with (first
      | (go_at_call 77;((with_reducible refine Calls.mono HW.out ?_);rintro e w1 ⟨rfl,k1⟩;have HK1:=xh k1;clear k1))
      | (go_at_call 79;((with_reducible refine Calls.mono (HIN.out w1 HK1.out) ?_);rintro e w2 ⟨rfl,hh⟩;subst hh;have c3:=HC3.out w1 HK1.out;have c7:=(HTR.out.bel HK1.out).1)))
     go_ret2
     exact⟨rfl,Keep.of_bel _ HK1.out,λh=>by cases h⟩
   | false=>
     rw[if_neg (by simp)]
     have hc3:=λ(W:World) (hW:Bel w W)=>(show W.cell? ⟨g,(n-1)*5+3,none⟩=some (.bool false)from by rw[←hyd];exact cell_bel hW (HRG.out 3 _ rfl))
     have hc4:=λ(W:World) (hW:Bel w W)=>(show W.cell? ⟨g,(n-1)*5+4,none⟩=some (.slice bq y.byt.length bc)from by rw[←HBV.out];exact cell_bel hW (HRG.out 4 _ rfl))
     have HC3:=xh hc3
     have HC4:=xh hc4
     have hld:=λ(W:World) (hW:Bel w W)=>loadRD_of bq bc y.byt hbc (by omega) W ((HYB.out.1.bel hW).bs HBV.out)
     clear hyd hc3 hc4
     by_cases hl:loadE y.byt=0
     ·rw[if_neg (by simpa using hl)]
      obtain⟨l1,l2,l3,l4⟩:=loadE_ok hl
      have hld2:=λ(W:World) (hW:Bel w W)=>(hld W hW).mono λe w' h=>And.intro (h.2.ok l1 l2 l3 l4) h.1
      have HLD:=xh hld2
      obtain⟨m,hm⟩:∃m,spaceTo y.byt (segN y.byt).toNat=m:=⟨_,rfl⟩
      have hms:spaceL y.byt=m:=hm
      obtain⟨E,hE⟩:∃E,numAt y.byt 24 8=E:=⟨_,rfl⟩
      rw[hm,hE]at HLD
      rw[hms]
      have hpl:=pageNums_length m
      have HMS:=xh hms
      have HEQ:=xh hE
      clear hl l1 l2 l3 l4 hld hld2 hm hms hE
      cases sok with
      | false=>
        rw[if_pos rfl]
        have HSB:=xh λW hW=>(HST.out W hW).mono λe w' h=>And.intro (h.2.2 rfl) h.1
        go_enter Tryz.func42,Tryz.ntmps42
        go_wp2_with (first
         | (go_at_call 77;((with_reducible refine Calls.mono HW.out ?_);rintro e w1 ⟨rfl,k1⟩;have HK1:=xh k1;clear k1))
         | (go_at_call 79;((with_reducible refine Calls.mono (HIN.out w1 HK1.out) ?_);rintro e w2 ⟨rfl,hh⟩;subst hh;have c3:=HC3.out w1 HK1.out;have c4:=HC4.out w1 HK1.out;have c7:=(HTR.out.bel HK1.out).1))
         | (go_at_call 80;((with_reducible refine Calls.mono (HLD.out w1 HK1.out) ?_);rintro e w3 ⟨⟨v,rfl,hrow⟩,k3⟩;have HK3:=xh (HK1.out.tr k3);clear k3 hrow))
         | (go_at_call 81;((with_reducible refine Calls.mono (HSB.out w3 HK3.out) ?_);rintro e w4 ⟨rfl,k4⟩;have HK4:=xh (HK3.out.tr k4);clear k4)))
        go_ret2
        exact⟨rfl,Keep.of_bel _ HK4.out,λh=>by cases h⟩
      | true=>
        rw[if_neg (by simp)]
        have HSG:=xh λW hW=>(HST.out W hW).mono λe w' h=>And.intro (h.2.1 rfl) h.1
        have hw1:IntKind.i64.wrap ((used:Int)-(own:Int))=(used:Int)-(own:Int):=by rw[IntKind.wrap_i64];omega
        have hw2:IntKind.i64.wrap ((used:Int)-(own:Int)+((pageNums m).length:Int))=(used:Int)-(own:Int)+((pageNums m).length:Int):=by rw[IntKind.wrap_i64];omega
        have hw3:IntKind.i64.wrap ((used:Int)-(own:Int)+((pageNums m).length:Int)+2)=(used:Int)-(own:Int)+((pageNums m).length:Int)+2:=by rw[IntKind.wrap_i64];omega
        have HW1:=xh hw1
        have HW2:=xh hw2
        have HW3:=xh hw3
        obtain⟨N,hN⟩:∃N,(pageNums m).length=N:=⟨_,rfl⟩
        rw[hN]at HLD HW2 HW3 hpl⊢
        have HN:=xh hN
        obtain⟨ec,hec⟩:∃ec:Nat,(if mf<used-own+N+2 then 7 else 0)=ec:=⟨_,rfl⟩
        rw[hec]
        have HEC:=xh hec
        clear hw1 hw2 hw3 hN hec
        go_enter Tryz.func42,Tryz.ntmps42
        go_upto_region 16 with(first
         | (go_at_call 77;((with_reducible refine Calls.mono HW.out ?_);rintro e w1 ⟨rfl,k1⟩;have HK1:=xh k1;clear k1))
         | (go_at_call 79;((with_reducible refine Calls.mono (HIN.out w1 HK1.out) ?_);rintro e w2 ⟨rfl,hh⟩;subst hh;have c3:=HC3.out w1 HK1.out;have c4:=HC4.out w1 HK1.out;have c7:=(HTR.out.bel HK1.out).1))
         | (go_at_call 80;((with_reducible refine Calls.mono (HLD.out w1 HK1.out) ?_);rintro e w3 ⟨⟨v,rfl,hrow⟩,k3⟩;obtain⟨pv,cv,rfl,hcv,hcm,_⟩:=row_slice hrow;have HROW:=xh (hrow.mono HK1.out.size);have HK3:=xh (HK1.out.tr k3);clear k3 hrow))
         | (go_at_call 81;((with_reducible refine Calls.mono (HSG.out w3 HK3.out) ?_);rintro e w4 ⟨⟨g2,c2,rfl,hsc,hsl,hso⟩,k4⟩;have HSC:=xh hsc;have HSL:=xh hsl;have HSO:=xh hso;have HROW4:=xh (row_bel HROW.out k4);have HK34:=xh k4;have HK4:=xh (HK3.out.tr k4);clear k4 hsc hsl hso))
         | (go_at_call 62;((with_reducible refine Calls.mono (HU.out w4 HK4.out) ?_);rintro e w5 ⟨rfl,k5⟩;have HK45:=xh k5;clear k5))
         | (refine wpList_store_blk rfl 70 (.tmp 21) (.tmp 72) rfl rfl w5.heap.size (usedC a1 used a2 a3 a4) (usedC 0 0 0 0 0) 70 (Blk.new w5 _ _) rfl rfl (by kernel_rfl) rfl (by intro v hv;simp[usedC]at hv;rcases hv with rfl|rfl|rfl|rfl|rfl<;>rfl) ?_;intro w6 B6 K6))
        have kc:Bel w5 w6:=(Below.heap_alloc' w5 _).trans (K6.below _ (by simp) (λk hk=>by omega))
        have cu:w6.cell? ⟨w5.heap.size,1,none⟩=some (.int .i64 (used:Int)):=B6.out.cell 1
        have HK6:=xh ((HK4.out.tr HK45.out).tr kc)
        have HK46:=xh (HK45.out.tr kc)
        generalize w5.heap.size=g21 at *
        have c22:w6.cell? ⟨pb,o+22,none⟩=some (.slice q own qc):=by rw[(HP.out.bel HK6.out).cell];exact HC22.out
        have cf:w6.cell? ⟨kb,1,none⟩=some (.int .i64 (mf:Int)):=by rw[←HB.out];exact(HDK.out.bel HK6.out).blk.cell 1
        have hw1:=HW1.out
        have hw2:=HW2.out
        have hw3:=HW3.out
        clear kc B6 K6 c3 c4 c7
        by_cases hmm:mf<used-own+N+2
        ·have HE7:Hid (ec=7):=xh (by rw[←HEC.out,if_pos hmm])
         have hgt:(mf:Int)<(used:Int)-(own:Int)+(N:Int)+2:=by omega
         clear hmm
         go_quiet (fail)
         go_wp2
         go_ret2
         exact⟨by rw[HE7.out];rfl,Keep.of_bel _ (bel_drewN HK6.out nq),λh=>by rw[HE7.out]at h;cases h⟩
        ·have HE0:Hid (ec=0):=xh (by rw[←HEC.out,if_neg hmm])
         have hgt:¬((mf:Int)<(used:Int)-(own:Int)+(N:Int)+2):=by omega
         clear hmm
         go_quiet (fail)
         have kd:Bel w6 (w6.drewN nq):=bel_drewN (Bel.refl _) nq
         generalize w6.drewN nq=w7 at *
         have HK7:=xh (HK6.out.tr kd)
         have HROW7:=xh ((row_bel HROW4.out (HK46.out.tr kd)).mono (Nat.le_refl _))
         have HSC7:Hid (∀j u,srow[j]?=some u→w7.cell? ⟨g2,j,none⟩=some u):=xh λj u hj=>cell_bel (HK46.out.tr kd) (HSC.out j u hj)
         clear kd cu c22 cf hw1 hw2 hw3 hgt
         have HP7:=xh (HP.out.bel HK7.out)
         have hpbl:=HP.out.lt
         have HNE8:Hid (∀g',(Value.slice pv N cv).ownBlock=some g'→w.heap.size≤g'):=xh (own_ge HROW7.out)
         go_upto_region 19 with(refine wpList_append_cells (n:=N) (size:=258) (bytes:=272) rfl (.tmp 92) (.tmp 93) 77 rfl Tryz.underlying77 pageInfoR (by omega) rfl HROW7.out g2 2 c2 srow rfl HSC7.out HSL.out HSO.out (by unfold maxLen;omega) (by omega) HK7.out.size ?_;intro p8 c8 w8 R8 K8;have HR8:=xh R8;have HP8:=xh (HP7.out.keep K8 (λe=>by have:=HNE8.out _ e;omega));have HK8:=xh K8;have c22:w8.cell? ⟨pb,o+22,none⟩=some (.slice q own qc):=(HP8.out.cell _).trans HC22.out;have f22:=HP8.out.frozen;have hl8:=HP8.out.lt;clear R8 K8)
         have HP9:=HP8.out.setCell (o:=o+22) (.slice p8 (N+2) c8)
         have HR9:=row_keep HR8.out (Keep.setCell w8 pb (o+22) (.slice p8 (N+2) c8)) (λg' hg' e=>by omega)
         have HK9:Hid (Keep (λq=>q=pb∨w.heap.size≤q) w (w8.setCell ⟨pb,o+22,none⟩ (.slice p8 (N+2) c8))):=xh (((Keep.of_bel _ HK7.out).tr (HK8.out.mono λq h=>.inr (HNE8.out _ h))).tr ((Keep.setCell w8 pb _ _).mono λq h=>.inl h))
         clear c22 f22 hl8
         generalize w8.setCell ⟨pb,o+22,none⟩ (.slice p8 (N+2) c8)=w9 at *
         obtain⟨cs9,hcs9⟩:∃c,cells.set (o+22) (.slice p8 (N+2) c8)=c:=⟨_,rfl⟩
         rw[hcs9]at HP9
         have hl9:cs9.length=cells.length:=by rw[←hcs9,List.length_set]
         have c5:w9.cell? ⟨pb,o+5,none⟩=some (cs9[o+5]'(by omega)):=by rw[HP9.cell];exact List.getElem?_eq_getElem _
         have f5:=HP9.frozen
         have hw9:=HP9.lt
         have HCS9:=xh hcs9
         have HPB9:=xh HP9
         have HRB9:=xh HR9
         generalize cs9[o+5]'(by omega)=old5 at *
         clear HP9 HR9 hcs9
         go_upto_region 20 with fail
         have HP10:=HPB9.out.setCell (o:=o+5) (.int .u64 E)
         have HR10:=row_keep HRB9.out (Keep.setCell w9 pb (o+5) (.int .u64 E)) (λg' hg' e=>by omega)
         have HK10:Hid (Keep (λq=>q=pb∨w.heap.size≤q) w (w9.setCell ⟨pb,o+5,none⟩ (.int .u64 E))):=xh (HK9.out.tr ((Keep.setCell w9 pb _ _).mono λq h=>.inl h))
         clear c5 f5 hw9
         generalize w9.setCell ⟨pb,o+5,none⟩ (.int .u64 E)=w10 at *
         have hth:w10.there pb (o+6) 16:=λj hj=>⟨by rw[HP10.cell,List.getElem?_eq_getElem (by simp;omega)];rfl,HP10.frozen _⟩
         have HTH:=xh hth
         have HPB10:=xh HP10
         have HRB10:=xh HR10
         clear hth HP10 HR10
         go_upto_region 21 with(refine wpList_store_mid rfl 76 (.tmp 104) (.tmp 102) rfl pb (o+6) (List.replicate 16 (Value.int .u64 0)).toArray rfl rfl HTH.out (by kernel_rfl) (all_oneCell_toArray (by intro v hv;rw[List.eq_of_mem_replicate hv];rfl)) ?_)
         have HP11:=HPB10.out.setCells (o+6) (List.replicate 16 (Value.int .u64 0)) (by simp;omega)
         have hk11:=Keep.setCells w10 pb (o+6) (List.replicate 16 (Value.int .u64 0))
         have HR11:=row_keep HRB10.out hk11 (λg' hg' e=>by omega)
         have HK11:Hid (Keep (λq=>q=pb∨w.heap.size≤q) w (w10.setCells pb (o+6) (List.replicate 16 (Value.int .u64 0)))):=xh (HK10.out.tr (hk11.mono λq h=>.inl h))
         generalize w10.setCells pb (o+6) (List.replicate 16 (Value.int .u64 0))=w11 at *
         obtain⟨cs11,hcs11⟩:∃c,splice (cs9.set (o+5) (.int .u64 E)) (o+6) (List.replicate 16 (Value.int .u64 0))=c:=⟨_,rfl⟩
         rw[hcs11]at HP11
         have hl11:cs11.length=cells.length:=by rw[←hcs11,length_splice _ _ _ (by simp;omega),List.length_set];exact hl9
         have c21:w11.cell? ⟨pb,o+6+15,none⟩=some (cs11[o+6+15]'(by omega)):=by rw[HP11.cell];exact List.getElem?_eq_getElem _
         have f21:=HP11.frozen
         have hw11:=HP11.lt
         have HC11:=xh hcs11
         have HPB11:=xh HP11
         have HRB11:=xh HR11
         generalize cs11[o+6+15]'(by omega)=old21 at *
         clear HP11 HR11 hcs11 hk11
         go_wp2
         go_ret2
         refine⟨by rw[HE0.out];rfl,?_,λ_=>⟨.slice p8 (N+2) c8,?_,?_⟩⟩
         ·have hk:=HK11.out.tr ((Keep.setCell w11 pb (o+6+15) (.int .u64 sp)).mono λq h=>.inl h)
          exact⟨hk.os,hk.tape,hk.output,hk.size,λk hk1 hn=>hk.block k hk1 λh=>by
           rcases h with h|h
           ·exact hn h
           ·omega⟩
         ·have:=row_keep HRB11.out (Keep.setCell w11 pb (o+6+15) (.int .u64 sp)) (λg' hg' e=>by omega)
          rw[HMS.out,HN.out]
          unfold refRow
          exact this
         ·have:=HPB11.out.setCell (o:=o+6+15) (.int .u64 sp)
          unfold execC
          rw[HEQ.out,HCS9.out,HC11.out,show o+21=o+6+15 from by omega]
          exact this
     ·rw[if_pos hl]
      have hld2:=λ(W:World) (hW:Bel w W)=>(hld W hW).mono λe w' h=>And.intro (h.2.err hl) h.1
      obtain⟨c,hcc⟩:∃c,loadE y.byt=c:=⟨_,rfl⟩
      rw[hcc]at hl hld2⊢
      have HLD:=xh hld2
      have hcb:((c:Int)==0)=false:=beq_eq_false_iff_ne.2 (by omega)
      have HCN:=xh hl
      clear hl hld hld2 hcc
      go_enter Tryz.func42,Tryz.ntmps42
      go_wp2_with (first
       | (go_at_call 77;((with_reducible refine Calls.mono HW.out ?_);rintro e w1 ⟨rfl,k1⟩;have HK1:=xh k1;clear k1))
       | (go_at_call 79;((with_reducible refine Calls.mono (HIN.out w1 HK1.out) ?_);rintro e w2 ⟨rfl,hh⟩;subst hh;have c3:=HC3.out w1 HK1.out;have c4:=HC4.out w1 HK1.out;have c7:=(HTR.out.bel HK1.out).1))
       | (go_at_call 80;((with_reducible refine Calls.mono (HLD.out w1 HK1.out) ?_);rintro e w3 ⟨rfl,k3⟩;have HK3:=xh (HK1.out.tr k3);clear k3)))
      go_ret2
      exact⟨rfl,Keep.of_bel _ HK3.out,λh=>absurd h HCN.out⟩
 ·rw[if_pos hc]
  have hcb:((c:Int)==0)=false:=beq_eq_false_iff_ne.2 (by omega)
  have HC:=xh hc
  clear hc hold
  go_enter Tryz.func42,Tryz.ntmps42
  go_wp2_with (go_at_call 77;((with_reducible refine Calls.mono HW.out ?_);rintro e w1 ⟨rfl,k1⟩))
  go_ret2
  exact⟨rfl,Keep.of_bel _ k1,λh=>absurd h HC.out⟩
end Go.Proofs.YtjdaddmjpicflaaGreatDoor
namespace Go.Proofs.YtjdaddmjpicflaaGreatDoor
open Go.RowKit Go.MapKept Go.Maps
theorem file_err (kb tb:Nat) (s:ByteArray) (c:Int) (p:Option Addr) (n cap:Nat) (w:World) (hc:w.cell? ⟨kb,6,none⟩=some (.pointer (some ⟨tb,0,none⟩)))
 (hf:∀W,Bel w W→Calls Tryz.prog 64 #[.pointer (some ⟨tb,0,none⟩),.string s] W λe w'=>e=.returned (.tuple #[.agg #[.pointer none,.string ⟨#[]⟩,.pointer none],errN c])∧Bel W w') :
 Calls Tryz.prog 33 #[.pointer (some ⟨kb,0,none⟩),.agg #[.string s,.bool false,.slice p n cap]] w λe w'=>e=.returned (errN c)∧Bel w w':=by
 have HF:=xh hf
 have HC:=xh hc
 clear hf hc
 go_enter Tryz.func33,Tryz.ntmps33
 go_upto_region 1 with fail
 have k1:Bel w (w.alloc (.cells #[.string s,.bool false,.slice p n cap] 46)):=Bel.start w _
 have B1:=Blk.new w [.string s,.bool false,.slice p n cap] 46
 generalize w.alloc (.cells #[.string s,.bool false,.slice p n cap] 46)=w1 at *
 obtain⟨g3,hg3⟩:∃g,w.heap.size=g:=⟨_,rfl⟩
 rw[hg3]at B1⊢
 have HB1:=xh B1
 have HK1:=xh k1
 have c0:w1.cell? ⟨g3,0,none⟩=some (.string s):=B1.cell 0
 have c1:w1.cell? ⟨g3,1,none⟩=some (.bool false):=B1.cell 1
 have c6:w1.cell? ⟨kb,6,none⟩=some (.pointer (some ⟨tb,0,none⟩)):=cell_bel k1 HC.out
 clear k1 B1 hg3
 go_upto_region 3 with fail
 have hg3l:g3<w1.heap.size:=HB1.out.lt
 have hkl:kb<w1.heap.size:=World.block_lt_of_cell? _ _ c6
 go_region_with (first
  | (go_at_call 64;((with_reducible refine Calls.mono (HF.out _ (HK1.out.drew)) ?_);rintro e w2 ⟨rfl,k2⟩;have HK2:Hid (Bel w1 w2):=xh ((Bel.drew (Bel.refl w1)).tr k2);have hu:w1.heap.size≤w2.heap.size:=HK2.out.size;clear k2))
  | (go_at_call 64;((with_reducible refine Calls.mono (HF.out _ ((HK1.out.ac _).drew)) ?_);rintro e w2 ⟨rfl,k2⟩;have B5:=(Blk.new w1 [.pointer none,.string ⟨#[]⟩,.pointer none] 190).bel ((Bel.drew (Bel.refl _)).tr k2);have HK2:Hid (Bel w1 w2):=xh (((Bel.start w1 _).tr (Bel.drew (Bel.refl _))).tr k2);have HB5:=xh B5;have c50:w2.cell? ⟨w1.heap.size,0,none⟩=some (.pointer none):=B5.cell 0;have c51:w2.cell? ⟨w1.heap.size,1,none⟩=some (.string ⟨#[]⟩):=B5.cell 1;have c52:w2.cell? ⟨w1.heap.size,2,none⟩=some (.pointer none):=B5.cell 2;have f5:=B5.frozen;clear k2 B5)))
 all_goals go_wp2
 all_goals go_ret
 all_goals first
  | exact⟨rfl,HK1.out.tr (HK2.out.ac _)⟩
  | exact⟨rfl,HK1.out.tr HK2.out⟩
  | exact⟨rfl,HK1.out.tr (((HK2.out.store (p:=⟨w1.heap.size,0,none⟩) (Nat.le_refl _) _).store (p:=⟨w1.heap.size,1,none⟩) (Nat.le_refl _) _).store (p:=⟨w1.heap.size,2,none⟩) (Nat.le_refl _) _)⟩
theorem file_any (kb tb:Nat) (A:Adr) (T:List Pn) (mi mb:Nat) (s:ByteArray) (is:Bool) (p:Option Addr) (cap:Nat) (L:List Int) (w:World) (h:PT w tb A T mi mb) (hc:w.cell? ⟨kb,6,none⟩=some (.pointer (some ⟨tb,0,none⟩))) (hkb:¬Foot tb A T kb)
 (hbs:BS w p L) (hlen:L.length≤200000) (hbsf:∀b o,p=some ⟨b,o,none⟩→¬Foot tb A T b) (hs:s.size≤1000000) (hmx:MaxVar w) :
 Calls Tryz.prog 33 #[.pointer (some ⟨kb,0,none⟩),.agg #[.string s,.bool is,.slice p L.length cap]] w λe w'=>FileRes w tb A T mi mb (fileF mi mb (nds T) s.data.toList is L) e w':=by
 cases is with
 | true=>
   have hm:=λW (hW:Bel w W)=>mkdir_any tb A T mi mb s W (h.bel hW) hs (hmx.bel hW)
   show Calls _ _ _ _ λe w'=>FileRes w tb A T mi mb (mkF mi (nds T) s.data.toList) e w'
   generalize mkF mi (nds T) s.data.toList=r at *
   by_cases h0:r.1=0
   ·refine(file_dir kb tb s _ .nilIface w (λW w'=>∃A' T',PStep W tb A T mi mb r.2 A' T' w') rfl hc λW hW=>(hm W hW).mono λe w' k=>k.2 h0).mono ?_
    rintro e w' ⟨rfl,W,hW,A',T',k⟩
    exact⟨λh=>absurd h0 h,λ_=>⟨rfl,A',T',k.pt,k.nds,(Keep.of_bel _ hW).tr k.keep,λq hq=>by
     rcases k.foot q hq with h|h
     ·exact .inl h
     ·exact .inr (Nat.le_trans hW.size h)⟩⟩
   ·refine(file_dir kb tb s _ (errN r.1) w (λW w'=>Keep (Foot tb A T) W w') rfl hc λW hW=>(hm W hW).mono λe w' k=>k.1 h0).mono ?_
    rintro e w' ⟨rfl,W,hW,k⟩
    exact⟨λ_=>⟨rfl,(Keep.of_bel _ hW).tr k⟩,λh=>absurd h h0⟩
 | false=>
   have hf:=λW (hW:Bel w W)=>find_any tb A T _ s W (h.bel hW).block (h.bel hW).tree hs (hmx.bel hW)
   have hroot:=h.tree.isRoot
   have hnew:=docWalk_new (L:=nds T) (s:=s.data.toList) hroot
   have hold:=docWalk_old (L:=nds T) (s:=s.data.toList) hroot
   unfold fileF
   obtain⟨d,nm,n,c,hr⟩:∃d nm n c,docWalk (nds T) s.data.toList=(d,nm,n,c):=⟨_,_,_,_,rfl⟩
   rw[hr]at hnew hold
   simp only[hr]at hf hnew hold⊢
   rw[if_neg (by simp)]
   by_cases hcc:c=0
   ·subst hcc
    rw[if_neg (by simp)]
    refine file_node kb tb A T mi mb s nm p cap L d n w h hc hkb hbs hlen hbsf (λW hW=>(hf W hW).mono λe w' k=>⟨k.1.trans (by rw[spotV,if_pos rfl]),k.2⟩) _ ?_
    by_cases hn:n=0
    ·rw[if_pos hn,if_pos hn]
     obtain⟨h1,h2,h3,h4,h5⟩:=hnew rfl hn
     exact⟨h1,h2,h3,h4,h5,by rw[nds_len]⟩
    ·rw[if_neg hn,if_neg hn]
     have:=hold rfl
     rw[nds_len]at this
     exact⟨this,rfl⟩
   ·rw[if_pos hcc]
    refine(file_err kb tb s c p L.length cap w hc λW hW=>(hf W hW).mono λe w' k=>⟨k.1.trans (by rw[spotV,if_neg hcc]),k.2⟩).mono ?_
    rintro e w' ⟨rfl,k⟩
    exact⟨λ_=>⟨rfl,Keep.of_bel _ k⟩,λh=>absurd h hcc⟩
def rootPn:Pn:=⟨0,⟨#[]⟩,true,[],.slice none 0 0,0,false⟩
theorem newtree_pt (mi mb:Nat) (w:World) (h1:1≤mi) (hmi:mi≤100000) (hmb:mb≤100000) :
 PT (((w.alloc (.map #[] 0)).alloc (.cells #[.string ⟨#[]⟩,.pointer none,.map (some w.heap.size),.slice none 0 0,.int .i64 0,.bool false] 183)).alloc (.cells #[.pointer (some ⟨w.heap.size+1,0,none⟩),.int .i64 1,.int .i64 0,.int .i64 mi,.int .i64 mb] 185)) (w.heap.size+2) ⟨λ_=>w.heap.size+1,λ_=>w.heap.size⟩ [rootPn] mi mb:=by
 have one:∀(i:Nat) (n:Pn),[rootPn][i]?=some n→i=0∧n=rootPn:=λi n h=>by
  cases i with
  | zero=>simp at h;exact⟨rfl,h.symm⟩
  | succ i=>simp at h
 have B1:Blk ((w.alloc (.map #[] 0)).alloc (.cells #[.string ⟨#[]⟩,.pointer none,.map (some w.heap.size),.slice none 0 0,.int .i64 0,.bool false] 183)) (w.heap.size+1) [.string ⟨#[]⟩,.pointer none,.map (some w.heap.size),.slice none 0 0,.int .i64 0,.bool false] 183:=Blk.new_at _ _ _ (by simp)
 have M1:=((Mp.new keyS w).alloc (.cells #[.string ⟨#[]⟩,.pointer none,.map (some w.heap.size),.slice none 0 0,.int .i64 0,.bool false] 183)).alloc (.cells #[.pointer (some ⟨w.heap.size+1,0,none⟩),.int .i64 1,.int .i64 0,.int .i64 mi,.int .i64 mb] 185)
 refine⟨⟨?_,?_,?_,?_,?_,?_,?_,?_,?_,?_,?_,by simp⟩,Blk.new_at _ _ _ (by simp),h1,Nat.zero_le _,hmi,hmb⟩
 ·intro i n hi
  obtain⟨rfl,rfl⟩:=one i n hi
  exact B1.alloc _
 ·intro i n hi _
  obtain⟨rfl,rfl⟩:=one i n hi
  exact M1
 ·intro i n hi
  obtain⟨rfl,rfl⟩:=one i n hi
  exact⟨(λx hx=>by cases hx),.inl ⟨rfl,rfl⟩⟩
 ·intro i j hi hj _;simp at hi hj;omega
 ·intro i j m n hi hj _ _ _
  rw[(one i m hi).1,(one j n hj).1]
 ·intro i j m n g hi hj _ _
  rw[(one i m hi).1,(one j n hj).1]
 ·intro i n hi
  obtain⟨rfl,rfl⟩:=one i n hi
  exact Nat.le_refl _
 ·intro i n hi h
  obtain⟨rfl,rfl⟩:=one i n hi
  exact absurd rfl h
 ·exact⟨rootPn,rfl,rfl,rfl,rfl⟩
 ·intro i n hi _ h
  exact absurd (one i n hi).1 h
 ·intro i n hi _ h
  exact absurd (one i n hi).1 h
inductive NewRes (mi mb B:Nat) (e:Ending) (w':World):Prop
 | mk (tb:Nat) (A:Adr):e=.returned (.tuple #[.pointer (some ⟨tb,0,none⟩),.nilIface])→PT w' tb A [rootPn] mi mb→(∀q,Foot tb A [rootPn] q→B≤q)→NewRes mi mb B e w'
theorem newtree_any (mi mb:Nat) (w:World) (h1:1≤mi) (hmi:mi≤100000) (hmb:mb≤100000) :
 Calls Tryz.prog 31 #[.int .i64 mi,.int .i64 mb] w λe w'=>NewRes mi mb w.heap.size e w'∧Bel w w':=by
 have hmm:∀w,(Instr.makeMap 181 none).run Tryz.prog w=.ok (.map (some w.heap.size)) (w.alloc (.map #[] 0)):=λw=>by kernel_rfl
 have hn:¬((mi:Int)<1):=by omega
 go_enter Tryz.func31,Tryz.ntmps31
 go_wp2
 go_ret2
 refine⟨NewRes.mk (w.heap.size+2) ⟨λ_=>w.heap.size+1,λ_=>w.heap.size⟩ rfl (newtree_pt mi mb w h1 hmi hmb) ?_,((Bel.start w _).ac _).ac _⟩
 rintro q (rfl|⟨i,n,hi,rfl|⟨_,rfl⟩|h⟩)
 ·omega
 ·show w.heap.size≤w.heap.size+1;omega
 ·exact Nat.le_refl _
 ·cases i with
  | zero=>simp at hi;subst hi;cases h
  | succ i=>simp at hi
theorem newtable_any (n:Int) (w:World) :
 Calls Tryz.prog 32 #[.int .i64 n] w λe w'=>(∃ob,e=.returned (.pointer (some ⟨ob,0,none⟩))∧w.heap.size≤ob∧Blk w' ob [.int .i64 0,.int .i64 n] 187)∧Bel w w':=by
 go_enter Tryz.func32,Tryz.ntmps32
 go_wp2
 go_ret
 exact⟨⟨_,rfl,Nat.le_refl _,Blk.new w _ _⟩,Bel.start _ _⟩
theorem held_any (cb:Nat) (fds:Nat) (a b:Value) (w:World) (hc:Blk w cb [.int .i64 fds,a,b] 105) (hf:fds≤1000000) :
 Calls Tryz.prog 384 #[.pointer (some ⟨cb,0,none⟩),.int .i64 1] w λe w'=>e=.returned (.int .i64 (fds+1:Nat))∧Blk w' cb [.int .i64 (fds+1:Nat),a,b] 105∧Keep (λq=>q=cb) w w':=by
 have c0:w.cell? ⟨cb,0,none⟩=some (.int .i64 (fds:Int)):=hc.cell 0
 have f0:=hc.frozen
 have HC:=xh hc
 have hl:=hc.lt
 clear hc
 go_enter Tryz.func384,Tryz.ntmps384
 go_wp2
 go_ret
 exact⟨rfl,HC.out.setCell (o:=0) _,Keep.setCell _ _ _ _⟩
theorem hold_any (ob:Option Addr) (cb:Nat) (fds:Nat) (a b:Value) (w:World) (hc:Blk w cb [.int .i64 fds,a,b] 105) (hf:fds≤1000000) :
 Calls Tryz.prog 34 #[.pointer ob,.iface 101 (.pointer (some ⟨cb,0,none⟩))] w λe w'=>e=.returned (.tuple #[])∧Blk w' cb [.int .i64 (fds+1:Nat),a,b] 105∧Keep (λq=>q=cb) w w':=by
 have hme:∀w,(Go.method 660 101 (.pointer (some ⟨cb,0,none⟩)) "tinyos/files.hold").run Tryz.prog w=.ok (384,.pointer (some ⟨cb,0,none⟩)) w:=λw=>by kernel_rfl
 have HH:=xh (held_any cb fds a b w hc hf)
 clear hc
 go_enter Tryz.func34,Tryz.ntmps34
 go_wp2_with (go_at_call 384;((with_reducible refine Calls.mono HH.out ?_);rintro e w1 ⟨rfl,B1,K1⟩))
 go_end0
 exact⟨rfl,B1,K1⟩
theorem kroom_any (kb:Nat) (used lim n:Int) (w:World) (h9:w.cell? ⟨kb,9,none⟩=some (.int .i64 used)) (h1:w.cell? ⟨kb,1,none⟩=some (.int .i64 lim)) (hu : -10000000≤used∧used≤10000000) (hn : -10000000≤n∧n≤10000000) (hl : -10000000≤lim∧lim≤10000000) :
 Calls Tryz.prog 72 #[.pointer (some ⟨kb,0,none⟩),.int .i64 n] w λe w'=>e=.returned (.bool (decide (used+n≤lim)))∧∃n,w'=w.drewN n:=by
 have hw:IntKind.i64.wrap (used+n)=used+n:=by rw[IntKind.wrap_i64];omega
 by_cases h:used+n≤lim
 ·have hd:decide (used+n≤lim)=true:=by simpa using h
  rw[hd]
  clear hd
  go_enter Tryz.func72,Tryz.ntmps72
  go_upto_region 1 with fail
  go_quiet (fail)
  go_wp2
  go_ret
  exact⟨rfl,nq,rfl⟩
 ·have hd:decide (used+n≤lim)=false:=by simpa using h
  rw[hd]
  clear hd
  go_enter Tryz.func72,Tryz.ntmps72
  go_upto_region 1 with fail
  go_quiet (fail)
  go_wp2
  go_ret
  exact⟨rfl,nq,rfl⟩
end Go.Proofs.YtjdaddmjpicflaaGreatDoor
namespace Go.Proofs.YtjdaddmjpicflaaGreatDoor
open Go.RowKit
structure FileA where
 path:ByteArray
 dir:Bool
 p:Option Addr
 cap:Nat
 byt:List Int
def rootNd:Nd:=⟨0,⟨#[]⟩,true,[],emptyB⟩
def filesF (mi mb:Nat):List Nd→List FileA→Nat×List Nd
 | N,[]=>(0,N)
 | N,f::fs=>if (fileF mi mb N f.path.data.toList f.dir f.byt).1≠0 then((fileF mi mb N f.path.data.toList f.dir f.byt).1,N)else filesF mi mb (fileF mi mb N f.path.data.toList f.dir f.byt).2 fs
structure Lims where
 a:Int
 b:Int
 c:Int
 d:Int
 e:Int
def Lims.okA (l:Lims):Bool:=decide (1≤l.a∧l.a≤16∧1≤l.b∧l.b≤1000)
def Lims.okB (l:Lims):Bool:=decide (0≤l.c∧l.c≤100000∧0≤l.d∧l.d≤100000∧0≤l.e∧l.e≤100000)
def initP:List UInt8:=[47,105,110,105,116]
noncomputable def bootE (l:Lims) (F:List FileA):Nat:=
 if l.okA=false then 6 else if l.okB=false then 6 else if l.d=0 then 12 else
 if (filesF l.d.toNat l.e.toNat [rootNd] F).1≠0 then(filesF l.d.toNat l.e.toNat [rootNd] F).1 else
 execE (filesF l.d.toNat l.e.toNat [rootNd] F).2 initP true 0 0 l.b.toNat
theorem isDir_app {N M:List Nd} (h:isDir N 1=true):isDir (N++M) 1=true:=by
 obtain⟨x,hx,hd⟩:=isDir_lt h
 unfold isDir
 rw[List.getElem?_append_left (List.getElem?_eq_some_iff.1 hx).1,hx]
 exact hd
theorem putB_inv {mb:Nat} {N:List Nd} {n:Nat} {b:List Int} (hs:sumB N≤mb) (hr:isDir N 1=true) (h:(putB mb N n b).1=0):sumB (putB mb N n b).2≤mb∧isDir (putB mb N n b).2 1=true∧(putB mb N n b).2.length=N.length:=by
 unfold putB at h⊢
 cases hx:N[n-1]? with
 | none=>rw[hx]at h;cases h
 | some x=>
   rw[hx]at h
   simp only at h⊢
   by_cases h1:x.dir=true
   ·rw[if_pos h1]at h;cases h
   ·rw[if_neg h1]at h⊢
    by_cases h2:0<b.length∧mb<sumB N+(b.length-x.byt.length)
    ·rw[if_pos h2]at h;cases h
    ·rw[if_neg h2]
     refine⟨?_,?_,by simp⟩
     ·have:=sumB_set N (n-1) x {x with byt:=b++x.byt.drop b.length} hx
      simp only[List.length_append,List.length_drop]at this
      show sumB (N.set (n-1) _)≤mb
      by_cases h0:0<b.length
      ·have h3:¬mb<sumB N+(b.length-x.byt.length):=λh=>h2 ⟨h0,h⟩
       omega
      ·omega
     ·show isDir (N.set (n-1) _) 1=true
      obtain⟨y,hy,hyd⟩:=isDir_lt hr
      unfold isDir
      by_cases e:n-1=1-1
      ·rw[←e]at hy
       rw[hx]at hy
       cases hy
       exact absurd hyd h1
      ·rw[List.getElem?_set_ne e,hy]
       exact hyd
theorem fileF_inv {mi mb:Nat} {N:List Nd} {path:List UInt8} {is:Bool} {b:List Int} (hs:sumB N≤mb) (hr:isDir N 1=true) (h:(fileF mi mb N path is b).1=0) :
 sumB (fileF mi mb N path is b).2≤mb∧isDir (fileF mi mb N path is b).2 1=true∧(fileF mi mb N path is b).2.length≤N.length+1:=by
 unfold fileF at h⊢
 cases is with
 | true=>
   simp only[if_true]at h⊢
   unfold mkF at h⊢
   split at h
   ·rename_i h1;exact absurd h h1
   ·rename_i h1
    rw[if_neg h1]
    split at h
    ·cases h
    ·rename_i h2
     rw[if_neg h2]
     split at h
     ·cases h
     ·rename_i h3
      rw[if_neg h3]
      refine⟨?_,isDir_app hr,by simp⟩
      show sumB (N++_)≤mb
      rw[sumB_app]
      exact hs
 | false=>
   simp only[Bool.false_eq_true,if_false]at h⊢
   split at h
   ·rename_i h1;exact absurd h h1
   ·rename_i h1
    rw[if_neg h1]
    split at h
    ·rename_i h2
     rw[if_pos h2]
     split at h
     ·cases h
     ·rename_i h3
      rw[if_neg h3]
      obtain⟨k1,k2,k3⟩:=putB_inv (mb:=mb) (N:=N++[⟨(docWalk N path).1,(docWalk N path).2.1,false,[],emptyB⟩]) (by rw[sumB_app];exact hs) (isDir_app hr) h
      exact⟨k1,k2,by rw[k3];simp⟩
    ·rename_i h2
     rw[if_neg h2]
     obtain⟨k1,k2,k3⟩:=putB_inv hs hr h
     exact⟨k1,k2,by omega⟩
end Go.Proofs.YtjdaddmjpicflaaGreatDoor
