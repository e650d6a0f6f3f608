/- The document's Boot: the files, the process. -/
import Derived.Deep.RegionLaw
import Derived.Deep.RegionHeld3
import Derived.Deep.DrawnRows
import Derived.Test.YtjdaddmjpicflaaGreatDoorP20
import Derived.Test.YtjdaddmjpicflaaGreatDoorP05
import Derived.Test.YtjdaddmjpicflaaGreatDoorP21
import Derived.Test.YtjdaddmjpicflaaGreatDoorP00
import Derived.Test.YtjdaddmjpicflaaGreatDoorP01
set_option linter.unusedVariables false
set_option linter.unusedSimpArgs false
set_option maxRecDepth 100000
set_option maxHeartbeats 16000000
namespace Go.Proofs.YtjdaddmjpicflaaGreatDoor
open Go.RowKit
theorem procInfoR:(Tryz.prog.info? 80).map (λi=>(i.size,i.bytes,(i.zero.map (·.cells.size))))=some (31,264,some 31):=by kernel_rfl
structure BootDK (w:World) (kb:Nat) (l:Lims) (F:List FileA):Prop where
 tree:∃(iv:Value) (L:List Nd) (s:KV) (pb pc:Nat) (cells:List Value) (v:Value),DK w kb s iv L∧sks L=(filesF l.d.toNat l.e.toNat [rootNd] F).2∧isDir L 1=true∧sumB (sks L)≤100000∧
  s=⟨l.a,l.b,l.c,l.d,l.e,.slice (some ⟨pb,0,none⟩) 1 pc,.slice none 0 0,.slice none 0 0,.slice none 0 0,.slice none 0 0,.slice none 0 0⟩∧Blk w pb cells 80∧1≤pc∧kb<pb∧
  cells.take 31=execC proc0 0 v (numAt (execB L initP) 24 8) (spOf (stAll initSS) 1)∧
  w.ownsRow (kb+1) 148 258 v ((pageNums (spaceL (execB L initP))).length+2) (refRow (withStack (spaceL (execB L initP)) initSS))
def BootDRes (w:World) (l:Lims) (F:List FileA) (e:Ending) (w':World):Prop:=
 Bel w w'∧(bootE l F≠0→e=.returned (.tuple #[.pointer none,.int .i64 (bootE l F:Nat)]))∧(bootE l F=0→∃kb,e=.returned (.tuple #[.pointer (some ⟨kb,0,none⟩),.int .i64 0])∧w.heap.size≤kb∧BootDK w' kb l F)
theorem DK.setPv {w:World} {kb:Nat} {s:KV} {iv:Value} {L:List Nd} (h:DK w kb s iv L) (v:Value):DK (w.setCell ⟨kb,5,none⟩ v) kb {s with pv:=v} iv L:=by
 have k:=Keep.setCell w kb 5 v
 refine⟨h.blk.setCell (o:=5) v,row_keep h.row k (λg hg e=>by have e:g=kb:=e;omega),λn hn=>⟨(h.byts n hn).1.keep k λg hg e=>?_,(h.byts n hn).2⟩,h.few,h.one⟩
 obtain⟨_,cur,hb⟩:=(h.byts n hn).1.lt hg
 have e:g=kb:=e
 subst e
 exact h.blk.ne hb (by decide) rfl
def ProcAt (wx:World) (kb:Nat) (s:KV) (iv:Value) (L:List Nd) (cs:List Value) (w20:World):Prop:=
 ∃(g8 c8:Nat) (cells:List Value),Blk wx g8 cells 80∧cells.take 31=cs∧1≤c8∧31≤cells.length∧kb<g8∧DK wx kb {s with pv:=.slice (some ⟨g8,0,none⟩) 1 c8} iv L∧Keep (λq=>kb≤q) w20 wx
theorem procAt_mk {w20 w8:World} {kb:Nat} {s:KV} {iv:Value} {L:List Nd} {cs:List Value} {p8:Option Addr} {c8:Nat} (h:DK w20 kb s iv L) (hl:cs.length=31) (R8:w8.ownsRow (kb+1) 80 31 (.slice p8 (0+1) c8) (0+1) cs) (k8:Bel w20 w8):ProcAt (w8.setCell ⟨kb,5,none⟩ (.slice p8 (0+1) c8)) kb s iv L cs w20:=by
 have hd:=(h.bel k8).setPv (.slice p8 (0+1) c8)
 rcases R8.2 with⟨_,h0⟩|⟨g,cap,cur,e,hg,hb,h1,h2,h3,h4⟩
 ·omega
 ·cases e
  have hb':Blk w8 g cur.toList 80:=hb
  have hcur:cur.toList.length=c8*31:=by simpa using h3
  exact⟨g,c8,cur.toList,hb'.keep (Keep.setCell w8 kb 5 _) (λe=>by have e:g=kb:=e;omega),by simpa using h4,by omega,by omega,by omega,hd,(Keep.of_bel _ k8).tr ((Keep.setCell w8 kb 5 _).mono λq e=>by have e:q=kb:=e;omega)⟩
theorem bootD_main (l:Lims) (F:List FileA) (v1 v2 v3:Value) (w:World) (hF:FLists w F v1 v2 v3) (h:l.okA=true) (hb:l.okB=true) (hd:l.d≠0) :
 Calls Tryz.prog 18 #[.agg (limC l).toArray,v1,v2,v3] w λe w'=>BootDRes w l F e w':=by
 have hbe:bootE l F=if (filesF l.d.toNat l.e.toNat [rootNd] F).1≠0 then(filesF l.d.toNat l.e.toNat [rootNd] F).1 else execE (filesF l.d.toNat l.e.toNat [rootNd] F).2 initP true 0 0 l.b.toNat:=by
  unfold bootE
  rw[if_neg (by rw[h];simp),if_neg (by rw[hb];simp),if_neg hd]
 have HBE:=xh hbe
 clear hbe
 obtain⟨a,b,c,d,e⟩:=l
 simp only at HBE
 obtain⟨h1,h2,h3,h4⟩:¬a<1∧¬16<a∧¬b<1∧¬1000<b:=by
  simp only[Lims.okA,decide_eq_true_eq]at h
  omega
 obtain⟨g1,g2,g3,g4,g5,g6⟩:¬c<0∧¬100000<c∧¬d<0∧¬100000<d∧¬e<0∧¬100000<e:=by
  simp only[Lims.okB,decide_eq_true_eq]at hb
  omega
 have hd0:(d==0)=false:=by simpa using hd
 have HF:=xh hF
 have HD:=xh hd
 clear h hb hF hd
 simp only[limC]
 go_enter Tryz.func18,Tryz.ntmps18
 go_upto_region 8 with fail
 have k1:Bel w ((w.alloc (.cells #[.int .i64 a,.int .i64 b,.int .i64 c,.int .i64 d,.int .i64 e] 70)).alloc (.cells #[.int .i64 a,.int .i64 b,.int .i64 c,.int .i64 d,.int .i64 e,.slice none 0 0,.slice none 0 0,.slice none 0 0,.slice none 0 0,.slice none 0 0,.slice none 0 0,.slice none 0 0,.int .i64 0] 87)):=(Bel.start w _).ac _
 have B1:Blk ((w.alloc (.cells #[.int .i64 a,.int .i64 b,.int .i64 c,.int .i64 d,.int .i64 e] 70)).alloc (.cells #[.int .i64 a,.int .i64 b,.int .i64 c,.int .i64 d,.int .i64 e,.slice none 0 0,.slice none 0 0,.slice none 0 0,.slice none 0 0,.slice none 0 0,.slice none 0 0,.slice none 0 0,.int .i64 0] 87)) (w.heap.size+1) (KV.cells ⟨a,b,c,d,e,.slice none 0 0,.slice none 0 0,.slice none 0 0,.slice none 0 0,.slice none 0 0,.slice none 0 0⟩ (.slice none 0 0) 0) 87:=Blk.new_at _ _ _ (by simp)
 generalize (w.alloc (.cells #[.int .i64 a,.int .i64 b,.int .i64 c,.int .i64 d,.int .i64 e] 70)).alloc (.cells #[.int .i64 a,.int .i64 b,.int .i64 c,.int .i64 d,.int .i64 e,.slice none 0 0,.slice none 0 0,.slice none 0 0,.slice none 0 0,.slice none 0 0,.slice none 0 0,.slice none 0 0,.int .i64 0] 87)=w1 at *
 obtain⟨s,hs⟩:∃s:KV,s=⟨a,b,c,d,e,.slice none 0 0,.slice none 0 0,.slice none 0 0,.slice none 0 0,.slice none 0 0,.slice none 0 0⟩:=⟨_,rfl⟩
 rw[←hs]at B1
 obtain⟨kb,hkb⟩:∃k,w.heap.size+1=k:=⟨_,rfl⟩
 rw[hkb]at B1⊢
 have HS:=xh hs
 have hkw:w.heap.size<kb:=by omega
 have HFR:=xh (fresh_any kb s (.slice none 0 0) 0 w1 B1 (by omega))
 have HB1:=xh B1
 have HK1:=xh k1
 clear hs hkb B1 k1
 go_upto_region 9 with(go_at_call 40;((with_reducible refine Calls.mono HFR.out ?_);rintro e2 w2 ⟨rfl,b2,k2⟩))
 have c7:w2.cell? ⟨kb,7,none⟩=some (.slice none 0 0):=b2.cell 7
 have f7:=b2.frozen
 have hlt2:=b2.lt
 have HB2:=xh b2
 have HK2:Hid (Keep (λq=>kb≤q) w1 w2):=xh (k2.mono λq h=>by have h:q=kb:=h;omega)
 have HBP:Hid (Tryz.prog.built 138 [(0,.int .i64 ((0+1:Nat):Int)),(3,.bool true)]=some #[.int .i64 ((0+1:Nat):Int),.int .i64 0,.string ⟨#[]⟩,.bool true,emptyB]):=xh (by kernel_rfl)
 clear b2 k2
 go_cut [] (λwx=>Hid (∃iv',DK wx kb s iv' [rootNd]∧Keep (λq=>kb≤q) w2 wx))
 case first=>
  go_upto_region 10 with(first
   | (refine wpList_buildTo rfl 138 _ rfl (some 77) rfl _ (by simp only[List.map_toArray,List.map_cons,List.map_nil];exact HBP.out) ?_)
   | (refine wpList_buildSlice_one rfl 83 138 (.tmp 77) rfl [.int .i64 ((0+1:Nat):Int),.int .i64 0,.string ⟨#[]⟩,.bool true,emptyB] rfl Tryz.underlying83 inodeInfo (by show 0<5;omega) (by show 5≤2^24;omega) ?_;intro w3 B3 K3)
   | (at_builtin;refine wpList_append_grown (w:=w3) (base:=kb+1) (n:=0) (xs:=[]) rfl (.tmp 75) (.tmp 78) 83 rfl Tryz.underlying83 inodeInfo (by omega) rfl (World.ownsRow_nil w3 (kb+1) _ _) _ 1 1 [.int .i64 ((0+1:Nat):Int),.int .i64 0,.string ⟨#[]⟩,.bool true,emptyB] 138 rfl B3.out rfl (by intro v hv;simp at hv;rcases hv with rfl|rfl|rfl|rfl|rfl<;>rfl) (by unfold maxLen;omega) (by omega) (by have:=K3.size;omega) ?_;intro p4 c4 w4 R4 K4;have B4:=(HB2.out.bel K3).keep K4 (λe=>by cases e);have f4:=B4.frozen;have q4:w4.cell? ⟨kb,7,none⟩=some (.slice none 0 0):=B4.cell 7;have l4:=B4.lt;have HB4:=xh B4;have HR4:=xh R4;clear B4 R4))
  have B5:Blk (w4.setCell ⟨kb,7,none⟩ (.slice p4 (0+1) c4)) kb (s.cells (.slice p4 (0+1) c4) (0+1)) 87:=HB4.out.setCell (o:=7) _
  have R5:=row_keep HR4.out (Keep.setCell w4 kb 7 (.slice p4 (0+1) c4)) (λg hg e=>by omega)
  have K5:Keep (λq=>kb≤q) w2 (w4.setCell ⟨kb,7,none⟩ (.slice p4 (0+1) c4)):=((Keep.of_bel _ K3).tr (K4.mono λq h=>by cases h)).tr ((Keep.setCell w4 kb 7 _).mono λq h=>by have h:q=kb:=h;omega)
  have HDK:Hid (∃iv',DK (w4.setCell ⟨kb,7,none⟩ (.slice p4 (0+1) c4)) kb s iv' [rootNd]∧Keep (λq=>kb≤q) w2 (w4.setCell ⟨kb,7,none⟩ (.slice p4 (0+1) c4))):=xh ⟨_,⟨B5,R5,λn hn=>by
   simp at hn
   subst hn
   exact⟨⟨(λx hx=>by cases hx),.inl ⟨rfl,rfl⟩⟩,λg hg=>by cases hg⟩,by simp,by simp⟩,K5⟩
  go_wp2_with fail
  go_meet
  exact HDK
 case rest=>
  obtain⟨iv0,hdk,hkc⟩:=hcut.out
  have HD0:=xh hdk
  have HKC:Hid (Keep (λq=>kb≤q) w1 wc):=xh (HK2.out.tr hkc)
  clear c7 f7 hlt2 hdk hkc
  have hn:=HF.out.n
  have hmi:d.toNat≤100000:=by omega
  have hmb:e.toNat≤100000:=by omega
  have hsd:s.d=(d.toNat:Int):=by rw[HS.out];show d=_;omega
  have hse:s.e=(e.toNat:Int):=by rw[HS.out];show e=_;omega
  have hpv:s.pv=.slice none 0 0:=by rw[HS.out]
  have hov:s.ov=.slice none 0 0:=by rw[HS.out]
  have HSD:=xh hsd
  have HSE:=xh hse
  have HPV:=xh hpv
  have HOV:=xh hov
  have HKW:Hid (Keep (λq=>kb≤q) w wc):=xh ((Keep.of_bel _ HK1.out).tr HKC.out)
  obtain⟨pp,pc,rfl,hp1⟩:=HF.out.paths
  obtain⟨dp,dc,rfl,hp2⟩:=HF.out.dirs
  obtain⟨bp,bc,rfl,hp3⟩:=HF.out.bytes
  have HP1:=xh hp1
  have HP2:=xh hp2
  have HP3:=xh hp3
  clear hp1 hp2 hp3 hsd hse hpv hov
  go_wp2_with fail
  go_loopw [12,13] (λi er wr=>∃(k:Nat) (iv:Value) (L:List Nd),k≤F.length∧i=.int .i64 k∧DK wr kb s iv L∧filesF d.toNat e.toNat [rootNd] F=filesF d.toNat e.toNat (sks L) (F.drop k)∧sumB (sks L)≤e.toNat∧isDir (sks L) 1=true∧L.length≤k+1∧Keep (λq=>kb≤q) wc wr) (λi _ _=>F.length-(intOf i).toNat)
  case atStart=>exact⟨0,iv0,[rootNd],Nat.zero_le _,rfl,HD0.out,rfl,Nat.zero_le _,rfl,by simp,Keep.refl _ _⟩
  case round=>
   obtain⟨k,iv,L,hk,rfl,hdk,hfl,hsm,hrt,hll,hkr⟩:=hrel
   have HDK:=xh hdk
   have HFL:=xh hfl
   have HSM:=xh hsm
   have HRT:=xh hrt
   have HKR:=xh hkr
   clear hdk hfl hsm hrt hkr
   by_cases hlt:k<F.length
   ·have hf:=List.getElem?_eq_getElem hlt
    have hdr:F.drop k=F[k]::F.drop (k+1):=List.drop_eq_getElem_cons hlt
    obtain⟨gp,rfl,cp⟩:=HP1.out k F[k] hf
    obtain⟨gd,rfl,cd⟩:=HP2.out k F[k] hf
    obtain⟨gb,rfl,cb⟩:=HP3.out k F[k] hf
    obtain⟨hb1,hb2,hb3,hb4,hb5⟩:=HF.out.byt F[k] (List.getElem_mem hlt)
    generalize F[k]=f at *
    have HDR:=xh hdr
    have hkk:Keep (λq=>kb≤q) w wr:=HKW.out.tr HKR.out
    have tr:∀(a:Addr) (v:Value),w.cell? a=some v→wr.cell? a=some v:=λa v h=>by
     have hl:=World.block_lt_of_cell? _ _ h
     exact(hkk.cell a hl (by show ¬kb≤a.block;omega)).trans h
    have cp':=tr _ _ cp
    have cd':=tr _ _ cd
    have cb':=tr _ _ cb
    have hbsr:BS wr f.p f.byt:=hb1.keep_at0 hkk λh0 b o hp h=>by have:=hb5 h0 b o hp;omega
    have HFA:=xh λW (hW:Bel wr W)=>fileD_any kb s iv L d.toNat e.toNat f.path f.dir f.p f.cap f.byt W (HDK.out.bel hW) HSD.out hmi HSE.out hmb HPV.out HOV.out (hbsr.bel hW) hb3 (λh0 q o hq=>by have:=hb5 h0 q o hq;omega) HSM.out hb4 (by rw[←isDir_sk];exact HRT.out)
    obtain⟨r,hr⟩:∃r,fileF d.toNat e.toNat (sks L) f.path.data.toList f.dir f.byt=r:=⟨_,rfl⟩
    have hinv:=fileF_inv (mi:=d.toNat) (path:=f.path.data.toList) (is:=f.dir) (b:=f.byt) HSM.out HRT.out
    rw[hr]at HFA hinv
    have HR:=xh hr
    have HINV:=xh hinv
    clear hr hinv hbsr tr hkk cp cd cb hb1 hb2 hb5 hf hdr
    go_upto_region 13 with fail
    go_still_tail 13,(by kernel_rfl)
    change wpList _ _ _ _ _ wr.drew
    have kd:Bel wr wr.drew:=Bel.drew (Bel.refl _)
    generalize wr.drew=wd at *
    have HKD:=xh kd
    clear kd cp' cd' cb'
    go_upto_region 14 with(go_at_call 41;((with_reducible refine Calls.mono (HFA.out wd HKD.out) ?_);rintro e2 w5 ⟨rfl,hst⟩;have HST:=xh hst;clear hst))
    by_cases hr0:r.1=0
    ·have hrb:((r.1:Int)==0)=true:=by rw[hr0];rfl
     obtain⟨iv2,L2,h3,h4⟩:=HST.out.2 hr0
     have h5:=HST.out.1
     obtain⟨h6,h7,h8⟩:=HINV.out hr0
     rw[sks_len]at h8
     have h9:=congrArg List.length h3
     rw[sks_len]at h9
     have HFIN:Hid (∃(iv:Value) (L':List Nd),DK w5 kb s iv L'∧filesF d.toNat e.toNat [rootNd] F=filesF d.toNat e.toNat (sks L') (F.drop (k+1))∧sumB (sks L')≤e.toNat∧isDir (sks L') 1=true∧L'.length≤k+1+1∧Keep (λq=>kb≤q) wc w5):=xh ⟨iv2,L2,h4,by
      rw[HFL.out,HDR.out,filesF,if_neg (by rw[HR.out];simpa using hr0),HR.out,h3],by rw[h3];exact h6,by rw[h3];exact h7,by omega,(HKR.out.tr (Keep.of_bel _ HKD.out)).tr h5⟩
     clear hr0 h3 h4 h5 h6 h7 h8 h9
     go_wp2
     go_roundw
     case rel=>
      obtain⟨iv,L',j1,j2,j3,j4,j5,j6⟩:=HFIN.out
      exact⟨k+1,iv,L',by omega,by go_num,j1,j2,j3,j4,j5,j6⟩
     case measure=>simp[intOf]<;>omega
    ·have hrb:((r.1:Int)==0)=false:=beq_eq_false_iff_ne.2 (by omega)
     have HER:Hid (bootE ⟨a,b,c,d,e⟩ F=r.1):=xh (by
      have h3:filesF d.toNat e.toNat [rootNd] F=(r.1,sks L):=by rw[HFL.out,HDR.out,filesF,if_pos (by rw[HR.out];exact hr0),HR.out]
      rw[HBE.out,h3,if_pos hr0])
     have HR0:=xh hr0
     clear hr0
     go_wp2
     go_ret2
     have hkk:=((HKW.out.tr HKR.out).tr (Keep.of_bel _ HKD.out)).tr HST.out.1
     exact⟨hkk.below _ (Nat.le_refl _) (λq hq=>by omega),λ_=>by rw[HER.out];rfl,λh=>absurd (HER.out.symm.trans h) HR0.out⟩
   ·obtain rfl:k=F.length:=by omega
    have hfin:filesF d.toNat e.toNat [rootNd] F=(0,sks L):=by rw[HFL.out,List.drop_length];rfl
    have HBE2:Hid (bootE ⟨a,b,c,d,e⟩ F=execE (sks L) initP true 0 0 b.toNat):=xh (by rw[HBE.out,hfin];rfl)
    have HFN:=xh hfin
    clear hfin
    have c5:wr.cell? ⟨kb,5,none⟩=some (.slice none 0 0):=by rw[←HPV.out];exact HDK.out.blk.cell 5
    have f5:=HDK.out.blk.frozen
    have hkl:=HDK.out.blk.lt
    go_upto_region 21 with fail
    have kd:Bel wr (wr.alloc (.cells proc0.toArray 80)):=Bel.start _ _
    have B21:=Blk.new wr proc0 80
    change Code.wp _ _ _ _ (wr.alloc (.cells proc0.toArray 80))
    generalize wr.alloc (.cells proc0.toArray 80)=w20 at *
    generalize wr.heap.size=pb at *
    have c5:=cell_bel kd c5
    have f5:=(HDK.out.blk.bel kd).frozen
    have hkl:=(HDK.out.blk.bel kd).lt
    obtain⟨cs,hcs⟩:∃cs,proc0=cs:=⟨_,rfl⟩
    have hcl:cs.length=31:=by rw[←hcs];rfl
    have hu:=Tryz.underlying80
    have hi:(Tryz.prog.info? 80).map (·.size)=some cs.length:=by rw[hcl];kernel_rfl
    have hbs:=run_buildSlice_one (P:=Tryz.prog) 81 80 cs Tryz.underlying81 (by rw[hcl];exact procInfoR) (by omega) (by omega)
    have HPO:Hid (∀u∈cs,u.oneCell'=true):=xh (by rw[←hcs];intro u hu;simp[proc0]at hu;rcases hu with rfl|rfl|rfl|rfl|rfl|rfl<;>rfl)
    rw[hcs]at B21
    have hr:w20.rangeAt pb 0 cs:=by have:=B21.range 0;simpa using this
    have HB21:=xh B21
    have HCS:=xh hcs
    have HCL:=xh hcl
    have HKD:=xh kd
    clear B21 hcs hcl kd
    have HAPP:Hid (∀(p8:Option Addr) (c8:Nat) (w8:World),w8.ownsRow (kb+1) 80 31 (.slice p8 (0+1) c8) (0+1) ([]++cs)→Keep (λq=>(Value.slice none 0 0).ownBlock=some q) (w20.drew.alloc (.cells cs.toArray 80)) w8→Hid (w8.ownsRow (kb+1) 80 31 (.slice p8 (0+1) c8) (0+1) cs∧Bel w20 w8)∧w8.cell? ⟨kb,5,none⟩=some (.slice none 0 0)∧(∀j,w8.frozen? ⟨kb,j,none⟩=false)∧kb<w8.heap.size):=xh λp8 c8 w8 R8 K8=>by
     have ka:Bel w20 (w20.drew.alloc (.cells cs.toArray 80)):=(Bel.drew (Bel.refl w20)).ac _
     have k8:Bel w20 w8:=ka.tr ⟨K8.os,K8.tape,K8.output,K8.size,λk hk=>K8.block k hk (λe=>by cases e)⟩
     exact⟨xh ⟨R8,k8⟩,cell_bel k8 c5,((HDK.out.blk.bel HKD.out).bel k8).frozen,((HDK.out.blk.bel HKD.out).bel k8).lt⟩
    go_cut [] (λwx=>Hid (ProcAt wx kb s iv L cs w20))
    case first=>
     refine wp_region_any (by kernel_rfl) ?_
     change wpAny _ _ _ _ _ _ _ (World.drew _)
     have kdd:Bel w20 w20.drew:=Bel.drew (Bel.refl _)
     have c5:w20.drew.cell? ⟨kb,5,none⟩=some (.slice none 0 0):=c5
     have hr:w20.drew.rangeAt pb 0 cs:=hr
     have c5a:∀o,(w20.drew.alloc o).cell? ⟨kb,5,none⟩=some (.slice none 0 0):=λo=>cell_bel (Bel.start _ o) c5
     have hwd:kb≤w20.drew.heap.size:=by show kb≤w20.heap.size;omega
     generalize w20.drew=wd at *
     refine wpAny_take (i:=0) (v:=?v0) rfl (by kernel_rfl) (by kernel_rfl) (by kernel_rfl) (λ_ _ _ h=>h) (Or.inl ⟨by rfl,?h0⟩) ?r0
     case h0=>(intro w;go_simp;with_reducible rfl)
     refine wpAny_take (i:=1) (v:=?v1) rfl (by kernel_rfl) (by kernel_rfl) (by kernel_rfl) (λ_ _ _ h=>h) (Or.inl ⟨by rfl,?h1⟩) ?r1
     case h1=>(intro w;go_simp;with_reducible rfl)
     refine wpAny_take (i:=2) (v:=?v2) rfl (by kernel_rfl) (by kernel_rfl) (by kernel_rfl) (λ_ _ _ h=>h) (Or.inl ⟨by rfl,?h2⟩) ?r2
     case h2=>(intro w;go_simp;with_reducible rfl)
     refine wpAny_take (i:=3) (v:=?v3) rfl (by kernel_rfl) (by kernel_rfl) (by kernel_rfl) (λ_ _ _ h=>h) (Or.inl ⟨by rfl,?h3⟩) ?r3
     case h3=>(intro w;go_simp;with_reducible rfl)
     refine wpAny_ready (rs:=[4,5]) (by kernel_rfl) (by simp) ?_
     refine AllReady.cons rfl (λK hK=>?o4) ?x4
     case o4=>
      go_simp
      refine hK _ _ ?_
      clear hK K
      refine wpAny_ready (rs:=[5]) (by kernel_rfl) (by simp) ?_
      refine AllReady.cons rfl (λK hK=>?_) AllReady.nil
      refine step_load_mid rfl 80 (.tmp 14) rfl pb 0 rfl cs _ hr hu rfl hi ?_
      refine hK _ _ ?_
      clear hK K
      refine wpAny_ready (rs:=[6]) (by kernel_rfl) (by simp) ?_
      refine AllReady.cons rfl (λK hK=>?_) AllReady.nil
      refine step_buildSlice_one rfl 81 80 (.tmp 117) rfl cs rfl Tryz.underlying81 (by rw[HCL.out];exact procInfoR) (by have:=HCL.out;omega) (by have:=HCL.out;omega) ?_
      refine hK _ _ ?_
      clear hK K
      refine wpAny_ready (rs:=[7]) (by kernel_rfl) (by simp) ?_
      refine AllReady.cons rfl (λK hK=>?_) AllReady.nil
      refine step_append_cells (base:=kb+1) (n:=0) (xs:=[]) (size:=31) (bytes:=264) rfl (.tmp 116) (.tmp 118) 81 rfl Tryz.underlying81 procInfoR (by omega) rfl (World.ownsRow_nil _ _ _ _) wd.heap.size 1 1 cs rfl (λj u hj=>by rw[←hj];exact(Blk.new wd cs 80).cell j) (by rw[HCL.out]) HPO.out (by unfold maxLen;omega) (by omega) (by simp;omega) ?_
      intro p8 c8 w8 R8 K8
      obtain⟨HX8,c58,f58,hl8⟩:=HAPP.out p8 c8 w8 R8 K8
      clear R8 K8
      refine hK _ _ ?_
      clear hK K
      refine wpAny_take (i:=8) (v:=?v8a) rfl (by kernel_rfl) (by kernel_rfl) (by kernel_rfl) (λ_ _ _ h=>h) (Or.inl ⟨by rfl,?h8a⟩) ?r8a
      case h8a=>(intro w;go_simp;with_reducible rfl)
      refine wpAny_take (i:=9) (v:=?v9a) rfl (by kernel_rfl) (by kernel_rfl) (by kernel_rfl) (λ_ _ _ h=>h) (Or.inl ⟨by rfl,?h9a⟩) ?r9a
      case h9a=>(intro w;go_simp;with_reducible rfl)
      refine wpAny_ready (rs:=[10]) (by kernel_rfl) (by simp) ?_
      refine AllReady.cons rfl (λK hK=>?_) AllReady.nil
      go_simp
      refine hK _ _ ?_
      clear hK K
      refine wpAny_done (by kernel_rfl) ?_ _
      go_wp2_with fail
      go_meet
      exact xh (procAt_mk (HDK.out.bel HKD.out) HCL.out HX8.out.1 HX8.out.2)
     case x4=>
      refine AllReady.cons rfl (λK hK=>?_) AllReady.nil
      refine step_load_mid rfl 80 (.tmp 14) rfl pb 0 rfl cs _ hr hu rfl hi ?_
      refine hK _ _ ?_
      clear hK K
      refine wpAny_ready (rs:=[4,6]) (by kernel_rfl) (by simp) ?_
      refine AllReady.cons rfl (λK hK=>?o45) ?x45
      case o45=>
       go_simp
       refine hK _ _ ?_
       clear hK K
       refine wpAny_ready (rs:=[6]) (by kernel_rfl) (by simp) ?_
       refine AllReady.cons rfl (λK hK=>?_) AllReady.nil
       refine step_buildSlice_one rfl 81 80 (.tmp 117) rfl cs rfl Tryz.underlying81 (by rw[HCL.out];exact procInfoR) (by have:=HCL.out;omega) (by have:=HCL.out;omega) ?_
       refine hK _ _ ?_
       clear hK K
       refine wpAny_ready (rs:=[7]) (by kernel_rfl) (by simp) ?_
       refine AllReady.cons rfl (λK hK=>?_) AllReady.nil
       refine step_append_cells (base:=kb+1) (n:=0) (xs:=[]) (size:=31) (bytes:=264) rfl (.tmp 116) (.tmp 118) 81 rfl Tryz.underlying81 procInfoR (by omega) rfl (World.ownsRow_nil _ _ _ _) wd.heap.size 1 1 cs rfl (λj u hj=>by rw[←hj];exact(Blk.new wd cs 80).cell j) (by rw[HCL.out]) HPO.out (by unfold maxLen;omega) (by omega) (by simp;omega) ?_
       intro p8 c8 w8 R8 K8
       obtain⟨HX8,c58,f58,hl8⟩:=HAPP.out p8 c8 w8 R8 K8
       clear R8 K8
       refine hK _ _ ?_
       clear hK K
       refine wpAny_take (i:=8) (v:=?v8b) rfl (by kernel_rfl) (by kernel_rfl) (by kernel_rfl) (λ_ _ _ h=>h) (Or.inl ⟨by rfl,?h8b⟩) ?r8b
       case h8b=>(intro w;go_simp;with_reducible rfl)
       refine wpAny_take (i:=9) (v:=?v9b) rfl (by kernel_rfl) (by kernel_rfl) (by kernel_rfl) (λ_ _ _ h=>h) (Or.inl ⟨by rfl,?h9b⟩) ?r9b
       case h9b=>(intro w;go_simp;with_reducible rfl)
       refine wpAny_ready (rs:=[10]) (by kernel_rfl) (by simp) ?_
       refine AllReady.cons rfl (λK hK=>?_) AllReady.nil
       go_simp
       refine hK _ _ ?_
       clear hK K
       refine wpAny_done (by kernel_rfl) ?_ _
       go_wp2_with fail
       go_meet
       exact xh (procAt_mk (HDK.out.bel HKD.out) HCL.out HX8.out.1 HX8.out.2)
      case x45=>
       refine AllReady.cons rfl (λK hK=>?_) AllReady.nil
       refine step_buildSlice_one rfl 81 80 (.tmp 117) rfl cs rfl Tryz.underlying81 (by rw[HCL.out];exact procInfoR) (by have:=HCL.out;omega) (by have:=HCL.out;omega) ?_
       refine hK _ _ ?_
       clear hK K
       refine wpAny_ready (rs:=[4]) (by kernel_rfl) (by simp) ?_
       refine AllReady.cons rfl (λK hK=>?_) AllReady.nil
       go_simp
       refine hK _ _ ?_
       clear hK K
       refine wpAny_ready (rs:=[7]) (by kernel_rfl) (by simp) ?_
       refine AllReady.cons rfl (λK hK=>?_) AllReady.nil
       refine step_append_cells (base:=kb+1) (n:=0) (xs:=[]) (size:=31) (bytes:=264) rfl (.tmp 116) (.tmp 118) 81 rfl Tryz.underlying81 procInfoR (by omega) rfl (World.ownsRow_nil _ _ _ _) wd.heap.size 1 1 cs rfl (λj u hj=>by rw[←hj];exact(Blk.new wd cs 80).cell j) (by rw[HCL.out]) HPO.out (by unfold maxLen;omega) (by omega) (by simp;omega) ?_
       intro p8 c8 w8 R8 K8
       obtain⟨HX8,c58,f58,hl8⟩:=HAPP.out p8 c8 w8 R8 K8
       clear R8 K8
       refine hK _ _ ?_
       clear hK K
       refine wpAny_take (i:=8) (v:=?v8c) rfl (by kernel_rfl) (by kernel_rfl) (by kernel_rfl) (λ_ _ _ h=>h) (Or.inl ⟨by rfl,?h8c⟩) ?r8c
       case h8c=>(intro w;go_simp;with_reducible rfl)
       refine wpAny_take (i:=9) (v:=?v9c) rfl (by kernel_rfl) (by kernel_rfl) (by kernel_rfl) (λ_ _ _ h=>h) (Or.inl ⟨by rfl,?h9c⟩) ?r9c
       case h9c=>(intro w;go_simp;with_reducible rfl)
       refine wpAny_ready (rs:=[10]) (by kernel_rfl) (by simp) ?_
       refine AllReady.cons rfl (λK hK=>?_) AllReady.nil
       go_simp
       refine hK _ _ ?_
       clear hK K
       refine wpAny_done (by kernel_rfl) ?_ _
       go_wp2_with fail
       go_meet
       exact xh (procAt_mk (HDK.out.bel HKD.out) HCL.out HX8.out.1 HX8.out.2)
    case rest=>
     obtain⟨g8,c8,cells,hb8,htk,hc8,hcl8,hg8,hdk8,hk8⟩:=hcut.out
     have c5:wc.cell? ⟨kb,5,none⟩=some (.slice (some ⟨g8,0,none⟩) 1 c8):=hdk8.blk.cell 5
     have f5:=hdk8.blk.frozen
     have hkl:=hdk8.blk.lt
     have hcs0:cells.take 31=proc0:=htk.trans HCS.out.symm
     have hmf:b.toNat≤1000:=by omega
     have hsb:s.b=(b.toNat:Int):=by rw[HS.out];show b=_;omega
     have hsum:sumB (sks L)≤100000:=by have:=HSM.out;omega
     have hex:=λ(W:World) (gs:Nat) (hW:Bel wc W) (hgs:Blk W gs [.string ⟨#[105,110,105,116]⟩] 9)=>execD_init kb s iv L g8 c8 b.toNat gs cells W (hdk8.bel hW) (hb8.bel hW) hcs0 hcl8 hc8 HOV.out hsb hmf hsum (by rw[←isDir_sk];exact HRT.out) hg8 hgs
     have HEX:=xh hex
     have hbe3:bootE ⟨a,b,c,d,e⟩ F=execE L initP true 0 0 b.toNat:=HBE2.out.trans (execE_sk _ _ _ _ _ _)
     obtain⟨ec,hec⟩:∃ec,execE L initP true 0 0 b.toNat=ec:=⟨_,rfl⟩
     rw[hec]at HEX hbe3
     have HBE3:=xh hbe3
     have H8:=xh (And.intro hb8 (And.intro hcs0 (And.intro hdk8 hk8)))
     have hci:(0:Int)<(1:Int):=by omega
     clear hex hbe3 hec hb8 htk hdk8 hk8 hcs0 hsb hsum
     by_cases h0:ec=0
     ·have hrb:((ec:Int)==0)=true:=by rw[h0];rfl
      have H0:=xh h0
      clear h0
      go_wp2_with (first
       | (refine wpList_buildSlice_one rfl 31 9 (.const (.string ⟨#[105,110,105,116]⟩)) rfl [.string ⟨#[105,110,105,116]⟩] rfl Tryz.underlying31 strInfo3 (by show 0<1;omega) (by show 1≤2^24;omega) ?_;intro w9 B9 K9;have HK9:Hid (Bel wc w9):=xh K9;have HB9:Hid (Blk w9 wc.heap.size [.string ⟨#[105,110,105,116]⟩] 9):=xh B9.out;clear B9 K9)
       | (go_at_call 42;((with_reducible refine Calls.mono (HEX.out _ _ HK9.out HB9.out) ?_);rintro e2 w10 ⟨rfl,k10,h10⟩;have H10:=xh (And.intro k10 h10);clear k10 h10)))
      go_ret2
      have hkA:Keep (λq=>kb≤q) w w9:=(((HKW.out.tr HKR.out).tr (Keep.of_bel _ HKD.out)).tr H8.out.2.2.2).tr (Keep.of_bel _ HK9.out)
      have hkB:Keep (λq=>kb≤q) w w10:=hkA.tr (H10.out.1.mono λq h=>by have h:q=g8:=h;omega)
      refine⟨hkB.below _ (Nat.le_refl _) (λq hq=>by have hq:kb≤q:=hq;omega),λh=>absurd (HBE3.out.trans H0.out) h,λ_=>⟨kb,rfl,by omega,?_⟩⟩
      obtain⟨v,hrow,hblk⟩:=H10.out.2 H0.out
      obtain⟨hl0,x,hxm,hxb⟩:=execE_load (by rw[←HBE2.out.trans (execE_sk _ _ _ _ _ _)];exact HBE3.out.trans H0.out)
      have hbb:∀y∈execB L initP,0≤y∧y≤255:=by rw[hxb];exact(HDK.out.byts x hxm).1.1
      have hlow:=(spaceL_ok hbb hl0).2
      refine⟨iv,L,{s with pv:=.slice (some ⟨g8,0,none⟩) 1 c8},g8,c8,execC cells 0 v (numAt (execB L initP) 24 8) (spOf (stAll initSS) 1),v,?_,?_,?_,?_,?_,hblk,hc8,by omega,execC_take _ _ _ _ H8.out.2.1,?_⟩
      ·exact(H8.out.2.2.1.bel HK9.out).keepBlk (H8.out.1.bel HK9.out) H10.out.1
      ·rw[HFN.out]
      ·rw[←isDir_sk];exact HRT.out
      ·have:=HSM.out;omega
      ·rw[HS.out]
      ·rw[refRow_stack _ _ hlow]
       exact ownsRow_base_a hrow (by have:=H8.out.2.2.1.blk.lt;have:=HK9.out.size;omega)
     ·have hrb:((ec:Int)==0)=false:=beq_eq_false_iff_ne.2 (by omega)
      have H0:=xh h0
      clear h0
      go_wp2_with (first
       | (refine wpList_buildSlice_one rfl 31 9 (.const (.string ⟨#[105,110,105,116]⟩)) rfl [.string ⟨#[105,110,105,116]⟩] rfl Tryz.underlying31 strInfo3 (by show 0<1;omega) (by show 1≤2^24;omega) ?_;intro w9 B9 K9;have HK9:Hid (Bel wc w9):=xh K9;have HB9:Hid (Blk w9 wc.heap.size [.string ⟨#[105,110,105,116]⟩] 9):=xh B9.out;clear B9 K9)
       | (go_at_call 42;((with_reducible refine Calls.mono (HEX.out _ _ HK9.out HB9.out) ?_);rintro e2 w10 ⟨rfl,k10,h10⟩;have H10:=xh (And.intro k10 h10);clear k10 h10)))
      go_ret2
      have hkA:Keep (λq=>kb≤q) w w9:=(((HKW.out.tr HKR.out).tr (Keep.of_bel _ HKD.out)).tr H8.out.2.2.2).tr (Keep.of_bel _ HK9.out)
      have hkB:Keep (λq=>kb≤q) w w10:=hkA.tr (H10.out.1.mono λq h=>by have h:q=g8:=h;omega)
      exact⟨hkB.below _ (Nat.le_refl _) (λq hq=>by have hq:kb≤q:=hq;omega),λ_=>by rw[HBE3.out];rfl,λh=>absurd (HBE3.out.symm.trans h) H0.out⟩
theorem bootP_any (l:Lims) (F:List FileA) (v:Value) (w:World) (hF:FListP w F v) (hmx:MaxVar w) (hfix:FixVar w) :
 Calls Tryz.prog 13 #[.agg (limC l).toArray,v] w λe w'=>Bel w w'∧(bootE l F≠0→e=.returned (.tuple #[.pointer none,errN (bootE l F:Nat)]))∧(bootE l F=0→∃kb,e=.returned (.tuple #[.pointer (some ⟨kb,0,none⟩),.nilIface])∧w.heap.size≤kb∧BootPKs w' w.heap.size kb l.a l.b l.c l.d.toNat l.e.toNat F):=by
 by_cases hA:l.okA=true
 ·by_cases hB:l.okB=true
  ·by_cases hd:l.d=0
   ·have he:bootE l F=12:=by unfold bootE;rw[if_neg (by rw[hA];simp),if_neg (by rw[hB];simp),if_pos hd]
    refine(bootP_c l v w hA hB hd).mono ?_
    rintro e w' ⟨rfl,k⟩
    exact⟨k,λ_=>by rw[he];rfl,λh=>by rw[he]at h;cases h⟩
   ·obtain⟨a,b,c,d,e⟩:=l
    have hB':=hB
    simp only[Lims.okB,decide_eq_true_eq]at hB'
    obtain⟨mi,rfl⟩:=Int.eq_ofNat_of_zero_le hB'.2.2.1
    obtain⟨mb,rfl⟩:=Int.eq_ofNat_of_zero_le hB'.2.2.2.2.1
    exact bootP_main a b c mi mb F v w hF hA hB (λh=>hd (by show((mi:Nat):Int)=0;omega)) hmx hfix
  ·have hB':l.okB=false:=by simpa using hB
   have he:bootE l F=6:=by unfold bootE;rw[if_neg (by rw[hA];simp),if_pos hB']
   refine(bootP_b l v w hA hB').mono ?_
   rintro e w' ⟨rfl,k⟩
   exact⟨k,λ_=>by rw[he];rfl,λh=>by rw[he]at h;cases h⟩
 ·have hA':l.okA=false:=by simpa using hA
  have he:bootE l F=6:=by unfold bootE;rw[if_pos hA']
  refine(bootP_a l v w hA').mono ?_
  rintro e w' ⟨rfl,k⟩
  exact⟨k,λ_=>by rw[he];rfl,λh=>by rw[he]at h;cases h⟩
theorem bootD_any (l:Lims) (F:List FileA) (v1 v2 v3:Value) (w:World) (hF:FLists w F v1 v2 v3) :
 Calls Tryz.prog 18 #[.agg (limC l).toArray,v1,v2,v3] w λe w'=>BootDRes w l F e w':=by
 by_cases hA:l.okA=true
 ·by_cases hB:l.okB=true
  ·by_cases hd:l.d=0
   ·have he:bootE l F=12:=by unfold bootE;rw[if_neg (by rw[hA];simp),if_neg (by rw[hB];simp),if_pos hd]
    refine(bootD_c l v1 v2 v3 w hA hB hd).mono ?_
    rintro e w' ⟨rfl,k⟩
    exact⟨k,λ_=>by rw[he];rfl,λh=>by rw[he]at h;cases h⟩
   ·exact bootD_main l F v1 v2 v3 w hF hA hB hd
  ·have hB':l.okB=false:=by simpa using hB
   have he:bootE l F=6:=by unfold bootE;rw[if_neg (by rw[hA];simp),if_pos hB']
   refine(bootD_b l v1 v2 v3 w hA hB').mono ?_
   rintro e w' ⟨rfl,k⟩
   exact⟨k,λ_=>by rw[he];rfl,λh=>by rw[he]at h;cases h⟩
 ·have hA':l.okA=false:=by simpa using hA
  have he:bootE l F=6:=by unfold bootE;rw[if_pos hA']
  refine(bootD_a l v1 v2 v3 w hA').mono ?_
  rintro e w' ⟨rfl,k⟩
  exact⟨k,λ_=>by rw[he];rfl,λh=>by rw[he]at h;cases h⟩
def BootTRes (w:World) (l:Lims) (F:List FileA) (e:Ending) (w':World):Prop:=
 Bel w w'∧(bootE l F≠0→e=.returned (.tuple #[.pointer none,errN (bootE l F:Nat)]))∧(bootE l F=0→∃tk kb,e=.returned (.tuple #[.pointer (some ⟨tk,0,none⟩),.nilIface])∧w.heap.size≤tk∧w.heap.size≤kb∧Blk w' tk [.pointer (some ⟨kb,0,none⟩)] 62∧BootPKs w' w.heap.size kb l.a l.b l.c l.d.toNat l.e.toNat F)
theorem BootPK.bel {w w':World} {kb:Nat} {a b c:Int} {mi mb:Nat} {F:List FileA} (h:BootPK w kb a b c mi mb F) (k:Bel w w'):BootPK w' kb a b c mi mb F:=by
 obtain⟨pm,tb,ob,cb,pb,sb,A,T,h1,h2,h3,h4,h5,h6,h7,h8⟩:=h
 exact⟨pm,tb,ob,cb,pb,sb,A,T,h1.bel k,h2.bel k,h3.bel k,h4.bel k,h5.bel k,h6,h7.bel k,h8.bel k⟩
theorem BootPKs.bel {w w':World} {B kb:Nat} {a b c:Int} {mi mb:Nat} {F:List FileA} (h:BootPKs w B kb a b c mi mb F) (k:Bel w w'):BootPKs w' B kb a b c mi mb F:=by
 obtain⟨pm,tb,ob,cb,pb,sb,A,T,h1,h2,h3,h4,h5,h6,h7,h8,h9,h10,h11⟩:=h
 exact⟨pm,tb,ob,cb,pb,sb,A,T,h1.bel k,h2.bel k,h3.bel k,h4.bel k,h5.bel k,h6,h7.bel k,h8.bel k,h9,h10,h11⟩
theorem BootPKs.base {w:World} {B B' kb:Nat} {a b c:Int} {mi mb:Nat} {F:List FileA} (h:BootPKs w B kb a b c mi mb F) (k:B'≤B):BootPKs w B' kb a b c mi mb F:=by
 obtain⟨pm,tb,ob,cb,pb,sb,A,T,h1,h2,h3,h4,h5,h6,h7,h8,h9,h10,h11⟩:=h
 exact⟨pm,tb,ob,cb,pb,sb,A,T,h1,h2,h3,h4,h5,h6,h7,h8,λq hq=>Nat.le_trans k (h9 q hq),Nat.le_trans k h10,Nat.le_trans k h11.1,Nat.le_trans k h11.2.1,Nat.le_trans k h11.2.2⟩
theorem BootPKs.plain {w:World} {B kb:Nat} {a b c:Int} {mi mb:Nat} {F:List FileA} (h:BootPKs w B kb a b c mi mb F):BootPK w kb a b c mi mb F:=by
 obtain⟨pm,tb,ob,cb,pb,sb,A,T,h1,h2,h3,h4,h5,h6,h7,h8,_⟩:=h
 exact⟨pm,tb,ob,cb,pb,sb,A,T,h1,h2,h3,h4,h5,h6,h7,h8⟩
theorem BootPKs.lt {w:World} {B kb:Nat} {a b c:Int} {mi mb:Nat} {F:List FileA} (h:BootPKs w B kb a b c mi mb F):kb<w.heap.size:=by
 obtain⟨pm,tb,ob,cb,pb,sb,A,T,h1,_⟩:=h
 exact h1.lt
theorem BootPKs.keep {S:Nat→Prop} {w w':World} {B kb:Nat} {a b c:Int} {mi mb:Nat} {F:List FileA} (h:BootPKs w B kb a b c mi mb F) (k:Keep S w w') (hs:∀q,S q→q<B∧∃cs,Blk w q cs 5):BootPKs w' B kb a b c mi mb F:=by
 obtain⟨pm,tb,ob,cb,pb,sb,A,T,h1,h2,h3,h4,h5,h6,h7,h8,h9,h10,h11⟩:=h
 have nb:∀{q:Nat} {cs:List Value} {t:TypeId},Blk w q cs t→t≠5→¬S q:=λhb ht hq=>by
  obtain⟨_,cs',hb'⟩:=hs _ hq
  exact hb.ne hb' ht rfl
 exact⟨pm,tb,ob,cb,pb,sb,A,T,h1.keep k (nb h1 (by decide)),h2.of_block (k.block _ h2.lt λhq=>by
  obtain⟨_,cs',hb'⟩:=hs _ hq
  exact hb'.ne_map h2 rfl),h3.keep k (nb h3 (by decide)),h4.keep k (nb h4 (by decide)),h5.keep k (λq hq hS=>by
  have h1:=h9 q hq
  have h2:=(hs q hS).1
  omega),h6,h7.keep k (nb h7 (by decide)),h8.of_block (k.block _ h8.lt λhq=>by
  obtain⟨_,cs',hb'⟩:=hs _ hq
  obtain⟨kv,hm,_⟩:=h8
  exact hb'.ne_map hm rfl),h9,h10,h11⟩
theorem bootT_any (l:Lims) (F:List FileA) (v:Value) (w:World) (hF:∀W,Bel w W→FListP W F v) (hmx:MaxVar w) (hfix:FixVar w) :
 Calls Tryz.prog 6 #[.agg (limC l).toArray,v] w λe w'=>BootTRes w l F e w':=by
 have hb:=λW (hW:Bel w W)=>bootP_any l F v W (hF W hW) (hmx.bel hW) (hfix.bel hW)
 by_cases h0:bootE l F=0
 ·have HB:=xh λW hW=>(hb W hW).mono λe w' k=>And.intro k.1 (k.2.2 h0)
  have H0:=xh h0
  obtain⟨a,b,c,d,e⟩:=l
  simp only[limC]at HB⊢
  clear hb h0
  go_enter Tryz.func6,Tryz.ntmps6
  go_wp2_with (go_at_call 13;((with_reducible refine Calls.mono (HB.out _ (Bel.start w _)) ?_);rintro e2 w1 ⟨k1,kb,rfl,hkb,hk⟩;have H1:=xh (And.intro k1 (And.intro hkb hk));clear k1 hkb hk))
  go_ret2
  have k:=(Bel.start w (.cells #[.int .i64 a,.int .i64 b,.int .i64 c,.int .i64 d,.int .i64 e] 23)).tr H1.out.1
  have hkb:=H1.out.2.1
  refine⟨k.ac _,λh=>absurd H0.out h,λ_=>⟨w1.heap.size,kb,rfl,k.size,by simp at hkb;omega,Blk.new w1 _ _,(H1.out.2.2.bel (Bel.start w1 _)).base (by simp)⟩⟩
 ·have HB:=xh λW hW=>(hb W hW).mono λe w' k=>And.intro k.1 (k.2.1 h0)
  obtain⟨ec,hec⟩:∃ec:Nat,bootE l F=ec:=⟨_,rfl⟩
  rw[hec]at HB h0
  have hcb:((ec:Int)==0)=false:=beq_eq_false_iff_ne.2 (by omega)
  have HEC:=xh hec
  have H0:=xh h0
  obtain⟨a,b,c,d,e⟩:=l
  simp only[limC]at HB⊢
  clear hb h0 hec
  go_enter Tryz.func6,Tryz.ntmps6
  go_wp2_with (go_at_call 13;((with_reducible refine Calls.mono (HB.out _ (Bel.start w _)) ?_);rintro e2 w1 ⟨k1,rfl⟩;have H1:=xh k1;clear k1))
  go_ret2
  exact⟨(Bel.start w _).tr H1.out,λ_=>by rw[HEC.out];rfl,λh=>absurd (HEC.out.symm.trans h) H0.out⟩
end Go.Proofs.YtjdaddmjpicflaaGreatDoor
namespace Go.Proofs.YtjdaddmjpicflaaGreatDoor
open Go.RowKit Go.Maps Go.Shelf
def sizeF (F:List FileA):Nat:=(F.map λf=>f.path.size+f.byt.length).sum
def smallF (F:List FileA):Bool:=decide (F.length≤100∧sizeF F≤200000)
theorem sizeF_take {F:List FileA} {k:Nat} {f:FileA} (h:F[k]?=some f):sizeF (F.take (k+1))=sizeF (F.take k)+(f.path.size+f.byt.length):=by
 unfold sizeF
 rw[List.take_add_one,h]
 simp
end Go.Proofs.YtjdaddmjpicflaaGreatDoor
namespace Go.Proofs.YtjdaddmjpicflaaGreatDoor
open Go.RowKit Go.Maps
theorem treeUsed_any (tb:Nat) (A:Adr) (t:TN) (w:World) (hT:Blk w tb (t.cells A) 185) :
 Calls Tryz.prog 147 #[.pointer (some ⟨tb,0,none⟩)] w λe w'=>e=.returned (.tuple #[.int .i64 t.inodes,.int .i64 t.bytes])∧∃n,w'=w.drewN n:=by
 have c1:w.cell? ⟨tb,1,none⟩=some (.int .i64 t.inodes):=hT.cell 1
 have c2:w.cell? ⟨tb,2,none⟩=some (.int .i64 t.bytes):=hT.cell 2
 clear hT
 go_enter Tryz.func147,Tryz.ntmps147
 go_upto_region 1 with fail
 go_quiet (fail)
 go_wp2
 go_ret2
 exact⟨rfl,nq,rfl⟩
theorem tableUsed_any (ob:Nat) (n m:Int) (w:World) (h:Blk w ob [.int .i64 n,.int .i64 m] 187) :
 Calls Tryz.prog 148 #[.pointer (some ⟨ob,0,none⟩)] w λe w'=>e=.returned (.int .i64 n)∧w=w':=by
 have c0:w.cell? ⟨ob,0,none⟩=some (.int .i64 n):=h.cell 0
 clear h
 go_enter Tryz.func148,Tryz.ntmps148
 go_wp2
 go_ret
 exact⟨rfl,rfl⟩
theorem Mp.heapLen {w:World} {b:Nat} {kv:List (Int×Value)} (h:Mp keyP w b kv):∃es clock,w.heap[b]?=some (.map es clock)∧es.size=kv.length:=by
 obtain⟨es,clock,hb,_,he,_⟩:=h
 have:=congrArg List.length he
 simp only[List.length_map,Array.length_toList]at this
 exact⟨es,clock,hb,this⟩
theorem step_len_map {P:Program} {w:World} {ops:Array Oper} {o:Oper} {a:Act} {K:Act→World→Prop} {Q:Exit→Act→World→Prop} {E:Prop} (hgd:o.guard=none) (x:Operand) (t:TypeId) {k e:TypeId} (ho:o.op=.call {callee:=.builtin .len,args:= #[x],argTypes:= #[t]}) (ht:P.underlying t=some (.map k e))
 (b:Nat) (hx:a.eval x=.map (some b)) {es:Array MapEntry} {clock:Nat} (hb:w.heap[b]?=some (.map es clock)) (n:Nat) (hn:es.size=n)
 (h:K (a.put o.dst (.int .i64 (n:Int))) w):if Region.wanted o (yielded ops a.tmps)=true then Oper.wp P o a w K Q else E:=by
 have hw:Region.wanted o (yielded ops a.tmps)=true:=by simp[Region.wanted,hgd]
 rw[if_pos hw]
 have hrun:=run_len_map (P:=P) (ty:=o.type) ht hb
 unfold Oper.wp
 simp[execOp,ho,resolve,invoke,builtin,hx,hrun,Result.andThen]
 rw[hn]
 exact h
theorem usedP_any (kb:Nat) (a b c d e:Int) (pm tb ob cb:Nat) (fr now:Int) (sl:Value) (kv:List (Int×Value)) (A:Adr) (t:TN) (n m:Int) (w:World) (hk:Blk w kb (kerC a b c d e pm tb ob cb fr now sl) 109) (hp:Mp keyP w pm kv) (hT:Blk w tb (t.cells A) 185) (ho:Blk w ob [.int .i64 n,.int .i64 m] 187) :
 Calls Tryz.prog 109 #[.pointer (some ⟨kb,0,none⟩)] w λe w'=>e=.returned (.agg #[.int .i64 (kv.length:Nat),.int .i64 fr,.int .i64 n,.int .i64 t.inodes,.int .i64 t.bytes])∧Bel w w':=by
 have HK:=xh hk
 have HP:=xh hp
 have HT:=xh hT
 have HO:=xh ho
 have c6:w.cell? ⟨kb,6,none⟩=some (.pointer (some ⟨tb,0,none⟩)):=hk.cell 6
 have hkl:=hk.lt
 clear hk hp hT ho
 go_enter Tryz.func109,Tryz.ntmps109
 go_upto_region 2 with(go_at_call 147;((with_reducible refine Calls.mono (treeUsed_any tb A t _ (HT.out.alloc _)) ?_);rintro e2 w1 ⟨rfl,nq,h1⟩;have k1:Bel w w1:=h1▸bel_drewN (Bel.start w _) nq;have B1:Blk w1 w.heap.size [.int .i64 0,.int .i64 0,.int .i64 0,.int .i64 0,.int .i64 0] 23:=h1▸Blk.new w _ _;have HK1:=xh k1;have HB1:=xh B1;clear h1 k1 B1))
 have d5:w1.cell? ⟨kb,5,none⟩=some (.map (some pm)):=(HK.out.bel HK1.out).cell 5
 have d9:w1.cell? ⟨kb,9,none⟩=some (.int .i64 fr):=(HK.out.bel HK1.out).cell 9
 have d7:w1.cell? ⟨kb,7,none⟩=some (.pointer (some ⟨ob,0,none⟩)):=(HK.out.bel HK1.out).cell 7
 obtain⟨es,clock,hes,hesl⟩:=(HP.out.bel HK1.out).heapLen
 have HES:=xh (And.intro hes hesl)
 obtain⟨g,hg⟩:∃g,w.heap.size=g:=⟨_,rfl⟩
 rw[hg]at HB1⊢
 have HG:=xh hg
 have r0:w1.cell? ⟨g,0,none⟩=some (.int .i64 0):=HB1.out.cell 0
 have r1:w1.cell? ⟨g,1,none⟩=some (.int .i64 0):=HB1.out.cell 1
 have r2:w1.cell? ⟨g,2,none⟩=some (.int .i64 0):=HB1.out.cell 2
 have r3:w1.cell? ⟨g,3,none⟩=some (.int .i64 0):=HB1.out.cell 3
 have r4:w1.cell? ⟨g,4,none⟩=some (.int .i64 0):=HB1.out.cell 4
 have rf:=HB1.out.frozen
 have rl:=HB1.out.lt
 have hne:kb≠g:=by omega
 have hne2:g≠kb:=by omega
 clear hes hesl hg c6
 refine wp_region_noPanic ?_
 refine wp_region_held_drew (S:=λw'=>w'.cell? ⟨kb,5,none⟩=some (.map (some pm))∧w'.cell? ⟨kb,9,none⟩=some (.int .i64 fr)∧w'.cell? ⟨kb,7,none⟩=some (.pointer (some ⟨ob,0,none⟩))) (by kernel_rfl) (by(try dsimp only);first|(go_keep;done)|assumption) (λhHeld=>?_)
 refine plan [0,1,2,3,5,6,7,8,9,10,11,12,14,15] ?_
 repeat refine tk rfl (by kernel_rfl) rfl (by intro w hw;(try dsimp only at hw);go_simp;with_reducible rfl) (by assumption) (λ_ _ _ h=>h) (by(try simp only[Act.put,lits]);exact rfl) ?_
 refine planned ?_
 refine rd 4 rfl (by kernel_rfl) (λK hK=>?_)
 refine step_len_map rfl (.tmp 16) 98 rfl Tryz.underlying98 pm rfl (w:=w1.drew) HES.out.1 kv.length HES.out.2 ?_
 refine hK.out _ _ (by(try dsimp only);first|assumption|(go_keep;done)) (λhH=>?_)
 clear hK K
 (try simp only[Act.put,lits])
 refine rd 13 rfl (by kernel_rfl) (λK hK=>?_)
 go_simp;go_at_call 148;((with_reducible refine Calls.mono (tableUsed_any ob n m _ (HO.out.bel (HK1.out.tr (Bel.drew (Bel.refl _))))) ?_);rintro e3 w3 ⟨rfl,hh⟩;subst hh)
 refine hK.out _ _ (by(try dsimp only);first|assumption|(go_keep;done)) (λhH=>?_)
 clear hK K
 (try simp only[Act.put,lits])
 refine plan [16] ?_
 repeat refine tk rfl (by kernel_rfl) rfl (by intro w hw;(try dsimp only at hw);go_simp;with_reducible rfl) (by assumption) (λ_ _ _ h=>h) (by(try simp only[Act.put,lits]);exact rfl) ?_
 refine planned ?_
 refine rd 17 rfl (by kernel_rfl) (λK hK=>?_)
 go_simp
 refine hK.out _ _ ?hS17 (λhH=>?_)
 case hS17=>
  have hfar:∀(W:World) (i o:Nat) (v:Value),(W.setCell ⟨g,i,none⟩ v).cell? ⟨kb,o,none⟩=W.cell? ⟨kb,o,none⟩:=λW i o v=>World.cell?_setCell_far W ⟨g,i,none⟩ ⟨kb,o,none⟩ v hne2
  have hdr:∀(W:World) (a:Addr),W.drew.cell? a=W.cell? a:=λ_ _=>rfl
  refine⟨?_,?_,?_⟩
  ·rw[hdr,hfar,hfar,hfar,hfar,hfar]
   exact(hdr w1 _).symm.trans hHeld.1
  ·rw[hdr,hfar,hfar,hfar,hfar,hfar]
   exact(hdr w1 _).symm.trans hHeld.2.1
  ·rw[hdr,hfar,hfar,hfar,hfar,hfar]
   exact(hdr w1 _).symm.trans hHeld.2.2
 clear hK K
 (try simp only[Act.put,lits])
 refine wpAnyH_done (by kernel_rfl) ?_ _
 refine NoPanic.normal ?_
 go_wp2_with fail
 refine bodyPost_ret (v:=.agg #[.int .i64 (kv.length:Nat),.int .i64 fr,.int .i64 n,.int .i64 t.inodes,.int .i64 t.bytes]) (by simp[results,Tryz.results109,go_sem, *]) rfl ⟨rfl,?_⟩
 have hgw:w.heap.size≤g:=by rw[HG.out];exact Nat.le_refl _
 exact((((((HK1.out).store (p:=⟨g,0,none⟩) hgw _).store (p:=⟨g,1,none⟩) hgw _).store (p:=⟨g,2,none⟩) hgw _).store (p:=⟨g,3,none⟩) hgw _).store (p:=⟨g,4,none⟩) hgw _).drew
theorem wrap_tinyos {tk kb:Nat} {w:World} (h:Blk w tk [.pointer (some ⟨kb,0,none⟩)] 62):w.cell? ⟨tk,0,none⟩=some (.pointer (some ⟨kb,0,none⟩)):=h.cell 0
theorem tProcs_any (tk kb:Nat) (Q:Value→World→Prop) (w:World) (h:Blk w tk [.pointer (some ⟨kb,0,none⟩)] 62) (hk:Calls Tryz.prog 106 #[.pointer (some ⟨kb,0,none⟩)] w λe w'=>∃v,e=.returned v∧Q v w') :
 Calls Tryz.prog 57 #[.pointer (some ⟨tk,0,none⟩)] w λe w'=>∃v,e=.returned v∧Q v w':=by
 have c0:=wrap_tinyos h
 have HK:=xh hk
 clear h hk
 go_enter Tryz.func57,Tryz.ntmps57
 go_wp2_with (go_at_call 106;((with_reducible refine Calls.mono HK.out ?_);rintro e w1 ⟨v,rfl,h1⟩;have H1:=xh h1;clear h1))
 go_ret
 exact⟨v,rfl,H1.out⟩
theorem kFiles_any (kb tb:Nat) (Q:Value→World→Prop) (w:World) (hc:w.cell? ⟨kb,6,none⟩=some (.pointer (some ⟨tb,0,none⟩))) (hk:Calls Tryz.prog 146 #[.pointer (some ⟨tb,0,none⟩)] w λe w'=>∃v,e=.returned v∧Q v w') :
 Calls Tryz.prog 108 #[.pointer (some ⟨kb,0,none⟩)] w λe w'=>∃v,e=.returned v∧Q v w':=by
 have HK:=xh hk
 clear hk
 go_enter Tryz.func108,Tryz.ntmps108
 go_wp2_with (go_at_call 146;((with_reducible refine Calls.mono HK.out ?_);rintro e w1 ⟨v,rfl,h1⟩;have H1:=xh h1;clear h1))
 go_ret
 exact⟨v,rfl,H1.out⟩
theorem tFiles_any (tk kb:Nat) (Q:Value→World→Prop) (w:World) (h:Blk w tk [.pointer (some ⟨kb,0,none⟩)] 62) (hk:Calls Tryz.prog 108 #[.pointer (some ⟨kb,0,none⟩)] w λe w'=>∃v,e=.returned v∧Q v w') :
 Calls Tryz.prog 59 #[.pointer (some ⟨tk,0,none⟩)] w λe w'=>∃v,e=.returned v∧Q v w':=by
 have c0:=wrap_tinyos h
 have HK:=xh hk
 clear h hk
 go_enter Tryz.func59,Tryz.ntmps59
 go_wp2_with (go_at_call 108;((with_reducible refine Calls.mono HK.out ?_);rintro e w1 ⟨v,rfl,h1⟩;have H1:=xh h1;clear h1))
 go_ret
 exact⟨v,rfl,H1.out⟩
theorem tUsed_any (tk kb:Nat) (x0 x1 x2 x3 x4:Int) (Q:World→Prop) (w:World) (h:Blk w tk [.pointer (some ⟨kb,0,none⟩)] 62) (hk:∀W,Bel w W→Calls Tryz.prog 109 #[.pointer (some ⟨kb,0,none⟩)] W λe w'=>e=.returned (.agg #[.int .i64 x0,.int .i64 x1,.int .i64 x2,.int .i64 x3,.int .i64 x4])∧Bel W w') :
 Calls Tryz.prog 61 #[.pointer (some ⟨tk,0,none⟩)] w λe w'=>e=.returned (.agg #[.int .i64 x0,.int .i64 x1,.int .i64 x2,.int .i64 x3,.int .i64 x4])∧Bel w w':=by
 have c0:=wrap_tinyos h
 have hl:=h.lt
 have HK:=xh hk
 clear h hk
 go_enter Tryz.func61,Tryz.ntmps61
 go_wp2_with (go_at_call 109;((with_reducible refine Calls.mono (HK.out _ (Bel.start w _)) ?_);rintro e w1 ⟨rfl,k1⟩;have BB:=(Blk.new w [.int .i64 0,.int .i64 0,.int .i64 0,.int .i64 0,.int .i64 0] 23).bel k1;have r0:w1.cell? ⟨w.heap.size,0,none⟩=some (.int .i64 0):=BB.cell 0;have r1:w1.cell? ⟨w.heap.size,1,none⟩=some (.int .i64 0):=BB.cell 1;have r2:w1.cell? ⟨w.heap.size,2,none⟩=some (.int .i64 0):=BB.cell 2;have r3:w1.cell? ⟨w.heap.size,3,none⟩=some (.int .i64 0):=BB.cell 3;have r4:w1.cell? ⟨w.heap.size,4,none⟩=some (.int .i64 0):=BB.cell 4;have rf:=BB.frozen;have rl:=BB.lt;have H1:=xh ((Bel.start w _).tr k1);clear k1 BB))
 refine bodyPost_ret (v:=.agg #[.int .i64 x0,.int .i64 x1,.int .i64 x2,.int .i64 x3,.int .i64 x4]) (by simp[results,Tryz.results61,go_sem, *]) rfl ⟨rfl,?_⟩
 have hgw:w.heap.size≤w.heap.size:=Nat.le_refl _
 exact(((((H1.out).store (p:=⟨w.heap.size,0,none⟩) hgw _).store (p:=⟨w.heap.size,1,none⟩) hgw _).store (p:=⟨w.heap.size,2,none⟩) hgw _).store (p:=⟨w.heap.size,3,none⟩) hgw _).store (p:=⟨w.heap.size,4,none⟩) hgw _
end Go.Proofs.YtjdaddmjpicflaaGreatDoor
namespace Go.Proofs.YtjdaddmjpicflaaGreatDoor
open Go.RowKit Go.Maps Go.Shelf
theorem tell_errN (n:Int) (w:World) (hg:ErrVar w):Calls Tryz.prog 8 #[errN n] w λe w'=>e=.returned (.int .i64 n)∧Bel w w':=tell_hit _ _ n w (asHit_errno n w) hg
theorem num_same (n:Int) (w:World):Calls Tryz.prog 19 #[.int .i64 n] w λe w'=>e=.returned (.int .i64 n)∧w=w':=by
 go_enter Tryz.func19,Tryz.ntmps19
 go_wp2
 go_ret
 exact⟨rfl,rfl⟩
end Go.Proofs.YtjdaddmjpicflaaGreatDoor
namespace Go.Proofs.YtjdaddmjpicflaaGreatDoor
open Go.RowKit Go.Maps
def FileA.said (f:FileA):ByteArray×Bool×List Int:=(f.path,f.dir,f.byt)
theorem filesF_same (mi mb:Nat):∀(N:List Nd) (F G:List FileA),F.map FileA.said=G.map FileA.said→filesF mi mb N F=filesF mi mb N G:=λN F=>by
 induction F generalizing N with
 | nil=>
   intro G h
   cases G with
   | nil=>rfl
   | cons g G=>cases h
 | cons f F ih=>
   intro G h
   cases G with
   | nil=>cases h
   | cons g G=>
     rw[List.map_cons,List.map_cons]at h
     injection h with h1 h2
     unfold FileA.said at h1
     injection h1 with h3 h4
     injection h4 with h5 h6
     unfold filesF
     rw[h3,h5,h6,ih _ G h2]
theorem bootE_same (l:Lims) (F G:List FileA) (h:F.map FileA.said=G.map FileA.said):bootE l F=bootE l G:=by
 unfold bootE
 rw[filesF_same _ _ _ F G h]
theorem BootDK.same {w:World} {kb:Nat} {l:Lims} {F G:List FileA} (h:BootDK w kb l F) (e:F.map FileA.said=G.map FileA.said):BootDK w kb l G:=by
 obtain⟨iv,L,s,pb,pc,cells,v,h1,h2,h3⟩:=h
 exact⟨iv,L,s,pb,pc,cells,v,h1,h2.trans (by rw[filesF_same _ _ _ F G e]),h3⟩
theorem BootPK.same {w:World} {kb:Nat} {a b c:Int} {mi mb:Nat} {F G:List FileA} (h:BootPK w kb a b c mi mb F) (e:F.map FileA.said=G.map FileA.said):BootPK w kb a b c mi mb G:=by
 obtain⟨pm,tb,ob,cb,pb,sb,A,T,h1,h2,h3,h4,h5,h6,h7⟩:=h
 exact⟨pm,tb,ob,cb,pb,sb,A,T,h1,h2,h3,h4,h5,h6.trans (by rw[filesF_same _ _ _ F G e]),h7⟩
theorem BootPKs.same {w:World} {B kb:Nat} {a b c:Int} {mi mb:Nat} {F G:List FileA} (h:BootPKs w B kb a b c mi mb F) (e:F.map FileA.said=G.map FileA.said):BootPKs w B kb a b c mi mb G:=by
 obtain⟨pm,tb,ob,cb,pb,sb,A,T,h1,h2,h3,h4,h5,h6,h7⟩:=h
 exact⟨pm,tb,ob,cb,pb,sb,A,T,h1,h2,h3,h4,h5,h6.trans (by rw[filesF_same _ _ _ F G e]),h7⟩
theorem BootDK.bel {w w':World} {kb:Nat} {l:Lims} {F:List FileA} (h:BootDK w kb l F) (k:Bel w w'):BootDK w' kb l F:=by
 obtain⟨iv,L,s,pb,pc,cells,v,h1,h2,h3,h4,h5,hb,hpc,hlt,htk,hr⟩:=h
 exact⟨iv,L,s,pb,pc,cells,v,h1.bel k,h2,h3,h4,h5,hb.bel k,hpc,hlt,htk,row_bel hr k⟩
end Go.Proofs.YtjdaddmjpicflaaGreatDoor
