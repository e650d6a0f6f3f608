/- The program's Boot: the tree, the tables, the files, the process. -/
import Derived.Deep.RegionHeld3
import Derived.Deep.DrawnRows
import Derived.Deep.DeepCutAuto
import Derived.Test.YtjdaddmjpicflaaGreatDoorP20
set_option linter.unusedVariables false
set_option linter.unusedSimpArgs false
set_option maxRecDepth 100000
set_option maxHeartbeats 16000000
namespace Go.Proofs.YtjdaddmjpicflaaGreatDoor
open Go.RowKit Go.Maps
noncomputable def keyP:KeyEnc Tryz.prog 3 Int:=intEnc Tryz.underlying3
def kerC (a b c d e:Int) (pm tb ob cb:Nat) (frames now:Int) (sl:Value):List Value:=[.int .i64 a,.int .i64 b,.int .i64 c,.int .i64 d,.int .i64 e,.map (some pm),.pointer (some ⟨tb,0,none⟩),.pointer (some ⟨ob,0,none⟩),.pointer (some ⟨cb,0,none⟩),.int .i64 frames,.int .i64 now,sl]
structure FListP (w:World) (F:List FileA) (v:Value):Prop where
 n:F.length≤1000
 row:∃p c,v=.slice p F.length c∧∀(i:Nat) (f:FileA),F[i]?=some f→∃g,p=some ⟨g,0,none⟩∧w.rangeAt g (i*3) [.string f.path,.bool f.dir,.slice f.p f.byt.length f.cap]
 byt:∀f∈F,BS w f.p f.byt∧f.byt.length≤f.cap∧f.byt.length≤200000∧f.path.size≤1000000∧∀b o,f.p=some ⟨b,o,none⟩→b<w.heap.size
structure KAt (w:World) (a b c:Int) (mi mb:Nat) (kb pm tb ob cb:Nat) (A:Adr) (T:List Pn) (fds:Nat):Prop where
 fk:Blk w kb (kerC a b c mi mb pm tb ob cb 0 0 (.slice none 0 0)) 109
 fm:Mp keyP w pm []
 fo:Blk w ob [.int .i64 0,.int .i64 c] 187
 fc:Blk w cb [.int .i64 fds,.slice none 0 0,.slice none 0 0] 105
 tree:PT w tb A T mi mb
 npm:¬Foot tb A T pm
def conV (cb:Nat):Value:=.iface 101 (.pointer (some ⟨cb,0,none⟩))
def restC (pid parent state status wake:Int) (fds:List Value):List Value:=[.int .i64 pid,.int .i64 parent,.int .i64 state,.int .i64 status,.int .i64 wake]++fds
def fds0 (cb:Nat):List Value:=[conV cb,conV cb,conV cb,.nilIface,.nilIface,.nilIface,.nilIface,.nilIface]
def BootPK (w':World) (kb:Nat) (a b c:Int) (mi mb:Nat) (F:List FileA):Prop:=
 ∃(pm tb ob cb pb sb:Nat) (A:Adr) (T:List Pn),Blk w' kb (kerC a b c mi mb pm tb ob cb (((pageNums (spaceL (execB (nds T) initP))).length+2:Nat):Int) 0 (.slice none 0 0)) 109∧Mp keyP w' pm [(1,.pointer (some ⟨pb,0,none⟩))]∧
  Blk w' ob [.int .i64 0,.int .i64 c] 187∧Blk w' cb [.int .i64 (3:Nat),.slice none 0 0,.slice none 0 0] 105∧PT w' tb A T mi mb∧nds T=(filesF mi mb [rootNd] F).2∧
  Blk w' pb (cpuC (numAt (execB (nds T) initP) 24 8) (spOf (stAll initSS) 1) sb++restC 1 0 0 0 0 (fds0 cb)) 121∧Sp w' sb (withStack (spaceL (execB (nds T) initP)) initSS)
def BootPKs (w':World) (B:Nat) (kb:Nat) (a b c:Int) (mi mb:Nat) (F:List FileA):Prop:=
 ∃(pm tb ob cb pb sb:Nat) (A:Adr) (T:List Pn),Blk w' kb (kerC a b c mi mb pm tb ob cb (((pageNums (spaceL (execB (nds T) initP))).length+2:Nat):Int) 0 (.slice none 0 0)) 109∧Mp keyP w' pm [(1,.pointer (some ⟨pb,0,none⟩))]∧
  Blk w' ob [.int .i64 0,.int .i64 c] 187∧Blk w' cb [.int .i64 (3:Nat),.slice none 0 0,.slice none 0 0] 105∧PT w' tb A T mi mb∧nds T=(filesF mi mb [rootNd] F).2∧
  Blk w' pb (cpuC (numAt (execB (nds T) initP) 24 8) (spOf (stAll initSS) 1) sb++restC 1 0 0 0 0 (fds0 cb)) 121∧Sp w' sb (withStack (spaceL (execB (nds T) initP)) initSS)∧(∀q,Foot tb A T q→B≤q)∧B≤cb∧B≤kb∧B≤pb∧B≤sb
def BootPRes (w:World) (a b c:Int) (mi mb:Nat) (F:List FileA) (e:Ending) (w':World):Prop:=
 Bel w w'∧(bootE ⟨a,b,c,mi,mb⟩ F≠0→e=.returned (.tuple #[.pointer none,errN (bootE ⟨a,b,c,mi,mb⟩ F:Nat)]))∧(bootE ⟨a,b,c,mi,mb⟩ F=0→∃kb,e=.returned (.tuple #[.pointer (some ⟨kb,0,none⟩),.nilIface])∧w.heap.size≤kb∧BootPKs w' w.heap.size kb a b c mi mb F)
theorem Mp.new_at (w:World) {n:Nat} (hn:w.heap.size=n):Mp keyP (w.alloc (.map #[] 0)) n []:=hn▸Mp.new keyP w
def procZ:List Value:=.int .u64 0::(List.replicate 16 (Value.int .u64 0)++[.map none,.int .i64 1,.int .i64 0,.int .i64 0,.int .i64 0,.int .i64 0,.nilIface,.nilIface,.nilIface,.nilIface,.nilIface,.nilIface,.nilIface,.nilIface])
theorem built_proc:Tryz.prog.built 121 [(1,.int .i64 1)]=some procZ.toArray:=by kernel_rfl
def procI (cb k:Nat):List Value:=procZ.take 23++(List.replicate k (conV cb)++List.replicate (8-k) .nilIface)
theorem procI_at (cb k:Nat) (h:k<3):(procI cb k)[23+k]?=some .nilIface:=by
 have:k=0∨k=1∨k=2:=by omega
 rcases this with rfl|rfl|rfl<;>rfl
theorem procI_set (cb k:Nat) (h:k<3):(procI cb k).set (23+k) (conV cb)=procI cb (k+1):=by
 have:k=0∨k=1∨k=2:=by omega
 rcases this with rfl|rfl|rfl<;>rfl
theorem KAt.keep {w w':World} {a b c:Int} {mi mb kb pm tb ob cb p:Nat} {A:Adr} {T:List Pn} {fds:Nat} (h:KAt w a b c mi mb kb pm tb ob cb A T fds) (k:Keep (λq=>q=p) w w') (h1:p≠kb) (h2:p≠pm) (h3:p≠ob) (h4:p≠cb) (h5:∀q,Foot tb A T q→¬q=p):KAt w' a b c mi mb kb pm tb ob cb A T fds:=
 ⟨h.fk.keep k λe=>h1 e.symm,h.fm.of_block (k.block _ h.fm.lt λe=>h2 e.symm),h.fo.keep k λe=>h3 e.symm,h.fc.keep k λe=>h4 e.symm,h.tree.keep k h5,h.npm⟩
theorem KAt.bel {w w':World} {a b c:Int} {mi mb kb pm tb ob cb:Nat} {A:Adr} {T:List Pn} {fds:Nat} (h:KAt w a b c mi mb kb pm tb ob cb A T fds) (k:Bel w w'):KAt w' a b c mi mb kb pm tb ob cb A T fds:=⟨h.fk.bel k,h.fm.bel k,h.fo.bel k,h.fc.bel k,h.tree.bel k,h.npm⟩
theorem bootP_main (a b c:Int) (mi mb:Nat) (F:List FileA) (v:Value) (w:World) (hF:FListP w F v) (h:(⟨a,b,c,mi,mb⟩:Lims).okA=true) (hb:(⟨a,b,c,mi,mb⟩:Lims).okB=true) (hd:mi≠0) (hmx:MaxVar w) (hfix:FixVar w) :
 Calls Tryz.prog 13 #[.agg (limC ⟨a,b,c,mi,mb⟩).toArray,v] w λe w'=>BootPRes w a b c mi mb F e w':=by
 obtain⟨h1,h2,h3,h4⟩:¬a<1∧¬16<a∧¬b<1∧¬1000<b:=by
  simp only[Lims.okA,decide_eq_true_eq]at h
  omega
 obtain⟨g1,g2,g3,g4,g5,g6⟩:¬c<0∧¬100000<c∧¬(mi:Int)<0∧¬(100000:Int)<mi∧¬(mb:Int)<0∧¬(100000:Int)<mb:=by
  simp only[Lims.okB,decide_eq_true_eq]at hb
  omega
 have hd1:1≤mi:=by omega
 have hmi:mi≤100000:=by omega
 have hmb:mb≤100000:=by omega
 have HF:=xh hF
 have HMX:=xh hmx
 have HFX:=xh hfix
 clear h hb hd hF hmx hfix
 have hmm:∀w,(Instr.makeMap 98 none).run Tryz.prog w=.ok (.map (some w.heap.size)) (w.alloc (.map #[] 0)):=λw=>by kernel_rfl
 simp only[limC]
 go_enter Tryz.func13,Tryz.ntmps13
 go_wp2_with fail
 refine wp_loop_rounds 4 ?_
 rw[rounds_succ]
 go_wp2_with fail
 rw[rounds_succ]
 go_wp2_with fail
 rw[rounds_succ]
 go_wp2_with fail
 rw[rounds_succ]
 go_upto_region 12 with(go_at_call 31;((with_reducible refine Calls.mono (newtree_any mi mb _ hd1 hmi hmb) ?_);rintro e2 w1 ⟨⟨tb,A,rfl,hpt,hft⟩,k1⟩;have HPT:=xh (And.intro hpt hft);have HK1:=xh (((Bel.start w _).ac _).tr k1);have l0:=cell_bel k1 (((Blk.new w [.int .i64 a,.int .i64 b,.int .i64 c,.int .i64 mi,.int .i64 mb] 23).alloc (.cells #[.int .i64 c,.int .i64 mi,.int .i64 mb] 3)).cell 0);have l1:=cell_bel k1 (((Blk.new w [.int .i64 a,.int .i64 b,.int .i64 c,.int .i64 mi,.int .i64 mb] 23).alloc (.cells #[.int .i64 c,.int .i64 mi,.int .i64 mb] 3)).cell 1);have l2:=cell_bel k1 (((Blk.new w [.int .i64 a,.int .i64 b,.int .i64 c,.int .i64 mi,.int .i64 mb] 23).alloc (.cells #[.int .i64 c,.int .i64 mi,.int .i64 mb] 3)).cell 2);have l3:=cell_bel k1 (((Blk.new w [.int .i64 a,.int .i64 b,.int .i64 c,.int .i64 mi,.int .i64 mb] 23).alloc (.cells #[.int .i64 c,.int .i64 mi,.int .i64 mb] 3)).cell 3);have l4:=cell_bel k1 (((Blk.new w [.int .i64 a,.int .i64 b,.int .i64 c,.int .i64 mi,.int .i64 mb] 23).alloc (.cells #[.int .i64 c,.int .i64 mi,.int .i64 mb] 3)).cell 4);clear hpt hft k1))
 obtain⟨H,hH⟩:∃H,w.heap.size=H:=⟨_,rfl⟩
 rw[hH]at l0 l1 l2 l3 l4⊢
 have HH:=xh hH
 clear hH
 go_cut [10] (λs10 wx=>∃kb:Nat,s10=.pointer (some ⟨kb,0,none⟩)∧Hid (∃pm ob cb,KAt wx a b c mi mb kb pm tb ob cb A [rootPn] 0∧w1.heap.size≤kb∧w1.heap.size≤pm∧w1.heap.size≤ob∧w1.heap.size≤cb∧Bel w1 wx))
 case first=>
  have l0:w1.cell? ⟨H,0,none⟩=some (.int .i64 a):=l0
  have l1:w1.cell? ⟨H,1,none⟩=some (.int .i64 b):=l1
  have l2:w1.cell? ⟨H,2,none⟩=some (.int .i64 c):=l2
  have l3:w1.cell? ⟨H,3,none⟩=some (.int .i64 mi):=l3
  have l4:w1.cell? ⟨H,4,none⟩=some (.int .i64 mb):=l4
  have hHl:H<w1.heap.size:=World.block_lt_of_cell? _ _ l0
  go_region_held3 (λw'=>w'.cell? ⟨H,0,none⟩=some (.int .i64 a)∧w'.cell? ⟨H,1,none⟩=some (.int .i64 b)∧w'.cell? ⟨H,2,none⟩=some (.int .i64 c)∧w'.cell? ⟨H,3,none⟩=some (.int .i64 mi)∧w'.cell? ⟨H,4,none⟩=some (.int .i64 mb)) (first|(go_keep;done)) ((go_at_call 32;((with_reducible refine Calls.mono (newtable_any c _) ?_);rintro e3 w3 ⟨⟨ob,rfl,hob,bob⟩,k3⟩;have m0:w3.cell? ⟨H,0,none⟩=some (.int .i64 a):=cell_bel k3 (by go_split_ands;assumption);have m1:w3.cell? ⟨H,1,none⟩=some (.int .i64 b):=cell_bel k3 (by go_split_ands;assumption);have m2:w3.cell? ⟨H,2,none⟩=some (.int .i64 c):=cell_bel k3 (by go_split_ands;assumption);have m3:w3.cell? ⟨H,3,none⟩=some (.int .i64 mi):=cell_bel k3 (by go_split_ands;assumption);have m4:w3.cell? ⟨H,4,none⟩=some (.int .i64 mb):=cell_bel k3 (by go_split_ands;assumption);have hHl3:H<w3.heap.size:=World.block_lt_of_cell? _ _ m0;have HO3:=xh (And.intro hob (And.intro bob k3));clear hob bob k3)))
  all_goals go_wp2_with fail
  all_goals go_meet
  ·have hz:=HO3.out.2.2
   have k3:Bel w1 w3:=((Bel.start w1 (.map #[] 0)).drew).tr hz
   have hz3:=k3.size
   have hob:=HO3.out.1
   have kf:=(k3.ac (.cells #[.int .i64 0,.slice none 0 0,.slice none 0 0] 105)).ac (.cells (kerC a b c mi mb (w1.heap.size) tb ob (w3.heap.size) 0 0 (.slice none 0 0)).toArray 109)
   refine⟨_,rfl,xh ⟨w1.heap.size,ob,w3.heap.size,⟨Blk.new_at _ _ _ (by simp),(((Mp.new keyP w1).bel ((Bel.drew (Bel.refl _)).tr hz)).alloc _).alloc _,(HO3.out.2.1.alloc _).alloc _,(Blk.new w3 [.int .i64 0,.slice none 0 0,.slice none 0 0] _).alloc _,HPT.out.1.bel kf,λhq=>by have h8:=HPT.out.1.foot_lt hq;omega⟩,?_,?_,?_,?_,kf⟩⟩
   all_goals first|omega|(simp at hob⊢;omega)
  ·have hz:=HO3.out.2.2
   have k3:Bel w1 w3:=(((Bel.start w1 (.map #[] 0)).ac (.cells #[.int .i64 0,.slice none 0 0,.slice none 0 0] 105)).drew).tr hz
   have hz3:=k3.size
   have hob:=HO3.out.1
   have kf:=k3.ac (.cells (kerC a b c mi mb (w1.heap.size) tb ob (w1.heap.size+1) 0 0 (.slice none 0 0)).toArray 109)
   refine⟨_,rfl,xh ⟨w1.heap.size,ob,w1.heap.size+1,⟨Blk.new w3 _ _,(((Mp.new keyP w1).alloc _).bel ((Bel.drew (Bel.refl _)).tr hz)).alloc _,HO3.out.2.1.alloc _,((Blk.new_at (w1.alloc (.map #[] 0)) [.int .i64 0,.slice none 0 0,.slice none 0 0] 105 (n:=w1.heap.size+1) (by simp)).bel ((Bel.drew (Bel.refl _)).tr hz)).alloc _,HPT.out.1.bel kf,λhq=>by have h8:=HPT.out.1.foot_lt hq;omega⟩,?_,?_,?_,?_,kf⟩⟩
   all_goals first|omega|(simp at hob⊢;omega)
  ·have hz:=HO3.out.2.2
   have k3:Bel w1 w3:=(Bel.drew (Bel.refl w1)).tr hz
   have hz3:=k3.size
   have hob:=HO3.out.1
   have kf:=((k3.ac (.map #[] 0)).ac (.cells #[.int .i64 0,.slice none 0 0,.slice none 0 0] 105)).ac (.cells (kerC a b c mi mb (w3.heap.size) tb ob (w3.heap.size+1) 0 0 (.slice none 0 0)).toArray 109)
   refine⟨_,rfl,xh ⟨w3.heap.size,ob,w3.heap.size+1,⟨Blk.new_at _ _ _ (by simp),((Mp.new keyP w3).alloc _).alloc _,((HO3.out.2.1.alloc _).alloc _).alloc _,(Blk.new_at (w3.alloc (.map #[] 0)) [.int .i64 0,.slice none 0 0,.slice none 0 0] 105 (n:=w3.heap.size+1) (by simp)).alloc _,HPT.out.1.bel kf,λhq=>by have h8:=HPT.out.1.foot_lt hq;omega⟩,?_,?_,?_,?_,kf⟩⟩
   all_goals first|omega|(simp at hob⊢;omega)
  ·have hz:=HO3.out.2.2
   have k3:Bel w1 w3:=(Bel.drew (Bel.refl w1)).tr hz
   have hz3:=k3.size
   have hob:=HO3.out.1
   have kf:=((k3.ac (.cells #[.int .i64 0,.slice none 0 0,.slice none 0 0] 105)).ac (.map #[] 0)).ac (.cells (kerC a b c mi mb (w3.heap.size+1) tb ob (w3.heap.size) 0 0 (.slice none 0 0)).toArray 109)
   refine⟨_,rfl,xh ⟨w3.heap.size+1,ob,w3.heap.size,⟨Blk.new_at _ _ _ (by simp),(Mp.new_at (w3.alloc (.cells #[.int .i64 0,.slice none 0 0,.slice none 0 0] 105)) (n:=w3.heap.size+1) (by simp)).alloc _,((HO3.out.2.1.alloc _).alloc _).alloc _,((Blk.new w3 [.int .i64 0,.slice none 0 0,.slice none 0 0] 105).alloc _).alloc _,HPT.out.1.bel kf,λhq=>by have h8:=HPT.out.1.foot_lt hq;omega⟩,?_,?_,?_,?_,kf⟩⟩
   all_goals first|omega|(simp at hob⊢;omega)
  ·have hz:=HO3.out.2.2
   have k3:Bel w1 w3:=(((Bel.start w1 (.cells #[.int .i64 0,.slice none 0 0,.slice none 0 0] 105)).ac (.map #[] 0)).drew).tr hz
   have hz3:=k3.size
   have hob:=HO3.out.1
   have kf:=k3.ac (.cells (kerC a b c mi mb (w1.heap.size+1) tb ob (w1.heap.size) 0 0 (.slice none 0 0)).toArray 109)
   refine⟨_,rfl,xh ⟨w1.heap.size+1,ob,w1.heap.size,⟨Blk.new w3 _ _,((Mp.new_at (w1.alloc (.cells #[.int .i64 0,.slice none 0 0,.slice none 0 0] 105)) (n:=w1.heap.size+1) (by simp)).bel ((Bel.drew (Bel.refl _)).tr hz)).alloc _,HO3.out.2.1.alloc _,(((Blk.new w1 [.int .i64 0,.slice none 0 0,.slice none 0 0] 105).alloc _).bel ((Bel.drew (Bel.refl _)).tr hz)).alloc _,HPT.out.1.bel kf,λhq=>by have h8:=HPT.out.1.foot_lt hq;omega⟩,?_,?_,?_,?_,kf⟩⟩
   all_goals first|omega|(simp at hob⊢;omega)
  ·have hz:=HO3.out.2.2
   have k3:Bel w1 w3:=((Bel.start w1 (.cells #[.int .i64 0,.slice none 0 0,.slice none 0 0] 105)).drew).tr hz
   have hz3:=k3.size
   have hob:=HO3.out.1
   have kf:=(k3.ac (.map #[] 0)).ac (.cells (kerC a b c mi mb (w3.heap.size) tb ob (w1.heap.size) 0 0 (.slice none 0 0)).toArray 109)
   refine⟨_,rfl,xh ⟨w3.heap.size,ob,w1.heap.size,⟨Blk.new_at _ _ _ (by simp),(Mp.new keyP w3).alloc _,(HO3.out.2.1.alloc _).alloc _,(((Blk.new w1 [.int .i64 0,.slice none 0 0,.slice none 0 0] 105).bel ((Bel.drew (Bel.refl _)).tr hz)).alloc _).alloc _,HPT.out.1.bel kf,λhq=>by have h8:=HPT.out.1.foot_lt hq;omega⟩,?_,?_,?_,?_,kf⟩⟩
   all_goals first|omega|(simp at hob⊢;omega)
 case rest=>
  obtain⟨kb,rfl,hka⟩:=hcut
  obtain⟨pm,ob,cb,hK,hkb,hpm,hob,hcb,hbc⟩:=hka.out
  obtain⟨pv,pc,rfl,hrow⟩:=HF.out.row
  have hn:=HF.out.n
  have HROW:=xh hrow
  have hbw:Bel w wc:=HK1.out.tr hbc
  have hz1:=HK1.out.size
  have HK:=xh hK
  have HBW:=xh hbw
  have HFT:Hid (∀q,Foot tb A [rootPn] q→w.heap.size≤q):=xh λq hq=>by
   have h1:=HPT.out.2 q hq
   simp at h1
   omega
  have hkbw:w.heap.size≤kb:=by omega
  have hcbw:w.heap.size≤cb:=by omega
  have hpmw:w.heap.size≤pm:=by omega
  have hbe:bootE ⟨a,b,c,mi,mb⟩ F=if (filesF mi mb [rootNd] F).1≠0 then(filesF mi mb [rootNd] F).1 else execE (filesF mi mb [rootNd] F).2 initP true 0 0 b.toNat:=by
   have e1:(⟨a,b,c,mi,mb⟩:Lims).okA=true:=by simp only[Lims.okA,decide_eq_true_eq];omega
   have e2:(⟨a,b,c,mi,mb⟩:Lims).okB=true:=by simp only[Lims.okB,decide_eq_true_eq];omega
   unfold bootE
   rw[if_neg (by rw[e1];simp),if_neg (by rw[e2];simp),if_neg (by show ¬(mi:Int)=0;omega)]
   rfl
  have HBE:=xh hbe
  clear hka hrow hK hkb hpm hob hcb hbc hbw hbe hmm
  go_wp2_with fail
  go_loopw [79] (λi wr=>∃(k:Nat) (A':Adr) (T':List Pn),k≤F.length∧i=.int .i64 k∧KAt wr a b c mi mb kb pm tb ob cb A' T' 0∧filesF mi mb [rootNd] F=filesF mi mb (nds T') (F.drop k)∧(∀q,Foot tb A' T' q→w.heap.size≤q)∧Bel w wr) (λi _=>F.length-(intOf i).toNat)
  case atStart=>exact⟨0,A,[rootPn],Nat.zero_le _,rfl,HK.out,rfl,HFT.out,HBW.out⟩
  case round=>
   obtain⟨k,A',T',hk,rfl,hka,hfl,hft,hbr⟩:=hrel
   have HKA:=xh hka
   have HFL:=xh hfl
   have HFT2:=xh hft
   have HBR:=xh hbr
   clear hka hfl hft hbr
   by_cases hlt:k<F.length
   ·have hf:=List.getElem?_eq_getElem hlt
    have hdr:F.drop k=F[k]::F.drop (k+1):=List.drop_eq_getElem_cons hlt
    obtain⟨g,rfl,cf⟩:=HROW.out k F[k] hf
    obtain⟨hb1,hb2,hb3,hb4,hb5⟩:=HF.out.byt F[k] (List.getElem_mem hlt)
    generalize F[k]=f at *
    have HDR:=xh hdr
    have c0:wr.cell? ⟨g,k*3,none⟩=some (.string f.path):=cell_bel HBR.out (cf 0 _ rfl)
    have c1:wr.cell? ⟨g,k*3+1,none⟩=some (.bool f.dir):=cell_bel HBR.out (cf 1 _ rfl)
    have c2:wr.cell? ⟨g,k*3+2,none⟩=some (.slice f.p f.byt.length f.cap):=cell_bel HBR.out (cf 2 _ rfl)
    have hfa:=λW (hW:Bel wr W)=>file_any kb tb A' T' mi mb f.path f.dir f.p f.cap f.byt W (HKA.out.tree.bel hW) (cell_bel hW (HKA.out.fk.cell 6)) (HKA.out.tree.not_foot HKA.out.fk (by decide) (by decide) (by decide)) ((hb1.keep_at (Keep.of_bel (λ_=>False) HBR.out) (λ_ _ _ h=>h)).keep_at (Keep.of_bel (λ_=>False) hW) (λ_ _ _ h=>h)) hb3 (λb o hp hq=>by have h1:=HFT2.out b hq;have h2:=hb5 b o hp;omega) hb4 ((HMX.out.bel HBR.out).bel hW)
    obtain⟨r,hr⟩:∃r,fileF mi mb (nds T') f.path.data.toList f.dir f.byt=r:=⟨_,rfl⟩
    rw[hr]at hfa
    have HR:=xh hr
    have hstep:∀W w5,Bel wr W→Keep (Foot tb A' T') W w5→Bel w w5:=λW w5 hW hk=>Below.trans (HBR.out.tr hW) (hk.below _ (HBR.out.tr hW).size HFT2.out)
    have HSTEP:=xh hstep
    by_cases h0:r.1=0
    ·have HFA:=xh λW hW=>(hfa W hW).mono λe w' k=>k.2 h0
     have hfin:∀W w5 A2 T2,Bel wr W→PT w5 tb A2 T2 mi mb→nds T2=r.2→Keep (Foot tb A' T') W w5→(∀q,Foot tb A2 T2 q→Foot tb A' T' q∨W.heap.size≤q)→KAt w5 a b c mi mb kb pm tb ob cb A2 T2 0∧filesF mi mb [rootNd] F=filesF mi mb (nds T2) (F.drop (k+1))∧(∀q,Foot tb A2 T2 q→w.heap.size≤q):=λW w5 A2 T2 hW hp hnd hkp hft=>by
      have hnf:=λ{q:Nat} {c:List Value} {t:TypeId} (hb:Blk wr q c t) h1 h2 h3=>HKA.out.tree.not_foot hb h1 h2 h3
      refine⟨⟨(HKA.out.fk.bel hW).keep hkp (hnf HKA.out.fk (by decide) (by decide) (by decide)),?_,(HKA.out.fo.bel hW).keep hkp (hnf HKA.out.fo (by decide) (by decide) (by decide)),(HKA.out.fc.bel hW).keep hkp (hnf HKA.out.fc (by decide) (by decide) (by decide)),hp,λhq=>?_⟩,?_,λq hq=>?_⟩
      ·have h1:=HKA.out.fm.bel hW
       exact h1.of_block (hkp.block _ h1.lt HKA.out.npm)
      ·rcases hft _ hq with h|h
       ·exact HKA.out.npm h
       ·have h1:=HKA.out.fm.lt
        have h2:=hW.size
        omega
      ·rw[HFL.out,HDR.out,filesF,if_neg (by rw[HR.out];simpa using h0),HR.out,hnd]
      ·rcases hft q hq with h|h
       ·exact HFT2.out q h
       ·exact Nat.le_trans (HBR.out.tr hW).size h
     have HFIN:=xh hfin
     clear hfa hr hf hdr cf hb1 hb2 hb3 hb4 hb5 hstep hfin h0
     go_wp2_with (go_at_call 33;((with_reducible refine Calls.mono (HFA.out _ (Bel.start wr _)) ?_);rintro e3 w5 ⟨rfl,A2,T2,p1,p2,p3,p4⟩;have H5:=xh (And.intro p1 (And.intro p2 (And.intro p3 p4)));clear p1 p2 p3 p4))
     go_roundw
     case rel=>
      have h5:=H5.out
      obtain⟨q1,q2,q3⟩:=HFIN.out _ w5 A2 T2 (Bel.start wr _) h5.1 h5.2.1 h5.2.2.1 h5.2.2.2
      exact⟨k+1,A2,T2,by omega,by go_num,q1,q2,q3,HSTEP.out _ _ (Bel.start wr _) h5.2.2.1⟩
     case measure=>simp[intOf]<;>omega
    ·have HFA:=xh λW hW=>(hfa W hW).mono λe w' k=>k.1 h0
     obtain⟨ec,hec⟩:∃ec:Nat,r.1=ec:=⟨_,rfl⟩
     have HER:Hid (bootE ⟨a,b,c,mi,mb⟩ F=ec):=xh (by
      have h3:filesF mi mb [rootNd] F=(r.1,nds T'):=by rw[HFL.out,HDR.out,filesF,if_pos (by rw[HR.out];exact h0),HR.out]
      rw[HBE.out,h3,if_pos h0,hec])
     rw[hec]at HFA h0
     have hcb0:((ec:Int)==0)=false:=beq_eq_false_iff_ne.2 (by omega)
     have HN0:=xh h0
     clear hfa hr hf hdr cf hb1 hb2 hb3 hb4 hb5 hstep h0 hec
     go_wp2_with (go_at_call 33;((with_reducible refine Calls.mono (HFA.out _ (Bel.start wr _)) ?_);rintro e3 w5 ⟨rfl,p1⟩;have H5:=xh p1;clear p1))
     go_ret2
     exact⟨HSTEP.out _ _ (Bel.start wr _) H5.out,λ_=>by rw[HER.out];rfl,λh=>absurd (HER.out.symm.trans h) HN0.out⟩
   ·obtain rfl:k=F.length:=by omega
    have hfin:filesF mi mb [rootNd] F=(0,nds T'):=by rw[HFL.out,List.drop_length];rfl
    have HBE2:Hid (bootE ⟨a,b,c,mi,mb⟩ F=execE (nds T') initP true 0 0 b.toNat):=xh (by rw[HBE.out,hfin];rfl)
    have HFN:=xh hfin
    clear hfin
    have HBP:Hid (Tryz.prog.built 121 [(1,.int .i64 1)]=some procZ.toArray):=xh built_proc
    go_upto_region 24 with(refine wpList_buildTo rfl 121 _ rfl (some 90) rfl _ (by simp only[List.map_toArray,List.map_cons,List.map_nil];exact HBP.out) ?_)
    have k20:Bel wr (wr.alloc (.cells procZ.toArray 121)):=Bel.start _ _
    have P20:=Blk.new wr procZ 121
    change Code.wp _ _ _ _ (wr.alloc (.cells procZ.toArray 121))
    generalize wr.alloc (.cells procZ.toArray 121)=w20 at *
    have hka20:=HKA.out.bel k20
    have hpbn:¬Foot tb A' T' wr.heap.size:=λh=>by have:=HKA.out.tree.foot_lt h;omega
    have hpbw:w.heap.size≤wr.heap.size:=HBR.out.size
    have hpbk:wr.heap.size≠kb:=by have:=HKA.out.fk.lt;omega
    have hpbc:wr.heap.size≠cb:=by have:=HKA.out.fc.lt;omega
    have hpbo:wr.heap.size≠ob:=by have:=HKA.out.fo.lt;omega
    have hpbm:wr.heap.size≠pm:=by have:=HKA.out.fm.lt;omega
    have hkc:kb≠cb:=HKA.out.fk.ne HKA.out.fc (by decide)
    have hoc:ob≠cb:=HKA.out.fo.ne HKA.out.fc (by decide)
    have hmc:pm≠cb:=λe=>(HKA.out.fc.ne_map HKA.out.fm) e.symm
    have hcn:¬Foot tb A' T' cb:=HKA.out.tree.not_foot HKA.out.fc (by decide) (by decide) (by decide)
    have HBR20:=xh (HBR.out.tr k20)
    generalize wr.heap.size=pb at *
    have HKA20:=xh hka20
    have HP20:=xh P20
    have HNE:=xh (And.intro hpbk (And.intro hpbc (And.intro hpbo (And.intro hpbm (And.intro hkc (And.intro hoc (And.intro hmc (And.intro hcn hpbn))))))))
    clear k20 hka20 P20 hpbk hpbc hpbo hpbm hkc hoc hmc hcn hpbn HROW
    go_loopw [92] (λi wx=>∃k:Nat,k≤3∧i=.int .i64 k∧Blk wx pb (procI cb k) 121∧KAt wx a b c mi mb kb pm tb ob cb A' T' k∧Keep (λq=>q=pb∨q=cb) w20 wx) (λi _=>3-(intOf i).toNat)
    case atStart=>exact⟨0,by omega,rfl,HP20.out,HKA20.out,Keep.refl _ _⟩
    case round=>
     obtain⟨k,hk,rfl,hpk,hkk,hkeep⟩:=hrel
     have HPK:=xh hpk
     have HKK:=xh hkk
     have HKP:=xh hkeep
     clear hpk hkk hkeep
     by_cases hlt:k<3
     ·have c8:wr.cell? ⟨kb,8,none⟩=some (.pointer (some ⟨cb,0,none⟩)):=HKK.out.fk.cell 8
      have cp:wr.cell? ⟨pb,23+k,none⟩=some .nilIface:=by rw[HPK.out.cell];exact procI_at cb k hlt
      have hk0:(0:Int)≤(k:Int):=by omega
      have hk8:(k:Int)<8:=by omega
      have fp:=HPK.out.frozen
      have lp:=HPK.out.lt
      have lk:=HKK.out.fk.lt
      go_upto_region 24 with fail
      go_still_tail 10,(by kernel_rfl)
      change wpList _ _ _ _ _ wr.drew
      have kd:Bel wr wr.drew:=Bel.drew (Bel.refl _)
      have cp:wr.drew.cell? ⟨pb,23+k,none⟩=some .nilIface:=cp
      have fp:∀o,wr.drew.frozen? ⟨pb,o,none⟩=false:=fp
      generalize wr.drew=wd at *
      go_upto_region 25 with fail
      have PA:Blk (wd.setCell ⟨pb,23+k,none⟩ (conV cb)) pb (procI cb (k+1)) 121:=by
       have h1:=(HPK.out.bel kd).setCell (o:=23+k) (conV cb)
       rwa [procI_set cb k hlt]at h1
      have ks:=Keep.setCell wd pb (23+k) (conV cb)
      have hka2:KAt (wd.setCell ⟨pb,23+k,none⟩ (conV cb)) a b c mi mb kb pm tb ob cb A' T' k:=(HKK.out.bel kd).keep ks HNE.out.1 HNE.out.2.2.2.1 HNE.out.2.2.1 HNE.out.2.1 (λq hq e=>by have e:q=pb:=e;subst e;exact HNE.out.2.2.2.2.2.2.2.2 hq)
      have hkp2:Keep (λq=>q=pb∨q=cb) w20 (wd.setCell ⟨pb,23+k,none⟩ (conV cb)):=(HKP.out.tr (Keep.of_bel _ kd)).tr (ks.mono λq h=>.inl h)
      change Code.wp _ _ _ _ (wd.setCell ⟨pb,23+k,none⟩ (conV cb))
      generalize wd.setCell ⟨pb,23+k,none⟩ (conV cb)=we at *
      have d7:we.cell? ⟨kb,7,none⟩=some (.pointer (some ⟨ob,0,none⟩)):=hka2.fk.cell 7
      have d8:we.cell? ⟨kb,8,none⟩=some (.pointer (some ⟨cb,0,none⟩)):=hka2.fk.cell 8
      have hle:=hka2.fk.lt
      have HPA:=xh PA
      have HK2:=xh hka2
      have HKP2:=xh hkp2
      clear c8 cp fp lp lk kd PA ks hka2 hkp2
      go_region_held3 (λw'=>w'.cell? ⟨kb,7,none⟩=some (.pointer (some ⟨ob,0,none⟩))∧w'.cell? ⟨kb,8,none⟩=some (.pointer (some ⟨cb,0,none⟩))) (first|(go_keep;done)) ((go_at_call 34;((with_reducible refine Calls.mono (hold_any (some ⟨ob,0,none⟩) cb k (.slice none 0 0) (.slice none 0 0) we.drew (HK2.out.fc.bel (Bel.drew (Bel.refl _))) (by omega)) ?_);rintro e3 wf ⟨rfl,bc,kc⟩;have m7:wf.cell? ⟨kb,7,none⟩=some (.pointer (some ⟨ob,0,none⟩)):=(kc.cell ⟨kb,7,none⟩ hle HNE.out.2.2.2.2.1).trans d7;have m8:wf.cell? ⟨kb,8,none⟩=some (.pointer (some ⟨cb,0,none⟩)):=(kc.cell ⟨kb,8,none⟩ hle HNE.out.2.2.2.2.1).trans d8;have HFF:=xh (And.intro bc kc);clear bc kc)))
      go_wp2_with fail
      go_roundw
      case rel=>
       have hkc:=HFF.out.2
       have hbd:Bel we we.drew:=Bel.drew (Bel.refl _)
       refine⟨k+1,by omega,by go_num,(HPA.out.bel hbd).keep hkc (λe=>HNE.out.2.1 e),?_,(HKP2.out.tr (Keep.of_bel _ hbd)).tr (hkc.mono λq h=>.inr h)⟩
       have h1:=HK2.out.bel hbd
       exact⟨h1.fk.keep hkc HNE.out.2.2.2.2.1,h1.fm.of_block (hkc.block _ h1.fm.lt HNE.out.2.2.2.2.2.2.1),h1.fo.keep hkc HNE.out.2.2.2.2.2.1,HFF.out.1,h1.tree.keep hkc (λq hq e=>by have e:q=cb:=e;subst e;exact HNE.out.2.2.2.2.2.2.2.1 hq),h1.npm⟩
      case measure=>simp[intOf]<;>omega
     ·obtain rfl:k=3:=by omega
      obtain⟨es,clock,hup,hmp⟩:=HKK.out.fm.update keyedI Tryz.underlying98 (1:Int) (WalkArith.wf_i64 (by omega)) (.pointer (some ⟨pb,0,none⟩))
      rw[show keyP.kf 1=Value.int .i64 1 from rfl]at hup
      have hkm:Keep (λq=>q=pm) wr (Go.ChangeMaps.setBlock wr pm (.map es clock)):=by
       obtain⟨es0,cl0,h0,_⟩:=HKK.out.fm
       exact Keep.setBlock h0 _
      have c5:wr.cell? ⟨kb,5,none⟩=some (.map (some pm)):=HKK.out.fk.cell 5
      have HMP:Hid (Mp keyP (Go.ChangeMaps.setBlock wr pm (.map es clock)) pm [(1,.pointer (some ⟨pb,0,none⟩))]):=xh hmp
      have HKM:=xh hkm
      clear hmp hkm
      generalize hw7:Go.ChangeMaps.setBlock wr pm (.map es clock)=w7 at *
      clear hw7
      go_upto_region 28 with fail
      have hkb7:Blk w7 kb (kerC a b c mi mb pm tb ob cb 0 0 (.slice none 0 0)) 109:=HKK.out.fk.keep HKM.out (λe=>by have e:kb=pm:=e;exact(HKK.out.fk.ne_map HKK.out.fm) e)
      have hpb7:Blk w7 pb (procI cb 3) 121:=HPK.out.keep HKM.out (λe=>HNE.out.2.2.2.1 e)
      have hpt7:PT w7 tb A' T' mi mb:=HKK.out.tree.keep HKM.out (λq hq e=>by have e:q=pm:=e;subst e;exact HKK.out.npm hq)
      have hbwr:Bel w wr:=Below.trans HBR20.out (HKP.out.below _ HBR20.out.size (λq hq=>by
       rcases hq with h|h
       ·have h:q=pb:=h;omega
       ·have h:q=cb:=h;omega))
      have hbw7:Bel w w7:=Below.trans hbwr (HKM.out.below _ hbwr.size (λq hq=>by have h:q=pm:=hq;omega))
      have hex:=λ(W:World) (gs:Nat) (hW:Bel w7 W) (hgs:Blk W gs [.string ⟨#[105,110,105,116]⟩] 9)=>execP_any kb tb pb A' T' mi mb b.toNat 0 0 (kerC a b c mi mb pm tb ob cb 0 0 (.slice none 0 0)) (procI cb 3) ⟨#[47,105,110,105,116]⟩ (.slice (some ⟨gs,0,none⟩) 1 1) true (spOf (stAll initSS) 1) initSS none (λ_=>none) W (hpt7.bel hW) (hkb7.bel hW) (by simp[kerC]) rfl rfl (by show some (Value.int .i64 b)=_;rw[Int.toNat_of_nonneg (by omega)]) (by omega) (by omega) (Nat.le_refl _) (hpb7.bel hW) rfl rfl rfl rfl (λ_ _=>rfl) (by decide) ((HMX.out.bel hbw7).bel hW) ((HFX.out.bel hbw7).bel hW)
       (λW' hW'=>by
         refine(stackM_any (some ⟨gs,0,none⟩) 1 initSS W' (λ_=>⟨gs,0,rfl,(hgs.bel hW').lt,λj hj=>?_⟩) (by simp[initSS])).mono ?_
         ·have:j=0:=by simp[initSS]at hj;omega
          subst this
          exact(hgs.bel hW').cell 0
         ·rintro e w' ⟨h1,h2,_⟩
          exact⟨h1,λ_=>h2 initSS_good,λh=>by cases h⟩)
      obtain⟨ec,hec⟩:∃ec:Nat,execE (nds T') initP true 0 0 b.toNat=ec:=⟨_,rfl⟩
      have hex2:=λ(W:World) (gs:Nat) (hW:Bel w7 W) (hgs:Blk W gs [.string ⟨#[105,110,105,116]⟩] 9)=>hex W gs hW hgs
      rw[show(⟨#[47,105,110,105,116]⟩:ByteArray).data.toList=initP from rfl,hec]at hex2
      have HBE3:Hid (bootE ⟨a,b,c,mi,mb⟩ F=ec):=xh (HBE2.out.trans hec)
      have H7:=xh (And.intro hkb7 (And.intro hpb7 (And.intro hpt7 hbw7)))
      by_cases h0:ec=0
      ·have HEX:=xh λW gs hW hgs=>(hex2 W gs hW hgs).mono λe w' k=>k.2 h0
       have H0:=xh h0
       clear hex hex2 hec h0 hkb7 hpb7 hpt7 hbw7 hbwr c5 hup
       go_wp2_with (first
        | (refine wpList_buildSlice_one rfl 31 9 (.const (.string ⟨#[105,110,105,116]⟩)) rfl [.string ⟨#[105,110,105,116]⟩] rfl Tryz.underlying31 strInfo3 (by show 0<1;omega) (by show 1≤2^24;omega) ?_;intro w9 B9 K9;have HK9:Hid (Bel w7 w9):=xh K9;have HB9:Hid (Blk w9 w7.heap.size [.string ⟨#[105,110,105,116]⟩] 9):=xh B9.out;clear B9 K9)
        | (go_at_call 35;((with_reducible refine Calls.mono (HEX.out _ _ HK9.out HB9.out) ?_);rintro e2 w10 ⟨rfl,h10⟩;have H10:=xh h10;clear h10)))
       go_ret2
       obtain⟨sb,hsb,hsp,hkp,hk10,hp10⟩:=H10.out
       have hb9:Bel w w9:=H7.out.2.2.2.tr HK9.out
       refine⟨Below.trans hb9 (hkp.below _ hb9.size (λq hq=>by
        rcases hq with h|h
        ·have h:q=kb:=h;omega
        ·have h:q=pb:=h;omega)),λh=>absurd (HBE3.out.trans H0.out) h,λ_=>⟨kb,rfl,hkbw,pm,tb,ob,cb,pb,sb,A',T',?_,?_,?_,?_,?_,?_,?_,hsp,HFT2.out,hcbw,hkbw,by omega,Nat.le_trans hb9.size hsb⟩⟩
       ·rw[Nat.zero_add]at hk10
        exact hk10
       ·have h1:Mp keyP w9 pm _:=HMP.out.bel HK9.out
        exact h1.of_block (hkp.block _ h1.lt (λh=>by
         rcases h with h|h
         ·have h:pm=kb:=h
          exact(HKK.out.fk.ne_map HKK.out.fm) h.symm
         ·exact HNE.out.2.2.2.1 h.symm))
       ·have h1:=(HKK.out.fo.keep HKM.out (λe=>by have e:ob=pm:=e;exact(HKK.out.fo.ne_map HKK.out.fm) e)).bel HK9.out
        exact h1.keep hkp (λh=>by
         rcases h with h|h
         ·have h:ob=kb:=h
          exact HKK.out.fo.ne HKK.out.fk (by decide) h
         ·exact HNE.out.2.2.1 h.symm)
       ·have h1:=(HKK.out.fc.keep HKM.out (λe=>HNE.out.2.2.2.2.2.2.1 e.symm)).bel HK9.out
        exact h1.keep hkp (λh=>by
         rcases h with h|h
         ·exact HNE.out.2.2.2.2.1 h.symm
         ·exact HNE.out.2.1 h.symm)
       ·exact(H7.out.2.2.1.bel HK9.out).keep hkp (λq hq h=>by
         rcases h with h|h
         ·have h:q=kb:=h
          subst h
          exact HKK.out.tree.not_foot HKK.out.fk (by decide) (by decide) (by decide) hq
         ·have h:q=pb:=h
          subst h
          exact HNE.out.2.2.2.2.2.2.2.2 hq)
       ·rw[HFN.out]
       ·exact hp10
      ·have HEX:=xh λW gs hW hgs=>(hex2 W gs hW hgs).mono λe w' k=>k.1 h0
       have hcb0:((ec:Int)==0)=false:=beq_eq_false_iff_ne.2 (by omega)
       have H0:=xh h0
       clear hex hex2 hec h0 hkb7 hpb7 hpt7 hbw7 hbwr c5 hup
       go_wp2_with (first
        | (refine wpList_buildSlice_one rfl 31 9 (.const (.string ⟨#[105,110,105,116]⟩)) rfl [.string ⟨#[105,110,105,116]⟩] rfl Tryz.underlying31 strInfo3 (by show 0<1;omega) (by show 1≤2^24;omega) ?_;intro w9 B9 K9;have HK9:Hid (Bel w7 w9):=xh K9;have HB9:Hid (Blk w9 w7.heap.size [.string ⟨#[105,110,105,116]⟩] 9):=xh B9.out;clear B9 K9)
        | (go_at_call 35;((with_reducible refine Calls.mono (HEX.out _ _ HK9.out HB9.out) ?_);rintro e2 w10 ⟨rfl,h10⟩;have H10:=xh h10;clear h10)))
       go_ret2
       exact⟨(H7.out.2.2.2.tr HK9.out).tr H10.out,λ_=>by rw[HBE3.out];rfl,λh=>absurd (HBE3.out.symm.trans h) H0.out⟩
end Go.Proofs.YtjdaddmjpicflaaGreatDoor
