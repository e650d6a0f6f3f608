/-.-/
import Derived.Test.YtcnjjchlebmfiaaGreatDoorP16
set_option linter.all false
set_option maxRecDepth 100000
set_option maxHeartbeats 16000000
namespace Go.Proofs.YtcnjjchlebmfiaaGreatDoor
section
open Go.Proofs.Tryz Go.RowKit
theorem Za(l:fD)(v:Value)(w:World)(h:l.okA=false) :
 Calls prog 32 #[.agg (mW l).toArray,v] w (Z.b (.tuple #[.pointer none,fH 6]) w):=by
 obtain⟨a,b,c,d,e⟩:=l;have h':a<1∨(¬a<1∧16<a)∨(¬a<1∧¬16<a∧b<1)∨(¬a<1∧¬16<a∧¬b<1∧1000<b):=by
  simp only[fD.okA,decide_eq_false_iff_not]at h
  omega
 clear h;simp only[mW]
 rcases h' with h1|⟨h1,h2⟩|⟨h1,h2,h3⟩|⟨h1,h2,h3,h4⟩
 all_goals
  go_enter func32,ntmps32;go_wp2
  go_ret2
  exact⟨rfl,Bel.start w _⟩
theorem Zb(l:fD)(v:Value)(w:World)(h:l.okA=true)(hb:l.okB=false) :
 Calls prog 32 #[.agg (mW l).toArray,v] w (Z.b (.tuple #[.pointer none,fH 6]) w):=by
 obtain⟨a,b,c,d,e⟩:=l;obtain⟨h1,h2,h3,h4⟩:¬a<1∧¬16<a∧¬b<1∧¬1000<b:=by
  simp only[fD.okA,decide_eq_true_eq]at h
  omega
 have hb':c<0∨(¬c<0∧100000<c)∨(¬c<0∧¬100000<c∧d<0)∨(¬c<0∧¬100000<c∧¬d<0∧100000<d)∨(¬c<0∧¬100000<c∧¬d<0∧¬100000<d∧e<0)∨(¬c<0∧¬100000<c∧¬d<0∧¬100000<d∧¬e<0∧100000<e):=by
  simp only[fD.okB,decide_eq_false_iff_not]at hb
  omega
 clear h hb;simp only[mW]
 rcases hb' with g1|⟨g1,g2⟩|⟨g1,g2,g3⟩|⟨g1,g2,g3,g4⟩|⟨g1,g2,g3,g4,g5⟩|⟨g1,g2,g3,g4,g5,g6⟩
 ·go_enter func32,ntmps32
  go_wp2
  refine wp_loop_rounds 4 ?_;rw[rounds_succ];go_wp2
  go_ret2
  exact⟨rfl,(Bel.start w _).ac _⟩
 ·go_enter func32,ntmps32
  go_wp2
  refine wp_loop_rounds 4 ?_;rw[rounds_succ];go_wp2
  go_ret2
  exact⟨rfl,(Bel.start w _).ac _⟩
 ·go_enter func32,ntmps32
  go_wp2
  refine wp_loop_rounds 4 ?_;rw[rounds_succ];go_wp2
  rw[rounds_succ];go_wp2
  go_ret2
  exact⟨rfl,(Bel.start w _).ac _⟩
 ·go_enter func32,ntmps32
  go_wp2
  refine wp_loop_rounds 4 ?_;rw[rounds_succ];go_wp2
  rw[rounds_succ];go_wp2
  go_ret2
  exact⟨rfl,(Bel.start w _).ac _⟩
 ·go_enter func32,ntmps32
  go_wp2
  refine wp_loop_rounds 4 ?_;rw[rounds_succ];go_wp2
  rw[rounds_succ];go_wp2
  rw[rounds_succ];go_wp2
  go_ret2
  exact⟨rfl,(Bel.start w _).ac _⟩
 ·go_enter func32,ntmps32
  go_wp2
  refine wp_loop_rounds 4 ?_;rw[rounds_succ];go_wp2
  rw[rounds_succ];go_wp2
  rw[rounds_succ];go_wp2
  go_ret2
  exact⟨rfl,(Bel.start w _).ac _⟩
theorem FV(a b:Int)(w:World)(h:a<1):Calls prog 53 #[a,b] w (Z.e (.tuple #[.pointer none,fH 12]) w):=by
 go_enter func53,ntmps53;go_wp2
 go_ret2
 exact⟨rfl,rfl⟩
theorem Zc(l:fD)(v:Value)(w:World)(h:l.okA=true)(hb:l.okB=true)(hd:l.d=0) :
 Calls prog 32 #[.agg (mW l).toArray,v] w (Z.b (.tuple #[.pointer none,fH 12]) w):=by
 obtain⟨a,b,c,d,e⟩:=l;obtain⟨h1,h2,h3,h4⟩:¬a<1∧¬16<a∧¬b<1∧¬1000<b:=by
  simp only[fD.okA,decide_eq_true_eq]at h
  omega
 obtain⟨g1,g2,g3,g4,g5,g6⟩:¬c<0∧¬100000<c∧¬d<0∧¬100000<d∧¬e<0∧¬100000<e:=by
  simp only[fD.okB,decide_eq_true_eq]at hb
  omega
 have hd1:d<1:=by show d<1;simp only at hd;omega
 clear h hb hd;simp only[mW]
 go_enter func32,ntmps32;go_wp2_with fail
 refine wp_loop_rounds 4 ?_;rw[rounds_succ];go_wp2_with fail
 rw[rounds_succ];go_wp2_with fail
 rw[rounds_succ];go_wp2_with fail
 rw[rounds_succ];go_wp2_with (go_at_call 53;((with_reducible refine aH (FV _ _ _ hd1) ?_);rintro e2 w1 ⟨rfl,hh⟩;subst hh))
 go_ret2
 exact⟨rfl,(Bel.start w _).ac _⟩
end
section
open Go.Proofs.Tryz Go.RowKit Go.Maps
noncomputable def kM:kZ prog 3 Int:=Vh underlying3
def lV(a b c d e:Int)(pm tb ob cb:Nat)(frames now:Int)(sl:Value):List Value:=[.int .i64 a,.int .i64 b,.int .i64 c,.int .i64 d,.int .i64 e,.map (some pm),.pointer (tb,0),.pointer (ob,0),.pointer (cb,0),.int .i64 frames,.int .i64 now,sl]
structure uP(w:World)(F:List aF)(v:Value):Prop where
 n:F.length≤1000
 row:∃p c,v=.slice p F.length c∧∀(i:Nat) (f:aF),F[i]?=some f→∃g,p=some ⟨g,0,none⟩∧w.rangeAt g (i*3) [.string f.path,.bool f.dir,.slice f.p f.byt.length f.cap]
 byt:∀f∈F,BS w f.p f.byt∧f.byt.length≤f.cap∧f.byt.length≤200000∧f.path.size≤1000000∧∀b o,f.p=some ⟨b,o,none⟩→b<w.heap.size
structure Vj(w:World)(a b c:Int)(mi mb:Nat)(kb pm tb ob cb:Nat)(A:bJ)(T:List Pn)(fds:Nat):Prop where
 fk:Blk w kb (lV a b c mi mb pm tb ob cb 0 0 (.slice none 0 0)) 111
 fm:Mp kM w pm []
 fo:Blk w ob [(0:Int),.int .i64 c] 222
 fc:Blk w cb [.int .i64 fds,(),()] 151
 tree:PT w tb A T mi mb
 npm:¬lg tb A T pm
def qW(cb:Nat):Value:=.iface 107 (.pointer (cb,0))
def jZ(pid parent state status wake:Int)(fds:List Value):List Value:=[.int .i64 pid,.int .i64 parent,.int .i64 state,.int .i64 status,.int .i64 wake]++fds
def Dy(cb:Nat):List Value:=[qW cb,qW cb,qW cb,.nilIface,.nilIface,.nilIface,.nilIface,.nilIface]
def gy(w':World)(B:Nat)(kb:Nat)(a b c:Int)(mi mb:Nat)(F:List aF):Prop:=
 ∃(pm tb ob cb pb sb:Nat) (A:bJ) (T:List Pn),Blk w' kb (lV a b c mi mb pm tb ob cb (((ag (bG (aY (aJ T) fF))).length+2:Nat):Int) 0 (.slice none 0 0)) 111∧Mp kM w' pm [(1,.pointer (pb,0))]∧
  Blk w' ob [(0:Int),c] 222∧Blk w' cb [.int .i64 (3:Nat),(),()] 151∧PT w' tb A T mi mb∧aJ T=(bK mi mb [dZ] F).2∧
  Blk w' pb (Ld (numAt (aY (aJ T) fF) 24 8) (iq (aK bW) 1) sb++jZ 1 0 0 0 0 (Dy cb)) 120∧Sp w' sb (aN (bG (aY (aJ T) fF)) bW)∧(∀q,lg tb A T q→B≤q)∧B≤cb∧B≤kb∧B≤pb∧B≤sb∧B≤ob∧B≤pm
def Vk(w:World)(a b c:Int)(mi mb:Nat)(F:List aF)(e:Ending)(w':World):Prop:=
 Bel w w'∧(bD ⟨a,b,c,mi,mb⟩ F≠0→e=.returned (.tuple #[.pointer none,fH (bD ⟨a,b,c,mi,mb⟩ F:Nat)]))∧(bD ⟨a,b,c,mi,mb⟩ F=0→∃kb:Nat,e=.returned (.tuple #[kb,.nilIface])∧w.heap.size≤kb∧gy w' w.heap.size kb a b c mi mb F)
theorem Mp.dF(w:World){n:Nat}(hn:w.heap.size=n):Mp kM (w.alloc (.map #[] 0)) n []:=hn▸Mp.new kM w
def Ap:List Value:=.int .u64 0::(List.replicate 16 (Value.int .u64 0)++[.map none,.int .i64 1,.int .i64 0,.int .i64 0,.int .i64 0,.int .i64 0,.nilIface,.nilIface,.nilIface,.nilIface,.nilIface,.nilIface,.nilIface,.nilIface])
theorem Le:prog.built 120 [(1,.int .i64 1)]=some Ap.toArray:=by kernel_rfl
def Aq(cb k:Nat):List Value:=Ap.take 23++(List.replicate k (qW cb)++List.replicate (8-k) .nilIface)
theorem Vl(cb k:Nat)(h:k<3):(Aq cb k)[23+k]?=some .nilIface:=by
 have:k=0∨k=1∨k=2:=by omega
 rcases this with rfl|rfl|rfl<;>rfl
theorem Qw(cb k:Nat)(h:k<3):(Aq cb k).set (23+k) (qW cb)=Aq cb (k+1):=by
 have:k=0∨k=1∨k=2:=by omega
 rcases this with rfl|rfl|rfl<;>rfl
theorem Vj.keep{w w':World}{a b c:Int}{mi mb kb pm tb ob cb p:Nat}{A:bJ}{T:List Pn}{fds:Nat}(h:Vj w a b c mi mb kb pm tb ob cb A T fds)(k:Keep (λq=>q=p) w w')(h1:p≠kb)(h2:p≠pm)(h3:p≠ob)(h4:p≠cb)(h5:∀q,lg tb A T q→¬q=p):Vj w' a b c mi mb kb pm tb ob cb A T fds:=
 ⟨h.fk.keep k λe=>h1 e.symm,h.fm.of_block (k.block _ h.fm.lt λe=>h2 e.symm),h.fo.keep k λe=>h3 e.symm,h.fc.keep k λe=>h4 e.symm,h.tree.keep k h5,h.npm⟩
theorem Vj.bel{w w':World}{a b c:Int}{mi mb kb pm tb ob cb:Nat}{A:bJ}{T:List Pn}{fds:Nat}(h:Vj w a b c mi mb kb pm tb ob cb A T fds)(k:Bel w w'):Vj w' a b c mi mb kb pm tb ob cb A T fds:=⟨h.fk.bel k,h.fm.bel k,h.fo.bel k,h.fc.bel k,h.tree.bel k,h.npm⟩
theorem Lh(a b c:Int)(mi mb:Nat)(F:List aF)(v:Value)(w:World)(hF:uP w F v)(h:(⟨a,b,c,mi,mb⟩:fD).okA=true)(hb:(⟨a,b,c,mi,mb⟩:fD).okB=true)(hd:mi≠0)(hmx:eX w)(hfix:iG w) :
 Calls prog 32 #[.agg (mW ⟨a,b,c,mi,mb⟩).toArray,v] w λe w'=>Vk w a b c mi mb F e w':=by
 obtain⟨h1,h2,h3,h4⟩:¬a<1∧¬16<a∧¬b<1∧¬1000<b:=by
  simp only[fD.okA,decide_eq_true_eq]at h
  omega
 obtain⟨g1,g2,g3,g4,g5,g6⟩:¬c<0∧¬100000<c∧¬(mi:Int)<0∧¬(100000:Int)<mi∧¬(mb:Int)<0∧¬(100000:Int)<mb:=by
  simp only[fD.okB,decide_eq_true_eq]at hb
  omega
 have hd1:1≤mi:=by omega
 have OY:mi≤100000:=by omega
 have hmb:mb≤100000:=by omega
 have HF:=xh hF;have HMX:=xh hmx;have HFX:=xh hfix;clear h hb hd hF hmx hfix;have hmm:∀w,(Instr.makeMap 103 none).run prog w=.ok (.map (some w.heap.size)) (w.alloc (.map #[] 0)):=λw=>by kernel_rfl
 simp only[mW]
 go_enter func32,ntmps32;go_wp2_with fail
 refine wp_loop_rounds 4 ?_;rw[rounds_succ];go_wp2_with fail
 rw[rounds_succ];go_wp2_with fail
 rw[rounds_succ];go_wp2_with fail
 rw[rounds_succ];go_upto_region 12 with(go_at_call 53;((with_reducible refine aH (IC mi mb _ hd1 OY hmb) ?_);rintro e2 w1 ⟨⟨tb,A,rfl,hpt,hft⟩,k1⟩;have oU:=xh (And.intro hpt hft);have bP:=xh (((Bel.start w _).ac _).tr k1);have l0:=af k1 (((Blk.new w [a,b,c,.int .i64 mi,.int .i64 mb] 23).alloc (.cells #[c,.int .i64 mi,.int .i64 mb] 3)).cell 0);have l1:=af k1 (((Blk.new w [a,b,c,.int .i64 mi,.int .i64 mb] 23).alloc (.cells #[c,.int .i64 mi,.int .i64 mb] 3)).cell 1);have l2:=af k1 (((Blk.new w [a,b,c,.int .i64 mi,.int .i64 mb] 23).alloc (.cells #[c,.int .i64 mi,.int .i64 mb] 3)).cell 2);have l3:=af k1 (((Blk.new w [a,b,c,.int .i64 mi,.int .i64 mb] 23).alloc (.cells #[c,.int .i64 mi,.int .i64 mb] 3)).cell 3);have l4:=af k1 (((Blk.new w [a,b,c,.int .i64 mi,.int .i64 mb] 23).alloc (.cells #[c,.int .i64 mi,.int .i64 mb] 3)).cell 4);clear hpt hft k1))
 obtain⟨H,hH⟩:=e_x w.heap.size;rw[hH]at l0 l1 l2 l3 l4⊢;have HH:=xh hH;clear hH
 go_cut [10] (λs10 wx=>∃kb:Nat,s10=.pointer (kb,0)∧Hid (∃pm ob cb,Vj wx a b c mi mb kb pm tb ob cb A [pY] 0∧w1.heap.size≤kb∧w1.heap.size≤pm∧w1.heap.size≤ob∧w1.heap.size≤cb∧Bel w1 wx))
 case first=>
  have l0:w1.cell? (H,0)=some (.int .i64 a):=l0;have l1:w1.cell? (H,1)=some (.int .i64 b):=l1;have l2:w1.cell? (H,2)=some (.int .i64 c):=l2;have l3:w1.cell? (H,3)=some (.int .i64 mi):=l3;have l4:w1.cell? (H,4)=some (.int .i64 mb):=l4;have hHl:H<w1.heap.size:=World.block_lt_of_cell? _ _ l0;go_region_held3 (λw'=>w'.cell? ⟨H,0,none⟩=some (.int .i64 a)∧w'.cell? ⟨H,1,none⟩=some (.int .i64 b)∧w'.cell? ⟨H,2,none⟩=some (.int .i64 c)∧w'.cell? ⟨H,3,none⟩=some (.int .i64 mi)∧w'.cell? ⟨H,4,none⟩=some (.int .i64 mb)) (first|(go_keep;done)) ((go_at_call 54;((with_reducible refine aH (FW c _) ?_);rintro e3 w3 ⟨⟨ob,rfl,hob,bob⟩,k3⟩;have m0:w3.cell? ⟨H,0,none⟩=some (.int .i64 a):=af k3 (by go_split_ands;assumption);have m1:w3.cell? ⟨H,1,none⟩=some (.int .i64 b):=af k3 (by go_split_ands;assumption);have m2:w3.cell? ⟨H,2,none⟩=some (.int .i64 c):=af k3 (by go_split_ands;assumption);have m3:w3.cell? ⟨H,3,none⟩=some (.int .i64 mi):=af k3 (by go_split_ands;assumption);have m4:w3.cell? ⟨H,4,none⟩=some (.int .i64 mb):=af k3 (by go_split_ands;assumption);have ai6:H<w3.heap.size:=World.block_lt_of_cell? _ _ m0;have xK:=xh (And.intro hob (And.intro bob k3));clear hob bob k3)))
  all_goals go_wp2_with fail
  all_goals go_meet
  ·have hz:=xK.o.2.2
   have k3:Bel w1 w3:=((Bel.start w1 (.map #[] 0)).drew).tr hz;have hz3:=k3.size;have hob:=xK.o.1;have kf:=(k3.ac (.cells #[(0:Int),(),()] 151)).ac (.cells (lV a b c mi mb (w1.heap.size) tb ob (w3.heap.size) 0 0 (.slice none 0 0)).toArray 111);refine⟨_,rfl,xh ⟨w1.heap.size,ob,w3.heap.size,⟨Blk.dF _ _ _ (by simp),(((Mp.new kM w1).bel ((Bel.drew (Bel.refl _)).tr hz)).alloc _).alloc _,(xK.o.2.1.alloc _).alloc _,(Blk.new w3 [(0:Int),(),()] _).alloc _,oU.o.1.bel kf,λhq=>by have h8:=oU.o.1.iy hq;omega⟩,?_,?_,?_,?_,kf⟩⟩;all_goals first|omega|(simp at hob⊢;omega)
  ·have hz:=xK.o.2.2
   have k3:Bel w1 w3:=(((Bel.start w1 (.map #[] 0)).ac (.cells #[(0:Int),(),()] 151)).drew).tr hz;have hz3:=k3.size;have hob:=xK.o.1;have kf:=k3.ac (.cells (lV a b c mi mb (w1.heap.size) tb ob (w1.heap.size+1) 0 0 (.slice none 0 0)).toArray 111);refine⟨_,rfl,xh ⟨w1.heap.size,ob,w1.heap.size+1,⟨Blk.new w3 _ _,(((Mp.new kM w1).alloc _).bel ((Bel.drew (Bel.refl _)).tr hz)).alloc _,xK.o.2.1.alloc _,((Blk.dF (w1.alloc (.map #[] 0)) [(0:Int),(),()] 151 (n:=w1.heap.size+1) (by simp)).bel ((Bel.drew (Bel.refl _)).tr hz)).alloc _,oU.o.1.bel kf,λhq=>by have h8:=oU.o.1.iy hq;omega⟩,?_,?_,?_,?_,kf⟩⟩;all_goals first|omega|(simp at hob⊢;omega)
  ·have hz:=xK.o.2.2
   have k3:Bel w1 w3:=(Bel.drew (Bel.refl w1)).tr hz;have hz3:=k3.size;have hob:=xK.o.1;have kf:=((k3.ac (.map #[] 0)).ac (.cells #[(0:Int),(),()] 151)).ac (.cells (lV a b c mi mb (w3.heap.size) tb ob (w3.heap.size+1) 0 0 (.slice none 0 0)).toArray 111);refine⟨_,rfl,xh ⟨w3.heap.size,ob,w3.heap.size+1,⟨Blk.dF _ _ _ (by simp),((Mp.new kM w3).alloc _).alloc _,((xK.o.2.1.alloc _).alloc _).alloc _,(Blk.dF (w3.alloc (.map #[] 0)) [(0:Int),(),()] 151 (n:=w3.heap.size+1) (by simp)).alloc _,oU.o.1.bel kf,λhq=>by have h8:=oU.o.1.iy hq;omega⟩,?_,?_,?_,?_,kf⟩⟩;all_goals first|omega|(simp at hob⊢;omega)
  ·have hz:=xK.o.2.2
   have k3:Bel w1 w3:=(Bel.drew (Bel.refl w1)).tr hz;have hz3:=k3.size;have hob:=xK.o.1;have kf:=((k3.ac (.cells #[(0:Int),(),()] 151)).ac (.map #[] 0)).ac (.cells (lV a b c mi mb (w3.heap.size+1) tb ob (w3.heap.size) 0 0 (.slice none 0 0)).toArray 111);refine⟨_,rfl,xh ⟨w3.heap.size+1,ob,w3.heap.size,⟨Blk.dF _ _ _ (by simp),(Mp.dF (w3.alloc (.cells #[(0:Int),(),()] 151)) (n:=w3.heap.size+1) (by simp)).alloc _,((xK.o.2.1.alloc _).alloc _).alloc _,((Blk.new w3 [(0:Int),(),()] 151).alloc _).alloc _,oU.o.1.bel kf,λhq=>by have h8:=oU.o.1.iy hq;omega⟩,?_,?_,?_,?_,kf⟩⟩;all_goals first|omega|(simp at hob⊢;omega)
  ·have hz:=xK.o.2.2
   have k3:Bel w1 w3:=(((Bel.start w1 (.cells #[(0:Int),(),()] 151)).ac (.map #[] 0)).drew).tr hz;have hz3:=k3.size;have hob:=xK.o.1;have kf:=k3.ac (.cells (lV a b c mi mb (w1.heap.size+1) tb ob (w1.heap.size) 0 0 (.slice none 0 0)).toArray 111);refine⟨_,rfl,xh ⟨w1.heap.size+1,ob,w1.heap.size,⟨Blk.new w3 _ _,((Mp.dF (w1.alloc (.cells #[(0:Int),(),()] 151)) (n:=w1.heap.size+1) (by simp)).bel ((Bel.drew (Bel.refl _)).tr hz)).alloc _,xK.o.2.1.alloc _,(((Blk.new w1 [(0:Int),(),()] 151).alloc _).bel ((Bel.drew (Bel.refl _)).tr hz)).alloc _,oU.o.1.bel kf,λhq=>by have h8:=oU.o.1.iy hq;omega⟩,?_,?_,?_,?_,kf⟩⟩;all_goals first|omega|(simp at hob⊢;omega)
  ·have hz:=xK.o.2.2
   have k3:Bel w1 w3:=((Bel.start w1 (.cells #[(0:Int),(),()] 151)).drew).tr hz;have hz3:=k3.size;have hob:=xK.o.1;have kf:=(k3.ac (.map #[] 0)).ac (.cells (lV a b c mi mb (w3.heap.size) tb ob (w1.heap.size) 0 0 (.slice none 0 0)).toArray 111);refine⟨_,rfl,xh ⟨w3.heap.size,ob,w1.heap.size,⟨Blk.dF _ _ _ (by simp),(Mp.new kM w3).alloc _,(xK.o.2.1.alloc _).alloc _,(((Blk.new w1 [(0:Int),(),()] 151).bel ((Bel.drew (Bel.refl _)).tr hz)).alloc _).alloc _,oU.o.1.bel kf,λhq=>by have h8:=oU.o.1.iy hq;omega⟩,?_,?_,?_,?_,kf⟩⟩;all_goals first|omega|(simp at hob⊢;omega)
 case rest=>
  obtain⟨kb,rfl,hka⟩:=hcut;obtain⟨pm,ob,cb,hK,hkb,hpm,hob,hcb,hbc⟩:=hka.out;obtain⟨pv,pc,rfl,hrow⟩:=HF.o.row;have hn:=HF.o.n;have gU:=xh hrow;have hbw:Bel w wc:=bP.o.tr hbc;have hz1:=bP.o.size;have HK:=xh hK;have pV:=xh hbw;have HFT:Hid (∀q,lg tb A [pY] q→w.heap.size≤q):=xh λq hq=>by
   have h1:=oU.o.2 q hq;simp at h1
   omega
  have adv:w.heap.size≤kb:=by omega
  have agr:w.heap.size≤cb:=by omega
  have ags:w.heap.size≤ob:=by omega
  have agt:w.heap.size≤pm:=by omega
  have hbe:bD ⟨a,b,c,mi,mb⟩ F=if (bK mi mb [dZ] F).1≠0 then(bK mi mb [dZ] F).1 else dM (bK mi mb [dZ] F).2 fF true 0 0 b.toNat:=by
   have e1:(⟨a,b,c,mi,mb⟩:fD).okA=true:=by simp only[fD.okA,decide_eq_true_eq];omega
   have e2:(⟨a,b,c,mi,mb⟩:fD).okB=true:=by simp only[fD.okB,decide_eq_true_eq];omega
   unfold bD;rw[if_neg (by rw[e1];simp),if_neg (by rw[e2];simp),if_neg (by show ¬(mi:Int)=0;omega)];rfl
  have Ve:=xh hbe;clear hka hrow hK hkb hpm hob hcb hbc hbw hbe hmm;go_wp2_with fail
  go_loopw [79] (λi wr=>∃(k:Nat) (A':bJ) (T':List Pn),k≤F.length∧i=.int .i64 k∧Vj wr a b c mi mb kb pm tb ob cb A' T' 0∧bK mi mb [dZ] F=bK mi mb (aJ T') (F.drop k)∧(∀q,lg tb A' T' q→w.heap.size≤q)∧Bel w wr) (λi _=>F.length-(intOf i).toNat)
  case atStart=>exact⟨0,A,[pY],Nat.zero_le _,rfl,HK.o,rfl,HFT.o,pV.o⟩
  case round=>
   obtain⟨k,A',T',hk,rfl,hka,hfl,hft,hbr⟩:=hrel;have vY:=xh hka;have Y7:=xh hfl;have Zd:=xh hft;have Dp:=xh hbr;clear hka hfl hft hbr;by_cases hlt:k<F.length
   ·have hf:=bT hlt
    have hdr:F.drop k=F[k]::F.drop (k+1):=List.drop_eq_getElem_cons hlt;obtain⟨g,rfl,cf⟩:=gU.o k F[k] hf;obtain⟨hb1,hb2,hb3,hb4,hb5⟩:=HF.o.byt F[k] (List.getElem_mem hlt);generalize F[k]=f at *
    have HDR:=xh hdr;have c0:wr.cell? (g,k*3)=some (.string f.path):=af Dp.o (cf 0 _ rfl);have c1:wr.cell? (g,k*3+1)=some (.bool f.dir):=af Dp.o (cf 1 _ rfl);have c2:wr.cell? (g,k*3+2)=some (.slice f.p f.byt.length f.cap):=af Dp.o (cf 2 _ rfl);have hfa:=λW (hW:Bel wr W)=>Vm kb tb A' T' mi mb f.path f.dir f.p f.cap f.byt W (vY.o.tree.bel hW) (af hW (vY.o.fk.cell 6)) (vY.o.tree.qX vY.o.fk (by decide) (by decide) (by decide)) ((hb1.sK (Keep.of_bel (λ_=>False) Dp.o) (λ_ _ _ h=>h)).sK (Keep.of_bel (λ_=>False) hW) (λ_ _ _ h=>h)) hb3 (λb o hp hq=>by have h1:=Zd.o b hq;have h2:=hb5 b o hp;omega) hb4 ((HMX.o.bel Dp.o).bel hW);obtain⟨r,hr⟩:=e_x (kR mi mb (aJ T') f.path.data.toList f.dir f.byt);rw[hr]at hfa;have HR:=xh hr;have hstep:∀W w5,Bel wr W→Keep (lg tb A' T') W w5→Bel w w5:=λW w5 hW hk=>Below.trans (Dp.o.tr hW) (hk.below _ (Dp.o.tr hW).size Zd.o);have aa1:=xh hstep;by_cases h0:r.1=0
    ·have HFA:=xh λW hW=>(hfa W hW).mono λe w' k=>k.2 h0
     have hfin:∀W w5 A2 T2,Bel wr W→PT w5 tb A2 T2 mi mb→aJ T2=r.2→Keep (lg tb A' T') W w5→(∀q,lg tb A2 T2 q→lg tb A' T' q∨W.heap.size≤q)→Vj w5 a b c mi mb kb pm tb ob cb A2 T2 0∧bK mi mb [dZ] F=bK mi mb (aJ T2) (F.drop (k+1))∧(∀q,lg tb A2 T2 q→w.heap.size≤q):=λW w5 A2 T2 hW hp hnd hkp hft=>by
      have hnf:=λ{q:Nat} {c:List Value} {t:TypeId} (hb:Blk wr q c t) h1 h2 h3=>vY.o.tree.qX hb h1 h2 h3;refine⟨⟨(vY.o.fk.bel hW).keep hkp (hnf vY.o.fk (by decide) (by decide) (by decide)),?_,(vY.o.fo.bel hW).keep hkp (hnf vY.o.fo (by decide) (by decide) (by decide)),(vY.o.fc.bel hW).keep hkp (hnf vY.o.fc (by decide) (by decide) (by decide)),hp,λhq=>?_⟩,?_,λq hq=>?_⟩
      ·have h1:=vY.o.fm.bel hW
       exact h1.of_block (hkp.block _ h1.lt vY.o.npm)
      ·rcases hft _ hq with h|h
       ·exact vY.o.npm h
       ·have h1:=vY.o.fm.lt
        have h2:=hW.size;omega
      ·rw[Y7.o,HDR.o,bK,if_neg (by rw[HR.o];simpa using h0),HR.o,hnd]
      ·rcases hft q hq with h|h
       ·exact Zd.o q h
       ·exact bU (Dp.o.tr hW).size h
     have zD:=xh hfin;clear hfa hr hf hdr cf hb1 hb2 hb3 hb4 hb5 hstep hfin h0;go_wp2_with (go_at_call 55;((with_reducible refine aH (HFA.o _ (Bel.start wr _)) ?_);rintro e3 w5 ⟨rfl,A2,T2,p1,p2,p3,p4⟩;have H5:=xh (And.intro p1 (And.intro p2 (And.intro p3 p4)));clear p1 p2 p3 p4))
     go_roundw
     case rel=>
      have h5:=H5.o;obtain⟨q1,q2,q3⟩:=zD.o _ w5 A2 T2 (Bel.start wr _) h5.1 h5.2.1 h5.2.2.1 h5.2.2.2;exact⟨k+1,A2,T2,by omega,by go_num,q1,q2,q3,aa1.o _ _ (Bel.start wr _) h5.2.2.1⟩
     case measure=>simp[intOf]<;>omega
    ·have HFA:=xh λW hW=>(hfa W hW).mono λe w' k=>k.1 h0
     obtain⟨ec,qK⟩:=e_x r.1;have HER:Hid (bD ⟨a,b,c,mi,mb⟩ F=ec):=xh (by
      have h3:bK mi mb [dZ] F=(r.1,aJ T'):=by rw[Y7.o,HDR.o,bK,if_pos (by rw[HR.o];exact h0),HR.o]
      rw[Ve.o,h3,if_pos h0,qK])
     rw[qK]at HFA h0;have hcb0:((ec:Int)==0)=false:=dK (by omega);have HN0:=xh h0;clear hfa hr hf hdr cf hb1 hb2 hb3 hb4 hb5 hstep h0 qK;go_wp2_with (go_at_call 55;((with_reducible refine aH (HFA.o _ (Bel.start wr _)) ?_);rintro e3 w5 ⟨rfl,p1⟩;have H5:=xh p1;clear p1))
     go_ret2
     exact⟨aa1.o _ _ (Bel.start wr _) H5.o,λ_=>by rw[HER.o];rfl,λh=>absurd (HER.o.symm.trans h) HN0.o⟩
   ·obtain rfl:k=F.length:=by omega
    have hfin:bK mi mb [dZ] F=(0,aJ T'):=by rw[Y7.o,List.drop_length];rfl
    have Y8:Hid (bD ⟨a,b,c,mi,mb⟩ F=dM (aJ T') fF true 0 0 b.toNat):=xh (by rw[Ve.o,hfin];rfl);have HFN:=xh hfin;clear hfin;have Dl:Hid (prog.built 120 [(1,.int .i64 1)]=some Ap.toArray):=xh Le;go_upto_region 24 with(refine wpList_buildTo rfl 120 _ rfl (some 90) rfl _ (by simp only[List.map_toArray,List.map_cons,List.map_nil];exact Dl.o) ?_)
    have k20:Bel wr (wr.alloc (.cells Ap.toArray 120)):=Bel.start _ _;have P20:=Blk.new wr Ap 120;change Code.wp _ _ _ _ (wr.alloc (.cells Ap.toArray 120))
    generalize wr.alloc (.cells Ap.toArray 120)=zC at *
    have aa2:=vY.o.bel k20;have adw:¬lg tb A' T' wr.heap.size:=λh=>by have:=vY.o.tree.iy h;omega
    have ai7:w.heap.size≤wr.heap.size:=Dp.o.size;have adx:wr.heap.size≠kb:=by have:=vY.o.fk.lt;omega
    have ady:wr.heap.size≠cb:=by have:=vY.o.fc.lt;omega
    have adz:wr.heap.size≠ob:=by have:=vY.o.fo.lt;omega
    have adA:wr.heap.size≠pm:=by have:=vY.o.fm.lt;omega
    have hkc:kb≠cb:=vY.o.fk.ne vY.o.fc (by decide);have hoc:ob≠cb:=vY.o.fo.ne vY.o.fc (by decide);have hmc:pm≠cb:=λe=>(vY.o.fc.aP vY.o.fm) e.symm;have hcn:¬lg tb A' T' cb:=vY.o.tree.qX vY.o.fc (by decide) (by decide) (by decide);have aa3:=xh (Dp.o.tr k20);generalize wr.heap.size=pb at *
    have adB:=xh aa2;have agu:=xh P20;have nZ:=xh (And.intro adx (And.intro ady (And.intro adz (And.intro adA (And.intro hkc (And.intro hoc (And.intro hmc (And.intro hcn adw))))))));clear k20 aa2 P20 adx ady adz adA hkc hoc hmc hcn adw gU
    go_loopw [92] (λi wx=>∃k:Nat,k≤3∧i=.int .i64 k∧Blk wx pb (Aq cb k) 120∧Vj wx a b c mi mb kb pm tb ob cb A' T' k∧Keep (λq=>q=pb∨q=cb) zC wx) (λi _=>3-(intOf i).toNat)
    case atStart=>exact⟨0,by omega,rfl,agu.o,adB.o,Keep.refl _ _⟩
    case round=>
     obtain⟨k,hk,rfl,hpk,hkk,hkeep⟩:=hrel;have Eg:=xh hpk;have HKK:=xh hkk;have HKP:=xh hkeep;clear hpk hkk hkeep;by_cases hlt:k<3
     ·have c8:=HKK.o.fk.c 8 rfl
      have cp:wr.cell? (pb,23+k)=some .nilIface:=by rw[Eg.o.cell];exact Vl cb k hlt
      have hk0:(0:Int)≤(k:Int):=by omega
      have hk8:(k:Int)<8:=by omega
      have fp:=Eg.o.frozen;have lp:=Eg.o.lt;have lk:=HKK.o.fk.lt;go_upto_region 24 with fail
      go_still_tail 10,(by kernel_rfl)
      change wpList _ _ _ _ _ wr.drew
      have kd:Bel wr wr.drew:=Bel.drew (Bel.refl _);have cp:wr.drew.cell? (pb,23+k)=some .nilIface:=cp;have fp:∀o,wr.drew.frozen? ⟨pb,o,none⟩=false:=fp;generalize wr.drew=wd at *
      go_upto_region 25 with fail
      have PA:Blk (wd.setCell (pb,23+k) (qW cb)) pb (Aq cb (k+1)) 120:=by
       have h1:=(Eg.o.bel kd).setCell (o:=23+k) (qW cb)
       rwa [Qw cb k hlt]at h1
      have ks:=Keep.setCell wd pb (23+k) (qW cb);have Vo:Vj (wd.setCell (pb,23+k) (qW cb)) a b c mi mb kb pm tb ob cb A' T' k:=(HKK.o.bel kd).keep ks nZ.o.1 nZ.o.2.2.2.1 nZ.o.2.2.1 nZ.o.2.1 (λq hq e=>by have e:q=pb:=e;subst e;exact nZ.o.2.2.2.2.2.2.2.2 hq);have adC:Keep (λq=>q=pb∨q=cb) zC (wd.setCell (pb,23+k) (qW cb)):=(HKP.o.tr (Keep.of_bel _ kd)).tr (ks.mono λq h=>.inl h);change Code.wp _ _ _ _ (wd.setCell (pb,23+k) (qW cb))
      generalize wd.setCell (pb,23+k) (qW cb)=we at *
      have d7:=Vo.fk.c 7 rfl;have d8:=Vo.fk.c 8 rfl;have hle:=Vo.fk.lt;have HPA:=xh PA;have iC:=xh Vo;have agv:=xh adC;clear c8 cp fp lp lk kd PA ks Vo adC;go_region_held3 (λw'=>w'.cell? ⟨kb,7,none⟩=some (.pointer (ob,0))∧w'.cell? ⟨kb,8,none⟩=some (.pointer (cb,0))) (first|(go_keep;done)) ((go_at_call 56;((with_reducible refine aH (Vp (some ⟨ob,0,none⟩) cb k (.slice none 0 0) (.slice none 0 0) we.drew (iC.o.fc.bel (Bel.drew (Bel.refl _))) (by omega)) ?_);rintro e3 wf ⟨rfl,bc,kc⟩;have m7:wf.cell? ⟨kb,7,none⟩=some (.pointer (ob,0)):=(kc.cell ⟨kb,7,none⟩ hle nZ.o.2.2.2.2.1).trans d7;have m8:wf.cell? ⟨kb,8,none⟩=some (.pointer (cb,0)):=(kc.cell ⟨kb,8,none⟩ hle nZ.o.2.2.2.2.1).trans d8;have HFF:=xh (And.intro bc kc);clear bc kc)))
      go_wp2_with fail
      go_roundw
      case rel=>
       have hkc:=HFF.o.2;have hbd:Bel we we.drew:=Bel.drew (Bel.refl _);refine⟨k+1,by omega,by go_num,(HPA.o.bel hbd).keep hkc (λe=>nZ.o.2.1 e),?_,(agv.o.tr (Keep.of_bel _ hbd)).tr (hkc.mono λq h=>.inr h)⟩;have h1:=iC.o.bel hbd;exact⟨h1.fk.keep hkc nZ.o.2.2.2.2.1,h1.fm.of_block (hkc.block _ h1.fm.lt nZ.o.2.2.2.2.2.2.1),h1.fo.keep hkc nZ.o.2.2.2.2.2.1,HFF.o.1,h1.tree.keep hkc (λq hq e=>by have e:q=cb:=e;subst e;exact nZ.o.2.2.2.2.2.2.2.1 hq),h1.npm⟩
      case measure=>simp[intOf]<;>omega
     ·obtain rfl:k=3:=by omega
      obtain⟨es,clock,hup,hmp⟩:=HKK.o.fm.update iJ underlying103 (1:Int) (WalkArith.wf_i64 (by omega)) (.pointer (pb,0));rw[show kM.kf 1=Value.int .i64 1 from rfl]at hup;have hkm:Keep (λq=>q=pm) wr (Go.ChangeMaps.setBlock wr pm (.map es clock)):=by
       obtain⟨es0,cl0,h0,_⟩:=HKK.o.fm;exact Keep.setBlock h0 _
      have c5:=HKK.o.fk.c 5 rfl;have Ik:Hid (Mp kM (Go.ChangeMaps.setBlock wr pm (.map es clock)) pm [(1,.pointer (pb,0))]):=xh hmp;have HKM:=xh hkm;clear hmp hkm;generalize hw7:Go.ChangeMaps.setBlock wr pm (.map es clock)=w7 at *
      clear hw7;go_upto_region 28 with fail
      have Ze:Blk w7 kb (lV a b c mi mb pm tb ob cb 0 0 (.slice none 0 0)) 111:=HKK.o.fk.keep HKM.o (λe=>by have e:kb=pm:=e;exact(HKK.o.fk.aP HKK.o.fm) e);have Zf:Blk w7 pb (Aq cb 3) 120:=Eg.o.keep HKM.o (λe=>nZ.o.2.2.2.1 e);have Zg:PT w7 tb A' T' mi mb:=HKK.o.tree.keep HKM.o (λq hq e=>by have e:q=pm:=e;subst e;exact HKK.o.npm hq);have Zh:Bel w wr:=Below.trans aa3.o (HKP.o.below _ aa3.o.size (λq hq=>by
       rcases hq with h|h
       ·have h:q=pb:=h;omega
       ·have h:q=cb:=h;omega))
      have Vq:Bel w w7:=Below.trans Zh (HKM.o.below _ Zh.size (λq hq=>by have h:q=pm:=hq;omega))
      have hex:=λ(W:World) (gs:Nat) (hW:Bel w7 W) (hgs:Blk W gs [.string ⟨#[105,110,105,116]⟩] 9)=>Em kb tb pb A' T' mi mb b.toNat 0 0 (lV a b c mi mb pm tb ob cb 0 0 (.slice none 0 0)) (Aq cb 3) ⟨#[47,105,110,105,116]⟩ (.slice (gs,0) 1 1) true (iq (aK bW) 1) bW none (λ_=>none) W (Zg.bel hW) (Ze.bel hW) (by simp[lV]) rfl rfl (by show some (Value.int .i64 b)=_;rw[Int.toNat_of_nonneg (by omega)]) (by omega) (by omega) (bM _) (Zf.bel hW) rfl rfl rfl rfl (λ_ _=>rfl) (by decide) ((HMX.o.bel Vq).bel hW) ((HFX.o.bel Vq).bel hW)
       (λW' hW'=>by
         refine(Ar (some ⟨gs,0,none⟩) 1 bW W' (λ_=>⟨gs,0,rfl,(hgs.bel hW').lt,λj hj=>?_⟩) (by simp[bW])).mono ?_
         ·have:j=0:=by simp[bW]at hj;omega
          subst this;exact(hgs.bel hW').cell 0
         ·rintro e w' ⟨h1,h2,_⟩
          exact⟨h1,λ_=>h2 lW,λh=>by cases h⟩)
      obtain⟨ec,qK⟩:=e_x (dM (aJ T') fF true 0 0 b.toNat);have Vr:=λ(W:World) (gs:Nat) (hW:Bel w7 W) (hgs:Blk W gs [.string ⟨#[105,110,105,116]⟩] 9)=>hex W gs hW hgs;rw[show(⟨#[47,105,110,105,116]⟩:ByteArray).data.toList=fF from rfl,qK]at Vr;have IA:Hid (bD ⟨a,b,c,mi,mb⟩ F=ec):=xh (Y8.o.trans qK);have H7:=xh (And.intro Ze (And.intro Zf (And.intro Zg Vq)));by_cases h0:ec=0
      ·have HEX:=xh λW gs hW hgs=>(Vr W gs hW hgs).mono λe w' k=>k.2 h0
       have H0:=xh h0;clear hex Vr qK h0 Ze Zf Zg Vq Zh c5 hup
       go_wp2_with (first
        | (refine au rfl 66 9 (.const (.string ⟨#[105,110,105,116]⟩)) rfl [.string ⟨#[105,110,105,116]⟩] rfl underlying66 jG (by show 0<1;omega) (by show 1≤2^24;omega) ?_;intro w9 B9 K9;have oM:Hid (Bel w7 w9):=xh K9;have Dn:Hid (Blk w9 w7.heap.size [.string ⟨#[105,110,105,116]⟩] 9):=xh B9.out;clear B9 K9)
        | (go_at_call 57;((with_reducible refine aH (HEX.o _ _ oM.o Dn.o) ?_);rintro e2 w10 ⟨rfl,h10⟩;have Dx:=xh h10;clear h10)))
       go_ret2
       obtain⟨sb,hsb,hsp,hkp,hk10,agw⟩:=Dx.o;have hb9:Bel w w9:=H7.o.2.2.2.tr oM.o;refine⟨Below.trans hb9 (hkp.below _ hb9.size (λq hq=>by
        rcases hq with h|h
        ·have h:q=kb:=h;omega
        ·have h:q=pb:=h;omega)),λh=>absurd (IA.o.trans H0.o) h,λ_=>⟨kb,rfl,adv,pm,tb,ob,cb,pb,sb,A',T',?_,?_,?_,?_,?_,?_,?_,hsp,Zd.o,agr,adv,by omega,bU hb9.size hsb,ags,agt⟩⟩
       ·rw[Nat.zero_add]at hk10
        exact hk10
       ·have h1:Mp kM w9 pm _:=Ik.o.bel oM.o
        exact h1.of_block (hkp.block _ h1.lt (λh=>by
         rcases h with h|h
         ·have h:pm=kb:=h
          exact(HKK.o.fk.aP HKK.o.fm) h.symm
         ·exact nZ.o.2.2.2.1 h.symm))
       ·have h1:=(HKK.o.fo.keep HKM.o (λe=>by have e:ob=pm:=e;exact(HKK.o.fo.aP HKK.o.fm) e)).bel oM.o
        exact h1.keep hkp (λh=>by
         rcases h with h|h
         ·have h:ob=kb:=h
          exact HKK.o.fo.ne HKK.o.fk (by decide) h
         ·exact nZ.o.2.2.1 h.symm)
       ·have h1:=(HKK.o.fc.keep HKM.o (λe=>nZ.o.2.2.2.2.2.2.1 e.symm)).bel oM.o
        exact h1.keep hkp (λh=>by
         rcases h with h|h
         ·exact nZ.o.2.2.2.2.1 h.symm
         ·exact nZ.o.2.1 h.symm)
       ·exact(H7.o.2.2.1.bel oM.o).keep hkp (λq hq h=>by
         rcases h with h|h
         ·have h:q=kb:=h
          subst h;exact HKK.o.tree.qX HKK.o.fk (by decide) (by decide) (by decide) hq
         ·have h:q=pb:=h
          subst h;exact nZ.o.2.2.2.2.2.2.2.2 hq)
       ·rw[HFN.o]
       ·exact agw
      ·have HEX:=xh λW gs hW hgs=>(Vr W gs hW hgs).mono λe w' k=>k.1 h0
       have hcb0:((ec:Int)==0)=false:=dK (by omega);have H0:=xh h0;clear hex Vr qK h0 Ze Zf Zg Vq Zh c5 hup
       go_wp2_with (first
        | (refine au rfl 66 9 (.const (.string ⟨#[105,110,105,116]⟩)) rfl [.string ⟨#[105,110,105,116]⟩] rfl underlying66 jG (by show 0<1;omega) (by show 1≤2^24;omega) ?_;intro w9 B9 K9;have oM:Hid (Bel w7 w9):=xh K9;have Dn:Hid (Blk w9 w7.heap.size [.string ⟨#[105,110,105,116]⟩] 9):=xh B9.out;clear B9 K9)
        | (go_at_call 57;((with_reducible refine aH (HEX.o _ _ oM.o Dn.o) ?_);rintro e2 w10 ⟨rfl,h10⟩;have Dx:=xh h10;clear h10)))
       go_ret2
       exact⟨(H7.o.2.2.2.tr oM.o).tr Dx.o,λ_=>by rw[IA.o];rfl,λh=>absurd (IA.o.symm.trans h) H0.o⟩
end
end Go.Proofs.YtcnjjchlebmfiaaGreatDoor
