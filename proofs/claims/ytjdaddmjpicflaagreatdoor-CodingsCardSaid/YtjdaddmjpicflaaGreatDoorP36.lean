/- The law's boot: what its first loop lays. Plain. -/
import Derived.Test.YtjdaddmjpicflaaGreatDoorP29
import Derived.Test.YtjdaddmjpicflaaGreatDoorP04
set_option linter.unusedVariables false
set_option linter.unusedSimpArgs false
set_option maxRecDepth 100000
set_option maxHeartbeats 16000000
namespace Go.Proofs.YtjdaddmjpicflaaGreatDoor
open Go.RowKit Go.Maps Go.Shelf
theorem row_apart {w w':World} {base base2:Nat} {e e2:TypeId} {size size2:Nat} {v v2:Value} {n n2:Nat} {xs ys:List Value} (h:w.ownsRow base e size v n xs) (h2:w.ownsRow base2 e2 size2 v2 n2 ys) (hne:e≠e2) (k:Keep (λq=>v2.ownBlock=some q) w w'):w'.ownsRow base e size v n xs:=by
 refine⟨h.1,?_⟩
 rcases h.2 with h3|⟨g,cap,cur,rfl,h3,h4,h5⟩
 ·exact .inl h3
 ·have hb:Blk w g cur.toList e:=h4
  refine .inr ⟨g,cap,cur,rfl,h3,(k.block g hb.lt λhq=>?_).trans h4,h5⟩
  obtain⟨_,c2,hb2⟩:=row_blk h2 hq
  exact hb.ne hb2 hne rfl
theorem blk_apart {w w':World} {base2:Nat} {e e2:TypeId} {size2:Nat} {v2:Value} {n2:Nat} {ys cs:List Value} {g:Nat} (h:Blk w g cs e) (h2:w.ownsRow base2 e2 size2 v2 n2 ys) (hne:e≠e2) (k:Keep (λq=>v2.ownBlock=some q) w w'):Blk w' g cs e:=
 h.keep k λhq=>by
  obtain⟨_,c2,hb2⟩:=row_blk h2 hq
  exact h.ne hb2 hne rfl
def FileA.cells (f:FileA):List Value:=[.string f.path,.bool f.dir,.slice f.p f.byt.length f.cap]
structure Roomy (W:World) (base:Nat) (G:List FileA):Prop where
 row:∀(i:Nat) (g:FileA),G[i]?=some g→∃b,g.p=some ⟨b,0,none⟩∧g.cap=g.byt.length+2∧base≤b∧Blk W b ((g.byt++[71,72]).map (Value.int .u8)) 5
 dist:∀(i j:Nat) (g h:FileA) (b c:Nat),i<j→G[i]?=some g→G[j]?=some h→g.p=some ⟨b,0,none⟩→h.p=some ⟨c,0,none⟩→b<c
structure LoopB (w0:World) (F:List FileA) (k:Nat) (v5 v6 v7 v8:Value) (W:World):Prop where
 bel:Bel w0 W
 r5:W.ownsRow w0.heap.size 9 1 v5 k ((F.take k).map λf=>.string f.path)
 r6:W.ownsRow w0.heap.size 4 1 v6 k ((F.take k).map λf=>.bool f.dir)
 r7:W.ownsRow w0.heap.size 32 1 v7 k ((F.take k).map λf=>.slice f.p f.byt.length f.cap)
 r8:∃G:List FileA,G.map FileA.said=(F.take k).map FileA.said∧W.ownsRow w0.heap.size 46 3 v8 k (G.flatMap FileA.cells)∧Roomy W w0.heap.size G
end Go.Proofs.YtjdaddmjpicflaaGreatDoor
namespace Go.Proofs.YtjdaddmjpicflaaGreatDoor
open Go.RowKit Go.Maps Go.Shelf
structure MidB (w2:World) (fb:Nat) (f:FileA) (x5 x6 x7:List Value) (n5 n6 n7:Nat) (G:List FileA) (v5 v6 v7 v8:Value) (W:World):Prop where
 bel:Bel w2 W
 fbk:w2.heap.size≤fb
 fb:Blk W fb f.cells 46
 r5:W.ownsRow w2.heap.size 9 1 v5 n5 x5
 r6:W.ownsRow w2.heap.size 4 1 v6 n6 x6
 r7:W.ownsRow w2.heap.size 32 1 v7 n7 x7
 r8:W.ownsRow w2.heap.size 46 3 v8 G.length (G.flatMap FileA.cells)
 rm:Roomy W w2.heap.size G
theorem Roomy.to {W W':World} {base:Nat} {G:List FileA} (h:Roomy W base G) (k:∀b cs,Blk W b cs 5→Blk W' b cs 5):Roomy W' base G:=⟨λi g hg=>by
 obtain⟨b,h1,h2,h3,h4⟩:=h.row i g hg
 exact⟨b,h1,h2,h3,k b _ h4⟩,h.dist⟩
theorem Roomy.nil (W:World) (base:Nat):Roomy W base []:=⟨λi g h=>(by simp at h),λi j g h b c _ hi=>(by simp at hi)⟩
variable {w2 W W':World} {fb n5 n6 n7:Nat} {f:FileA} {x5 x6 x7:List Value} {G:List FileA} {v5 v6 v7 v8:Value}
theorem MidB.to (h:MidB w2 fb f x5 x6 x7 n5 n6 n7 G v5 v6 v7 v8 W) (k:Bel W W'):MidB w2 fb f x5 x6 x7 n5 n6 n7 G v5 v6 v7 v8 W':=
 ⟨h.bel.tr k,h.fbk,h.fb.bel k,row_bel h.r5 k,row_bel h.r6 k,row_bel h.r7 k,row_bel h.r8 k,h.rm.to λ_ _ hb=>hb.bel k⟩
theorem bel_own {e:TypeId} {size n:Nat} {v:Value} {xs:List Value} (h:Bel w2 W) (hr:W.ownsRow w2.heap.size e size v n xs) (k:Keep (λq=>v.ownBlock=some q) W W'):Bel w2 W':=
 ((Keep.of_bel (λq=>v.ownBlock=some q) h).tr k).below _ (Nat.le_refl _) λq hq=>(row_blk hr hq).1
theorem MidB.grow5 (h:MidB w2 fb f x5 x6 x7 n5 n6 n7 G v5 v6 v7 v8 W) {v':Value} {n':Nat} {x':List Value} (k:Keep (λq=>v5.ownBlock=some q) W W') (r:W'.ownsRow w2.heap.size 9 1 v' n' x'):MidB w2 fb f x' x6 x7 n' n6 n7 G v' v6 v7 v8 W':=
 ⟨bel_own h.bel h.r5 k,h.fbk,blk_apart h.fb h.r5 (by decide) k,r,row_apart h.r6 h.r5 (by decide) k,row_apart h.r7 h.r5 (by decide) k,row_apart h.r8 h.r5 (by decide) k,h.rm.to λ_ _ hb=>blk_apart hb h.r5 (by decide) k⟩
theorem MidB.grow6 (h:MidB w2 fb f x5 x6 x7 n5 n6 n7 G v5 v6 v7 v8 W) {v':Value} {n':Nat} {x':List Value} (k:Keep (λq=>v6.ownBlock=some q) W W') (r:W'.ownsRow w2.heap.size 4 1 v' n' x'):MidB w2 fb f x5 x' x7 n5 n' n7 G v5 v' v7 v8 W':=
 ⟨bel_own h.bel h.r6 k,h.fbk,blk_apart h.fb h.r6 (by decide) k,row_apart h.r5 h.r6 (by decide) k,r,row_apart h.r7 h.r6 (by decide) k,row_apart h.r8 h.r6 (by decide) k,h.rm.to λ_ _ hb=>blk_apart hb h.r6 (by decide) k⟩
theorem MidB.grow7 (h:MidB w2 fb f x5 x6 x7 n5 n6 n7 G v5 v6 v7 v8 W) {v':Value} {n':Nat} {x':List Value} (k:Keep (λq=>v7.ownBlock=some q) W W') (r:W'.ownsRow w2.heap.size 32 1 v' n' x'):MidB w2 fb f x5 x6 x' n5 n6 n' G v5 v6 v' v8 W':=
 ⟨bel_own h.bel h.r7 k,h.fbk,blk_apart h.fb h.r7 (by decide) k,row_apart h.r5 h.r7 (by decide) k,row_apart h.r6 h.r7 (by decide) k,r,row_apart h.r8 h.r7 (by decide) k,h.rm.to λ_ _ hb=>blk_apart hb h.r7 (by decide) k⟩
theorem take_snoc_map {α β:Type} {F:List α} {k:Nat} {f:α} (hf:F[k]?=some f) (g:α→β):(F.take k).map g++[g f]=(F.take (k+1)).map g:=by
 rw[List.take_add_one,hf]
 simp
theorem loop_next {F:List FileA} {k:Nat} (hf:F[k]?=some f) (h:MidB w2 fb f ((F.take k).map (λf=>.string f.path)++[.string f.path]) ((F.take k).map (λf=>.bool f.dir)++[.bool f.dir]) ((F.take k).map (λf=>.slice f.p f.byt.length f.cap)++[.slice f.p f.byt.length f.cap]) (k+1) (k+1) (k+1) G v5 v6 v7 v8 W)
 (hG:G.map FileA.said=(F.take k).map FileA.said) (hGl:G.length=k) (g:Nat) (hg:w2.heap.size≤g) (hnew:∀(i:Nat) (g0:FileA) (b:Nat),G[i]?=some g0→g0.p=some ⟨b,0,none⟩→b<g) (hb:Blk W g ((f.byt++[71,72]).map (Value.int .u8)) 5) {v':Value} (K:Keep (λq=>v8.ownBlock=some q) W W')
 (r:W'.ownsRow w2.heap.size 46 3 v' (G.length+1) (G.flatMap FileA.cells++[.string f.path,.bool f.dir,.slice (some ⟨g,0,none⟩) f.byt.length (f.byt.length+2)])):LoopB w2 F (k+1) v5 v6 v7 v' W':=by
 refine⟨bel_own h.bel h.r8 K,?_,?_,?_,G++[⟨f.path,f.dir,some ⟨g,0,none⟩,f.byt.length+2,f.byt⟩],?_,?_,?_⟩
 ·have:=row_apart h.r5 h.r8 (by decide) K
  rwa [take_snoc_map hf (λf=>Value.string f.path)]at this
 ·have:=row_apart h.r6 h.r8 (by decide) K
  rwa [take_snoc_map hf (λf=>Value.bool f.dir)]at this
 ·have:=row_apart h.r7 h.r8 (by decide) K
  rwa [take_snoc_map hf (λf=>Value.slice f.p f.byt.length f.cap)]at this
 ·rw[←take_snoc_map hf FileA.said,List.map_append,hG]
  rfl
 ·rw[List.flatMap_append,←hGl]
  simpa [FileA.cells]using r
 ·have hsplit:∀(i:Nat) (g':FileA),(G++[⟨f.path,f.dir,some ⟨g,0,none⟩,f.byt.length+2,f.byt⟩])[i]?=some g'→G[i]?=some g'∧i<G.length∨i=G.length∧g'=⟨f.path,f.dir,some ⟨g,0,none⟩,f.byt.length+2,f.byt⟩:=λi g' hi=>by
   by_cases h1:i<G.length
   ·rw[List.getElem?_append_left h1]at hi
    exact .inl ⟨hi,h1⟩
   ·rw[List.getElem?_append_right (by omega)]at hi
    have h2:=(List.getElem?_eq_some_iff.1 hi).1
    simp at h2
    have e:i-G.length=0:=by omega
    rw[e]at hi
    cases hi
    exact .inr ⟨by omega,rfl⟩
  refine⟨λi g' hi=>?_,λi j g1 h1 b c hij hi hj hb1 hc1=>?_⟩
  ·rcases hsplit i g' hi with⟨h1,_⟩|⟨_,rfl⟩
   ·obtain⟨b,e1,e2,e3,e4⟩:=h.rm.row i g' h1
    exact⟨b,e1,e2,e3,blk_apart e4 h.r8 (by decide) K⟩
   ·exact⟨g,rfl,rfl,hg,blk_apart hb h.r8 (by decide) K⟩
  ·rcases hsplit i g1 hi with⟨e1,_⟩|⟨e1,rfl⟩
   ·rcases hsplit j h1 hj with⟨e2,_⟩|⟨_,rfl⟩
    ·exact h.rm.dist i j g1 h1 b c hij e1 e2 hb1 hc1
    ·cases hc1
     exact hnew i g1 b e1 hb1
   ·rcases hsplit j h1 hj with⟨_,e2⟩|⟨e2,_⟩<;>omega
theorem flistP_of {w:World} {F G:List FileA} {v:Value} {base:Nat} (hG:G.map FileA.said=F.map FileA.said) (hl:F.length≤100) (hs:∀f∈F,(∀x∈f.byt,0≤x∧x≤255)∧f.byt.length≤200000∧f.path.size≤200000)
 (hr:w.ownsRow base 46 3 v G.length (G.flatMap FileA.cells)) (hm:Roomy w base G):FListP w G v:=by
 have hGl:G.length=F.length:=by have:=congrArg List.length hG;simpa using this
 have hmem:∀g∈G,∃f∈F,g.said=f.said:=λg hg=>by
  have h1:g.said∈G.map FileA.said:=List.mem_map_of_mem hg
  rw[hG]at h1
  obtain⟨f,hf,e⟩:=List.mem_map.1 h1
  exact⟨f,hf,e.symm⟩
 obtain⟨p,c,rfl,_,_,h3⟩:=row_slice hr
 refine⟨by omega,⟨p,c,rfl,λi f hf=>?_⟩,λf hf=>?_⟩
 ·have hlt:=(List.getElem?_eq_some_iff.1 hf).1
  rcases h3 with⟨h0,_⟩|⟨g,rfl,_,_,hc,_⟩
  ·omega
  ·refine⟨g,rfl,λj u hj=>?_⟩
   have hj3:j<3:=by have:=(List.getElem?_eq_some_iff.1 hj).1;simpa using this
   have hfl:=flat_at FileA.cells 3 G (λ_ _=>rfl) i j hj3
   have hlen:i*3+j<(G.flatMap FileA.cells).length:=by
    rw[flat_length FileA.cells 3 G (λ_ _=>rfl)]
    omega
   show w.cell? ⟨g,i*3+j,none⟩=_
   rw[hc _ hlen,hfl,hf]
   exact hj
 ·obtain⟨f',hf',e⟩:=hmem f hf
  obtain⟨h1,h2,h4⟩:=hs f' hf'
  have e1:f.path=f'.path:=congrArg (·.1) e
  have e2:f.byt=f'.byt:=congrArg (·.2.2) e
  obtain⟨i,hi⟩:=List.mem_iff_getElem?.1 hf
  obtain⟨b,k1,k2,_,k4⟩:=hm.row i f hi
  rw[e1,k1,k2]
  have hby:∀x∈f.byt,0≤x∧x≤255:=by rw[e2];exact h1
  refine⟨⟨hby,λh0=>⟨b,0,rfl,k4.lt,⟨λi hi=>?_,hby⟩⟩⟩,by omega,by rw[e2];exact h2,by omega,λb' o hb=>?_⟩
  ·rw[Nat.zero_add,k4.cell,List.getElem?_map,List.getElem?_append_left hi]
  ·cases hb
   exact k4.lt
def RoomyB (G:List FileA) (q:Nat):Prop:=∃(i:Nat) (g:FileA),G[i]?=some g∧g.p=some ⟨q,0,none⟩
theorem Roomy.blk {W:World} {base:Nat} {G:List FileA} (h:Roomy W base G) {q:Nat} (hq:RoomyB G q):base≤q∧q<W.heap.size∧∃cs,Blk W q cs 5:=by
 obtain⟨i,g,hi,hp⟩:=hq
 obtain⟨b,h1,_,h3,h4⟩:=h.row i g hi
 rw[hp]at h1
 cases h1
 exact⟨h3,h4.lt,_,h4⟩
theorem row_typed {S:Nat→Prop} {w w':World} {base:Nat} {e:TypeId} {size:Nat} {v:Value} {n:Nat} {xs:List Value} (h:w.ownsRow base e size v n xs) (k:Keep S w w') (hs:∀q,S q→∃cs t,Blk w q cs t∧t≠e):w'.ownsRow base e size v n xs:=by
 refine⟨h.1,?_⟩
 rcases h.2 with h3|⟨g,cap,cur,rfl,h3,h4,h5⟩
 ·exact .inl h3
 ·have hb:Blk w g cur.toList e:=h4
  refine .inr ⟨g,cap,cur,rfl,h3,(k.block g hb.lt λhq=>?_).trans h4,h5⟩
  obtain⟨cs,t,hb2,hne⟩:=hs g hq
  exact hb.ne hb2 (λe=>hne e.symm) rfl
theorem list_row {w:World} {base:Nat} {e:TypeId} {v:Value} {F:List FileA} (c:FileA→Value) (h:w.ownsRow base e 1 v F.length (F.map c)):∃p cp,v=.slice p F.length cp∧∀(i:Nat) (f:FileA),F[i]?=some f→∃g,p=some ⟨g,0,none⟩∧w.cell? ⟨g,i,none⟩=some (c f):=by
 obtain⟨p,cp,rfl,_,_,h3⟩:=row_slice h
 refine⟨p,cp,rfl,λi f hf=>?_⟩
 have hlt:=(List.getElem?_eq_some_iff.1 hf).1
 rcases h3 with⟨h0,_⟩|⟨g,rfl,_,_,hc,_⟩
 ·omega
 ·exact⟨g,rfl,by rw[hc i (by simpa using hlt),List.getElem?_map,hf];rfl⟩
structure LoopS (w:World) (base:Nat) (G:List FileA) (k:Nat) (W:World):Prop where
 keep:Keep (RoomyB G) w W
 rest:∀(i:Nat) (g:FileA),k≤i→G[i]?=some g→∃b,g.p=some ⟨b,0,none⟩∧Blk W b ((g.byt++[71,72]).map (Value.int .u8)) 5
theorem LoopS.start {w:World} {base:Nat} {G:List FileA} (h:Roomy w base G):LoopS w base G 0 w:=⟨Keep.refl _ _,λi g _ hi=>by
 obtain⟨b,h1,_,_,h4⟩:=h.row i g hi
 exact⟨b,h1,h4⟩⟩
theorem LoopS.next {w W W':World} {base:Nat} {G:List FileA} {k b:Nat} {g:FileA} (h:LoopS w base G k W) (hr:Roomy w base G) (hg:G[k]?=some g) (hp:g.p=some ⟨b,0,none⟩) (K:Keep (λq=>q=b) W W'):LoopS w base G (k+1) W':=
 ⟨h.keep.tr (K.mono λq hq=>by subst hq;exact⟨k,g,hg,hp⟩),λi g' hi hg'=>by
   obtain⟨c,h1,h2⟩:=h.rest i g' (by omega) hg'
   exact⟨c,h1,h2.keep K λe=>by have h3:=hr.dist k i g g' b c (by omega) hg hg' hp h1;have e:c=b:=e;omega⟩⟩
end Go.Proofs.YtjdaddmjpicflaaGreatDoor
namespace Go.Proofs.YtjdaddmjpicflaaGreatDoor
open Go.RowKit Go.Maps Go.Shelf
theorem sliceInfo3:(Tryz.prog.info? 32).map (λi=>(i.size,i.bytes,(i.zero.map (·.cells.size))))=some (1,24,some 1):=by kernel_rfl
theorem fileInfo3:(Tryz.prog.info? 46).map (λi=>(i.size,i.bytes,(i.zero.map (·.cells.size))))=some (3,48,some 3):=by kernel_rfl
theorem boolInfo3:(Tryz.prog.info? 4).map (λi=>(i.size,i.bytes,(i.zero.map (·.cells.size))))=some (1,1,some 1):=by kernel_rfl
theorem lawBoot_any (l:Lims) (F:List FileA) (p:Option Addr) (cap:Nat) (w:World) (hr:∀(i:Nat) (f:FileA),F[i]?=some f→∃g o,p=some ⟨g,o,none⟩∧w.rangeAt g (o+i*3) [.string f.path,.bool f.dir,.slice f.p f.byt.length f.cap]) (hl:F.length≤100)
 (hs:∀f∈F,BS w f.p f.byt∧f.byt.length≤200000∧f.path.size≤200000∧f.byt.length≤f.cap∧(0<f.byt.length→∀b o,f.p=some ⟨b,o,none⟩→b<w.heap.size)) (hmx:MaxVar w) (hfix:FixVar w) (hev:ErrVar w) :
 Calls Tryz.prog 10 #[.agg #[.int .i64 l.a,.int .i64 l.b,.int .i64 l.c,.int .i64 l.d,.int .i64 l.e,.slice p F.length cap]] w λe w'=>Bel w w'∧(bootE l F≠0→∃wb,e=.returned (.tuple #[.pointer (some ⟨wb,0,none⟩),.int .i64 (bootE l F:Nat),.bool true]))∧(bootE l F=0→∃wb tk kb rb,e=.returned (.tuple #[.pointer (some ⟨wb,0,none⟩),.int .i64 0,.bool true])∧Blk w' wb [.pointer (some ⟨tk,0,none⟩),.pointer (some ⟨rb,0,none⟩),.slice none 0 0,.slice none 0 0,.bool false] 55∧Blk w' tk [.pointer (some ⟨kb,0,none⟩)] 62∧BootPKs w' w.heap.size kb l.a l.b l.c l.d.toNat l.e.toNat F∧BootDK w' rb l F∧w.heap.size≤rb):=by
 have HR:=xh hr
 have HS:=xh hs
 have HV:=xh (And.intro hmx (And.intro hfix hev))
 clear hr hs hmx hfix hev
 go_enter Tryz.func10,Tryz.ntmps10
 have BX:=Blk.new w [.int .i64 l.a,.int .i64 l.b,.int .i64 l.c,.int .i64 l.d,.int .i64 l.e,.slice p F.length cap] 26
 have kx:Bel w (w.alloc (.cells #[.int .i64 l.a,.int .i64 l.b,.int .i64 l.c,.int .i64 l.d,.int .i64 l.e,.slice p F.length cap] 26)):=Bel.start _ _
 change Blk (w.alloc (.cells #[.int .i64 l.a,.int .i64 l.b,.int .i64 l.c,.int .i64 l.d,.int .i64 l.e,.slice p F.length cap] 26)) w.heap.size _ _ at BX
 go_upto_region 6 with fail
 generalize w.alloc (.cells #[.int .i64 l.a,.int .i64 l.b,.int .i64 l.c,.int .i64 l.d,.int .i64 l.e,.slice p F.length cap] 26)=w2 at *
 generalize hxb:w.heap.size=xb at *
 have HXB:=xh hxb
 have HBX:=xh BX
 have HK:Hid (Bel w w2):=xh kx
 have hxl:=BX.lt
 clear BX kx hxb
 go_loopw [5,6,7,8,9] (λv5 v6 v7 v8 i wr=>∃k:Nat,k≤F.length∧i=.int .i64 k∧Hid (LoopB w2 F k v5 v6 v7 v8 wr)) (λ_ _ _ _ i _=>F.length-(intOf i).toNat)
 case atStart=>exact⟨0,Nat.zero_le _,rfl,xh ⟨Bel.refl _,World.ownsRow_nil _ _ _ _,World.ownsRow_nil _ _ _ _,World.ownsRow_nil _ _ _ _,[],rfl,World.ownsRow_nil _ _ _ _,Roomy.nil _ _⟩⟩
 case round=>
  obtain⟨k,hk,rfl,HL⟩:=hrel
  have x5:wr.cell? ⟨xb,5,none⟩=some (.slice p F.length cap):=(HBX.out.bel HL.out.bel).cell 5
  by_cases hlt:k<F.length
  ·have hf:=List.getElem?_eq_getElem hlt
   obtain⟨f,hff⟩:∃f,F[k]=f:=⟨_,rfl⟩
   rw[hff]at hf
   obtain⟨g,o,rfl,hran⟩:=HR.out k f hf
   have r0:wr.cell? ⟨g,o+k*3,none⟩=some (.string f.path):=cell_bel HL.out.bel (cell_bel HK.out (hran 0 _ rfl))
   have r1:wr.cell? ⟨g,o+k*3+1,none⟩=some (.bool f.dir):=cell_bel HL.out.bel (cell_bel HK.out (hran 1 _ rfl))
   have r2:wr.cell? ⟨g,o+k*3+2,none⟩=some (.slice f.p f.byt.length f.cap):=cell_bel HL.out.bel (cell_bel HK.out (hran 2 _ rfl))
   clear hran
   go_upto_region 9 with fail
   have BF:=Blk.new wr [.string f.path,.bool f.dir,.slice f.p f.byt.length f.cap] 46
   have k3:Bel wr (wr.alloc (.cells #[.string f.path,.bool f.dir,.slice f.p f.byt.length f.cap] 46)):=Bel.start _ _
   change Blk (wr.alloc (.cells #[.string f.path,.bool f.dir,.slice f.p f.byt.length f.cap] 46)) wr.heap.size _ _ at BF
   generalize wr.alloc (.cells #[.string f.path,.bool f.dir,.slice f.p f.byt.length f.cap] 46)=w3 at *
   generalize hfb:wr.heap.size=fb at *
   have f0:w3.cell? ⟨fb,0,none⟩=some (.string f.path):=BF.cell 0
   obtain⟨G,hG,h8,hrm⟩:=HL.out.r8
   have hGl:G.length=k:=by have:=congrArg List.length hG;simp at this;omega
   have HM3:Hid (MidB w2 fb f ((F.take k).map λf=>.string f.path) ((F.take k).map λf=>.bool f.dir) ((F.take k).map λf=>.slice f.p f.byt.length f.cap) k k k G u5 u6 u7 u8 w3):=xh ⟨HL.out.bel.tr k3,hfb▸HL.out.bel.le,BF,row_bel HL.out.r5 k3,row_bel HL.out.r6 k3,row_bel HL.out.r7 k3,by rw[hGl];exact row_bel h8 k3,hrm.to λ_ _ hb=>hb.bel k3⟩
   clear BF k3 r0 r1 r2 h8 hrm
   go_upto_region 10 with(first
    | (refine wpList_buildSlice_one rfl 31 9 (.tmp 34) rfl [.string f.path] rfl Tryz.underlying31 strInfo3 (by show 0<1;omega) (by show 1≤2^24;omega) ?_;intro w4 B4 K4;have HB4:Hid (Blk w4 w3.heap.size [.string f.path] 9):=B4;have HM4:=xh (HM3.out.to (W':=w4) K4);clear B4 K4)
    | (refine wpList_append_cells (base:=w2.heap.size) (n:=k) (v:=u5) (xs:=(F.take k).map λ(f:FileA)=>Value.string f.path) (size:=1) (bytes:=16) rfl (.tmp 32) (.tmp 35) 31 rfl Tryz.underlying31 strInfo3 (by omega) rfl HM4.out.r5 w3.heap.size 1 1 [.string f.path] rfl (λj u hj=>by rw[←hj];exact HB4.out.cell j) rfl (λv hv=>by rw[List.mem_singleton.1 hv];rfl) (by unfold maxLen;omega) (by omega) HM4.out.bel.le ?_;intro p5 c5 w5 R5 K5;have HM5:=xh (HM4.out.grow5 K5 R5);clear R5 K5))
   have f1:w5.cell? ⟨fb,1,none⟩=some (.bool f.dir):=HM5.out.fb.cell 1
   go_upto_region 11 with(first
    | (refine wpList_buildSlice_one rfl 66 4 (.tmp 39) rfl [.bool f.dir] rfl Tryz.underlying66 boolInfo3 (by show 0<1;omega) (by show 1≤2^24;omega) ?_;intro w6 B6 K6;have HB6:Hid (Blk w6 w5.heap.size [.bool f.dir] 4):=B6;have HM6:=xh (HM5.out.to (W':=w6) K6);clear B6 K6)
    | (refine wpList_append_cells (base:=w2.heap.size) (n:=k) (v:=u6) (xs:=(F.take k).map λ(f:FileA)=>Value.bool f.dir) (size:=1) (bytes:=1) rfl (.tmp 37) (.tmp 40) 66 rfl Tryz.underlying66 boolInfo3 (by omega) rfl HM6.out.r6 w5.heap.size 1 1 [.bool f.dir] rfl (λj u hj=>by rw[←hj];exact HB6.out.cell j) rfl (λv hv=>by rw[List.mem_singleton.1 hv];rfl) (by unfold maxLen;omega) (by omega) HM6.out.bel.le ?_;intro p7 c7 w7 R7 K7;have HM7:=xh (HM6.out.grow6 K7 R7);clear R7 K7))
   have f2:w7.cell? ⟨fb,2,none⟩=some (.slice f.p f.byt.length f.cap):=HM7.out.fb.cell 2
   go_upto_region 12 with(first
    | (refine wpList_buildSlice_one rfl 67 32 (.tmp 44) rfl [.slice f.p f.byt.length f.cap] rfl Tryz.underlying67 sliceInfo3 (by show 0<1;omega) (by show 1≤2^24;omega) ?_;intro w8 B8 K8;have HB8:Hid (Blk w8 w7.heap.size [.slice f.p f.byt.length f.cap] 32):=B8;have HM8:=xh (HM7.out.to (W':=w8) K8);clear B8 K8)
    | (refine wpList_append_cells (base:=w2.heap.size) (n:=k) (v:=u7) (xs:=(F.take k).map λ(f:FileA)=>Value.slice f.p f.byt.length f.cap) (size:=1) (bytes:=24) rfl (.tmp 42) (.tmp 45) 67 rfl Tryz.underlying67 sliceInfo3 (by omega) rfl HM8.out.r7 w7.heap.size 1 1 [.slice f.p f.byt.length f.cap] rfl (λj u hj=>by rw[←hj];exact HB8.out.cell j) rfl (λv hv=>by rw[List.mem_singleton.1 hv];rfl) (by unfold maxLen;omega) (by omega) HM8.out.bel.le ?_;intro p9 c9 w9 R9 K9;have HM9:=xh (HM8.out.grow7 K9 R9);clear R9 K9))
   have e2:w9.cell? ⟨fb,2,none⟩=some (.slice f.p f.byt.length f.cap):=HM9.out.fb.cell 2
   have hmem:f∈F:=List.mem_iff_getElem?.2 ⟨k,hf⟩
   have HRO:=xh (roomy_any f.p f.cap f.byt w9 ((HS.out f hmem).1.bel (HK.out.tr HM9.out.bel)) (HS.out f hmem).2.1)
   clear f1 f2
   go_upto_region 13 with(go_at_call 16;((with_reducible refine Calls.mono HRO.out ?_);rintro e w10 ⟨gr,rfl,hgr,hBr,hkr⟩;have H10:=xh (And.intro hgr (And.intro hBr hkr));clear hgr hBr hkr))
   have HM10:=xh (HM9.out.to H10.out.2.2)
   have g0:w10.cell? ⟨fb,0,none⟩=some (.string f.path):=HM10.out.fb.cell 0
   have g1:w10.cell? ⟨fb,1,none⟩=some (.bool f.dir):=HM10.out.fb.cell 1
   have hnew:∀(i:Nat) (g0:FileA) (b:Nat),G[i]?=some g0→g0.p=some ⟨b,0,none⟩→b<gr:=λi g0 b hi hp=>by
    obtain⟨b',h1,_,_,h4⟩:=HM9.out.rm.row i g0 hi
    rw[hp]at h1
    cases h1
    exact Nat.lt_of_lt_of_le h4.lt H10.out.1
   have HNW:=xh hnew
   have hgr2:w2.heap.size≤gr:=Nat.le_trans HM9.out.bel.le H10.out.1
   have hGk:G.length≤100:=by omega
   clear e2 hnew
   go_wp2_with (first
    | (refine wpList_buildSlice_one rfl 24 46 (.tmp 56) rfl [.string f.path,.bool f.dir,.slice (some ⟨gr,0,none⟩) f.byt.length (f.byt.length+2)] rfl Tryz.underlying24 fileInfo3 (by show 0<3;omega) (by show 3≤2^24;omega) ?_;intro w11 B11 K11;have HB11:Hid (Blk w11 w10.heap.size [.string f.path,.bool f.dir,.slice (some ⟨gr,0,none⟩) f.byt.length (f.byt.length+2)] 46):=B11;have HM11:=xh (HM10.out.to (W':=w11) K11);have HG11:Hid (Blk w11 gr ((f.byt++[71,72]).map (Value.int .u8)) 5):=xh (H10.out.2.1.bel (w':=w11) K11);clear B11 K11)
    | (refine wpList_append_cells (base:=w2.heap.size) (v:=u8) (n:=G.length) (xs:=G.flatMap FileA.cells) (size:=3) (bytes:=48) rfl (.tmp 50) (.tmp 57) 24 rfl Tryz.underlying24 fileInfo3 (by omega) rfl HM11.out.r8 w10.heap.size 1 1 [.string f.path,.bool f.dir,.slice (some ⟨gr,0,none⟩) f.byt.length (f.byt.length+2)] rfl (λj u hj=>by rw[←hj];exact HB11.out.cell j) rfl (λv hv=>by simp only[List.mem_cons,List.not_mem_nil,or_false]at hv;rcases hv with rfl|rfl|rfl<;>rfl) (by unfold maxLen;omega) (by omega) HM11.out.bel.le ?_;intro p12 c12 w12 R12 K12;have HL12:=xh (loop_next hf HM11.out hG hGl gr hgr2 HNW.out HG11.out K12 R12);clear R12 K12))
   go_roundw
   case rel=>exact⟨k+1,by omega,by go_num,(by have h:=HL12;rw[hGl]at h;exact h)⟩
   case measure=>simp[intOf]<;>omega
  ·obtain rfl:k=F.length:=by omega
   obtain⟨wz,hwz⟩:∃W,W=wr:=⟨_,rfl⟩
   subst hwz
   obtain⟨G,hG,h8,hrm⟩:=HL.out.r8
   rw[List.take_length]at hG
   have hGl:G.length=F.length:=by have:=congrArg List.length hG;simpa using this
   obtain⟨p8,c8,rfl,_,_,h8c⟩:=row_slice h8
   have hfl:∀W,Bel wz W→FListP W G (.slice p8 F.length c8):=λW hW=>flistP_of hG hl (λf hf=>⟨(HS.out f hf).1.1,(HS.out f hf).2.1,(HS.out f hf).2.2.1⟩) (by rw[hGl];exact row_bel h8 hW) (hrm.to λ_ _ hb=>hb.bel hW)
   have hbt:=bootT_any l G (.slice p8 F.length c8) wz hfl (HV.out.1.bel (HK.out.tr HL.out.bel)) (HV.out.2.1.bel (HK.out.tr HL.out.bel))
   have hev:∀W,Bel wz W→ErrVar W:=λW hW=>(HV.out.2.2.bel (HK.out.tr HL.out.bel)).bel hW
   have hBE:=bootE_same l F G hG.symm
   have HE:=xh hev
   have HL0:=xh hl
   have HG:=xh (And.intro hG (And.intro hGl (And.intro h8 hrm)))
   have BXr:=HBX.out.bel HL.out.bel
   have x0:wz.cell? ⟨xb,0,none⟩=some (.int .i64 l.a):=BXr.cell 0
   have x1:wz.cell? ⟨xb,1,none⟩=some (.int .i64 l.b):=BXr.cell 1
   have x2:wz.cell? ⟨xb,2,none⟩=some (.int .i64 l.c):=BXr.cell 2
   have x3:wz.cell? ⟨xb,3,none⟩=some (.int .i64 l.d):=BXr.cell 3
   have x4:wz.cell? ⟨xb,4,none⟩=some (.int .i64 l.e):=BXr.cell 4
   have hrows:∀(w6 wE W:World),Bel wz w6→Keep (RoomyB G) w6 wE→Bel wE W→FLists W F u5 u6 u7:=λw6 wE W h1 h2 h3=>by
    have hrm6:Roomy w6 w2.heap.size G:=hrm.to λ_ _ hb=>hb.bel h1
    have hnS:∀(b:Nat),b<xb→¬RoomyB G b:=λb hb hq=>by
     have:=(hrm.blk hq).1
     omega
    have hr:∀{e:TypeId} {size n:Nat} {v:Value} {xs:List Value},wz.ownsRow w2.heap.size e size v n xs→5≠e→W.ownsRow w2.heap.size e size v n xs:=λh hne=>row_bel (row_typed (row_bel h h1) h2 λq hq=>by
     obtain⟨_,_,cs,hb⟩:=hrm6.blk hq
     exact⟨cs,_,hb,hne⟩) h3
    have k5:=hr HL.out.r5 (by decide)
    have k6:=hr HL.out.r6 (by decide)
    have k7:=hr HL.out.r7 (by decide)
    rw[List.take_length]at k5 k6 k7
    refine⟨by omega,list_row (λf=>.string f.path) k5,list_row (λf=>.bool f.dir) k6,list_row (λf=>.slice f.p f.byt.length f.cap) k7,λf hf=>?_⟩
    obtain⟨s1,s2,s3,s4,s5⟩:=HS.out f hf
    refine⟨((s1.bel (HK.out.tr (HL.out.bel.tr h1))).keep_at0 h2 λh0 b o hb=>hnS b (s5 h0 b o hb)).bel h3,s4,s2,by omega,λh0 b o hb=>?_⟩
    have e1:=s5 h0 b o hb
    have e2:=HL.out.bel.size
    have e3:=h1.size
    have e4:=h2.size
    have e5:=h3.size
    omega
   have HROWS:=xh hrows
   have HXR:=xh BXr
   unfold BootTRes at hbt
   simp only[limC]at hbt
   rw[←hBE]at hbt
   clear hfl hG hGl h8 hrm h8c hev hBE BXr hrows
   by_cases h0:bootE l F=0
   ·have HBT:=xh (hbt.mono λe w' k=>And.intro k.1 (k.2.2 h0))
    have HBD:=xh λ(w6 wE W:World) (h1:Bel wz w6) (h2:Keep (RoomyB G) w6 wE) (h3:Bel wE W)=>(bootD_any l F u5 u6 u7 W (HROWS.out w6 wE W h1 h2 h3)).mono λe w' k=>And.intro k.1 (k.2.2 h0)
    have H0:=xh h0
    simp only[limC]at HBD
    clear hbt h0
    go_upto_region 15 with(go_at_call 6;((with_reducible refine Calls.mono HBT.out ?_);rintro e2 w5 ⟨k5,tk,kb,rfl,htk,hkb,hbl,hpk⟩;have H5:=xh (And.intro k5 (And.intro htk (And.intro hkb (And.intro hbl hpk))));clear k5 htk hkb hbl hpk))
    go_upto_region 16 with(go_at_call 8;((with_reducible refine Calls.mono (tell_nil _) ?_);rintro e3 w6 ⟨rfl,k6⟩;have H6:=xh (H5.out.1.tr k6);have K6:=xh k6;clear k6))
    have hrm6:Roomy w6 w2.heap.size G:=HG.out.2.2.2.to λ_ _ hb=>hb.bel H6.out
    have HRM:=xh hrm6
    have HR6:Hid (FListP w6 G (.slice p8 F.length c8)):=xh (flistP_of HG.out.1 HL0.out (λf hf=>⟨(HS.out f hf).1.1,(HS.out f hf).2.1,(HS.out f hf).2.2.1⟩) (by rw[HG.out.2.1];exact row_bel HG.out.2.2.1 H6.out) hrm6)
    have hlb6:Bel w2 w6:=HL.out.bel.tr H6.out
    have HLB:=xh hlb6
    have hnS:∀b,b<xb→¬RoomyB G b:=λb hb hq=>by
     have:=(HRM.out.blk hq).1
     omega
    have HNS:=xh hnS
    have hxS:¬RoomyB G xb:=λhq=>by
     have:=(HRM.out.blk hq).1
     omega
    have HXS:=xh hxS
    clear x0 x1 x2 x3 x4 x5 hrm6 hlb6 hnS hxS
    go_upto_region 17 with fail
    go_loopw [15] (λi wq=>∃k:Nat,k≤F.length∧i=.int .i64 k∧Hid (LoopS w6 w2.heap.size G k wq)) (λi _=>F.length-(intOf i).toNat)
    case atStart=>exact⟨0,Nat.zero_le _,rfl,xh (LoopS.start HRM.out)⟩
    case round=>
     obtain⟨k,hk,rfl,HLS⟩:=hrel
     by_cases hlt:k<F.length
     ·have hf:=List.getElem?_eq_getElem hlt
      obtain⟨f,hff⟩:∃f,F[k]=f:=⟨_,rfl⟩
      rw[hff]at hf
      have hmem:f∈F:=List.mem_iff_getElem?.2 ⟨k,hf⟩
      obtain⟨g,o,rfl,hran⟩:=HR.out k f hf
      have hgx:g<xb:=by
       have h2:=World.block_lt_of_cell? _ _ (hran 2 _ rfl)
       rw[HXB.out]at h2
       exact h2
      have hkG:k<G.length:=by rw[HG.out.2.1];exact hlt
      have hgk:=List.getElem?_eq_getElem hkG
      obtain⟨gk,hgk2⟩:∃gk,G[k]=gk:=⟨_,rfl⟩
      rw[hgk2]at hgk
      have hsaid:gk.said=f.said:=by
       have h1:=congrArg (·[k]?) HG.out.1
       simp only[List.getElem?_map,hgk,hf,Option.map_some]at h1
       exact Option.some.inj h1
      have e2:gk.byt=f.byt:=congrArg (·.2.2) hsaid
      obtain⟨q,hqp,hqc,hq2,_⟩:=HRM.out.row k gk hgk
      obtain⟨q',hqp',hqb⟩:=HLS.out.rest k gk (Nat.le_refl _) hgk
      rw[hqp]at hqp'
      cases hqp'
      obtain⟨pp,cc,e9,hr8⟩:=HR6.out.row
      injection e9 with ea eb ec
      subst ea
      obtain⟨g8,e8,hr9⟩:=hr8 k gk hgk
      subst e8
      have hg8S:¬RoomyB G g8:=λhq=>by
       obtain⟨_,_,cs,hb⟩:=HG.out.2.2.2.blk hq
       obtain⟨_,cur,hb2⟩:=row_blk HG.out.2.2.1 (g:=g8) rfl
       exact hb.ne hb2 (by decide) rfl
      have r8:wr.cell? ⟨g8,k*3+2,none⟩=some (.slice (some ⟨q,0,none⟩) f.byt.length (f.byt.length+2)):=by
       have h1:=hr9 2 _ rfl
       rw[hqp,hqc,e2]at h1
       exact(HLS.out.keep.cell ⟨g8,k*3+2,none⟩ (World.block_lt_of_cell? _ _ h1) hg8S).trans h1
      have x5:wr.cell? ⟨xb,5,none⟩=some (.slice (some ⟨g,o,none⟩) F.length cap):=by
       have h1:=(HXR.out.bel H6.out).cell 5
       exact(HLS.out.keep.cell ⟨xb,5,none⟩ (HXR.out.bel H6.out).lt HXS.out).trans h1
      have r2:wr.cell? ⟨g,o+k*3+2,none⟩=some (.slice f.p f.byt.length f.cap):=by
       have h1:=cell_bel (HK.out.tr HLB.out) (hran 2 _ rfl)
       exact(HLS.out.keep.cell ⟨g,o+k*3+2,none⟩ (World.block_lt_of_cell? _ _ h1) (HNS.out g hgx)).trans h1
      have kd:Bel wr wr.drew:=Bel.drew (Bel.refl _)
      have hbs:BS wr f.p f.byt:=((HS.out f hmem).1.bel (HK.out.tr HLB.out)).keep_at0 HLS.out.keep λh0 b o hb=>HNS.out b ((HS.out f hmem).2.2.2.2 h0 b o hb)
      have HST:=xh (still_any q f.p f.cap f.byt wr.drew (by rw[←e2];exact hqb.bel kd) (hbs.bel kd) (HS.out f hmem).2.1)
      have HNX:=xh λW (h:Keep (λx=>x=q) wr W)=>HLS.out.next HRM.out hgk hqp h
      have hk0:(0:Int)≤(k:Int):=by omega
      have hkl:(k:Int)<(F.length:Int):=by omega
      clear hran hgx hkG hgk hgk2 hsaid e2 hqp hqc hq2 hqb eb ec hr8 hr9 hg8S kd hbs hmem hff
      go_upto_region 19 with fail
      go_still_tail 11,(by kernel_rfl)
      change wpList _ _ _ _ _ wr.drew
      go_wp2_with (go_at_call 17;((with_reducible refine Calls.mono HST.out ?_);rintro e4 w7 ⟨rfl,k7⟩;have H7:=xh k7;clear k7))
      go_roundw
      case rel=>exact⟨k+1,by omega,by go_num,xh (HNX.out _ ((Keep.of_bel _ (Bel.drew (Bel.refl _))).tr H7.out))⟩
      case measure=>simp[intOf]<;>omega
     ·obtain rfl:k=F.length:=by omega
      have hkp:=HLS.out.keep
      have hE:∀i u,(w6.cell? ⟨xb,i,none⟩=some u)→wr.cell? ⟨xb,i,none⟩=some u:=λi u h=>(hkp.cell ⟨xb,i,none⟩ (HXR.out.bel H6.out).lt HXS.out).trans h
      have B6:=HXR.out.bel H6.out
      have x0:wr.cell? ⟨xb,0,none⟩=some (.int .i64 l.a):=hE 0 _ (B6.cell 0)
      have x1:wr.cell? ⟨xb,1,none⟩=some (.int .i64 l.b):=hE 1 _ (B6.cell 1)
      have x2:wr.cell? ⟨xb,2,none⟩=some (.int .i64 l.c):=hE 2 _ (B6.cell 2)
      have x3:wr.cell? ⟨xb,3,none⟩=some (.int .i64 l.d):=hE 3 _ (B6.cell 3)
      have x4:wr.cell? ⟨xb,4,none⟩=some (.int .i64 l.e):=hE 4 _ (B6.cell 4)
      have hbE:Bel w wr:=Below.trans (HK.out.tr HLB.out) (hkp.below _ (HK.out.tr HLB.out).size λq hq=>by
       have h1:=(HRM.out.blk hq).1
       rw[HXB.out]
       omega)
      have HKP:=xh hkp
      have HBE:=xh hbE
      have HBD2:=xh λW hW=>HBD.out w6 wr W H6.out hkp hW
      clear hE B6 hkp hbE
      go_upto_region 24 with(go_at_call 18;((with_reducible refine Calls.mono (HBD2.out _ (Bel.start wr _)) ?_);rintro e5 w8 ⟨k8,rb,rfl,hrb,hdk⟩;have H8:=xh (And.intro ((Bel.start wr _).tr k8) (And.intro hdk hrb));clear k8 hrb hdk))
      go_wp2_with (go_at_call 19;((with_reducible refine Calls.mono (num_same _ _) ?_);rintro e6 w9 ⟨rfl,rfl⟩))
      go_ret3
      have hpk:=((H5.out.2.2.2.2.bel K6.out).keep HKP.out λq hq=>by
       obtain⟨_,h2,_⟩:=HG.out.2.2.2.blk hq
       exact⟨h2,(HRM.out.blk hq).2.2⟩).same HG.out.1
      have htk:=(H5.out.2.2.2.1.bel K6.out).keep HKP.out λhq=>by
       obtain⟨_,_,cs,hb⟩:=HRM.out.blk hq
       exact(H5.out.2.2.2.1.bel K6.out).ne hb (by decide) rfl
      refine⟨(HBE.out.tr H8.out.1).tr (Bel.start _ _),λh=>absurd H0.out h,λ_=>⟨_,tk,kb,rb,rfl,Blk.new _ _ _,((htk.bel H8.out.1).bel (Bel.start _ _)),(((hpk.bel H8.out.1).bel (Bel.start _ _)).base ?_),H8.out.2.1.bel (Bel.start _ _),Nat.le_trans (HBE.out.tr (Bel.start wr _)).size H8.out.2.2⟩⟩
      exact Nat.le_trans HK.out.size HL.out.bel.size
   ·have HBT:=xh (hbt.mono λe w' k=>And.intro k.1 (k.2.1 h0))
    have HBD:=xh λ(w6 wE W:World) (h1:Bel wz w6) (h2:Keep (RoomyB G) w6 wE) (h3:Bel wE W)=>(bootD_any l F u5 u6 u7 W (HROWS.out w6 wE W h1 h2 h3)).mono λe w' k=>And.intro k.1 (k.2.1 h0)
    obtain⟨ec,hec⟩:∃ec:Nat,bootE l F=ec:=⟨_,rfl⟩
    rw[hec]at HBT HBD h0
    have hne:((ec:Int) != 0)=true:=bne_iff_ne.2 (by omega)
    have heq:((ec:Int) != (ec:Int))=false:=bne_self_eq_false _
    have H0:=xh h0
    have HEC:=xh hec
    simp only[limC]at HBD
    clear hbt h0 hec
    go_upto_region 15 with(go_at_call 6;((with_reducible refine Calls.mono HBT.out ?_);rintro e2 w5 ⟨k5,rfl⟩;have H5:=xh k5;clear k5))
    go_upto_region 16 with(go_at_call 8;((with_reducible refine Calls.mono (tell_errN _ _ (HE.out _ H5.out)) ?_);rintro e3 w6 ⟨rfl,k6⟩;have H6:=xh (H5.out.tr k6);have K6:=xh k6;clear k6))
    have hrm6:Roomy w6 w2.heap.size G:=HG.out.2.2.2.to λ_ _ hb=>hb.bel H6.out
    have HRM:=xh hrm6
    have HR6:Hid (FListP w6 G (.slice p8 F.length c8)):=xh (flistP_of HG.out.1 HL0.out (λf hf=>⟨(HS.out f hf).1.1,(HS.out f hf).2.1,(HS.out f hf).2.2.1⟩) (by rw[HG.out.2.1];exact row_bel HG.out.2.2.1 H6.out) hrm6)
    have hlb6:Bel w2 w6:=HL.out.bel.tr H6.out
    have HLB:=xh hlb6
    have hnS:∀b,b<xb→¬RoomyB G b:=λb hb hq=>by
     have:=(HRM.out.blk hq).1
     omega
    have HNS:=xh hnS
    have hxS:¬RoomyB G xb:=λhq=>by
     have:=(HRM.out.blk hq).1
     omega
    have HXS:=xh hxS
    clear x0 x1 x2 x3 x4 x5 hrm6 hlb6 hnS hxS
    go_upto_region 17 with fail
    go_loopw [15] (λi wq=>∃k:Nat,k≤F.length∧i=.int .i64 k∧Hid (LoopS w6 w2.heap.size G k wq)) (λi _=>F.length-(intOf i).toNat)
    case atStart=>exact⟨0,Nat.zero_le _,rfl,xh (LoopS.start HRM.out)⟩
    case round=>
     obtain⟨k,hk,rfl,HLS⟩:=hrel
     by_cases hlt:k<F.length
     ·have hf:=List.getElem?_eq_getElem hlt
      obtain⟨f,hff⟩:∃f,F[k]=f:=⟨_,rfl⟩
      rw[hff]at hf
      have hmem:f∈F:=List.mem_iff_getElem?.2 ⟨k,hf⟩
      obtain⟨g,o,rfl,hran⟩:=HR.out k f hf
      have hgx:g<xb:=by
       have h2:=World.block_lt_of_cell? _ _ (hran 2 _ rfl)
       rw[HXB.out]at h2
       exact h2
      have hkG:k<G.length:=by rw[HG.out.2.1];exact hlt
      have hgk:=List.getElem?_eq_getElem hkG
      obtain⟨gk,hgk2⟩:∃gk,G[k]=gk:=⟨_,rfl⟩
      rw[hgk2]at hgk
      have hsaid:gk.said=f.said:=by
       have h1:=congrArg (·[k]?) HG.out.1
       simp only[List.getElem?_map,hgk,hf,Option.map_some]at h1
       exact Option.some.inj h1
      have e2:gk.byt=f.byt:=congrArg (·.2.2) hsaid
      obtain⟨q,hqp,hqc,hq2,_⟩:=HRM.out.row k gk hgk
      obtain⟨q',hqp',hqb⟩:=HLS.out.rest k gk (Nat.le_refl _) hgk
      rw[hqp]at hqp'
      cases hqp'
      obtain⟨pp,cc,e9,hr8⟩:=HR6.out.row
      injection e9 with ea eb ec
      subst ea
      obtain⟨g8,e8,hr9⟩:=hr8 k gk hgk
      subst e8
      have hg8S:¬RoomyB G g8:=λhq=>by
       obtain⟨_,_,cs,hb⟩:=HG.out.2.2.2.blk hq
       obtain⟨_,cur,hb2⟩:=row_blk HG.out.2.2.1 (g:=g8) rfl
       exact hb.ne hb2 (by decide) rfl
      have r8:wr.cell? ⟨g8,k*3+2,none⟩=some (.slice (some ⟨q,0,none⟩) f.byt.length (f.byt.length+2)):=by
       have h1:=hr9 2 _ rfl
       rw[hqp,hqc,e2]at h1
       exact(HLS.out.keep.cell ⟨g8,k*3+2,none⟩ (World.block_lt_of_cell? _ _ h1) hg8S).trans h1
      have x5:wr.cell? ⟨xb,5,none⟩=some (.slice (some ⟨g,o,none⟩) F.length cap):=by
       have h1:=(HXR.out.bel H6.out).cell 5
       exact(HLS.out.keep.cell ⟨xb,5,none⟩ (HXR.out.bel H6.out).lt HXS.out).trans h1
      have r2:wr.cell? ⟨g,o+k*3+2,none⟩=some (.slice f.p f.byt.length f.cap):=by
       have h1:=cell_bel (HK.out.tr HLB.out) (hran 2 _ rfl)
       exact(HLS.out.keep.cell ⟨g,o+k*3+2,none⟩ (World.block_lt_of_cell? _ _ h1) (HNS.out g hgx)).trans h1
      have kd:Bel wr wr.drew:=Bel.drew (Bel.refl _)
      have hbs:BS wr f.p f.byt:=((HS.out f hmem).1.bel (HK.out.tr HLB.out)).keep_at0 HLS.out.keep λh0 b o hb=>HNS.out b ((HS.out f hmem).2.2.2.2 h0 b o hb)
      have HST:=xh (still_any q f.p f.cap f.byt wr.drew (by rw[←e2];exact hqb.bel kd) (hbs.bel kd) (HS.out f hmem).2.1)
      have HNX:=xh λW (h:Keep (λx=>x=q) wr W)=>HLS.out.next HRM.out hgk hqp h
      have hk0:(0:Int)≤(k:Int):=by omega
      have hkl:(k:Int)<(F.length:Int):=by omega
      clear hran hgx hkG hgk hgk2 hsaid e2 hqp hqc hq2 hqb eb ec hr8 hr9 hg8S kd hbs hmem hff
      go_upto_region 19 with fail
      go_still_tail 11,(by kernel_rfl)
      change wpList _ _ _ _ _ wr.drew
      go_wp2_with (go_at_call 17;((with_reducible refine Calls.mono HST.out ?_);rintro e4 w7 ⟨rfl,k7⟩;have H7:=xh k7;clear k7))
      go_roundw
      case rel=>exact⟨k+1,by omega,by go_num,xh (HNX.out _ ((Keep.of_bel _ (Bel.drew (Bel.refl _))).tr H7.out))⟩
      case measure=>simp[intOf]<;>omega
     ·obtain rfl:k=F.length:=by omega
      have hkp:=HLS.out.keep
      have hE:∀i u,(w6.cell? ⟨xb,i,none⟩=some u)→wr.cell? ⟨xb,i,none⟩=some u:=λi u h=>(hkp.cell ⟨xb,i,none⟩ (HXR.out.bel H6.out).lt HXS.out).trans h
      have B6:=HXR.out.bel H6.out
      have x0:wr.cell? ⟨xb,0,none⟩=some (.int .i64 l.a):=hE 0 _ (B6.cell 0)
      have x1:wr.cell? ⟨xb,1,none⟩=some (.int .i64 l.b):=hE 1 _ (B6.cell 1)
      have x2:wr.cell? ⟨xb,2,none⟩=some (.int .i64 l.c):=hE 2 _ (B6.cell 2)
      have x3:wr.cell? ⟨xb,3,none⟩=some (.int .i64 l.d):=hE 3 _ (B6.cell 3)
      have x4:wr.cell? ⟨xb,4,none⟩=some (.int .i64 l.e):=hE 4 _ (B6.cell 4)
      have hbE:Bel w wr:=Below.trans (HK.out.tr HLB.out) (hkp.below _ (HK.out.tr HLB.out).size λq hq=>by
       have h1:=(HRM.out.blk hq).1
       rw[HXB.out]
       omega)
      have HKP:=xh hkp
      have HBE:=xh hbE
      have HBD2:=xh λW hW=>HBD.out w6 wr W H6.out hkp hW
      clear hE B6 hkp hbE
      go_upto_region 24 with(go_at_call 18;((with_reducible refine Calls.mono (HBD2.out _ (Bel.start wr _)) ?_);rintro e5 w8 ⟨k8,rfl⟩;have H8:=xh ((Bel.start wr _).tr k8);clear k8))
      go_wp2_with (go_at_call 19;((with_reducible refine Calls.mono (num_same _ _) ?_);rintro e6 w9 ⟨rfl,rfl⟩))
      go_ret3
      exact⟨(HBE.out.tr H8.out).tr (Bel.start _ _),λ_=>⟨_,by rw[HEC.out];rfl⟩,λh=>absurd (HEC.out.symm.trans h) H0.out⟩
end Go.Proofs.YtjdaddmjpicflaaGreatDoor
