/-.-/
import Derived.Test.YtcnjjchlebmfiaaGreatDoorP08
import Derived.Test.YtcnjjchlebmfiaaGreatDoorP14
set_option linter.unusedVariables false
set_option linter.unusedSimpArgs false
set_option maxRecDepth 100000
set_option maxHeartbeats 16000000
namespace Go.Proofs.YtcnjjchlebmfiaaGreatDoor
section
open Go.Proofs.Tryz Go.RowKit Go.MapKept Go.Maps
theorem Qb(kb g o:Nat)(kd a b:Int)(s:ByteArray)(lp dp:Option Addr)(ln lc dn dc:Nat)(i0 i1 i2:Int)(w:World)
 (jk:∀W,Bel w W→Calls prog 272 #[kb,.pointer (g,o),a] W (Z.b (.tuple #[.agg #[i0,i1,i2,(0:Int)],false]) W)) :
 Calls prog 270 #[kb,.pointer (g,o),.agg #[kd,a,b,s,(lp,ln,lc),(dp,dn,dc)]] w (Z.b (.tuple #[(0:Int),(0:Int),(),(13:Int)]) w):=by
 have BX:=Blk.new w [kd,a,b,s,(lp,ln,lc),(dp,dn,dc)] 264;have k1:Bel w (w.alloc (.cells #[kd,a,b,s,(lp,ln,lc),(dp,dn,dc)] 264)):=Bel.start _ _;change Blk (w.alloc (.cells #[kd,a,b,s,(lp,ln,lc),(dp,dn,dc)] 264)) w.heap.size _ _ at BX
 have pQ:=xh jk;clear jk;go_enter func270,ntmps270;go_upto_region 1 with fail
 generalize w.alloc (.cells #[kd,a,b,s,(lp,ln,lc),(dp,dn,dc)] 264)=w1 at *
 obtain⟨bx,hbx⟩:=e_x w.heap.size;rw[hbx]at BX⊢;have x1:=BX.c 1 rfl;have fG:=xh BX;have K1:=xh k1;clear BX k1 hbx;go_upto_region 2 with(go_at_call 272;((with_reducible refine au (pQ.o _ K1.o) ?_);rintro e2 w2 ⟨rfl,k2⟩;have K2:=xh (K1.o.tr k2);have x2:=(fG.o.bel k2).c 2 rfl;clear k2))
 have B3:=Blk.new w2 [i0,i1,i2,(0:Int)] 357;have k3:Bel w2 (w2.alloc (.cells #[i0,i1,i2,(0:Int)] 357)):=Bel.start _ _;change Blk (w2.alloc (.cells #[i0,i1,i2,(0:Int)] 357)) w2.heap.size _ _ at B3
 generalize w2.alloc (.cells #[i0,i1,i2,(0:Int)] 357)=w3 at *
 obtain⟨bo,lY⟩:=e_x w2.heap.size;rw[lY]at B3⊢;have y1:=B3.c 1 rfl;have z2:=aa k3 x2;have K3:=xh (K2.o.tr k3);clear x1 x2 B3 k3 lY;go_wp2_with fail
 refine bodyPost_ret (v:=.tuple #[(0:Int),(0:Int),(),(13:Int)]) (by simp[results,results270,go_sem]) rfl ?_;exact⟨rfl,K3.o⟩
theorem Ip(kb g o:Nat)(kd a b:Int)(s:ByteArray)(lp dp:Option Addr)(ln lc dn dc:Nat)(i0 i1 i2:Int)(w:World)
 (jk:∀W,Bel w W→Calls prog 272 #[kb,.pointer (g,o),a] W (Z.b (.tuple #[.agg #[i0,(3:Int),i2,(0:Int)],true]) W)) :
 Calls prog 270 #[kb,.pointer (g,o),.agg #[kd,a,b,s,(lp,ln,lc),(dp,dn,dc)]] w (Z.b (.tuple #[(0:Int),(0:Int),(),(13:Int)]) w):=by
 have BX:=Blk.new w [kd,a,b,s,(lp,ln,lc),(dp,dn,dc)] 264;have k1:Bel w (w.alloc (.cells #[kd,a,b,s,(lp,ln,lc),(dp,dn,dc)] 264)):=Bel.start _ _;change Blk (w.alloc (.cells #[kd,a,b,s,(lp,ln,lc),(dp,dn,dc)] 264)) w.heap.size _ _ at BX
 have pQ:=xh jk;clear jk;go_enter func270,ntmps270;go_upto_region 1 with fail
 generalize w.alloc (.cells #[kd,a,b,s,(lp,ln,lc),(dp,dn,dc)] 264)=w1 at *
 obtain⟨bx,hbx⟩:=e_x w.heap.size;rw[hbx]at BX⊢;have x1:=BX.c 1 rfl;have fG:=xh BX;have K1:=xh k1;clear BX k1 hbx;go_upto_region 2 with(go_at_call 272;((with_reducible refine au (pQ.o _ K1.o) ?_);rintro e2 w2 ⟨rfl,k2⟩;have K2:=xh (K1.o.tr k2);have x2:=(fG.o.bel k2).c 2 rfl;clear k2))
 have B3:=Blk.new w2 [i0,(3:Int),i2,(0:Int)] 357;have k3:Bel w2 (w2.alloc (.cells #[i0,(3:Int),i2,(0:Int)] 357)):=Bel.start _ _;change Blk (w2.alloc (.cells #[i0,(3:Int),i2,(0:Int)] 357)) w2.heap.size _ _ at B3
 generalize w2.alloc (.cells #[i0,(3:Int),i2,(0:Int)] 357)=w3 at *
 obtain⟨bo,lY⟩:=e_x w2.heap.size;rw[lY]at B3⊢;have y1:=B3.c 1 rfl;have z2:=aa k3 x2;have K3:=xh (K2.o.tr k3);clear x1 x2 B3 k3 lY;go_wp2_with fail
 refine bodyPost_ret (v:=.tuple #[(0:Int),(0:Int),(),(13:Int)]) (by simp[results,results270,go_sem]) rfl ?_;exact⟨rfl,K3.o⟩
theorem Ms(kb g o:Nat)(kd a b:Int)(s:ByteArray)(lp dp:Option Addr)(ln lc dn dc:Nat)(i0 i1 i2:Int)(w:World)(hb:b<0)(hk:i1≠3)
 (jk:∀W,Bel w W→Calls prog 272 #[kb,.pointer (g,o),a] W (Z.b (.tuple #[.agg #[i0,i1,i2,(0:Int)],true]) W)) :
 Calls prog 270 #[kb,.pointer (g,o),.agg #[kd,a,b,s,(lp,ln,lc),(dp,dn,dc)]] w (Z.b (.tuple #[(0:Int),(0:Int),(),(6:Int)]) w):=by
 have BX:=Blk.new w [kd,a,b,s,(lp,ln,lc),(dp,dn,dc)] 264;have k1:Bel w (w.alloc (.cells #[kd,a,b,s,(lp,ln,lc),(dp,dn,dc)] 264)):=Bel.start _ _;change Blk (w.alloc (.cells #[kd,a,b,s,(lp,ln,lc),(dp,dn,dc)] 264)) w.heap.size _ _ at BX
 have pQ:=xh jk;clear jk;have hk3:(i1==3)=false:=bK hk;clear hk;go_enter func270,ntmps270;go_upto_region 1 with fail
 generalize w.alloc (.cells #[kd,a,b,s,(lp,ln,lc),(dp,dn,dc)] 264)=w1 at *
 obtain⟨bx,hbx⟩:=e_x w.heap.size;rw[hbx]at BX⊢;have x1:=BX.c 1 rfl;have fG:=xh BX;have K1:=xh k1;clear BX k1 hbx;go_upto_region 2 with(go_at_call 272;((with_reducible refine au (pQ.o _ K1.o) ?_);rintro e2 w2 ⟨rfl,k2⟩;have K2:=xh (K1.o.tr k2);have x2:=(fG.o.bel k2).c 2 rfl;clear k2))
 have B3:=Blk.new w2 [i0,i1,i2,(0:Int)] 357;have k3:Bel w2 (w2.alloc (.cells #[i0,i1,i2,(0:Int)] 357)):=Bel.start _ _;change Blk (w2.alloc (.cells #[i0,i1,i2,(0:Int)] 357)) w2.heap.size _ _ at B3
 generalize w2.alloc (.cells #[i0,i1,i2,(0:Int)] 357)=w3 at *
 obtain⟨bo,lY⟩:=e_x w2.heap.size;rw[lY]at B3⊢;have y1:=B3.c 1 rfl;have z2:=aa k3 x2;have K3:=xh (K2.o.tr k3);clear x1 x2 B3 k3 lY;go_wp2_with fail
 refine bodyPost_ret (v:=.tuple #[(0:Int),(0:Int),(),(6:Int)]) (by simp[results,results270,go_sem]) rfl ?_;exact⟨rfl,K3.o⟩
theorem Mt(kb g o:Nat)(kd a b:Int)(s:ByteArray)(lp dp:Option Addr)(ln lc dn dc:Nat)(i0 i1 i2:Int)(w:World)(hb:4096<b)(hk:i1≠3)
 (jk:∀W,Bel w W→Calls prog 272 #[kb,.pointer (g,o),a] W (Z.b (.tuple #[.agg #[i0,i1,i2,(0:Int)],true]) W)) :
 Calls prog 270 #[kb,.pointer (g,o),.agg #[kd,a,b,s,(lp,ln,lc),(dp,dn,dc)]] w (Z.b (.tuple #[(0:Int),(0:Int),(),(6:Int)]) w):=by
 have BX:=Blk.new w [kd,a,b,s,(lp,ln,lc),(dp,dn,dc)] 264;have k1:Bel w (w.alloc (.cells #[kd,a,b,s,(lp,ln,lc),(dp,dn,dc)] 264)):=Bel.start _ _;change Blk (w.alloc (.cells #[kd,a,b,s,(lp,ln,lc),(dp,dn,dc)] 264)) w.heap.size _ _ at BX
 have pQ:=xh jk;clear jk;have hk3:(i1==3)=false:=bK hk;have hb0:¬b<0:=by omega
 clear hk;go_enter func270,ntmps270;go_upto_region 1 with fail
 generalize w.alloc (.cells #[kd,a,b,s,(lp,ln,lc),(dp,dn,dc)] 264)=w1 at *
 obtain⟨bx,hbx⟩:=e_x w.heap.size;rw[hbx]at BX⊢;have x1:=BX.c 1 rfl;have fG:=xh BX;have K1:=xh k1;clear BX k1 hbx;go_upto_region 2 with(go_at_call 272;((with_reducible refine au (pQ.o _ K1.o) ?_);rintro e2 w2 ⟨rfl,k2⟩;have K2:=xh (K1.o.tr k2);have x2:=(fG.o.bel k2).c 2 rfl;clear k2))
 have B3:=Blk.new w2 [i0,i1,i2,(0:Int)] 357;have k3:Bel w2 (w2.alloc (.cells #[i0,i1,i2,(0:Int)] 357)):=Bel.start _ _;change Blk (w2.alloc (.cells #[i0,i1,i2,(0:Int)] 357)) w2.heap.size _ _ at B3
 generalize w2.alloc (.cells #[i0,i1,i2,(0:Int)] 357)=w3 at *
 obtain⟨bo,lY⟩:=e_x w2.heap.size;rw[lY]at B3⊢;have y1:=B3.c 1 rfl;have z2:=aa k3 x2;have K3:=xh (K2.o.tr k3);clear x1 x2 B3 k3 lY;go_wp2_with fail
 refine bodyPost_ret (v:=.tuple #[(0:Int),(0:Int),(),(6:Int)]) (by simp[results,results270,go_sem]) rfl ?_;exact⟨rfl,K3.o⟩
theorem lZ:(prog.info? 5).map (λi=>(i.size,i.bytes,(i.zero.map (·.cells.size))))=some (1,1,some 1):=by kernel_rfl
theorem Buf.head{w:World}{p:Option Addr}{n c:Nat}{L:List Int}(h:Buf w (.slice p n c) L)(hn:0<L.length):∃g o x,p=some ⟨g,o,none⟩∧L[0]?=some x∧fP x∧w.cell? ⟨g,o,none⟩=some (.int .u8 x)∧n=L.length:=by
 obtain⟨p',c',e,h1,h2,h3,h4⟩:=h;cases e
 rcases h4 with⟨rfl,rfl⟩|⟨g,o,cs,rfl,hb,_,h6⟩
 ·omega
 ·obtain⟨x,hx⟩:∃x,L[0]?=some x:=⟨_,bP hn⟩
  exact⟨g,o,x,rfl,hx,h3 x (List.mem_of_getElem? hx),by rw[hb.cell];simpa using h6 0 x hx,rfl⟩
theorem take_one{L:List Int}{j:Nat}{x:Int}(h:(L.drop j)[0]?=some x):(L.take (j+1)).map (Value.int .u8)=(L.take j).map (Value.int .u8)++[.int .u8 x]:=by
 rw[List.getElem?_drop,Nat.add_zero]at h;rw[List.take_add_one,h];simp
theorem Cq(kb g o:Nat)(kd a b:Int)(s:ByteArray)(lp dp:Option Addr)(ln lc dn dc:Nat)(i0 i1 i2:Int)(ks:List Value)(v:Value)(w:World)(hB:Blk w kb ks 174)(h9:ks[9]?=some v)(hv:Buf w v [])(hb0:0<b)(hb:b≤4096)
 (jk:∀W,Bel w W→Calls prog 272 #[kb,.pointer (g,o),a] W (Z.b (.tuple #[.agg #[i0,(4:Int),i2,(0:Int)],true]) W)) :
 Calls prog 270 #[kb,.pointer (g,o),.agg #[kd,a,b,s,(lp,ln,lc),(dp,dn,dc)]] w (Z.b (.tuple #[(0:Int),(0:Int),(),(16:Int)]) w):=by
 have BX:=Blk.new w [kd,a,b,s,(lp,ln,lc),(dp,dn,dc)] 264;have k1:Bel w (w.alloc (.cells #[kd,a,b,s,(lp,ln,lc),(dp,dn,dc)] 264)):=Bel.start _ _;change Blk (w.alloc (.cells #[kd,a,b,s,(lp,ln,lc),(dp,dn,dc)] 264)) w.heap.size _ _ at BX
 have pQ:=xh jk;clear jk;obtain⟨vp,vc,rfl,_,_⟩:=hv.slice;have H9:Hid (∀W,Bel w W→W.cell? (kb,9)=some (.slice vp 0 vc)):=xh λW hW=>aa hW (by rw[hB.cell];exact h9);have hb1:¬b<0:=by omega
 have hb2:¬4096<b:=by omega
 clear hB h9 hv;go_enter func270,ntmps270;go_upto_region 1 with fail
 generalize w.alloc (.cells #[kd,a,b,s,(lp,ln,lc),(dp,dn,dc)] 264)=w1 at *
 obtain⟨bx,hbx⟩:=e_x w.heap.size;rw[hbx]at BX⊢;have jZ:Hid (w.heap.size≤bx):=xh (Nat.le_of_eq hbx);have x1:=BX.c 1 rfl;have fG:=xh BX;have K1:=xh k1;clear BX k1 hbx;go_upto_region 2 with(go_at_call 272;((with_reducible refine au (pQ.o _ K1.o) ?_);rintro e2 w2 ⟨rfl,k2⟩;have K2:=xh (K1.o.tr k2);have x2:=(fG.o.bel k2).c 2 rfl;clear k2))
 have B3:=Blk.new w2 [i0,(4:Int),i2,(0:Int)] 357;have k3:Bel w2 (w2.alloc (.cells #[i0,(4:Int),i2,(0:Int)] 357)):=Bel.start _ _;change Blk (w2.alloc (.cells #[i0,(4:Int),i2,(0:Int)] 357)) w2.heap.size _ _ at B3
 generalize w2.alloc (.cells #[i0,(4:Int),i2,(0:Int)] 357)=w3 at *
 obtain⟨bo,lY⟩:=e_x w2.heap.size;rw[lY]at B3⊢;have yC:Hid (w.heap.size≤bo):=xh (by have:=K2.o.size;omega);have y0:=B3.c 0 rfl;have y1:=B3.c 1 rfl;have y2:=B3.c 2 rfl;have z2:=aa k3 x2;have K3:=xh (K2.o.tr k3);clear x1 x2 B3 k3 lY;have c9:=H9.o _ K3.o;go_upto_region 8 with fail
 refine wp_loop_rounds 1 ?_;rw[rounds_succ];go_wp2_with fail
 refine bodyPost_ret (v:=.tuple #[(0:Int),(0:Int),(),(16:Int)]) (by simp[results,results270,go_sem]) rfl ?_;exact⟨rfl,K3.o⟩
def Qc(w:World)(hb:Nat)(T:TypeId)(hs:List Value)(idx:Nat)(v:Value)(L:List Int)(m:Nat)(e:Ending)(w':World):Prop:=
 ∃p c v',e=.returned (.tuple #[.int .i64 m,(0:Int),.slice p m c,(0:Int)])∧w'.ownsRow w.heap.size 5 1 (.slice p m c) m ((L.take m).map (Value.int .u8))∧Blk w' hb (hs.set idx v') T∧Buf w' v' (L.drop m)∧ag v'=ag v∧Keep (λq=>q=hb) w w'
def Mv:Value→Nat | .slice _ n _=>n|_=>0
structure Cr(hb:Nat)(T:TypeId)(hs:List Value)(idx:Nat)(v:Value)(L:List Int)(w3:World)(j:Nat)(v':Value)(p:Option Addr)(c:Nat)(wr:World):Prop where
 blk:Blk wr hb (hs.set idx v') T
 buf:Buf wr v' (L.drop j)
 same:ag v'=ag v
 row:wr.ownsRow w3.heap.size 5 1 (.slice p j c) j ((L.take j).map (Value.int .u8))
 kept:Keep (λq=>q=hb) w3 wr
theorem Cr.first{hb:Nat}{T:TypeId}{hs:List Value}{idx:Nat}{v:Value}{L:List Int}{w:World}(h:Blk w hb hs T)(hv:Buf w v L)(hi:hs[idx]?=some v):Cr hb T hs idx v L w 0 v none 0 w:=by
 refine⟨?_,hv,rfl,World.ownsRow_nil _ _ _ _,Keep.refl _ _⟩;rw[show hs.set idx v=hs from ?_]
 ·exact h
 ·apply List.ext_getElem?
  intro i;by_cases e:idx=i
  ·subst e
   rw[List.getElem?_set_self (bZ hi).1];exact hi.symm
  ·rw[List.getElem?_set_ne e]
theorem Cr.next{hb:Nat}{T:TypeId}{hs:List Value}{idx:Nat}{v:Value}{L:List Int}{w3:World}{j:Nat}{v':Value}{p:Option Addr}{c:Nat}{wr wa:World}{x:Int}(h:Cr hb T hs idx v L w3 j v' p c wr)(hT:T≠5)(hl:hb<w3.heap.size)(hvl:∀g,ag v=some g→g<w3.heap.size)(hx:(L.drop j)[0]?=some x)(hj:0<(L.drop j).length)
 {pa:Option Addr}{ca:Nat}(Ra:wa.ownsRow w3.heap.size 5 1 (.slice pa (j+1) ca) (j+1) ((L.take j).map (Value.int .u8)++[.int .u8 x]))(K:Keep (λq=>(Value.slice p j c).ownBlock=some q) wr wa):Cr hb T hs idx v L w3 (j+1) (bD v' 1) pa ca (wa.setCell (hb,idx) (bD v' 1)):=by
 have hs3:=h.kept.size;have hb1:Blk wa hb (hs.set idx v') T:=h.blk.keep K λe=>by have:=fQ h.row _ e;omega
 have hf1:Buf wa v' (L.drop j):=h.buf.keep K λg hg e=>by
  have:=fQ h.row _ e;have:=hvl g (by rw[←h.same];exact hg);omega
 have K2:=Keep.setCell wa hb idx (bD v' 1);refine⟨?_,?_,(lC _ _).trans h.same,?_,?_⟩
 ·have:=hb1.setCell (o:=idx) (bD v' 1)
  rw[List.set_set]at this;exact this
 ·have:=hf1.drop (n:=1) hj
  rw[List.drop_drop]at this;refine this.keep K2 λg hg=>?_;rw[lC]at hg;exact hf1.ne hb1 hT g hg
 ·rw[take_one hx]
  exact aZ Ra K2 λg hg e=>by have e:g=hb:=e;omega
 ·exact(h.kept.aY K λi hi=>.inr (fQ h.row i hi)).tr K2
theorem Mw(kb g o:Nat)(kd a:Int)(s:ByteArray)(lp dp:Option Addr)(ln lc dn dc:Nat)(i0 i1 i2:Int)(ks:List Value)(v:Value)(L:List Int)(k m:Nat)(w:World)(hB:Blk w kb ks 174)(h9:ks[9]?=some v)(hv:Buf w v L)(hb:k≤4096)(hne:0<L.length∨k=0)(hm:m=min k L.length)
 (jk:∀W,Bel w W→Calls prog 272 #[kb,.pointer (g,o),a] W (Z.b (.tuple #[.agg #[i0,(4:Int),i2,(0:Int)],true]) W)) :
 Calls prog 270 #[kb,.pointer (g,o),.agg #[kd,a,.int .i64 k,s,(lp,ln,lc),(dp,dn,dc)]] w λe w'=>Qc w kb 174 ks 9 v L m e w':=by
 have BX:=Blk.new w [kd,a,.int .i64 k,s,(lp,ln,lc),(dp,dn,dc)] 264;have k1:Bel w (w.alloc (.cells #[kd,a,.int .i64 k,s,(lp,ln,lc),(dp,dn,dc)] 264)):=Bel.start _ _;change Blk (w.alloc (.cells #[kd,a,.int .i64 k,s,(lp,ln,lc),(dp,dn,dc)] 264)) w.heap.size _ _ at BX
 have pQ:=xh jk;clear jk;have hkl:=hB.lt;have Uj:9<ks.length:=(bZ h9).1;have hk0:¬(k:Int)<0:=by omega
 have hk1:¬4096<(k:Int):=by omega
 have hme:(0<m∨k=0)∧m≤k∧m≤L.length∧m≤4096:=by omega
 have jD:=xh (And.intro hme hm);have jE:=xh (And.intro hB (And.intro hv h9));have hvl:∀g,ag v=some g→g<w.heap.size:=λg hg=>by obtain⟨cs,h⟩:=hv.blk hg;exact h.lt
 have Tu:=xh hvl;have hwl:kb<w.heap.size:=hkl;clear hB h9 hv hne hm hme hvl;go_enter func270,ntmps270;go_upto_region 1 with fail
 generalize w.alloc (.cells #[kd,a,.int .i64 k,s,(lp,ln,lc),(dp,dn,dc)] 264)=w1 at *
 obtain⟨bx,hbx⟩:=e_x w.heap.size;rw[hbx]at BX⊢;have jZ:Hid (w.heap.size≤bx):=xh (Nat.le_of_eq hbx);have x1:=BX.c 1 rfl;have fG:=xh BX;have K1:=xh k1;clear BX k1 hbx;go_upto_region 2 with(go_at_call 272;((with_reducible refine au (pQ.o _ K1.o) ?_);rintro e2 w2 ⟨rfl,k2⟩;have K2:=xh (K1.o.tr k2);have x2:=(fG.o.bel k2).c 2 rfl;clear k2))
 have B3:=Blk.new w2 [i0,(4:Int),i2,(0:Int)] 357;have k3:Bel w2 (w2.alloc (.cells #[i0,(4:Int),i2,(0:Int)] 357)):=Bel.start _ _;change Blk (w2.alloc (.cells #[i0,(4:Int),i2,(0:Int)] 357)) w2.heap.size _ _ at B3
 generalize w2.alloc (.cells #[i0,(4:Int),i2,(0:Int)] 357)=w3 at *
 obtain⟨bo,lY⟩:=e_x w2.heap.size;rw[lY]at B3⊢;have yC:Hid (w.heap.size≤bo):=xh (by have:=K2.o.size;omega);have y0:=B3.c 0 rfl;have y1:=B3.c 1 rfl;have y2:=B3.c 2 rfl;have z2:=aa k3 x2;have K3:=xh (K2.o.tr k3);clear x1 x2 B3 k3 lY;have hw3:w.heap.size≤w3.heap.size:=K3.o.size;have Mr:kb<w3.heap.size:=by omega
 have HX:Hid (∀W,Keep (λq=>q=kb) w3 W→W.cell? (bx,2)=some (.int .i64 k)):=xh λW hW=>(hW.cell ⟨bx,2,none⟩ (World.block_lt_of_cell? _ _ z2) (by show ¬bx=kb;have:=jZ.o;omega)).trans z2;go_upto_region 8 with fail
 clear y0 y1 y2 z2
 go_loopw [12] (λout wr=>∃(j:Nat) (v':Value) (p:Option Addr) (c:Nat),j≤m∧out=.slice p j c∧Hid (Cr kb 174 ks 9 v L w3 j v' p c wr)) (λout _=>m-Mv out)
 case atStart=>exact⟨0,v,none,0,Nat.zero_le _,rfl,xh (Cr.first (jE.o.1.bel K3.o) (jE.o.2.1.bel K3.o) jE.o.2.2)⟩
 case round=>
  obtain⟨j,v',po,co,hj,rfl,HI⟩:=hrel;obtain⟨vp,vc,rfl,hvl,Zn⟩:=HI.out.buf.slice;have hdl:(L.drop j).length=L.length-j:=List.length_drop;have c9:wr.cell? (kb,9)=some (.slice vp (L.drop j).length vc):=by rw[HI.out.blk.cell,List.getElem?_set_self Uj]
  have f9:=HI.out.blk.frozen 9;have hkr:kb<wr.heap.size:=HI.out.blk.lt;have z2:=HX.o _ HI.out.kept;obtain⟨⟨hm0,hm1,hm2,hm3⟩,hmm⟩:=jD.o;clear hmm;by_cases hlt:j<m
  ·have hpos:0<(L.drop j).length:=by omega
   have Qd:(0:Int)<((L.drop j).length:Nat):=by omega
   have hjk:(j:Int)<(k:Nat):=by omega
   obtain⟨gb,ob,x,rfl,hx0,hxb,hcx,_⟩:=HI.out.buf.head hpos;have HT:=xh (take_one hx0);have hbk:gb≠kb:=HI.out.buf.ne HI.out.blk (by decide) gb rfl;have HD1:=xh ((HI.out.buf.drop (n:=1) hpos));obtain⟨dl,uX⟩:=e_x ((L.drop j).length);have Iq:=xh uX;rw[uX]at c9 Qd hvl hdl hpos;have HX0:=xh hx0;clear hx0 uX hdl;by_cases hc1:vc=1
   ·have HE:Hid (bD (.slice (some ⟨gb,ob,none⟩) (L.drop j).length vc) 1=.slice (some ⟨gb,ob,none⟩) (dl-1) 0):=xh (by simp[bD,hc1,Iq.o])
    go_wp2_with (first
     | (refine af rfl 59 5 (.tmp 63) rfl [.int .u8 x] rfl underlying59 lZ (by show 0<1;omega) (by show 1≤2^24;omega) ?_;intro w5 B5 K5)
     | (refine aI rfl (.tmp 57) (.tmp 64) 59 rfl underlying59 lZ (by omega) rfl (aB HI.out.row K5) _ 1 1 [.int .u8 x] 5 rfl B5.out rfl (by intro v hv;simp at hv;subst hv;rfl) (by unfold maxLen;omega) (by omega) (by have:=K5.size;have:=HI.out.kept.size;omega) ?_;intro pa ca wa Ra Ka;have Ba:=(HI.out.blk.bel K5).keep Ka (λe=>by have:=fQ HI.out.row _ e;omega);have ca9:wa.cell? (kb,9)=some (.slice (some ⟨gb,ob,none⟩) dl vc):=(by rw[Ba.cell,List.getElem?_set_self Uj,Iq.o]);have fa9:=Ba.frozen 9;have la9:=Ba.lt;have Uk:=xh ((Keep.of_bel _ K5).tr Ka);have Xx:=xh Ra;clear Ra Ka Ba))
    go_roundw
    case rel=>exact⟨j+1,_,_,_,by omega,rfl,xh (by rw[←HE.o];exact HI.out.next (by decide) Mr (λg hg=>Nat.lt_of_lt_of_le (Tu.o g hg) hw3) HX0.o (by rw[Iq.o];omega) Xx.o Uk.o)⟩
    case measure=>simp[Mv]<;>omega
   ·have HE:Hid (bD (.slice (some ⟨gb,ob,none⟩) (L.drop j).length vc) 1=.slice (gb,ob+1) (dl-1) (vc-1)):=xh (by simp[bD,hc1,Iq.o,Addr.add_lit])
    go_wp2_with (first
     | (refine af rfl 59 5 (.tmp 63) rfl [.int .u8 x] rfl underlying59 lZ (by show 0<1;omega) (by show 1≤2^24;omega) ?_;intro w5 B5 K5)
     | (refine aI rfl (.tmp 57) (.tmp 64) 59 rfl underlying59 lZ (by omega) rfl (aB HI.out.row K5) _ 1 1 [.int .u8 x] 5 rfl B5.out rfl (by intro v hv;simp at hv;subst hv;rfl) (by unfold maxLen;omega) (by omega) (by have:=K5.size;have:=HI.out.kept.size;omega) ?_;intro pa ca wa Ra Ka;have Ba:=(HI.out.blk.bel K5).keep Ka (λe=>by have:=fQ HI.out.row _ e;omega);have ca9:wa.cell? (kb,9)=some (.slice (some ⟨gb,ob,none⟩) dl vc):=(by rw[Ba.cell,List.getElem?_set_self Uj,Iq.o]);have fa9:=Ba.frozen 9;have la9:=Ba.lt;have Uk:=xh ((Keep.of_bel _ K5).tr Ka);have Xx:=xh Ra;clear Ra Ka Ba))
    go_roundw
    case rel=>exact⟨j+1,_,_,_,by omega,rfl,xh (by rw[←HE.o];exact HI.out.next (by decide) Mr (λg hg=>Nat.lt_of_lt_of_le (Tu.o g hg) hw3) HX0.o (by rw[Iq.o];omega) Xx.o Uk.o)⟩
    case measure=>simp[Mv]<;>omega
  ·obtain rfl:j=m:=by omega
   have HF:Hid (wr.ownsRow w.heap.size 5 1 (.slice po j co) j ((L.take j).map (Value.int .u8))∧Blk wr kb (ks.set 9 (.slice vp (L.drop j).length vc)) 174∧Buf wr (.slice vp (L.drop j).length vc) (L.drop j)∧ag (.slice vp (L.drop j).length vc)=ag v∧Keep (λq=>q=kb) w wr):=xh ⟨HI.out.row.mono hw3,HI.out.blk,HI.out.buf,HI.out.same,(Keep.of_bel _ K3.o).tr HI.out.kept⟩;have hmm:=jD.o.2;obtain⟨dl,uX⟩:=e_x ((L.drop j).length);rw[uX]at c9 hdl;clear uX;by_cases hz:j=0
   ·have hkz:k=0:=by omega
    have aar:¬(0:Int)<(k:Nat):=by omega
    have hjz:((j:Int)==0)=true:=by simp[hz]
    have hjk:¬(j:Int)<(k:Nat):=by omega
    clear hmm hz hkz hdl;by_cases hd0:0<dl
    ·have hd1:(0:Int)<(dl:Nat):=by omega
     go_wp2_with fail
     refine bodyPost_ret (v:=.tuple #[.int .i64 j,(0:Int),.slice po j co,(0:Int)]) (by simp[results,results270,go_sem]) rfl ?_;exact⟨_,_,_,rfl,HF.o⟩
    ·have hd1:¬(0:Int)<(dl:Nat):=by omega
     go_wp2_with fail
     refine bodyPost_ret (v:=.tuple #[.int .i64 j,(0:Int),.slice po j co,(0:Int)]) (by simp[results,results270,go_sem]) rfl ?_;exact⟨_,_,_,rfl,HF.o⟩
   ·have hjz:((j:Int)==0)=false:=bK (by omega)
    by_cases hd0:0<dl
    ·have hd1:(0:Int)<(dl:Nat):=by omega
     have hjk:¬(j:Int)<(k:Nat):=by omega
     clear hmm hz hdl;go_wp2_with fail
     refine bodyPost_ret (v:=.tuple #[.int .i64 j,(0:Int),.slice po j co,(0:Int)]) (by simp[results,results270,go_sem]) rfl ?_;exact⟨_,_,_,rfl,HF.o⟩
    ·have hd1:¬(0:Int)<(dl:Nat):=by omega
     clear hmm hz hdl;go_wp2_with fail
     refine bodyPost_ret (v:=.tuple #[.int .i64 j,(0:Int),.slice po j co,(0:Int)]) (by simp[results,results270,go_sem]) rfl ?_;exact⟨_,_,_,rfl,HF.o⟩
theorem Cs(kb g o:Nat)(kd a b:Int)(s:ByteArray)(lp dp:Option Addr)(ln lc dn dc:Nat)(i0 i1 i2:Int)(gp n cap r wn:Nat)(cs:List Value)(v:Value)(w:World)(h8:∀W,Keep (λq=>q=gp) w W→W.cell? (kb,8)=some (.slice (gp,0) n cap))(hrn:r<n)(hn:n≤1000)(hB:Blk w gp cs 421)(hi:cs[r*2+1]?=some v)
 (KG:∀W,Bel w W→Calls prog 324 #[kb,i2] W (Z.e (.int .i64 r) W))(Er:∀W,Keep (λq=>q=gp) w W→Calls prog 326 #[kb,i2,(3:Int)] W (Z.e (.int .i64 wn) W))(hv:Buf w v [])(hb0:0<b)(hb:b≤4096)(hw:0<wn)(hwn:wn≤1000)
 (jk:∀W,Bel w W→Calls prog 272 #[kb,.pointer (g,o),a] W (Z.b (.tuple #[.agg #[i0,(2:Int),i2,(0:Int)],true]) W)) :
 Calls prog 270 #[kb,.pointer (g,o),.agg #[kd,a,b,s,(lp,ln,lc),(dp,dn,dc)]] w (Z.b (.tuple #[(0:Int),(0:Int),(),(16:Int)]) w):=by
 have BX:=Blk.new w [kd,a,b,s,(lp,ln,lc),(dp,dn,dc)] 264;have k1:Bel w (w.alloc (.cells #[kd,a,b,s,(lp,ln,lc),(dp,dn,dc)] 264)):=Bel.start _ _;change Blk (w.alloc (.cells #[kd,a,b,s,(lp,ln,lc),(dp,dn,dc)] 264)) w.heap.size _ _ at BX
 have pQ:=xh jk;clear jk;obtain⟨vp,vc,rfl,_,_⟩:=hv.slice;have H9:Hid (∀W,Bel w W→W.cell? (gp,r*2+1)=some (.slice vp 0 vc)):=xh λW hW=>aa hW (by rw[hB.cell];exact hi);have H8:=xh h8;have Tf:=xh KG;have yB:=xh Er;have hb1:¬b<0:=by omega
 have hb2:¬4096<b:=by omega
 have hr0:(0:Int)≤r:=by omega
 have hr1:(r:Int)<n:=by omega
 have hw1:(0:Int)<wn:=by omega
 clear hB hi hv h8 KG Er;go_enter func270,ntmps270;go_upto_region 1 with fail
 generalize w.alloc (.cells #[kd,a,b,s,(lp,ln,lc),(dp,dn,dc)] 264)=w1 at *
 obtain⟨bx,hbx⟩:=e_x w.heap.size;rw[hbx]at BX⊢;have jZ:Hid (w.heap.size≤bx):=xh (Nat.le_of_eq hbx);have x1:=BX.c 1 rfl;have fG:=xh BX;have K1:=xh k1;clear BX k1 hbx;go_upto_region 2 with(go_at_call 272;((with_reducible refine au (pQ.o _ K1.o) ?_);rintro e2 w2 ⟨rfl,k2⟩;have K2:=xh (K1.o.tr k2);have x2:=(fG.o.bel k2).c 2 rfl;clear k2))
 have B3:=Blk.new w2 [i0,(2:Int),i2,(0:Int)] 357;have k3:Bel w2 (w2.alloc (.cells #[i0,(2:Int),i2,(0:Int)] 357)):=Bel.start _ _;change Blk (w2.alloc (.cells #[i0,(2:Int),i2,(0:Int)] 357)) w2.heap.size _ _ at B3
 generalize w2.alloc (.cells #[i0,(2:Int),i2,(0:Int)] 357)=w3 at *
 obtain⟨bo,lY⟩:=e_x w2.heap.size;rw[lY]at B3⊢;have yC:Hid (w.heap.size≤bo):=xh (by have:=K2.o.size;omega);have y0:=B3.c 0 rfl;have y1:=B3.c 1 rfl;have y2:=B3.c 2 rfl;have z2:=aa k3 x2;have K3:=xh (K2.o.tr k3);clear x1 x2 B3 k3 lY;have KE:=xh (Keep.of_bel (λq=>q=gp) K3.o);have c9:=H9.o _ K3.o;have c8:=H8.o _ KE.o;go_upto_region 24 with((go_at_call 324;((with_reducible refine au (Tf.o _ K3.o) ?_);rintro e4 w4 ⟨rfl,rfl⟩)))
 refine wp_loop_rounds 1 ?_;rw[rounds_succ];go_wp2_with ((go_at_call 326;((with_reducible refine au (yB.o _ KE.o) ?_);rintro e5 w5 ⟨rfl,rfl⟩)))
 refine bodyPost_ret (v:=.tuple #[(0:Int),(0:Int),(),(16:Int)]) (by simp[results,results270,go_sem]) rfl ?_;exact⟨rfl,K3.o⟩
theorem Ir(kb g o:Nat)(kd a:Int)(s:ByteArray)(lp dp:Option Addr)(ln lc dn dc:Nat)(i0 i1 i2:Int)(gp n cap r wn:Nat)(cs:List Value)(v:Value)(L:List Int)(k m:Nat)(w:World)(h8:∀W,Keep (λq=>q=gp) w W→W.cell? (kb,8)=some (.slice (gp,0) n cap))(hrn:r<n)(hn:n≤1000)(hB:Blk w gp cs 421)(hi:cs[r*2+1]?=some v)
 (KG:∀W,Bel w W→Calls prog 324 #[kb,i2] W (Z.e (.int .i64 r) W))(Er:∀W,Keep (λq=>q=gp) w W→Calls prog 326 #[kb,i2,(3:Int)] W (Z.e (.int .i64 wn) W))(hv:Buf w v L)(hb:k≤4096)(hne:0<L.length∨wn=0∨k=0)(hm:m=min k L.length)
 (jk:∀W,Bel w W→Calls prog 272 #[kb,.pointer (g,o),a] W (Z.b (.tuple #[.agg #[i0,(2:Int),i2,(0:Int)],true]) W)) :
 Calls prog 270 #[kb,.pointer (g,o),.agg #[kd,a,.int .i64 k,s,(lp,ln,lc),(dp,dn,dc)]] w λe w'=>Qc w gp 421 cs (r*2+1) v L m e w':=by
 have BX:=Blk.new w [kd,a,.int .i64 k,s,(lp,ln,lc),(dp,dn,dc)] 264;have k1:Bel w (w.alloc (.cells #[kd,a,.int .i64 k,s,(lp,ln,lc),(dp,dn,dc)] 264)):=Bel.start _ _;change Blk (w.alloc (.cells #[kd,a,.int .i64 k,s,(lp,ln,lc),(dp,dn,dc)] 264)) w.heap.size _ _ at BX
 have pQ:=xh jk;clear jk;have hkl:=hB.lt;have Uj:r*2+1<cs.length:=(bZ hi).1;have hk0:¬(k:Int)<0:=by omega
 have hk1:¬4096<(k:Int):=by omega
 have hme:(0<m∨wn=0∨k=0)∧m≤k∧m≤L.length∧m≤4096:=by omega
 have jD:=xh (And.intro hme hm);have jE:=xh (And.intro hB (And.intro hv hi));have hvl:∀g,ag v=some g→g<w.heap.size:=λg hg=>by obtain⟨cs,h⟩:=hv.blk hg;exact h.lt
 have Tu:=xh hvl;have H8:=xh h8;have Tf:=xh KG;have yB:=xh Er;have hr0:(0:Int)≤r:=by omega
 have hr1:(r:Int)<n:=by omega
 have hwl:gp<w.heap.size:=hkl;clear hB hi hv hne hm hme hvl h8 KG Er;go_enter func270,ntmps270;go_upto_region 1 with fail
 generalize w.alloc (.cells #[kd,a,.int .i64 k,s,(lp,ln,lc),(dp,dn,dc)] 264)=w1 at *
 obtain⟨bx,hbx⟩:=e_x w.heap.size;rw[hbx]at BX⊢;have jZ:Hid (w.heap.size≤bx):=xh (Nat.le_of_eq hbx);have x1:=BX.c 1 rfl;have fG:=xh BX;have K1:=xh k1;clear BX k1 hbx;go_upto_region 2 with(go_at_call 272;((with_reducible refine au (pQ.o _ K1.o) ?_);rintro e2 w2 ⟨rfl,k2⟩;have K2:=xh (K1.o.tr k2);have x2:=(fG.o.bel k2).c 2 rfl;clear k2))
 have B3:=Blk.new w2 [i0,(2:Int),i2,(0:Int)] 357;have k3:Bel w2 (w2.alloc (.cells #[i0,(2:Int),i2,(0:Int)] 357)):=Bel.start _ _;change Blk (w2.alloc (.cells #[i0,(2:Int),i2,(0:Int)] 357)) w2.heap.size _ _ at B3
 generalize w2.alloc (.cells #[i0,(2:Int),i2,(0:Int)] 357)=w3 at *
 obtain⟨bo,lY⟩:=e_x w2.heap.size;rw[lY]at B3⊢;have yC:Hid (w.heap.size≤bo):=xh (by have:=K2.o.size;omega);have y0:=B3.c 0 rfl;have y1:=B3.c 1 rfl;have y2:=B3.c 2 rfl;have z2:=aa k3 x2;have K3:=xh (K2.o.tr k3);clear x1 x2 B3 k3 lY;have hw3:w.heap.size≤w3.heap.size:=K3.o.size;have Mr:gp<w3.heap.size:=by omega
 have HX:Hid (∀W,Keep (λq=>q=gp) w3 W→W.cell? (bx,2)=some (.int .i64 k)):=xh λW hW=>(hW.cell ⟨bx,2,none⟩ (World.block_lt_of_cell? _ _ z2) (by show ¬bx=gp;have:=jZ.o;omega)).trans z2;have HY:Hid (∀W,Keep (λq=>q=gp) w3 W→W.cell? (bo,2)=some (.int .i64 i2)):=xh λW hW=>(hW.cell ⟨bo,2,none⟩ (World.block_lt_of_cell? _ _ y2) (by show ¬bo=gp;have:=yC.o;omega)).trans y2;go_upto_region 24 with((go_at_call 324;((with_reducible refine au (Tf.o _ K3.o) ?_);rintro e4 w4 ⟨rfl,rfl⟩)))
 clear y0 y1 y2 z2
 go_loopw [12] (λout wr=>∃(j:Nat) (v':Value) (p:Option Addr) (c:Nat),j≤m∧out=.slice p j c∧Hid (Cr gp 421 cs (r*2+1) v L w3 j v' p c wr)) (λout _=>m-Mv out)
 case atStart=>exact⟨0,v,none,0,Nat.zero_le _,rfl,xh (Cr.first (jE.o.1.bel K3.o) (jE.o.2.1.bel K3.o) jE.o.2.2)⟩
 case round=>
  obtain⟨j,v',po,co,hj,rfl,HI⟩:=hrel;obtain⟨vp,vc,rfl,hvl,Zn⟩:=HI.out.buf.slice;have hdl:(L.drop j).length=L.length-j:=List.length_drop;have c9:wr.cell? (gp,r*2+1)=some (.slice vp (L.drop j).length vc):=by rw[HI.out.blk.cell,List.getElem?_set_self Uj]
  have f9:=HI.out.blk.frozen (r*2+1);have hkr:gp<wr.heap.size:=HI.out.blk.lt;have z2:=HX.o _ HI.out.kept;have y2:=HY.o _ HI.out.kept;have KE:=xh ((Keep.of_bel (λq=>q=gp) K3.o).tr HI.out.kept);have c8:=H8.o _ KE.o;obtain⟨⟨hm0,hm1,hm2,hm3⟩,hmm⟩:=jD.o;clear hmm;by_cases hlt:j<m
  ·have hpos:0<(L.drop j).length:=by omega
   have Qd:(0:Int)<((L.drop j).length:Nat):=by omega
   have hjk:(j:Int)<(k:Nat):=by omega
   obtain⟨gb,ob,x,rfl,hx0,hxb,hcx,_⟩:=HI.out.buf.head hpos;have hbk:gb≠gp:=HI.out.buf.ne HI.out.blk (by decide) gb rfl;obtain⟨dl,uX⟩:=e_x ((L.drop j).length);have Iq:=xh uX;rw[uX]at c9 Qd hvl hdl hpos;have HX0:=xh hx0;have aeI:(1:Int)≤dl:=by omega
   have aeJ:(1:Int)≤vc:=by omega
   have hdv:(dl:Int)≤vc:=by omega
   clear hx0 uX hdl;by_cases hc1:vc=1
   ·have HE:Hid (bD (.slice (some ⟨gb,ob,none⟩) (L.drop j).length vc) 1=.slice (some ⟨gb,ob,none⟩) (dl-1) 0):=xh (by simp[bD,hc1,Iq.o])
    go_upto_region 25 with fail
    go_upto_region 26 with(first
     | (at_builtin;refine aI rfl (.tmp 157) (.tmp 168) 59 rfl underlying59 lZ (by omega) rfl (aB HI.out.row K5) _ 1 1 [.int .u8 x] 5 rfl B5.out rfl (by intro v hv;simp at hv;subst hv;rfl) (by unfold maxLen;omega) (by omega) (by have:=K5.size;have:=HI.out.kept.size;omega) ?_;intro pa ca wa Ra Ka;have Ba:=(HI.out.blk.bel K5).keep Ka (λe=>by have:=fQ HI.out.row _ e;omega);have ca9:wa.cell? (gp,r*2+1)=some (.slice (some ⟨gb,ob,none⟩) dl vc):=(by rw[Ba.cell,List.getElem?_set_self Uj,Iq.o]);have fa9:=Ba.frozen (r*2+1);have la9:=Ba.lt;have Uk:=xh ((Keep.of_bel _ K5).tr Ka);have ca8:=H8.o _ ((Keep.of_bel _ K3.o).tr (HI.out.kept.aY Uk.o λi hi=>.inr (fQ HI.out.row i hi)));have Xx:=xh Ra;clear Ra Ka Ba)
     | (refine af rfl 59 5 (.tmp 167) rfl [.int .u8 x] rfl underlying59 lZ (by show 0<1;omega) (by show 1≤2^24;omega) ?_;intro w5 B5 K5))
    go_still_tail 16,(by kernel_rfl)
    change wpList _ _ _ _ _ wa.drew
    go_wp2_with fail
    go_roundw
    case rel=>exact⟨j+1,_,_,_,by omega,rfl,xh (by rw[←HE.o];exact HI.out.next (by decide) Mr (λg hg=>Nat.lt_of_lt_of_le (Tu.o g hg) hw3) HX0.o (by rw[Iq.o];omega) (aB Xx.o (Bel.drew (Bel.refl _))) (Uk.o.tr (Keep.of_bel _ (Bel.drew (Bel.refl _)))))⟩
    case measure=>simp[Mv]<;>omega
   ·have HE:Hid (bD (.slice (some ⟨gb,ob,none⟩) (L.drop j).length vc) 1=.slice (gb,ob+1) (dl-1) (vc-1)):=xh (by simp[bD,hc1,Iq.o,Addr.add_lit])
    go_upto_region 25 with fail
    go_upto_region 26 with(first
     | (at_builtin;refine aI rfl (.tmp 157) (.tmp 168) 59 rfl underlying59 lZ (by omega) rfl (aB HI.out.row K5) _ 1 1 [.int .u8 x] 5 rfl B5.out rfl (by intro v hv;simp at hv;subst hv;rfl) (by unfold maxLen;omega) (by omega) (by have:=K5.size;have:=HI.out.kept.size;omega) ?_;intro pa ca wa Ra Ka;have Ba:=(HI.out.blk.bel K5).keep Ka (λe=>by have:=fQ HI.out.row _ e;omega);have ca9:wa.cell? (gp,r*2+1)=some (.slice (some ⟨gb,ob,none⟩) dl vc):=(by rw[Ba.cell,List.getElem?_set_self Uj,Iq.o]);have fa9:=Ba.frozen (r*2+1);have la9:=Ba.lt;have Uk:=xh ((Keep.of_bel _ K5).tr Ka);have ca8:=H8.o _ ((Keep.of_bel _ K3.o).tr (HI.out.kept.aY Uk.o λi hi=>.inr (fQ HI.out.row i hi)));have Xx:=xh Ra;clear Ra Ka Ba)
     | (refine af rfl 59 5 (.tmp 167) rfl [.int .u8 x] rfl underlying59 lZ (by show 0<1;omega) (by show 1≤2^24;omega) ?_;intro w5 B5 K5))
    go_still_tail 16,(by kernel_rfl)
    change wpList _ _ _ _ _ wa.drew
    go_wp2_with fail
    go_roundw
    case rel=>exact⟨j+1,_,_,_,by omega,rfl,xh (by rw[←HE.o];exact HI.out.next (by decide) Mr (λg hg=>Nat.lt_of_lt_of_le (Tu.o g hg) hw3) HX0.o (by rw[Iq.o];omega) (aB Xx.o (Bel.drew (Bel.refl _))) (Uk.o.tr (Keep.of_bel _ (Bel.drew (Bel.refl _)))))⟩
    case measure=>simp[Mv]<;>omega
  ·obtain rfl:j=m:=by omega
   have HF:Hid (wr.ownsRow w.heap.size 5 1 (.slice po j co) j ((L.take j).map (Value.int .u8))∧Blk wr gp (cs.set (r*2+1) (.slice vp (L.drop j).length vc)) 421∧Buf wr (.slice vp (L.drop j).length vc) (L.drop j)∧ag (.slice vp (L.drop j).length vc)=ag v∧Keep (λq=>q=gp) w wr):=xh ⟨HI.out.row.mono hw3,HI.out.blk,HI.out.buf,HI.out.same,(Keep.of_bel _ K3.o).tr HI.out.kept⟩;have hmm:=jD.o.2;obtain⟨dl,uX⟩:=e_x ((L.drop j).length);rw[uX]at c9 hdl;clear uX;by_cases hz:j=0
   ·have hkz:wn=0∨k=0:=by omega
    have hjz:((j:Int)==0)=true:=by simp[hz]
    have hg:dl=0∨k=0:=by omega
    clear hmm hdl hm0;by_cases hkk:k=0
    ·have aar:¬(0:Int)<(k:Nat):=by omega
     have hjk:¬(j:Int)<(k:Nat):=by omega
     clear hkk hkz hg;by_cases hd0:0<dl
     ·have hd1:(0:Int)<(dl:Nat):=by omega
      clear hz;go_wp2_with ((go_at_call 326;((with_reducible refine au (yB.o _ KE.o) ?_);rintro e5 w5 ⟨rfl,rfl⟩)))
      refine bodyPost_ret (v:=.tuple #[.int .i64 j,(0:Int),.slice po j co,(0:Int)]) (by simp[results,results270,go_sem]) rfl ?_;exact⟨_,_,_,rfl,HF.o⟩
     ·have hd1:¬(0:Int)<(dl:Nat):=by omega
      clear hz;go_wp2_with ((go_at_call 326;((with_reducible refine au (yB.o _ KE.o) ?_);rintro e5 w5 ⟨rfl,rfl⟩)))
      refine bodyPost_ret (v:=.tuple #[.int .i64 j,(0:Int),.slice po j co,(0:Int)]) (by simp[results,results270,go_sem]) rfl ?_;exact⟨_,_,_,rfl,HF.o⟩
    ·have hwz:¬(0:Int)<(wn:Nat):=by omega
     have aar:(0:Int)<(k:Nat):=by omega
     have hd1:¬(0:Int)<(dl:Nat):=by omega
     clear hkk hkz hg hz;go_wp2_with ((go_at_call 326;((with_reducible refine au (yB.o _ KE.o) ?_);rintro e5 w5 ⟨rfl,rfl⟩)))
     refine bodyPost_ret (v:=.tuple #[.int .i64 j,(0:Int),.slice po j co,(0:Int)]) (by simp[results,results270,go_sem]) rfl ?_;exact⟨_,_,_,rfl,HF.o⟩
   ·have hjz:((j:Int)==0)=false:=bK (by omega)
    by_cases hd0:0<dl
    ·have hd1:(0:Int)<(dl:Nat):=by omega
     have hjk:¬(j:Int)<(k:Nat):=by omega
     clear hmm hz hdl hm0;go_wp2_with ((go_at_call 326;((with_reducible refine au (yB.o _ KE.o) ?_);rintro e5 w5 ⟨rfl,rfl⟩)))
     refine bodyPost_ret (v:=.tuple #[.int .i64 j,(0:Int),.slice po j co,(0:Int)]) (by simp[results,results270,go_sem]) rfl ?_;exact⟨_,_,_,rfl,HF.o⟩
    ·have hd1:¬(0:Int)<(dl:Nat):=by omega
     clear hmm hz hdl hm0;go_wp2_with ((go_at_call 326;((with_reducible refine au (yB.o _ KE.o) ?_);rintro e5 w5 ⟨rfl,rfl⟩)))
     refine bodyPost_ret (v:=.tuple #[.int .i64 j,(0:Int),.slice po j co,(0:Int)]) (by simp[results,results270,go_sem]) rfl ?_;exact⟨_,_,_,rfl,HF.o⟩
theorem Mx(kb g o:Nat)(kd a b:Int)(s:ByteArray)(lp dp:Option Addr)(ln lc dn dc:Nat)(i0 i1 i2:Int)(w:World)
 (jk:∀W,Bel w W→Calls prog 272 #[kb,.pointer (g,o),a] W (Z.b (.tuple #[.agg #[i0,i1,i2,(0:Int)],false]) W)) :
 Calls prog 271 #[kb,.pointer (g,o),.agg #[kd,a,b,s,(lp,ln,lc),(dp,dn,dc)]] w (Z.b (.tuple #[(0:Int),(13:Int)]) w):=by
 have BX:=Blk.new w [kd,a,b,s,(lp,ln,lc),(dp,dn,dc)] 264;have k1:Bel w (w.alloc (.cells #[kd,a,b,s,(lp,ln,lc),(dp,dn,dc)] 264)):=Bel.start _ _;change Blk (w.alloc (.cells #[kd,a,b,s,(lp,ln,lc),(dp,dn,dc)] 264)) w.heap.size _ _ at BX
 have pQ:=xh jk;clear jk;go_enter func271,ntmps271;go_upto_region 1 with fail
 generalize w.alloc (.cells #[kd,a,b,s,(lp,ln,lc),(dp,dn,dc)] 264)=w1 at *
 obtain⟨bx,hbx⟩:=e_x w.heap.size;rw[hbx]at BX⊢;have jZ:Hid (w.heap.size≤bx):=xh (Nat.le_of_eq hbx);have x1:=BX.c 1 rfl;have fG:=xh BX;have K1:=xh k1;clear BX k1 hbx;go_upto_region 2 with(go_at_call 272;((with_reducible refine au (pQ.o _ K1.o) ?_);rintro e2 w2 ⟨rfl,k2⟩;have K2:=xh (K1.o.tr k2);have jW:=xh (fG.o.bel k2);clear k2))
 have B3:=Blk.new w2 [i0,i1,i2,(0:Int)] 357;have k3:Bel w2 (w2.alloc (.cells #[i0,i1,i2,(0:Int)] 357)):=Bel.start _ _;change Blk (w2.alloc (.cells #[i0,i1,i2,(0:Int)] 357)) w2.heap.size _ _ at B3
 generalize w2.alloc (.cells #[i0,i1,i2,(0:Int)] 357)=w3 at *
 obtain⟨bo,lY⟩:=e_x w2.heap.size;rw[lY]at B3⊢;have yC:Hid (w.heap.size≤bo):=xh (by have:=K2.o.size;omega);have kH:=xh (jW.o.bel k3);have HB3:=xh B3;have y1:=B3.c 1 rfl;have y2:=B3.c 2 rfl;have x5:=kH.o.c 5 rfl;have K3:=xh (K2.o.tr k3);clear x1 B3 k3 lY;go_wp2_with fail
 go_ret2
 exact⟨rfl,K3.o⟩
theorem Es(kb g o:Nat)(kd a b:Int)(s:ByteArray)(lp dp:Option Addr)(ln lc dn dc:Nat)(i0 i1 i2:Int)(w:World)
 (jk:∀W,Bel w W→Calls prog 272 #[kb,.pointer (g,o),a] W (Z.b (.tuple #[.agg #[i0,(2:Int),i2,(0:Int)],true]) W)) :
 Calls prog 271 #[kb,.pointer (g,o),.agg #[kd,a,b,s,(lp,ln,lc),(dp,dn,dc)]] w (Z.b (.tuple #[(0:Int),(13:Int)]) w):=by
 have BX:=Blk.new w [kd,a,b,s,(lp,ln,lc),(dp,dn,dc)] 264;have k1:Bel w (w.alloc (.cells #[kd,a,b,s,(lp,ln,lc),(dp,dn,dc)] 264)):=Bel.start _ _;change Blk (w.alloc (.cells #[kd,a,b,s,(lp,ln,lc),(dp,dn,dc)] 264)) w.heap.size _ _ at BX
 have pQ:=xh jk;clear jk;go_enter func271,ntmps271;go_upto_region 1 with fail
 generalize w.alloc (.cells #[kd,a,b,s,(lp,ln,lc),(dp,dn,dc)] 264)=w1 at *
 obtain⟨bx,hbx⟩:=e_x w.heap.size;rw[hbx]at BX⊢;have jZ:Hid (w.heap.size≤bx):=xh (Nat.le_of_eq hbx);have x1:=BX.c 1 rfl;have fG:=xh BX;have K1:=xh k1;clear BX k1 hbx;go_upto_region 2 with(go_at_call 272;((with_reducible refine au (pQ.o _ K1.o) ?_);rintro e2 w2 ⟨rfl,k2⟩;have K2:=xh (K1.o.tr k2);have jW:=xh (fG.o.bel k2);clear k2))
 have B3:=Blk.new w2 [i0,(2:Int),i2,(0:Int)] 357;have k3:Bel w2 (w2.alloc (.cells #[i0,(2:Int),i2,(0:Int)] 357)):=Bel.start _ _;change Blk (w2.alloc (.cells #[i0,(2:Int),i2,(0:Int)] 357)) w2.heap.size _ _ at B3
 generalize w2.alloc (.cells #[i0,(2:Int),i2,(0:Int)] 357)=w3 at *
 obtain⟨bo,lY⟩:=e_x w2.heap.size;rw[lY]at B3⊢;have yC:Hid (w.heap.size≤bo):=xh (by have:=K2.o.size;omega);have kH:=xh (jW.o.bel k3);have HB3:=xh B3;have y1:=B3.c 1 rfl;have y2:=B3.c 2 rfl;have x5:=kH.o.c 5 rfl;have K3:=xh (K2.o.tr k3);clear x1 B3 k3 lY;go_wp2_with fail
 go_ret2
 exact⟨rfl,K3.o⟩
theorem yD(kb g o:Nat)(kd a b:Int)(s:ByteArray)(lp dp:Option Addr)(ln lc dn dc:Nat)(i0 i1 i2:Int)(w:World)(hb:4096<dn)(hk:i1≠2)
 (jk:∀W,Bel w W→Calls prog 272 #[kb,.pointer (g,o),a] W (Z.b (.tuple #[.agg #[i0,i1,i2,(0:Int)],true]) W)) :
 Calls prog 271 #[kb,.pointer (g,o),.agg #[kd,a,b,s,(lp,ln,lc),(dp,dn,dc)]] w (Z.b (.tuple #[(0:Int),(6:Int)]) w):=by
 have BX:=Blk.new w [kd,a,b,s,(lp,ln,lc),(dp,dn,dc)] 264;have k1:Bel w (w.alloc (.cells #[kd,a,b,s,(lp,ln,lc),(dp,dn,dc)] 264)):=Bel.start _ _;change Blk (w.alloc (.cells #[kd,a,b,s,(lp,ln,lc),(dp,dn,dc)] 264)) w.heap.size _ _ at BX
 have pQ:=xh jk;clear jk;have hk2:(i1==2)=false:=bK hk;clear hk;have hb1:(4096:Int)<dn:=by omega
 go_enter func271,ntmps271;go_upto_region 1 with fail
 generalize w.alloc (.cells #[kd,a,b,s,(lp,ln,lc),(dp,dn,dc)] 264)=w1 at *
 obtain⟨bx,hbx⟩:=e_x w.heap.size;rw[hbx]at BX⊢;have jZ:Hid (w.heap.size≤bx):=xh (Nat.le_of_eq hbx);have x1:=BX.c 1 rfl;have fG:=xh BX;have K1:=xh k1;clear BX k1 hbx;go_upto_region 2 with(go_at_call 272;((with_reducible refine au (pQ.o _ K1.o) ?_);rintro e2 w2 ⟨rfl,k2⟩;have K2:=xh (K1.o.tr k2);have jW:=xh (fG.o.bel k2);clear k2))
 have B3:=Blk.new w2 [i0,i1,i2,(0:Int)] 357;have k3:Bel w2 (w2.alloc (.cells #[i0,i1,i2,(0:Int)] 357)):=Bel.start _ _;change Blk (w2.alloc (.cells #[i0,i1,i2,(0:Int)] 357)) w2.heap.size _ _ at B3
 generalize w2.alloc (.cells #[i0,i1,i2,(0:Int)] 357)=w3 at *
 obtain⟨bo,lY⟩:=e_x w2.heap.size;rw[lY]at B3⊢;have yC:Hid (w.heap.size≤bo):=xh (by have:=K2.o.size;omega);have kH:=xh (jW.o.bel k3);have HB3:=xh B3;have y1:=B3.c 1 rfl;have y2:=B3.c 2 rfl;have x5:=kH.o.c 5 rfl;have K3:=xh (K2.o.tr k3);clear x1 B3 k3 lY;go_wp2_with fail
 go_ret2
 exact⟨rfl,K3.o⟩
theorem Et(kb g o:Nat)(kd a b:Int)(s:ByteArray)(lp dp:Option Addr)(ln lc dn dc:Nat)(i0 i1 i2:Int)(gp n cap r rn:Nat)(cs:List Value)(v:Value)(L:List Int)(w:World)(h8:∀W,Bel w W→W.cell? (kb,8)=some (.slice (gp,0) n cap))(hrn:r<n)(hn:n≤1000)(hB:Blk w gp cs 421)(hi:cs[r*2+1]?=some v)(hv:Buf w v L)(hL:L.length≤64)(hd4:dn≤4096)
 (KG:∀W,Bel w W→Calls prog 324 #[kb,i2] W (Z.e (.int .i64 r) W))(Er:∀W,Bel w W→Calls prog 326 #[kb,i2,(2:Int)] W (Z.e (.int .i64 rn) W))(hr:rn=0)
 (jk:∀W,Bel w W→Calls prog 272 #[kb,.pointer (g,o),a] W (Z.b (.tuple #[.agg #[i0,(3:Int),i2,(0:Int)],true]) W)) :
 Calls prog 271 #[kb,.pointer (g,o),.agg #[kd,a,b,s,(lp,ln,lc),(dp,dn,dc)]] w (Z.b (.tuple #[(0:Int),(15:Int)]) w):=by
 have BX:=Blk.new w [kd,a,b,s,(lp,ln,lc),(dp,dn,dc)] 264;have k1:Bel w (w.alloc (.cells #[kd,a,b,s,(lp,ln,lc),(dp,dn,dc)] 264)):=Bel.start _ _;change Blk (w.alloc (.cells #[kd,a,b,s,(lp,ln,lc),(dp,dn,dc)] 264)) w.heap.size _ _ at BX
 have pQ:=xh jk;clear jk;obtain⟨vp,vc,rfl,hvl,Zn⟩:=hv.slice;have H9:Hid (∀W,Bel w W→W.cell? (gp,r*2+1)=some (.slice vp L.length vc)):=xh λW hW=>aa hW (by rw[hB.cell];exact hi);have H8:=xh h8;have Tf:=xh KG;have yB:=xh Er;have jE:=xh (And.intro hB (And.intro hv hi));have hr0:(0:Int)≤r:=by omega
 have hr1:(r:Int)<n:=by omega
 have hd5:¬(4096:Int)<dn:=by omega
 clear hB hi hv h8 KG Er;subst hr;go_enter func271,ntmps271;go_upto_region 1 with fail
 generalize w.alloc (.cells #[kd,a,b,s,(lp,ln,lc),(dp,dn,dc)] 264)=w1 at *
 obtain⟨bx,hbx⟩:=e_x w.heap.size;rw[hbx]at BX⊢;have jZ:Hid (w.heap.size≤bx):=xh (Nat.le_of_eq hbx);have x1:=BX.c 1 rfl;have fG:=xh BX;have K1:=xh k1;clear BX k1 hbx;go_upto_region 2 with(go_at_call 272;((with_reducible refine au (pQ.o _ K1.o) ?_);rintro e2 w2 ⟨rfl,k2⟩;have K2:=xh (K1.o.tr k2);have jW:=xh (fG.o.bel k2);clear k2))
 have B3:=Blk.new w2 [i0,(3:Int),i2,(0:Int)] 357;have k3:Bel w2 (w2.alloc (.cells #[i0,(3:Int),i2,(0:Int)] 357)):=Bel.start _ _;change Blk (w2.alloc (.cells #[i0,(3:Int),i2,(0:Int)] 357)) w2.heap.size _ _ at B3
 generalize w2.alloc (.cells #[i0,(3:Int),i2,(0:Int)] 357)=w3 at *
 obtain⟨bo,lY⟩:=e_x w2.heap.size;rw[lY]at B3⊢;have yC:Hid (w.heap.size≤bo):=xh (by have:=K2.o.size;omega);have kH:=xh (jW.o.bel k3);have HB3:=xh B3;have y1:=B3.c 1 rfl;have y2:=B3.c 2 rfl;have x5:=kH.o.c 5 rfl;have K3:=xh (K2.o.tr k3);clear x1 B3 k3 lY;go_wp2_with (go_at_call 326;((with_reducible refine au (yB.o _ K3.o) ?_);rintro e5 w5 ⟨rfl,rfl⟩))
 go_ret2
 exact⟨rfl,K3.o⟩
theorem Ct(kb g o:Nat)(kd a b:Int)(s:ByteArray)(lp dp:Option Addr)(ln lc dn dc:Nat)(i0 i1 i2:Int)(gp n cap r rn:Nat)(cs:List Value)(v:Value)(L:List Int)(w:World)(h8:∀W,Bel w W→W.cell? (kb,8)=some (.slice (gp,0) n cap))(hrn:r<n)(hn:n≤1000)(hB:Blk w gp cs 421)(hi:cs[r*2+1]?=some v)(hv:Buf w v L)(hL:L.length≤64)(hd4:dn≤4096)
 (KG:∀W,Bel w W→Calls prog 324 #[kb,i2] W (Z.e (.int .i64 r) W))(Er:∀W,Bel w W→Calls prog 326 #[kb,i2,(2:Int)] W (Z.e (.int .i64 rn) W))(hr:0<rn)(acB:rn≤1000)(h64:L.length=64)(hdn:0<dn)
 (jk:∀W,Bel w W→Calls prog 272 #[kb,.pointer (g,o),a] W (Z.b (.tuple #[.agg #[i0,(3:Int),i2,(0:Int)],true]) W)) :
 Calls prog 271 #[kb,.pointer (g,o),.agg #[kd,a,b,s,(lp,ln,lc),(dp,dn,dc)]] w (Z.b (.tuple #[(0:Int),(16:Int)]) w):=by
 have BX:=Blk.new w [kd,a,b,s,(lp,ln,lc),(dp,dn,dc)] 264;have k1:Bel w (w.alloc (.cells #[kd,a,b,s,(lp,ln,lc),(dp,dn,dc)] 264)):=Bel.start _ _;change Blk (w.alloc (.cells #[kd,a,b,s,(lp,ln,lc),(dp,dn,dc)] 264)) w.heap.size _ _ at BX
 have pQ:=xh jk;clear jk;obtain⟨vp,vc,rfl,hvl,Zn⟩:=hv.slice;have H9:Hid (∀W,Bel w W→W.cell? (gp,r*2+1)=some (.slice vp L.length vc)):=xh λW hW=>aa hW (by rw[hB.cell];exact hi);have H8:=xh h8;have Tf:=xh KG;have yB:=xh Er;have jE:=xh (And.intro hB (And.intro hv hi));have hr0:(0:Int)≤r:=by omega
 have hr1:(r:Int)<n:=by omega
 have hd5:¬(4096:Int)<dn:=by omega
 clear hB hi hv h8 KG Er;have hrz:((rn:Int)==0)=false:=bK (by omega);have aeK:(0:Int)<dn:=by omega
 rw[h64]at H9;clear h64 hL hvl;go_enter func271,ntmps271;go_upto_region 1 with fail
 generalize w.alloc (.cells #[kd,a,b,s,(lp,ln,lc),(dp,dn,dc)] 264)=w1 at *
 obtain⟨bx,hbx⟩:=e_x w.heap.size;rw[hbx]at BX⊢;have jZ:Hid (w.heap.size≤bx):=xh (Nat.le_of_eq hbx);have x1:=BX.c 1 rfl;have fG:=xh BX;have K1:=xh k1;clear BX k1 hbx;go_upto_region 2 with(go_at_call 272;((with_reducible refine au (pQ.o _ K1.o) ?_);rintro e2 w2 ⟨rfl,k2⟩;have K2:=xh (K1.o.tr k2);have jW:=xh (fG.o.bel k2);clear k2))
 have B3:=Blk.new w2 [i0,(3:Int),i2,(0:Int)] 357;have k3:Bel w2 (w2.alloc (.cells #[i0,(3:Int),i2,(0:Int)] 357)):=Bel.start _ _;change Blk (w2.alloc (.cells #[i0,(3:Int),i2,(0:Int)] 357)) w2.heap.size _ _ at B3
 generalize w2.alloc (.cells #[i0,(3:Int),i2,(0:Int)] 357)=w3 at *
 obtain⟨bo,lY⟩:=e_x w2.heap.size;rw[lY]at B3⊢;have yC:Hid (w.heap.size≤bo):=xh (by have:=K2.o.size;omega);have kH:=xh (jW.o.bel k3);have HB3:=xh B3;have y1:=B3.c 1 rfl;have y2:=B3.c 2 rfl;have x5:=kH.o.c 5 rfl;have K3:=xh (K2.o.tr k3);clear x1 B3 k3 lY;have c9:=H9.o _ K3.o;have c8:=H8.o _ K3.o;go_wp2_with (first|(go_at_call 326;((with_reducible refine au (yB.o _ K3.o) ?_);rintro e5 w5 ⟨rfl,rfl⟩))|(go_at_call 324;((with_reducible refine au (Tf.o _ K3.o) ?_);rintro e4 w4 ⟨rfl,rfl⟩)))
 go_ret2
 exact⟨rfl,K3.o⟩
theorem Iu(kb g o:Nat)(kd a b:Int)(s:ByteArray)(lp dp:Option Addr)(ln lc dn dc:Nat)(i0 i1 i2:Int)(ks:List Value)(v:Value)(L D:List Int)(w:World)(hB:Blk w kb ks 174)(h10:ks[10]?=some v)(hv:Buf w v L)(hD:kY w dp D)(hdn:dn=D.length)(hd4:dn≤4096)(hlen:L.length+D.length≤100000000)
 (jk:∀W,Bel w W→Calls prog 272 #[kb,.pointer (g,o),a] W (Z.b (.tuple #[.agg #[i0,(4:Int),i2,(0:Int)],true]) W)) :
 Calls prog 271 #[kb,.pointer (g,o),.agg #[kd,a,b,s,(lp,ln,lc),(dp,dn,dc)]] w λe w'=>e=.returned (.tuple #[.int .i64 dn,(0:Int)])∧∃v' wa,Blk w' kb (ks.set 10 v') 174∧Buf w' v' (L++D)∧jl w wa v (dV v)∧Keep (λq=>q=kb) wa w'∧(∀g,ag v'=some g→ag v=some g∨w.heap.size≤g):=by
 have BX:=Blk.new w [kd,a,b,s,(lp,ln,lc),(dp,dn,dc)] 264;have k1:Bel w (w.alloc (.cells #[kd,a,b,s,(lp,ln,lc),(dp,dn,dc)] 264)):=Bel.start _ _;change Blk (w.alloc (.cells #[kd,a,b,s,(lp,ln,lc),(dp,dn,dc)] 264)) w.heap.size _ _ at BX
 have pQ:=xh jk;clear jk;obtain⟨vp,vc,rfl,hvl,Zn⟩:=hv.slice;have aeL:10<ks.length:=(bZ h10).1;have hd5:¬(4096:Int)<dn:=by omega
 have jE:=xh (And.intro hB (And.intro hv (And.intro h10 (And.intro hD (And.intro hlen hdn)))));clear hB h10 hv hD hlen hdn;go_enter func271,ntmps271;go_upto_region 1 with fail
 generalize w.alloc (.cells #[kd,a,b,s,(lp,ln,lc),(dp,dn,dc)] 264)=w1 at *
 obtain⟨bx,hbx⟩:=e_x w.heap.size;rw[hbx]at BX⊢;have jZ:Hid (w.heap.size≤bx):=xh (Nat.le_of_eq hbx);have x1:=BX.c 1 rfl;have fG:=xh BX;have K1:=xh k1;clear BX k1 hbx;go_upto_region 2 with(go_at_call 272;((with_reducible refine au (pQ.o _ K1.o) ?_);rintro e2 w2 ⟨rfl,k2⟩;have K2:=xh (K1.o.tr k2);have jW:=xh (fG.o.bel k2);clear k2))
 have B3:=Blk.new w2 [i0,(4:Int),i2,(0:Int)] 357;have k3:Bel w2 (w2.alloc (.cells #[i0,(4:Int),i2,(0:Int)] 357)):=Bel.start _ _;change Blk (w2.alloc (.cells #[i0,(4:Int),i2,(0:Int)] 357)) w2.heap.size _ _ at B3
 generalize w2.alloc (.cells #[i0,(4:Int),i2,(0:Int)] 357)=w3 at *
 obtain⟨bo,lY⟩:=e_x w2.heap.size;rw[lY]at B3⊢;have yC:Hid (w.heap.size≤bo):=xh (by have:=K2.o.size;omega);have kH:=xh (jW.o.bel k3);have HB3:=xh B3;have y1:=B3.c 1 rfl;have y2:=B3.c 2 rfl;have x5:=kH.o.c 5 rfl;have K3:=xh (K2.o.tr k3);clear x1 B3 k3 lY;go_upto_region 40 with fail
 have kd:Bel w w3.drew:=Bel.drew K3.o;have uJ:=xh (jE.o.1.bel kd);have HV:=xh (jE.o.2.1.bel kd);have HM:=xh (jE.o.2.2.2.1.bel kd);have gJ:=xh kd;have GH:=xh (kH.o.bel (Bel.drew (Bel.refl w3)));have c10:w3.cell? (kb,10)=some (.slice vp L.length vc):=by rw[(jE.o.1.bel K3.o).cell];exact jE.o.2.2.1
 have hkl:kb<w3.heap.size:=(jE.o.1.bel K3.o).lt;have hxk:bx≠kb:=kH.o.ne (jE.o.1.bel K3.o) (by decide);have hkx:kb≠bx:=λe=>hxk e.symm;have hxd:=GH.o.c 5 rfl;have HX5:=xh hxd;clear kd y1 y2 hxd;refine wp_region_noPanic ?_;refine wp_region_held_drew (S:=λw'=>w'.cell? ⟨bx,5,none⟩=some (.slice dp dn dc)) (by kernel_rfl) (by(first|(go_keep;done)|assumption|exact HX5.o)) (λhHeld=>?_);refine plan [0,1,2,3,5,6] ?_;repeat refine t0 rfl (by kernel_rfl) (by intro w hw;(try dsimp only at hw);go_simp;with_reducible rfl) (by assumption) (by(try simp only[Act.put,lits]);exact rfl) ?_
 refine aK ?_;refine rd 4 rfl (by kernel_rfl) (λK hK=>?_);go_simp;refine hK.out _ _ (by(first|(go_keep;done)|assumption|exact HX5.o)) (λhH=>?_);clear hK K;(try simp only[Act.put,lits])
 refine rd 7 rfl (by kernel_rfl) (λK hK=>?_);refine ic rfl (.tmp 196) (.tmp 198) rfl (.slice vp L.length vc) dp dc L D rfl (by rw[←jE.o.2.2.2.2.2];rfl) HV.o HM.o jE.o.2.2.2.2.1 ?_;intro v' wa h1 h2 h3 h4;obtain⟨pa,la,bS,rfl⟩:∃pa la bS,v'=.slice pa la bS:=(let ⟨pa,bS,e,_⟩:=h1.slice;⟨pa,_,bS,e⟩);have hba:=uJ.o.keep h2.keep λe=>(HV.o.ne uJ.o (by decide)) _ e rfl;have x5a:=(GH.o.keep h2.keep λe=>(HV.o.ne GH.o (by decide)) _ e rfl).cell 5;have ca:=(show wa.cell? (kb,10)=some (.slice vp L.length vc) by rw[hba.cell];exact jE.o.2.2.1);have fa:=hba.frozen 10;have la2:=hba.lt;have HA:=xh (And.intro h1 (And.intro h2 (And.intro h3 hba)));clear h1 h2 h3 h4 hba;refine hK.out _ _ (by(first|(go_keep;done)|assumption|exact HX5.o)) (λhH=>?_);clear hK K;(try simp only[Act.put,lits])
 refine plan [8,9] ?_;repeat refine t0 rfl (by kernel_rfl) (by intro w hw;(try dsimp only at hw);go_simp;with_reducible rfl) (by assumption) (by(try simp only[Act.put,lits]);exact rfl) ?_
 refine aK ?_;refine rd 10 rfl (by kernel_rfl) (λK hK=>?_);go_simp;refine hK.out _ _ (by(first|(go_keep;done)|assumption|exact HX5.o)) (λhH=>?_);clear hK K;(try simp only[Act.put,lits])
 refine wpAnyH_done (by kernel_rfl) ?_ _;refine NoPanic.normal ?_;go_wp2_with fail
 go_ret2
 exact⟨rfl,_,wa,HA.o.2.2.2.setCell (o:=10) _,HA.o.1.keep (Keep.setCell _ _ _ _) (HA.o.1.ne HA.o.2.2.2 (by decide)),jl.VS gJ.o HA.o.2.1,Keep.setCell _ _ _ _,λg hg=>(HA.o.2.2.1 g hg).imp id λh=>aV gJ.o.size h⟩
theorem yE{w:World}{p:Option Addr}{L:List Int}(h:kY w p L)(n:Nat):kY w p (L.take n):=by
 refine⟨λx hx=>h.1 x (List.mem_of_mem_take hx),λh0=>?_⟩;rw[List.length_take]at h0;obtain⟨g,o,e,cs,hb,hc⟩:=h.2 (by omega);refine⟨g,o,e,cs,hb,λi x hi=>hc i x ?_⟩;rw[List.getElem?_take]at hi;split at hi
 ·exact hi
 ·cases hi
theorem MB(kb g o:Nat)(kd a b:Int)(s:ByteArray)(lp dp:Option Addr)(ln lc dn dc:Nat)(i0 i1 i2:Int)(gp n cap r rn:Nat)(cs:List Value)(v:Value)(L:List Int)(D:List Int)(m:Nat)(w:World)(h8:∀W,Bel w W→W.cell? (kb,8)=some (.slice (gp,0) n cap))(hrn:r<n)(hn:n≤1000)(hB:Blk w gp cs 421)(hi:cs[r*2+1]?=some v)(hv:Buf w v L)(hL:L.length≤64)(hd4:dn≤4096)
 (KG:∀W,Bel w W→Calls prog 324 #[kb,i2] W (Z.e (.int .i64 r) W))(Er:∀W,Bel w W→Calls prog 326 #[kb,i2,(2:Int)] W (Z.e (.int .i64 rn) W))(hkg:kb≠gp)(hr:0<rn)(acB:rn≤1000)(hD:kY w dp D)(hdn:dn=D.length)(hdc:dn≤dc)(hn0:L.length<64∨dn=0)(hm:m=min (64-L.length) dn)
 (jk:∀W,Bel w W→Calls prog 272 #[kb,.pointer (g,o),a] W (Z.b (.tuple #[.agg #[i0,(3:Int),i2,(0:Int)],true]) W)) :
 Calls prog 271 #[kb,.pointer (g,o),.agg #[kd,a,b,s,(lp,ln,lc),(dp,dn,dc)]] w λe w'=>e=.returned (.tuple #[.int .i64 m,(0:Int)])∧∃v',Blk w' gp (cs.set (r*2+1) v') 421∧Buf w' v' (L++D.take m)∧Keep (λq=>q=gp) w w'∧(∀g,ag v'=some g→w.heap.size≤g):=by
 have BX:=Blk.new w [kd,a,b,s,(lp,ln,lc),(dp,dn,dc)] 264;have k1:Bel w (w.alloc (.cells #[kd,a,b,s,(lp,ln,lc),(dp,dn,dc)] 264)):=Bel.start _ _;change Blk (w.alloc (.cells #[kd,a,b,s,(lp,ln,lc),(dp,dn,dc)] 264)) w.heap.size _ _ at BX
 have pQ:=xh jk;clear jk;obtain⟨vp,vc,rfl,hvl,Zn⟩:=hv.slice;have H9:Hid (∀W,Bel w W→W.cell? (gp,r*2+1)=some (.slice vp L.length vc)):=xh λW hW=>aa hW (by rw[hB.cell];exact hi);have H8:=xh h8;have Tf:=xh KG;have yB:=xh Er;have jE:=xh (And.intro hB (And.intro hv hi));have hr0:(0:Int)≤r:=by omega
 have hr1:(r:Int)<n:=by omega
 have hd5:¬(4096:Int)<dn:=by omega
 clear hB hi hv h8 KG Er;have hrz:((rn:Int)==0)=false:=bK (by omega);obtain⟨rm,hrm⟩:∃rm:Nat,L.length+rm=64:=⟨64-L.length,by omega⟩;have hw:IntKind.i64.wrap (64-(L.length:Int))=(rm:Int):=by rw[IntKind.wrap_i64];omega
 have hw2:64-(L.length:Int)=(rm:Int):=by omega
 have aek:rm≤64:=by omega
 have aas:(dn:Int)≤dc:=by omega
 have hlv:(L.length:Int)≤vc:=by omega
 have hml:(D.take m).length=m:=by rw[List.length_take];omega
 have MC:=xh hml;have xz:=xh (And.intro hD hdn);have Eu:=xh hL;have hmr:m≤64:=by omega
 have hmd:m≤dn:=by omega
 have hcase:(0<rm∧dn≤rm∧m=dn)∨(0<rm∧rm<dn∧m=rm)∨(rm=0∧dn=0∧m=0):=by omega
 clear hml hD hdn hL hvl Zn hn0 hm hrm hdc;have HKK:Hid (kb<w.heap.size):=xh (by have:=H8.o w (Bel.refl w);exact World.block_lt_of_cell? _ _ this);go_enter func271,ntmps271;go_upto_region 1 with fail
 generalize w.alloc (.cells #[kd,a,b,s,(lp,ln,lc),(dp,dn,dc)] 264)=w1 at *
 obtain⟨bx,hbx⟩:=e_x w.heap.size;rw[hbx]at BX⊢;have jZ:Hid (w.heap.size≤bx):=xh (Nat.le_of_eq hbx);have x1:=BX.c 1 rfl;have fG:=xh BX;have K1:=xh k1;clear BX k1 hbx;go_upto_region 2 with(go_at_call 272;((with_reducible refine au (pQ.o _ K1.o) ?_);rintro e2 w2 ⟨rfl,k2⟩;have K2:=xh (K1.o.tr k2);have jW:=xh (fG.o.bel k2);clear k2))
 have B3:=Blk.new w2 [i0,(3:Int),i2,(0:Int)] 357;have k3:Bel w2 (w2.alloc (.cells #[i0,(3:Int),i2,(0:Int)] 357)):=Bel.start _ _;change Blk (w2.alloc (.cells #[i0,(3:Int),i2,(0:Int)] 357)) w2.heap.size _ _ at B3
 generalize w2.alloc (.cells #[i0,(3:Int),i2,(0:Int)] 357)=w3 at *
 obtain⟨bo,lY⟩:=e_x w2.heap.size;rw[lY]at B3⊢;have yC:Hid (w.heap.size≤bo):=xh (by have:=K2.o.size;omega);have kH:=xh (jW.o.bel k3);have HB3:=xh B3;have y1:=B3.c 1 rfl;have y2:=B3.c 2 rfl;have x5:=kH.o.c 5 rfl;have K3:=xh (K2.o.tr k3);clear x1 B3 k3 lY;have c9:=H9.o _ K3.o;have c8:=H8.o _ K3.o;rcases hcase with⟨h1,h2,h3⟩|⟨h1,h2,h3⟩|⟨h1,h2,h3⟩
 ·have g1:((rm:Int)==0)=false:=bK (by omega)
  have g2:¬(rm:Int)<dn:=by omega
  have h3:=h3.symm;subst h3;clear h1 h2;go_upto_region 31 with(first|(go_at_call 326;((with_reducible refine au (yB.o _ K3.o) ?_);rintro e5 w5 ⟨rfl,rfl⟩))|(go_at_call 324;((with_reducible refine au (Tf.o _ K3.o) ?_);rintro e4 w4 ⟨rfl,rfl⟩)))
  go_upto_region 38 with(at_builtin;refine nU rfl (.tmp 168) (.tmp 176) rfl (.slice none 0 0) vp vc [] L rfl rfl (Buf.nil _) ((jE.o.2.1.bel K3.o).byt) (by have:=Eu.o;simp;omega) ?_;intro v1 w5 h1 h2 h3 h4;have k5:=h4 none rfl;obtain⟨p1,l1,q1,rfl⟩:∃pa la bS,v1=.slice pa la bS:=(let ⟨pa,bS,e,_⟩:=h1.slice;⟨pa,_,bS,e⟩);have H5:=xh (And.intro h1 (And.intro h3 k5));clear h1 h2 h3 h4 k5)
  have kd:Bel w w5.drew:=Bel.drew (K3.o.tr H5.o.2.2);have uJ:=xh (jE.o.1.bel kd);have HV:=xh (H5.o.1.bel (Bel.drew (Bel.refl w5)));have HM:Hid (kY w5.drew dp (D.take dn)):=xh (yE (xz.o.1.bel kd) dn);have gJ:=xh kd;have GH:=xh (kH.o.bel (Bel.drew H5.o.2.2));have c8:=H8.o _ (K3.o.tr H5.o.2.2);have Wd:=aa H5.o.2.2 x5;have We:w5.drew.cell? (kb,8)=some (.slice (gp,0) n cap):=H8.o _ kd;have Wh:=GH.o.c 5 rfl;have KH:=xh (And.intro We Wh);have uG:Hid (∀g,ag (.slice p1 l1 q1)=some g→w.heap.size≤g):=xh λg hg=>(H5.o.2.1 g hg).elim (λh=>by cases h) λh=>aV K3.o.size h;clear kd y1 y2 We Wh x5;have x5:=Wd;clear Wd;have hkl:kb<w.heap.size:=HKK.o;have uH:gp≠kb:=λe=>hkg e.symm;have hxg:bx≠gp:=kH.o.ne (jE.o.1.bel K3.o) (by decide);have hgx:gp≠bx:=λe=>hxg e.symm;go_region_held_law (λw'=>w'.cell? ⟨kb,8,none⟩=some (.slice (gp,0) n cap)∧w'.cell? ⟨bx,5,none⟩=some (.slice dp dn dc)) (first|(go_keep;done)|assumption|exact KH.o|exact⟨z1,z2⟩) (((refine ic rfl (.tmp 183) (.tmp 187) rfl (.slice p1 l1 q1) dp dc L (D.take dn) rfl (by rw[MC.o];rfl) HV.o HM.o (by rw[MC.o];have:=Eu.o;omega) ?_);intro v' wa h1 h2 h3 h4;obtain⟨pa,la,bS,rfl⟩:∃pa la bS,v'=.slice pa la bS:=(let ⟨pa,bS,e,_⟩:=h1.slice;⟨pa,_,bS,e⟩);have hba:=uJ.o.keep h2.keep λe=>(HV.o.ne uJ.o (by decide)) _ e rfl;have z2:=(GH.o.keep h2.keep λe=>(HV.o.ne GH.o (by decide)) _ e rfl).cell 5;have z1:=(h2.keep.cell ⟨kb,8,none⟩ (Nat.lt_of_lt_of_le HKK.o gJ.o.size) (λe=>absurd (uG.o kb e) (Nat.not_le.2 HKK.o))).trans KH.o.1;have ca:=(show wa.cell? ⟨gp,r*2+1,none⟩=some (.slice vp L.length vc) by rw[hba.cell];exact jE.o.2.2);have fa:=hba.frozen (r*2+1);have la2:=hba.lt;have HA:=xh (And.intro h1 (And.intro h2 (And.intro h3 hba)));clear h1 h2 h3 h4 hba))
  all_goals
   go_wp2_with fail
   go_ret2
   exact⟨rfl,_,HA.o.2.2.2.setCell (o:=r*2+1) _,HA.o.1.keep (Keep.setCell _ _ _ _) (HA.o.1.ne HA.o.2.2.2 (by decide)),((Keep.of_bel _ gJ.o).aY HA.o.2.1.keep λi hi=>.inr (uG.o i hi)).tr (Keep.setCell _ _ _ _),λg hg=>(HA.o.2.2.1 g hg).elim (λh=>uG.o g h) λh=>aV gJ.o.size h⟩
 ·have g1:((rm:Int)==0)=false:=bK (by omega)
  have g2:(rm:Int)<dn:=by omega
  have h3:=h3.symm;subst h3;clear h1 h2;go_upto_region 31 with(first|(go_at_call 326;((with_reducible refine au (yB.o _ K3.o) ?_);rintro e5 w5 ⟨rfl,rfl⟩))|(go_at_call 324;((with_reducible refine au (Tf.o _ K3.o) ?_);rintro e4 w4 ⟨rfl,rfl⟩)))
  go_upto_region 38 with(at_builtin;refine nU rfl (.tmp 168) (.tmp 176) rfl (.slice none 0 0) vp vc [] L rfl rfl (Buf.nil _) ((jE.o.2.1.bel K3.o).byt) (by have:=Eu.o;simp;omega) ?_;intro v1 w5 h1 h2 h3 h4;have k5:=h4 none rfl;obtain⟨p1,l1,q1,rfl⟩:∃pa la bS,v1=.slice pa la bS:=(let ⟨pa,bS,e,_⟩:=h1.slice;⟨pa,_,bS,e⟩);have H5:=xh (And.intro h1 (And.intro h3 k5));clear h1 h2 h3 h4 k5)
  have kd:Bel w w5.drew:=Bel.drew (K3.o.tr H5.o.2.2);have uJ:=xh (jE.o.1.bel kd);have HV:=xh (H5.o.1.bel (Bel.drew (Bel.refl w5)));have HM:Hid (kY w5.drew dp (D.take rm)):=xh (yE (xz.o.1.bel kd) rm);have gJ:=xh kd;have GH:=xh (kH.o.bel (Bel.drew H5.o.2.2));have c8:=H8.o _ (K3.o.tr H5.o.2.2);have Wd:=aa H5.o.2.2 x5;have We:w5.drew.cell? (kb,8)=some (.slice (gp,0) n cap):=H8.o _ kd;have Wh:=GH.o.c 5 rfl;have KH:=xh (And.intro We Wh);have uG:Hid (∀g,ag (.slice p1 l1 q1)=some g→w.heap.size≤g):=xh λg hg=>(H5.o.2.1 g hg).elim (λh=>by cases h) λh=>aV K3.o.size h;clear kd y1 y2 We Wh x5;have x5:=Wd;clear Wd;have hkl:kb<w.heap.size:=HKK.o;have uH:gp≠kb:=λe=>hkg e.symm;have hxg:bx≠gp:=kH.o.ne (jE.o.1.bel K3.o) (by decide);have hgx:gp≠bx:=λe=>hxg e.symm;go_region_held_law (λw'=>w'.cell? ⟨kb,8,none⟩=some (.slice (gp,0) n cap)∧w'.cell? ⟨bx,5,none⟩=some (.slice dp dn dc)) (first|(go_keep;done)|assumption|exact KH.o|exact⟨z1,z2⟩) (((refine ic rfl (.tmp 183) (.tmp 187) rfl (.slice p1 l1 q1) dp dc L (D.take rm) rfl (by rw[MC.o];rfl) HV.o HM.o (by rw[MC.o];have:=Eu.o;omega) ?_);intro v' wa h1 h2 h3 h4;obtain⟨pa,la,bS,rfl⟩:∃pa la bS,v'=.slice pa la bS:=(let ⟨pa,bS,e,_⟩:=h1.slice;⟨pa,_,bS,e⟩);have hba:=uJ.o.keep h2.keep λe=>(HV.o.ne uJ.o (by decide)) _ e rfl;have z2:=(GH.o.keep h2.keep λe=>(HV.o.ne GH.o (by decide)) _ e rfl).cell 5;have z1:=(h2.keep.cell ⟨kb,8,none⟩ (Nat.lt_of_lt_of_le HKK.o gJ.o.size) (λe=>absurd (uG.o kb e) (Nat.not_le.2 HKK.o))).trans KH.o.1;have ca:=(show wa.cell? ⟨gp,r*2+1,none⟩=some (.slice vp L.length vc) by rw[hba.cell];exact jE.o.2.2);have fa:=hba.frozen (r*2+1);have la2:=hba.lt;have HA:=xh (And.intro h1 (And.intro h2 (And.intro h3 hba)));clear h1 h2 h3 h4 hba))
  all_goals
   go_wp2_with fail
   go_ret2
   exact⟨rfl,_,HA.o.2.2.2.setCell (o:=r*2+1) _,HA.o.1.keep (Keep.setCell _ _ _ _) (HA.o.1.ne HA.o.2.2.2 (by decide)),((Keep.of_bel _ gJ.o).aY HA.o.2.1.keep λi hi=>.inr (uG.o i hi)).tr (Keep.setCell _ _ _ _),λg hg=>(HA.o.2.2.1 g hg).elim (λh=>uG.o g h) λh=>aV gJ.o.size h⟩
 ·subst h1
  subst h2;subst h3;have g1:((0:Int)==0)=true:=rfl;go_upto_region 31 with(first|(go_at_call 326;((with_reducible refine au (yB.o _ K3.o) ?_);rintro e5 w5 ⟨rfl,rfl⟩))|(go_at_call 324;((with_reducible refine au (Tf.o _ K3.o) ?_);rintro e4 w4 ⟨rfl,rfl⟩)))
  go_upto_region 38 with(at_builtin;refine nU rfl (.tmp 168) (.tmp 176) rfl (.slice none 0 0) vp vc [] L rfl rfl (Buf.nil _) ((jE.o.2.1.bel K3.o).byt) (by have:=Eu.o;simp;omega) ?_;intro v1 w5 h1 h2 h3 h4;have k5:=h4 none rfl;obtain⟨p1,l1,q1,rfl⟩:∃pa la bS,v1=.slice pa la bS:=(let ⟨pa,bS,e,_⟩:=h1.slice;⟨pa,_,bS,e⟩);have H5:=xh (And.intro h1 (And.intro h3 k5));clear h1 h2 h3 h4 k5)
  have kd:Bel w w5.drew:=Bel.drew (K3.o.tr H5.o.2.2);have uJ:=xh (jE.o.1.bel kd);have HV:=xh (H5.o.1.bel (Bel.drew (Bel.refl w5)));have HM:Hid (kY w5.drew dp (D.take 0)):=xh (yE (xz.o.1.bel kd) 0);have gJ:=xh kd;have GH:=xh (kH.o.bel (Bel.drew H5.o.2.2));have c8:=H8.o _ (K3.o.tr H5.o.2.2);have Wd:=aa H5.o.2.2 x5;have We:w5.drew.cell? (kb,8)=some (.slice (gp,0) n cap):=H8.o _ kd;have Wh:=GH.o.c 5 rfl;have KH:=xh (And.intro We Wh);have uG:Hid (∀g,ag (.slice p1 l1 q1)=some g→w.heap.size≤g):=xh λg hg=>(H5.o.2.1 g hg).elim (λh=>by cases h) λh=>aV K3.o.size h;clear kd y1 y2 We Wh x5;have x5:=Wd;clear Wd;have hkl:kb<w.heap.size:=HKK.o;have uH:gp≠kb:=λe=>hkg e.symm;have hxg:bx≠gp:=kH.o.ne (jE.o.1.bel K3.o) (by decide);have hgx:gp≠bx:=λe=>hxg e.symm;go_region_held_law (λw'=>w'.cell? ⟨kb,8,none⟩=some (.slice (gp,0) n cap)∧w'.cell? ⟨bx,5,none⟩=some (.slice dp 0 dc)) (first|(go_keep;done)|assumption|exact KH.o|exact⟨z1,z2⟩) (((refine ic rfl (.tmp 183) (.tmp 187) rfl (.slice p1 l1 q1) dp dc L (D.take 0) rfl (by rw[MC.o];rfl) HV.o HM.o (by rw[MC.o];have:=Eu.o;omega) ?_);intro v' wa h1 h2 h3 h4;obtain⟨pa,la,bS,rfl⟩:∃pa la bS,v'=.slice pa la bS:=(let ⟨pa,bS,e,_⟩:=h1.slice;⟨pa,_,bS,e⟩);have hba:=uJ.o.keep h2.keep λe=>(HV.o.ne uJ.o (by decide)) _ e rfl;have z2:=(GH.o.keep h2.keep λe=>(HV.o.ne GH.o (by decide)) _ e rfl).cell 5;have z1:=(h2.keep.cell ⟨kb,8,none⟩ (Nat.lt_of_lt_of_le HKK.o gJ.o.size) (λe=>absurd (uG.o kb e) (Nat.not_le.2 HKK.o))).trans KH.o.1;have ca:=(show wa.cell? ⟨gp,r*2+1,none⟩=some (.slice vp L.length vc) by rw[hba.cell];exact jE.o.2.2);have fa:=hba.frozen (r*2+1);have la2:=hba.lt;have HA:=xh (And.intro h1 (And.intro h2 (And.intro h3 hba)));clear h1 h2 h3 h4 hba))
  all_goals
   go_wp2_with fail
   go_ret2
   exact⟨rfl,_,HA.o.2.2.2.setCell (o:=r*2+1) _,HA.o.1.keep (Keep.setCell _ _ _ _) (HA.o.1.ne HA.o.2.2.2 (by decide)),((Keep.of_bel _ gJ.o).aY HA.o.2.1.keep λi hi=>.inr (uG.o i hi)).tr (Keep.setCell _ _ _ _),λg hg=>(HA.o.2.2.1 g hg).elim (λh=>uG.o g h) λh=>aV gJ.o.size h⟩
end
end Go.Proofs.YtcnjjchlebmfiaaGreatDoor
