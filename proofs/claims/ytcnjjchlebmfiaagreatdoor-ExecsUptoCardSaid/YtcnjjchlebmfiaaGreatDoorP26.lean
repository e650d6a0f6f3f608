/-.-/
import Derived.Test.YtcnjjchlebmfiaaGreatDoorP25
set_option linter.all false
set_option maxRecDepth 100000
set_option maxHeartbeats 16000000
namespace Go.Proofs.YtcnjjchlebmfiaaGreatDoor
section
open Go.Proofs.Tryz Go.RowKit Go.MapKept Go.Maps
theorem ND(pv:Value)(u:Int)(w:World):Calls prog 202 #[pv,.int .u64 u,(0:Int)] w (Z.e (.slice none 0 0) w):=by
 go_enter func202,ntmps202;go_wp2_with fail
 go_loopw [7,8] (λv i wr=>v=.slice none 0 0∧i=.int .i64 0∧w=wr) (λ_ _ _=>0)
 case atStart=>exact⟨rfl,rfl,rfl⟩
 case round=>
  obtain⟨rfl,rfl,rfl⟩:=hrel;go_wp2_with fail
  go_ret
  exact⟨rfl,rfl⟩
theorem NF(pv:Value)(u:Int)(p:Option Addr)(c:Nat)(w:World):Calls prog 268 #[pv,.int .u64 u,.slice p 0 c] w (Z.e (.tuple #[]) w):=by
 go_enter func268,ntmps268;go_wp2_with fail
 go_loopw [6] (λi wr=>i=.int .i64 0∧w=wr) (λ_ _=>0)
 case atStart=>exact⟨rfl,rfl⟩
 case round=>
  obtain⟨rfl,rfl⟩:=hrel;go_wp2_with fail
  go_end0
  exact⟨rfl,rfl⟩
theorem XB(pv:Value)(perm:Nat→Option Int)(M:Nat→Int)(A:Nat)(bs:List Int)(b1 o1 c1:Nat)(w:World)(h:Be w pv (ah perm M))(hM:∀a,0≤M a∧M a≤255)(hq:∀n,256≤n→perm n=none)(hq2:∀n p,perm n=some p→0≤p∧p≤7)(hA:A+bs.length≤65536)(hB:jF w b1 o1 bs)(hne:pv.ownBlock≠some b1)(hperm:∀a,A≤a→a<A+bs.length→(perm (a/256)).isSome=true) :
 Calls prog 268 #[pv,.int .u64 A,.slice (b1,o1) bs.length c1] w λe w'=>e=.returned (.tuple #[])∧Be w' pv (ah perm (aW M A bs))∧Keep (λq=>pv.ownBlock=some q) w w':=by
 have hok:∀M',(∀a,0≤M' a∧M' a≤255)→bF (ah perm M'):=λM' hM'=>⟨λn hn=>by unfold ah;rw[hq n hn];rfl,λn p hp=>by
  unfold ah at hp;obtain⟨q,hq3,rfl⟩:=Option.map_eq_some_iff.1 hp;refine⟨by simp,λx hx=>?_,hq2 n q hq3⟩;obtain⟨i,_,rfl⟩:=List.mem_map.1 hx;exact hM' _⟩
 have hby:=hB.byte;have hMk:∀k a,0≤aW M A (bs.take k) a∧aW M A (bs.take k) a≤255:=λk a=>AY hM (λx hx=>hby x (List.mem_of_mem_take hx)) a;have zT:=xh λW k (hW:Be W pv (ah perm (aW M A (bs.take k)))) (hk:k<bs.length)=>JG hW.rd (hok _ (hMk k)) (A+k) (by omega) (hperm (A+k) (by omega) (by omega));have QV:=xh λW k (hW:Be W pv (ah perm (aW M A (bs.take k)))) N (hN:N≤1000000)=>yx pv _ N W hW.rd (hok _ (hMk k)) hN;have HFN:=xh λk (hk:k<bs.length)=>vg (m:=ah perm (aW M A (bs.take k))) (N:=(A+k)/256) (by omega) (by
  obtain⟨p,hp⟩:=Option.isSome_iff_exists.1 (hperm (A+k) (by omega) (by omega));unfold ah;rw[hp];rfl)
 have HPM:=xh hperm;have hpl:=aT (ah perm M);have HB:=xh hB;have nZ:=xh hne;have HH:=xh h;clear h hM hq hq2 hok hby hMk hB hne hperm;go_enter func268,ntmps268;go_wp2_with fail
 go_loopw [6] (λi wr=>∃k:Nat,k≤bs.length∧i=.int .i64 k∧Be wr pv (ah perm (aW M A (bs.take k)))∧Keep (λq=>pv.ownBlock=some q) w wr) (λi _=>bs.length-(intOf i).toNat)
 case atStart=>exact⟨0,Nat.zero_le _,rfl,by
  have:=HH.o
  rwa [show aW M A (bs.take 0)=M from by funext a;unfold aW;rw[if_neg (by simp)]],Keep.refl _ _⟩
 case round=>
  obtain⟨k,hk,rfl,hP,hK⟩:=hrel;by_cases hlt:k<bs.length
  ·obtain⟨kk,g,cap,hfk,hkl,hpv,hcell⟩:=zT.o wr k hP hlt
   obtain⟨k2,hf2,hkn⟩:=HFN.o k hlt;have e2:k2=kk:=by rw[hfk]at hf2;omega
   subst e2;have hfd:=QV.o wr k hP ((A+k)/256) (by omega);rw[hfk]at hfd;have hx:=bT hlt;obtain⟨x,hxx⟩:=e_x (bs[k]);rw[hxx]at hx;have bx:wr.cell? ⟨b1,o1+k,none⟩=some (.int .u8 x):=by
    have h1:=HB.o.cell k hlt;rw[hx]at h1;exact(hK.cell ⟨b1,o1+k,none⟩ (World.block_lt_of_cell? _ _ h1) nZ.o).trans h1
   obtain⟨N,hN⟩:=e_x ((A+k)/256);obtain⟨r,hr2⟩:=e_x ((A+k)%256);have HS:=xh (hP.set (A+k) k2 g cap x hpv hkn (HPM.o _ (by omega) (by omega)));rw[NG M A k bs x hx,hr2]at HS;have hgf:∀o,wr.frozen? ⟨g,o,none⟩=false:=λo=>by
    obtain⟨p',cap',e,hh⟩:=hP;rw[hpv]at e;cases e
    obtain⟨g',cs,e,hb,_⟩:=hh (by omega);cases e
    exact hb.frozen o
   rw[hN]at hfd;rw[hr2]at hcell;have hsum:IntKind.i64.wrap ((A:Int)+(k:Int))=(A:Int)+(k:Int):=by rw[IntKind.wrap_i64];omega
   have hdv:((A:Int)+k)/256=(N:Int):=by omega
   have hmd:((A:Int)+k)%256=(r:Int):=by omega
   have BL:r<256:=by omega
   have hk0:(0:Int)≤k2:=by omega
   have hpn:=lT perm (aW M A (bs.take k)) M;have hk1:(k2:Int)<((ag (ah perm M)).length:Nat):=by rw[←hpn];omega
   rw[hpn]at hpv;obtain⟨y,hy⟩:=e_x (aW M A (bs.take k) (A+k));rw[hy]at hcell;have HF:=xh hfd;have HK:=xh hK;have UQ:=xh hpv;clear hfd hfk hf2 hN hr2 hkl hP hK hx hxx hkn hpn hy;rw[UQ.o]at HF⊢;generalize (ag (ah perm M)).length=pl at *
   go_upto_region 5 with(go_at_call 107;((with_reducible refine aH HF.o ?_);rintro e2 w2 ⟨rfl,rfl⟩))
   have hr0:(0:Int)≤r:=by omega
   have hr1:(r:Int)<256:=by omega
   have htm:((A:Int)+(k:Int)).tmod 256=(r:Int):=by rw[Int.tmod_eq_emod_of_nonneg (by omega)];exact hmd
   go_still_tail 11,(by kernel_rfl)
   change wpList _ _ _ _ _ wr.drew
   go_wp2_with fail
   go_roundw
   case rel=>exact⟨k+1,by omega,by go_num,by
    have h1:=HS.o;rw[UQ.o]at h1;exact h1.keep (Keep.of_bel (λ_=>False) (Bel.drew (Bel.refl _))) (λ_ _ h=>h),by
    have h2:=HK.o;rw[UQ.o]at h2;exact h2.tr (((Keep.setCell wr g _ _).mono λq hq=>by subst hq;rfl).tr (Keep.of_bel _ (Bel.drew (Bel.refl _))))⟩
   case measure=>simp[intOf]<;>omega
  ·obtain rfl:k=bs.length:=by omega
   rw[List.take_length]at hP;have HP:=xh hP;have HK:=xh hK;clear hP hK;go_wp2_with fail
   go_end0
   exact⟨rfl,HP.o,HK.o⟩
structure DPg(w:World)(g o:Nat)(pv:Value)(m:ax):Prop where
 jB:w.cell? (g,o+22)=some pv
 pg:BM w pv m
 ok:bF m
theorem DPg.bel{w w':World}{g o:Nat}{pv:Value}{m:ax}(h:DPg w g o pv m)(k:Bel w w'):DPg w' g o pv m:=⟨af k h.jB,h.pg.bel k,h.ok⟩
section
variable (kb g o:Nat) (kd a b:Int) (s:ByteArray) (lp dp:Option Addr) (ln lc dn dc:Nat) (w:World) (pv:Value)
theorem MP(hb:b<0∨4096<b):Calls prog 197 #[kb,.pointer (some ⟨g,o,none⟩),.agg #[.int .i64 kd,.int .i64 a,.int .i64 b,.string s,.slice lp ln lc,.slice dp dn dc]] w (LZ w 6):=by
 have k1:Bel w (w.alloc (.cells #[.int .i64 kd,.int .i64 a,.int .i64 b,.string s,.slice lp ln lc,.slice dp dn dc] 264)):=Bel.start w _;have HK:=xh k1;clear k1;rcases hb with hb|hb
 all_goals
  go_enter func197,ntmps197;go_wp2
  refine bodyPost_ret (v:=.tuple #[(0:Int),(0:Int),(),(6:Int)]) (by simp[results,results197,go_sem]) rfl ?_;exact⟨rfl,HK.o⟩
theorem RZ(m:ax)(hb0:0≤b)(hb:b≤4096)(h:DPg w g o pv m)(hm:gz m (uA a) b 4=false):Calls prog 197 #[kb,.pointer (some ⟨g,o,none⟩),.agg #[.int .i64 kd,.int .i64 a,.int .i64 b,.string s,.slice lp ln lc,.slice dp dn dc]] w (LZ w 7):=by
 have k1:Bel w (w.alloc (.cells #[.int .i64 kd,.int .i64 a,.int .i64 b,.string s,.slice lp ln lc,.slice dp dn dc] 264)):=Bel.start w _;have jB:=af k1 h.jB;have hgl:=World.block_lt_of_cell? _ _ jB;have HK:=xh k1;have hbb:decide (b<0)=false:=by simpa using hb0
 have Np:decide (4096<b)=false:=by simpa using hb
 have hwu:=lS a;have HM:=xh λW (hW:Bel w W)=>wS pv m (uA a) b 4 W (h.pg.bel hW) h.ok (kQ a) (by omega) (by omega) (by omega);rw[hm]at HM;clear k1 h hm hb0 hb;go_enter func197,ntmps197;go_upto_region 3 with fail
 have BX:Blk (w.alloc (.cells #[.int .i64 kd,.int .i64 a,.int .i64 b,.string s,.slice lp ln lc,.slice dp dn dc] 264)) w.heap.size [.int .i64 kd,.int .i64 a,.int .i64 b,.string s,.slice lp ln lc,.slice dp dn dc] 264:=Blk.new w _ _;have x1:(w.alloc (.cells #[.int .i64 kd,.int .i64 a,.int .i64 b,.string s,.slice lp ln lc,.slice dp dn dc] 264)).cell? (w.heap.size,1)=some (.int .i64 a):=BX.cell 1;have x2:(w.alloc (.cells #[.int .i64 kd,.int .i64 a,.int .i64 b,.string s,.slice lp ln lc,.slice dp dn dc] 264)).cell? (w.heap.size,2)=some (.int .i64 b):=BX.cell 2;have Xr:=BX.lt;clear BX;generalize DC:w.heap.size=qb at *
 generalize w.alloc (.cells #[.int .i64 kd,.int .i64 a,.int .i64 b,.string s,.slice lp ln lc,.slice dp dn dc] 264)=w2 at *
 have DL:=xh λk=>(HM.o (w2.drewN k) (aj HK.o k)).mono λe w' h=>And.intro h.1 h.2.symm;go_quiet ((go_at_call 106;exact Calls.quiet_of_same (DL.o _)))
 have qE:=xh (aj HK.o nq);generalize w2.drewN nq=w3 at *
 go_wp2_with fail
 refine bodyPost_ret (v:=.tuple #[(0:Int),(0:Int),(),(7:Int)]) (by simp[results,results197,go_sem]) rfl ?_;exact⟨rfl,qE.o⟩
def aeI(w:World)(n:Nat)(L:List Value)(e:Ending)(w':World):Prop:=∃v,e=.returned (.tuple #[.int .i64 n,(0:Int),v,(0:Int)])∧w'.ownsRow w.heap.size 5 1 v n L∧Bel w w'
theorem WZ(perm:Nat→Option Int)(M:Nat→Int)(n:Nat)(hbn:b=n)(hb:n≤4096)(h:DPg w g o pv (ah perm M))(hm:gz (ah perm M) (uA a) n 4=true):Calls prog 197 #[kb,.pointer (some ⟨g,o,none⟩),.agg #[.int .i64 kd,.int .i64 a,.int .i64 b,.string s,.slice lp ln lc,.slice dp dn dc]] w (aeI w n ((List.range n).map λi=>.int .u8 (M ((uA a).toNat+i)))):=by
 subst hbn;have k1:Bel w (w.alloc (.cells #[.int .i64 kd,.int .i64 a,.int .i64 n,.string s,.slice lp ln lc,.slice dp dn dc] 264)):=Bel.start w _;have jB:=af k1 h.jB;have hgl:=World.block_lt_of_cell? _ _ jB;have HK:=xh k1;have Np:decide (4096<(n:Int))=false:=by simpa using (by omega:(n:Int)≤4096)
 have hwu:=lS a;have HM:=xh λW (hW:Bel w W)=>wS pv (ah perm M) (uA a) n 4 W (h.pg.bel hW) h.ok (kQ a) (by omega) (by omega) (by omega);rw[hm]at HM;have hpk:∀W,Bel w W→Calls prog 202 #[pv,.int .u64 (uA a),.int .i64 n] W λe w'=>∃v,e=.returned v∧w'.ownsRow w.heap.size 5 1 v n ((List.range n).map λi=>.int .u8 (M ((uA a).toNat+i)))∧Bel W w':=λW hW=>by
  by_cases h0:n=0
  ·subst h0
   exact(ND pv (uA a) W).mono λe w' h=>⟨_,h.1,World.ownsRow_nil _ _ _ _,h.2▸Bel.refl _⟩
  ·obtain⟨h1,h2⟩:=tV hm (kQ a).1 (by omega)
   obtain⟨A,hA⟩:=Int.eq_ofNat_of_zero_le (kQ a).1;rw[hA]at h1 h2⊢;exact(Tq pv perm M A n W (h.pg.bel hW) h.ok (by omega) λx h3 h4=>h2 x (by omega) (by omega)).mono λe w' ⟨v,e1,r,k⟩=>⟨v,e1,r.mono hW.size,k⟩
 have Eg:=xh hpk;clear k1 h hm hb hpk;go_enter func197,ntmps197;go_upto_region 3 with fail
 have BX:Blk (w.alloc (.cells #[.int .i64 kd,.int .i64 a,.int .i64 n,.string s,.slice lp ln lc,.slice dp dn dc] 264)) w.heap.size [.int .i64 kd,.int .i64 a,.int .i64 n,.string s,.slice lp ln lc,.slice dp dn dc] 264:=Blk.new w _ _;have x1:(w.alloc (.cells #[.int .i64 kd,.int .i64 a,.int .i64 n,.string s,.slice lp ln lc,.slice dp dn dc] 264)).cell? (w.heap.size,1)=some (.int .i64 a):=BX.cell 1;have x2:(w.alloc (.cells #[.int .i64 kd,.int .i64 a,.int .i64 n,.string s,.slice lp ln lc,.slice dp dn dc] 264)).cell? (w.heap.size,2)=some (.int .i64 n):=BX.cell 2;have Xr:=BX.lt;clear BX;generalize DC:w.heap.size=qb at *
 generalize w.alloc (.cells #[.int .i64 kd,.int .i64 a,.int .i64 n,.string s,.slice lp ln lc,.slice dp dn dc] 264)=w2 at *
 have DL:=xh λk=>(HM.o (w2.drewN k) (aj HK.o k)).mono λe w' h=>And.intro h.1 h.2.symm;go_quiet ((go_at_call 106;exact Calls.quiet_of_same (DL.o _)))
 have qE:=xh (aj HK.o nq);have kq:=aj (Bel.refl w2) nq;have x1:=af kq x1;have x2:=af kq x2;have jB:=af kq jB;have hgl:=World.block_lt_of_cell? _ _ jB;have Xr:=World.block_lt_of_cell? _ _ x1;clear kq;generalize w2.drewN nq=w3 at *
 go_upto_region 6 with fail
 go_still_tail 9,(by kernel_rfl)
 change wpList _ _ _ _ _ w3.drew
 go_wp2_with (go_at_call 202;with_reducible refine aH (Eg.o _ (qE.o.tr (Bel.drew (Bel.refl _)))) ?_;rintro e4 w4 ⟨v,rfl,hr,hk4⟩;have H4:=xh (And.intro hr ((qE.o.tr (Bel.drew (Bel.refl _))).tr hk4));have x2:w4.cell? (qb,2)=some (.int .i64 n):=af (Bel.tr (Bel.drew (Bel.refl _)) hk4) x2;clear hr hk4)
 refine bodyPost_ret (v:=.tuple #[.int .i64 n,(0:Int),v,(0:Int)]) (by simp[results,results197,go_sem]) rfl ?_;exact⟨_,rfl,DC▸H4.o.1,H4.o.2⟩
theorem MQ(hd:4096<dn)(hd1:dn≤100000000):Calls prog 198 #[kb,.pointer (some ⟨g,o,none⟩),.agg #[.int .i64 kd,.int .i64 a,.int .i64 b,.string s,.slice lp ln lc,.slice dp dn dc]] w (Z.b (.tuple #[(0:Int),(6:Int)]) w):=by
 have k1:Bel w (w.alloc (.cells #[.int .i64 kd,.int .i64 a,.int .i64 b,.string s,.slice lp ln lc,.slice dp dn dc] 264)):=Bel.start w _;have HK:=xh k1;clear k1;go_enter func198,ntmps198;go_wp2
 go_ret2
 exact⟨rfl,HK.o⟩
theorem Sl(m:ax)(hd:dn≤4096)(h:DPg w g o pv m)(hm:gz m (uA a) dn 2=false):Calls prog 198 #[kb,.pointer (some ⟨g,o,none⟩),.agg #[.int .i64 kd,.int .i64 a,.int .i64 b,.string s,.slice lp ln lc,.slice dp dn dc]] w (Z.b (.tuple #[(0:Int),(7:Int)]) w):=by
 have k1:Bel w (w.alloc (.cells #[.int .i64 kd,.int .i64 a,.int .i64 b,.string s,.slice lp ln lc,.slice dp dn dc] 264)):=Bel.start w _;have jB:=af k1 h.jB;have hgl:=World.block_lt_of_cell? _ _ jB;have HK:=xh k1;have Np:decide (4096<(dn:Int))=false:=by simpa using (by omega:(dn:Int)≤4096)
 have hwu:=lS a;have HM:=xh λW (hW:Bel w W)=>wS pv m (uA a) dn 2 W (h.pg.bel hW) h.ok (kQ a) (by omega) (by omega) (by omega);rw[hm]at HM;clear k1 h hm;go_enter func198,ntmps198;go_upto_region 3 with fail
 have BX:Blk (w.alloc (.cells #[.int .i64 kd,.int .i64 a,.int .i64 b,.string s,.slice lp ln lc,.slice dp dn dc] 264)) w.heap.size [.int .i64 kd,.int .i64 a,.int .i64 b,.string s,.slice lp ln lc,.slice dp dn dc] 264:=Blk.new w _ _;have x1:(w.alloc (.cells #[.int .i64 kd,.int .i64 a,.int .i64 b,.string s,.slice lp ln lc,.slice dp dn dc] 264)).cell? (w.heap.size,1)=some (.int .i64 a):=BX.cell 1;have x2:(w.alloc (.cells #[.int .i64 kd,.int .i64 a,.int .i64 b,.string s,.slice lp ln lc,.slice dp dn dc] 264)).cell? (w.heap.size,5)=some (.slice dp dn dc):=BX.cell 5;have Xr:=BX.lt;clear BX;generalize DC:w.heap.size=qb at *
 generalize w.alloc (.cells #[.int .i64 kd,.int .i64 a,.int .i64 b,.string s,.slice lp ln lc,.slice dp dn dc] 264)=w2 at *
 have DL:=xh λk=>(HM.o (w2.drewN k) (aj HK.o k)).mono λe w' h=>And.intro h.1 h.2.symm;go_quiet ((go_at_call 106;exact Calls.quiet_of_same (DL.o _)))
 have qE:=xh (aj HK.o nq);generalize w2.drewN nq=w3 at *
 go_wp2_with fail
 go_ret2
 exact⟨rfl,qE.o⟩
def aeJ(w:World)(n:Nat)(pv:Value)(m:ax)(e:Ending)(w':World):Prop:=e=.returned (.tuple #[.int .i64 n,(0:Int)])∧Be w' pv m∧Keep (λq=>pv.ownBlock=some q) w w'
theorem Xa(perm:Nat→Option Int)(M:Nat→Int)(d:List Int)(hl:d.length=dn)(hd:dn≤4096)(hby:zQ w dp d)(jB:w.cell? (g,o+22)=some pv)(h:Be w pv (ah perm M))(hT:∀q,pv.ownBlock=some q→∃cs,Blk w q cs 260)(hM:∀a,0≤M a∧M a≤255)(hq:∀n,256≤n→perm n=none)(hq2:∀n p,perm n=some p→0≤p∧p≤7)(hm:gz (ah perm M) (uA a) dn 2=true) :
 Calls prog 198 #[kb,.pointer (some ⟨g,o,none⟩),.agg #[.int .i64 kd,.int .i64 a,.int .i64 b,.string s,.slice lp ln lc,.slice dp dn dc]] w (aeJ w dn pv (ah perm (aW M (uA a).toNat d))):=by
 have hok:bF (ah perm M):=⟨λn hn=>by unfold ah;rw[hq n hn];rfl,λn p hp=>by
  unfold ah at hp;obtain⟨q,hq3,rfl⟩:=Option.map_eq_some_iff.1 hp;refine⟨by simp,λx hx=>?_,hq2 n q hq3⟩;obtain⟨i,_,rfl⟩:=List.mem_map.1 hx;exact hM _⟩
 have k1:Bel w (w.alloc (.cells #[.int .i64 kd,.int .i64 a,.int .i64 b,.string s,.slice lp ln lc,.slice dp dn dc] 264)):=Bel.start w _;have jB:=af k1 jB;have hgl:=World.block_lt_of_cell? _ _ jB;have HK:=xh k1;have Np:decide (4096<(dn:Int))=false:=by simpa using (by omega:(dn:Int)≤4096)
 have hwu:=lS a;have HM:=xh λW (hW:Bel w W)=>wS pv (ah perm M) (uA a) dn 2 W ((h.bel hW).rd) hok (kQ a) (by omega) (by omega) (by omega);rw[hm]at HM;have hpk:∀W,Bel w W→Calls prog 268 #[pv,.int .u64 (uA a),.slice dp dn dc] W λe w'=>e=.returned (.tuple #[])∧Be w' pv (ah perm (aW M (uA a).toNat d))∧Keep (λq=>pv.ownBlock=some q) W w':=λW hW=>by
  by_cases h0:dn=0
  ·have hd0:d=[]:=List.length_eq_zero_iff.1 (hl.trans h0)
   subst h0 hd0;refine(NF pv (uA a) dp dc W).mono ?_;rintro e w' ⟨rfl,rfl⟩;have e2:aW M (uA a).toNat []=M:=by funext x;unfold aW;rw[if_neg (by simp)]
   rw[e2];exact⟨rfl,h.bel hW,Keep.refl _ _⟩
  ·obtain⟨h1,h2⟩:=tV hm (kQ a).1 (by omega)
   obtain⟨bt,gd,od,rfl,cs,hB,hcs⟩:=(⟨hby.1,(hby.bel hW).2 (by omega)⟩:(∀x∈d,iR x)∧_);obtain⟨A,hA⟩:=Int.eq_ofNat_of_zero_le (kQ a).1;rw[hA]at h1 h2⊢;have hb1:jF W gd od d:=⟨λi hi=>by rw[hB.cell,hcs i _ (bT hi),bT hi];rfl,bt⟩;have h3:=XB pv perm M A d gd od dc W (h.bel hW) hM hq hq2 (by omega) hb1 (λe=>by obtain⟨cs2,h5⟩:=hT _ e;exact(h5.bel hW).ne hB (by decide) rfl) λx h4 h5=>h2 x (by omega) (by omega);rw[hl]at h3;exact h3
 have Eg:=xh hpk;have HG:Hid (∀q,pv.ownBlock=some q→q<w.heap.size):=xh λq e=>by obtain⟨cs2,h5⟩:=hT _ e;exact h5.lt
 clear k1 h hm hpk hby hok hM hq hq2 hT;go_enter func198,ntmps198;go_upto_region 3 with fail
 have BX:Blk (w.alloc (.cells #[.int .i64 kd,.int .i64 a,.int .i64 b,.string s,.slice lp ln lc,.slice dp dn dc] 264)) w.heap.size [.int .i64 kd,.int .i64 a,.int .i64 b,.string s,.slice lp ln lc,.slice dp dn dc] 264:=Blk.new w _ _;have uy:=xh BX;have x1:(w.alloc (.cells #[.int .i64 kd,.int .i64 a,.int .i64 b,.string s,.slice lp ln lc,.slice dp dn dc] 264)).cell? (w.heap.size,1)=some (.int .i64 a):=BX.cell 1;have x2:(w.alloc (.cells #[.int .i64 kd,.int .i64 a,.int .i64 b,.string s,.slice lp ln lc,.slice dp dn dc] 264)).cell? (w.heap.size,5)=some (.slice dp dn dc):=BX.cell 5;have Xr:=BX.lt;clear BX;generalize DC:w.heap.size=qb at *
 generalize w.alloc (.cells #[.int .i64 kd,.int .i64 a,.int .i64 b,.string s,.slice lp ln lc,.slice dp dn dc] 264)=w2 at *
 have DL:=xh λk=>(HM.o (w2.drewN k) (aj HK.o k)).mono λe w' h=>And.intro h.1 h.2.symm;go_quiet ((go_at_call 106;exact Calls.quiet_of_same (DL.o _)))
 have qE:=xh (aj HK.o nq);have kq:=aj (Bel.refl w2) nq;have x1:=af kq x1;have x2:=af kq x2;have jB:=af kq jB;have yt:=xh (uy.o.bel kq);have hgl:=World.block_lt_of_cell? _ _ jB;have Xr:=World.block_lt_of_cell? _ _ x1;clear kq;generalize w2.drewN nq=w3 at *
 go_upto_region 6 with fail
 go_still_tail 9,(by kernel_rfl)
 change wpList _ _ _ _ _ w3.drew
 go_wp2_with (go_at_call 268;with_reducible refine aH (Eg.o _ (qE.o.tr (Bel.drew (Bel.refl _)))) ?_;rintro e4 w4 ⟨rfl,hB,hk4⟩;have x5:w4.cell? (qb,5)=some (.slice dp dn dc):=(hk4.cell ⟨qb,5,none⟩ (World.block_lt_of_cell? _ _ (af (Bel.drew (Bel.refl w3)) x2)) (λe=>by have e:pv.ownBlock=some qb:=e;have:=HG.o qb e;omega)).trans (af (Bel.drew (Bel.refl w3)) x2);have H4:=xh (And.intro hB ((Keep.of_bel _ (qE.o.tr (Bel.drew (Bel.refl _)))).tr hk4));clear hB hk4)
 go_ret2
 exact⟨rfl,H4.o.1,H4.o.2⟩
end
structure XC(m:ax)(t:Nat)(X Y:List Nat):Prop where
 eq:ag m=X++Y
 lo:∀x∈X,x<t∧x<254
 hi:∀y∈Y,254≤y
 top:(X.getLast?.map (·+ 1)).getD 0=t
 grow:∀k,t+k≤254→ag (dD m t k)=X++(List.range k).map (t + ·)++Y
theorem jf{α β:Type}{f g:α→List β}:∀{l:List α},(∀x∈l,f x=g x)→l.flatMap f=l.flatMap g
 | [],_=>rfl
 | x::l,h=>by rw[List.flatMap_cons,List.flatMap_cons,h x (List.mem_cons_self ..),jf λy hy=>h y (List.mem_cons_of_mem _ hy)]
theorem JH(a b c:Nat)(p:Nat→Bool):(List.range (a+b+c)).filter p=(List.range a).filter p++((List.range b).map (a + ·)).filter p++((List.range c).map (a+b + ·)).filter p:=by
 rw[List.range_add,List.range_add,List.filter_append,List.filter_append]
theorem Jd{m:ax}{t:Nat}(h:kT m t):∃X Y,XC m t X Y:=by
 have ht:=h.le;have key:∀k,t+k≤254→∀(m':ax),(∀n,n<t→m' n=m n)→(∀n,t+k≤n→m' n=m n)→ag m'=(List.range t).filter (λn=>(m n).isSome)++((List.range k).map (t + ·)).filter (λn=>(m' n).isSome)++((List.range 2).map (254 + ·)).filter (λn=>(m n).isSome):=λk hk m' h1 h2=>by
  unfold ag;rw[show 256=t+k+(256-t-k)from by omega,JH];congr 1
  ·congr 1
   apply List.filter_congr
   intro n hn;rw[h1 n (List.mem_range.1 hn)]
  ·rw[show 256-t-k=(254-t-k)+2 from by omega,List.range_add,List.map_append,List.filter_append]
   rw[show(((List.range (254-t-k)).map (t+k + ·)).filter λn=>(m' n).isSome)=[]from List.filter_eq_nil_iff.2 λn hn=>by
    obtain⟨i,hi,rfl⟩:=List.mem_map.1 hn;have hi:=List.mem_range.1 hi;rw[h2 _ (by omega)];intro e;have:=h.1 (t+k+i) (by omega) e;omega]
   rw[List.nil_append,List.map_map];rw[show(List.map ((λx=>t+k+x)∘λx=>254-t-k+x) (List.range 2))=(List.range 2).map (254 + ·)from List.map_congr_left λx _=>by simp only[Function.comp_apply];omega];apply List.filter_congr
   intro n hn;obtain⟨i,hi,rfl⟩:=List.mem_map.1 hn;rw[h2 _ (by omega)]
 refine⟨(List.range t).filter (λn=>(m n).isSome),((List.range 2).map (254 + ·)).filter (λn=>(m n).isSome),?_,λx hx=>?_,λy hy=>?_,?_,λk hk=>?_⟩
 ·have:=key 0 (by omega) m (λ_ _=>rfl) (λ_ _=>rfl)
  rw[this];simp
 ·have:=List.mem_range.1 (List.mem_filter.1 hx).1
  omega
 ·obtain⟨i,_,rfl⟩:=List.mem_map.1 (List.mem_filter.1 hy).1
  omega
 ·rcases h.2 with rfl|⟨n,h1,h2,rfl⟩
  ·rfl
  ·rw[List.range_succ,List.filter_append]
   simp[h2]
 ·rw[key k hk (dD m t k) (λn hn=>if_neg (by omega)) (λn hn=>if_neg (by omega))]
  congr 2
  rw[List.filter_eq_self];intro n hn;obtain⟨i,hi,rfl⟩:=List.mem_map.1 hn;have hi:=List.mem_range.1 hi;unfold dD;rw[if_pos (by omega)];rfl
theorem G9{m:ax}(hm:bF m){t:Nat}{X Y:List Nat}(h:XC m t X Y)(k:Nat)(hk:t+k≤254) :
 aQ (dD m t k)=(aQ m).take (X.length*258)++(List.range k).flatMap (λi=>ak (t+i) jS)++(aQ m).drop (X.length*258):=by
 have hl:∀Z:List Nat,(Z.flatMap λn=>ak n ((m n).getD Pg.zero)).length=Z.length*258:=λZ=>by
  induction Z with
  | nil=>rfl
  | cons n l ih=>
    rw[List.flatMap_cons,List.length_append,ih,List.length_cons,Nat.add_mul];have:(ak n ((m n).getD Pg.zero)).length=258:=by
     cases e:m n with
     | none=>simp[ak,Pg.zero]
     | some p=>simp[ak,(hm.wf n p e).len]
    omega
 have h1:aQ m=(X.flatMap λn=>ak n ((m n).getD Pg.zero))++(Y.flatMap λn=>ak n ((m n).getD Pg.zero)):=by
  unfold aQ;rw[h.eq,List.flatMap_append]
 rw[h1,List.take_left' (hl X),List.drop_left' (hl X)];unfold aQ;rw[h.grow k hk,List.flatMap_append,List.flatMap_append];congr 1
 ·congr 1
  ·apply jf
   intro n hn;have:=(h.lo n hn).1;unfold dD;rw[if_neg (by omega)]
  ·rw[List.flatMap_map]
   apply jf
   intro i hi;have:=List.mem_range.1 hi;unfold dD;rw[if_pos (by omega)];rfl
 ·apply jf
  intro n hn;have:=h.hi n hn;unfold dD;rw[if_neg (by omega)]
def EW(X:List Nat)(j:Nat):Nat:=((X.take j).getLast?.map (·+ 1)).getD 0
theorem NH{X:List Nat}{j x:Nat}(h:X[j]?=some x):EW X (j+1)=x+1:=by
 obtain⟨hl,rfl⟩:=bV h;unfold EW;rw[List.take_succ_eq_append_getElem hl,List.getLast?_concat];rfl
theorem vk{X:List Nat}{j:Nat}(h:X.length≤j):EW X j=(X.getLast?.map (·+ 1)).getD 0:=by
 unfold EW;rw[List.take_of_length_le h]
def abo(w:World)(g o:Nat)(gs:List Value)(m:ax)(k t:Nat)(used mf:Int)(e:Ending)(w':World):Prop:=
 (mf<used+k∨254<t+k→e=.returned (.tuple #[(0:Int),(7:Int)])∧Bel w w')∧
 (used+k≤mf→t+k≤254→e=.returned (.tuple #[.int .i64 (t*256:Nat),(0:Int)])∧∃v,w'.ownsRow w.heap.size 260 258 v ((ag m).length+k) (aQ (dD m t k))∧Blk w' g (gs.set (o+22) v) 167∧Keep (λq=>q=g) w w')
structure ad6(w:World)(kb g o:Nat)(ks gs:List Value)(mf:Int)(m:ax)(pv:Value):Prop where
 hk:Blk w kb ks 174
 k1:ks[1]?=some (.int .i64 mf)
 hg:Blk w g gs 167
 jB:gs[o+22]?=some pv
 pw:Be w pv m
 ok:bF m
 mf:0≤mf∧mf≤1000000
 st:∃y,254≤y∧(m y).isSome=true
 cap:∀p n c,pv=.slice p n c→n≤c
section
variable {w:World} {kb g o:Nat} {ks gs:List Value} {mf:Int} {m:ax} {pv:Value}
theorem Sr(n:Int)(hn:n<0∨64<n):Calls prog 196 #[kb,.pointer (some ⟨g,o,none⟩),n] w (Z.b (.tuple #[(0:Int),(6:Int)]) w):=by
 rcases hn with h|h
 all_goals
  go_enter func196,ntmps196;go_wp2
  go_ret2
  exact⟨rfl,Bel.refl _⟩
theorem PK(h:ad6 w kb g o ks gs mf m pv)(k t:Nat)(Ba:k≤64)(ht:kT m t)(a1 used a3 a4 a5:Nat)(hu:used≤1000000)(hU:∀W,Bel w W→Calls prog 118 #[kb] W (Z.b (.agg (fM a1 used a3 a4 a5).toArray) W)) :
 Calls prog 196 #[kb,.pointer (some ⟨g,o,none⟩),.int .i64 k] w (abo w g o gs m k t used mf):=by
 obtain⟨X,Y,hs⟩:=Jd ht;have htl:=ht.le;have hpw:=h.pw;obtain⟨p,pc,rfl,hpp⟩:=hpw;have hpn:=aT m;have hlen:(ag m).length=X.length+Y.length:=by rw[hs.eq,List.length_append]
 have hY:0<Y.length:=by
  obtain⟨y,h1,h2⟩:=h.st;have Js:y<256:=by
   rcases Nat.lt_or_ge y 256 with c|c
   ·exact c
   ·rw[h.ok.below y c]at h2;cases h2
  have hy:y∈ag m:=kH.2 ⟨Js,h2⟩;rw[hs.eq]at hy;rcases List.mem_append.1 hy with hy|hy
  ·have:=(hs.lo y hy).2;omega
  ·exact List.length_pos_of_mem hy
 obtain⟨gp,cs2,rfl,hb2,hc2⟩:=hpp (by omega);have c1:w.cell? (kb,1)=some (.int .i64 mf):=(h.hk.cell 1).trans h.k1;have jB:w.cell? (g,o+22)=some (.slice (gp,0) (ag m).length pc):=(h.hg.cell _).trans h.jB;have hkl:=h.hk.lt;have hgl:=h.hg.lt;have hpl:=hb2.lt;have hmf:=h.mf;have hpc:(ag m).length≤pc:=h.cap _ _ _ rfl;have uF:BM w (.slice (gp,0) (ag m).length pc) m:=h.pw.rd;have HPG:=xh λW (hW:Bel w W) i N (hi:(ag m)[i]?=some N)=>BM.page (show BM W (.slice (gp,0) (ag m).length pc) m from uF.bel hW) h.ok hi;have XF:=xh λi N (hi:(ag m)[i]?=some N)=>(show(i<X.length∧N<254∧X[i]?=some N)∨(X.length≤i∧254≤N)from by
  rw[hs.eq]at hi;rcases Nat.lt_or_ge i X.length with c|c
  ·rw[List.getElem?_append_left c]at hi
   exact .inl ⟨c,(hs.lo N (List.mem_of_getElem? hi)).2,hi⟩
  ·rw[List.getElem?_append_right c]at hi
   exact .inr ⟨c,hs.hi N (List.mem_of_getElem? hi)⟩)
 have HS:=xh hs;have HH:=xh h;have HC:=xh (And.intro c1 jB);have HP2:=xh (And.intro hb2 hc2);unfold fM at hU;have HU:=xh hU;obtain⟨A,hA⟩:=e_x X.length;obtain⟨N,hN⟩:=e_x ((ag m).length);rw[hA]at XF hlen;rw[hN]at HC hpn hlen jB hpc;have HA:=xh hA;have HN:=xh hN;clear h hU hpp hb2 hc2 hs uF hA c1 jB ht;go_enter func196,ntmps196;go_upto_region 6 with fail
 go_loopw [8,9,10] (λtp av i wr=>∃j:Nat,j≤N∧i=.int .i64 j∧av=.int .i64 (min j A:Nat)∧tp=.int .i64 (EW X j:Nat)∧Hid (Bel w wr)) (λ_ _ i _=>N-(intOf i).toNat)
 case atStart=>exact⟨0,Nat.zero_le _,rfl,by rw[Nat.zero_min];rfl,rfl,xh (Bel.refl _)⟩
 case round=>
  obtain⟨j,hj,rfl,rfl,rfl,HI⟩:=hrel;obtain⟨wo,hwo⟩:∃W,W=wr:=⟨_,rfl⟩;subst hwo;have hj0:(0:Int)≤j:=by omega
  have jB:=af HI.out HC.o.2;have hgl:=World.block_lt_of_cell? _ _ jB;by_cases hlt:j<N
  ·have hjn:(j:Int)<N:=by omega
   obtain⟨q,hq⟩:∃q,(ag m)[j]?=some q:=⟨_,bT (by rw[HN.o];omega)⟩;obtain⟨g',cap',e,_,hc⟩:=HPG.o wo HI.out j q hq;cases e
   have hc0:wo.cell? (gp,j*258)=some (.int .i64 q):=by rw[show j*258=j*258+0 from rfl,hc 0 (by omega)];rfl
   have hjj:((j:Int)*258)=((j*258:Nat):Int):=by omega
   have NI:=World.block_lt_of_cell? _ _ hc0;rcases XF.o j q hq with⟨h1,h2,h3⟩|⟨h1,h2⟩
   ·have HT:=xh (NH h3)
    have hqq:decide ((q:Int)<254)=true:=decide_eq_true (by omega);have hw1:IntKind.i64.wrap ((q:Int)+1)=(q:Int)+1:=by rw[IntKind.wrap_i64];omega
    have hw2:IntKind.i64.wrap ((j:Int)+1)=(j:Int)+1:=by rw[IntKind.wrap_i64];omega
    clear hq hc h3;go_wp2_with fail
    go_roundw
    case rel=>exact⟨j+1,by omega,by go_num,by rw[Nat.min_eq_left (by omega)];go_num,by rw[HT.o];go_num,HI⟩
    case measure=>simp[intOf]<;>omega
   ·have HT:=xh (vk (X:=X) (j:=j) (by rw[HA.o];exact h1))
    have HT2:=xh (vk (X:=X) (j:=j+1) (by rw[HA.o];omega));have hqq:decide ((q:Int)<254)=false:=decide_eq_false (by omega);have hw2:IntKind.i64.wrap ((j:Int)+1)=(j:Int)+1:=by rw[IntKind.wrap_i64];omega
    clear hq hc;go_wp2_with fail
    go_roundw
    case rel=>exact⟨j+1,by omega,by go_num,by rw[Nat.min_eq_right (by omega),Nat.min_eq_right (by omega)],by rw[HT.o,HT2.o],HI⟩
    case measure=>simp[intOf]<;>omega
  ·obtain rfl:j=N:=by omega
   have hjt:EW X j=t:=by rw[vk (by rw[HA.o];omega)];exact HS.o.top
   rw[hjt,Nat.min_eq_right (by omega:A≤j)];clear hjt;go_upto_region 12 with(go_at_call 118;((with_reducible refine aH (HU.o _ HI.out) ?_);rintro e w5 ⟨rfl,k5⟩;have H5:=xh (HI.out.tr k5);clear k5))
   have k6:Bel w (w5.alloc (.cells #[.int .i64 a1,.int .i64 used,.int .i64 a3,.int .i64 a4,.int .i64 a5] 159)):=H5.o.tr (Bel.start _ _);have u1:(w5.alloc (.cells #[.int .i64 a1,.int .i64 used,.int .i64 a3,.int .i64 a4,.int .i64 a5] 159)).cell? (w5.heap.size,1)=some (.int .i64 used):=(Blk.new w5 [.int .i64 a1,.int .i64 used,.int .i64 a3,.int .i64 a4,.int .i64 a5] 159).cell 1;have c1:=af k6 HC.o.1;have jB:=af k6 HC.o.2;have hul:=World.block_lt_of_cell? _ _ u1;have hgl:=World.block_lt_of_cell? _ _ jB;have acs:=World.block_lt_of_cell? _ _ c1;have mG:=xh k6;clear k6;generalize w5.alloc (.cells #[.int .i64 a1,.int .i64 used,.int .i64 a3,.int .i64 a4,.int .i64 a5] 159)=w6 at *
   have hwr:IntKind.i64.wrap ((used:Int)+(k:Int))=(used:Int)+k:=by rw[IntKind.wrap_i64];omega
   have hwt:IntKind.i64.wrap ((t:Int)+(k:Int))=(t:Int)+k:=by rw[IntKind.wrap_i64];omega
   by_cases hA1:mf<(used:Int)+k
   ·have hd:decide (mf<(used:Int)+k)=true:=decide_eq_true hA1
    go_quiet (fail)
    have PY:=xh (aj mG.o nq);generalize w6.drewN nq=w7 at *
    go_wp2_with fail
    go_ret2
    exact⟨λ_=>⟨rfl,PY.o⟩,λh=>absurd h (by omega)⟩
   have hd:decide (mf<(used:Int)+k)=false:=decide_eq_false hA1;by_cases hA2:254<(t:Int)+k
   ·have hd2:decide (254<(t:Int)+k)=true:=decide_eq_true hA2
    go_quiet (fail)
    have PY:=xh (aj mG.o nq);generalize w6.drewN nq=w7 at *
    go_wp2_with fail
    go_ret2
    exact⟨λ_=>⟨rfl,PY.o⟩,λ_ h=>absurd h (by omega)⟩
   have hd2:decide (254<(t:Int)+k)=false:=decide_eq_false hA2;go_quiet (fail)
   have PY:=xh (aj mG.o nq);have jB:=af (aj (Bel.refl w6) nq) jB;generalize w6.drewN nq=w7 at *
   have hgl:=World.block_lt_of_cell? _ _ jB;clear c1 u1 hul acs hd hd2;have um:Hid (∀W,Bel w W→∀i u,(aQ m)[i]?=some u→W.cell? ⟨gp,i,none⟩=some u):=xh λW hW i u hi=>by
    have hil:=(bV hi).1;refine af hW ?_;rw[HP2.o.1.cell,HP2.o.2 i hil];exact hi
   have xC:Hid ((aQ m).length=j*258):=xh (by rw[BJ HH.o.ok,HN.o]);have HTL:Hid (((aQ m).take (A*258)).length=A*258):=xh (by rw[List.length_take,xC.o];omega);have HDL:Hid (((aQ m).drop (A*258)).length=(j-A)*258):=xh (by rw[List.length_drop,xC.o,Nat.sub_mul]);have hAj:(A:Int)≤j:=by omega
   have hAc:(A:Int)≤pc:=by omega
   have hjc:(j:Int)≤pc:=by omega
   have hcj:¬pc=A:=by omega
   have HCA:Hid ((if pc=A then 0 else A*258)=A*258):=xh (if_neg hcj);have hww:w.heap.size≤w7.heap.size:=PY.o.size;have HAJ:Hid (A<j):=xh (by omega);clear hlen hY;go_upto_region 16 with(refine bZ (base:=w.heap.size) (v:=.slice none 0 0) (n:=0) (xs:=[]) (size:=258) (bytes:=272) rfl (.tmp 67) (.tmp 73) 164 rfl underlying164 iP (by omega) rfl (World.ownsRow_nil _ _ _ _) gp 0 A _ ((aQ m).take (A*258)) rfl (λi u hi=>by rw[Nat.zero_add];rw[List.getElem?_take]at hi;split at hi;exact um.o _ PY.o _ _ hi;cases hi) HTL.o (λu hu=>ve m u (List.mem_of_mem_take hu)) (by unfold maxLen;omega) (by omega) hww ?_;intro p8 cp8 w8 R8 K8;rw[Nat.zero_add,List.nil_append]at R8;rw[Nat.zero_add];have VL:=xh R8;have Gu:Hid (Bel w7 w8):=xh (K8.below _ (bM _) (λk hk=>absurd (show(none:Option Nat)=some k from hk) (λh=>by cases h)));clear R8 K8)
   have zI:Hid (Bel w w8):=xh (PY.o.tr Gu.o);have HXS:Hid (∀c,((aQ m).take (A*258)++(List.range c).flatMap λi=>ak (t+i) jS)=(aQ m).take (A*258)++(List.range c).flatMap λi=>ak (t+i) jS):=xh λ_=>rfl;clear jB hgl;go_upto_region 17 with fail
   go_loopw [12,13] (λv i wr=>∃c:Nat,c≤k∧i=.int .i64 c∧(∃p cp,v=.slice p (A+c) cp)∧Hid (wr.ownsRow w.heap.size 260 258 v (A+c) ((aQ m).take (A*258)++(List.range c).flatMap λi=>ak (t+i) jS))∧Hid (Bel w wr)) (λ_ i _=>k-(intOf i).toNat)
   case atStart=>exact⟨0,Nat.zero_le _,rfl,⟨_,_,rfl⟩,by rw[List.range_zero,List.flatMap_nil,List.append_nil];exact VL,zI⟩
   case round=>
    obtain⟨c,hc,rfl,⟨p,cp,rfl⟩,HR,HB⟩:=hrel;obtain⟨wo,hwo⟩:∃W,W=wr:=⟨_,rfl⟩;subst hwo;have hc0:(0:Int)≤c:=by omega
    by_cases hlt:c<k
    ·have hck:(c:Int)<k:=by omega
     obtain⟨zs,hzs⟩:∃zs,zs=ak (t+c) jS:=⟨_,rfl⟩;have oh:Hid (zs.length=258):=xh (by rw[hzs];simp[ak,jS]);have HZ1:Hid (∀u∈zs,u.oneCell'=true):=xh λu hu=>by
      rw[hzs]at hu;simp only[ak,List.mem_cons,List.mem_map]at hu
      rcases hu with rfl|rfl|⟨x,_,rfl⟩<;>rfl
     have Dl:Hid (prog.built 260 [(0,.int .i64 ((t:Int)+(c:Int))),(1,.int .i64 6)]=some zs.toArray):=xh (by rw[hzs];exact y9 _);have hwc:IntKind.i64.wrap ((t:Int)+(c:Int))=(t:Int)+c:=by rw[IntKind.wrap_i64];omega
     have ajx:IntKind.i64.wrap ((c:Int)+1)=(c:Int)+1:=by rw[IntKind.wrap_i64];omega
     have YU:=xh hzs;have hbo:w.heap.size≤wo.heap.size:=HB.out.size;have HOB:Hid (∀q:Nat,(Value.slice p (A+c) cp).ownBlock=some q→w.heap.size≤q):=xh λq hq=>(row_blk HR.out hq).1;clear hzs
     go_wp2_with (first
      | (refine wpList_buildTo rfl 260 _ rfl (some 84) rfl zs.toArray (by simp only[List.map_toArray,List.map_cons,List.map_nil];exact Dl.o) ?_)
      | (refine au rfl 164 260 (.tmp 84) rfl zs rfl underlying164 (by rw[oh.o];exact iP) (by rw[oh.o];omega) (by rw[oh.o];decide) ?_;intro w5 B5 K5;have zU:Hid (Blk w5 wo.heap.size zs 260):=B5;have pX:Hid (Bel wo w5):=xh K5;clear B5 K5)
      | (refine bZ (base:=w.heap.size) (v:=.slice p (A+c) cp) (n:=A+c) (xs:=(aQ m).take (A*258)++(List.range c).flatMap λi=>ak (t+i) jS) (size:=258) (bytes:=272) rfl (.tmp 80) (.tmp 85) 164 rfl underlying164 iP (by omega) rfl (aO HR.out pX.o) wo.heap.size 0 1 1 zs rfl (λi u hi=>by rw[Nat.zero_add,zU.o.cell];exact hi) (by rw[oh.o]) HZ1.o (by unfold maxLen;omega) (by omega) (bU hbo pX.o.size) ?_;intro p7 cp7 w7 R7 K7;have HR7:=xh R7;have I4:=xh K7;clear R7 K7))
     go_roundw
     case rel=>exact⟨c+1,by omega,by go_num,⟨_,_,rfl⟩,xh (by
      have h:=HR7.o;rw[YU.o]at h;rw[List.range_succ,List.flatMap_append,←List.append_assoc,List.flatMap_singleton];exact h),xh (Below.trans (HB.out.tr pX.o) ((I4.o.mono λq hq=>HOB.o q hq).below _ (HB.out.tr pX.o).size λq hq=>hq))⟩
     case measure=>simp[intOf]<;>omega
    ·obtain rfl:c=k:=by omega
     have hck:decide ((c:Int)<(c:Int))=false:=by simp
     have jB:=af HB.out HC.o.2;have hgl:=World.block_lt_of_cell? _ _ jB;have hbo:w.heap.size≤wo.heap.size:=HB.out.size;go_upto_region 21 with(refine bZ (base:=w.heap.size) (v:=.slice p (A+c) cp) (n:=A+c) (xs:=(aQ m).take (A*258)++(List.range c).flatMap λi=>ak (t+i) jS) (size:=258) (bytes:=272) rfl (.tmp 87) (.tmp 93) 164 rfl underlying164 iP (by omega) rfl HR.out gp (A*258) (j-A) _ ((aQ m).drop (A*258)) rfl (λi u hi=>by rw[List.getElem?_drop]at hi;exact um.o _ HB.out _ _ hi) HDL.o (λu hu=>ve m u (List.mem_of_mem_drop hu)) (by unfold maxLen;omega) (by omega) hbo ?_;intro p9 cp9 w9 R9 K9;have Y2:=xh R9;have oM:=xh K9;clear R9 K9)
     have hob:∀q:Nat,(Value.slice p (A+c) cp).ownBlock=some q→w.heap.size≤q:=λq hq=>(row_blk HR.out hq).1;have B9:=(HH.o.hg.bel HB.out).keep oM.o (λe=>by have:=hob _ e;have:=HH.o.hg.lt;omega);have Dn:=xh B9;have f9:=B9.frozen (o+22);have jB:w9.cell? (g,o+22)=some (.slice (gp,0) j pc):=(B9.cell _).trans (by rw[HH.o.jB,HN.o]);have ahp:=B9.lt;have hwq:IntKind.i64.wrap ((t:Int)*256)=(t:Int)*256:=by rw[IntKind.wrap_i64];omega
     have HK:Hid (Bel w w9):=xh (Below.trans HB.out ((oM.o.mono λq hq=>hob q hq).below _ HB.out.size λq hq=>hq));have hsum:A+c+(j-A)=j+c:=by have:=HAJ.o;omega
     have uB:=xh hsum;clear B9 hob hsum;go_wp2_with fail
     go_ret2
     unfold abo;refine⟨λh=>absurd h (by omega),λ_ _=>⟨by first|rfl|(congr 3;go_num),_,?_,Dn.o.setCell (o:=o+22) _,(Keep.of_bel _ HK.o).tr (Keep.setCell _ _ _ _)⟩⟩;have h:=Y2.o;rw[uB.o]at h;rw[G9 HH.o.ok HS.o c (by omega),HA.o,HN.o,uB.o];exact dG h (Keep.setCell w9 g _ _) (λq hq e=>by have e:q=g:=e;have:=HH.o.hg.lt;omega)
end
end
end Go.Proofs.YtcnjjchlebmfiaaGreatDoor
