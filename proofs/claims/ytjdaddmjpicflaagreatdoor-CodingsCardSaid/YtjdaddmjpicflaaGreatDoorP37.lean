/- The law's step, of an op that steps process 1. -/
import Derived.Test.YtjdaddmjpicflaaGreatDoorP35
import Derived.Test.YtjdaddmjpicflaaGreatDoorP04
import Derived.Test.YtjdaddmjpicflaaGreatDoorP29
import Derived.Test.YtjdaddmjpicflaaGreatDoorP36
import Derived.Test.YtjdaddmjpicflaaGreatDoorP15
import Derived.Test.YtjdaddmjpicflaaGreatDoorP05
set_option linter.unusedVariables false
set_option linter.unusedSimpArgs false
set_option maxRecDepth 100000
set_option maxHeartbeats 16000000
namespace Go.Proofs.YtjdaddmjpicflaaGreatDoor
open Go.RowKit Go.MapKept Go.Maps
def opOne (n:Int):List Value:=[.int .i64 1,.int .i64 1,.int .i64 n,.int .i64 0,.int .i64 0,.int .i64 0,.string ⟨#[]⟩,.slice none 0 0,.slice none 0 0,.slice none 0 0]
theorem step_one (E:CE) (w:World) (hp:CPla E) (n:Int) (hn:n=0∨n=1) (hI:Inv E w) (hst:n=1→∀W,Bel w W→Calls Tryz.prog 23 #[.pointer (some ⟨E.wb,0,none⟩),.int .i64 1] W λe w'=>e=.returned (.bool true)∧Inv E w'∧KeepV E.B W w') :
 Calls Tryz.prog 12 #[.pointer (some ⟨E.wb,0,none⟩),.agg #[.int .i64 1,.int .i64 1,.int .i64 n,.int .i64 0,.int .i64 0,.int .i64 0,.string ⟨#[]⟩,.slice none 0 0,.slice none 0 0,.slice none 0 0]] w λe w'=>e=.returned (.bool true)∧Inv E w'∧KeepV E.B w w':=by
 have HP:=xh hp
 have HI:=xh hI
 have HST:=xh hst
 have hbl:=hI.fix.hW.lt
 clear hp hI hst
 go_enter Tryz.func12,Tryz.ntmps12
 go_upto_region 1 with fail
 have k1:Bel w (w.alloc (.cells #[.int .i64 1,.int .i64 1,.int .i64 n,.int .i64 0,.int .i64 0,.int .i64 0,.string ⟨#[]⟩,.slice none 0 0,.slice none 0 0,.slice none 0 0] 36)):=Bel.start _ _
 have BX:Blk (w.alloc (.cells #[.int .i64 1,.int .i64 1,.int .i64 n,.int .i64 0,.int .i64 0,.int .i64 0,.string ⟨#[]⟩,.slice none 0 0,.slice none 0 0,.slice none 0 0] 36)) w.heap.size (opOne n) 36:=Blk.new w _ _
 generalize w.alloc (.cells #[.int .i64 1,.int .i64 1,.int .i64 n,.int .i64 0,.int .i64 0,.int .i64 0,.string ⟨#[]⟩,.slice none 0 0,.slice none 0 0,.slice none 0 0] 36)=w1 at *
 obtain⟨bx,hbx⟩:∃bx,w.heap.size=bx:=⟨_,rfl⟩
 rw[hbx]at BX hbl⊢
 have HCX:Hid (∀W cs,Blk W bx (opOne n) cs→W.cell? ⟨bx,0,none⟩=some (.int .i64 1)∧W.cell? ⟨bx,1,none⟩=some (.int .i64 1)∧W.cell? ⟨bx,2,none⟩=some (.int .i64 n)):=xh λW cs h=>⟨h.cell 0,h.cell 1,h.cell 2⟩
 have HBX:=xh BX
 have HK1:=xh k1
 obtain⟨x0,x1,x2⟩:=HCX.out _ _ BX
 have ov:w1.cell? ⟨E.wb,4,none⟩=some (.bool false):=(HI.out.fix.hW.bel k1).cell 4
 clear BX k1 hbx hbl
 go_upto_region 6 with fail
 go_upto_region 7 with fail
 rcases hn with rfl|rfl
 ·refine wp_loop_rounds 1 ?_
  rw[rounds_succ]
  go_upto_region 25 with fail
  have HIW:=xh (HI.out.keepBel HK1.out)
  clear x0 x1 x2 ov
  have ov:w1.cell? ⟨E.wb,4,none⟩=some (.bool false):=HIW.out.fix.hW.cell 4
  have HPR:=xh (procs_inv E w1 HIW.out)
  have HFI:=xh λW (hW:Bel w1 W)=>files_inv E W HP.out (HIW.out.keepBel hW)
  go_upto_region 28 with(go_at_call 29;((with_reducible refine Calls.mono HPR.out ?_);rintro e3 w3 ⟨rfl,k3⟩;have H3:=xh k3;clear k3))
  go_upto_region 29 with(go_at_call 30;((with_reducible refine Calls.mono (HFI.out _ H3.out) ?_);rintro e4 w4 ⟨rfl,k4⟩;have H4:=xh (H3.out.tr k4);clear k4))
  have hW4:=HIW.out.fix.hW.bel H4.out
  have o2:w4.cell? ⟨E.wb,2,none⟩=some (.slice none 0 0):=hW4.cell 2
  have o3:w4.cell? ⟨E.wb,3,none⟩=some (.slice none 0 0):=hW4.cell 3
  have HSM:=xh λk=>same_bytes none none 0 0 [] (w4.drewN k) ⟨by simp,by simp⟩ ⟨by simp,by simp⟩ (by simp)
  clear hW4 ov
  go_quiet ((go_at_call 28;exact Calls.quiet_of (HSM.out _)))
  have hb:Bel w1 (w4.drewN nq):=bel_drewN H4.out nq
  have HB:=xh hb
  generalize w4.drewN nq=w5 at *
  clear hb o2 o3
  go_wp2_with fail
  go_ret
  exact⟨rfl,HIW.out.keepBel HB.out,KeepV.bel (HK1.out.tr HB.out)⟩
 ·refine wp_loop_rounds 2 ?_
  rw[rounds_succ]
  have HS1:=xh (HST.out rfl)
  go_upto_region 8 with(go_at_call 23;((with_reducible refine Calls.mono (HS1.out _ HK1.out) ?_);rintro e2 w2 ⟨rfl,i2,k2⟩;have H2:=xh (And.intro i2 k2);clear i2 k2))
  clear x0 x1 x2 ov
  obtain⟨x0,x1,x2⟩:=HCX.out _ _ (HBX.out.keepV H2.out.2 (by unfold VarT;decide))
  go_upto_region 7 with fail
  rw[rounds_succ]
  have ov:w2.cell? ⟨E.wb,4,none⟩=some (.bool false):=H2.out.1.fix.hW.cell 4
  go_upto_region 25 with fail
  clear x0 x1 x2 ov
  have ov:w2.cell? ⟨E.wb,4,none⟩=some (.bool false):=H2.out.1.fix.hW.cell 4
  have HPR:=xh (procs_inv E w2 H2.out.1)
  have HFI:=xh λW (hW:Bel w2 W)=>files_inv E W HP.out (H2.out.1.keepBel hW)
  go_upto_region 28 with(go_at_call 29;((with_reducible refine Calls.mono HPR.out ?_);rintro e3 w3 ⟨rfl,k3⟩;have H3:=xh k3;clear k3))
  go_upto_region 29 with(go_at_call 30;((with_reducible refine Calls.mono (HFI.out _ H3.out) ?_);rintro e4 w4 ⟨rfl,k4⟩;have H4:=xh (H3.out.tr k4);clear k4))
  have hW4:=H2.out.1.fix.hW.bel H4.out
  have o2:w4.cell? ⟨E.wb,2,none⟩=some (.slice none 0 0):=hW4.cell 2
  have o3:w4.cell? ⟨E.wb,3,none⟩=some (.slice none 0 0):=hW4.cell 3
  have HSM:=xh λk=>same_bytes none none 0 0 [] (w4.drewN k) ⟨by simp,by simp⟩ ⟨by simp,by simp⟩ (by simp)
  clear hW4 ov
  go_quiet ((go_at_call 28;exact Calls.quiet_of (HSM.out _)))
  have hb:Bel w2 (w4.drewN nq):=bel_drewN H4.out nq
  have HB:=xh hb
  generalize w4.drewN nq=w5 at *
  clear hb o2 o3
  go_wp2_with fail
  go_ret
  exact⟨rfl,H2.out.1.keepBel HB.out,((KeepV.bel HK1.out).tr H2.out.2).tr (KeepV.bel HB.out)⟩
end Go.Proofs.YtjdaddmjpicflaaGreatDoor
namespace Go.Proofs.YtjdaddmjpicflaaGreatDoor
open Go.RowKit Go.Maps Go.Shelf
def Scr (w:World) (sp:Option Addr) (k:Nat):Prop:=∀i,i<k→∃g,sp=some ⟨g,0,none⟩∧w.rangeAt g (i*10) (opOne 1)
theorem weight_zero (w:World):Calls Tryz.prog 15 #[.agg #[.int .i64 0,.int .i64 0,.int .i64 0,.string ⟨#[]⟩,.slice none 0 0,.slice none 0 0]] w λe w'=>e=.returned (.int .i64 0)∧Bel w w':=by
 go_enter Tryz.func15,Tryz.ntmps15
 go_upto_region 1 with fail
 have k1:Bel w (w.alloc (.cells #[.int .i64 0,.int .i64 0,.int .i64 0,.string ⟨#[]⟩,.slice none 0 0,.slice none 0 0] 34)):=Bel.start _ _
 have BX:=Blk.new w [.int .i64 0,.int .i64 0,.int .i64 0,.string ⟨#[]⟩,.slice none 0 0,.slice none 0 0] 34
 change Blk (w.alloc (.cells #[.int .i64 0,.int .i64 0,.int .i64 0,.string ⟨#[]⟩,.slice none 0 0,.slice none 0 0] 34)) w.heap.size _ _ at BX
 generalize w.alloc (.cells #[.int .i64 0,.int .i64 0,.int .i64 0,.string ⟨#[]⟩,.slice none 0 0,.slice none 0 0] 34)=w1 at *
 generalize w.heap.size=bx at *
 have x3:w1.cell? ⟨bx,3,none⟩=some (.string ⟨#[]⟩):=BX.cell 3
 have x4:w1.cell? ⟨bx,4,none⟩=some (.slice none 0 0):=BX.cell 4
 have x5:w1.cell? ⟨bx,5,none⟩=some (.slice none 0 0):=BX.cell 5
 have K1:=xh k1
 clear k1 BX
 go_wp2_with fail
 refine wp_loop_rounds 1 ?_
 rw[rounds_succ]
 go_wp2_with fail
 go_ret
 exact⟨rfl,K1.out⟩
theorem smallC_any (a b c d e:Int) (F:List FileA) (p:Option Addr) (cap:Nat) (sp:Option Addr) (k0 sc:Nat) (w:World) (hsc:Scr w sp k0) (hk0:k0≤400) (hr:∀(i:Nat) (f:FileA),F[i]?=some f→∃g o,p=some ⟨g,o,none⟩∧w.rangeAt g (o+i*3) [.string f.path,.bool f.dir,.slice f.p f.byt.length f.cap]) (hl:F.length≤140737488351232) (hs:∀f∈F,f.path.size≤140737488351232∧f.byt.length≤140737488351232) :
 Calls Tryz.prog 9 #[.agg #[.int .i64 a,.int .i64 b,.int .i64 c,.int .i64 d,.int .i64 e,.slice p F.length cap],.slice sp k0 sc] w λe w'=>e=.returned (.bool (smallF F))∧Bel w w':=by
 have HR:=xh hr
 have HS:=xh hs
 have HSC:=xh hsc
 have hk1:decide ((400:Int)<k0)=false:=by simp;omega
 clear hr hs hsc
 by_cases h1:F.length≤100
 ·have hd:decide ((100:Int)<F.length)=false:=by simp;omega
  go_enter Tryz.func9,Tryz.ntmps9
  have BX:=Blk.new w [.int .i64 a,.int .i64 b,.int .i64 c,.int .i64 d,.int .i64 e,.slice p F.length cap] 26
  have kx:Bel w (w.alloc (.cells #[.int .i64 a,.int .i64 b,.int .i64 c,.int .i64 d,.int .i64 e,.slice p F.length cap] 26)):=Bel.start _ _
  change Blk (w.alloc (.cells #[.int .i64 a,.int .i64 b,.int .i64 c,.int .i64 d,.int .i64 e,.slice p F.length cap] 26)) w.heap.size _ _ at BX
  go_upto_region 3 with fail
  generalize w.alloc (.cells #[.int .i64 a,.int .i64 b,.int .i64 c,.int .i64 d,.int .i64 e,.slice p F.length cap] 26)=w2 at *
  generalize hxb:w.heap.size=xb at *
  have x5:w2.cell? ⟨xb,5,none⟩=some (.slice p F.length cap):=BX.cell 5
  have HK:Hid (Bel w w2):=xh kx
  clear kx BX
  go_wp2_with fail
  go_loopw [5,6] (λn i wr=>∃k q:Nat,k≤F.length∧i=.int .i64 k∧n=.int .i64 (sizeF (F.take k):Nat)∧sizeF (F.take k)≤281474976702464*k∧wr=w2.drewN q) (λ_ i _=>F.length-(intOf i).toNat)
  case atStart=>exact⟨0,0,Nat.zero_le _,rfl,rfl,Nat.le_refl _,rfl⟩
  case round=>
   obtain⟨k,q,hk,rfl,rfl,hb,rfl⟩:=hrel
   by_cases hlt:k<F.length
   ·have hf:=List.getElem?_eq_getElem hlt
    obtain⟨f,hff⟩:∃f,F[k]=f:=⟨_,rfl⟩
    rw[hff]at hf
    obtain⟨g,o,rfl,hran⟩:=HR.out k f hf
    obtain⟨hs1,hs2⟩:=HS.out f (List.mem_iff_getElem?.2 ⟨k,hf⟩)
    have r0:w2.cell? ⟨g,o+k*3,none⟩=some (.string f.path):=cell_bel HK.out (hran 0 _ rfl)
    have r2:w2.cell? ⟨g,o+k*3+2,none⟩=some (.slice f.p f.byt.length f.cap):=cell_bel HK.out (hran 2 _ rfl)
    have hst:=sizeF_take hf
    have hw1:IntKind.i64.wrap (((sizeF (F.take k):Nat):Int)+(f.path.size:Int))=((sizeF (F.take k):Nat):Int)+(f.path.size:Int):=by rw[IntKind.wrap_i64];omega
    have hw2:IntKind.i64.wrap (((sizeF (F.take k):Nat):Int)+(f.path.size:Int)+(f.byt.length:Int))=((sizeF (F.take k):Nat):Int)+(f.path.size:Int)+(f.byt.length:Int):=by rw[IntKind.wrap_i64];omega
    clear hran
    go_upto_region 7 with fail
    go_quiet (fail)
    go_wp2_with fail
    go_roundw
    case rel=>exact⟨k+1,q+nq,by omega,by go_num,by rw[hst];go_num,by omega,by simp[World.drewN_drewN]⟩
    case measure=>simp[intOf]<;>omega
   ·obtain rfl:k=F.length:=by omega
    rw[List.take_length]at hb⊢
    have hsm:smallF F=decide (((sizeF F:Nat):Int)≤200000):=by
     unfold smallF
     apply decide_eq_decide.2
     constructor
     ·intro h;omega
     ·intro h;exact⟨h1,by omega⟩
    have HQ:Hid (Bel w (w2.drewN q)):=xh (bel_drewN HK.out q)
    go_wp2_with fail
    have HSM:=xh hsm
    generalize w2.drewN q=w3 at *
    obtain⟨n,hn⟩:∃n:Nat,sizeF F=n:=⟨_,rfl⟩
    rw[hn]at hb⊢
    have HNN:=xh hn
    have hwn:IntKind.i64.wrap ((n:Nat):Int)=((n:Nat):Int):=by rw[IntKind.wrap_i64];omega
    have hwn0:IntKind.i64.wrap (((n:Nat):Int)+0)=((n:Nat):Int):=by rw[IntKind.wrap_i64];omega
    clear hsm hn
    go_loopw [5,7] (λm i wr=>∃j:Nat,j≤k0∧i=.int .i64 j∧m=.int .i64 (n:Nat)∧Hid (Bel w wr)) (λ_ i _=>k0-(intOf i).toNat)
    case atStart=>exact⟨0,Nat.zero_le _,rfl,rfl,HQ⟩
    case round=>
     obtain⟨j,hj,rfl,rfl,HB⟩:=hrel
     by_cases hlt:j<k0
     ·obtain⟨g,rfl,hran⟩:=HSC.out j hlt
      have r3:wr.cell? ⟨g,j*10+3,none⟩=some (.int .i64 0):=cell_bel HB.out (hran 3 _ rfl)
      have r4:wr.cell? ⟨g,j*10+4,none⟩=some (.int .i64 0):=cell_bel HB.out (hran 4 _ rfl)
      have r5:wr.cell? ⟨g,j*10+5,none⟩=some (.int .i64 0):=cell_bel HB.out (hran 5 _ rfl)
      have r6:wr.cell? ⟨g,j*10+6,none⟩=some (.string ⟨#[]⟩):=cell_bel HB.out (hran 6 _ rfl)
      have r7:wr.cell? ⟨g,j*10+7,none⟩=some (.slice none 0 0):=cell_bel HB.out (hran 7 _ rfl)
      have r8:wr.cell? ⟨g,j*10+8,none⟩=some (.slice none 0 0):=cell_bel HB.out (hran 8 _ rfl)
      clear hran
      go_upto_region 12 with(go_at_call 15;((with_reducible refine Calls.mono (weight_zero _) ?_);rintro e4 w4 ⟨rfl,k4⟩;have H4:=xh (HB.out.tr k4);clear k4))
      clear r3 r4 r5 r6 r7 r8
      have r9:w4.cell? ⟨g,j*10+9,none⟩=some (.slice none 0 0):=by
       obtain⟨g',e,hran⟩:=HSC.out j hlt
       cases e
       exact cell_bel H4.out (hran 9 _ rfl)
      go_wp2_with fail
      go_roundw
      case rel=>exact⟨j+1,by omega,by go_num,by go_num,H4⟩
      case measure=>simp[intOf]<;>omega
     ·obtain rfl:j=k0:=by omega
      go_wp2_with fail
      go_ret
      exact⟨by rw[HSM.out,HNN.out];rfl,HB.out⟩
 ·have hd:decide ((100:Int)<F.length)=true:=by simp;omega
  go_enter Tryz.func9,Tryz.ntmps9
  go_wp2_with fail
  go_ret
  refine⟨?_,Bel.start _ _⟩
  rw[show smallF F=false from decide_eq_false λh=>h1 h.1]
  rfl
end Go.Proofs.YtjdaddmjpicflaaGreatDoor
namespace Go.Proofs.YtjdaddmjpicflaaGreatDoor
open Go.RowKit Go.MapKept Go.Maps Go.Shelf
def permP (m:Pages):Nat→Option Int:=λn=>(m n).map Pg.perm
def memP (m:Pages):Nat→Int:=λa=>((m (a/256)).getD Pg.zero).bytes.getD (a%256) 0
theorem pages_memP {m:Pages} (hm:PagesOk m):pagesOf (permP m) (memP m)=m:=by
 funext n
 unfold pagesOf permP
 cases h:m n with
 | none=>rfl
 | some p=>
   have hw:=hm.wf n p h
   simp only[Option.map_some]
   congr 1
   have e:(List.range 256).map (λi=>memP m (256*n+i))=p.bytes:=by
    refine List.ext_getElem? λi=>?_
    rw[List.getElem?_map]
    by_cases hi:i<256
    ·rw[List.getElem?_range hi]
     simp only[Option.map_some]
     unfold memP
     rw[show(256*n+i)/256=n from by omega,show(256*n+i)%256=i from by omega,h]
     have hl:=hw.len
     rw[Option.getD_some,List.getD_eq_getElem?_getD,List.getElem?_eq_getElem (by omega)]
     rfl
    ·rw[List.getElem?_eq_none (by simp;omega),List.getElem?_eq_none (by have:=hw.len;omega)]
     rfl
   rw[e]
theorem memP_byte {m:Pages} (hm:PagesOk m) (a:Nat):0≤memP m a∧memP m a≤255:=by
 unfold memP
 have hz:((m (a/256)).getD Pg.zero).wf:=by
  cases h:m (a/256)with
  | none=>exact Pg.zero_wf
  | some p=>exact hm.wf _ p h
 rw[List.getD_eq_getElem?_getD,List.getElem?_eq_getElem (by have:=hz.len;omega)]
 exact hz.byte _ (List.getElem_mem _)
theorem sp_init:U (spOf (stAll initSS) 1):=by unfold U;decide
theorem pgw_row {w:World} {base:Nat} {v:Value} {m:Pages} (h:w.ownsRow base 148 258 v (pageNums m).length (refRow m)):PgW w v m:=by
 obtain⟨p,cap,rfl,_,_,hp⟩:=row_slice h
 refine⟨p,cap,rfl,λh0=>?_⟩
 obtain⟨g,rfl,_,_,hc,_⟩:=hp.resolve_left (by omega)
 obtain⟨_,cs,hb⟩:=row_blk h (g:=g) rfl
 exact⟨g,cs,rfl,hb,λj hj=>by rw[←hb.cell];exact hc j hj⟩
theorem inv_boot (wb tk kb rb B:Nat) (l:Lims) (F:List FileA) (w:World) (hW:Blk w wb [.pointer (some ⟨tk,0,none⟩),.pointer (some ⟨rb,0,none⟩),.slice none 0 0,.slice none 0 0,.bool false] 55) (ht:Blk w tk [.pointer (some ⟨kb,0,none⟩)] 62)
 (hP:BootPKs w B kb l.a l.b l.c l.d.toNat l.e.toNat F) (hD:BootDK w rb l F) (h0:bootE l F=0) (hF:F.length≤100) (hev:ErrVar w) (hrb:B≤rb):∃E:CE,E.wb=wb∧E.B=B∧CPla E∧Inv E w:=by
 obtain⟨pm,tb,ob,cb,pb,sb,A,T,h1,h2,h3,h4,h5,h6,h7,h8,h9,h10,h11,h12,h13⟩:=hP
 obtain⟨iv,L,s,pb2,pc2,cells,v,dk,hsk,_,hsum,hs,hb,hpc,hkp,htk,hrow⟩:=hD
 have hTL:sks L=nds T:=hsk.trans h6.symm
 have hB:execB L initP=execB (nds T) initP:=by rw[←hTL,execB_sk]
 have hex:=bootE_exec h0
 rw[←h6]at hex
 obtain⟨hld,x,hx,hxe⟩:=execE_load hex
 have hby:∀y∈execB (nds T) initP,0≤y∧y≤255:=by
  rw[hxe]
  obtain⟨p,hp,rfl⟩:=List.mem_map.1 hx
  obtain⟨i,hi⟩:=List.mem_iff_getElem?.1 hp
  exact(h5.tree.byts i p hi).1
 obtain⟨hok,hlow⟩:=spaceL_ok hby hld
 have hm:=withStack_ok hok initSS_good (by decide:initSS.length≤8)
 rw[hB]at htk hrow
 have hn:pageNums (withStack (spaceL (execB (nds T) initP)) initSS)=pageNums (spaceL (execB (nds T) initP))++[254,255]:=pageNums_stack _ _ hlow
 have hlen:(pageNums (withStack (spaceL (execB (nds T) initP)) initSS)).length=(pageNums (spaceL (execB (nds T) initP))).length+2:=by rw[hn];simp
 rw[boxB_eq]at htk
 rw[←hlen]at h1 hrow
 obtain⟨m,hmm⟩:∃m,withStack (spaceL (execB (nds T) initP)) initSS=m:=⟨_,rfl⟩
 have h254:(m 254).isSome=true:=by rw[←hmm];unfold withStack;rw[if_pos (.inl rfl)];rfl
 rw[hmm]at h1 h8 hrow hm
 have hpc0:U (numAt (execB (nds T) initP) 24 8):=numAt_u64 _ hby 24 8 (by omega)
 obtain⟨pc,hpce⟩:∃pc,numAt (execB (nds T) initP) 24 8=pc:=⟨_,rfl⟩
 obtain⟨sp,hspe⟩:∃sp,spOf (stAll initSS) 1=sp:=⟨_,rfl⟩
 have hsp:=sp_init
 rw[hpce,hspe]at h7 htk
 rw[hpce]at hpc0
 rw[hspe]at hsp
 have hrok:RegsOk (rsV sp):=⟨by simp[rsV],λy hy=>by
  rcases List.mem_append.1 hy with h|h
  ·rw[List.eq_of_mem_replicate h];exact⟨by omega,by omega⟩
  ·rw[List.mem_singleton.1 h];exact hsp⟩
 have hcells:∀j u,(boxB pc sp v)[j]?=some u→cells[j]?=some u:=λj u hj=>by
  rw[←htk]at hj
  have hlt:=(List.getElem?_eq_some_iff.1 hj).1
  rw[List.length_take]at hlt
  rwa [List.getElem?_take_of_lt (by omega)]at hj
 have hcl:31≤cells.length:=by
  have:=congrArg List.length htk
  rw[List.length_take]at this
  have e:(boxB pc sp v).length=31:=rfl
  omega
 obtain⟨hinv,hlen2⟩:=FInv.first.files (mi:=l.d.toNat) (mb:=l.e.toNat) F
 rw[←h6]at hinv hlen2
 have hfew:T.length≤101:=by
  have:(nds T).length=T.length:=by simp[nds]
  rw[this]at hlen2
  simp at hlen2
  omega
 have hpo:=pages_memP hm
 have hfr:(pageNums m).length=frm (permP m):=by rw[←frm_eq (permP m) (memP m),hpo]
 refine⟨⟨B,wb,tk,kb,rb,pm,tb,ob,cb,pb,pb2,pc2,l,A,T,L⟩,rfl,rfl,⟨hTL,hinv,hfew,hpc,h11,h10,hrb,h12,by show B≤pb2;omega⟩,⟨hW,ht,h2,h3,h5,hev⟩,.inl ⟨s,iv,permP m,⟨pc,rsV sp,memP m⟩,sb,v,cells,⟨?_,h4,dk,by rw[hs],by rw[hs],by rw[hs]⟩,⟨⟨?_,?_,hpc0,hrok,memP_byte hm⟩,⟨hb,by omega,hcells 5 _ rfl,λi hi=>?_,hcells 22 _ rfl,?_,hpc0,hrok,memP_byte hm,λn hn=>?_,λn p hp=>?_⟩,⟨hcells 0 _ rfl,hcells 1 _ rfl,hcells 2 _ rfl,hcells 3 _ rfl,hcells 4 _ rfl,λj hj=>?_⟩,λe=>?_,⟨254,?_⟩,h13,λg hg=>?_⟩⟩⟩
 ·rw[←hfr];exact h1
 ·rw[cpu_eq]at h7;exact h7
 ·rw[hpo];exact h8
 ·refine hcells _ _ ?_
  have:i=0∨i=1∨i=2∨i=3∨i=4∨i=5∨i=6∨i=7∨i=8∨i=9∨i=10∨i=11∨i=12∨i=13∨i=14∨i=15:=by omega
  rcases this with rfl|rfl|rfl|rfl|rfl|rfl|rfl|rfl|rfl|rfl|rfl|rfl|rfl|rfl|rfl|rfl<;>rfl
 ·rw[hpo];exact pgw_row hrow
 ·show(m n).map Pg.perm=none
  rw[hm.below n hn]
  rfl
 ·obtain⟨q,hq,rfl⟩:=Option.map_eq_some_iff.1 (show(m n).map Pg.perm=some p from hp)
  exact(hm.wf n q hq).perm
 ·refine hcells _ _ ?_
  have:j=0∨j=1∨j=2∨j=3∨j=4∨j=5∨j=6∨j=7:=by omega
  rcases this with rfl|rfl|rfl|rfl|rfl|rfl|rfl|rfl<;>rfl
 ·obtain⟨_,cur,hg⟩:=row_blk hrow e
  exact hg.ne hb (by decide) rfl
 ·show((m 254).map Pg.perm).isSome=true
  rw[Option.isSome_map];exact h254
 ·have:=(row_blk hrow hg).1
  show B≤g
  omega
def ScrB (w:World) (sp:Option Addr) (k:Nat):Prop:=0<k→∃g cs,sp=some ⟨g,0,none⟩∧Blk w g cs 36∧∀i,i<k→∀j u,(opOne 1)[j]?=some u→cs[i*10+j]?=some u
theorem ScrB.scr {w:World} {sp:Option Addr} {k:Nat} (h:ScrB w sp k):Scr w sp k:=λi hi=>by
 obtain⟨g,cs,e,hb,hc⟩:=h (by omega)
 exact⟨g,e,λj u hj=>by rw[hb.cell];exact hc i hi j u hj⟩
theorem ScrB.keepV {B:Nat} {w w':World} {sp:Option Addr} {k:Nat} (h:ScrB w sp k) (hk:KeepV B w w'):ScrB w' sp k:=λh0=>by
 obtain⟨g,cs,e,hb,hc⟩:=h h0
 exact⟨g,cs,e,hb.keepV hk (by unfold VarT;decide),hc⟩
theorem playsC_any (l:Lims) (F:List FileA) (p:Option Addr) (cap:Nat) (sp:Option Addr) (k0 sc:Nat) (w:World) (hr:∀(i:Nat) (f:FileA),F[i]?=some f→∃g o,p=some ⟨g,o,none⟩∧w.rangeAt g (o+i*3) [.string f.path,.bool f.dir,.slice f.p f.byt.length f.cap]) (hl:F.length≤140737488351232)
 (hs:∀f∈F,BS w f.p f.byt∧f.byt.length≤140737488351232∧f.path.size≤140737488351232∧f.byt.length≤f.cap∧(0<f.byt.length→∀b o,f.p=some ⟨b,o,none⟩→b<w.heap.size)) (hmx:MaxVar w) (hfix:FixVar w) (hev:ErrVar w) (hsc:ScrB w sp k0) (hk0:k0≤400) :
 Calls Tryz.prog 5 #[.agg #[.int .i64 l.a,.int .i64 l.b,.int .i64 l.c,.int .i64 l.d,.int .i64 l.e,.slice p F.length cap],.slice sp k0 sc,.int .i64 0,.int .i64 1] w λe w'=>e=.returned (.bool true)∧Bel w w':=by
 have hr2:∀W,Bel w W→∀(i:Nat) (f:FileA),F[i]?=some f→∃g o,p=some ⟨g,o,none⟩∧W.rangeAt g (o+i*3) [.string f.path,.bool f.dir,.slice f.p f.byt.length f.cap]:=λW hW i f hf=>by
  obtain⟨g,o,h1,h2⟩:=hr i f hf
  exact⟨g,o,h1,λj u hj=>cell_bel hW (h2 j u hj)⟩
 have hsm:=λW (hW:Bel w W)=>smallC_any l.a l.b l.c l.d l.e F p cap sp k0 sc W (hsc.keepV (KeepV.bel (B:=0) hW)).scr hk0 (hr2 W hW) hl (λf hf=>⟨(hs f hf).2.2.1,(hs f hf).2.1⟩)
 have HX:∀(w3:World) (xb:Nat),Blk w3 xb [.int .i64 l.a,.int .i64 l.b,.int .i64 l.c,.int .i64 l.d,.int .i64 l.e,.slice p F.length cap] 26→w3.cell? ⟨xb,0,none⟩=some (.int .i64 l.a)∧w3.cell? ⟨xb,1,none⟩=some (.int .i64 l.b)∧w3.cell? ⟨xb,2,none⟩=some (.int .i64 l.c)∧w3.cell? ⟨xb,3,none⟩=some (.int .i64 l.d)∧w3.cell? ⟨xb,4,none⟩=some (.int .i64 l.e)∧w3.cell? ⟨xb,5,none⟩=some (.slice p F.length cap):=λ_ _ h=>⟨h.cell 0,h.cell 1,h.cell 2,h.cell 3,h.cell 4,h.cell 5⟩
 have HXX:=xh HX
 have HSC:=xh hsc
 clear HX
 cases hsf:smallF F with
 | false=>
   rw[hsf]at hsm
   have HSM:=xh hsm
   clear hr hr2 hl hs hmx hfix hev hsm hsf hsc
   go_enter Tryz.func5,Tryz.ntmps5
   have BX:=Blk.new w [.int .i64 l.a,.int .i64 l.b,.int .i64 l.c,.int .i64 l.d,.int .i64 l.e,.slice p F.length cap] 26
   have kx:Bel w (w.alloc (.cells #[.int .i64 l.a,.int .i64 l.b,.int .i64 l.c,.int .i64 l.d,.int .i64 l.e,.slice p F.length cap] 26)):=Bel.start _ _
   change Blk (w.alloc (.cells #[.int .i64 l.a,.int .i64 l.b,.int .i64 l.c,.int .i64 l.d,.int .i64 l.e,.slice p F.length cap] 26)) w.heap.size _ _ at BX
   go_upto_region 1 with fail
   generalize w.alloc (.cells #[.int .i64 l.a,.int .i64 l.b,.int .i64 l.c,.int .i64 l.d,.int .i64 l.e,.slice p F.length cap] 26)=w2 at *
   generalize w.heap.size=xb at *
   have HK:Hid (Bel w w2):=xh kx
   obtain⟨x0,x1,x2,x3,x4,x5⟩:=HXX.out _ _ BX
   clear BX kx
   go_wp2_with (go_at_call 9;((with_reducible refine Calls.mono (HSM.out _ HK.out) ?_);rintro e w4 ⟨rfl,hk⟩;have H4:=xh hk;clear hk))
   go_ret
   exact⟨rfl,HK.out.tr H4.out⟩
 | true=>
   rw[hsf]at hsm
   have HSM:=xh hsm
   obtain⟨hl1,hz⟩:F.length≤100∧sizeF F≤200000:=of_decide_eq_true hsf
   have hsz:∀f∈F,f.path.size+f.byt.length≤200000:=λf hf=>by
    have h1:f.path.size+f.byt.length≤sizeF F:=le_sum_mem (List.mem_map.2 ⟨f,hf,rfl⟩)
    omega
   have hlb:=λW (hW:Bel w W)=>lawBoot_any l F p cap W (hr2 W hW) hl1 (λf hf=>⟨(hs f hf).1.bel hW,by have:=hsz f hf;omega,by have:=hsz f hf;omega,(hs f hf).2.2.2.1,λh0 b o hb=>Nat.lt_of_lt_of_le ((hs f hf).2.2.2.2 h0 b o hb) hW.size⟩) (hmx.bel hW) (hfix.bel hW) (hev.bel hW)
   have HL1:=xh hl1
   have HEV:=xh hev
   by_cases h0:bootE l F=0
   ·have HLB:=xh λW hW=>(hlb W hW).mono λe w' k=>And.intro k.1 (k.2.2 h0)
    have H0:=xh h0
    clear hr hr2 hl hs hmx hfix hev hsm hsf hl1 hz hsz hlb h0 hsc
    go_enter Tryz.func5,Tryz.ntmps5
    have BX:=Blk.new w [.int .i64 l.a,.int .i64 l.b,.int .i64 l.c,.int .i64 l.d,.int .i64 l.e,.slice p F.length cap] 26
    have kx:Bel w (w.alloc (.cells #[.int .i64 l.a,.int .i64 l.b,.int .i64 l.c,.int .i64 l.d,.int .i64 l.e,.slice p F.length cap] 26)):=Bel.start _ _
    change Blk (w.alloc (.cells #[.int .i64 l.a,.int .i64 l.b,.int .i64 l.c,.int .i64 l.d,.int .i64 l.e,.slice p F.length cap] 26)) w.heap.size _ _ at BX
    go_upto_region 1 with fail
    generalize w.alloc (.cells #[.int .i64 l.a,.int .i64 l.b,.int .i64 l.c,.int .i64 l.d,.int .i64 l.e,.slice p F.length cap] 26)=w2 at *
    generalize hxb:w.heap.size=xb at *
    have HXB:=xh hxb
    have HBX:=xh BX
    have HK:Hid (Bel w w2):=xh kx
    clear kx hxb
    obtain⟨x0,x1,x2,x3,x4,x5⟩:=HXX.out _ _ BX
    clear BX
    go_upto_region 2 with(go_at_call 9;((with_reducible refine Calls.mono (HSM.out _ HK.out) ?_);rintro e w4 ⟨rfl,hk⟩;have H4:=xh (HK.out.tr hk);have HB4:=xh (HBX.out.bel hk);clear hk))
    clear x0 x1 x2 x3 x4 x5
    obtain⟨x0,x1,x2,x3,x4,x5⟩:=HXX.out _ _ HB4.out
    go_upto_region 5 with(go_at_call 10;((with_reducible refine Calls.mono (HLB.out _ H4.out) ?_);rintro e w5 ⟨k5,wb,tk,kb,rb,rfl,hwb,htk,hpk,hdk,hrb⟩;have H5:=xh (And.intro k5 (And.intro hwb (And.intro htk (And.intro hpk (And.intro hdk hrb)))));clear k5 hwb htk hpk hdk hrb))
    clear x0 x1 x2 x3 x4 x5
    obtain⟨E,hwb,hB,hp,hI⟩:=inv_boot wb tk kb rb w4.heap.size l F w5 H5.out.2.1 H5.out.2.2.1 H5.out.2.2.2.1 H5.out.2.2.2.2.1 H0.out HL1.out ((HEV.out.bel H4.out).bel H5.out.1) H5.out.2.2.2.2.2
    subst hwb
    have HP:=xh hp
    have HI5:=xh hI
    have HEB:=xh hB
    have hwbl:=hI.fix.hW.lt
    clear hp hI hB
    go_upto_region 8 with fail
    go_loopw [12,13] (λok i wr=>∃j:Nat,j≤k0∧i=.int .i64 j∧ok=.bool true∧Hid (Inv E wr∧KeepV E.B w5 wr)) (λ_ i _=>k0-(intOf i).toNat)
    case atStart=>exact⟨0,Nat.zero_le _,rfl,rfl,xh ⟨HI5.out,Keep.refl _ _⟩⟩
    case round=>
     obtain⟨j,hj,rfl,rfl,HJ⟩:=hrel
     have ov:wr.cell? ⟨E.wb,4,none⟩=some (.bool false):=HJ.out.1.fix.hW.cell 4
     by_cases hlt:j<k0
     ·obtain⟨g,cs,rfl,hb,hc⟩:=((HSC.out.keepV (KeepV.bel (B:=E.B) (H4.out.tr H5.out.1))).keepV HJ.out.2) (by omega)
      have HQ:Hid (∀jj u,(opOne 1)[jj]?=some u→wr.cell? ⟨g,j*10+jj,none⟩=some u):=xh λjj u h=>by rw[hb.cell];exact hc j hlt jj u h
      have q0:wr.cell? ⟨g,j*10,none⟩=some (.int .i64 1):=HQ.out 0 _ rfl
      have q1:wr.cell? ⟨g,j*10+1,none⟩=some (.int .i64 1):=HQ.out 1 _ rfl
      have q2:wr.cell? ⟨g,j*10+2,none⟩=some (.int .i64 1):=HQ.out 2 _ rfl
      have q3:wr.cell? ⟨g,j*10+3,none⟩=some (.int .i64 0):=HQ.out 3 _ rfl
      have q4:wr.cell? ⟨g,j*10+4,none⟩=some (.int .i64 0):=HQ.out 4 _ rfl
      have q5:wr.cell? ⟨g,j*10+5,none⟩=some (.int .i64 0):=HQ.out 5 _ rfl
      have q6:wr.cell? ⟨g,j*10+6,none⟩=some (.string ⟨#[]⟩):=HQ.out 6 _ rfl
      have q7:wr.cell? ⟨g,j*10+7,none⟩=some (.slice none 0 0):=HQ.out 7 _ rfl
      have q8:wr.cell? ⟨g,j*10+8,none⟩=some (.slice none 0 0):=HQ.out 8 _ rfl
      have q9:wr.cell? ⟨g,j*10+9,none⟩=some (.slice none 0 0):=HQ.out 9 _ rfl
      have k6:Bel wr (wr.alloc (.cells #[.int .i64 1,.int .i64 1,.int .i64 1,.int .i64 0,.int .i64 0,.int .i64 0,.string ⟨#[]⟩,.slice none 0 0,.slice none 0 0,.slice none 0 0] 36)):=Bel.start _ _
      have BO:Blk (wr.alloc (.cells #[.int .i64 1,.int .i64 1,.int .i64 1,.int .i64 0,.int .i64 0,.int .i64 0,.string ⟨#[]⟩,.slice none 0 0,.slice none 0 0,.slice none 0 0] 36)) wr.heap.size (opOne 1) 36:=Blk.new wr _ _
      have hwr:=HJ.out.1.fix.hW.lt
      clear hb hc
      go_upto_region 11 with fail
      generalize wr.alloc (.cells #[.int .i64 1,.int .i64 1,.int .i64 1,.int .i64 0,.int .i64 0,.int .i64 0,.string ⟨#[]⟩,.slice none 0 0,.slice none 0 0,.slice none 0 0] 36)=w6 at *
      obtain⟨ob,hob⟩:∃ob,wr.heap.size=ob:=⟨_,rfl⟩
      rw[hob]at BO hwr⊢
      have HOB:=xh hob
      have K6:=xh k6
      have HBO:=xh BO
      have o0:w6.cell? ⟨ob,0,none⟩=some (.int .i64 1):=BO.cell 0
      have o1:w6.cell? ⟨ob,1,none⟩=some (.int .i64 1):=BO.cell 1
      have o2:w6.cell? ⟨ob,2,none⟩=some (.int .i64 1):=BO.cell 2
      obtain⟨n,hn,hbf,hst⟩:=round_inv E wr HP.out HJ.out.1
      have HN:=xh hn
      have HBF:=xh hbf
      have HST:=xh hst
      clear q0 q1 q2 q3 q4 q5 q6 q7 q8 q9 k6 BO hob ov hn hbf hst
      go_upto_region 16 with fail
      have f2:∀W,Bel w6 W→W.frozen? ⟨ob,2,none⟩=false∧W.cell? ⟨ob,2,none⟩=some (.int .i64 1):=λW hW=>⟨(HBO.out.bel hW).frozen 2,(HBO.out.bel hW).cell 2⟩
      have HF2:=xh f2
      clear f2
      go_upto_region 17 with(go_at_call 11;((with_reducible refine Calls.mono (HBF.out _ K6.out) ?_);rintro e7 w7 ⟨rfl,k7⟩;obtain⟨f7,o7⟩:=HF2.out _ k7;have K7:=xh k7;clear k7))
      have B8:Blk (w7.setCell ⟨ob,2,none⟩ (.int .i64 n)) ob (opOne n) 36:=(HBO.out.bel K7.out).setCell (o:=2) (.int .i64 n)
      have k8:Bel wr (w7.setCell ⟨ob,2,none⟩ (.int .i64 n)):=((Keep.of_bel _ (K6.out.tr K7.out)).tr (Keep.setCell w7 ob 2 (.int .i64 n))).below _ (Nat.le_refl _) (λq hq=>by have hq:q=ob:=hq;rw[hq,←HOB.out];exact Nat.le_refl _)
      generalize w7.setCell ⟨ob,2,none⟩ (.int .i64 n)=w8 at *
      have y0:w8.cell? ⟨ob,0,none⟩=some (.int .i64 1):=B8.cell 0
      have y1:w8.cell? ⟨ob,1,none⟩=some (.int .i64 1):=B8.cell 1
      have y2:w8.cell? ⟨ob,2,none⟩=some (.int .i64 n):=B8.cell 2
      have y3:w8.cell? ⟨ob,3,none⟩=some (.int .i64 0):=B8.cell 3
      have y4:w8.cell? ⟨ob,4,none⟩=some (.int .i64 0):=B8.cell 4
      have y5:w8.cell? ⟨ob,5,none⟩=some (.int .i64 0):=B8.cell 5
      have y6:w8.cell? ⟨ob,6,none⟩=some (.string ⟨#[]⟩):=B8.cell 6
      have y7:w8.cell? ⟨ob,7,none⟩=some (.slice none 0 0):=B8.cell 7
      have y8:w8.cell? ⟨ob,8,none⟩=some (.slice none 0 0):=B8.cell 8
      have y9:w8.cell? ⟨ob,9,none⟩=some (.slice none 0 0):=B8.cell 9
      have K8:=xh k8
      have HSO:=xh (step_one E w8 HP.out n HN.out (HJ.out.1.keepBel k8) (λe W hW=>HST.out e W (k8.tr hW)))
      clear B8 k8 f7 o7 o0 o1 o2
      go_upto_region 9 with(go_at_call 12;((with_reducible refine Calls.mono HSO.out ?_);rintro e9 w9 ⟨rfl,i9,k9⟩;have H9:=xh (And.intro i9 k9);clear i9 k9))
      clear y0 y1 y2 y3 y4 y5 y6 y7 y8 y9
      go_wp2_with fail
      go_roundw
      case rel=>exact⟨j+1,by omega,by go_num,rfl,xh ⟨H9.out.1,(HJ.out.2.tr (KeepV.bel K8.out)).tr H9.out.2⟩⟩
      case measure=>simp[intOf]<;>omega
     ·obtain rfl:j=k0:=by omega
      go_wp2_with fail
      go_ret
      have hb5:Bel w w5:=H4.out.tr H5.out.1
      exact⟨rfl,Below.trans hb5 ((HJ.out.2.below (by rw[HEB.out];exact H5.out.1.size)).mono (by rw[HEB.out];exact H4.out.size))⟩
   ·have HLB:=xh λW hW=>(hlb W hW).mono λe w' k=>And.intro k.1 (k.2.1 h0)
    obtain⟨ec,hec⟩:∃ec:Nat,bootE l F=ec:=⟨_,rfl⟩
    rw[hec]at HLB h0
    have hne:((ec:Int) != 0)=true:=bne_iff_ne.2 (by omega)
    clear hr hr2 hl hs hmx hfix hev hsm hsf hl1 hz hsz hlb h0 hsc hec
    go_enter Tryz.func5,Tryz.ntmps5
    have BX:=Blk.new w [.int .i64 l.a,.int .i64 l.b,.int .i64 l.c,.int .i64 l.d,.int .i64 l.e,.slice p F.length cap] 26
    have kx:Bel w (w.alloc (.cells #[.int .i64 l.a,.int .i64 l.b,.int .i64 l.c,.int .i64 l.d,.int .i64 l.e,.slice p F.length cap] 26)):=Bel.start _ _
    change Blk (w.alloc (.cells #[.int .i64 l.a,.int .i64 l.b,.int .i64 l.c,.int .i64 l.d,.int .i64 l.e,.slice p F.length cap] 26)) w.heap.size _ _ at BX
    go_upto_region 1 with fail
    generalize w.alloc (.cells #[.int .i64 l.a,.int .i64 l.b,.int .i64 l.c,.int .i64 l.d,.int .i64 l.e,.slice p F.length cap] 26)=w2 at *
    generalize hxb:w.heap.size=xb at *
    have HXB:=xh hxb
    have HBX:=xh BX
    have HK:Hid (Bel w w2):=xh kx
    clear kx hxb
    obtain⟨x0,x1,x2,x3,x4,x5⟩:=HXX.out _ _ BX
    clear BX
    go_upto_region 2 with(go_at_call 9;((with_reducible refine Calls.mono (HSM.out _ HK.out) ?_);rintro e w4 ⟨rfl,hk⟩;have H4:=xh (HK.out.tr hk);have HB4:=xh (HBX.out.bel hk);clear hk))
    clear x0 x1 x2 x3 x4 x5
    obtain⟨x0,x1,x2,x3,x4,x5⟩:=HXX.out _ _ HB4.out
    go_upto_region 5 with(go_at_call 10;((with_reducible refine Calls.mono (HLB.out _ H4.out) ?_);rintro e w5 ⟨k5,wb,rfl⟩;have H5:=xh k5;clear k5))
    go_wp2_with fail
    go_ret
    exact⟨rfl,H4.out.tr H5.out⟩
end Go.Proofs.YtjdaddmjpicflaaGreatDoor
namespace Go.Proofs.YtjdaddmjpicflaaGreatDoor
open Go.RowKit
theorem madeCells_one (z:Value) (n:Nat):madeCells #[z] n=(List.replicate n z).toArray:=zeroCells_one z n▸by simp[madeCells,Builtin.zeroCells]
theorem make_zeros (n:Nat) (hn:n≤1000000) (x:Int) (w:World) (hx:x=n):(Instr.makeSlice 32 (.int .i64 x) (.int .i64 x)).run Tryz.prog w=.ok (.slice (some ⟨w.heap.size,0,none⟩) n n) (w.alloc (.cells (List.replicate n (Value.int .u8 0)).toArray 5)):=by
 obtain⟨i,hi,h1,h2,h3⟩:=info_parts byteInfo
 subst hx
 have:=run_makeSlice (P:=Tryz.prog) (w:=w) 32 5 i (.int .u8 0) Tryz.underlying32 hi h1 .i64 .i64 n n (by omega) (by omega) (by rw[h2];omega) (by rw[h3];omega) (by omega)
 rw[h2,Nat.mul_one,show(Value.int .u8 0).cells = #[Value.int .u8 0]from rfl,madeCells_one]at this
 exact this
def tinyBase:List Int:=[127,69,76,70,2,1,1]++List.replicate 253 0
def tinyL:List Int:=(((((((((((((((tinyBase).set 16 2).set 18 243).set 20 1).set 25 1).set 32 64).set 52 64).set 54 56).set 56 1).set 64 1).set 68 5).set 73 1).set 81 1).set 96 4).set 104 4).set 256 22
theorem tiny_any (w:World):Calls Tryz.prog 7 #[] w λe w'=>(∃g,e=.returned (.slice (some ⟨g,0,none⟩) 260 260)∧w.heap.size≤g∧Blk w' g (tinyL.map (Value.int .u8)) 5)∧Bel w w':=by
 obtain⟨zs,hzs⟩:∃zs,List.replicate 260 (Value.int .u8 0)=zs:=⟨_,rfl⟩
 have hmk:=λW=>make_zeros 260 (by omega) 260 W rfl
 rw[hzs]at hmk
 have HZ:=xh hzs
 clear hzs
 go_enter Tryz.func7,Tryz.ntmps7
 go_upto_region 2 with fail
 have k1:Bel w (w.alloc (.cells zs.toArray 5)):=Bel.start w _
 have B1:=Blk.new w zs 5
 generalize w.alloc (.cells zs.toArray 5)=w1 at *
 obtain⟨g,hg⟩:∃g,w.heap.size=g:=⟨_,rfl⟩
 rw[hg]at B1⊢
 have hgw:w.heap.size≤g:=by omega
 have HB1:=xh B1
 have HK1:=xh k1
 clear hg B1 k1 hmk
 go_upto_region 3 with(refine wpList_copy_str rfl (.tmp 3) (.const (.string ⟨#[127,69,76,70,2,1,1]⟩)) 32 9 rfl 5 Tryz.underlying32 (by kernel_rfl) g 0 260 260 ⟨#[127,69,76,70,2,1,1]⟩ rfl rfl zs 5 HB1.out (by decide) (by rw[←HZ.out];decide) ?_;intro w2 B2' K2)
 have B2:Blk w2 g (tinyBase.map (Value.int .u8)) 5:=by
  have:=B2'.out
  rw[←HZ.out]at this
  exact this
 have c16:w2.cell? ⟨g,16,none⟩=some (.int .u8 0):=by rw[B2.cell];rfl
 have c18:w2.cell? ⟨g,18,none⟩=some (.int .u8 0):=by rw[B2.cell];rfl
 have c20:w2.cell? ⟨g,20,none⟩=some (.int .u8 0):=by rw[B2.cell];rfl
 have c25:w2.cell? ⟨g,25,none⟩=some (.int .u8 0):=by rw[B2.cell];rfl
 have c32:w2.cell? ⟨g,32,none⟩=some (.int .u8 0):=by rw[B2.cell];rfl
 have c52:w2.cell? ⟨g,52,none⟩=some (.int .u8 0):=by rw[B2.cell];rfl
 have c54:w2.cell? ⟨g,54,none⟩=some (.int .u8 0):=by rw[B2.cell];rfl
 have c56:w2.cell? ⟨g,56,none⟩=some (.int .u8 0):=by rw[B2.cell];rfl
 have c64:w2.cell? ⟨g,64,none⟩=some (.int .u8 0):=by rw[B2.cell];rfl
 have c68:w2.cell? ⟨g,68,none⟩=some (.int .u8 0):=by rw[B2.cell];rfl
 have c73:w2.cell? ⟨g,73,none⟩=some (.int .u8 0):=by rw[B2.cell];rfl
 have c81:w2.cell? ⟨g,81,none⟩=some (.int .u8 0):=by rw[B2.cell];rfl
 have c96:w2.cell? ⟨g,96,none⟩=some (.int .u8 0):=by rw[B2.cell];rfl
 have c104:w2.cell? ⟨g,104,none⟩=some (.int .u8 0):=by rw[B2.cell];rfl
 have c256:w2.cell? ⟨g,256,none⟩=some (.int .u8 0):=by rw[B2.cell];rfl
 have f2:=B2.frozen
 have hl:=B2.lt
 have HB2:=xh B2
 have HK2:Hid (Bel w w2):=xh (Below.trans HK1.out (K2.below _ HK1.out.size (λq hq=>by have hq:q=g:=hq;omega)))
 clear B2 B2' K2
 go_wp2
 go_ret
 refine⟨⟨g,rfl,hgw,?_⟩,(((((((((((((((HK2.out).store (p:=⟨g,16,none⟩) hgw _).store (p:=⟨g,18,none⟩) hgw _).store (p:=⟨g,20,none⟩) hgw _).store (p:=⟨g,25,none⟩) hgw _).store (p:=⟨g,32,none⟩) hgw _).store (p:=⟨g,52,none⟩) hgw _).store (p:=⟨g,54,none⟩) hgw _).store (p:=⟨g,56,none⟩) hgw _).store (p:=⟨g,64,none⟩) hgw _).store (p:=⟨g,68,none⟩) hgw _).store (p:=⟨g,73,none⟩) hgw _).store (p:=⟨g,81,none⟩) hgw _).store (p:=⟨g,96,none⟩) hgw _).store (p:=⟨g,104,none⟩) hgw _).store (p:=⟨g,256,none⟩) hgw _⟩
 have B:=(((((((((((((((HB2.out).setCell (o:=16) (.int .u8 2)).setCell (o:=18) (.int .u8 243)).setCell (o:=20) (.int .u8 1)).setCell (o:=25) (.int .u8 1)).setCell (o:=32) (.int .u8 64)).setCell (o:=52) (.int .u8 64)).setCell (o:=54) (.int .u8 56)).setCell (o:=56) (.int .u8 1)).setCell (o:=64) (.int .u8 1)).setCell (o:=68) (.int .u8 5)).setCell (o:=73) (.int .u8 1)).setCell (o:=81) (.int .u8 1)).setCell (o:=96) (.int .u8 4)).setCell (o:=104) (.int .u8 4)).setCell (o:=256) (.int .u8 22)
 unfold tinyL
 simp only[List.map_set]
 exact B
end Go.Proofs.YtjdaddmjpicflaaGreatDoor
namespace Go.Proofs.YtjdaddmjpicflaaGreatDoor
open Go.RowKit Go.Maps Go.Shelf
def livesLims:Lims:=⟨2,10,2,3,1000⟩
def initB:ByteArray:=⟨#[47,105,110,105,116]⟩
def livesF (p:Option Addr) (cap:Nat):List FileA:=[⟨initB,false,p,cap,tinyL⟩]
def livesN:List Nd:=[rootNd,⟨1,⟨#[105,110,105,116]⟩,false,tinyL,emptyB⟩]
theorem tiny_header:headerOk tinyL=true:=by kernel_rfl
theorem tiny_segs:segsOk tinyL=true:=by kernel_rfl
theorem tiny_n:(segN tinyL).toNat=1:=by kernel_rfl
theorem tiny_entry:entryOk tinyL=true:=by kernel_rfl
theorem tiny_load:loadE tinyL=0:=by
 unfold loadE
 rw[tiny_header,tiny_segs,tiny_n,tiny_entry]
 rw[if_neg (by simp),if_neg (by simp),if_pos (λk hk=>?_),if_pos rfl]
 obtain rfl:k=0:=by omega
 intro n _ _
 rfl
theorem lives_files (p:Option Addr) (cap:Nat):filesF 3 1000 [rootNd] (livesF p cap)=(0,livesN):=by kernel_rfl
theorem lives_walk:(docWalk livesN initP).2.2.2=0∧(docWalk livesN initP).2.2.1=2:=⟨by kernel_rfl,by kernel_rfl⟩
theorem tiny_pages:(pageNums (spaceL tinyL)).length=1:=by kernel_rfl
theorem lives_exec:execE livesN initP true 0 0 10=0:=by
 unfold execE
 rw[lives_walk.1,lives_walk.2]
 rw[if_neg (by simp),if_neg (by simp)]
 simp only[livesN,Nat.reduceSub,List.getElem?_cons_succ,List.getElem?_cons_zero]
 rw[if_neg (by simp),tiny_load,if_neg (by simp),if_neg (by simp),tiny_pages,if_neg (by simp)]
theorem lives_boot (p:Option Addr) (cap:Nat):bootE livesLims (livesF p cap)=0:=by
 unfold bootE
 rw[show livesLims.okA=true from by kernel_rfl,show livesLims.okB=true from by kernel_rfl,show livesLims.d.toNat=3 from rfl,show livesLims.e.toNat=1000 from rfl,show livesLims.b.toNat=10 from rfl,lives_files]
 rw[if_neg (by simp),if_neg (by simp),if_neg (by decide),if_neg (by simp)]
 exact lives_exec
theorem livesFP (g b:Nat) (W:World) (hb:Blk W b [.string initB,.bool false,.slice (some ⟨g,0,none⟩) 260 260] 46) (hg:Blk W g (tinyL.map (Value.int .u8)) 5):FListP W (livesF (some ⟨g,0,none⟩) 260) (.slice (some ⟨b,0,none⟩) 1 1):=by
 have hlen:tinyL.length=260:=by kernel_rfl
 have hby:∀x∈tinyL,0≤x∧x≤255:=by
  have:tinyL.all (λx=>decide (0≤x∧x≤255))=true:=by kernel_rfl
  intro x hx
  exact of_decide_eq_true (List.all_eq_true.1 this x hx)
 refine⟨by simp[livesF],⟨_,_,rfl,λi f hf=>?_⟩,λf hf=>?_⟩
 ·have hi:i=0:=by have:=(List.getElem?_eq_some_iff.1 hf).1;simp[livesF]at this;omega
  subst hi
  cases hf
  refine⟨b,rfl,λj u hj=>?_⟩
  rw[Nat.zero_mul,Nat.zero_add,hb.cell,←hlen]
  exact hj
 ·have hf':f=⟨initB,false,some ⟨g,0,none⟩,260,tinyL⟩:=List.mem_singleton.1 hf
  subst hf'
  refine⟨⟨hby,λ_=>⟨g,0,rfl,hg.lt,⟨λi hi=>?_,hby⟩⟩⟩,by show tinyL.length≤260;omega,by show tinyL.length≤200000;omega,by show initB.size≤1000000;decide,λb' o hb=>?_⟩
  ·rw[Nat.zero_add,hg.cell,List.getElem?_map]
  ·cases hb
   exact hg.lt
theorem livesBoot (g b:Nat) (w1 W:World) (k:Bel w1 W) (hb:Blk W b [.string initB,.bool false,.slice (some ⟨g,0,none⟩) 260 260] 46) (hg:Blk W g (tinyL.map (Value.int .u8)) 5) (hmx:MaxVar w1) (hfix:FixVar w1) :
 Calls Tryz.prog 6 #[.agg #[.int .i64 2,.int .i64 10,.int .i64 2,.int .i64 3,.int .i64 1000],.slice (some ⟨b,0,none⟩) 1 1] W λe w'=>∃tk,e=.returned (.tuple #[.pointer (some ⟨tk,0,none⟩),.nilIface])∧Bel W w':=by
 refine Calls.mono (bootT_any livesLims (livesF (some ⟨g,0,none⟩) 260) (.slice (some ⟨b,0,none⟩) 1 1) W (λW' hW=>livesFP g b W' (hb.bel hW) (hg.bel hW)) (hmx.bel k) (hfix.bel k)) ?_
 rintro e w' ⟨h1,_,h3⟩
 obtain⟨tk,kb,rfl,_⟩:=h3 (lives_boot _ _)
 exact⟨tk,rfl,h1⟩
theorem lives_any (w:World) (hmx:MaxVar w) (hfix:FixVar w):Calls Tryz.prog 4 #[] w λe w'=>e=.returned (.bool true)∧Bel w w':=by
 have HV:=xh (And.intro hmx hfix)
 clear hmx hfix
 go_enter Tryz.func4,Tryz.ntmps4
 go_wp2_with (first
  | (go_at_call 7;((with_reducible refine Calls.mono (tiny_any _) ?_);rintro e w1 ⟨⟨g,rfl,hg,hB⟩,hk⟩;have H1:=xh (And.intro hB hk);clear hg hB hk))
  | (go_at_call 6;((with_reducible refine Calls.mono (livesBoot g w1.heap.size w _ (H1.out.2.ac _) (Blk.new w1 _ _) (H1.out.1.alloc _) HV.out.1 HV.out.2) ?_);rintro e w3 ⟨tk,rfl,hk⟩;have HK3:=xh ((H1.out.2.ac _).tr hk);clear hk))
  | (go_at_call 8;((with_reducible refine Calls.mono (tell_nil _) ?_);rintro e w4 ⟨rfl,hk⟩;have HK4:=xh (HK3.out.tr hk);clear hk)))
 go_ret
 exact⟨rfl,HK4.out⟩
end Go.Proofs.YtjdaddmjpicflaaGreatDoor
namespace Go.Proofs.YtjdaddmjpicflaaGreatDoor
open Go.RowKit Go.MapKept Go.Maps Go.Shelf
def opsRow:Nat→List Value
 | 0=>[]
 | k+1=>opsRow k++opOne 1
theorem opsRow_len:∀k,(opsRow k).length=k*10
 | 0=>rfl
 | k+1=>by rw[opsRow,List.length_append,opsRow_len k];simp[opOne];omega
theorem opsRow_at:∀(k i:Nat),i<k→∀j u,(opOne 1)[j]?=some u→(opsRow k)[i*10+j]?=some u
 | 0,i,h,_,_,_=>by omega
 | k+1,i,h,j,u,hj=>by
   have hlt:j<10:=by have:=(List.getElem?_eq_some_iff.1 hj).1;simpa [opOne]using this
   rw[opsRow]
   by_cases h1:i<k
   ·rw[List.getElem?_append_left (by rw[opsRow_len];omega)]
    exact opsRow_at k i h1 j u hj
   ·obtain rfl:i=k:=by omega
    rw[List.getElem?_append_right (by rw[opsRow_len];omega),opsRow_len,show i*10+j-i*10=j from by omega]
    exact hj
theorem scrB_row {w:World} {base k cap:Nat} {sp:Option Addr} (h:w.ownsRow base 36 10 (.slice sp k cap) k (opsRow k)):ScrB w sp k:=λh0=>by
 obtain⟨p,c,e,_,_,hp⟩:=row_slice h
 cases e
 obtain⟨g,rfl,_,_,hc,_⟩:=hp.resolve_left (by omega)
 obtain⟨_,cs,hb⟩:=row_blk h (g:=g) rfl
 refine⟨g,cs,rfl,hb,λi hi j u hj=>?_⟩
 have h1:=opsRow_at k i hi j u hj
 have hlt:=(List.getElem?_eq_some_iff.1 h1).1
 rw[←hb.cell,hc _ hlt,h1]
theorem opInfo:(Tryz.prog.info? 36).map (λi=>(i.size,i.bytes,(i.zero.map (·.cells.size))))=some (10,136,some 10):=by kernel_rfl
theorem codings_any (l:Lims) (F:List FileA) (p:Option Addr) (cap:Nat) (n:Int) (w:World) (hn : -9223372036854775808≤n∧n<9223372036854775808) (hr:∀(i:Nat) (f:FileA),F[i]?=some f→∃g o,p=some ⟨g,o,none⟩∧w.rangeAt g (o+i*3) [.string f.path,.bool f.dir,.slice f.p f.byt.length f.cap]) (hl:F.length≤140737488351232)
 (hs:∀f∈F,BS w f.p f.byt∧f.byt.length≤140737488351232∧f.path.size≤140737488351232∧f.byt.length≤f.cap∧(0<f.byt.length→∀b o,f.p=some ⟨b,o,none⟩→b<w.heap.size)) (hmx:MaxVar w) (hfix:FixVar w) (hev:ErrVar w) :
 Calls Tryz.prog 3 #[.agg #[.int .i64 l.a,.int .i64 l.b,.int .i64 l.c,.int .i64 l.d,.int .i64 l.e,.slice p F.length cap],.int .i64 n] w λe w'=>e=.returned (.bool true)∧Bel w w':=by
 have hpl:=λ(W:World) (hW:Bel w W) (sp:Option Addr) (k0 sc:Nat) (h1:ScrB W sp k0) (h2:k0≤400)=>playsC_any l F p cap sp k0 sc W (λi f hf=>by
  obtain⟨g,o,h1,h2⟩:=hr i f hf
  exact⟨g,o,h1,λj u hj=>cell_bel hW (h2 j u hj)⟩) hl (λf hf=>⟨(hs f hf).1.bel hW,(hs f hf).2.1,(hs f hf).2.2.1,(hs f hf).2.2.2.1,λh0 b o hb=>Nat.lt_of_lt_of_le ((hs f hf).2.2.2.2 h0 b o hb) hW.size⟩) (hmx.bel hW) (hfix.bel hW) (hev.bel hW) h1 h2
 have HPL:=xh hpl
 have HLV:=xh λW (hW:Bel w W)=>lives_any W (hmx.bel hW) (hfix.bel hW)
 clear hpl hr hl hs hmx hfix hev
 obtain⟨nu,hnu⟩:∃nu:Int,IntKind.u64.wrap n=nu:=⟨_,rfl⟩
 have hnu0:0≤nu∧nu<18446744073709551616:=by rw[←hnu];exact⟨Int.emod_nonneg _ (by decide),Int.emod_lt_of_pos _ (by decide)⟩
 obtain⟨k,hk⟩:∃k:Nat,nu%400=k:=Int.eq_ofNat_of_zero_le (Int.emod_nonneg _ (by decide))
 have hk4:k≤400:=by omega
 have hwk:IntKind.i64.wrap ((k:Nat):Int)=((k:Nat):Int):=by rw[IntKind.wrap_i64];omega
 go_enter Tryz.func3,Tryz.ntmps3
 have BX:=Blk.new w [.int .i64 l.a,.int .i64 l.b,.int .i64 l.c,.int .i64 l.d,.int .i64 l.e,.slice p F.length cap] 26
 have kx:Bel w (w.alloc (.cells #[.int .i64 l.a,.int .i64 l.b,.int .i64 l.c,.int .i64 l.d,.int .i64 l.e,.slice p F.length cap] 26)):=Bel.start _ _
 change Blk (w.alloc (.cells #[.int .i64 l.a,.int .i64 l.b,.int .i64 l.c,.int .i64 l.d,.int .i64 l.e,.slice p F.length cap] 26)) w.heap.size _ _ at BX
 go_upto_region 1 with fail
 generalize w.alloc (.cells #[.int .i64 l.a,.int .i64 l.b,.int .i64 l.c,.int .i64 l.d,.int .i64 l.e,.slice p F.length cap] 26)=w2 at *
 obtain⟨xb,hxb⟩:∃xb,w.heap.size=xb:=⟨_,rfl⟩
 rw[hxb]at BX⊢
 have HBX:=xh BX
 have HK:Hid (Bel w w2):=xh kx
 clear BX kx hxb
 go_upto_region 5 with(go_at_call 4;((with_reducible refine Calls.mono (HLV.out _ HK.out) ?_);rintro e w3 ⟨rfl,hk3⟩;have H3:=xh (HK.out.tr hk3);have HB3:=xh (HBX.out.bel hk3);clear hk3))
 go_upto_region 6 with fail
 have HBP:Hid (Tryz.prog.built 36 [(0,.int .i64 1),(1,.int .i64 1),(2,.int .i64 1)]=some #[.int .i64 1,.int .i64 1,.int .i64 1,.int .i64 0,.int .i64 0,.int .i64 0,.string ⟨#[]⟩,.slice none 0 0,.slice none 0 0,.slice none 0 0]):=xh (by kernel_rfl)
 clear hnu hnu0 hk hwk
 go_upto_region 7 with fail
 go_loopw [6,7] (λv i wr=>∃j:Nat,j≤k∧i=.int .i64 j∧Hid (wr.ownsRow w3.heap.size 36 10 v j (opsRow j)∧Bel w3 wr)) (λ_ i _=>k-(intOf i).toNat)
 case atStart=>exact⟨0,Nat.zero_le _,rfl,xh ⟨World.ownsRow_nil _ _ _ _,Bel.refl _⟩⟩
 case round=>
  obtain⟨j,hj,rfl,HI⟩:=hrel
  by_cases hlt:j<k
  ·go_wp2_with (first
    | (refine wpList_buildTo rfl 36 _ rfl (some 21) rfl _ (by simp only[List.map_toArray,List.map_cons,List.map_nil];exact HBP.out) ?_)
    | (refine wpList_buildSlice_one rfl 28 36 (.tmp 21) rfl [.int .i64 1,.int .i64 1,.int .i64 1,.int .i64 0,.int .i64 0,.int .i64 0,.string ⟨#[]⟩,.slice none 0 0,.slice none 0 0,.slice none 0 0] rfl Tryz.underlying28 opInfo (by show 0<10;omega) (by show 10≤2^24;omega) ?_;intro w5 B5 K5)
    | (refine wpList_append_grown rfl (.tmp 20) (.tmp 22) 28 rfl Tryz.underlying28 opInfo (by omega) rfl (row_bel HI.out.1 K5) _ 1 1 [.int .i64 1,.int .i64 1,.int .i64 1,.int .i64 0,.int .i64 0,.int .i64 0,.string ⟨#[]⟩,.slice none 0 0,.slice none 0 0,.slice none 0 0] 36 rfl B5.out rfl (by intro v hv;simp at hv;rcases hv with rfl|rfl|rfl|rfl<;>rfl) (by unfold maxLen;omega) (by omega) (by have:=K5.size;have:=HI.out.2.size;omega) ?_;intro p9 c9 w9 R9 K9;have HI9:=xh (And.intro R9 (((Keep.of_bel _ (HI.out.2.tr K5)).tr (K9.mono λq hq=>hq)).below _ (Nat.le_refl _) λq hq=>own_ge HI.out.1 q hq));clear R9 K9))
   go_roundw
   case rel=>exact⟨j+1,by omega,by go_num,xh ⟨HI9.out.1,HI9.out.2⟩⟩
   case measure=>simp[intOf]<;>omega
  ·obtain rfl:j=k:=by omega
   obtain⟨sp,sc,rfl,_⟩:=row_slice HI.out.1
   have HSB:Hid (ScrB wr sp j):=xh (scrB_row HI.out.1)
   have HB:=HB3.out.bel HI.out.2
   have x0:wr.cell? ⟨xb,0,none⟩=some (.int .i64 l.a):=HB.cell 0
   have x1:wr.cell? ⟨xb,1,none⟩=some (.int .i64 l.b):=HB.cell 1
   have x2:wr.cell? ⟨xb,2,none⟩=some (.int .i64 l.c):=HB.cell 2
   have x3:wr.cell? ⟨xb,3,none⟩=some (.int .i64 l.d):=HB.cell 3
   have x4:wr.cell? ⟨xb,4,none⟩=some (.int .i64 l.e):=HB.cell 4
   have x5:wr.cell? ⟨xb,5,none⟩=some (.slice p F.length cap):=HB.cell 5
   clear HB
   have HPY:=xh (HPL.out wr (H3.out.tr HI.out.2) sp j sc HSB.out hk4)
   go_wp2_with (go_at_call 5;((with_reducible refine Calls.mono HPY.out ?_);rintro e7 w7 ⟨rfl,k7⟩;have H7:=xh k7;clear k7))
   go_ret
   exact⟨rfl,(H3.out.tr HI.out.2).tr H7.out⟩
end Go.Proofs.YtjdaddmjpicflaaGreatDoor
