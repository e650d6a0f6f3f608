/-.-/
import Derived.Test.YtcnjjchlebmfiaaGreatDoorP18
set_option linter.unusedVariables false
set_option linter.unusedSimpArgs false
set_option maxRecDepth 100000
set_option maxHeartbeats 16000000
namespace Go.Proofs.YtcnjjchlebmfiaaGreatDoor
section
open Go.Proofs.Tryz Go.RowKit
theorem jB:(prog.info? 167).map (λi=>(i.size,i.bytes,(i.zero.map (·.cells.size))))=some (31,264,some 31):=by kernel_rfl
structure mH(w:World)(kb:Nat)(l:dN)(F:List av):Prop where
 tree:∃(iv:Value) (L:List Nd) (s:KV) (pb pc:Nat) (cells:List Value) (v:Value),DK w kb s iv L∧fA L=(bu l.d.toNat l.e.toNat [cZ] F).2∧isDir L 1=true∧bN (fA L)≤100000∧
  s=⟨l.a,l.b,l.c,l.d,l.e,.slice (pb,0) 1 pc,.slice none 0 0,.slice none 0 0,.slice none 0 0,.slice none 0 0,.slice none 0 0⟩∧Blk w pb cells 167∧1≤pc∧kb<pb∧
  cells.take 31=oz lT 0 v (aO (dY L dL) 24 8) (jX (aJ bQ) 1)∧
  w.ownsRow (kb+1) 260 258 v ((az (eO (dY L dL))).length+2) (mJ (aQ (eO (dY L dL)) bQ))
def DZ(w:World)(l:dN)(F:List av)(e:Ending)(w':World):Prop:=
 Bel w w'∧(aW l F≠0→e=.returned (.tuple #[.pointer none,.int .i64 (aW l F:Nat)]))∧(aW l F=0→∃kb:Nat,e=.returned (.tuple #[kb,(0:Int)])∧w.heap.size≤kb∧mH w' kb l F)
theorem DK.ZP{w:World}{kb:Nat}{s:KV}{iv:Value}{L:List Nd}(h:DK w kb s iv L)(v:Value):DK (w.setCell (kb,5) v) kb {s with pv:=v} iv L:=by
 have k:=Keep.setCell w kb 5 v;refine⟨h.blk.setCell (o:=5) v,aZ h.row k (λg hg e=>by have e:g=kb:=e;omega),λn hn=>⟨(h.aN n hn).1.keep k λg hg e=>?_,(h.aN n hn).2⟩,h.few,h.one⟩;obtain⟨_,cur,hb⟩:=(h.aN n hn).1.lt hg;have e:g=kb:=e;subst e;exact h.blk.ne hb (by decide) rfl
def Pb(wx:World)(kb:Nat)(s:KV)(iv:Value)(L:List Nd)(cs:List Value)(xm:World):Prop:=
 ∃(g8 c8:Nat) (cells:List Value),Blk wx g8 cells 167∧cells.take 31=cs∧1≤c8∧31≤cells.length∧kb<g8∧DK wx kb {s with pv:=.slice (g8,0) 1 c8} iv L∧Keep (λq=>kb≤q) xm wx
theorem uQ{xm w8:World}{kb:Nat}{s:KV}{iv:Value}{L:List Nd}{cs:List Value}{p8:Option Addr}{c8:Nat}(h:DK xm kb s iv L)(hl:cs.length=31)(R8:w8.ownsRow (kb+1) 167 31 (.slice p8 (0+1) c8) (0+1) cs)(k8:Bel xm w8):Pb (w8.setCell (kb,5) (.slice p8 (0+1) c8)) kb s iv L cs xm:=by
 have hd:=(h.bel k8).ZP (.slice p8 (0+1) c8);rcases R8.2 with⟨_,h0⟩|⟨g,cap,cur,e,hg,hb,h1,h2,h3,h4⟩
 ·omega
 ·cases e
  have hb':Blk w8 g cur.toList 167:=hb;have WW:cur.toList.length=c8*31:=by simpa using h3
  exact⟨g,c8,cur.toList,hb'.keep (Keep.setCell w8 kb 5 _) (λe=>by have e:g=kb:=e;omega),by simpa using h4,by omega,by omega,by omega,hd,(Keep.of_bel _ k8).tr ((Keep.setCell w8 kb 5 _).mono λq e=>by have e:q=kb:=e;omega)⟩
theorem GV(l:dN)(F:List av)(v1 v2 v3:Value)(w:World)(hF:GU w F v1 v2 v3)(h:l.vY=true)(hb:l.okB=true)(hd:l.d≠0) :
 Calls prog 60 #[.agg (kC l).toArray,v1,v2,v3] w λe w'=>DZ w l F e w':=by
 have hbe:aW l F=if (bu l.d.toNat l.e.toNat [cZ] F).1≠0 then(bu l.d.toNat l.e.toNat [cZ] F).1 else iF (bu l.d.toNat l.e.toNat [cZ] F).2 dL true 0 0 l.b.toNat:=by
  unfold aW;rw[if_neg (by rw[h];simp),if_neg (by rw[hb];simp),if_neg hd]
 have OO:=xh hbe;clear hbe;obtain⟨a,b,c,d,e⟩:=l;simp only at OO
 obtain⟨h1,h2,h3,h4⟩:¬a<1∧¬16<a∧¬b<1∧¬1000<b:=by
  simp only[dN.vY,decide_eq_true_eq]at h
  omega
 obtain⟨g1,g2,g3,g4,g5,g6⟩:¬c<0∧¬100000<c∧¬d<0∧¬100000<d∧¬e<0∧¬100000<e:=by
  simp only[dN.okB,decide_eq_true_eq]at hb
  omega
 have hd0:(d==0)=false:=by simpa using hd
 have HF:=xh hF;have HD:=xh hd;clear h hb hF hd;simp only[kC]
 go_enter func60,ntmps60;go_upto_region 8 with fail
 have k1:Bel w ((w.alloc (.cells #[.int .i64 a,.int .i64 b,.int .i64 c,.int .i64 d,.int .i64 e] 159)).alloc (.cells #[.int .i64 a,.int .i64 b,.int .i64 c,.int .i64 d,.int .i64 e,(),(),(),(),(),(),(),(0:Int)] 174)):=(Bel.start w _).ac _;have B1:Blk ((w.alloc (.cells #[.int .i64 a,.int .i64 b,.int .i64 c,.int .i64 d,.int .i64 e] 159)).alloc (.cells #[.int .i64 a,.int .i64 b,.int .i64 c,.int .i64 d,.int .i64 e,(),(),(),(),(),(),(),(0:Int)] 174)) (w.heap.size+1) (KV.cells ⟨a,b,c,d,e,.slice none 0 0,.slice none 0 0,.slice none 0 0,.slice none 0 0,.slice none 0 0,.slice none 0 0⟩ (.slice none 0 0) 0) 174:=Blk.aT _ _ _ (by simp);generalize (w.alloc (.cells #[.int .i64 a,.int .i64 b,.int .i64 c,.int .i64 d,.int .i64 e] 159)).alloc (.cells #[.int .i64 a,.int .i64 b,.int .i64 c,.int .i64 d,.int .i64 e,(),(),(),(),(),(),(),(0:Int)] 174)=w1 at *
 obtain⟨s,hs⟩:∃s:KV,s=⟨a,b,c,d,e,.slice none 0 0,.slice none 0 0,.slice none 0 0,.slice none 0 0,.slice none 0 0,.slice none 0 0⟩:=⟨_,rfl⟩;rw[←hs]at B1;obtain⟨kb,hkb⟩:=e_x (w.heap.size+1);rw[hkb]at B1⊢;have HS:=xh hs;have hkw:w.heap.size<kb:=by omega
 have LQ:=xh (nC kb s (.slice none 0 0) 0 w1 B1 (by omega));have HB1:=xh B1;have bG:=xh k1;clear hs hkb B1 k1;go_upto_region 9 with(go_at_call 103;((with_reducible refine au LQ.o ?_);rintro e2 w2 ⟨rfl,b2,k2⟩))
 have c7:=b2.c 7 rfl;have f7:=b2.frozen;have hlt2:=b2.lt;have HB2:=xh b2;have gq:Hid (Keep (λq=>kb≤q) w1 w2):=xh (k2.mono λq h=>by have h:q=kb:=h;omega);have Dz:Hid (prog.built 252 [(0,.int .i64 ((0+1:Nat):Int)),(3,.bool true)]=some #[.int .i64 ((0+1:Nat):Int),.int .i64 0,.string ⟨#[]⟩,.bool true,dM]):=xh (by kernel_rfl);clear b2 k2
 go_cut [] (λwx=>Hid (∃zU,DK wx kb s zU [cZ]∧Keep (λq=>kb≤q) w2 wx))
 case first=>
  go_upto_region 10 with(first
   | (refine wpList_buildTo rfl 252 _ rfl (some 77) rfl _ (by simp only[List.map_toArray,List.map_cons,List.map_nil];exact Dz.o) ?_)
   | (refine af rfl 170 252 (.tmp 77) rfl [.int .i64 ((0+1:Nat):Int),(0:Int),.string ⟨#[]⟩,true,dM] rfl underlying170 gz (by show 0<5;omega) (by show 5≤2^24;omega) ?_;intro w3 B3 K3)
   | (at_builtin;refine aI (w:=w3) (base:=kb+1) (n:=0) (xs:=[]) rfl (.tmp 75) (.tmp 78) 170 rfl underlying170 gz (by omega) rfl (World.ownsRow_nil w3 (kb+1) _ _) _ 1 1 [.int .i64 ((0+1:Nat):Int),(0:Int),.string ⟨#[]⟩,true,dM] 252 rfl B3.out rfl (by intro v hv;simp at hv;rcases hv with rfl|rfl|rfl|rfl|rfl<;>rfl) (by unfold maxLen;omega) (by omega) (by have:=K3.size;omega) ?_;intro p4 c4 w4 R4 K4;have B4:=(HB2.o.bel K3).keep K4 (λe=>by cases e);have f4:=B4.frozen;have q4:=B4.c 7 rfl;have l4:=B4.lt;have iY:=xh B4;have HR4:=xh R4;clear B4 R4))
  have B5:Blk (w4.setCell (kb,7) (.slice p4 (0+1) c4)) kb (s.cells (.slice p4 (0+1) c4) (0+1)) 174:=iY.o.setCell (o:=7) _;have R5:=aZ HR4.o (Keep.setCell w4 kb 7 (.slice p4 (0+1) c4)) (λg hg e=>by omega);have K5:Keep (λq=>kb≤q) w2 (w4.setCell (kb,7) (.slice p4 (0+1) c4)):=((Keep.of_bel _ K3).tr (K4.mono λq h=>by cases h)).tr ((Keep.setCell w4 kb 7 _).mono λq h=>by have h:q=kb:=h;omega);have HDK:Hid (∃zU,DK (w4.setCell (kb,7) (.slice p4 (0+1) c4)) kb s zU [cZ]∧Keep (λq=>kb≤q) w2 (w4.setCell (kb,7) (.slice p4 (0+1) c4))):=xh ⟨_,⟨B5,R5,λn hn=>by
   simp at hn
   subst hn;exact⟨⟨(λx hx=>by cases hx),.inl ⟨rfl,rfl⟩⟩,λg hg=>by cases hg⟩,by simp,by simp⟩,K5⟩
  go_wp2_with fail
  go_meet
  exact HDK
 case rest=>
  obtain⟨iv0,hdk,hkc⟩:=hcut.out;have HD0:=xh hdk;have vW:Hid (Keep (λq=>kb≤q) w1 wc):=xh (gq.o.tr hkc);clear c7 f7 hlt2 hdk hkc;have hn:=HF.o.n;have Kk:d.toNat≤100000:=by omega
  have hmb:e.toNat≤100000:=by omega
  have hsd:s.d=(d.toNat:Int):=by rw[HS.o];show d=_;omega
  have hse:s.e=(e.toNat:Int):=by rw[HS.o];show e=_;omega
  have hpv:s.pv=.slice none 0 0:=by rw[HS.o]
  have hov:s.ov=.slice none 0 0:=by rw[HS.o]
  have HSD:=xh hsd;have LV:=xh hse;have TA:=xh hpv;have VN:=xh hov;have vV:Hid (Keep (λq=>kb≤q) w wc):=xh ((Keep.of_bel _ bG.o).tr vW.o);obtain⟨pp,pc,rfl,hp1⟩:=HF.o.paths;obtain⟨dp,dc,rfl,hp2⟩:=HF.o.abY;obtain⟨bp,bc,rfl,hp3⟩:=HF.o.bytes;have uG:=xh hp1;have S9:=xh hp2;have HP3:=xh hp3;clear hp1 hp2 hp3 hsd hse hpv hov;go_wp2_with fail
  go_loopw [12,13] (λi er wr=>∃(k:Nat) (iv:Value) (L:List Nd),k≤F.length∧i=.int .i64 k∧DK wr kb s iv L∧bu d.toNat e.toNat [cZ] F=bu d.toNat e.toNat (fA L) (F.drop k)∧bN (fA L)≤e.toNat∧isDir (fA L) 1=true∧L.length≤k+1∧Keep (λq=>kb≤q) wc wr) (λi _ _=>F.length-(intOf i).toNat)
  case atStart=>exact⟨0,iv0,[cZ],Nat.zero_le _,rfl,HD0.o,rfl,Nat.zero_le _,rfl,by simp,Keep.refl _ _⟩
  case round=>
   obtain⟨k,iv,L,hk,rfl,hdk,hfl,hsm,hrt,hll,hkr⟩:=hrel;have HDK:=xh hdk;have TB:=xh hfl;have qV:=xh hsm;have HRT:=xh hrt;have qU:=xh hkr;clear hdk hfl hsm hrt hkr;by_cases hlt:k<F.length
   ·have hf:=bP hlt
    have hdr:F.drop k=F[k]::F.drop (k+1):=List.drop_eq_getElem_cons hlt;obtain⟨gp,rfl,cp⟩:=uG.o k F[k] hf;obtain⟨gd,rfl,cd⟩:=S9.o k F[k] hf;obtain⟨gb,rfl,cb⟩:=HP3.o k F[k] hf;obtain⟨hb1,hb2,hb3,hb4,hb5⟩:=HF.o.byt F[k] (List.getElem_mem hlt);generalize F[k]=f at *
    have HDR:=xh hdr;have hkk:Keep (λq=>kb≤q) w wr:=vV.o.tr qU.o;have tr:∀(a:Addr) (v:Value),w.cell? a=some v→wr.cell? a=some v:=λa v h=>by
     have hl:=World.block_lt_of_cell? _ _ h;exact(hkk.cell a hl (by show ¬kb≤a.block;omega)).trans h
    have cp':=tr _ _ cp;have cd':=tr _ _ cd;have cb':=tr _ _ cb;have ZQ:BS wr f.p f.byt:=hb1.gu hkk λh0 b o hp h=>by have:=hb5 h0 b o hp;omega
    have WX:=xh λW (hW:Bel wr W)=>LW kb s iv L d.toNat e.toNat f.path f.dir f.p f.cap f.byt W (HDK.o.bel hW) HSD.o Kk LV.o hmb TA.o VN.o (ZQ.bel hW) hb3 (λh0 q o hq=>by have:=hb5 h0 q o hq;omega) qV.o hb4 (by rw[←sP];exact HRT.o);obtain⟨r,hr⟩:=e_x (jq d.toNat e.toNat (fA L) f.path.data.toList f.dir f.byt);have hinv:=LX (mi:=d.toNat) (path:=f.path.data.toList) (is:=f.dir) (b:=f.byt) qV.o HRT.o;rw[hr]at WX hinv;have HR:=xh hr;have Pf:=xh hinv;clear hr hinv ZQ tr hkk cp cd cb hb1 hb2 hb5 hf hdr;go_upto_region 13 with fail
    go_still_tail 13,(by kernel_rfl)
    change wpList _ _ _ _ _ wr.drew
    have kd:Bel wr wr.drew:=Bel.drew (Bel.refl _);generalize wr.drew=wd at *
    have gJ:=xh kd;clear kd cp' cd' cb';go_upto_region 14 with(go_at_call 104;((with_reducible refine au (WX.o wd gJ.o) ?_);rintro e2 w5 ⟨rfl,hst⟩;have HST:=xh hst;clear hst))
    by_cases hr0:r.1=0
    ·have hrb:((r.1:Int)==0)=true:=by rw[hr0];rfl
     obtain⟨iv2,L2,h3,h4⟩:=HST.o.2 hr0;have h5:=HST.o.1;obtain⟨h6,h7,h8⟩:=Pf.o hr0;rw[xI]at h8;have h9:=congrArg List.length h3;rw[xI]at h9;have xq:Hid (∃(iv:Value) (L':List Nd),DK w5 kb s iv L'∧bu d.toNat e.toNat [cZ] F=bu d.toNat e.toNat (fA L') (F.drop (k+1))∧bN (fA L')≤e.toNat∧isDir (fA L') 1=true∧L'.length≤k+1+1∧Keep (λq=>kb≤q) wc w5):=xh ⟨iv2,L2,h4,by
      rw[TB.o,HDR.o,bu,if_neg (by rw[HR.o];simpa using hr0),HR.o,h3],by rw[h3];exact h6,by rw[h3];exact h7,by omega,(qU.o.tr (Keep.of_bel _ gJ.o)).tr h5⟩
     clear hr0 h3 h4 h5 h6 h7 h8 h9;go_wp2
     go_roundw
     case rel=>
      obtain⟨iv,L',j1,j2,j3,j4,j5,j6⟩:=xq.o;exact⟨k+1,iv,L',by omega,by go_num,j1,j2,j3,j4,j5,j6⟩
     case measure=>simp[intOf]<;>omega
    ·have hrb:((r.1:Int)==0)=false:=bK (by omega)
     have ZR:Hid (aW ⟨a,b,c,d,e⟩ F=r.1):=xh (by
      have h3:bu d.toNat e.toNat [cZ] F=(r.1,fA L):=by rw[TB.o,HDR.o,bu,if_pos (by rw[HR.o];exact hr0),HR.o]
      rw[OO.o,h3,if_pos hr0])
     have HR0:=xh hr0;clear hr0;go_wp2
     go_ret2
     have hkk:=((vV.o.tr qU.o).tr (Keep.of_bel _ gJ.o)).tr HST.o.1;exact⟨hkk.below _ (bH _) (λq hq=>by omega),λ_=>by rw[ZR.o];rfl,λh=>absurd (ZR.o.symm.trans h) HR0.o⟩
   ·obtain rfl:k=F.length:=by omega
    have hfin:bu d.toNat e.toNat [cZ] F=(0,fA L):=by rw[TB.o,List.drop_length];rfl
    have TC:Hid (aW ⟨a,b,c,d,e⟩ F=iF (fA L) dL true 0 0 b.toNat):=xh (by rw[OO.o,hfin];rfl);have HFN:=xh hfin;clear hfin;have c5:wr.cell? (kb,5)=some (.slice none 0 0):=by rw[←TA.o];exact HDK.o.blk.cell 5
    have f5:=HDK.o.blk.frozen;have hkl:=HDK.o.blk.lt;go_upto_region 21 with fail
    have kd:Bel wr (wr.alloc (.cells lT.toArray 167)):=Bel.start _ _;have B21:=Blk.new wr lT 167;change Code.wp _ _ _ _ (wr.alloc (.cells lT.toArray 167))
    generalize wr.alloc (.cells lT.toArray 167)=xm at *
    generalize wr.heap.size=pb at *
    have c5:=aa kd c5;have f5:=(HDK.o.blk.bel kd).frozen;have hkl:=(HDK.o.blk.bel kd).lt;obtain⟨cs,hcs⟩:=e_x lT;have hcl:cs.length=31:=by rw[←hcs];rfl
    have hu:=underlying167;have hi:(prog.info? 167).map (·.size)=some cs.length:=by rw[hcl];kernel_rfl
    have hbs:=rD (P:=prog) 168 167 cs underlying168 (by rw[hcl];exact jB) (by omega) (by omega);have Ta:Hid (∀u∈cs,u.oneCell'=true):=xh (by rw[←hcs];intro u hu;simp[lT]at hu;rcases hu with rfl|rfl|rfl|rfl|rfl|rfl<;>rfl);rw[hcs]at B21;have hr:xm.rangeAt pb 0 cs:=by have:=B21.range 0;simpa using this
    have aex:=xh B21;have Zc:=xh hcs;have iV:=xh hcl;have gJ:=xh kd;clear B21 hcs hcl kd;have GX:Hid (∀(p8:Option Addr) (c8:Nat) (w8:World),w8.ownsRow (kb+1) 167 31 (.slice p8 (0+1) c8) (0+1) ([]++cs)→Keep (λq=>(Value.slice none 0 0).ownBlock=some q) (xm.drew.alloc (.cells cs.toArray 167)) w8→Hid (w8.ownsRow (kb+1) 167 31 (.slice p8 (0+1) c8) (0+1) cs∧Bel xm w8)∧w8.cell? (kb,5)=some (.slice none 0 0)∧(∀j,w8.frozen? ⟨kb,j,none⟩=false)∧kb<w8.heap.size):=xh λp8 c8 w8 R8 K8=>by
     have ka:Bel xm (xm.drew.alloc (.cells cs.toArray 167)):=(Bel.drew (Bel.refl xm)).ac _;have k8:Bel xm w8:=ka.tr ⟨K8.os,K8.tape,K8.output,K8.size,λk hk=>K8.block k hk (λe=>by cases e)⟩;exact⟨xh ⟨R8,k8⟩,aa k8 c5,((HDK.o.blk.bel gJ.o).bel k8).frozen,((HDK.o.blk.bel gJ.o).bel k8).lt⟩
    go_cut [] (λwx=>Hid (Pb wx kb s iv L cs xm))
    case first=>
     refine wp_region_any (by kernel_rfl) ?_;change wpAny _ _ _ _ _ _ _ (World.drew _)
     have kdd:Bel xm xm.drew:=Bel.drew (Bel.refl _);have c5:xm.drew.cell? (kb,5)=some (.slice none 0 0):=c5;have hr:xm.drew.rangeAt pb 0 cs:=hr;have c5a:∀o,(xm.drew.alloc o).cell? (kb,5)=some (.slice none 0 0):=λo=>aa (Bel.start _ o) c5;have hwd:kb≤xm.drew.heap.size:=by show kb≤xm.heap.size;omega
     generalize xm.drew=wd at *
     refine wpAny_take (i:=0) (v:=?v0) rfl (by kernel_rfl) (by kernel_rfl) (by kernel_rfl) (λ_ _ _ h=>h) (Or.inl ⟨by rfl,?h0⟩) ?r0
     case h0=>(intro w;go_simp;with_reducible rfl)
     refine wpAny_take (i:=1) (v:=?v1) rfl (by kernel_rfl) (by kernel_rfl) (by kernel_rfl) (λ_ _ _ h=>h) (Or.inl ⟨by rfl,?h1⟩) ?r1
     case h1=>(intro w;go_simp;with_reducible rfl)
     refine wpAny_take (i:=2) (v:=?v2) rfl (by kernel_rfl) (by kernel_rfl) (by kernel_rfl) (λ_ _ _ h=>h) (Or.inl ⟨by rfl,?h2⟩) ?r2
     case h2=>(intro w;go_simp;with_reducible rfl)
     refine wpAny_take (i:=3) (v:=?v3) rfl (by kernel_rfl) (by kernel_rfl) (by kernel_rfl) (λ_ _ _ h=>h) (Or.inl ⟨by rfl,?h3⟩) ?r3
     case h3=>(intro w;go_simp;with_reducible rfl)
     refine wpAny_ready (rs:=[4,5]) (by kernel_rfl) (by simp) ?_;refine AllReady.cons rfl (λK hK=>?o4) ?x4
     case o4=>
      go_simp;refine hK _ _ ?_;clear hK K;refine wpAny_ready (rs:=[5]) (by kernel_rfl) (by simp) ?_;refine AllReady.cons rfl (λK hK=>?_) AllReady.nil;refine ru rfl 167 (.tmp 14) rfl pb 0 rfl cs _ hr hu rfl hi ?_;refine hK _ _ ?_;clear hK K;refine wpAny_ready (rs:=[6]) (by kernel_rfl) (by simp) ?_;refine AllReady.cons rfl (λK hK=>?_) AllReady.nil;refine iB rfl 168 167 (.tmp 117) rfl cs rfl underlying168 (by rw[iV.o];exact jB) (by have:=iV.o;omega) (by have:=iV.o;omega) ?_;refine hK _ _ ?_;clear hK K;refine wpAny_ready (rs:=[7]) (by kernel_rfl) (by simp) ?_;refine AllReady.cons rfl (λK hK=>?_) AllReady.nil;refine gK (base:=kb+1) (n:=0) (xs:=[]) (size:=31) (bytes:=264) rfl (.tmp 116) (.tmp 118) 168 rfl underlying168 jB (by omega) rfl (World.ownsRow_nil _ _ _ _) wd.heap.size 1 1 cs rfl (λj u hj=>by rw[←hj];exact(Blk.new wd cs 167).cell j) (by rw[iV.o]) Ta.o (by unfold maxLen;omega) (by omega) (by simp;omega) ?_;intro p8 c8 w8 R8 K8;obtain⟨OP,c58,f58,ZN⟩:=GX.o p8 c8 w8 R8 K8;clear R8 K8;refine hK _ _ ?_;clear hK K;refine wpAny_take (i:=8) (v:=?v8a) rfl (by kernel_rfl) (by kernel_rfl) (by kernel_rfl) (λ_ _ _ h=>h) (Or.inl ⟨by rfl,?h8a⟩) ?r8a
      case h8a=>(intro w;go_simp;with_reducible rfl)
      refine wpAny_take (i:=9) (v:=?v9a) rfl (by kernel_rfl) (by kernel_rfl) (by kernel_rfl) (λ_ _ _ h=>h) (Or.inl ⟨by rfl,?h9a⟩) ?r9a
      case h9a=>(intro w;go_simp;with_reducible rfl)
      refine wpAny_ready (rs:=[10]) (by kernel_rfl) (by simp) ?_;refine AllReady.cons rfl (λK hK=>?_) AllReady.nil;go_simp;refine hK _ _ ?_;clear hK K;refine wpAny_done (by kernel_rfl) ?_ _;go_wp2_with fail
      go_meet
      exact xh (uQ (HDK.o.bel gJ.o) iV.o OP.out.1 OP.out.2)
     case x4=>
      refine AllReady.cons rfl (λK hK=>?_) AllReady.nil;refine ru rfl 167 (.tmp 14) rfl pb 0 rfl cs _ hr hu rfl hi ?_;refine hK _ _ ?_;clear hK K;refine wpAny_ready (rs:=[4,6]) (by kernel_rfl) (by simp) ?_;refine AllReady.cons rfl (λK hK=>?o45) ?x45
      case o45=>
       go_simp;refine hK _ _ ?_;clear hK K;refine wpAny_ready (rs:=[6]) (by kernel_rfl) (by simp) ?_;refine AllReady.cons rfl (λK hK=>?_) AllReady.nil;refine iB rfl 168 167 (.tmp 117) rfl cs rfl underlying168 (by rw[iV.o];exact jB) (by have:=iV.o;omega) (by have:=iV.o;omega) ?_;refine hK _ _ ?_;clear hK K;refine wpAny_ready (rs:=[7]) (by kernel_rfl) (by simp) ?_;refine AllReady.cons rfl (λK hK=>?_) AllReady.nil;refine gK (base:=kb+1) (n:=0) (xs:=[]) (size:=31) (bytes:=264) rfl (.tmp 116) (.tmp 118) 168 rfl underlying168 jB (by omega) rfl (World.ownsRow_nil _ _ _ _) wd.heap.size 1 1 cs rfl (λj u hj=>by rw[←hj];exact(Blk.new wd cs 167).cell j) (by rw[iV.o]) Ta.o (by unfold maxLen;omega) (by omega) (by simp;omega) ?_;intro p8 c8 w8 R8 K8;obtain⟨OP,c58,f58,ZN⟩:=GX.o p8 c8 w8 R8 K8;clear R8 K8;refine hK _ _ ?_;clear hK K;refine wpAny_take (i:=8) (v:=?v8b) rfl (by kernel_rfl) (by kernel_rfl) (by kernel_rfl) (λ_ _ _ h=>h) (Or.inl ⟨by rfl,?h8b⟩) ?r8b
       case h8b=>(intro w;go_simp;with_reducible rfl)
       refine wpAny_take (i:=9) (v:=?v9b) rfl (by kernel_rfl) (by kernel_rfl) (by kernel_rfl) (λ_ _ _ h=>h) (Or.inl ⟨by rfl,?h9b⟩) ?r9b
       case h9b=>(intro w;go_simp;with_reducible rfl)
       refine wpAny_ready (rs:=[10]) (by kernel_rfl) (by simp) ?_;refine AllReady.cons rfl (λK hK=>?_) AllReady.nil;go_simp;refine hK _ _ ?_;clear hK K;refine wpAny_done (by kernel_rfl) ?_ _;go_wp2_with fail
       go_meet
       exact xh (uQ (HDK.o.bel gJ.o) iV.o OP.out.1 OP.out.2)
      case x45=>
       refine AllReady.cons rfl (λK hK=>?_) AllReady.nil;refine iB rfl 168 167 (.tmp 117) rfl cs rfl underlying168 (by rw[iV.o];exact jB) (by have:=iV.o;omega) (by have:=iV.o;omega) ?_;refine hK _ _ ?_;clear hK K;refine wpAny_ready (rs:=[4]) (by kernel_rfl) (by simp) ?_;refine AllReady.cons rfl (λK hK=>?_) AllReady.nil;go_simp;refine hK _ _ ?_;clear hK K;refine wpAny_ready (rs:=[7]) (by kernel_rfl) (by simp) ?_;refine AllReady.cons rfl (λK hK=>?_) AllReady.nil;refine gK (base:=kb+1) (n:=0) (xs:=[]) (size:=31) (bytes:=264) rfl (.tmp 116) (.tmp 118) 168 rfl underlying168 jB (by omega) rfl (World.ownsRow_nil _ _ _ _) wd.heap.size 1 1 cs rfl (λj u hj=>by rw[←hj];exact(Blk.new wd cs 167).cell j) (by rw[iV.o]) Ta.o (by unfold maxLen;omega) (by omega) (by simp;omega) ?_;intro p8 c8 w8 R8 K8;obtain⟨OP,c58,f58,ZN⟩:=GX.o p8 c8 w8 R8 K8;clear R8 K8;refine hK _ _ ?_;clear hK K;refine wpAny_take (i:=8) (v:=?v8c) rfl (by kernel_rfl) (by kernel_rfl) (by kernel_rfl) (λ_ _ _ h=>h) (Or.inl ⟨by rfl,?h8c⟩) ?r8c
       case h8c=>(intro w;go_simp;with_reducible rfl)
       refine wpAny_take (i:=9) (v:=?v9c) rfl (by kernel_rfl) (by kernel_rfl) (by kernel_rfl) (λ_ _ _ h=>h) (Or.inl ⟨by rfl,?h9c⟩) ?r9c
       case h9c=>(intro w;go_simp;with_reducible rfl)
       refine wpAny_ready (rs:=[10]) (by kernel_rfl) (by simp) ?_;refine AllReady.cons rfl (λK hK=>?_) AllReady.nil;go_simp;refine hK _ _ ?_;clear hK K;refine wpAny_done (by kernel_rfl) ?_ _;go_wp2_with fail
       go_meet
       exact xh (uQ (HDK.o.bel gJ.o) iV.o OP.out.1 OP.out.2)
    case rest=>
     obtain⟨g8,c8,cells,hb8,htk,hc8,abZ,WY,LY,hk8⟩:=hcut.out;have c5:=LY.blk.c 5 rfl;have f5:=LY.blk.frozen;have hkl:=LY.blk.lt;have WZ:cells.take 31=lT:=htk.trans Zc.o.symm;have ZT:b.toNat≤1000:=by omega
     have hsb:s.b=(b.toNat:Int):=by rw[HS.o];show b=_;omega
     have hsum:bN (fA L)≤100000:=by have:=qV.o;omega
     have hex:=λ(W:World) (gs:Nat) (hW:Bel wc W) (hgs:Blk W gs [.string ⟨#[105,110,105,116]⟩] 9)=>GY kb s iv L g8 c8 b.toNat gs cells W (LY.bel hW) (hb8.bel hW) WZ abZ hc8 VN.o hsb ZT hsum (by rw[←sP];exact HRT.o) WY hgs;have W9:=xh hex;have Xa:aW ⟨a,b,c,d,e⟩ F=iF L dL true 0 0 b.toNat:=TC.o.trans (D8 _ _ _ _ _ _);obtain⟨ec,qW⟩:=e_x (iF L dL true 0 0 b.toNat);rw[qW]at W9 Xa;have Ea:=xh Xa;have H8:=xh (And.intro hb8 (And.intro WZ (And.intro LY hk8)));have hci:(0:Int)<(1:Int):=by omega
     clear hex Xa qW hb8 htk LY hk8 WZ hsb hsum;by_cases h0:ec=0
     ·have hrb:((ec:Int)==0)=true:=by rw[h0];rfl
      have H0:=xh h0;clear h0
      go_wp2_with (first
       | (refine af rfl 66 9 (.const (.string ⟨#[105,110,105,116]⟩)) rfl [.string ⟨#[105,110,105,116]⟩] rfl underlying66 iG (by show 0<1;omega) (by show 1≤2^24;omega) ?_;intro w9 B9 K9;have oQ:Hid (Bel wc w9):=xh K9;have DC:Hid (Blk w9 wc.heap.size [.string ⟨#[105,110,105,116]⟩] 9):=xh B9.out;clear B9 K9)
       | (go_at_call 105;((with_reducible refine au (W9.o _ _ oQ.o DC.o) ?_);rintro e2 sI ⟨rfl,k10,h10⟩;have Kl:=xh (And.intro k10 h10);clear k10 h10)))
      go_ret2
      have hkA:Keep (λq=>kb≤q) w w9:=(((vV.o.tr qU.o).tr (Keep.of_bel _ gJ.o)).tr H8.o.2.2.2).tr (Keep.of_bel _ oQ.o);have hkB:Keep (λq=>kb≤q) w sI:=hkA.tr (Kl.o.1.mono λq h=>by have h:q=g8:=h;omega);refine⟨hkB.below _ (bH _) (λq hq=>by have hq:kb≤q:=hq;omega),λh=>absurd (Ea.o.trans H0.o) h,λ_=>⟨kb,rfl,by omega,?_⟩⟩;obtain⟨v,hrow,hblk⟩:=Kl.o.2 H0.o;obtain⟨hl0,x,hxm,hxb⟩:=yh (by rw[←TC.o.trans (D8 _ _ _ _ _ _)];exact Ea.o.trans H0.o);have hbb:∀y∈dY L dL,0≤y∧y≤255:=by rw[hxb];exact(HDK.o.aN x hxm).1.1
      have hlow:=(uR hbb hl0).2;refine⟨iv,L,{s with pv:=.slice (g8,0) 1 c8},g8,c8,oz cells 0 v (aO (dY L dL) 24 8) (jX (aJ bQ) 1),v,?_,?_,?_,?_,?_,hblk,hc8,by omega,GZ _ _ _ _ H8.o.2.1,?_⟩
      ·exact(H8.o.2.2.1.bel oQ.o).TD (H8.o.1.bel oQ.o) Kl.o.1
      ·rw[HFN.o]
      ·rw[←sP];exact HRT.o
      ·have:=qV.o;omega
      ·rw[HS.o]
      ·rw[BZ _ _ hlow]
       exact ownsRow_base_a hrow (by have:=H8.o.2.2.1.blk.lt;have:=oQ.o.size;omega)
     ·have hrb:((ec:Int)==0)=false:=bK (by omega)
      have H0:=xh h0;clear h0
      go_wp2_with (first
       | (refine af rfl 66 9 (.const (.string ⟨#[105,110,105,116]⟩)) rfl [.string ⟨#[105,110,105,116]⟩] rfl underlying66 iG (by show 0<1;omega) (by show 1≤2^24;omega) ?_;intro w9 B9 K9;have oQ:Hid (Bel wc w9):=xh K9;have DC:Hid (Blk w9 wc.heap.size [.string ⟨#[105,110,105,116]⟩] 9):=xh B9.out;clear B9 K9)
       | (go_at_call 105;((with_reducible refine au (W9.o _ _ oQ.o DC.o) ?_);rintro e2 sI ⟨rfl,k10,h10⟩;have Kl:=xh (And.intro k10 h10);clear k10 h10)))
      go_ret2
      have hkA:Keep (λq=>kb≤q) w w9:=(((vV.o.tr qU.o).tr (Keep.of_bel _ gJ.o)).tr H8.o.2.2.2).tr (Keep.of_bel _ oQ.o);have hkB:Keep (λq=>kb≤q) w sI:=hkA.tr (Kl.o.1.mono λq h=>by have h:q=g8:=h;omega);exact⟨hkB.below _ (bH _) (λq hq=>by have hq:kb≤q:=hq;omega),λ_=>by rw[Ea.o];rfl,λh=>absurd (Ea.o.symm.trans h) H0.o⟩
theorem Ma(l:dN)(F:List av)(v:Value)(w:World)(hF:oV w F v)(hmx:dZ w)(hfix:gN w) :
 Calls prog 32 #[.agg (kC l).toArray,v] w λe w'=>Bel w w'∧(aW l F≠0→e=.returned (.tuple #[.pointer none,eD (aW l F:Nat)]))∧(aW l F=0→∃kb:Nat,e=.returned (.tuple #[kb,.nilIface])∧w.heap.size≤kb∧di w' w.heap.size kb l.a l.b l.c l.d.toNat l.e.toNat F):=by
 by_cases hA:l.vY=true
 ·by_cases hB:l.okB=true
  ·by_cases hd:l.d=0
   ·have he:aW l F=12:=by unfold aW;rw[if_neg (by rw[hA];simp),if_neg (by rw[hB];simp),if_pos hd]
    refine(TG l v w hA hB hd).mono ?_;rintro e w' ⟨rfl,k⟩;exact⟨k,λ_=>by rw[he];rfl,λh=>by rw[he]at h;cases h⟩
   ·obtain⟨a,b,c,d,e⟩:=l
    have hB':=hB;simp only[dN.okB,decide_eq_true_eq]at hB'
    obtain⟨mi,rfl⟩:=Int.eq_ofNat_of_zero_le hB'.2.2.1;obtain⟨mb,rfl⟩:=Int.eq_ofNat_of_zero_le hB'.2.2.2.2.1;exact He a b c mi mb F v w hF hA hB (λh=>hd (by show((mi:Nat):Int)=0;omega)) hmx hfix
  ·have hB':l.okB=false:=by simpa using hB
   have he:aW l F=6:=by unfold aW;rw[if_neg (by rw[hA];simp),if_pos hB']
   refine(TF l v w hA hB').mono ?_;rintro e w' ⟨rfl,k⟩;exact⟨k,λ_=>by rw[he];rfl,λh=>by rw[he]at h;cases h⟩
 ·have hA':l.vY=false:=by simpa using hA
  have he:aW l F=6:=by unfold aW;rw[if_pos hA']
  refine(TE l v w hA').mono ?_;rintro e w' ⟨rfl,k⟩;exact⟨k,λ_=>by rw[he];rfl,λh=>by rw[he]at h;cases h⟩
theorem Av(l:dN)(F:List av)(v1 v2 v3:Value)(w:World)(hF:GU w F v1 v2 v3) :
 Calls prog 60 #[.agg (kC l).toArray,v1,v2,v3] w λe w'=>DZ w l F e w':=by
 by_cases hA:l.vY=true
 ·by_cases hB:l.okB=true
  ·by_cases hd:l.d=0
   ·have he:aW l F=12:=by unfold aW;rw[if_neg (by rw[hA];simp),if_neg (by rw[hB];simp),if_pos hd]
    refine(Tz l v1 v2 v3 w hA hB hd).mono ?_;rintro e w' ⟨rfl,k⟩;exact⟨k,λ_=>by rw[he];rfl,λh=>by rw[he]at h;cases h⟩
   ·exact GV l F v1 v2 v3 w hF hA hB hd
  ·have hB':l.okB=false:=by simpa using hB
   have he:aW l F=6:=by unfold aW;rw[if_neg (by rw[hA];simp),if_pos hB']
   refine(Ty l v1 v2 v3 w hA hB').mono ?_;rintro e w' ⟨rfl,k⟩;exact⟨k,λ_=>by rw[he];rfl,λh=>by rw[he]at h;cases h⟩
 ·have hA':l.vY=false:=by simpa using hA
  have he:aW l F=6:=by unfold aW;rw[if_pos hA']
  refine(Tx l v1 v2 v3 w hA').mono ?_;rintro e w' ⟨rfl,k⟩;exact⟨k,λ_=>by rw[he];rfl,λh=>by rw[he]at h;cases h⟩
def Ed(w:World)(l:dN)(F:List av)(e:Ending)(w':World):Prop:=
 Bel w w'∧(aW l F≠0→e=.returned (.tuple #[.pointer none,eD (aW l F:Nat)]))∧(aW l F=0→∃tk kb:Nat,e=.returned (.tuple #[tk,.nilIface])∧w.heap.size≤tk∧w.heap.size≤kb∧Blk w' tk [kb] 83∧di w' w.heap.size kb l.a l.b l.c l.d.toNat l.e.toNat F)
theorem rE.bel{w w':World}{kb:Nat}{a b c:Int}{mi mb:Nat}{F:List av}(h:rE w kb a b c mi mb F)(k:Bel w w'):rE w' kb a b c mi mb F:=by
 obtain⟨pm,tb,ob,cb,pb,sb,A,T,h1,h2,h3,h4,h5,h6,h7,h8⟩:=h;exact⟨pm,tb,ob,cb,pb,sb,A,T,h1.bel k,h2.bel k,h3.bel k,h4.bel k,h5.bel k,h6,h7.bel k,h8.bel k⟩
theorem di.bel{w w':World}{B kb:Nat}{a b c:Int}{mi mb:Nat}{F:List av}(h:di w B kb a b c mi mb F)(k:Bel w w'):di w' B kb a b c mi mb F:=by
 obtain⟨pm,tb,ob,cb,pb,sb,A,T,h1,h2,h3,h4,h5,h6,h7,h8,h9,h10,h11⟩:=h;exact⟨pm,tb,ob,cb,pb,sb,A,T,h1.bel k,h2.bel k,h3.bel k,h4.bel k,h5.bel k,h6,h7.bel k,h8.bel k,h9,h10,h11⟩
theorem di.base{w:World}{B B' kb:Nat}{a b c:Int}{mi mb:Nat}{F:List av}(h:di w B kb a b c mi mb F)(k:B'≤B):di w B' kb a b c mi mb F:=by
 obtain⟨pm,tb,ob,cb,pb,sb,A,T,h1,h2,h3,h4,h5,h6,h7,h8,h9,h10,h11⟩:=h;exact⟨pm,tb,ob,cb,pb,sb,A,T,h1,h2,h3,h4,h5,h6,h7,h8,λq hq=>aV k (h9 q hq),aV k h10,aV k h11.1,aV k h11.2.1,aV k h11.2.2.1,aV k h11.2.2.2.1,aV k h11.2.2.2.2⟩
theorem di.plain{w:World}{B kb:Nat}{a b c:Int}{mi mb:Nat}{F:List av}(h:di w B kb a b c mi mb F):rE w kb a b c mi mb F:=by
 obtain⟨pm,tb,ob,cb,pb,sb,A,T,h1,h2,h3,h4,h5,h6,h7,h8,_⟩:=h;exact⟨pm,tb,ob,cb,pb,sb,A,T,h1,h2,h3,h4,h5,h6,h7,h8⟩
theorem di.lt{w:World}{B kb:Nat}{a b c:Int}{mi mb:Nat}{F:List av}(h:di w B kb a b c mi mb F):kb<w.heap.size:=by
 obtain⟨pm,tb,ob,cb,pb,sb,A,T,h1,_⟩:=h;exact h1.lt
theorem di.keep{S:Nat→Prop}{w w':World}{B kb:Nat}{a b c:Int}{mi mb:Nat}{F:List av}(h:di w B kb a b c mi mb F)(k:Keep S w w')(hs:∀q,S q→q<B∧∃cs,Blk w q cs 5):di w' B kb a b c mi mb F:=by
 obtain⟨pm,tb,ob,cb,pb,sb,A,T,h1,h2,h3,h4,h5,h6,h7,h8,h9,h10,h11⟩:=h;have nb:∀{q:Nat} {cs:List Value} {t:TypeId},Blk w q cs t→t≠5→¬S q:=λhb ht hq=>by
  obtain⟨_,cs',hb'⟩:=hs _ hq;exact hb.ne hb' ht rfl
 exact⟨pm,tb,ob,cb,pb,sb,A,T,h1.keep k (nb h1 (by decide)),h2.of_block (k.block _ h2.lt λhq=>by
  obtain⟨_,cs',hb'⟩:=hs _ hq;exact hb'.dJ h2 rfl),h3.keep k (nb h3 (by decide)),h4.keep k (nb h4 (by decide)),h5.keep k (λq hq hS=>by
  have h1:=h9 q hq;have h2:=(hs q hS).1;omega),h6,h7.keep k (nb h7 (by decide)),h8.of_block (k.block _ h8.lt λhq=>by
  obtain⟨_,cs',hb'⟩:=hs _ hq;obtain⟨kv,hm,_⟩:=h8;exact hb'.dJ hm rfl),h9,h10,h11⟩
theorem Aw(l:dN)(F:List av)(v:Value)(w:World)(hF:∀W,Bel w W→oV W F v)(hmx:dZ w)(hfix:gN w) :
 Calls prog 20 #[.agg (kC l).toArray,v] w λe w'=>Ed w l F e w':=by
 have hb:=λW (hW:Bel w W)=>Ma l F v W (hF W hW) (hmx.bel hW) (hfix.bel hW);by_cases h0:aW l F=0
 ·have HB:=xh λW hW=>(hb W hW).mono λe w' k=>And.intro k.1 (k.2.2 h0)
  have H0:=xh h0;obtain⟨a,b,c,d,e⟩:=l;simp only[kC]at HB⊢
  clear hb h0;go_enter func20,ntmps20;go_wp2_with (go_at_call 32;((with_reducible refine au (HB.o _ (Bel.start w _)) ?_);rintro e2 w1 ⟨k1,kb,rfl,hkb,hk⟩;have H1:=xh (And.intro k1 (And.intro hkb hk));clear k1 hkb hk))
  go_ret2
  have k:=(Bel.start w (.cells #[.int .i64 a,.int .i64 b,.int .i64 c,.int .i64 d,.int .i64 e] 23)).tr H1.o.1;have hkb:=H1.o.2.1;refine⟨k.ac _,λh=>absurd H0.o h,λ_=>⟨w1.heap.size,kb,rfl,k.size,by simp at hkb;omega,Blk.new w1 _ _,(H1.o.2.2.bel (Bel.start w1 _)).base (by simp)⟩⟩
 ·have HB:=xh λW hW=>(hb W hW).mono λe w' k=>And.intro k.1 (k.2.1 h0)
  obtain⟨ec,qW⟩:=e_x (aW l F);rw[qW]at HB h0;have hcb:((ec:Int)==0)=false:=bK (by omega);have Km:=xh qW;have H0:=xh h0;obtain⟨a,b,c,d,e⟩:=l;simp only[kC]at HB⊢
  clear hb h0 qW;go_enter func20,ntmps20;go_wp2_with (go_at_call 32;((with_reducible refine au (HB.o _ (Bel.start w _)) ?_);rintro e2 w1 ⟨k1,rfl⟩;have H1:=xh k1;clear k1))
  go_ret2
  exact⟨(Bel.start w _).tr H1.o,λ_=>by rw[Km.o];rfl,λh=>absurd (Km.o.symm.trans h) H0.o⟩
end
section
open Go.Proofs.Tryz Go.RowKit Go.Maps Go.Shelf
theorem vo(n:Int)(w:World)(hg:ErrVar w):Calls prog 14 #[eD n] w (Z.b (.int .i64 n) w):=zJ _ _ n w (wY n w) hg
theorem Fj(n:Int)(w:World):Calls prog 61 #[n] w (Z.e (.int .i64 n) w):=by
 go_enter func61,ntmps61;go_wp2
 go_ret
 exact⟨rfl,rfl⟩
end
section
open Go.RowKit Go.Maps Go.Shelf
def nL(F:List av):Nat:=(F.map λf=>f.path.size+f.byt.length).sum
theorem Jr{F:List av}{k:Nat}{f:av}(h:F[k]?=some f):nL (F.take (k+1))=nL (F.take k)+(f.path.size+f.byt.length):=by
 unfold nL;rw[List.take_add_one,h];simp
end
section
open Go.RowKit Go.Maps
def av.said(f:av):ByteArray×Bool×List Int:=(f.path,f.dir,f.byt)
theorem lU(mi mb:Nat):∀(N:List Nd) (F G:List av),F.map av.said=G.map av.said→bu mi mb N F=bu mi mb N G:=λN F=>by
 induction F generalizing N with
 | nil=>
   intro G h;cases G with
   | nil=>rfl
   | cons g G=>cases h
 | cons f F ih=>
   intro G h;cases G with
   | nil=>cases h
   | cons g G=>
     rw[List.map_cons,List.map_cons]at h
     injection h with h1 h2
     unfold av.said at h1
     injection h1 with h3 h4
     injection h4 with h5 h6
     unfold bu;rw[h3,h5,h6,ih _ G h2]
theorem Hq(l:dN)(F G:List av)(h:F.map av.said=G.map av.said):aW l F=aW l G:=by
 unfold aW;rw[lU _ _ _ F G h]
theorem mH.same{w:World}{kb:Nat}{l:dN}{F G:List av}(h:mH w kb l F)(e:F.map av.said=G.map av.said):mH w kb l G:=by
 obtain⟨iv,L,s,pb,pc,cells,v,h1,h2,h3⟩:=h;exact⟨iv,L,s,pb,pc,cells,v,h1,h2.trans (by rw[lU _ _ _ F G e]),h3⟩
theorem rE.same{w:World}{kb:Nat}{a b c:Int}{mi mb:Nat}{F G:List av}(h:rE w kb a b c mi mb F)(e:F.map av.said=G.map av.said):rE w kb a b c mi mb G:=by
 obtain⟨pm,tb,ob,cb,pb,sb,A,T,h1,h2,h3,h4,h5,h6,h7⟩:=h;exact⟨pm,tb,ob,cb,pb,sb,A,T,h1,h2,h3,h4,h5,h6.trans (by rw[lU _ _ _ F G e]),h7⟩
theorem di.same{w:World}{B kb:Nat}{a b c:Int}{mi mb:Nat}{F G:List av}(h:di w B kb a b c mi mb F)(e:F.map av.said=G.map av.said):di w B kb a b c mi mb G:=by
 obtain⟨pm,tb,ob,cb,pb,sb,A,T,h1,h2,h3,h4,h5,h6,h7⟩:=h;exact⟨pm,tb,ob,cb,pb,sb,A,T,h1,h2,h3,h4,h5,h6.trans (by rw[lU _ _ _ F G e]),h7⟩
theorem mH.bel{w w':World}{kb:Nat}{l:dN}{F:List av}(h:mH w kb l F)(k:Bel w w'):mH w' kb l F:=by
 obtain⟨iv,L,s,pb,pc,cells,v,h1,h2,h3,h4,h5,hb,hpc,hlt,htk,hr⟩:=h;exact⟨iv,L,s,pb,pc,cells,v,h1.bel k,h2,h3,h4,h5,hb.bel k,hpc,hlt,htk,aB hr k⟩
end
section
open Go.RowKit Go.Maps Go.Shelf
theorem eX{w w':World}{base AB:Nat}{e e2:TypeId}{size QY:Nat}{v v2:Value}{n n2:Nat}{xs ys:List Value}(h:w.ownsRow base e size v n xs)(h2:w.ownsRow AB e2 QY v2 n2 ys)(hne:e≠e2)(k:Keep (λq=>v2.ownBlock=some q) w w'):w'.ownsRow base e size v n xs:=by
 refine⟨h.1,?_⟩;rcases h.2 with h3|⟨g,cap,cur,rfl,h3,h4,h5⟩
 ·exact .inl h3
 ·have hb:Blk w g cur.toList e:=h4
  refine .inr ⟨g,cap,cur,rfl,h3,(k.block g hb.lt λhq=>?_).trans h4,h5⟩;obtain⟨_,c2,hb2⟩:=row_blk h2 hq;exact hb.ne hb2 hne rfl
theorem iU{w w':World}{AB:Nat}{e e2:TypeId}{QY:Nat}{v2:Value}{n2:Nat}{ys cs:List Value}{g:Nat}(h:Blk w g cs e)(h2:w.ownsRow AB e2 QY v2 n2 ys)(hne:e≠e2)(k:Keep (λq=>v2.ownBlock=some q) w w'):Blk w' g cs e:=
 h.keep k λhq=>by
  obtain⟨_,c2,hb2⟩:=row_blk h2 hq;exact h.ne hb2 hne rfl
def av.cells(f:av):List Value:=[.string f.path,.bool f.dir,.slice f.p f.byt.length f.cap]
structure Roomy(W:World)(base:Nat)(G:List av):Prop where
 row:∀(i:Nat) (g:av),G[i]?=some g→∃b,g.p=some ⟨b,0,none⟩∧g.cap=g.byt.length+2∧base≤b∧Blk W b ((g.byt++[71,72]).map (Value.int .u8)) 5
 XY:∀(i j:Nat) (g h:av) (b c:Nat),i<j→G[i]?=some g→G[j]?=some h→g.p=some ⟨b,0,none⟩→h.p=some ⟨c,0,none⟩→b<c
structure Wv(w0:World)(F:List av)(k:Nat)(v5 v6 v7 v8:Value)(W:World):Prop where
 bel:Bel w0 W
 r5:W.ownsRow w0.heap.size 9 1 v5 k ((F.take k).map λf=>.string f.path)
 r6:W.ownsRow w0.heap.size 4 1 v6 k ((F.take k).map λf=>.bool f.dir)
 r7:W.ownsRow w0.heap.size 59 1 v7 k ((F.take k).map λf=>.slice f.p f.byt.length f.cap)
 r8:∃G:List av,G.map av.said=(F.take k).map av.said∧W.ownsRow w0.heap.size 71 3 v8 k (G.flatMap av.cells)∧Roomy W w0.heap.size G
end
section
open Go.RowKit Go.Maps Go.Shelf
structure uk(w2:World)(fb:Nat)(f:av)(x5 x6 x7:List Value)(n5 n6 n7:Nat)(G:List av)(v5 v6 v7 v8:Value)(W:World):Prop where
 bel:Bel w2 W
 fbk:w2.heap.size≤fb
 fb:Blk W fb f.cells 71
 r5:W.ownsRow w2.heap.size 9 1 v5 n5 x5
 r6:W.ownsRow w2.heap.size 4 1 v6 n6 x6
 r7:W.ownsRow w2.heap.size 59 1 v7 n7 x7
 r8:W.ownsRow w2.heap.size 71 3 v8 G.length (G.flatMap av.cells)
 rm:Roomy W w2.heap.size G
theorem Roomy.to{W W':World}{base:Nat}{G:List av}(h:Roomy W base G)(k:∀b cs,Blk W b cs 5→Blk W' b cs 5):Roomy W' base G:=⟨λi g hg=>by
 obtain⟨b,h1,h2,h3,h4⟩:=h.row i g hg;exact⟨b,h1,h2,h3,k b _ h4⟩,h.XY⟩
theorem Roomy.nil(W:World)(base:Nat):Roomy W base []:=⟨λi g h=>(by simp at h),λi j g h b c _ hi=>(by simp at hi)⟩
variable {w2 W W':World} {fb n5 n6 n7:Nat} {f:av} {x5 x6 x7:List Value} {G:List av} {v5 v6 v7 v8:Value}
theorem uk.to(h:uk w2 fb f x5 x6 x7 n5 n6 n7 G v5 v6 v7 v8 W)(k:Bel W W'):uk w2 fb f x5 x6 x7 n5 n6 n7 G v5 v6 v7 v8 W':=
 ⟨h.bel.tr k,h.fbk,h.fb.bel k,aB h.r5 k,aB h.r6 k,aB h.r7 k,aB h.r8 k,h.rm.to λ_ _ hb=>hb.bel k⟩
theorem xQ{e:TypeId}{size n:Nat}{v:Value}{xs:List Value}(h:Bel w2 W)(hr:W.ownsRow w2.heap.size e size v n xs)(k:Keep (λq=>v.ownBlock=some q) W W'):Bel w2 W':=
 ((Keep.of_bel (λq=>v.ownBlock=some q) h).tr k).below _ (bH _) λq hq=>(row_blk hr hq).1
theorem uk.aaY(h:uk w2 fb f x5 x6 x7 n5 n6 n7 G v5 v6 v7 v8 W){v':Value}{n':Nat}{x':List Value}(k:Keep (λq=>v5.ownBlock=some q) W W')(r:W'.ownsRow w2.heap.size 9 1 v' n' x'):uk w2 fb f x' x6 x7 n' n6 n7 G v' v6 v7 v8 W':=
 ⟨xQ h.bel h.r5 k,h.fbk,iU h.fb h.r5 (by decide) k,r,eX h.r6 h.r5 (by decide) k,eX h.r7 h.r5 (by decide) k,eX h.r8 h.r5 (by decide) k,h.rm.to λ_ _ hb=>iU hb h.r5 (by decide) k⟩
theorem uk.aaZ(h:uk w2 fb f x5 x6 x7 n5 n6 n7 G v5 v6 v7 v8 W){v':Value}{n':Nat}{x':List Value}(k:Keep (λq=>v6.ownBlock=some q) W W')(r:W'.ownsRow w2.heap.size 4 1 v' n' x'):uk w2 fb f x5 x' x7 n5 n' n7 G v5 v' v7 v8 W':=
 ⟨xQ h.bel h.r6 k,h.fbk,iU h.fb h.r6 (by decide) k,eX h.r5 h.r6 (by decide) k,r,eX h.r7 h.r6 (by decide) k,eX h.r8 h.r6 (by decide) k,h.rm.to λ_ _ hb=>iU hb h.r6 (by decide) k⟩
theorem uk.aa0(h:uk w2 fb f x5 x6 x7 n5 n6 n7 G v5 v6 v7 v8 W){v':Value}{n':Nat}{x':List Value}(k:Keep (λq=>v7.ownBlock=some q) W W')(r:W'.ownsRow w2.heap.size 59 1 v' n' x'):uk w2 fb f x5 x6 x' n5 n6 n' G v5 v6 v' v8 W':=
 ⟨xQ h.bel h.r7 k,h.fbk,iU h.fb h.r7 (by decide) k,eX h.r5 h.r7 (by decide) k,eX h.r6 h.r7 (by decide) k,r,eX h.r8 h.r7 (by decide) k,h.rm.to λ_ _ hb=>iU hb h.r7 (by decide) k⟩
theorem jQ{α β:Type}{F:List α}{k:Nat}{f:α}(hf:F[k]?=some f)(g:α→β):(F.take k).map g++[g f]=(F.take (k+1)).map g:=by
 rw[List.take_add_one,hf];simp
theorem NB{F:List av}{k:Nat}(hf:F[k]?=some f)(h:uk w2 fb f ((F.take k).map (λf=>.string f.path)++[.string f.path]) ((F.take k).map (λf=>.bool f.dir)++[.bool f.dir]) ((F.take k).map (λf=>.slice f.p f.byt.length f.cap)++[.slice f.p f.byt.length f.cap]) (k+1) (k+1) (k+1) G v5 v6 v7 v8 W)
 (hG:G.map av.said=(F.take k).map av.said)(Tm:G.length=k)(g:Nat)(hg:w2.heap.size≤g)(hnew:∀(i:Nat) (g0:av) (b:Nat),G[i]?=some g0→g0.p=some ⟨b,0,none⟩→b<g)(hb:Blk W g ((f.byt++[71,72]).map (Value.int .u8)) 5){v':Value}(K:Keep (λq=>v8.ownBlock=some q) W W')
 (r:W'.ownsRow w2.heap.size 71 3 v' (G.length+1) (G.flatMap av.cells++[.string f.path,.bool f.dir,.slice (g,0) f.byt.length (f.byt.length+2)])):Wv w2 F (k+1) v5 v6 v7 v' W':=by
 refine⟨xQ h.bel h.r8 K,?_,?_,?_,G++[⟨f.path,f.dir,some ⟨g,0,none⟩,f.byt.length+2,f.byt⟩],?_,?_,?_⟩
 ·have:=eX h.r5 h.r8 (by decide) K
  rwa [jQ hf (λf=>Value.string f.path)]at this
 ·have:=eX h.r6 h.r8 (by decide) K
  rwa [jQ hf (λf=>Value.bool f.dir)]at this
 ·have:=eX h.r7 h.r8 (by decide) K
  rwa [jQ hf (λf=>Value.slice f.p f.byt.length f.cap)]at this
 ·rw[←jQ hf av.said,List.map_append,hG]
  rfl
 ·rw[List.flatMap_append,←Tm]
  simpa [av.cells]using r
 ·have hsplit:∀(i:Nat) (g':av),(G++[⟨f.path,f.dir,some ⟨g,0,none⟩,f.byt.length+2,f.byt⟩])[i]?=some g'→G[i]?=some g'∧i<G.length∨i=G.length∧g'=⟨f.path,f.dir,some ⟨g,0,none⟩,f.byt.length+2,f.byt⟩:=λi g' hi=>by
   by_cases h1:i<G.length
   ·rw[List.getElem?_append_left h1]at hi
    exact .inl ⟨hi,h1⟩
   ·rw[List.getElem?_append_right (by omega)]at hi
    have h2:=(bZ hi).1;simp at h2
    have e:i-G.length=0:=by omega
    rw[e]at hi;cases hi
    exact .inr ⟨by omega,rfl⟩
  refine⟨λi g' hi=>?_,λi j g1 h1 b c hij hi hj hb1 hc1=>?_⟩
  ·rcases hsplit i g' hi with⟨h1,_⟩|⟨_,rfl⟩
   ·obtain⟨b,e1,e2,e3,e4⟩:=h.rm.row i g' h1
    exact⟨b,e1,e2,e3,iU e4 h.r8 (by decide) K⟩
   ·exact⟨g,rfl,rfl,hg,iU hb h.r8 (by decide) K⟩
  ·rcases hsplit i g1 hi with⟨e1,_⟩|⟨e1,rfl⟩
   ·rcases hsplit j h1 hj with⟨e2,_⟩|⟨_,rfl⟩
    ·exact h.rm.XY i j g1 h1 b c hij e1 e2 hb1 hc1
    ·cases hc1
     exact hnew i g1 b e1 hb1
   ·rcases hsplit j h1 hj with⟨_,e2⟩|⟨e2,_⟩<;>omega
theorem vC{w:World}{F G:List av}{v:Value}{base:Nat}(hG:G.map av.said=F.map av.said)(hl:F.length≤100)(hs:∀f∈F,(∀x∈f.byt,0≤x∧x≤255)∧f.byt.length≤200000∧f.path.size≤200000)
 (hr:w.ownsRow base 71 3 v G.length (G.flatMap av.cells))(hm:Roomy w base G):oV w G v:=by
 have Tm:G.length=F.length:=by have:=congrArg List.length hG;simpa using this
 have hmem:∀g∈G,∃f∈F,g.said=f.said:=λg hg=>by
  have h1:g.said∈G.map av.said:=List.mem_map_of_mem hg;rw[hG]at h1;obtain⟨f,hf,e⟩:=List.mem_map.1 h1;exact⟨f,hf,e.symm⟩
 obtain⟨p,c,rfl,_,_,h3⟩:=aD hr;refine⟨by omega,⟨p,c,rfl,λi f hf=>?_⟩,λf hf=>?_⟩
 ·have hlt:=(bZ hf).1
  rcases h3 with⟨h0,_⟩|⟨g,rfl,_,_,hc,_⟩
  ·omega
  ·refine⟨g,rfl,λj u hj=>?_⟩
   have hj3:j<3:=by have:=(bZ hj).1;simpa using this
   have hfl:=iK av.cells 3 G (λ_ _=>rfl) i j hj3;have hlen:i*3+j<(G.flatMap av.cells).length:=by
    rw[fq av.cells 3 G (λ_ _=>rfl)];omega
   show w.cell? (g,i*3+j)=_
   rw[hc _ hlen,hfl,hf];exact hj
 ·obtain⟨f',hf',e⟩:=hmem f hf
  obtain⟨h1,h2,h4⟩:=hs f' hf';have e1:f.path=f'.path:=congrArg (·.1) e;have e2:f.byt=f'.byt:=congrArg (·.2.2) e;obtain⟨i,hi⟩:=List.mem_iff_getElem?.1 hf;obtain⟨b,k1,k2,_,k4⟩:=hm.row i f hi;rw[e1,k1,k2];have hby:∀x∈f.byt,0≤x∧x≤255:=by rw[e2];exact h1
  refine⟨⟨hby,λh0=>⟨b,0,rfl,k4.lt,⟨λi hi=>?_,hby⟩⟩⟩,by omega,by rw[e2];exact h2,by omega,λb' o hb=>?_⟩
  ·rw[Nat.zero_add,k4.cell,dA,List.getElem?_append_left hi]
  ·cases hb
   exact k4.lt
def kg(G:List av)(q:Nat):Prop:=∃(i:Nat) (g:av),G[i]?=some g∧g.p=some ⟨q,0,none⟩
theorem Roomy.blk{W:World}{base:Nat}{G:List av}(h:Roomy W base G){q:Nat}(hq:kg G q):base≤q∧q<W.heap.size∧∃cs,Blk W q cs 5:=by
 obtain⟨i,g,hi,hp⟩:=hq;obtain⟨b,h1,_,h3,h4⟩:=h.row i g hi;rw[hp]at h1;cases h1
 exact⟨h3,h4.lt,_,h4⟩
theorem NC{S:Nat→Prop}{w w':World}{base:Nat}{e:TypeId}{size:Nat}{v:Value}{n:Nat}{xs:List Value}(h:w.ownsRow base e size v n xs)(k:Keep S w w')(hs:∀q,S q→∃cs t,Blk w q cs t∧t≠e):w'.ownsRow base e size v n xs:=by
 refine⟨h.1,?_⟩;rcases h.2 with h3|⟨g,cap,cur,rfl,h3,h4,h5⟩
 ·exact .inl h3
 ·have hb:Blk w g cur.toList e:=h4
  refine .inr ⟨g,cap,cur,rfl,h3,(k.block g hb.lt λhq=>?_).trans h4,h5⟩;obtain⟨cs,t,hb2,hne⟩:=hs g hq;exact hb.ne hb2 (λe=>hne e.symm) rfl
theorem yZ{w:World}{base:Nat}{e:TypeId}{v:Value}{F:List av}(c:av→Value)(h:w.ownsRow base e 1 v F.length (F.map c)):∃p cp,v=.slice p F.length cp∧∀(i:Nat) (f:av),F[i]?=some f→∃g,p=some ⟨g,0,none⟩∧w.cell? ⟨g,i,none⟩=some (c f):=by
 obtain⟨p,cp,rfl,_,_,h3⟩:=aD h;refine⟨p,cp,rfl,λi f hf=>?_⟩;have hlt:=(bZ hf).1;rcases h3 with⟨h0,_⟩|⟨g,rfl,_,_,hc,_⟩
 ·omega
 ·exact⟨g,rfl,by rw[hc i (by simpa using hlt),dA,hf];rfl⟩
structure um(w:World)(base:Nat)(G:List av)(k:Nat)(W:World):Prop where
 keep:Keep (kg G) w W
 rest:∀(i:Nat) (g:av),k≤i→G[i]?=some g→∃b,g.p=some ⟨b,0,none⟩∧Blk W b ((g.byt++[71,72]).map (Value.int .u8)) 5
theorem um.start{w:World}{base:Nat}{G:List av}(h:Roomy w base G):um w base G 0 w:=⟨Keep.refl _ _,λi g _ hi=>by
 obtain⟨b,h1,_,_,h4⟩:=h.row i g hi;exact⟨b,h1,h4⟩⟩
theorem um.next{w W W':World}{base:Nat}{G:List av}{k b:Nat}{g:av}(h:um w base G k W)(hr:Roomy w base G)(hg:G[k]?=some g)(hp:g.p=some ⟨b,0,none⟩)(K:Keep (λq=>q=b) W W'):um w base G (k+1) W':=
 ⟨h.keep.tr (K.mono λq hq=>by subst hq;exact⟨k,g,hg,hp⟩),λi g' hi hg'=>by
   obtain⟨c,h1,h2⟩:=h.rest i g' (by omega) hg';exact⟨c,h1,h2.keep K λe=>by have h3:=hr.XY k i g g' b c (by omega) hg hg' hp h1;have e:c=b:=e;omega⟩⟩
end
end Go.Proofs.YtcnjjchlebmfiaaGreatDoor
