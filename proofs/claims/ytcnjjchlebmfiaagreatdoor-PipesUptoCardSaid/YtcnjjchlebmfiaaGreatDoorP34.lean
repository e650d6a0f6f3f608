/-.-/
import Derived.Test.YtcnjjchlebmfiaaGreatDoorP33
set_option linter.all false
set_option maxRecDepth 100000
set_option maxHeartbeats 16000000
namespace Go.Proofs.YtcnjjchlebmfiaaGreatDoor
section
open Go.Proofs.Tryz Go.RowKit Go.Maps
section
variable {P:Program} {w:World}
theorem xw(t tx ty:TypeId)(i:TypeInfo)(z:Value)(ht:P.underlying t=some (.slice 5))(hi:P.info? 5=some i)(hz:i.zero=some z)(hs:i.size=1)(hb:i.bytes=1)(hzc:z.cells = #[.int .u8 0])
 (v x:Value)(L M:List Int)(hv:Buf w v L)(hM:∀y∈M,fP y)(hx:Src P 1 tx x M.length (M.map (Value.int .u8)) w)(hlen:L.length+M.length≤100000000) :
 ∃v' w',(Builtin.append_ #[t,tx] ty #[v,x]).run P w=.ok v' w'∧Buf w' v' (L++M)∧jl w w' v (dV v)∧(∀g,ag v'=some g→ag v=some g∨w.heap.size≤g)∧(∀p,v=.slice p L.length L.length→Bel w w')∧(∀g,ag v'=some g→ag v=some g→∀j,dV v j→dV v' j):=by
 obtain⟨p,cap,rfl,h1,h2,h3,h4⟩:=hv;have hby:∀y∈L++M,fP y:=λy hy=>(List.mem_append.1 hy).elim (h3 y) (hM y);by_cases hroom:L.length+M.length≤cap
 ·rcases h4 with⟨rfl,rfl⟩|⟨g,o,cs,rfl,hbk,h5,h6⟩
  ·have hL:L=[]:=List.eq_nil_of_length_eq_zero (by omega)
   have hM0:M=[]:=List.eq_nil_of_length_eq_zero (by omega);subst hL hM0;have hcl:=hx.cells;rw[List.length_nil]at hcl;have hk:=hx.kind;have hle:=hx.len;simp only[List.length_nil]at hle
   refine⟨.slice none 0 0,w,?_,Buf.nil w,jl.bel (Bel.refl w),λg hg=>(by cases hg),λ_ _=>Bel.refl w,λg hg=>(by cases hg)⟩;rcases hk with⟨e',hk⟩|hk<;>simp[Builtin.append_,run_underlying ht,run_underlying hk,sizeOf,typeInfo,hi,hs,hle,hcl]
  ·have hr:=run_append_room_src (P:=P) w t tx ty 5 i ht hi g o L.length cap x M.length (M.map (Value.int .u8)) (by rw[hs];exact hx) hroom (λj hj=>by
    rw[fJ]at hj;rw[hs,Nat.mul_one,hbk.cell,bP (by omega)];rfl) (λj hj=>hbk.frozen _)
   rw[hs,Nat.mul_one]at hr;have hfit:(o+L.length)+(M.map (Value.int .u8)).length≤cs.length:=by rw[fJ];omega
   refine⟨_,_,hr,⟨some ⟨g,o,none⟩,cap,by rw[List.length_append],by rw[List.length_append];exact hroom,h2,hby,.inr ⟨g,o,_,rfl,hbk.setCells (o+L.length) _ hfit,by rw[length_splice _ _ _ hfit];exact h5,λi' y hy=>?_⟩⟩,⟨Keep.mono (Keep.setCells w g _ _) λq hq=>by rw[show q=g from hq];rfl,λg' hg' cs' t' hb'=>?_⟩,λg' hg'=>.inl hg',λp' hp'=>?_,λg' _ _ j hj=>?_⟩
   rotate_right
   ·have hj:cap=0∨j<o+L.length:=hj
    show cap=0∨j<o+(L.length+M.length)
    omega
   rotate_right
   ·have hM0:M=[]:=List.eq_nil_of_length_eq_zero (by cases hp';omega)
    subst hM0;exact Bel.refl w
   ·by_cases hlt:i'<L.length
    ·rw[nT _ _ _ _ hfit (.inl (by omega))]
     rw[List.getElem?_append_left hlt]at hy;exact h6 i' y hy
    ·rw[List.getElem?_append_right (by omega)]at hy
     have hlt2:=(bZ hy).1;rw[show o+i'=(o+L.length)+(i'-L.length)from by omega];unfold splice;rw[List.getElem?_append_right (by rw[List.length_take];omega),List.length_take,Nat.min_eq_left (by omega),List.getElem?_append_left (by rw[fJ];omega),show o+L.length+(i'-L.length)-(o+L.length)=i'-L.length from by omega,dA,hy];rfl
   ·cases hg'
    unfold Blk at hbk hb';rw[hbk]at hb'
    injection hb' with hb'
    injection hb' with e1 e2
    have e1:cs=cs':=by simpa using e1
    subst e1 e2;exact⟨_,(show Blk w g cs 5 from hbk).setCells (o+L.length) _ hfit,length_splice _ _ _ hfit,λj hj=>nT _ _ _ _ hfit (by
     have hj:cap=0∨j<o+L.length:=hj;rcases hj with hj|hj
     ·rw[fJ];omega
     ·exact .inl hj)⟩
 ·have hold:(Builtin.firstCells i.size L.length (.slice p L.length cap)).run P w.drew=.ok (L.map (Value.int .u8)).toArray w.drew:=by
   rw[hs];rcases h4 with⟨rfl,rfl⟩|⟨g,o,cs,rfl,hbk,h5,h6⟩
   ·have hL:L=[]:=List.eq_nil_of_length_eq_zero (by omega)
    subst hL;exact run_firstCells_none (P:=P) w.drew 1 0 0 0
   ·refine run_firstCells_some (P:=P) w.drew 1 L.length ⟨g,o,none⟩ L.length cap (L.map (Value.int .u8)) (by simp) λj u hj=>?_
    rw[dA]at hj;obtain⟨y,hy,rfl⟩:=Option.map_eq_some_iff.1 hj;rw[Addr.add_lit];show w.cell? _=_
    rw[hbk.cell];exact h6 j y hy
  have hg:cap<L.length+M.length:=by omega
  have hr:=run_append_grow_src (P:=P) w t tx ty 5 i z ht hi hz p L.length cap (L.map (Value.int .u8)) hold x M.length (M.map (Value.int .u8)) (by rw[hs];exact hx) hg (by omega) (by rw[hb];exact growslice_fits (bytes:=1) hg (by omega));rw[hzc,jN]at hr;have hge:=grownCap_ge w (L.length+M.length) cap 5;have hb2:Bel w (w.drew.alloc (.cells ((L.map (Value.int .u8)++M.map (Value.int .u8)).toArray++(List.replicate (grownCap w (L.length+M.length) cap 5-(L.length+M.length)) (Value.int .u8 0)).toArray) 5)):=(Bel.drew (Bel.refl w)).tr (Bel.start _ _);refine⟨_,_,hr,⟨_,grownCap w (L.length+M.length) cap 5,by rw[List.length_append],by rw[List.length_append];exact hge,grownCap_le_maxLen w _ _ _ (by unfold maxLen;omega),hby,.inr ⟨w.heap.size,0,(L.map (Value.int .u8)++M.map (Value.int .u8))++List.replicate (grownCap w (L.length+M.length) cap 5-(L.length+M.length)) (Value.int .u8 0),rfl,?_,by simp;omega,λi' y hy=>?_⟩⟩,jl.bel hb2,λg' hg'=>.inr (by cases hg';exact bH _),λ_ _=>hb2,λg' hg' hg2=>?_⟩
  ·have h:=Blk.new w.drew ((L.map (Value.int .u8)++M.map (Value.int .u8))++List.replicate (grownCap w (L.length+M.length) cap 5-(L.length+M.length)) (Value.int .u8 0)) 5
   rw[←List.append_toArray]at h;exact h
  ·rw[Nat.zero_add,←List.map_append,List.getElem?_append_left (by rw[fJ];exact(bZ hy).1),dA,hy]
   rfl
  ·rcases h4 with⟨rfl,_⟩|⟨g,o,cs,rfl,hbk,_⟩
   ·cases hg2
   ·have hl:=hbk.lt
    have e1:w.heap.size=g':=by injection hg'
    have e2:g=g':=by injection hg2
    omega
theorem uU{ops:Array Oper}{o:Oper}{a:Act}{K:Act→World→Prop}{Q:Exit→Act→World→Prop}{E:Prop}(hgd:o.guard=none)(s x:Operand)(t tx:TypeId)
 (ho:o.op=.call {callee:=.builtin .append,args:= #[s,x],argTypes:= #[t,tx]})(i:TypeInfo)(z:Value)(ht:P.underlying t=some (.slice 5))(hi:P.info? 5=some i)(hz:i.zero=some z)(hs:i.size=1)(hb:i.bytes=1)(hzc:z.cells = #[.int .u8 0])
 (v xv:Value)(L M:List Int)(hsv:a.eval s=v)(hxv:a.eval x=xv)(hv:Buf w v L)(hM:∀y∈M,fP y)(hx:Src P 1 tx xv M.length (M.map (Value.int .u8)) w)(hlen:L.length+M.length≤100000000)
 (h:∀v' w',Buf w' v' (L++M)→jl w w' v (dV v)→(∀g,ag v'=some g→ag v=some g∨w.heap.size≤g)→(∀p,v=.slice p L.length L.length→Bel w w')→(∀g,ag v'=some g→ag v=some g→∀j,dV v j→dV v' j)→K (a.put o.dst v') w'):if Region.wanted o (yielded ops a.tmps)=true then Oper.wp P o a w K Q else E:=by
 have hw:Region.wanted o (yielded ops a.tmps)=true:=by simp[Region.wanted,hgd]
 rw[if_pos hw];obtain⟨v',w',hrun,h1,h2,h3,h4,h5⟩:=xw (P:=P) (w:=w) t tx o.type i z ht hi hz hs hb hzc v xv L M hv hM hx hlen;unfold Oper.wp;simp[execOp,ho,resolve,invoke,builtin,hsv,hxv,hrun,Result.andThen]
 exact h v' w' h1 h2 h3 h4 h5
end
theorem zV{w:World}{ops:Array Oper}{o:Oper}{a:Act}{K:Act→World→Prop}{Q:Exit→Act→World→Prop}{E:Prop}(hgd:o.guard=none)(s x:Operand)(ho:o.op=.call {callee:=.builtin .append,args:= #[s,x],argTypes:= #[59,59]})
 (v:Value)(p:Option Addr)(cap:Nat)(L M:List Int)(hsv:a.eval s=v)(hxv:a.eval x=.slice p M.length cap)(hv:Buf w v L)(hx:kY w p M)(hlen:L.length+M.length≤100000000)
 (h:∀v' w',Buf w' v' (L++M)→jl w w' v (dV v)→(∀g,ag v'=some g→ag v=some g∨w.heap.size≤g)→(∀p,v=.slice p L.length L.length→Bel w w')→(∀g,ag v'=some g→ag v=some g→∀j,dV v j→dV v' j)→K (a.put o.dst v') w'):if Region.wanted o (yielded ops a.tmps)=true then Oper.wp prog o a w K Q else E:=by
 obtain⟨i,hi,h1,h2,h3⟩:=sV;exact uU hgd s x _ _ ho i _ underlying59 hi h3 h1 h2 rfl v _ L M hsv hxv hv hx.1 (Ce underlying59 hx) hlen h
theorem M6(kb cb:Nat)(h out v:Value)(L M:List Int)(p:Option Addr)(c:Nat)(w:World)(h8:w.cell? (kb,8)=some (.pointer (cb,0)))(hkc:cb≠kb)(hb:Blk w cb [h,v,out] 151)(hv:Buf w v L)(hM:kY w p M)(hlen:L.length+M.length≤100000000)(hkv:∀g,ag v=some g→g≠kb) :
 Calls prog 37 #[kb,(p,M.length,c)] w λe w'=>e=.returned (.tuple #[])∧∃v' wa,Blk w' cb [h,v',out] 151∧Buf w' v' (L++M)∧jl w.drew wa v (dV v)∧Keep (λq=>q=cb) wa w'∧(∀g,ag v'=some g→ag v=some g∨w.heap.size≤g)∧(∀g,ag v'=some g→ag v=some g→∀j,dV v j→dV v' j):=by
 obtain⟨q,cap,rfl,hlc,hcm⟩:=hv.slice;have c1:=hb.c 1 rfl;have hcl:=hb.lt;have kd:=Bel.drew (Bel.refl w);have HB:=xh (hb.bel kd);have HV:=xh (hv.bel kd);have HM:=xh (hM.bel kd);have HL:=xh hlen;have H8:=xh (aa kd h8);have HKV:=xh hkv;have HN:Hid (∀g,ag (.slice q L.length cap)=some g→g≠cb):=xh (hv.ne hb (by decide));have hkl:=World.block_lt_of_cell? _ _ h8;have Zm:=xh hkl;clear hb hv hM hlen hlc hcm hkv hkl kd;go_enter func37,ntmps37;go_upto_region 0 with fail
 refine wp_region_noPanic ?_;refine wp_region_held_drew (S:=λw'=>w'.cell? ⟨kb,8,none⟩=some (.pointer (cb,0))) (by kernel_rfl) H8.o (λhHeld=>?_);refine plan [0,1,2,3,4,5,6,7,8,9,11] ?_;repeat refine t0 rfl (by kernel_rfl) (by intro w hw;(try dsimp only at hw);go_simp;with_reducible rfl) (by assumption) (by(try simp only[Act.put,lits]);exact rfl) ?_
 refine aK ?_;refine rd 10 rfl (by kernel_rfl) (λK hK=>?_);go_simp;refine hK.out _ _ (by(first|(go_keep;done)|assumption|exact H8.o)) (λhH=>?_);clear hK K;(try simp only[Act.put,lits])
 refine rd 12 rfl (by kernel_rfl) (λK hK=>?_);refine zV rfl (.tmp 14) (.tmp 15) rfl (.slice q L.length cap) p c L M rfl rfl HV.o HM.o HL.o ?_;intro v' wa h1 h2 h3 h4 h5;obtain⟨pa,la,bS,rfl⟩:∃pa la bS,v'=.slice pa la bS:=(let ⟨pa,bS,e,_⟩:=h1.slice;⟨pa,_,bS,e⟩);have Uo:Hid (Blk wa cb [h,.slice q L.length cap,out] 151):=xh (HB.o.keep h2.keep λe=>HN.o _ e rfl);have ca:=Uo.o.cell 1;have fa:=Uo.o.frozen;have la8:wa.cell? (kb,8)=some (.pointer (cb,0)):=((h2.keep.cell ⟨kb,8,none⟩ (by simpa using Zm.o) (λe=>HKV.o _ e rfl)).trans H8.o);have HA:=xh (And.intro h1 (And.intro h2 (And.intro h3 h5)));clear h1 h2 h3 h4 h5;refine hK.out _ _ (by(first|(go_keep;done)|assumption|exact H8.o)) (λhH=>?_);clear hK K;(try simp only[Act.put,lits])
 refine plan [13,14] ?_;repeat refine t0 rfl (by kernel_rfl) (by intro w hw;(try dsimp only at hw);go_simp;with_reducible rfl) (by assumption) (by(try simp only[Act.put,lits]);exact rfl) ?_
 refine aK ?_;refine rd 15 rfl (by kernel_rfl) (λK hK=>?_);go_simp;refine hK.out _ _ (by(first|(go_keep;done)|assumption|exact H8.o)) (λhH=>?_);clear hK K;(try simp only[Act.put,lits])
 refine wpAnyH_done (by kernel_rfl) ?_ _;refine NoPanic.normal ?_
 go_end0
 exact⟨rfl,_,wa,Uo.o.setCell (o:=1) _,HA.o.1.keep (Keep.setCell _ _ _ _) (HA.o.1.ne Uo.o (by decide)),HA.o.2.1,Keep.setCell _ _ _ _,HA.o.2.2⟩
end
section
open Go.Proofs.Tryz Go.RowKit Go.MapKept Go.Maps Go.Shelf
section
variable {E:PE} {s:St} {D:PD} {Q:QD} {w w':World}
theorem PP.tick(h:PP E w s D)(k:Keep (λq=>q=E.kb) w w')(now:Int)(hk:Blk w' E.kb (qX E.l.a E.l.b E.l.c E.l.d.toNat E.l.e.toNat E.pm E.tb E.ob E.cb (fr E:Nat) now (.slice none 0 0)) 111):PP E w' s {D with now:=now}:=by
 have hu:∀{q cs t},Blk w q cs t→t≠111→¬q=E.kb:=λhb n1=>hb.ne h.hk n1;have hbf:∀v L,Buf w v L→Buf w' v L:=λv L hv=>hv.keep k λg hg=>by obtain⟨_,hb⟩:=hv.blk hg;exact hu hb (by decide)
 refine⟨hk,h.hb.keep k (hu h.hb (by decide)),h.ho.keep k (hu h.ho (by decide)),h.hc.keep k (hu h.hc (by decide)),hbf _ _ h.tb,hbf _ _ h.ub,λp hp=>?_,h.inj,h.ap,h.zC,h.lo⟩;have hpi:=h.nG p hp;have h2:xG w' D s.fds p:=hpi.keep k (hu hpi.c (by decide)) (λhf=>hu (hpi.r hf) (by decide)) (λhf=>hu (hpi.u hf) (by decide)) (λg hg=>by obtain⟨_,hb⟩:=hpi.b.blk hg;exact hu hb (by decide));exact⟨h2.c,h2.b,h2.r,h2.u⟩
end
theorem JW(E:PE)(hx:ek E)(hpl:Ow E)(n:Nat):TW (PI E n) E.wb E.tk E.rb where
 bel:=λh k=>h.bel k
 blk:=λh=>by
  obtain⟨s,D,Q,hwf,hp,hd,⟨p,q,c,d,L,ng⟩,_⟩:=h.st;exact⟨p,q,c,d,L,ng.blk,vR ng.bp,vR ng.bq,ng.few⟩
 procs:=λh=>Vn E hx n _ h
 files:=λh=>Vo E hx hpl n _ h
theorem YR(E:PE)(hx:ek E)(n:Nat)(w:World)(h:PI E n w):∃X:World→Prop,(∀W,X W→W.cell? (E.wb,1)=some (.pointer (E.rb,0)))∧
 (Calls prog 24 #[E.tk] w λe w'=>e=.returned (.tuple #[])∧X w'∧Fr E.B w w')∧∀W,X W→Calls prog 66 #[E.rb] W λe w'=>e=.returned (.tuple #[])∧PI E n w'∧Fr E.B W w':=by
 refine⟨PI E n,λW hW=>?_,?_,λW hW=>?_⟩
 ·obtain⟨s,D,Q,hwf,hp,hd,⟨p,q,c,d,L,ng⟩,_⟩:=hW.st
  exact ng.blk.cell 1
 ·obtain⟨s,D,Q,hwf,hp,hd,⟨p,q,c,d,L,ng⟩,vQ,h1,h2⟩:=h.st
  refine M0 E.tk E.kb _ w ((hx.nN h.kp).cell 0) ((M5 E.kb D.now none 0 _ w hp.hk rfl rfl).mono ?_);rintro e w' ⟨rfl,now',hb,k⟩;have LD:Keep (bJ E s D) w w':=k.mono λq hq=>.inl hq;refine⟨rfl,⟨h.kp.tr (LD.mono λq hq=>hp.lo q hq),s,{D with now:=now'},Q,hwf,hp.tick k now' hb,hd.keep LD (λq hq hr=>vQ q hr hq) (DD.xU hp),⟨p,q,c,d,L,?_⟩,vQ,h1,h2⟩,Vl hx hp LD⟩;have hu:∀q cs t,Blk w q cs t→t≠111→¬q=E.kb:=λq cs t hb2 n1=>hb2.ne hp.hk n1;exact⟨ng.blk.keep k (hu _ _ _ ng.blk (by decide)),ng.bp.keep k (λq cs hb2=>hu q cs _ hb2 (by decide)),ng.bq.keep k (λq cs hb2=>hu q cs _ hb2 (by decide)),ng.few,ng.sp,ng.sq⟩
 ·obtain⟨s,D,Q,hwf,hp,hd,_⟩:=hW.st
  refine(MG E.rb E.g E.gc 0 W hd.c5 (by rw[hd.at (by omega)];rfl) (by decide)).mono ?_;rintro e w' ⟨rfl,rfl⟩;exact⟨rfl,hW,Fr.bel (Bel.refl _)⟩
structure TyR(E:PE)(s:St)(D:PD)(Q:QD)(d:List Int)(w0:World)(g:Nat)(p q:Option Addr)(cp cq:Nat)(L:List Int)(W:World):Prop where
 kp:eH E W
 st:∃D',PP E W {s with typed:=s.typed++d} D'∧(∀x,bJ E {s with typed:=s.typed++d} D' x→bJ E s D x∨g<x)∧Dr E W D' Q p q cp cq L
 dd:DD E W s Q
theorem abv(E:PE)(hx:ek E)(n:Nat)(o:rq)(hn:n+o.d.length+1≤200400)(w0 w:World)(g:Nat)(hI:PI E n w0)(hw:Bel w0 w)(hg:w0.heap.size≤g)(hgb:Blk w g ((o.d++[71,72]).map (Value.int .u8)) 5)(hby:∀x∈o.d,fP x):∃Y:World→Prop,
 (Calls prog 25 #[E.tk,.slice (g,0) o.d.length (o.d.length+2)] w λe w'=>e=.returned (.tuple #[])∧Y w'∧Fr E.B w w'∧Blk w' g ((o.d++[71,72]).map (Value.int .u8)) 5)∧
 (∀W W',Y W→Keep (λq=>q=g) W W'→Y W')∧∀W,Y W→(∃cs,Blk W E.wb cs 96∧cs[1]?=some (.pointer (E.rb,0)))∧∃v,∃Lt:List Int,W.cell? (E.rb,9)=some v∧(∃ks,Blk W E.rb ks 174)∧Buf W v Lt∧Lt.length+o.d.length≤100000000∧
  ∀v' W',Buf W' v' (Lt++o.d)→jl W W' v (dV v)→(∀g',ag v'=some g'→ag v=some g'∨W.heap.size≤g')→PI E (n+o.d.length+1) (W'.setCell (E.rb,9) v')∧Fr E.B W (W'.setCell (E.rb,9) v'):=by
 obtain⟨s,D,Q,hwf,hp,hd,⟨p,q,cp,cq,L,ng⟩,vQ,hsz,hlast⟩:=hI.st;have hk0:=hI.kp;have hk:=hk0.tr (Keep.of_bel _ hw);have hpw:=hp.bel hw;have hdw:=hd.bel hw;have zK:=ng.bel hw;have hgl:=hgb.lt;have hold:∀x,bJ E s D x→x<w0.heap.size:=λx h=>hp.lt h;have WN:∀x,dX E s Q x→x<w0.heap.size:=λx h=>hd.lt h;have hpl:∀x o',p=some ⟨x,o',none⟩→0<L.length→x<w0.heap.size:=λx o' e h0=>by
  obtain⟨x',o'',e2,cs,hb,_⟩:=ng.bp.2 h0;rw[e]at e2;cases e2
  exact hb.lt
 have hql:∀x o',q=some ⟨x,o',none⟩→0<L.length→x<w0.heap.size:=λx o' e h0=>by
  obtain⟨x',o'',e2,cs,hb,_⟩:=ng.bq.2 h0;rw[e]at e2;cases e2
  exact hb.lt
 have hdb:kY w (some ⟨g,0,none⟩) o.d:=⟨hby,λ_=>⟨g,0,rfl,_,hgb,λi x hi=>by
  rw[Nat.zero_add,dA,List.getElem?_append_left (bZ hi).1,hi];rfl⟩⟩
 refine⟨TyR E s D Q o.d w0 g p q cp cq L,?_,λW W' hY k=>?_,λW hY=>?_⟩
 ·refine(M3 E.tk E.kb _ _ _ (λw'=>TyR E s D Q o.d w0 g p q cp cq L w'∧Fr E.B w w'∧Blk w' g ((o.d++[71,72]).map (Value.int .u8)) 5) w ((hx.nN hk).cell 0) ((M6 E.kb E.cb _ D.uv D.tv s.typed o.d (some ⟨g,0,none⟩) (o.d.length+2) w (hpw.hk.cell 8) (hpw.hc.ne hpw.hk (by decide)) hpw.hc hpw.tb hdb (by omega) (λx hx2=>by obtain⟨_,hb⟩:=hpw.tb.blk hx2;exact hb.ne hpw.hk (by decide))).mono ?_))
  rintro e w' ⟨rfl,v',wa,b1,b2,ka,k1,f1,f3⟩;have k2:Keep (λq=>q=E.cb∨ag D.tv=some q) w w':=((Keep.of_bel _ (Bel.drew (Bel.refl w))).tr (ka.keep.mono λq h=>.inr h)).tr (k1.mono λq h=>.inl h);have hS:∀q,q=E.cb∨ag D.tv=some q→q=E.cb∨ag D.tv=some q∨ag D.uv=some q:=λq h=>h.imp id .inl;have LD:Keep (bJ E s D) w w':=uw hS k2;have hu:Buf w' D.uv s.out:=hpw.ub.keep k2 λx hx2 hq=>hq.elim (λe=>by obtain⟨_,hb⟩:=hpw.ub.blk hx2;exact hb.ne hpw.hc (by decide) e) λe=>hp.ap x e hx2;have hcon:=hpw.jo hk k2 hS v' D.uv _ s.out b1 b2 hu (λx e e2=>by
   rcases f1 x e with h|h
   ·exact hp.ap x h e2
   ·obtain⟨_,hb⟩:=hpw.ub.blk e2
    have:=hb.lt;omega) f1 (λx h=>.inl h)
  have hnp:∀x,bJ E {s with typed:=s.typed++o.d} {D with tv:=v',uv:=D.uv} x→bJ E s D x∨g<x:=λx hx2=>(PP.zG f1 (λx h=>.inl h) x hx2).imp id λh=>by omega
  have hcp:∀{M:List Int} {r:Option Addr} {T:TypeId},kY w r M→(∀x o',r=some ⟨x,o',none⟩→0<M.length→ag D.tv=some x→∀i,i<M.length→dV D.tv (o'+i))→kY w' r M:=λ{M r T} hb hs=>by
   by_cases h0:0<M.length
   ·exact((ka.byt (hb.bel (Bel.drew (Bel.refl w))) (λx o' e e2=>hs x o' e h0 e2)).keep k1 λx cs hb2 e=>by
     obtain⟨_,hb3⟩:∃cs,Blk wa E.cb cs 151:=⟨_,(hpw.hc.bel (Bel.drew (Bel.refl w))).keep ka.keep λe2=>by obtain⟨_,hb4⟩:=hpw.tb.blk e2;exact hb4.ne hpw.hc (by decide) rfl⟩;exact hb2.ne hb3 (by decide) e)
   ·exact⟨hb.1,λh=>absurd h h0⟩
  refine⟨rfl,⟨hk.tr (LD.mono λq hq=>hpw.lo q hq),⟨_,hcon,hnp,⟨zK.blk.keep LD (Sc ⟨_,zK.blk⟩ hpw),hcp (T:=0) zK.bp λx o' e h0=>(zK.sp x o' e h0).1,hcp (T:=0) zK.bq λx o' e h0 e2=>absurd e2 (zK.sq x o' e h0).1,zK.few,λx o' e h0=>⟨λe2 i hi=>?_,(zK.sp x o' e h0).2⟩,λx o' e h0=>⟨λe2=>?_,(zK.sq x o' e h0).2⟩⟩⟩,hdw.keep LD (λq hq hr=>vQ q hr hq) (DD.xU hpw)⟩,Vl hx hpw LD,hgb.keep LD λhq=>by have:=hold g hq;omega⟩
  ·rcases f1 x e2 with h|h
   ·exact f3 x e2 h _ ((zK.sp x o' e h0).1 h i hi)
   ·have:=hpl x o' e h0
    have:=hw.le;omega
  ·rcases f1 x e2 with h|h
   ·exact(zK.sq x o' e h0).1 h
   ·have:=hql x o' e h0
    have:=hw.le;omega
 ·obtain⟨D',h1,h2,h3⟩:=hY.st
  refine⟨hY.kp.tr (k.mono λq hq=>.inl (by have hq:q=g:=hq;have:=hk0.size;omega)),⟨D',h1.keep k (λx hx2 e=>?_),h2,h3.keep k (λe=>?_) (λx o' e h0 e2=>?_) (λx o' e h0 e2=>?_)⟩,hY.dd.WK k (λx hx2 e=>?_) λx hi e=>?_⟩
  ·have e:x=g:=e
   rcases h2 x hx2 with h|h
   ·have:=hold x h
    omega
   ·omega
  ·have e:E.wb=g:=e
   have:=ng.blk.lt;omega
  ·have e2:x=g:=e2
   have:=hpl x o' e h0;omega
  ·have e2:x=g:=e2
   have:=hql x o' e h0;omega
  ·have e:x=g:=e
   have:=WN x hx2;omega
  ·have e:x=g:=e
   obtain⟨_,cur,hb2⟩:=row_blk hd.Dn hi;have:=hb2.lt;omega
 ·obtain⟨D',h1,h2,h3⟩:=hY.st
  have bF:=hY.dd;have OY:=bF.blk;refine⟨⟨_,h3.blk,rfl⟩,Q.kv.tv,s.typed,by rw[OY.cell];rfl,⟨_,OY⟩,bF.tb,by omega,λv' W' b1 ka f1=>?_⟩;have k1:=Keep.setCell W' E.rb 9 v';have k2:Keep (λq=>q=E.rb∨ag Q.kv.tv=some q) W (W'.setCell (E.rb,9) v'):=(ka.keep.mono λq h=>.inr h).tr (k1.mono λq h=>.inl h);have hne:∀x,ag Q.kv.tv=some x→x≠E.rb:=λx hx2=>by
   obtain⟨_,hb⟩:=bF.tb.blk hx2;exact hb.ne OY (by decide)
  have YS:Blk W' E.rb (Q.kv.cells Q.iv s.last) 174:=OY.keep ka.keep λe=>hne _ e rfl;have b2:Buf (W'.setCell (E.rb,9) v') v' (s.typed++o.d):=b1.keep k1 λx hx2=>by obtain⟨_,hb⟩:=b1.blk hx2;exact hb.ne YS (by decide)
  have hu:Buf (W'.setCell (E.rb,9) v') Q.kv.uv s.out:=bF.ub.keep k2 λx hx2 hq=>hq.elim (λe=>by obtain⟨_,hb⟩:=bF.ub.blk hx2;exact hb.ne OY (by decide) e) λe=>hd.ap x e hx2;have hcon:=bF.jo hY.kp k2 (λq h=>h.imp id .inl) v' Q.kv.uv (s.typed++o.d) s.out (YS.setCell (o:=9) v') b2 hu (λx e e2=>by
   rcases f1 x e with h|h
   ·exact hd.ap x h e2
   ·obtain⟨_,hb⟩:=bF.ub.blk e2
    have:=hb.lt;omega) f1 (λx h=>.inl h)
  have Gg:∀x,bJ E {s with typed:=s.typed++o.d} D' x→¬dX E s Q x:=λx hx2 hx3=>by
   rcases h2 x hx2 with h|h
   ·exact vQ x h hx3
   ·have:=WN x hx3
    omega
  have hP':=h1.keep hcon.kept Gg;have hnp:∀x o',p=some ⟨x,o',none⟩→0<L.length→¬dX E s Q x→True:=λ_ _ _ _ _=>trivial;have hpx:∀(r:Option Addr),(∀x o',r=some ⟨x,o',none⟩→0<L.length→ag Q.kv.tv≠some x)→kY W r L→kY (W'.setCell (E.rb,9) v') r L:=λr hs hb=>by
   by_cases h0:0<L.length
   ·refine(hb.iZ ka.keep λx o' e h0 e2=>hs x o' e h0 e2).keep k1 λx cs hb2 e=>?_
    exact hb2.ne YS (by decide) e
   ·exact⟨hb.1,λh=>absurd h h0⟩
  have hlen:(s.typed++o.d).length=s.typed.length+o.d.length:=List.length_append;refine⟨⟨hY.kp.tr (hcon.kept.mono λq hq=>bF.lo q hq),_,D',_,hwf.FR _,hP',hcon.dd,⟨p,q,cp,cq,L,h3.blk.keep hcon.kept (Vm ⟨_,h3.blk⟩ bF),hpx p (λx o' e h0=>(h3.sp x o' e h0).2.2.1) h3.bp,hpx q (λx o' e h0=>(h3.sq x o' e h0).2.2.1) h3.bq,h3.few,λx o' e h0=>?_,λx o' e h0=>?_⟩,λx hx2 hx3=>?_,by show(s.typed++o.d).length+s.out.length≤_;omega,by show s.last≤_;omega⟩,YP hx bF hcon.kept⟩
  ·have h4:=h3.sp x o' e h0
   refine⟨h4.1,h4.2.1,λe2=>?_,h4.2.2.2⟩;rcases f1 x e2 with h|h
   ·exact h4.2.2.1 h
   ·obtain⟨x',o'',e3,cs,hb,_⟩:=h3.bp.2 h0
    rw[e]at e3;cases e3
    have:=hb.lt;omega
  ·have h4:=h3.sq x o' e h0
   refine⟨h4.1,h4.2.1,λe2=>?_,h4.2.2.2⟩;rcases f1 x e2 with h|h
   ·exact h4.2.2.1 h
   ·obtain⟨x',o'',e3,cs,hb,_⟩:=h3.bq.2 h0
    rw[e]at e3;cases e3
    have:=hb.lt;omega
  ·rcases hcon.new x hx3 with h|h|⟨cs,t,hb,ht⟩
   ·exact Gg x hx2 h
   ·have:=h1.lt hx2
    omega
   ·obtain⟨_,t2,hb2,ht2⟩:=hP'.typ hx2
    refine hb.ne hb2 ?_ rfl;unfold WJ at ht2;rcases ht with rfl|rfl<;>rcases ht2 with rfl|rfl|rfl|rfl|rfl|rfl|rfl|rfl<;>decide
theorem YT(E:PE)(hx:ek E)(n:Nat)(w:World)(hI:PI E n w)(hn:n≤900000):∃C:Value→World→Prop,(Calls prog 67 #[E.tk] w λe w'=>∃v,e=.returned v∧C v w'∧Fr E.B w w')∧
 ∀v W,C v W→W.cell? (E.wb,1)=some (.pointer (E.rb,0))∧W.frozen? (E.rb,10)=false∧∃p q c d,∃L:List Int,v=.slice p L.length c∧W.cell? (E.rb,10)=some (.slice q L.length d)∧BS W p L∧BS W q L∧L.length≤1000000∧∀m,PI E n ((W.drewN m).setCell (E.rb,10) (.slice none 0 0))∧Fr E.B W ((W.drewN m).setCell (E.rb,10) (.slice none 0 0)):=by
 obtain⟨s,D,Q,hwf,hp,hd,⟨p,q,cp,cq,L,ng⟩,vQ,hsz,hlast⟩:=hI.st;have hk:=hI.kp;obtain⟨pu,cu,hu,_⟩:=hp.ub.slice;obtain⟨qu,du,hqu,_⟩:=hd.ub.slice;refine⟨λv W=>v=D.uv∧eH E W∧PP E W {s with out:=[]} {D with uv:=.slice none 0 0}∧DD E W s Q∧Dr E W {D with uv:=.slice none 0 0} Q p q cp cq L∧kY W pu s.out,?_,λv W h=>?_⟩
 ·have hcc:=hp.hc
  rw[hu]at hcc;refine MZ E.tk E.kb _ w ((hx.nN hk).cell 0) ((MX E.kb E.cb _ D.tv pu s.out.length cu w (hp.hk.cell 8) (hp.hk.ne hp.hc (by decide)) hcc).mono ?_);rintro e w' ⟨rfl,b1,k1⟩;have hS:∀q,q=E.cb→q=E.cb∨ag D.tv=some q∨ag D.uv=some q:=λq h=>.inl h;have LD:Keep (bJ E s D) w w':=uw hS k1;have hnu:∀{q cs t},Blk w q cs t→t≠151→¬q=E.cb:=λhb n1=>hb.ne hp.hc n1;have ht:Buf w' D.tv s.typed:=hp.tb.keep k1 λx hx2=>by obtain⟨_,hb⟩:=hp.tb.blk hx2;exact hnu hb (by decide)
  refine⟨_,rfl,⟨hu.symm,hk.tr (LD.mono λq hq=>hp.lo q hq),hp.jo hk k1 hS D.tv (.slice none 0 0) s.typed [] b1 ht (Buf.nil w') (λx _ e2=>by cases e2) (λx h=>.inl h) (λx e=>by cases e),hd.keep LD (λq hq hr=>vQ q hr hq) (DD.xU hp),⟨ng.blk.keep LD (Sc ⟨_,ng.blk⟩ hp),ng.bp.keep k1 (λx cs hb=>hnu hb (by decide)),ng.bq.keep k1 (λx cs hb=>hnu hb (by decide)),ng.few,λx o' e h0=>⟨(ng.sp x o' e h0).1,(by intro e2;cases e2),(ng.sp x o' e h0).2.2⟩,λx o' e h0=>⟨(ng.sq x o' e h0).1,(by intro e2;cases e2),(ng.sq x o' e h0).2.2⟩⟩,?_⟩,Vl hx hp LD⟩;have:=hp.ub;rw[hu]at this;exact this.byt.keep k1 λx cs hb=>hnu hb (by decide)
 ·obtain⟨rfl,hkW,hP,bF,hlW,hby⟩:=h
  have hub:=bF.ub;rw[hqu]at hub;refine⟨hlW.blk.cell 1,bF.blk.frozen 10,pu,qu,cu,du,s.out,hu,by rw[bF.blk.cell,←hqu];rfl,vR hby,vR hub.byt,by omega,λm=>?_⟩;have kb:=ah (Bel.refl W) m;have WO:=bF.bel kb;have hkm:eH E (W.drewN m):=hkW.tr (Keep.of_bel _ kb);have k1:=Keep.setCell (W.drewN m) E.rb 10 (.slice none 0 0);have hnu:∀{q cs t},Blk (W.drewN m) q cs t→t≠174→¬q=E.rb:=λhb n1=>hb.ne WO.blk n1;have hcon:=WO.jo hkm k1 (λq h=>.inl h) Q.kv.tv (.slice none 0 0) s.typed [] (WO.blk.setCell (o:=10) _) (WO.tb.keep k1 λx hx2=>by obtain⟨_,hb⟩:=WO.tb.blk hx2;exact hnu hb (by decide)) (Buf.nil _) (λx _ e2=>by cases e2) (λx h=>.inl h) (λx e=>by cases e);have Gg:∀x,bJ E {s with out:=[]} {D with uv:=.slice none 0 0} x→¬dX E s Q x:=λx hx2 hx3=>by
   refine vQ x ?_ hx3;rcases hx2 with e|e|e|e|e|e|e
   ·exact .inl e
   ·exact .inr (.inl e)
   ·exact .inr (.inr (.inl e))
   ·exact .inr (.inr (.inr (.inl e)))
   ·exact .inr (.inr (.inr (.inr (.inl e))))
   ·cases e
   ·exact .inr (.inr (.inr (.inr (.inr (.inr e)))))
  have hPm:=hP.bel kb;have hP':=hPm.keep hcon.kept Gg;have hlm:=hlW.bel kb;have hwb:=hlm.blk;refine⟨⟨hkm.tr (hcon.kept.mono λq hq=>WO.lo q hq),_,_,_,hwf.RP [],hP',hcon.dd,⟨p,q,cp,cq,L,hlm.blk.keep hcon.kept (Vm ⟨_,hwb⟩ WO),hlm.bp.keep k1 (λx cs hb=>hnu hb (by decide)),hlm.bq.keep k1 (λx cs hb=>hnu hb (by decide)),hlm.few,λx o' e h0=>⟨(hlm.sp x o' e h0).1,(hlm.sp x o' e h0).2.1,(hlm.sp x o' e h0).2.2.1,(by intro e2;cases e2)⟩,λx o' e h0=>⟨(hlm.sq x o' e h0).1,(hlm.sq x o' e h0).2.1,(hlm.sq x o' e h0).2.2.1,(by intro e2;cases e2)⟩⟩,λx hx2 hx3=>?_,by show s.typed.length+0≤_;omega,hlast⟩,(Fr.bel kb).tr (YP hx WO hcon.kept)⟩;refine Gg x hx2 ?_;rcases hx3 with e|e|e|e|e|e|e
  ·exact .inl e
  ·exact .inr (.inl e)
  ·exact .inr (.inr (.inl e))
  ·cases e
  ·exact .inr (.inr (.inr (.inr (.inl e))))
  ·exact .inr (.inr (.inr (.inr (.inr (.inl e)))))
  ·exact .inr (.inr (.inr (.inr (.inr (.inr e)))))
end
section
open Go.RowKit Go.MapKept Go.Maps Go.Shelf
theorem OA:∀k:Fin 62,X8 28160 (k.val:Int)=false→k.val=9∨k.val=10∨k.val=11∨k.val=13∨k.val=14:=by decide
theorem YU(E:PE)(hx:ek E)(hpl:Ow E)(n:Nat)(o:rq)(hn:n+(o.c.weight+o.d.length)+1≤200400)(hw:o.c.weight+o.d.length≤200000)(hP:wO 28160 o):abw (PI E n) (PI E (n+(o.c.weight+o.d.length)+1)) E.wb E.tk E.rb E.B o:=by
 have hcd:o.c.d.length≤o.c.weight:=by
  unfold iH.weight at hw⊢;split
  ·rename_i h;rw[if_pos h]at hw;omega
  ·omega
 refine⟨hx.hB.2.2.2.2.2.2.2,JW E hx hpl n,JW E hx hpl _,λh=>h.up (by omega),λ{w} hI hok hk0 hB=>?_,λ{w} hI hB=>YR E hx n w hI,λ{w0 w g} hI hw0 hB hg hgb hby=>?_,λ{w} hI hB=>?_⟩
 ·have ho:=hok w ((Bel.refl w).mono hB)
  refine(TV (PI E n) (PI E (n+o.c.d.length+1)) E.wb E.tk E.rb E.B o (JW E hx hpl n) hx.hB.2.2.2.2.2.2.2 (YQ E hx n o.a o.c ho.aw (λ_=>?_) (by omega)) w hI hok (by omega) ?_ hB).mono ?_
  ·by_cases h1:o.c.kind<0
   ·exact .inl h1
   by_cases h2:62≤o.c.kind
   ·exact .inr (.inl h2)
   have h3:=OA ⟨o.c.kind.toNat,by omega⟩ (by
    have:=hP.2 hk0 (by omega) (by omega);rw[show(((⟨o.c.kind.toNat,by omega⟩:Fin 62).val:Nat):Int)=o.c.kind from Int.toNat_of_nonneg (by omega)];exact this)
   have h4:((o.c.kind.toNat:Nat):Int)=o.c.kind:=Int.toNat_of_nonneg (by omega);simp only at h3
   omega
  ·intro e
   have:=hP.2 hk0 (by omega) (by omega);rw[e]at this
   revert this
   decide
  ·rintro e w' ⟨rfl,h1,h2⟩
   exact⟨rfl,h1.up (by omega),h2⟩
 ·obtain⟨Y,h1,h2,h3⟩:=abv E hx n o (by omega) w0 w g hI hw0 hg hgb hby
  refine⟨Y,h1,h2,λW hY=>?_⟩;obtain⟨h4,v,Lt,h5,h6,h7,h8,h9⟩:=h3 W hY;exact⟨h4,v,Lt,h5,h6,h7,h8,λv' W' a b c=>⟨(h9 v' W' a b c).1.up (by omega),(h9 v' W' a b c).2⟩⟩
 ·obtain⟨C,h1,h2⟩:=YT E hx n w hI (by omega)
  refine⟨C,h1,λv W hC=>?_⟩;obtain⟨h3,h4,p,q,c,d,L,h5,h6,h7,h8,h9,h10⟩:=h2 v W hC;exact⟨h3,h4,p,q,c,d,L,h5,h6,h7,h8,h9,λm=>⟨(h10 m).1.up (by omega),(h10 m).2⟩⟩
theorem abd(E:PE)(hx:ek E)(hpl:Ow E):Law (PI E) E.wb E.B (wO 28160) where
 bel:=λh k=>h.bel k
 up:=λh k=>h.up k
 blk:=λh=>by
  obtain⟨s,D,Q,hwf,hp,hd,⟨p,q,c,d,L,ng⟩,_⟩:=h.st;exact⟨_,_,_,_,ng.blk⟩
 step:=λn w o hI hok hP hn hw hB=>OB (PI E n) _ E.wb E.tk E.rb E.B o (YU E hx hpl n o hn hw hP) w hI hok hP.1 (by omega) hB
theorem YV(E sp:Int)(sb:Nat)(r:List Value):LZ E sp sb++r=.int .u64 E::(List.replicate 15 0++[sp]).map (Value.int .u64)++[.map (some sb)]++r:=by
 simp[LZ]
theorem Vp(E sp:Int)(v:Value):oz lT 0 v E sp=kJ 1 0 0 0 0 E (List.replicate 15 0++[sp]) v [-1,-1,-1,0,0,0,0,0]:=rfl
theorem JX{l:dN}{F:List av}(h:aW l F=0):0≤l.c∧l.c≤100000:=by
 unfold aW at h;by_cases h1:l.vY=false
 ·rw[if_pos h1]at h;cases h
 ·rw[if_neg h1]at h
  by_cases h2:l.okB=false
  ·rw[if_pos h2]at h;cases h
  ·have h3:l.okB=true:=by cases e:l.okB with|true=>rfl|false=>exact absurd e h2
   have:=of_decide_eq_true h3;exact⟨this.1,this.2.1⟩
def st0(n:Nat):St:=⟨[.jo,.jo,.jo,.no,.no,.no,.no,.no],[],n,[],[]⟩
theorem YW(n:Nat):(st0 n).Wf where
 fl:=rfl
 ids:=List.Pairwise.nil
 FN:=λ_ h=>by cases h
 use:=λ_ h=>by cases h
 has:=λf hf i hi=>by
  simp[st0]at hf
  rcases hf with rfl|rfl<;>rcases hi with e|e<;>cases e
 b64:=λ_ h=>by cases h
theorem U0(wb tk kb rb B:Nat)(l:dN)(F:List av)(w:World)(hW:Blk w wb [tk,rb,(),(),false] 96)(ht:Blk w tk [kb] 83)
 (hP:di w B kb l.a l.b l.c l.d.toNat l.e.toNat F)(hD:mH w rb l F)(h0:aW l F=0)(hF:F.length≤100)(hev:ErrVar w)(hrb:B≤rb)(hwb:B≤wb)(hB:B≤w.heap.size):∃E:PE,E.wb=wb∧E.B=B∧ek E∧Ow E∧PI E 0 w:=by
 obtain⟨pm,tb,ob,cb,pb,sb,A,T,h1,h2,h3,h4,h5,h6,h7,h8,h9,h10,h11,h12,h13,h14,h15⟩:=hP;obtain⟨iv,L,s,pb2,pc2,cells,v,dk,hsk,_,hsum,hs,hb,hpc,hkp,htk,hrow⟩:=hD;have hlc:=JX h0;have hTL:fA L=aH T:=hsk.trans h6.symm;have hBe:dY L dL=dY (aH T) dL:=by rw[←hTL,Rt]
 have hex:=Jt h0;rw[←h6]at hex;obtain⟨hld,x,hx,hxe⟩:=yh hex;have hby:∀y∈dY (aH T) dL,0≤y∧y≤255:=by
  rw[hxe];obtain⟨p,hp,rfl⟩:=List.mem_map.1 hx;obtain⟨i,hi⟩:=List.mem_iff_getElem?.1 hp;exact(h5.tree.aN i p hi).1
 obtain⟨hok,hlow⟩:=uR hby hld;have hm:=CZ hok oZ (by decide:bQ.length≤8);rw[hBe]at htk hrow;have hn:az (aQ (eO (dY (aH T) dL)) bQ)=az (eO (dY (aH T) dL))++[254,255]:=lD _ _ hlow;have hlen:(az (aQ (eO (dY (aH T) dL)) bQ)).length=(az (eO (dY (aH T) dL))).length+2:=by rw[hn];simp
 rw[←hlen]at h1 hrow;obtain⟨m,hmm⟩:=e_x (aQ (eO (dY (aH T) dL)) bQ);rw[hmm]at h1 h8 hrow hm;obtain⟨pc,adL⟩:=e_x (aO (dY (aH T) dL) 24 8);obtain⟨sp,adM⟩:=e_x (jX (aJ bQ) 1);rw[adL,adM]at h7 htk;rw[Vp]at htk;rw[YV]at h7;have hcl:31≤cells.length:=by
  have:=congrArg List.length htk;rw[List.length_take,zz (by simp) (by simp)]at this;omega
 obtain⟨hinv,Sg⟩:=pV.first.files (mi:=l.d.toNat) (mb:=l.e.toNat) F;rw[←h6]at hinv Sg;have qR:T.length≤101:=by
  have:(aH T).length=T.length:=by simp[aH]
  rw[this]at Sg;simp at Sg
  omega
 have hLT:L.length=T.length:=by
  have:=congrArg List.length hTL
  simpa [fA,aH]using this
 obtain⟨E,hE⟩:∃E:PE,E=⟨B,wb,tk,kb,rb,pm,tb,ob,cb,pb,sb,pb2,pc2,l,A,T,L,pc,List.replicate 15 0++[sp],m,v,w⟩:=⟨_,rfl⟩;have hfix:ek E:=by
  subst hE;refine⟨⟨_,h1,_,_,rfl⟩,⟨_,h7,_,_,rfl⟩,⟨_,h3,_,_,rfl⟩,⟨_,h4,_,_,rfl⟩,⟨_,dk.blk,_,_,rfl⟩,⟨_,hb,.i64,1,?_⟩,⟨_,hW,_,rfl⟩,⟨hB,h11,h12,h14,h10,hrb,by show B≤pb2;omega,hwb⟩,ht,h2,h5,hev,h8,hm,by simp,⟨_,hrow⟩,dk.aN,hpc,⟨dk.one,by show L.length≤101;omega⟩,λi m hi h1=>?_,hlc⟩
  ·rw[←List.getElem?_take_of_lt (show 0<31 by omega),htk]
   rfl
  ·have:=hinv.conn i m.sk (Ju hTL hi) (by omega)
   have e:m.sk.par=m.par:=rfl;omega
 have adN:Ow E:=by subst hE;exact⟨hTL,hinv,qR⟩
 refine⟨E,by rw[hE],by rw[hE],hfix,adN,⟨by rw[hE];exact Keep.refl _ _,st0 L.length,⟨λ_=>0,λ_=>0,λ_=>0,λ_=>.slice none 0 0,.slice none 0 0,.slice none 0 0,0⟩,⟨s,iv,λ_=>.slice none 0 0,cells⟩,YW _,?_,?_,⟨none,none,0,0,[],?_⟩,?_,by simp[st0],by show L.length≤_;omega⟩⟩
 ·subst hE
  refine⟨h1,h7,h3,h4,Buf.nil w,Buf.nil w,λ_ h=>(by cases h),λ_ h=>(by cases h),λ_ h=>(by cases h),λ_ h=>(by cases h),λq hq=>?_⟩;rcases hq with e|e|e|e|e|e|⟨_,h,_⟩
  ·exact .inr (.inl e)
  ·exact .inr (.inr (.inl e))
  ·exact .inr (.inr (.inr (.inl e)))
  ·exact .inr (.inr (.inr (.inr (.inl e))))
  ·cases e
  ·cases e
  ·cases h
 ·subst hE hs
  refine⟨dk.blk,dk.row,⟨rfl,rfl,rfl,rfl,rfl⟩,rfl,World.ownsRow_nil _ _ _ _,World.ownsRow_nil _ _ _ _,Buf.nil w,Buf.nil w,λ_ h=>(by cases h),hb,htk,hcl,λ_ h=>(by cases h),λ_ h=>(by cases h),λq hq=>?_⟩;rcases hq with e|e|e|e|e|e|⟨_,h,_⟩
  ·exact .inr (.inr (.inr (.inr (.inr (.inl e)))))
  ·exact .inr (.inr (.inr (.inr (.inr (.inr (.inl e))))))
  ·cases e
  ·cases e
  ·cases e
  ·cases e
  ·cases h
 ·subst hE
  exact⟨hW,⟨λ_ h=>(by cases h),λh=>absurd h (by simp)⟩,⟨λ_ h=>(by cases h),λh=>absurd h (by simp)⟩,by simp,λ_ _ e=>(by cases e),λ_ _ e=>(by cases e)⟩
 ·subst hE hs
  intro q hq hr;have nPK:∀{a:Nat} {cs:List Value} {t:TypeId},Blk w a cs t→t≠174→a≠rb:=λhb n=>hb.ne dk.blk n;have nPG:∀{a:Nat} {cs:List Value} {t:TypeId},Blk w a cs t→t≠167→a≠pb2:=λhb2 n=>hb2.ne hb n;have hr2:q=rb∨q=pb2:=by
   rcases hr with e|e|e|e|e|e|⟨_,h,_⟩
   ·exact .inl e
   ·exact .inr e
   ·cases e
   ·cases e
   ·cases e
   ·cases e
   ·cases h
  rcases hq with e|e|e|e|e|e|⟨_,h,_⟩
  ·exact hr2.elim (λe2=>nPK h1 (by decide) (e.symm.trans e2)) λe2=>nPG h1 (by decide) (e.symm.trans e2)
  ·exact hr2.elim (λe2=>nPK h7 (by decide) (e.symm.trans e2)) λe2=>nPG h7 (by decide) (e.symm.trans e2)
  ·exact hr2.elim (λe2=>nPK h3 (by decide) (e.symm.trans e2)) λe2=>nPG h3 (by decide) (e.symm.trans e2)
  ·exact hr2.elim (λe2=>nPK h4 (by decide) (e.symm.trans e2)) λe2=>nPG h4 (by decide) (e.symm.trans e2)
  ·cases e
  ·cases e
  ·cases h
end
section
open Go.Proofs.Tryz Go.RowKit
theorem Am(z:Value)(n:Nat):madeCells #[z] n=(List.replicate n z).toArray:=jN z n▸by simp[madeCells,Builtin.zeroCells]
theorem Kg(n:Nat)(hn:n≤1000000)(x:Int)(w:World)(hx:x=n):(Instr.makeSlice 59 (.int .i64 x) (.int .i64 x)).run prog w=.ok (.slice (w.heap.size,0) n n) (w.alloc (.cells (List.replicate n (Value.int .u8 0)).toArray 5)):=by
 obtain⟨i,hi,h1,h2,h3⟩:=info_parts Gt;subst hx;have:=run_makeSlice (P:=prog) (w:=w) 59 5 i (.int .u8 0) underlying59 hi h1 .i64 .i64 n n (by omega) (by omega) (by rw[h2];omega) (by rw[h3];omega) (by omega);rw[h2,Nat.mul_one,show(Value.int .u8 0).cells = #[Value.int .u8 0]from rfl,Am]at this;exact this
def GA:List Int:=[127,69,76,70,2,1,1]++List.replicate 253 0
def jy:List Int:=(((((((((((((((GA).set 16 2).set 18 243).set 20 1).set 25 1).set 32 64).set 52 64).set 54 56).set 56 1).set 64 1).set 68 5).set 73 1).set 81 1).set 96 4).set 104 4).set 256 22
theorem Rc(w:World):Calls prog 21 #[] w λe w'=>(∃g,e=.returned (.slice (g,0) 260 260)∧w.heap.size≤g∧Blk w' g (jy.map (Value.int .u8)) 5)∧Bel w w':=by
 obtain⟨zs,hzs⟩:=e_x (List.replicate 260 (Value.int .u8 0));have hmk:=λW=>Kg 260 (by omega) 260 W rfl;rw[hzs]at hmk;have HZ:=xh hzs;clear hzs;go_enter func21,ntmps21;go_upto_region 2 with fail
 have k1:Bel w (w.alloc (.cells zs.toArray 5)):=Bel.start w _;have B1:=Blk.new w zs 5;generalize w.alloc (.cells zs.toArray 5)=w1 at *
 obtain⟨g,hg⟩:=e_x w.heap.size;rw[hg]at B1⊢;have hgw:w.heap.size≤g:=by omega
 have HB1:=xh B1;have bG:=xh k1;clear hg B1 k1 hmk;go_upto_region 3 with(refine oF rfl (.tmp 3) (.const (.string ⟨#[127,69,76,70,2,1,1]⟩)) 59 9 rfl 5 underlying59 (by kernel_rfl) g 0 260 260 ⟨#[127,69,76,70,2,1,1]⟩ rfl rfl zs 5 HB1.o (by decide) (by rw[←HZ.o];decide) ?_;intro w2 B2' K2)
 have B2:Blk w2 g (GA.map (Value.int .u8)) 5:=by
  have:=B2'.out;rw[←HZ.o]at this;exact this
 have c16:w2.cell? (g,16)=some (.int .u8 0):=by rw[B2.cell];rfl
 have c18:w2.cell? (g,18)=some (.int .u8 0):=by rw[B2.cell];rfl
 have c20:w2.cell? (g,20)=some (.int .u8 0):=by rw[B2.cell];rfl
 have c25:w2.cell? (g,25)=some (.int .u8 0):=by rw[B2.cell];rfl
 have c32:w2.cell? (g,32)=some (.int .u8 0):=by rw[B2.cell];rfl
 have c52:w2.cell? (g,52)=some (.int .u8 0):=by rw[B2.cell];rfl
 have c54:w2.cell? (g,54)=some (.int .u8 0):=by rw[B2.cell];rfl
 have c56:w2.cell? (g,56)=some (.int .u8 0):=by rw[B2.cell];rfl
 have c64:w2.cell? (g,64)=some (.int .u8 0):=by rw[B2.cell];rfl
 have c68:w2.cell? (g,68)=some (.int .u8 0):=by rw[B2.cell];rfl
 have c73:w2.cell? (g,73)=some (.int .u8 0):=by rw[B2.cell];rfl
 have c81:w2.cell? (g,81)=some (.int .u8 0):=by rw[B2.cell];rfl
 have c96:w2.cell? (g,96)=some (.int .u8 0):=by rw[B2.cell];rfl
 have afJ:w2.cell? (g,104)=some (.int .u8 0):=by rw[B2.cell];rfl
 have afK:w2.cell? (g,256)=some (.int .u8 0):=by rw[B2.cell];rfl
 have f2:=B2.frozen;have hl:=B2.lt;have HB2:=xh B2;have gq:Hid (Bel w w2):=xh (Below.trans bG.o (K2.below _ bG.o.size (λq hq=>by have hq:q=g:=hq;omega)));clear B2 B2' K2;go_wp2
 go_ret
 refine⟨⟨g,rfl,hgw,?_⟩,(((((((((((((((gq.o).store (p:=⟨g,16,none⟩) hgw _).store (p:=⟨g,18,none⟩) hgw _).store (p:=⟨g,20,none⟩) hgw _).store (p:=⟨g,25,none⟩) hgw _).store (p:=⟨g,32,none⟩) hgw _).store (p:=⟨g,52,none⟩) hgw _).store (p:=⟨g,54,none⟩) hgw _).store (p:=⟨g,56,none⟩) hgw _).store (p:=⟨g,64,none⟩) hgw _).store (p:=⟨g,68,none⟩) hgw _).store (p:=⟨g,73,none⟩) hgw _).store (p:=⟨g,81,none⟩) hgw _).store (p:=⟨g,96,none⟩) hgw _).store (p:=⟨g,104,none⟩) hgw _).store (p:=⟨g,256,none⟩) hgw _⟩;have B:=(((((((((((((((HB2.o).setCell (o:=16) (.int .u8 2)).setCell (o:=18) (.int .u8 243)).setCell (o:=20) (.int .u8 1)).setCell (o:=25) (.int .u8 1)).setCell (o:=32) (.int .u8 64)).setCell (o:=52) (.int .u8 64)).setCell (o:=54) (.int .u8 56)).setCell (o:=56) (.int .u8 1)).setCell (o:=64) (.int .u8 1)).setCell (o:=68) (.int .u8 5)).setCell (o:=73) (.int .u8 1)).setCell (o:=81) (.int .u8 1)).setCell (o:=96) (.int .u8 4)).setCell (o:=104) (.int .u8 4)).setCell (o:=256) (.int .u8 22);unfold jy;simp only[List.map_set]
 exact B
end
section
open Go.RowKit Go.Maps Go.Shelf
def jI:dN:=⟨2,10,2,3,1000⟩
def Fp:ByteArray:=⟨#[47,105,110,105,116]⟩
def vG(p:Option Addr)(cap:Nat):List av:=[⟨Fp,false,p,cap,jy⟩]
def y9:List Nd:=[cZ,⟨1,⟨#[105,110,105,116]⟩,false,jy,dM⟩]
theorem Fq:ak jy=true:=by kernel_rfl
theorem NM:eT jy=true:=by kernel_rfl
theorem Yb:(dh jy).toNat=1:=by kernel_rfl
theorem Jg:dm jy=true:=by kernel_rfl
theorem NN:gW jy=0:=by
 unfold gW;rw[Fq,NM,Yb,Jg];rw[if_neg (by simp),if_neg (by simp),if_pos (λk hk=>?_),if_pos rfl];obtain rfl:k=0:=by omega
 intro n _ _;rfl
theorem Fs(p:Option Addr)(cap:Nat):bu 3 1000 [cZ] (vG p cap)=(0,y9):=by kernel_rfl
theorem za:(ay y9 dL).2.2.2=0∧(ay y9 dL).2.2.1=2:=⟨by kernel_rfl,by kernel_rfl⟩
theorem Jh:(az (eO jy)).length=1:=by kernel_rfl
theorem Ji:iF y9 dL true 0 0 10=0:=by
 unfold iF;rw[za.1,za.2];rw[if_neg (by simp),if_neg (by simp)];simp only[y9,Nat.reduceSub,List.getElem?_cons_succ,List.getElem?_cons_zero]
 rw[if_neg (by simp),NN,if_neg (by simp),if_neg (by simp),Jh,if_neg (by simp)]
theorem Jf(p:Option Addr)(cap:Nat):aW jI (vG p cap)=0:=by
 unfold aW;rw[show jI.vY=true from by kernel_rfl,show jI.okB=true from by kernel_rfl,show jI.d.toNat=3 from rfl,show jI.e.toNat=1000 from rfl,show jI.b.toNat=10 from rfl,Fs];rw[if_neg (by simp),if_neg (by simp),if_neg (by decide),if_neg (by simp)];exact Ji
end
section
open Go.Proofs.Tryz Go.RowKit Go.Maps Go.Shelf
theorem UM(g b:Nat)(W:World)(hb:Blk W b [.string Fp,false,.slice (g,0) 260 260] 71)(hg:Blk W g (jy.map (Value.int .u8)) 5):oV W (vG (some ⟨g,0,none⟩) 260) (.slice (b,0) 1 1):=by
 have hlen:jy.length=260:=by kernel_rfl
 have hby:∀x∈jy,0≤x∧x≤255:=by
  have:jy.all (λx=>decide (0≤x∧x≤255))=true:=by kernel_rfl
  intro x hx;exact of_decide_eq_true (List.all_eq_true.1 this x hx)
 refine⟨by simp[vG],⟨_,_,rfl,λi f hf=>?_⟩,λf hf=>?_⟩
 ·have hi:i=0:=by have:=(bZ hf).1;simp[vG]at this;omega
  subst hi;cases hf
  refine⟨b,rfl,λj u hj=>?_⟩;rw[Nat.zero_mul,Nat.zero_add,hb.cell,←hlen];exact hj
 ·have hf':f=⟨Fp,false,some ⟨g,0,none⟩,260,jy⟩:=List.mem_singleton.1 hf
  subst hf';refine⟨⟨hby,λ_=>⟨g,0,rfl,hg.lt,⟨λi hi=>?_,hby⟩⟩⟩,by show jy.length≤260;omega,by show jy.length≤200000;omega,by show Fp.size≤1000000;decide,λb' o hb=>?_⟩
  ·rw[Nat.zero_add,hg.cell,dA]
  ·cases hb
   exact hg.lt
theorem NK(g b:Nat)(w1 W:World)(k:Bel w1 W)(hb:Blk W b [.string Fp,false,.slice (g,0) 260 260] 71)(hg:Blk W g (jy.map (Value.int .u8)) 5)(hmx:dZ w1)(hfix:gN w1) :
 Calls prog 20 #[.agg #[(2:Int),(10:Int),(2:Int),(3:Int),(1000:Int)],.slice (b,0) 1 1] W λe w'=>∃tk:Nat,e=.returned (.tuple #[tk,.nilIface])∧Bel W w':=by
 refine au (Aw jI (vG (some ⟨g,0,none⟩) 260) (.slice (some ⟨b,0,none⟩) 1 1) W (λW' hW=>UM g b W' (hb.bel hW) (hg.bel hW)) (hmx.bel k) (hfix.bel k)) ?_;rintro e w' ⟨h1,_,h3⟩;obtain⟨tk,kb,rfl,_⟩:=h3 (Jf _ _);exact⟨tk,rfl,h1⟩
theorem NL(w:World)(hmx:dZ w)(hfix:gN w):Calls prog 8 #[] w (Z.b (.bool true) w):=by
 have HV:=xh (And.intro hmx hfix);clear hmx hfix;go_enter func8,ntmps8
 go_wp2_with (first
  | (go_at_call 21;((with_reducible refine au (Rc _) ?_);rintro e w1 ⟨⟨g,rfl,hg,hB⟩,hk⟩;have H1:=xh (And.intro hB hk);clear hg hB hk))
  | (go_at_call 20;((with_reducible refine au (NK g w1.heap.size w _ (H1.o.2.ac _) (Blk.new w1 _ _) (H1.o.1.alloc _) HV.o.1 HV.o.2) ?_);rintro e w3 ⟨tk,rfl,hk⟩;have jm:=xh ((H1.o.2.ac _).tr hk);clear hk))
  | (go_at_call 14;((with_reducible refine au (y7 _) ?_);rintro e w4 ⟨rfl,hk⟩;have oM:=xh (jm.o.tr hk);clear hk)))
 go_ret
 exact⟨rfl,oM.o⟩
end
section
open Go.Proofs.Tryz Go.RowKit Go.MapKept Go.Maps Go.Shelf
theorem NZ(l:dN)(F:List av)(p:Option Addr)(cap:Nat)(ops:List rq)(sp:Option Addr)(sc:Nat)(w:World)(hr:∀(i:Nat) (f:av),F[i]?=some f→∃g o,p=some ⟨g,o,none⟩∧w.rangeAt g (o+i*3) [.string f.path,.bool f.dir,.slice f.p f.byt.length f.cap])(hl:F.length≤1048576)
 (hs:∀f∈F,BS w f.p f.byt∧f.byt.length≤1048576∧f.path.size≤1048576∧f.byt.length≤f.cap∧(0<f.byt.length→∀b o,f.p=some ⟨b,o,none⟩→b<w.heap.size))(hmx:dZ w)(hfix:gN w)(hev:ErrVar w)(hsc:BV w sp ops)(hk0:ops.length≤1048576) :
 Calls prog 6 #[.agg #[.int .i64 l.a,.int .i64 l.b,.int .i64 l.c,.int .i64 l.d,.int .i64 l.e,(p,F.length,cap)],(sp,ops.length,sc)] w (Z.b (.bool true) w):=by
 have hpl:=λ(W:World) (hW:Bel w W)=>I9 28160 (by decide) l F p cap ops sp sc W (λi f hf=>by
  obtain⟨g,o,h1,h2⟩:=hr i f hf;exact⟨g,o,h1,λj u hj=>aa hW (h2 j u hj)⟩) hl (λf hf=>⟨(hs f hf).1.bel hW,(hs f hf).2.1,(hs f hf).2.2.1,(hs f hf).2.2.2.1,λh0 b o hb=>Nat.lt_of_lt_of_le ((hs f hf).2.2.2.2 h0 b o hb) hW.size⟩) (hmx.bel hW) (hfix.bel hW) (hev.bel hW) (hsc.bel hW) hk0 (λB wb tk kb rb W2 h1 h2 h3 h4 h5 h6 h7 h8 h9 h10=>by
   obtain⟨E,rfl,rfl,q1,q2,q3⟩:=U0 wb tk kb rb B l F W2 h1 h2 h3 h4 h5 h6 h7 h8 h9 h10;exact⟨PI E,abd E q1 q2,q3⟩)
 have Ey:=xh hpl;have HLV:=xh λW (hW:Bel w W)=>NL W (hmx.bel hW) (hfix.bel hW);clear hpl hr hl hs hmx hfix hev hsc hk0;go_enter func6,ntmps6;have BX:=Blk.new w [.int .i64 l.a,.int .i64 l.b,.int .i64 l.c,.int .i64 l.d,.int .i64 l.e,(p,F.length,cap)] 26;have kx:Bel w (w.alloc (.cells #[.int .i64 l.a,.int .i64 l.b,.int .i64 l.c,.int .i64 l.d,.int .i64 l.e,(p,F.length,cap)] 26)):=Bel.start _ _;change Blk (w.alloc (.cells #[.int .i64 l.a,.int .i64 l.b,.int .i64 l.c,.int .i64 l.d,.int .i64 l.e,(p,F.length,cap)] 26)) w.heap.size _ _ at BX
 go_upto_region 1 with fail
 generalize w.alloc (.cells #[.int .i64 l.a,.int .i64 l.b,.int .i64 l.c,.int .i64 l.d,.int .i64 l.e,(p,F.length,cap)] 26)=w2 at *
 obtain⟨xb,hxb⟩:=e_x w.heap.size;rw[hxb]at BX⊢;have fG:=xh BX;have HK:Hid (Bel w w2):=xh kx;clear BX kx hxb;go_upto_region 2 with(go_at_call 8;((with_reducible refine au (HLV.o _ HK.o) ?_);rintro e w3 ⟨rfl,hk3⟩;have H3:=xh (HK.o.tr hk3);have HB3:=xh (fG.o.bel hk3);clear hk3))
 have HB:=HB3.o;have x0:=HB.c 0 rfl;have x1:=HB.c 1 rfl;have x2:=HB.c 2 rfl;have x3:=HB.c 3 rfl;have x4:=HB.c 4 rfl;have x5:=HB.c 5 rfl;clear HB;have HPY:=xh (Ey.o w3 H3.o);go_wp2_with (go_at_call 22;((with_reducible refine au HPY.o ?_);rintro e7 w7 ⟨rfl,k7⟩;have H7:=xh k7;clear k7))
 go_ret
 exact⟨rfl,H3.o.tr H7.o⟩
end
end Go.Proofs.YtcnjjchlebmfiaaGreatDoor
