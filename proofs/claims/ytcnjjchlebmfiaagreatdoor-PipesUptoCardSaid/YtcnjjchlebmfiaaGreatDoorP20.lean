/-.-/
import Derived.Test.YtcnjjchlebmfiaaGreatDoorP19
set_option linter.unusedVariables false
set_option linter.unusedSimpArgs false
set_option maxRecDepth 100000
set_option maxHeartbeats 16000000
namespace Go.Proofs.YtcnjjchlebmfiaaGreatDoor
section
open Go.Proofs.Tryz Go.RowKit Go.MapKept Go.Maps Go.Shelf
theorem MI(cb:Nat)(h ty v:Value)(L M:List Int)(p:Option Addr)(c:Nat)(w:World)(hb:Blk w cb [h,ty,v] 151)(hv:Buf w v L)(hM:kY w p M)(hlen:L.length+M.length≤100000000) :
 Calls prog 390 #[cb,(p,M.length,c)] w λe w'=>e=.returned (.tuple #[.int .i64 M.length,.nilIface])∧∃v' wa,Blk w' cb [h,ty,v'] 151∧Buf w' v' (L++M)∧jl w wa v (dV v)∧Keep (λq=>q=cb) wa w'∧(∀g,ag v'=some g→ag v=some g∨w.heap.size≤g):=by
 obtain⟨q,cap,rfl,hlc,hcm⟩:=hv.slice;have c2:=hb.c 2 rfl;have hcl:=hb.lt;have HB:=xh hb;have HV:=xh hv;have HM:=xh hM;have HL:=xh hlen;have HN:Hid (∀g,ag (.slice q L.length cap)=some g→g≠cb):=xh (hv.ne hb (by decide));clear hb hv hM hlen hlc hcm;go_enter func390,ntmps390;go_wp2_with ((refine nU rfl (.tmp 10) (.tmp 11) rfl (.slice q L.length cap) p c L M rfl rfl HV.o HM.o HL.o ?_);intro v' wa h1 h2 h3 h4;obtain⟨pa,la,bS,rfl⟩:∃pa la bS,v'=.slice pa la bS:=(let ⟨pa,bS,e,_⟩:=h1.slice;⟨pa,_,bS,e⟩);have Uo:Hid (Blk wa cb [h,ty,.slice q L.length cap] 151):=xh (HB.o.keep h2.keep λe=>HN.o _ e rfl);have ca:=Uo.o.cell 2;have fa:=Uo.o.frozen;have HA:=xh (And.intro h1 (And.intro h2 h3));clear h1 h2 h3 h4)
 go_ret2
 exact⟨rfl,_,wa,Uo.o.setCell (o:=2) _,HA.o.1.keep (Keep.setCell _ _ _ _) (HA.o.1.ne Uo.o (by decide)),HA.o.2.1,Keep.setCell _ _ _ _,HA.o.2.2⟩
theorem IB(rb cb:Nat)(h v wr:Value)(n m:Nat)(w:World)(hr:Blk w rb [h,cb] 446)(hb:Blk w cb [v,.int .i64 n,wr] 475)(hn:n=m+1)(hm:m≤1000000) :
 Calls prog 424 #[rb] w λe w'=>e=.returned (.tuple #[])∧Blk w' cb [v,.int .i64 m,wr] 475∧Keep (λq=>q=cb) w w':=by
 subst hn;have c1:=hr.c 1 rfl;have c3:=hb.c 1 rfl;have f0:=hb.frozen;have hl:=hb.lt;have hw:IntKind.i64.wrap (((m+1:Nat):Int)-1)=(m:Int):=by rw[IntKind.wrap_i64];omega
 have HG:Hid (∀v',Blk (w.setCell (cb,1) v') cb [v,v',wr] 475):=xh λv'=>hb.setCell (o:=1) v';clear hb hr;go_enter func424,ntmps424;go_wp2
 go_end0
 have e1:((m:Int)+1-1)=m:=by omega
 try rw[e1]
 exact⟨rfl,HG.o _,Keep.setCell _ _ _ _⟩
theorem IC(rb cb:Nat)(h v rd:Value)(n m:Nat)(w:World)(hr:Blk w rb [h,cb] 448)(hb:Blk w cb [v,rd,.int .i64 n] 475)(hn:n=m+1)(hm:m≤1000000) :
 Calls prog 428 #[rb] w λe w'=>e=.returned (.tuple #[])∧Blk w' cb [v,rd,.int .i64 m] 475∧Keep (λq=>q=cb) w w':=by
 subst hn;have c1:=hr.c 1 rfl;have c3:=hb.c 2 rfl;have f0:=hb.frozen;have hl:=hb.lt;have hw:IntKind.i64.wrap (((m+1:Nat):Int)-1)=(m:Int):=by rw[IntKind.wrap_i64];omega
 have HG:Hid (∀v',Blk (w.setCell (cb,2) v') cb [v,rd,v'] 475):=xh λv'=>hb.setCell (o:=2) v';clear hb hr;go_enter func428,ntmps428;go_wp2
 go_end0
 have e1:((m:Int)+1-1)=m:=by omega
 try rw[e1]
 exact⟨rfl,HG.o _,Keep.setCell _ _ _ _⟩
theorem AO(tb:Nat)(n m k:Nat)(w:World)(hb:Blk w tb [.int .i64 n,.int .i64 m] 222)(hn:n≤1000000)(hk:k≤1000) :
 Calls prog 297 #[tb,.int .i64 k] w (Z.b (.bool (decide (n+k≤m))) w):=by
 have c1:=hb.c 0 rfl;have c2:=hb.c 1 rfl;have hw:IntKind.i64.wrap ((n:Int)+(k:Int))=(n:Int)+(k:Int):=by rw[IntKind.wrap_i64];omega
 have e1:decide ((n:Int)+(k:Int)≤(m:Int))=decide (n+k≤m):=by rw[decide_eq_decide];omega
 clear hb;go_enter func297,ntmps297;go_upto_region 1 with fail
 go_quiet (fail)
 go_wp2
 go_ret
 exact⟨rfl,ah (Bel.refl _) _⟩
theorem Ql(cb:Nat):prog.built 446 [(1,.pointer (cb,0))]=some #[.int .i64 0,.pointer (cb,0)]:=by kernel_rfl
theorem Qm(cb:Nat):prog.built 448 [(1,.pointer (cb,0))]=some #[.int .i64 0,.pointer (cb,0)]:=by kernel_rfl
theorem Qn(tb cb n m:Nat)(v:Value)(w:World)(ht:Blk w tb [.int .i64 n,.int .i64 m] 222)(hb:Blk w cb [v,(0:Int),(0:Int)] 475)(hn:n≤1000000) :
 Calls prog 301 #[tb,cb,true,true] w λe w'=>∃rb wb:Nat,e=.returned (.tuple #[rb,wb])∧Blk w' tb [.int .i64 (n+2:Nat),.int .i64 m] 222∧Blk w' cb [v,(1:Int),(1:Int)] 475∧
  Blk w' rb [(0:Int),cb] 446∧Blk w' wb [(0:Int),cb] 448∧w.heap.size≤rb∧w.heap.size≤wb∧Keep (λq=>q=tb∨q=cb) w w':=by
 have c1:=ht.c 0 rfl;have c2:=hb.c 1 rfl;have c3:=hb.c 2 rfl;have f1:=ht.frozen;have f2:=hb.frozen;have hl1:=ht.lt;have hl2:=hb.lt;have hne:tb≠cb:=ht.ne hb (by decide);have hne':cb≠tb:=λe=>hne e.symm;have hw:IntKind.i64.wrap ((n:Int)+1)=(n:Int)+1:=by rw[IntKind.wrap_i64];omega
 have hw2:IntKind.i64.wrap ((n:Int)+1+1)=(n:Int)+1+1:=by rw[IntKind.wrap_i64];omega
 have b1:=Ql cb;have b2:=Qm cb;have HT:=xh ht;have HB:=xh hb;clear ht hb;go_enter func301,ntmps301;go_wp2
 go_ret2
 have t1:=HT.o.setCell (o:=0) (.int .i64 ((n:Int)+1));have d1:=HB.o.keep (Keep.setCell w tb 0 (.int .i64 ((n:Int)+1))) hne';have k1:=Keep.setCell w tb 0 (.int .i64 ((n:Int)+1));have zw1:(w.setCell (tb,0) (.int .i64 ((n:Int)+1))).heap.size=w.heap.size:=by simp
 generalize w.setCell (tb,0) (.int .i64 ((n:Int)+1))=w1 at *
 have t2:=t1.keep (Keep.setCell w1 cb 1 (.int .i64 1)) hne;have d2:=d1.setCell (o:=1) (.int .i64 1);have k2:=Keep.setCell w1 cb 1 (.int .i64 1);have zw2:(w1.setCell (cb,1) (.int .i64 1)).heap.size=w1.heap.size:=by simp
 generalize w1.setCell (cb,1) (.int .i64 1)=w2 at *
 have t3:=t2.setCell (o:=0) (.int .i64 ((n:Int)+1+1));have d3:=d2.keep (Keep.setCell w2 tb 0 (.int .i64 ((n:Int)+1+1))) hne';have k3:=Keep.setCell w2 tb 0 (.int .i64 ((n:Int)+1+1));have zw3:(w2.setCell (tb,0) (.int .i64 ((n:Int)+1+1))).heap.size=w2.heap.size:=by simp
 generalize w2.setCell (tb,0) (.int .i64 ((n:Int)+1+1))=w3 at *
 have t4:=t3.keep (Keep.setCell w3 cb 2 (.int .i64 1)) hne;have d4:=d3.setCell (o:=2) (.int .i64 1);have k4:=Keep.setCell w3 cb 2 (.int .i64 1);have hs4:(w3.setCell (cb,2) (.int .i64 1)).heap.size=w3.heap.size:=by simp
 generalize w3.setCell (cb,2) (.int .i64 1)=w4 at *
 have hsz:w4.heap.size=w.heap.size:=by rw[hs4,zw3,zw2,zw1]
 have hbel:=(Bel.start w4 (.cells #[(0:Int),cb] 446)).ac (.cells #[(0:Int),cb] 448);have e2:(n:Int)+1+1=((n+2:Nat):Int):=by omega
 rw[e2]at t4;refine⟨_,_,rfl,t4.bel hbel,d4.bel hbel,hsz▸(Blk.new w4 _ _).alloc _,Blk.aT _ [(0:Int),cb] _ (by simp[hsz]),bH _,Nat.le_succ _,?_⟩;exact((((k1.mono λ_ h=>.inl h).tr (k2.mono λ_ h=>.inr h)).tr (k3.mono λ_ h=>.inl h)).tr (k4.mono λ_ h=>.inr h)).tr (Keep.of_bel _ hbel)
theorem MJ(ob:Option Addr)(q n:Nat)(rest:List Value)(t:TypeId)(w:World)(hc:Blk w q (.int .i64 n::rest) t)(hn:n≤1000) :
 Calls prog 56 #[.pointer ob,.iface 107 (.pointer (q,0))] w λe w'=>e=.returned (.tuple #[])∧Blk w' q (.int .i64 (n+1:Nat)::rest) t∧Keep (λx=>x=q) w w':=by
 have hme:∀w,(Go.method 667 107 (.pointer (q,0)) "tinyos/files.hold").run prog w=.ok (392,.pointer (q,0)) w:=λw=>by kernel_rfl
 have HH:=xh (nY q n (n+1) 1 rest t w hc (by omega) (by omega) (by omega));clear hc;go_enter func56,ntmps56;go_wp2_with (go_at_call 392;((with_reducible refine au HH.o ?_);rintro e w1 ⟨rfl,B1,K1⟩;have H1:=xh (And.intro B1 K1);clear B1 K1))
 go_end0
 exact⟨rfl,H1.o.1,H1.o.2⟩
theorem Qo(ob:Option Addr)(q n:Nat)(rest:List Value)(t:TypeId)(w:World)(hc:Blk w q (.int .i64 (n+1:Nat)::rest) t)(hn:n≤1000)(h0:0<n) :
 Calls prog 147 #[.pointer ob,.iface 107 (.pointer (q,0))] w λe w'=>e=.returned (.tuple #[])∧Blk w' q (.int .i64 n::rest) t∧Keep (λx=>x=q) w w':=by
 have hme:∀w,(Go.method 667 107 (.pointer (q,0)) "tinyos/files.hold").run prog w=.ok (392,.pointer (q,0)) w:=λw=>by kernel_rfl
 have HH:=xh (nY q (n+1) n (-1) rest t w hc (by omega) (by omega) (by omega));have h1:(0:Int)<n:=by omega
 clear hc;go_enter func147,ntmps147;go_wp2_with (go_at_call 392;((with_reducible refine au HH.o ?_);rintro e w1 ⟨rfl,B1,K1⟩;have H1:=xh (And.intro B1 K1);clear B1 K1))
 refine bodyPost_ret (results_none rfl _ _ _) rfl ?_;exact⟨rfl,H1.o.1,H1.o.2⟩
theorem EF(ob:Option Addr)(q n:Nat)(rest:List Value)(t:TypeId)(w:World)(hc:Blk w q (.int .i64 n::rest) t)(hn:n≤1000) :
 Calls prog 56 #[.pointer ob,.iface 443 (.pointer (q,0))] w λe w'=>e=.returned (.tuple #[])∧Blk w' q (.int .i64 (n+1:Nat)::rest) t∧Keep (λx=>x=q) w w':=by
 have hme:∀w,(Go.method 667 443 (.pointer (q,0)) "tinyos/files.hold").run prog w=.ok (392,.pointer (q,0)) w:=λw=>by kernel_rfl
 have HH:=xh (nY q n (n+1) 1 rest t w hc (by omega) (by omega) (by omega));clear hc;go_enter func56,ntmps56;go_wp2_with (go_at_call 392;((with_reducible refine au HH.o ?_);rintro e w1 ⟨rfl,B1,K1⟩;have H1:=xh (And.intro B1 K1);clear B1 K1))
 go_end0
 exact⟨rfl,H1.o.1,H1.o.2⟩
theorem Uq(ob:Option Addr)(q n:Nat)(rest:List Value)(t:TypeId)(w:World)(hc:Blk w q (.int .i64 (n+1:Nat)::rest) t)(hn:n≤1000)(h0:0<n) :
 Calls prog 147 #[.pointer ob,.iface 443 (.pointer (q,0))] w λe w'=>e=.returned (.tuple #[])∧Blk w' q (.int .i64 n::rest) t∧Keep (λx=>x=q) w w':=by
 have hme:∀w,(Go.method 667 443 (.pointer (q,0)) "tinyos/files.hold").run prog w=.ok (392,.pointer (q,0)) w:=λw=>by kernel_rfl
 have HH:=xh (nY q (n+1) n (-1) rest t w hc (by omega) (by omega) (by omega));have h1:(0:Int)<n:=by omega
 clear hc;go_enter func147,ntmps147;go_wp2_with (go_at_call 392;((with_reducible refine au HH.o ?_);rintro e w1 ⟨rfl,B1,K1⟩;have H1:=xh (And.intro B1 K1);clear B1 K1))
 refine bodyPost_ret (results_none rfl _ _ _) rfl ?_;exact⟨rfl,H1.o.1,H1.o.2⟩
theorem EG(ob:Option Addr)(q n:Nat)(rest:List Value)(t:TypeId)(w:World)(hc:Blk w q (.int .i64 n::rest) t)(hn:n≤1000) :
 Calls prog 56 #[.pointer ob,.iface 447 (.pointer (q,0))] w λe w'=>e=.returned (.tuple #[])∧Blk w' q (.int .i64 (n+1:Nat)::rest) t∧Keep (λx=>x=q) w w':=by
 have hme:∀w,(Go.method 667 447 (.pointer (q,0)) "tinyos/files.hold").run prog w=.ok (392,.pointer (q,0)) w:=λw=>by kernel_rfl
 have HH:=xh (nY q n (n+1) 1 rest t w hc (by omega) (by omega) (by omega));clear hc;go_enter func56,ntmps56;go_wp2_with (go_at_call 392;((with_reducible refine au HH.o ?_);rintro e w1 ⟨rfl,B1,K1⟩;have H1:=xh (And.intro B1 K1);clear B1 K1))
 go_end0
 exact⟨rfl,H1.o.1,H1.o.2⟩
theorem Ur(ob:Option Addr)(q n:Nat)(rest:List Value)(t:TypeId)(w:World)(hc:Blk w q (.int .i64 (n+1:Nat)::rest) t)(hn:n≤1000)(h0:0<n) :
 Calls prog 147 #[.pointer ob,.iface 447 (.pointer (q,0))] w λe w'=>e=.returned (.tuple #[])∧Blk w' q (.int .i64 n::rest) t∧Keep (λx=>x=q) w w':=by
 have hme:∀w,(Go.method 667 447 (.pointer (q,0)) "tinyos/files.hold").run prog w=.ok (392,.pointer (q,0)) w:=λw=>by kernel_rfl
 have HH:=xh (nY q (n+1) n (-1) rest t w hc (by omega) (by omega) (by omega));have h1:(0:Int)<n:=by omega
 clear hc;go_enter func147,ntmps147;go_wp2_with (go_at_call 392;((with_reducible refine au HH.o ?_);rintro e w1 ⟨rfl,B1,K1⟩;have H1:=xh (And.intro B1 K1);clear B1 K1))
 refine bodyPost_ret (results_none rfl _ _ _) rfl ?_;exact⟨rfl,H1.o.1,H1.o.2⟩
theorem EH(cb:Nat)(w:World):Calls prog 391 #[cb] w (Z.e (.tuple #[]) w):=by
 go_enter func391,ntmps391;go_wp2
 go_end0
 exact⟨rfl,rfl⟩
theorem MK(ob:Option Addr)(q:Nat)(rest:List Value)(t:TypeId)(w:World)(hc:Blk w q (.int .i64 (1:Nat)::rest) t) :
 Calls prog 147 #[.pointer ob,.iface 107 (.pointer (q,0))] w λe w'=>e=.returned (.tuple #[])∧Blk w' q (.int .i64 (0:Nat)::rest) t∧Keep (λx=>x=q) w w':=by
 have hme:∀w,(Go.method 667 107 (.pointer (q,0)) "tinyos/files.hold").run prog w=.ok (392,.pointer (q,0)) w:=λw=>by kernel_rfl
 have hmc:∀w,(Go.method 667 107 (.pointer (q,0)) "tinyos/files.close").run prog w=.ok (391,.pointer (q,0)) w:=λw=>by kernel_rfl
 have hta:∀w,(Instr.typeAssert (.iface 107 (.pointer (q,0))) 117 107 true).run prog w=.ok (.tuple #[q,true]) w:=λw=>by kernel_rfl
 have HH:=xh (nY q 1 0 (-1) rest t w hc (by omega) (by omega) (by omega));clear hc;go_enter func147,ntmps147
 go_wp2_with (first
  | (go_at_call 392;((with_reducible refine au HH.o ?_);rintro e w1 ⟨rfl,B1,K1⟩;have H1:=xh (And.intro B1 K1);clear B1 K1))
  | (go_at_call 391;((with_reducible refine au (EH q _) ?_);rintro e w2 ⟨rfl,rfl⟩)))
 go_end0
 exact⟨rfl,H1.o.1,H1.o.2⟩
theorem Qp(tb q cb c k m r:Nat)(v u:Value)(w:World)(ht:Blk w tb [.int .i64 c,.int .i64 m] 222)(hc:Blk w q [.int .i64 (1:Nat),cb] 446)(hb:Blk w cb [v,.int .i64 k,u] 475)(hk:k=r+1)(hr:r≤1000)(hcn:c≤1000000)(hc0:0<c) :
 Calls prog 147 #[tb,.iface 443 (.pointer (q,0))] w λe w'=>e=.returned (.tuple #[])∧Blk w' q [.int .i64 (0:Nat),cb] 446∧Blk w' tb [.int .i64 (c-1:Nat),.int .i64 m] 222∧Blk w' cb [v,.int .i64 r,u] 475∧Keep (λx=>x=q∨x=tb∨x=cb) w w':=by
 have hme:∀w,(Go.method 667 443 (.pointer (q,0)) "tinyos/files.hold").run prog w=.ok (392,.pointer (q,0)) w:=λw=>by kernel_rfl
 have hmc:∀w,(Go.method 667 443 (.pointer (q,0)) "tinyos/files.close").run prog w=.ok (424,.pointer (q,0)) w:=λw=>by kernel_rfl
 have hta:∀w,(Instr.typeAssert (.iface 443 (.pointer (q,0))) 117 107 true).run prog w=.ok (.tuple #[.pointer none,false]) w:=λw=>by kernel_rfl
 have HH:=xh (nY q 1 0 (-1) [cb] _ w hc (by omega) (by omega) (by omega));have Wl:tb≠q:=ht.ne hc (by decide);have hct:cb≠tb:=hb.ne ht (by decide);have hcq:cb≠q:=hb.ne hc (by decide);have HT:=xh ht;have HB:=xh hb;have jD:=xh (And.intro Wl (And.intro hct hcq));have hw:IntKind.i64.wrap ((c:Int)-1)=((c-1:Nat):Int):=by rw[IntKind.wrap_i64];omega
 have iV:=xh λW (h1:Blk W q [.int .i64 (0:Nat),cb] 446) (h2:Blk W cb [v,.int .i64 k,u] 475)=>IB q cb (.int .i64 (0:Nat)) v u k r W h1 h2 hk (by omega);clear hc ht hb Wl hct hcq;go_enter func147,ntmps147;go_upto_region 3 with(go_at_call 392;((with_reducible refine au HH.o ?_);rintro e w1 ⟨rfl,B1,K1⟩;have H1:=xh (And.intro B1 K1);clear B1 K1))
 have BT:=HT.o.keep H1.o.2 jD.o.1;have BC:=HB.o.keep H1.o.2 jD.o.2.2;have t0:=BT.c 0 rfl;have tf:=BT.frozen;have tl:=BT.lt;have ML:=xh BT;have Zr:=xh BC;clear BT BC;go_upto_region 4 with fail
 have kT:=Keep.setCell w1 tb 0 (.int .i64 ((c-1:Nat):Int));have BT:=ML.o.setCell (o:=0) (.int .i64 ((c-1:Nat):Int));have BQ:=H1.o.1.keep kT (λe=>jD.o.1 e.symm);have BC:=Zr.o.keep kT jD.o.2.1;generalize w1.setCell (tb,0) (.int .i64 ((c-1:Nat):Int))=w2 at *
 have Kt:=xh (iV.o w2 BQ BC);have H2:=xh (And.intro BT (And.intro BQ kT));clear BT BQ BC kT;go_wp2_with (go_at_call 424;((with_reducible refine au Kt.o ?_);rintro e w3 ⟨rfl,B3,K3⟩;have H3:=xh (And.intro B3 K3);clear B3 K3))
 go_end0
 exact⟨rfl,H2.o.2.1.keep H3.o.2 (λe=>jD.o.2.2 e.symm),H2.o.1.keep H3.o.2 (λe=>jD.o.2.1 e.symm),H3.o.1,((H1.o.2.mono λ_ h=>.inl h).tr (H2.o.2.2.mono λ_ h=>.inr (.inl h))).tr (H3.o.2.mono λ_ h=>.inr (.inr h))⟩
theorem Qq(tb q cb c k m r:Nat)(v u:Value)(w:World)(ht:Blk w tb [.int .i64 c,.int .i64 m] 222)(hc:Blk w q [.int .i64 (1:Nat),cb] 448)(hb:Blk w cb [v,u,.int .i64 k] 475)(hk:k=r+1)(hr:r≤1000)(hcn:c≤1000000)(hc0:0<c) :
 Calls prog 147 #[tb,.iface 447 (.pointer (q,0))] w λe w'=>e=.returned (.tuple #[])∧Blk w' q [.int .i64 (0:Nat),cb] 448∧Blk w' tb [.int .i64 (c-1:Nat),.int .i64 m] 222∧Blk w' cb [v,u,.int .i64 r] 475∧Keep (λx=>x=q∨x=tb∨x=cb) w w':=by
 have hme:∀w,(Go.method 667 447 (.pointer (q,0)) "tinyos/files.hold").run prog w=.ok (392,.pointer (q,0)) w:=λw=>by kernel_rfl
 have hmc:∀w,(Go.method 667 447 (.pointer (q,0)) "tinyos/files.close").run prog w=.ok (428,.pointer (q,0)) w:=λw=>by kernel_rfl
 have hta:∀w,(Instr.typeAssert (.iface 447 (.pointer (q,0))) 117 107 true).run prog w=.ok (.tuple #[.pointer none,false]) w:=λw=>by kernel_rfl
 have HH:=xh (nY q 1 0 (-1) [cb] _ w hc (by omega) (by omega) (by omega));have Wl:tb≠q:=ht.ne hc (by decide);have hct:cb≠tb:=hb.ne ht (by decide);have hcq:cb≠q:=hb.ne hc (by decide);have HT:=xh ht;have HB:=xh hb;have jD:=xh (And.intro Wl (And.intro hct hcq));have hw:IntKind.i64.wrap ((c:Int)-1)=((c-1:Nat):Int):=by rw[IntKind.wrap_i64];omega
 have iV:=xh λW (h1:Blk W q [.int .i64 (0:Nat),cb] 448) (h2:Blk W cb [v,u,.int .i64 k] 475)=>IC q cb (.int .i64 (0:Nat)) v u k r W h1 h2 hk (by omega);clear hc ht hb Wl hct hcq;go_enter func147,ntmps147;go_upto_region 3 with(go_at_call 392;((with_reducible refine au HH.o ?_);rintro e w1 ⟨rfl,B1,K1⟩;have H1:=xh (And.intro B1 K1);clear B1 K1))
 have BT:=HT.o.keep H1.o.2 jD.o.1;have BC:=HB.o.keep H1.o.2 jD.o.2.2;have t0:=BT.c 0 rfl;have tf:=BT.frozen;have tl:=BT.lt;have ML:=xh BT;have Zr:=xh BC;clear BT BC;go_upto_region 4 with fail
 have kT:=Keep.setCell w1 tb 0 (.int .i64 ((c-1:Nat):Int));have BT:=ML.o.setCell (o:=0) (.int .i64 ((c-1:Nat):Int));have BQ:=H1.o.1.keep kT (λe=>jD.o.1 e.symm);have BC:=Zr.o.keep kT jD.o.2.1;generalize w1.setCell (tb,0) (.int .i64 ((c-1:Nat):Int))=w2 at *
 have Kt:=xh (iV.o w2 BQ BC);have H2:=xh (And.intro BT (And.intro BQ kT));clear BT BQ BC kT;go_wp2_with (go_at_call 428;((with_reducible refine au Kt.o ?_);rintro e w3 ⟨rfl,B3,K3⟩;have H3:=xh (And.intro B3 K3);clear B3 K3))
 go_end0
 exact⟨rfl,H2.o.2.1.keep H3.o.2 (λe=>jD.o.2.2 e.symm),H2.o.1.keep H3.o.2 (λe=>jD.o.2.1 e.symm),H3.o.1,((H1.o.2.mono λ_ h=>.inl h).tr (H2.o.2.2.mono λ_ h=>.inr (.inl h))).tr (H3.o.2.mono λ_ h=>.inr (.inr h))⟩
theorem aav(pb n:Nat)(t:TypeId)(a:Nat)(cs:List Value)(w:World)(hb:Blk w pb cs 120)(hn:n<8)(hc:cs[23+n]?=some (.iface t (.pointer (a,0)))) :
 Calls prog 239 #[pb,.int .i64 n] w (Z.e (.tuple #[.iface t (.pointer (a,0)),.nilIface]) w):=by
 have c1:w.cell? (pb,23+n)=some (.iface t (.pointer (a,0))):=by rw[hb.cell];exact hc
 have h0:(0:Int)≤n:=by omega
 have h1:(n:Int)<8:=by omega
 clear hb hc;go_enter func239,ntmps239;go_wp2
 go_ret2
 exact⟨rfl,rfl⟩
theorem aaw(pb n:Nat)(cs:List Value)(w:World)(hb:Blk w pb cs 120)(hn:n<8)(hc:cs[23+n]?=some .nilIface) :
 Calls prog 239 #[pb,.int .i64 n] w (Z.e (.tuple #[.nilIface,.iface 48 (.int .i64 13)]) w):=by
 have c1:w.cell? (pb,23+n)=some .nilIface:=by rw[hb.cell];exact hc
 have h0:(0:Int)≤n:=by omega
 have h1:(n:Int)<8:=by omega
 clear hb hc;go_enter func239,ntmps239;go_wp2
 go_ret2
 exact⟨rfl,rfl⟩
theorem Qr(pb:Nat)(n:Int)(w:World)(hn:n<0∨8≤n) :
 Calls prog 239 #[pb,n] w (Z.e (.tuple #[.nilIface,.iface 48 (.int .i64 13)]) w):=by
 by_cases h0:n<0
 ·clear hn
  go_enter func239,ntmps239;go_wp2
  go_ret2
  exact⟨rfl,rfl⟩
 ·have h1:8≤n:=hn.resolve_left h0
  clear hn;go_enter func239,ntmps239;go_wp2
  go_ret2
  exact⟨rfl,rfl⟩
theorem AP(q pb j:Nat)(cs:List Value)(x:Ob)(w:World)(hq:w.cell? (q,0)=some (.pointer (pb,0)))(hb:Blk w pb cs 120)(hj:j<8)(hc:cs[23+j]?=some x.v) :
 Calls prog 336 #[.int .i64 j,q] w (Z.e (.bool (decide (x.cnt=0))) w):=by
 have c1:w.cell? (pb,23+j)=some x.v:=by rw[hb.cell];exact hc
 have h0:(0:Int)≤j:=by omega
 have h1:(j:Int)<8:=by omega
 clear hb hc;cases x with
 | no=>
   change _=some Value.nilIface at c1
   go_enter func336,ntmps336;go_wp2
   go_ret
   exact⟨rfl,rfl⟩
 | jo b=>
   change _=some (Value.iface 107 (.pointer (b,0)))at c1
   go_enter func336,ntmps336;go_wp2
   go_ret
   exact⟨rfl,rfl⟩
 | rd b=>
   change _=some (Value.iface 443 (.pointer (b,0)))at c1
   go_enter func336,ntmps336;go_wp2
   go_ret
   exact⟨rfl,rfl⟩
 | wr b=>
   change _=some (Value.iface 447 (.pointer (b,0)))at c1
   go_enter func336,ntmps336;go_wp2
   go_ret
   exact⟨rfl,rfl⟩
theorem Qs(q f r:Nat)(w:World)(hfr:f≤r)(hr:r<8)(hT:∀j,f≤j→j≤r→Calls prog 336 #[.int .i64 j,q] w (Z.e (.bool (decide (j=r))) w)) :
 Calls prog 335 #[.int .i64 f,(8:Int),.func (.func 336) #[] #[q],true] w (Z.e (.tuple #[.int .i64 r,true]) w):=by
 have HT:=xh hT;clear hT;go_enter func335,ntmps335;go_upto_region 2 with fail
 go_loopw [10] (λi wr=>∃j:Nat,i=.int .i64 j∧f≤j∧j≤r∧wr=w) (λi _=>8-(intOf i).toNat)
 case atStart=>exact⟨f,rfl,bH _,hfr,by first|exact rfl|trivial⟩
 case round=>
  obtain⟨j,rfl,hj,hjr,rfl⟩:=hrel;have hlt:(j:Int)<8:=by omega
  have HJ:=xh (HT.o j hj hjr);by_cases e:j=r
  ·subst e
   go_wp2_with (go_at_call 336;((with_reducible refine au HJ.o ?_);rintro e w2 ⟨rfl,rfl⟩))
   go_ret2
   exact⟨rfl,(by first|exact rfl|trivial)⟩
  ·have hd:decide (j=r)=false:=by simpa using e
   go_wp2_with (go_at_call 336;((with_reducible refine au HJ.o ?_);rintro e w2 ⟨rfl,rfl⟩))
   go_roundw
   case rel=>exact⟨j+1,by go_num,by omega,by omega,by first|exact rfl|trivial⟩
   case measure=>simp[intOf]<;>omega
theorem IE(q f:Nat)(w:World)(hf:f≤8)(hT:∀j,f≤j→j<8→Calls prog 336 #[.int .i64 j,q] w (Z.e (.bool false) w)) :
 Calls prog 335 #[.int .i64 f,(8:Int),.func (.func 336) #[] #[q],true] w (Z.e (.tuple #[(0:Int),false]) w):=by
 have HT:=xh hT;clear hT;go_enter func335,ntmps335;go_upto_region 2 with fail
 go_loopw [10] (λi wr=>∃j:Nat,i=.int .i64 j∧f≤j∧j≤8∧wr=w) (λi _=>8-(intOf i).toNat)
 case atStart=>exact⟨f,rfl,bH _,hf,by first|exact rfl|trivial⟩
 case round=>
  obtain⟨j,rfl,hj,hjr,rfl⟩:=hrel;by_cases hlt:j<8
  ·have hlt':(j:Int)<8:=by omega
   have HJ:=xh (HT.o j hj hlt);go_wp2_with (go_at_call 336;((with_reducible refine au HJ.o ?_);rintro e w2 ⟨rfl,rfl⟩))
   go_roundw
   case rel=>exact⟨j+1,by go_num,by omega,by omega,by first|exact rfl|trivial⟩
   case measure=>simp[intOf]<;>omega
  ·obtain rfl:j=8:=by omega
   go_wp2
   go_ret2
   exact⟨rfl,(by first|exact rfl|trivial)⟩
theorem Us(pb f r:Nat)(cs:List Value)(fds:List Ob)(w:World)(hb:Blk w pb cs 120)(hc:∀i x,fds[i]?=some x→cs[23+i]?=some x.v)(hl:fds.length=8)(hfr:f≤r)(hr:r<8)(h1:∀i x,f≤i→i<r→fds[i]?=some x→x.cnt≠0)(h2:∀x,fds[r]?=some x→x.cnt=0) :
 Calls prog 303 #[pb,.int .i64 f] w (Z.b (.tuple #[.int .i64 r,.nilIface]) w):=by
 have kB:Bel w (w.alloc (.cells #[pb] 104)):=Bel.start w _;have hq:(w.alloc (.cells #[pb] 104)).cell? (w.heap.size,0)=some (.pointer (pb,0)):=(Blk.new w [_] 104).cell 0;have HL:=xh (Qs w.heap.size f r _ hfr hr λj hj hjr=>by
  obtain⟨x,hx⟩:∃x,fds[j]?=some x:=⟨_,bP (by omega)⟩;have:=AP w.heap.size pb j cs x _ hq (hb.bel kB) (by omega) (hc j x hx);have e:decide (x.cnt=0)=decide (j=r):=by
   by_cases e:j=r
   ·subst e;simp[h2 x hx]
   ·simp[e,h1 j x hj (by omega) hx]
  rwa [e]at this)
 have HK:=xh kB;clear hb hc hl hfr h1 h2 hq kB;go_enter func303,ntmps303;go_wp2_with (go_at_call 335;((with_reducible refine au HL.o ?_);rintro e w2 ⟨rfl,rfl⟩))
 go_ret2
 exact⟨rfl,HK.o⟩
theorem MM(pb f:Nat)(cs:List Value)(fds:List Ob)(w:World)(hb:Blk w pb cs 120)(hc:∀i x,fds[i]?=some x→cs[23+i]?=some x.v)(hl:fds.length=8)(hf:f≤8)(h1:∀i x,f≤i→fds[i]?=some x→x.cnt≠0) :
 Calls prog 303 #[pb,.int .i64 f] w (Z.b (.tuple #[(0:Int),.iface 48 (.int .i64 14)]) w):=by
 have kB:Bel w (w.alloc (.cells #[pb] 104)):=Bel.start w _;have hq:(w.alloc (.cells #[pb] 104)).cell? (w.heap.size,0)=some (.pointer (pb,0)):=(Blk.new w [_] 104).cell 0;have HL:=xh (IE w.heap.size f _ hf λj hj hjr=>by
  obtain⟨x,hx⟩:∃x,fds[j]?=some x:=⟨_,bP (by omega)⟩;have:=AP w.heap.size pb j cs x _ hq (hb.bel kB) (by omega) (hc j x hx);have e:decide (x.cnt=0)=false:=by simp[h1 j x hj hx]
  rwa [e]at this)
 have HK:=xh kB;clear hb hc hl hf h1 hq kB;go_enter func303,ntmps303;go_wp2_with (go_at_call 335;((with_reducible refine au HL.o ?_);rintro e w2 ⟨rfl,rfl⟩))
 go_ret2
 exact⟨rfl,HK.o⟩
theorem tL(kb tb pb i a:Nat)(t:TypeId)(cs:List Value)(w:World)(R:World→Prop)(h7:w.cell? (kb,7)=some (.pointer (tb,0)))(hkp:kb≠pb)(hb:Blk w pb cs 120)(hi:i<8)(hl:23+i<cs.length)
 (hH:Calls prog 56 #[tb,.iface t (.pointer (a,0))] (w.setCell (pb,23+i) (.iface t (.pointer (a,0)))) λe w'=>e=.returned (.tuple #[])∧R w') :
 Calls prog 305 #[kb,pb,.int .i64 i,.iface t (.pointer (a,0))] w λe w'=>e=.returned (.tuple #[])∧R w':=by
 obtain⟨v,hv⟩:∃v,cs[23+i]?=some v:=⟨_,bP hl⟩;have c1:w.cell? (pb,23+i)=some v:=by rw[hb.cell];exact hv
 have f1:=hb.frozen (23+i);have i0:(0:Int)≤i:=by omega
 have i1:(i:Int)<8:=by omega
 have h7':(w.setCell (pb,23+i) (.iface t (.pointer (a,0)))).cell? (kb,7)=some (.pointer (tb,0)):=by
  rw[World.cell?_setCell_other _ _ _ _ (by simp[hkp])];exact h7
 have HH:=xh hH;clear hb hv hH;go_enter func305,ntmps305;go_wp2_with (go_at_call 56;((with_reducible refine au HH.o ?_);rintro e w1 ⟨rfl,k1⟩;have H1:=xh k1;clear k1))
 go_end0
 exact⟨rfl,H1.o⟩
theorem vk(kb tb pb i a:Nat)(t:TypeId)(cs:List Value)(w:World)(R:World→Prop)(h7:w.cell? (kb,7)=some (.pointer (tb,0)))(hkp:kb≠pb)(hb:Blk w pb cs 120)(hi:i<8)(hc:cs[23+i]?=some (.iface t (.pointer (a,0))))
 (hH:Calls prog 147 #[tb,.iface t (.pointer (a,0))] (w.setCell (pb,23+i) .nilIface) λe w'=>e=.returned (.tuple #[])∧R w') :
 Calls prog 81 #[kb,pb,.int .i64 i] w λe w'=>e=.returned (.tuple #[])∧R w':=by
 have c1:w.cell? (pb,23+i)=some (.iface t (.pointer (a,0))):=by rw[hb.cell];exact hc
 have f1:=hb.frozen (23+i);have i0:(0:Int)≤i:=by omega
 have i1:(i:Int)<8:=by omega
 have h7':(w.setCell (pb,23+i) .nilIface).cell? (kb,7)=some (.pointer (tb,0)):=by
  rw[World.cell?_setCell_other _ _ _ _ (by simp[hkp])];exact h7
 have HH:=xh hH;clear hb hH hc;go_enter func81,ntmps81;go_wp2_with (go_at_call 147;((with_reducible refine au HH.o ?_);rintro e w1 ⟨rfl,k1⟩;have H1:=xh k1;clear k1))
 go_end0
 exact⟨rfl,H1.o⟩
theorem bL:prog.built 62 []=some #[.int .i64 0,.int .i64 0,.slice none 0 0]:=by kernel_rfl
theorem IG(n:Int)(p:Option Addr)(l c:Nat):prog.built 62 [(0,.int .i64 n),(2,.slice p l c)]=some #[.int .i64 n,.int .i64 0,.slice p l c]:=by kernel_rfl
theorem nZ(n m:Int):prog.built 62 [(0,.int .i64 n),(1,.int .i64 m)]=some #[.int .i64 n,.int .i64 m,.slice none 0 0]:=by kernel_rfl
theorem dU{fn:Func}{p u:Tmp}(h:fn.results = #[.cell p 62,.tmp u]){R:Ending→World→Prop}{a:Act}{w:World}{q:Nat}{n m:Int}{dp:Option Addr}{dn dc:Nat}(hp:a.tmps.getD p undef=.pointer (q,0))
 (hb:Blk w q [n,m,(dp,dn,dc)] 62)(hd:a.defers=[])(hR:R (.returned (.tuple #[.agg #[n,m,(dp,dn,dc)],a.tmps.getD u undef])) w):bodyPost prog fn R .ret a w:=by
 refine bodyPost_ret (v:=.tuple #[.agg #[n,m,(dp,dn,dc)],a.tmps.getD u undef]) ?_ hd hR;have c0:=hb.c 0 rfl;have c1:=hb.c 1 rfl;have c2:=hb.c 2 rfl;rw[results_cell_tmp h,hp];go_simp
theorem Qt(kb pb:Nat)(kd a b:Int)(s:ByteArray)(lv dv:Value)(w:World)(hl:∃p n c,lv=.slice p n c)(hd:∃p n c,dv=.slice p n c)
 (hF:∀W,Bel w W→Calls prog 239 #[pb,a] W (Z.e (.tuple #[.nilIface,.iface 48 (.int .i64 13)]) W)) :
 Calls prog 240 #[kb,pb,.agg #[kd,a,b,s,lv,dv]] w (Z.b (.tuple #[.agg #[(0:Int),(0:Int),()],.iface 48 (.int .i64 13)]) w):=by
 obtain⟨lp,ln,lc,rfl⟩:=hl;obtain⟨dp,dn,dc,rfl⟩:=hd;have b0:=bL;have HF:=xh hF;have k2:Bel w ((w.alloc (.cells #[kd,a,b,s,.slice lp ln lc,.slice dp dn dc] 68)).alloc (.cells #[(0:Int),(0:Int),()] 62)):=(Bel.start w _).ac _;have HK:=xh k2;clear hF k2;go_enter func240,ntmps240;go_wp2_with (go_at_call 239;((with_reducible refine au (HF.o _ HK.o) ?_);rintro e w2 ⟨rfl,rfl⟩))
 (try simp only[Exit.inBlock,Exit.then])
 exact dU (q:=w.heap.size+1) rfl rfl (Blk.aT _ [(0:Int),(0:Int),()] _ (by simp)) rfl ⟨rfl,HK.o⟩
structure z8(t:TypeId)(q:Nat)(kd:Int)(fK fR fW:Nat):Prop where
 mK:∀w,(Go.method 667 t (.pointer (q,0)) "Kind").run prog w=.ok (fK,.pointer (q,0)) w
 mR:∀w,(Go.method 667 t (.pointer (q,0)) "Read").run prog w=.ok (fR,.pointer (q,0)) w
 mW:∀w,(Go.method 667 t (.pointer (q,0)) "Write").run prog w=.ok (fW,.pointer (q,0)) w
 cK:∀(args:Array Value) (W:World),(callFunc fK args).run prog W=.ok (.enter fK args) W
 cR:∀(args:Array Value) (W:World),(callFunc fR args).run prog W=.ok (.enter fR args) W
 cW:∀(args:Array Value) (W:World),(callFunc fW args).run prog W=.ok (.enter fW args) W
 kK:∀w,Calls prog fK #[q] w λe w'=>e=.returned (.int .i64 kd)∧w'=w
theorem nI(q:Nat):z8 107 q 4 387 389 390:=
 ⟨λw=>by kernel_rfl,λw=>by kernel_rfl,λw=>by kernel_rfl,λ_ _=>by kernel_rfl,λ_ _=>by kernel_rfl,λ_ _=>by kernel_rfl,AQ q⟩
theorem tN(q:Nat):z8 443 q 2 421 422 423:=
 ⟨λw=>by kernel_rfl,λw=>by kernel_rfl,λw=>by kernel_rfl,λ_ _=>by kernel_rfl,λ_ _=>by kernel_rfl,λ_ _=>by kernel_rfl,AR q⟩
theorem tQ(q:Nat):z8 447 q 3 425 426 427:=
 ⟨λw=>by kernel_rfl,λw=>by kernel_rfl,λw=>by kernel_rfl,λ_ _=>by kernel_rfl,λ_ _=>by kernel_rfl,λ_ _=>by kernel_rfl,AU q⟩
theorem II(kb pb q fK fR fW:Nat)(t:TypeId)(ok:Int)(kd a b:Int)(s:ByteArray)(lp dp:Option Addr)(ln lc dn dc:Nat)(w:World)(hM:z8 t q ok fK fR fW)(hF:∀W,Bel w W→Calls prog 239 #[pb,a] W (Z.e (.tuple #[.iface t (.pointer (q,0)),.nilIface]) W))
 (hk:ok=3) :
 Calls prog 240 #[kb,pb,.agg #[kd,a,b,s,(lp,ln,lc),(dp,dn,dc)]] w (Z.b (.tuple #[.agg #[(0:Int),(0:Int),()],.iface 48 (.int .i64 13)]) w):=by
 have b0:=bL;have HF:=xh hF;obtain⟨mK,mR,mW,cK,cR,cW,kK⟩:=hM;have HKK:=xh kK;have k2:Bel w ((w.alloc (.cells #[kd,a,b,s,(lp,ln,lc),(dp,dn,dc)] 68)).alloc (.cells #[(0:Int),(0:Int),()] 62)):=(Bel.start w _).ac _;have HK:=xh k2;subst hk;clear hF k2 kK;go_enter func240,ntmps240
 go_wp2_with (first
  | (go_at_call 239;((with_reducible refine au (HF.o _ HK.o) ?_);rintro e w2 ⟨rfl,rfl⟩))
  | ((with_reducible refine au (HKK.o _) ?_);rintro e w2 ⟨rfl,hh⟩;subst hh))
 (try simp only[Exit.inBlock,Exit.then])
 exact dU (q:=w.heap.size+1) rfl rfl (Blk.aT _ [(0:Int),(0:Int),()] _ (by simp)) rfl ⟨rfl,HK.o⟩
theorem AV(kb pb q fK fR fW:Nat)(t:TypeId)(ok:Int)(kd a b:Int)(s:ByteArray)(lp dp:Option Addr)(ln lc dn dc:Nat)(w:World)(hM:z8 t q ok fK fR fW)(hF:∀W,Bel w W→Calls prog 239 #[pb,a] W (Z.e (.tuple #[.iface t (.pointer (q,0)),.nilIface]) W))
 (hk:ok≠3)(hb:b<0) :
 Calls prog 240 #[kb,pb,.agg #[kd,a,b,s,(lp,ln,lc),(dp,dn,dc)]] w (Z.b (.tuple #[.agg #[(0:Int),(0:Int),()],.iface 48 (.int .i64 6)]) w):=by
 have b0:=bL;have HF:=xh hF;obtain⟨mK,mR,mW,cK,cR,cW,kK⟩:=hM;have HKK:=xh kK;have k2:Bel w ((w.alloc (.cells #[kd,a,b,s,(lp,ln,lc),(dp,dn,dc)] 68)).alloc (.cells #[(0:Int),(0:Int),()] 62)):=(Bel.start w _).ac _;have HK:=xh k2;have hkb:(ok==3)=false:=bK hk;clear hk;clear hF k2 kK;go_enter func240,ntmps240
 go_wp2_with (first
  | (go_at_call 239;((with_reducible refine au (HF.o _ HK.o) ?_);rintro e w2 ⟨rfl,rfl⟩))
  | ((with_reducible refine au (HKK.o _) ?_);rintro e w2 ⟨rfl,hh⟩;subst hh))
 (try simp only[Exit.inBlock,Exit.then])
 exact dU (q:=w.heap.size+1) rfl rfl (Blk.aT _ [(0:Int),(0:Int),()] _ (by simp)) rfl ⟨rfl,HK.o⟩
theorem AX(kb pb q fK fR fW:Nat)(t:TypeId)(ok:Int)(kd a b:Int)(s:ByteArray)(lp dp:Option Addr)(ln lc dn dc:Nat)(w:World)(hM:z8 t q ok fK fR fW)(hF:∀W,Bel w W→Calls prog 239 #[pb,a] W (Z.e (.tuple #[.iface t (.pointer (q,0)),.nilIface]) W))
 (hk:ok≠3)(hb:4096<b) :
 Calls prog 240 #[kb,pb,.agg #[kd,a,b,s,(lp,ln,lc),(dp,dn,dc)]] w (Z.b (.tuple #[.agg #[(0:Int),(0:Int),()],.iface 48 (.int .i64 6)]) w):=by
 have b0:=bL;have HF:=xh hF;obtain⟨mK,mR,mW,cK,cR,cW,kK⟩:=hM;have HKK:=xh kK;have k2:Bel w ((w.alloc (.cells #[kd,a,b,s,(lp,ln,lc),(dp,dn,dc)] 68)).alloc (.cells #[(0:Int),(0:Int),()] 62)):=(Bel.start w _).ac _;have HK:=xh k2;have hkb:(ok==3)=false:=bK hk;clear hk;clear hF k2 kK;go_enter func240,ntmps240
 go_wp2_with (first
  | (go_at_call 239;((with_reducible refine au (HF.o _ HK.o) ?_);rintro e w2 ⟨rfl,rfl⟩))
  | ((with_reducible refine au (HKK.o _) ?_);rintro e w2 ⟨rfl,hh⟩;subst hh))
 (try simp only[Exit.inBlock,Exit.then])
 exact dU (q:=w.heap.size+1) rfl rfl (Blk.aT _ [(0:Int),(0:Int),()] _ (by simp)) rfl ⟨rfl,HK.o⟩
theorem tT(kb pb q fK fR fW:Nat)(t:TypeId)(ok:Int)(kd a b:Int)(s:ByteArray)(lp dp:Option Addr)(ln lc dn dc:Nat)(w:World)(hM:z8 t q ok fK fR fW)(hF:∀W,Bel w W→Calls prog 239 #[pb,a] W (Z.e (.tuple #[.iface t (.pointer (q,0)),.nilIface]) W))
 (hk:ok≠3)(hb0:0≤b)(hb:b≤4096)(R:Option Addr→Nat→Nat→Value→World→Prop)(hev:∀p l c ev W,R p l c ev W→l≤1000000∧(ev=.nilIface∨∃t' x,ev=.iface t' x))
 (hR:∀W,Bel w W→w.heap.size+2≤W.heap.size→Blk W (w.heap.size+1) [(0:Int),(0:Int),()] 62→Calls prog fR #[q,b] W λe w'=>∃p l c ev,e=.returned (.tuple #[.slice p l c,ev])∧R p l c ev w'∧Blk w' (w.heap.size+1) [(0:Int),(0:Int),()] 62) :
 Calls prog 240 #[kb,pb,.agg #[kd,a,b,s,(lp,ln,lc),(dp,dn,dc)]] w λe w'=>∃(p:Option Addr) (l c:Nat) (ev:Value) (w0:World),e=.returned (.tuple #[.agg #[.int .i64 l,(0:Int),.slice p l c],ev])∧R p l c ev w0∧Keep (λx=>x=w.heap.size+1) w0 w':=by
 have b0:=bL;have HF:=xh hF;obtain⟨mK,mR,mW,cK,cR,cW,kK⟩:=hM;have HKK:=xh kK;have k2:Bel w ((w.alloc (.cells #[kd,a,b,s,(lp,ln,lc),(dp,dn,dc)] 68)).alloc (.cells #[(0:Int),(0:Int),()] 62)):=(Bel.start w _).ac _;have HK:=xh k2;have hkb:(ok==3)=false:=bK hk;have hbb:decide (b<0)=false:=by simpa using hb0
 have aeP:decide (4096<b)=false:=by simpa using hb
 have bn:=IG;have HR:=xh (hR _ k2 (by simp) (Blk.aT _ [(0:Int),(0:Int),()] _ (by simp)));have HEV:=xh hev;clear hk hR hev hb0 hb;clear hF k2 kK;go_enter func240,ntmps240
 go_wp2_with (first
  | (go_at_call 239;((with_reducible refine au (HF.o _ HK.o) ?_);rintro e w2 ⟨rfl,rfl⟩))
  | ((with_reducible refine au (HKK.o _) ?_);rintro e w2 ⟨rfl,hh⟩;subst hh)
  | ((with_reducible refine au HR.o ?_);rintro e w3 ⟨p,l,c,ev,rfl,r3,h3⟩;have H3:=xh (And.intro r3 h3);have x0:=h3.cell 0;have x1:=h3.cell 1;have x2:=h3.cell 2;have xf:=h3.frozen;have xl:=h3.lt;clear r3 h3))
 (try simp only[Exit.inBlock,Exit.then])
 exact dU (q:=w.heap.size+1) rfl rfl (((H3.o.2.setCell (o:=0) _).setCell (o:=1) _).setCell (o:=2) _) rfl ⟨p,l,c,ev,w3,rfl,H3.o.1,((Keep.setCell _ _ _ _).tr (Keep.setCell _ _ _ _)).tr (Keep.setCell _ _ _ _)⟩
theorem MN(kb pb:Nat)(kd a b:Int)(s:ByteArray)(lp dp:Option Addr)(ln lc dn dc:Nat)(w:World)(hF:∀W,Bel w W→Calls prog 239 #[pb,a] W (Z.e (.tuple #[.nilIface,.iface 48 (.int .i64 13)]) W)) :
 Calls prog 241 #[kb,pb,.agg #[kd,a,b,s,(lp,ln,lc),(dp,dn,dc)]] w (Z.b (.tuple #[(0:Int),.iface 48 (.int .i64 13)]) w):=by
 have HF:=xh hF;have k1:Bel w (w.alloc (.cells #[kd,a,b,s,(lp,ln,lc),(dp,dn,dc)] 68)):=Bel.start w _;have HK:=xh k1;clear hF k1;go_enter func241,ntmps241
 go_wp2_with (first
  | (go_at_call 239;((with_reducible refine au (HF.o _ HK.o) ?_);rintro e w2 ⟨rfl,rfl⟩)))
 go_ret2
 exact⟨rfl,HK.o⟩
theorem EI(kb pb q fK fR fW:Nat)(t:TypeId)(ok:Int)(kd a b:Int)(s:ByteArray)(lp dp:Option Addr)(ln lc dn dc:Nat)(w:World)(hM:z8 t q ok fK fR fW)(hF:∀W,Bel w W→Calls prog 239 #[pb,a] W (Z.e (.tuple #[.iface t (.pointer (q,0)),.nilIface]) W))
 (hk:ok=2) :
 Calls prog 241 #[kb,pb,.agg #[kd,a,b,s,(lp,ln,lc),(dp,dn,dc)]] w (Z.b (.tuple #[(0:Int),.iface 48 (.int .i64 13)]) w):=by
 have HF:=xh hF;obtain⟨mK,mR,mW,cK,cR,cW,kK⟩:=hM;have HKK:=xh kK;have k1:Bel w (w.alloc (.cells #[kd,a,b,s,(lp,ln,lc),(dp,dn,dc)] 68)):=Bel.start w _;have HK:=xh k1;subst hk;clear hF k1 kK;go_enter func241,ntmps241
 go_wp2_with (first
  | (go_at_call 239;((with_reducible refine au (HF.o _ HK.o) ?_);rintro e w2 ⟨rfl,rfl⟩))
  | ((with_reducible refine au (HKK.o _) ?_);rintro e w2 ⟨rfl,hh⟩;subst hh))
 go_ret2
 exact⟨rfl,HK.o⟩
theorem yI(kb pb q fK fR fW:Nat)(t:TypeId)(ok:Int)(kd a b:Int)(s:ByteArray)(lp dp:Option Addr)(ln lc dn dc:Nat)(w:World)(hM:z8 t q ok fK fR fW)(hF:∀W,Bel w W→Calls prog 239 #[pb,a] W (Z.e (.tuple #[.iface t (.pointer (q,0)),.nilIface]) W))
 (hk:ok≠2)(hb:4096<dn) :
 Calls prog 241 #[kb,pb,.agg #[kd,a,b,s,(lp,ln,lc),(dp,dn,dc)]] w (Z.b (.tuple #[(0:Int),.iface 48 (.int .i64 6)]) w):=by
 have HF:=xh hF;obtain⟨mK,mR,mW,cK,cR,cW,kK⟩:=hM;have HKK:=xh kK;have k1:Bel w (w.alloc (.cells #[kd,a,b,s,(lp,ln,lc),(dp,dn,dc)] 68)):=Bel.start w _;have HK:=xh k1;have hkb:(ok==2)=false:=bK hk;clear hk;clear hF k1 kK;go_enter func241,ntmps241
 go_wp2_with (first
  | (go_at_call 239;((with_reducible refine au (HF.o _ HK.o) ?_);rintro e w2 ⟨rfl,rfl⟩))
  | ((with_reducible refine au (HKK.o _) ?_);rintro e w2 ⟨rfl,hh⟩;subst hh))
 go_ret2
 exact⟨rfl,HK.o⟩
theorem qE(kb pb q fK fR fW:Nat)(t:TypeId)(ok:Int)(kd a b:Int)(s:ByteArray)(lp dp:Option Addr)(ln lc dn dc:Nat)(w:World)(hM:z8 t q ok fK fR fW)(hF:∀W,Bel w W→Calls prog 239 #[pb,a] W (Z.e (.tuple #[.iface t (.pointer (q,0)),.nilIface]) W))
 (hk:ok≠2)(hb:dn≤4096)(R:Int→Value→World→Prop)
 (hW:∀W,Bel w W→Calls prog fW #[q,(dp,dn,dc)] W λe w'=>∃l ev,e=.returned (.tuple #[.int .i64 l,ev])∧R l ev w') :
 Calls prog 241 #[kb,pb,.agg #[kd,a,b,s,(lp,ln,lc),(dp,dn,dc)]] w λe w'=>∃l ev,e=.returned (.tuple #[.int .i64 l,ev])∧R l ev w':=by
 have HF:=xh hF;obtain⟨mK,mR,mW,cK,cR,cW,kK⟩:=hM;have HKK:=xh kK;have k1:Bel w (w.alloc (.cells #[kd,a,b,s,(lp,ln,lc),(dp,dn,dc)] 68)):=Bel.start w _;have HK:=xh k1;have hkb:(ok==2)=false:=bK hk;have hbb:decide ((4096:Int)<dn)=false:=by simp;omega
 have HW:=xh (hW _ k1);clear hk hW hb;clear hF k1 kK;go_enter func241,ntmps241
 go_wp2_with (first
  | (go_at_call 239;((with_reducible refine au (HF.o _ HK.o) ?_);rintro e w2 ⟨rfl,rfl⟩))
  | ((with_reducible refine au (HKK.o _) ?_);rintro e w2 ⟨rfl,hh⟩;subst hh)
  | ((with_reducible refine au HW.o ?_);rintro e w3 ⟨l,ev,rfl,r3⟩;have H3:=xh r3;clear r3))
 go_ret2
 exact⟨l,ev,rfl,H3.o⟩
theorem Ut(kb pb:Nat)(kd a b:Int)(s:ByteArray)(lp dp:Option Addr)(ln lc dn dc:Nat)(w:World)(hF:∀W,Bel w W→Calls prog 239 #[pb,a] W (Z.e (.tuple #[.nilIface,.iface 48 (.int .i64 13)]) W)) :
 Calls prog 243 #[kb,pb,.agg #[kd,a,b,s,(lp,ln,lc),(dp,dn,dc)]] w (Z.b (.tuple #[(0:Int),.iface 48 (.int .i64 13)]) w):=by
 have HF:=xh hF;have k1:Bel w (w.alloc (.cells #[kd,a,b,s,(lp,ln,lc),(dp,dn,dc)] 68)):=Bel.start w _;have HK:=xh k1;clear hF k1;go_enter func243,ntmps243
 go_wp2_with (first
  | (go_at_call 239;((with_reducible refine au (HF.o _ HK.o) ?_);rintro e w2 ⟨rfl,rfl⟩)))
 go_ret2
 exact⟨rfl,HK.o⟩
theorem MO(kb pb q:Nat)(t:TypeId)(kd a b:Int)(s:ByteArray)(lp dp:Option Addr)(ln lc dn dc:Nat)(w:World)(hF:∀W,Bel w W→Calls prog 239 #[pb,a] W (Z.e (.tuple #[.iface t (.pointer (q,0)),.nilIface]) W))
 (hR:∀W,Bel w W→Calls prog 303 #[pb,(0:Int)] W (Z.b (.tuple #[(0:Int),.iface 48 (.int .i64 14)]) W)) :
 Calls prog 243 #[kb,pb,.agg #[kd,a,b,s,(lp,ln,lc),(dp,dn,dc)]] w (Z.b (.tuple #[(0:Int),.iface 48 (.int .i64 14)]) w):=by
 have HF:=xh hF;have k1:Bel w (w.alloc (.cells #[kd,a,b,s,(lp,ln,lc),(dp,dn,dc)] 68)):=Bel.start w _;have HK:=xh k1;have LQ:=xh hR;clear hR;clear hF k1;go_enter func243,ntmps243
 go_wp2_with (first
  | (go_at_call 239;((with_reducible refine au (HF.o _ HK.o) ?_);rintro e w2 ⟨rfl,rfl⟩))
  | (go_at_call 303;((with_reducible refine au (LQ.o _ HK.o) ?_);rintro e w3 ⟨rfl,k3⟩;have H3:=xh k3;clear k3)))
 go_ret2
 exact⟨rfl,HK.o.tr H3.o⟩
theorem Uu(kb pb q:Nat)(t:TypeId)(kd a b:Int)(s:ByteArray)(lp dp:Option Addr)(ln lc dn dc:Nat)(w:World)(hF:∀W,Bel w W→Calls prog 239 #[pb,a] W (Z.e (.tuple #[.iface t (.pointer (q,0)),.nilIface]) W))
 (r:Nat)(R:World→Prop)(hR:∀W,Bel w W→Calls prog 303 #[pb,(0:Int)] W (Z.b (.tuple #[.int .i64 r,.nilIface]) W))
 (hS:∀W,Bel w W→Calls prog 305 #[kb,pb,.int .i64 r,.iface t (.pointer (q,0))] W λe w'=>e=.returned (.tuple #[])∧R w') :
 Calls prog 243 #[kb,pb,.agg #[kd,a,b,s,(lp,ln,lc),(dp,dn,dc)]] w λe w'=>e=.returned (.tuple #[.int .i64 r,.nilIface])∧R w':=by
 have HF:=xh hF;have k1:Bel w (w.alloc (.cells #[kd,a,b,s,(lp,ln,lc),(dp,dn,dc)] 68)):=Bel.start w _;have HK:=xh k1;have LQ:=xh hR;have HS:=xh hS;clear hR hS;clear hF k1;go_enter func243,ntmps243
 go_wp2_with (first
  | (go_at_call 239;((with_reducible refine au (HF.o _ HK.o) ?_);rintro e w2 ⟨rfl,rfl⟩))
  | (go_at_call 303;((with_reducible refine au (LQ.o _ HK.o) ?_);rintro e w3 ⟨rfl,k3⟩;have H3:=xh k3;clear k3))
  | (go_at_call 305;((with_reducible refine au (HS.o _ (HK.o.tr H3.o)) ?_);rintro e w4 ⟨rfl,k4⟩;have H4:=xh k4;clear k4)))
 go_ret2
 exact⟨rfl,H4.o⟩
end
end Go.Proofs.YtcnjjchlebmfiaaGreatDoor
