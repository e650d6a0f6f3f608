/-.-/
import Derived.Test.YtcnjjchlebmfiaaGreatDoorP03
import Derived.Shelf.SlIterI.Nil
import Derived.Shelf.SortM.Plain
import Derived.Shelf.SortM.SortNone
set_option linter.all false
set_option maxRecDepth 100000
set_option maxHeartbeats 16000000
namespace Go.Proofs
open Go.Shelf
def Tryz.keysA_ren:Go.Shelf.Ren:=⟨λ|7=>75|10=>123|n=>n,λ|23=>113|26=>3|3=>187|28=>101|0=>0|27=>100|33=>179|4=>4|n=>n,λ|n=>n⟩
theorem Tryz.keysA:Go.Proofs.SlLaysZI.n7 prog Tryz.keysA_ren:={
 mixed:=by kernel_rfl
 f7:=⟨Tryz.f75.name,by decide,fe func75 (by kernel_rfl)⟩
 f10:=⟨Tryz.f123.name,by decide,fe func123 (by kernel_rfl)⟩
 t0:=underlying0
 a0:=isAgg0
 z0:=sizeOf0
 v0:=zeroValue0
 t4:=underlying4
 a4:=isAgg4
 z4:=sizeOf4
 v4:=zeroValue4
 t23:=underlying113
 a23:=isAgg113
 z23:=sizeOf113
 v23:=zeroValue113
 t26:=underlying3
 a26:=isAgg3
 z26:=sizeOf3
 v26:=zeroValue3
 t27:=underlying100
 a27:=isAgg100
 z27:=sizeOf100
 v27:=zeroValue100
 t28:=underlying101
 a28:=isAgg101
 z28:=sizeOf101
 v28:=zeroValue101
 t33:=underlying179
 a33:=isAgg179
 z33:=sizeOf179
 v33:=zeroValue179}
def Tryz.sortedA_ren:Go.Shelf.Ren:=⟨λ|6=>38|8=>72|9=>73|11=>120|13=>122|12=>121|23=>219|24=>220|14=>210|15=>211|16=>212|17=>213|18=>214|19=>215|20=>216|21=>217|22=>218|25=>276|26=>277|27=>278|28=>279|29=>280|30=>281|31=>328|n=>n,λ|26=>3|28=>101|24=>60|0=>0|3=>3|37=>33|48=>367|50=>37|4=>4|40=>360|39=>359|45=>364|5=>5|9=>9|51=>430|55=>434|57=>507|58=>142|33=>179|n=>n,λ|n=>n⟩
theorem Tryz.sortedA:Go.Proofs.SlLaysZI.n6 prog Tryz.sortedA_ren:={
 mixed:=by kernel_rfl
 f6:=⟨Tryz.f38.name,by decide,fe func38 (by kernel_rfl)⟩
 f8:=⟨Tryz.f72.name,by decide,fe func72 (by kernel_rfl)⟩
 f11:=⟨Tryz.f120.name,by decide,fe func120 (by kernel_rfl)⟩
 t0:=underlying0
 a0:=isAgg0
 z0:=sizeOf0
 v0:=zeroValue0
 t24:=underlying60
 a24:=isAgg60
 z24:=sizeOf60
 v24:=zeroValue60
 t26:=underlying3
 a26:=isAgg3
 z26:=sizeOf3
 v26:=zeroValue3
 t28:=underlying101
 a28:=isAgg101
 z28:=sizeOf101
 v28:=zeroValue101
 i26:=by kernel_rfl}
def Tryz.Ue:Go.Shelf.Ren:=⟨λ|5=>73|8=>122|7=>121|19=>219|20=>220|10=>210|11=>211|12=>212|13=>213|14=>214|15=>215|16=>216|17=>217|18=>218|30=>276|31=>277|32=>278|33=>279|34=>280|35=>281|40=>328|n=>n,λ|23=>60|25=>3|3=>3|32=>33|22=>60|0=>0|44=>367|46=>37|4=>4|36=>360|35=>359|41=>364|5=>5|9=>9|53=>430|57=>434|63=>507|64=>142|n=>n,λ|n=>n⟩
theorem Tryz.sortA:Go.Proofs.SlLaysM.n5 prog Tryz.Ue:={
 mixed:=by kernel_rfl
 f5:=⟨Tryz.f73.name,by decide,fe func73 (by kernel_rfl)⟩
 f7:=⟨Tryz.f121.name,by decide,fe func121 (by kernel_rfl)⟩
 f8:=fe func122 (by kernel_rfl)
 f10:=⟨Tryz.f210.name,by decide,fe func210 (by kernel_rfl)⟩
 f11:=⟨Tryz.f211.name,by decide,fe func211 (by kernel_rfl)⟩
 f12:=⟨Tryz.f212.name,by decide,fe func212 (by kernel_rfl)⟩
 f13:=⟨Tryz.f213.name,by decide,fe func213 (by kernel_rfl)⟩
 f14:=⟨Tryz.f214.name,by decide,fe func214 (by kernel_rfl)⟩
 f15:=⟨Tryz.f215.name,by decide,fe func215 (by kernel_rfl)⟩
 f16:=⟨Tryz.f216.name,by decide,fe func216 (by kernel_rfl)⟩
 f17:=⟨Tryz.f217.name,by decide,fe func217 (by kernel_rfl)⟩
 f18:=⟨Tryz.f218.name,by decide,fe func218 (by kernel_rfl)⟩
 f19:=fe func219 (by kernel_rfl)
 f20:=fe func220 (by kernel_rfl)
 f30:=⟨Tryz.f276.name,by decide,fe func276 (by kernel_rfl)⟩
 f31:=fe func277 (by kernel_rfl)
 f32:=fe func278 (by kernel_rfl)
 f33:=⟨Tryz.f279.name,by decide,fe func279 (by kernel_rfl)⟩
 f34:=⟨Tryz.f280.name,by decide,fe func280 (by kernel_rfl)⟩
 f35:=⟨Tryz.f281.name,by decide,fe func281 (by kernel_rfl)⟩
 f40:=⟨Tryz.f328.name,by decide,fe func328 (by kernel_rfl)⟩
 t0:=underlying0
 a0:=isAgg0
 z0:=sizeOf0
 v0:=zeroValue0
 t3:=underlying3
 a3:=isAgg3
 z3:=sizeOf3
 v3:=zeroValue3
 t4:=underlying4
 a4:=isAgg4
 z4:=sizeOf4
 v4:=zeroValue4
 t5:=underlying5
 a5:=isAgg5
 z5:=sizeOf5
 v5:=zeroValue5
 t9:=underlying9
 a9:=isAgg9
 z9:=sizeOf9
 v9:=zeroValue9
 t22:=underlying60
 a22:=isAgg60
 z22:=sizeOf60
 v22:=zeroValue60
 t23:=underlying60
 a23:=isAgg60
 z23:=sizeOf60
 v23:=zeroValue60
 t25:=underlying3
 a25:=isAgg3
 z25:=sizeOf3
 v25:=zeroValue3
 t32:=underlying33
 a32:=isAgg33
 z32:=sizeOf33
 v32:=zeroValue33
 t35:=underlying359
 a35:=isAgg359
 z35:=sizeOf359
 v35:=zeroValue359
 t36:=underlying360
 a36:=isAgg360
 z36:=sizeOf360
 v36:=zeroValue360
 t41:=underlying364
 a41:=isAgg364
 z41:=sizeOf364
 v41:=zeroValue364
 t44:=underlying367
 a44:=isAgg367
 z44:=sizeOf367
 v44:=zeroValue367
 t46:=underlying37
 a46:=isAgg37
 z46:=sizeOf37
 v46:=zeroValue37
 t53:=underlying430
 a53:=isAgg430
 z53:=sizeOf430
 v53:=zeroValue430
 t57:=underlying434
 a57:=isAgg434
 z57:=sizeOf434
 v57:=zeroValue434
 t63:=underlying507
 a63:=isAgg507
 z63:=sizeOf507
 v63:=zeroValue507
 t64:=underlying142
 a64:=isAgg142
 z64:=sizeOf142
 v64:=zeroValue142}
end Go.Proofs
namespace Go.Proofs.YtcnjjchlebmfiaaGreatDoor
section
open Go.Proofs.Tryz Go.RowKit Go.Maps Go.Sort Go.Shelf
def ag(m:ax):List Nat:=(List.range 256).filter λn=>(m n).isSome
def R0:Value→Option (DataW Unit×List MemPlace):=λ_=>some (.nil,[])
def D0(kv:List (Int×Value)):DataW Unit:=.map ((kv.map λp=>(Lit.int .i64 p.1,.nil)).foldr DataW.insert [])
theorem Mp.owns{w:World}{b:Nat}{kv:List (Int×Value)}(h:Mp iK w b kv)(hl:kv.length≤maxLen):w.ownsMap prog 3 R0 b kv.length (D0 kv):=by
 obtain⟨es,clock,h1,h2,h3,h4⟩:=h;have hlen:es.size=kv.length:=by have:=congrArg List.length h3;simpa using this
 have hrd:∀a v,iK.ok a→∀c,Go.WideElems.rd prog 3 R0 ⟨.int .i64 a,v,c⟩=some (Lit.int .i64 a,.nil):=by
  intro a v ha c;have:keyOf prog 3 (.int .i64 a)=some (.int .i64 a):=iK.read a ha;simp[Go.WideElems.rd,this,R0]
 have hent:∀x∈es.toList,∃p∈kv,x.key=.int .i64 p.1:=by
  intro x hx;have hm:(x.key,x.val)∈kv.map (λp=>(iK.kf p.1,p.2)):=by rw[←h3];exact List.mem_map.2 ⟨x,hx,rfl⟩
  obtain⟨p,hp,e⟩:=List.mem_map.1 hm
  injection e with e1 _
  exact⟨p,hp,e1.symm⟩
 have hone:∀x∈es.toList,∀a,x.key=.int .i64 a→iK.ok a→Go.WideElems.rd prog 3 R0 x=some (Lit.int .i64 a,.nil):=by
  rintro⟨k,v,c⟩ _ a rfl ha;exact hrd a v ha c
 refine⟨es,clock,h1,⟨by omega,h2,λx hx=>?_⟩,by omega,?_⟩
 ·obtain⟨p,hp,e⟩:=hent x hx
  exact⟨_,hone x hx p.1 e (h4 p hp)⟩
 ·unfold D0
  congr 2
  apply List.ext_getElem?
  intro i;have qP:=congrArg (·[i]?) h3;simp only[fA]at qP⊢
  cases he:es.toList[i]? with
  | none=>
    rw[he]at qP;cases hk:kv[i]? with
    | none=>rfl
    | some p=>rw[hk]at qP;cases qP
  | some x=>
    rw[he]at qP;cases hk:kv[i]? with
    | none=>rw[hk]at qP;cases qP
    | some p=>
      rw[hk]at qP;simp only[Option.map_some,Option.some.injEq,Prod.mk.injEq]at qP
      have:=hone x (List.mem_of_getElem? he) p.1 qP.1 (h4 p (List.mem_of_getElem? hk));simp only[Option.map_some,Go.WideElems.rg,this,Option.getD_some]
theorem Qb(kv:List (Int×Value)):(intKeys (D0 kv)).Perm (kv.map Prod.fst):=by
 unfold D0 intKeys;have:=(Go.WideShapes.sorted_perm (kv.map λp=>(Lit.int .i64 p.1,(.nil:DataW Unit)))).map (λp=>Go.intOf p.1);refine this.trans ?_;rw[List.map_map];exact List.Perm.refl _
theorem Aa(kv:List (Int×Value)):Maps.size (D0 kv)=kv.length:=by
 unfold D0;rw[size_eq,length_sorted,jE]
theorem jl{kv:List (Int×Value)}{a:Int}:(bQ kv a).isSome=true↔a∈kv.map Prod.fst:=by
 unfold bQ;rw[Option.isSome_map,List.find?_isSome];simp only[decide_eq_true_eq,List.mem_map]
theorem Sp.keys{w:World}{b:Nat}{m:ax}{kv:List (Int×Value)}(hm:∀n,256≤n→m n=none)(h1:Mp iK w b kv)(h2:∀n:Nat,bQ kv (n:Int)=(m n).map Pg.v)(h3:∀p∈kv,0≤p.1) :
 (kv.map Prod.fst).Perm ((ag m).map λn:Nat=>(n:Int)):=by
 refine(List.perm_ext_iff_of_nodup h1.nodup ?_).2 λx=>?_
 ·refine List.Pairwise.map _ (λa b hab e=>hab (by omega)) ((List.nodup_range (n:=256)).filter _)
 ·constructor
  ·intro hx
   obtain⟨p,hp,rfl⟩:=List.mem_map.1 hx;obtain⟨n,hn⟩:=Int.eq_ofNat_of_zero_le (h3 p hp);have hs:(bQ kv (n:Int)).isSome=true:=jl.2 (hn▸hx);rw[h2 n,Option.isSome_map]at hs;refine List.mem_map.2 ⟨n,?_,hn.symm⟩;refine List.mem_filter.2 ⟨List.mem_range.2 ?_,hs⟩;by_cases hlt:n<256
   ·exact hlt
   ·rw[hm n (by omega)]at hs;cases hs
  ·intro hx
   obtain⟨n,hn,rfl⟩:=List.mem_map.1 hx;have hs:=(List.mem_filter.1 hn).2;refine jl.1 ?_;rw[h2 n,Option.isSome_map];exact hs
theorem sorts(m:Nat):AnyZI.SortsIn prog Tryz.sortedA_ren Fence.wide m:=
 ⟨λblk off cap ss W hH hblk hsz=>callsIn_wide.2 (AnyM.slices_Sort_int Tryz.sortA blk off cap ss W hH hblk hsz),
  λp cap W=>callsIn_wide.2 (AnyM.slices_Sort_int_none Tryz.sortA p cap W)⟩
theorem JU(mb:Option Nat)(w:World):Calls prog 75 #[.map mb] w λe w'=>e=.returned (.func (.func 123) #[] #[w.heap.size])∧w'=w.alloc (.cells #[.map mb] 113):=
 (callsIn_wide (n:=5)).1 (AnyZI.keys_in Tryz.keysA Fence.wide 5 trivial rfl mb w)
theorem Ub{ss:List Int}{ns:List Nat}(h:ss.Perm (ns.map λn:Nat=>(n:Int)))(hs:ns.Pairwise (·< ·)):ss.mergeSort (λx y=>decide (x≤y))=ns.map λn:Nat=>(n:Int):=by
 refine List.Perm.eq_of_pairwise (le:=λx y:Int=>decide (x≤y)=true) (λa b _ _ h1 h2=>?_) ?_ ?_ ((List.mergeSort_perm _ _).trans h)
 ·simp at h1 h2;omega
 ·exact List.pairwise_mergeSort (λa b c h1 h2=>by simp at *;omega) (λa b=>by simp;omega) _
 ·exact List.Pairwise.map _ (λa b hab=>by simp;omega) hs
theorem qG(m:ax):(ag m).Pairwise (·< ·):=(List.pairwise_lt_range (n:=256)).filter _
theorem aT(m:ax):(ag m).length≤256:=by
 have:=List.length_filter_le (λn=>(m n).isSome) (List.range 256)
 simpa [ag]using this
theorem NZ(q b:Nat)(m:ax)(w:World)(hm:∀n,256≤n→m n=none)(hs:Sp w b m)(hq:q<w.heap.size)(hc:w.cell? (q,0)=some (.map (some b))) :
 Calls prog 38 #[.func (.func 123) #[] #[q]] w λe w'=>∃v,e=.returned v∧
  w'.ownsRow w.heap.size 3 1 v (ag m).length ((ag m).map λn:Nat=>Value.int .i64 n)∧Below w.heap.size w w':=by
 obtain⟨kv,h1,h2,h3⟩:=hs;have hk:=Sp.keys hm h1 h2 h3;have hlen:kv.length=(ag m).length:=by simpa using hk.length_eq
 have hle:=aT m;have hmax:kv.length≤maxLen:=by rw[hlen];exact bU hle (by unfold maxLen;omega)
 have hown:=Mp.owns h1 hmax;have hseq:SeqGives Fence.wide 2 prog 123 #[q] encZ (λss=>ss.Perm (intKeys (D0 kv))) (Maps.size (D0 kv)) w:=
  AnyZI.keys_gives (ρ:=Tryz.keysA_ren) {Tryz.keysA with} Fence.wide _ trivial rfl (by omega) q b kv.length (D0 kv) _ hq hc hown
 have cS:=AnyZI.sorted_in Tryz.sortedA Fence.wide 5 trivial trivial trivial trivial rfl (by omega) (sorts _) (enters_of func73 (by kernel_rfl) rfl) 123 #[q] trivial (enters_of func123 (by kernel_rfl) rfl) _ _ (by rw[Aa];exact hmax) (by rw[Aa];omega) _ hseq;refine((callsIn_wide (n:=5)).1 cS).mono ?_;rintro e w' ⟨v,ss,rfl,hS,hrow,_,hb⟩;have hp:ss.Perm ((ag m).map λn:Nat=>(n:Int)):=(hS.trans (Qb kv)).trans hk;rw[Ub hp (qG m),List.map_map,show ss.length=(ag m).length from by simpa using hp.length_eq]at hrow;exact⟨v,rfl,hrow,hb⟩
theorem JV(q:Nat)(w:World)(hq:q<w.heap.size)(hc:w.cell? (q,0)=some (.map none)) :
 Calls prog 38 #[.func (.func 123) #[] #[q]] w λe w'=>e=.returned (.slice none 0 0)∧Below w.heap.size w w':=by
 have hseq:SeqGives Fence.wide 2 prog 123 #[q] encZ (λss:List Int=>ss=[]) 0 w:=
  AnyZI.keys_gives_nil (ρ:=Tryz.keysA_ren) {Tryz.keysA with} Fence.wide _ trivial rfl q _ hq hc
 have cS:=AnyZI.sorted_in Tryz.sortedA Fence.wide 5 trivial trivial trivial trivial rfl (by omega) (sorts _) (enters_of func73 (by kernel_rfl) rfl) 123 #[q] trivial (enters_of func123 (by kernel_rfl) rfl) _ 0 (Nat.zero_le _) (by omega) _ hseq;refine((callsIn_wide (n:=5)).1 cS).mono ?_;rintro e w' ⟨v,ss,rfl,rfl,_,hnil,hb⟩;exact⟨by rw[hnil.2 rfl],hb⟩
end
section
open Go.Proofs.Tryz Go.RowKit Go.Maps
def dI(n:Nat)(p:Pg):List Value:=.int .i64 n:: .int .u8 p.perm::p.bytes.map (Value.int .u8)
def jg(m:ax)(ns:List Nat):List Value:=ns.flatMap λn=>dI n ((m n).getD Pg.zero)
theorem CV:(prog.info? 57).map (λi=>(i.size,i.bytes,(i.zero.map (·.cells.size))))=some (258,272,some 258):=by kernel_rfl
theorem Ov(n:Int)(p:Pg)(hp:p.bytes.length=256) :
 prog.built 57 [(0,.int .i64 n),(1,.int .u8 p.perm),(2,.agg (p.bytes.map (Value.int .u8)).toArray)]=some (Value.int .i64 n:: .int .u8 p.perm::p.bytes.map (Value.int .u8)).toArray:=by
 refine Hu (places:=[(0,1),(1,1),(2,256)]) CV underlying57 (by kernel_rfl) _ _ λz hz=>?_;obtain⟨z0,z',rfl,h0,hz'⟩:=Cc z 1 257 hz;obtain⟨z1,z2,rfl,h1,h2⟩:=Cc z' 1 256 hz';rw[show z0++(z1++z2)=[]++(z0++(z1++z2))from rfl,nC _ _ _ _ _ _ _ rfl h0];rw[show[]++((Value.int .i64 n).cells.toList++(z1++z2))=[Value.int .i64 n]++(z1++z2)from rfl,nC _ _ _ _ _ _ _ rfl h1];rw[show[Value.int .i64 n]++((Value.int .u8 p.perm).cells.toList++z2)=[Value.int .i64 n,.int .u8 p.perm]++(z2++[])from by simp[Value.cells],nC _ _ _ _ _ _ _ (by simp[Value.cells,hp]) (by simp[Value.cells,hp,h2])];simp[Instr.fill,Value.cells]
theorem Kt(p:Pg)(hp:p.bytes.length=256)(w:World):(Instr.field 187 p.v 1).run prog w=.ok (.agg (p.bytes.map (Value.int .u8)).toArray) w:=by
 have e1:(isAgg 55).run prog w=.ok true w:=by kernel_rfl
 have e2:(sizeOf 55).run prog w=.ok 256 w:=by kernel_rfl
 simp only[Instr.field,Pg.v,Pg.cells,Sem.run_bind,run_underlying underlying187,Result.andThen_ok,asAgg]
 simp[part,e1,e2,hp]
 exact List.take_of_length_le (by simp[hp])
theorem mP(n:Nat)(p:Pg)(hp:p.bytes.length=256):(dI n p).length=258:=by simp[dI,hp]
theorem Ia(n:Nat)(p:Pg):∀v∈dI n p,v.oneCell'=true:=by
 intro v hv;simp only[dI,List.mem_cons,List.mem_map]at hv
 rcases hv with rfl|rfl|⟨x,_,rfl⟩<;>rfl
theorem SH(b:Nat)(m:ax)(w:World)(hs:Sp w b m)(hm:bF m) :
 Calls prog 40 #[.map (some b)] w λe w'=>∃v,e=.returned v∧
  w'.ownsRow w.heap.size 57 258 v (ag m).length (jg m (ag m))∧Bel w w':=by
 have hn1:=aT m;obtain⟨ns,hns⟩:∃ns,ns=ag m:=⟨_,rfl⟩;rw[←hns]at hn1⊢;have hin:∀k,(h:k<ns.length)→∃p,m ns[k]=some p∧p.wf:=by
  intro k h;have:ns[k]∈ag m:=by rw[←hns];exact List.getElem_mem h
  obtain⟨p,hp⟩:=Option.isSome_iff_exists.1 (List.mem_filter.1 this).2;exact⟨p,hp,hm.wf _ p hp⟩
 have HN:=xh hns;have Dq:=xh hin;clear hns hin;go_enter func40,ntmps40
 go_wp2_with (first
  | (go_at_call 75;refine(JU (some b) _).mono ?_;rintro e w1 ⟨rfl,rfl⟩)
  | (go_at_call 38;refine(NZ w.heap.size b m _ hm.below (hs.alloc _) (by simp) (by simp)).mono ?_;rintro e w2 ⟨v,rfl,hrow0,k2⟩
     rw[←HN.o]at hrow0;obtain⟨ps,cap,rfl,hcap,_,hps⟩:=aG hrow0;have K2:Bel w w2:=(Below.heap_alloc' w _).trans (k2.mono (by simp));have vO:=xh hps;clear hps hrow0 k2))
 go_loopw [3,10] (λl i wr=>∃(k:Nat),k≤ns.length∧i=.int .i64 k∧wr.ownsRow w2.heap.size 57 258 l k (jg m (ns.take k))∧Below w2.heap.size w2 wr) (λ_ i _=>ns.length-(intOf i).toNat)
 case atStart=>exact⟨0,Nat.zero_le _,rfl,⟨rfl,.inl ⟨rfl,rfl⟩⟩,Below.refl _ _⟩
 case round=>
  obtain⟨k,hk,rfl,hrow,kr⟩:=hrel;by_cases hlt:k<ns.length
  ·obtain⟨gs,rfl,hb0,hb1,hcells,_⟩:=vO.o.resolve_left (by omega)
   obtain⟨p,hp,hpw⟩:=Dq.o k hlt;have hc:wr.cell? ⟨gs,k,none⟩=some (.int .i64 (ns[k]:Nat)):=by
    rw[World.cell?_of_block (a:=⟨gs,k,none⟩) (kr.block gs hb1),hcells k (by simpa using hlt)];simp[hlt]
   have vN:Sp wr b m:=(hs.bel K2).bel kr;have hl:=vN.lookup ns[k] (by
    have h1:ns[k]∈ag m:=by rw[←HN.o];exact List.getElem_mem hlt
    have:=List.mem_range.1 (List.mem_filter.1 h1).1;omega)
   have hx:jg m (ns.take (k+1))=jg m (ns.take k)++dI ns[k] p:=by
    rw[List.take_succ_eq_append_getElem hlt,jg,List.flatMap_append,List.flatMap_singleton,hp];rfl
   rw[hp,Option.getD_some]at hl;have f1:=CW p;have f2:=Kt p hpw.len;have HX:=xh hx;have jK:=xh (mP ns[k] p hpw.len);have HB:=xh (Ov (ns[k]:Nat) p hpw.len);have ajP:=xh hcells;have gU:=xh hrow;have HP:=xh hp;clear hx hcells hrow hp vO;generalize hnk:ns[k]=nk at *
   have HNK:=xh hnk;clear hnk;have hbase:=kr.size
   go_wp2_with (first
    | (refine wpList_buildTo rfl 57 _ rfl (some 24) rfl (dI nk p).toArray (by simp only[List.map_toArray,List.map_cons,List.map_nil];exact HB.o) ?_)
    | (refine au rfl 39 57 (.tmp 24) rfl (dI nk p) rfl underlying39 (by rw[jK.o];exact CV) (by rw[jK.o];omega) (by rw[jK.o];decide) ?_;intro w3 B3 K3)
    | (refine bu rfl (.tmp 14) (.tmp 25) 39 rfl underlying39 CV (by omega) rfl (aO gU.o K3) wr.heap.size (dI nk p) 57 rfl B3.out jK.o (Ia nk p) (by unfold maxLen;omega) (by omega) (bU hbase K3.size) ?_;intro v5 w5 R5 K5))
   exact⟨⟨k+1,by omega,by go_num,by rw[HX.o];exact R5,(kr.trans (K3.mono hbase)).trans (K5.below _ (bU hbase K3.size) λi hi=>hi)⟩,by simp only[intOf];omega⟩
  ·obtain rfl:k=ns.length:=by omega
   rw[List.take_length]at hrow;have gU:=xh hrow;clear hrow;go_wp2
   go_ret
   exact⟨_,rfl,gU.o.mono K2.size,K2.tr kr⟩
theorem MX(w:World) :
 Calls prog 40 #[.map none] w (Z.b (.slice none 0 0) w):=by
 go_enter func40,ntmps40
 go_wp2_with (first
  | (go_at_call 75;refine(JU none _).mono ?_;rintro e w1 ⟨rfl,rfl⟩)
  | (go_at_call 38;refine(JV w.heap.size _ (by simp) (by simp)).mono ?_;rintro e w2 ⟨rfl,k2⟩))
 refine wp_loop_rounds 1 ?_;rw[rounds_succ];go_wp2
 go_ret
 exact⟨rfl,(Below.heap_alloc' w _).trans (k2.mono (by simp))⟩
end
section
section
variable {P:Program} {t e:TypeId} {k:IntKind} {n:Nat}
theorem vU(he:P.underlying e=some (.int k)):P.plainKey e=true:=by simp[Program.plainKey,he]
theorem vV(he:P.underlying e=some (.int k))(d:Nat)(xs ys:List Int)(w:World):∀is:List Nat,(∀i∈is,i<xs.length∧i<ys.length)→
 (Op.eqItems (d+1) e 1 (xs.map (Value.int k)).toArray (ys.map (Value.int k)).toArray is).run P w=.ok (is.all λi=>xs[i]?==ys[i]?) w
 | [],_=>by simp[Op.eqItems]
 | i::is,h=>by
   obtain⟨h1,h2⟩:=h i (by simp);have ih:=vV he d xs ys w is (λj hj=>h j (by simp[hj]));have p1:=run_part_plain w (vU he) (xs:=(xs.map (Value.int k)).toArray) (off:=i) (v:=.int k xs[i]) (by simp[h1]);have p2:=run_part_plain w (vU he) (xs:=(ys.map (Value.int k)).toArray) (off:=i) (v:=.int k ys[i]) (by simp[h2]);simp only[Op.eqItems,Nat.mul_one,Sem.run_bind,p1,p2,Result.andThen_ok,run_equalIn_int w d e k k xs[i] ys[i] he]
   by_cases hx:xs[i]=ys[i]
   ·simp[hx,ih,bT h1,bT h2]
   ·have hb:(xs[i]==ys[i])=false:=by simpa using hx
    simp[hb,bT h1,bT h2]
theorem Dv(xs ys:List Int)(hx:xs.length=n)(hy:ys.length=n):((List.range n).all λi=>xs[i]?==ys[i]?)=decide (xs=ys):=by
 rw[Bool.eq_iff_iff];simp only[List.all_eq_true,List.mem_range,beq_iff_eq,decide_eq_true_eq]
 constructor
 ·intro h
  apply List.ext_getElem?
  intro i;by_cases hi:i<n
  ·exact h i hi
  ·rw[List.getElem?_eq_none (by omega),List.getElem?_eq_none (by omega)]
 ·rintro rfl i _
  rfl
theorem Dw{i:TypeInfo}(ht:P.underlying t=some (.array n e))(he:P.underlying e=some (.int k))(hi:P.info? e=some i)(hc:P.cellsOf e=1)(xs ys:List Int)(hx:xs.length=n)(hy:ys.length=n)(d:Nat)(w:World) :
 (Op.equalIn (d+2) t (.agg (xs.map (Value.int k)).toArray) (.agg (ys.map (Value.int k)).toArray)).run P w=.ok (decide (xs=ys)) w:=by
 rw[run_equalIn_array w (d+1) _ _ ht hi,hc,vV he d xs ys w _ (λi hi=>by simp at hi;omega),Dv xs ys hx hy]
theorem yL{i:TypeInfo}(ht:P.underlying t=some (.array n e))(he:P.underlying e=some (.int k))(hi:P.info? e=some i)(hc:P.cellsOf e=1)(xs ys:List Int)(hx:xs.length=n)(hy:ys.length=n)(w:World) :
 (binOp .neq t (.agg (xs.map (Value.int k)).toArray) (.agg (ys.map (Value.int k)).toArray)).run P w=.ok (.bool (!decide (xs=ys))) w:=by
 rw[run_neq_struct w,Dw ht he hi hc xs ys hx hy 9998 w];rfl
end
end
section
open Go.Proofs.Tryz Go.RowKit Go.Maps
def ak(n:Nat)(p:Pg):List Value:=.int .i64 n:: .int .i64 p.perm::p.bytes.map (Value.int .u8)
theorem fP{α β:Type}(f:α→List β)(s:Nat):∀(L:List α),(∀x∈L,(f x).length=s)→∀k j,j<s→(L.flatMap f)[k*s+j]?=L[k]?.bind (λx=>(f x)[j]?)
 | [],_,k,j,_=>by simp
 | x::L,h,k,j,hj=>by
   have hx:=h x List.mem_cons_self;cases k with
   | zero=>
     rw[List.flatMap_cons,Nat.zero_mul,Nat.zero_add,List.getElem?_append_left (by omega)];rfl
   | succ k=>
     rw[List.flatMap_cons,List.getElem?_append_right (by rw[hx,Nat.succ_mul];omega),hx,show(k+1)*s+j-s=k*s+j from by rw[Nat.succ_mul];omega,fP f s L (λy hy=>h y (List.mem_cons_of_mem _ hy)) k j hj];rfl
theorem flat_length{α β:Type}(f:α→List β)(s:Nat):∀(L:List α),(∀x∈L,(f x).length=s)→(L.flatMap f).length=L.length*s
 | [],_=>by simp
 | x::L,h=>by
   rw[List.flatMap_cons,List.length_append,h x List.mem_cons_self,flat_length f s L λy hy=>h y (List.mem_cons_of_mem _ hy),List.length_cons,Nat.succ_mul];omega
theorem sD{P:Program}{C:World→Prop}{a:Act}{o:Oper}{K:Act→Prop}(ty:TypeId)(x:Operand)(ho:o.op=.load ty x)(b off:Nat)(hx:a.eval x=.pointer (b,off))(cs:List Value)(d:TypeDesc)(hc:∀w,C w→w.rangeAt b off cs)
 (hu:P.underlying ty=some d)(hd:d.isRow=true)(hi:(P.info? ty).map (·.size)=some cs.length)(hk:K (a.put o.dst (.agg cs.toArray))):o.quiet P a C K:=
 ⟨_,λw hw=>by
   unfold Oper.quietAt;simp only[execOp,ho,hx,run_loadAt_mid w b off ty cs d (hc w hw) hu hd hi,Sem.run_bind,Result.andThen_ok,Sem.run_pure]
   exact⟨rfl,rfl⟩,hk⟩
theorem D8{P:Program}{C:World→Prop}{a:Act}{o:Oper}{K:Act→Prop}(ty rt:TypeId)(x y:Operand)(ho:o.op=.binOp .neq ty x y rt)(xs ys:Array Value)(r:Bool)(hx:a.eval x=.agg xs)(hy:a.eval y=.agg ys)(hm:P.eqGuardType P.depth ty=false)(hr:∀w,(binOp .neq ty (.agg xs) (.agg ys)).run P w=.ok (.bool r) w)(hk:K (a.put o.dst (.bool r))):o.quiet P a C K:=
 ⟨_,λw _=>by
   unfold Oper.quietAt;simp only[execOp,ho,hx,hy,run_eqGuard_agg w .neq ty x y xs ys hm,hr w,Sem.run_bind,Result.andThen_ok,Sem.run_pure]
   exact⟨rfl,rfl⟩,hk⟩
def Rd(w:World)(v:Value)(n:Nat)(xs:List Value):Prop:=
 ∃p cap,v=.slice p n cap∧(0<n→∃g,p=some ⟨g,0,none⟩∧g<w.heap.size∧∀j,j<xs.length→w.cell? ⟨g,j,none⟩=xs[j]?)
theorem Rd.Ib{w:World}{base:Nat}{e:TypeId}{size:Nat}{v:Value}{n:Nat}{xs:List Value}(h:w.ownsRow base e size v n xs):Rd w v n xs:=by
 obtain⟨p,cap,rfl,_,_,h|⟨g,rfl,_,h2,h3,_⟩⟩:=aG h
 ·exact⟨p,cap,rfl,λh0=>by omega⟩
 ·exact⟨_,cap,rfl,λ_=>⟨g,rfl,h2,h3⟩⟩
theorem Rd.bel{w w':World}{v:Value}{n:Nat}{xs:List Value}(h:Rd w v n xs)(hb:Bel w w'):Rd w' v n xs:=by
 obtain⟨p,cap,rfl,h⟩:=h;refine⟨p,cap,rfl,λh0=>?_⟩;obtain⟨g,rfl,h2,h3⟩:=h h0;exact⟨g,rfl,Nat.lt_of_lt_of_le h2 hb.size,λj hj=>(World.cell?_of_block (a:=⟨g,j,none⟩) (hb.block g h2)).trans (h3 j hj)⟩
theorem Yx(va vb:Value)(L:List (Nat×Pg))(w:World)(hl:L.length≤256)(hwf:∀q∈L,q.2.wf)(ha:Rd w va L.length (L.flatMap λq=>dI q.1 q.2))(hb:Rd w vb L.length (L.flatMap λq=>ak q.1 q.2)) :
 Calls prog 209 #[va,vb] w λe w'=>e=.returned (.bool true)∧∃n,w'=w.drewN n:=by
 obtain⟨pa,xW,rfl,ha⟩:=ha;obtain⟨pb,aj6,rfl,hb⟩:=hb;have HA:=xh ha;have HB:=xh hb;have HW:=xh hwf;clear ha hb hwf;go_enter func209,ntmps209;go_wp2
 go_loopw [5] (λi wr=>∃k nn:Nat,k≤L.length∧i=.int .i64 k∧wr=w.drewN nn) (λi _=>L.length-(intOf i).toNat)
 case atStart=>exact⟨0,0,Nat.zero_le _,rfl,rfl⟩
 case round=>
  obtain⟨k,nn,hk,rfl,rfl⟩:=hrel;by_cases hlt:k<L.length
  ·obtain⟨ga,rfl,hga,hca⟩:=HA.o (by omega)
   obtain⟨gb,rfl,hgb,hcb⟩:=HB.o (by omega);have hq:=HW.o L[k] (List.getElem_mem hlt);have la:∀q∈L,(dI q.1 q.2).length=258:=λq hq=>mP _ _ (HW.o q hq).len;have lb:∀q∈L,(ak q.1 q.2).length=258:=λq hq=>by simp[ak,(HW.o q hq).len]
   have ca:∀j,j<258→w.cell? (ga,k*258+j)=(dI L[k].1 L[k].2)[j]?:=λj hj=>by
    rw[hca _ (by rw[flat_length _ 258 L la];omega),fP _ 258 L la k j hj,bT hlt];rfl
   have cb:∀j,j<258→w.cell? (gb,k*258+j)=(ak L[k].1 L[k].2)[j]?:=λj hj=>by
    rw[hcb _ (by rw[flat_length _ 258 L lb];omega),fP _ 258 L lb k j hj,bT hlt];rfl
   obtain⟨n,p,hnp⟩:∃n p,L[k]=(n,p):=⟨_,_,rfl⟩;rw[hnp]at ca cb hq;have a0:w.cell? (ga,k*258)=some (.int .i64 n):=ca 0 (by omega);have a1:w.cell? (ga,k*258+1)=some (.int .u8 p.perm):=ca 1 (by omega);have b0:w.cell? (gb,k*258)=some (.int .i64 n):=cb 0 (by omega);have b1:w.cell? (gb,k*258+1)=some (.int .i64 p.perm):=cb 1 (by omega);have a2:w.rangeAt ga (k*258+2) (p.bytes.map (Value.int .u8)):=λj v hv=>by
    have hj:j<256:=by have:=(bV hv).1;simpa [hq.len]using this
    rw[Nat.add_assoc,ca (2+j) (by omega),←hv,Nat.add_comm 2 j];rfl
   have b2:w.rangeAt gb (k*258+2) (p.bytes.map (Value.int .u8)):=λj v hv=>by
    have hj:j<256:=by have:=(bV hv).1;simpa [hq.len]using this
    rw[Nat.add_assoc,cb (2+j) (by omega),←hv,Nat.add_comm 2 j];rfl
   have A2:Hid (∀w',(∃n,w'=(w.drewN nn).drewN n)→w'.rangeAt ga (k*258+2) (p.bytes.map (Value.int .u8))):=xh (by rintro w' ⟨n,rfl⟩;exact a2);have B2:Hid (∀w',(∃n,w'=(w.drewN nn).drewN n)→w'.rangeAt gb (k*258+2) (p.bytes.map (Value.int .u8))):=xh (by rintro w' ⟨n,rfl⟩;exact b2);have HL:Hid ((prog.info? 55).map (·.size)=some (p.bytes.map (Value.int .u8)).length):=xh (by rw[jE,hq.len];kernel_rfl);have hp0:=hq.perm.1;have hp1:=hq.perm.2;obtain⟨ie,hie⟩:=Option.isSome_iff_exists.1 (show(prog.info? 5).isSome=true by kernel_rfl);have hne:∀w,(binOp .neq 55 (.agg (p.bytes.map (Value.int .u8)).toArray) (.agg (p.bytes.map (Value.int .u8)).toArray)).run prog w=.ok (.bool false) w:=λw=>by
    rw[yL underlying55 underlying5 hie (by kernel_rfl) p.bytes p.bytes hq.len hq.len w];simp
   have nZ:=xh hne;clear ca cb a2 b2 hca hcb la lb HA HB hie hne;go_wp2
   refine wp_region_quiet_lit (by kernel_rfl) (by kernel_rfl) ?_
   repeat (first
    | go_big_quiet_skip
    | (go_big_quiet_want;first
        | (refine sD 55 (.tmp 46) rfl ga (k*258+2) rfl _ _ A2.o underlying55 rfl HL.o ?_;simp only[Act.put,List.setIfInBounds_toArray,List.set_cons_succ,List.set_cons_zero];go_big_quiet_on)
        | (refine sD 55 (.tmp 51) rfl gb (k*258+2) rfl _ _ B2.o underlying55 rfl HL.o ?_;simp only[Act.put,List.setIfInBounds_toArray,List.set_cons_succ,List.set_cons_zero];go_big_quiet_on)
        | (refine D8 55 _ (.tmp 47) (.tmp 52) rfl _ _ false rfl rfl (by kernel_rfl) nZ.o ?_;simp only[Act.put,List.setIfInBounds_toArray,List.set_cons_succ,List.set_cons_zero];go_big_quiet_on)
        | (go_big_quiet_op;go_big_quiet_on)))
   refine wpQuiet_nil ?_;rintro _ ⟨nq,rfl⟩;go_wp2
   go_roundw
   case rel=>exact⟨k+1,nn+nq,by omega,by go_num,by simp[World.drewN_drewN]⟩
   case measure=>simp[intOf]<;>omega
  ·obtain rfl:k=L.length:=by omega
   go_wp2
   go_ret
   exact⟨rfl,nn,rfl⟩
end
section
open Go.Proofs.Tryz Go.RowKit Go.Maps Go.WideShapes
def RV:Value→Option (DataW Value×List MemPlace):=λv=>some (.held v,[])
def QF(kv:List (Int×Value)):List (Lit×DataW Value):=kv.map λp=>(Lit.int .i64 p.1,.held p.2)
def DV(kv:List (Int×Value)):DataW Value:=.map ((QF kv).foldr DataW.insert [])
theorem Mp.adF{w:World}{b:Nat}{kv:List (Int×Value)}(h:Mp iK w b kv)(hl:kv.length≤maxLen):∃es clock,w.heap[b]?=some (.map es clock)∧Go.WideElems.Fit prog 3 RV es clock∧es.size=kv.length∧es.toList.map (Go.WideElems.rg prog 3 RV)=QF kv:=by
 obtain⟨es,clock,h1,h2,h3,h4⟩:=h;have hlen:es.size=kv.length:=by have:=congrArg List.length h3;simpa using this
 have hrd:∀a v,iK.ok a→∀c,Go.WideElems.rd prog 3 RV ⟨.int .i64 a,v,c⟩=some (Lit.int .i64 a,.held v):=by
  intro a v ha c;have:keyOf prog 3 (.int .i64 a)=some (.int .i64 a):=iK.read a ha;simp[Go.WideElems.rd,this,RV]
 have hent:∀x∈es.toList,∃p∈kv,x.key=.int .i64 p.1:=by
  intro x hx;have hm:(x.key,x.val)∈kv.map (λp=>(iK.kf p.1,p.2)):=by rw[←h3];exact List.mem_map.2 ⟨x,hx,rfl⟩
  obtain⟨p,hp,e⟩:=List.mem_map.1 hm
  injection e with e1 _
  exact⟨p,hp,e1.symm⟩
 have hone:∀x∈es.toList,∀a,x.key=.int .i64 a→iK.ok a→Go.WideElems.rd prog 3 RV x=some (Lit.int .i64 a,.held x.val):=by
  rintro⟨k,v,c⟩ _ a rfl ha;exact hrd a v ha c
 refine⟨es,clock,h1,⟨by omega,h2,λx hx=>?_⟩,hlen,?_⟩
 ·obtain⟨p,hp,e⟩:=hent x hx
  exact⟨_,hone x hx p.1 e (h4 p hp)⟩
 ·unfold QF
  apply List.ext_getElem?
  intro i;have qP:=congrArg (·[i]?) h3;simp only[fA]at qP⊢
  cases he:es.toList[i]? with
  | none=>
    rw[he]at qP;cases hk:kv[i]? with
    | none=>rfl
    | some p=>rw[hk]at qP;cases qP
  | some x=>
    rw[he]at qP;cases hk:kv[i]? with
    | none=>rw[hk]at qP;cases qP
    | some p=>
      rw[hk]at qP;simp only[Option.map_some,Option.some.injEq,Prod.mk.injEq]at qP
      have:=hone x (List.mem_of_getElem? he) p.1 qP.1 (h4 p (List.mem_of_getElem? hk));simp only[Option.map_some,Go.WideElems.rg,this,Option.getD_some,qP.2]
theorem Mp.VE{w:World}{b:Nat}{kv:List (Int×Value)}(h:Mp iK w b kv)(hl:kv.length≤maxLen):w.ownsMap prog 3 RV b kv.length (DV kv):=by
 obtain⟨es,clock,h1,h2,h3,h4⟩:=h.adF hl;exact⟨es,clock,h1,h2,by omega,by rw[h4];rfl⟩
theorem VF{w:World}{b:Nat}{kv:List (Int×Value)}(h:Mp iK w b kv)(hl:kv.length≤maxLen){x:Int}{c:Value}(hx:(Lit.int .i64 x).wf=true)(hat:∀zd,(DV kv).atKey (.int .i64 x) zd=.held c):bQ kv x=some c:=by
 obtain⟨es,clock,h1,h2,h3,h4⟩:=h.adF hl;have hr:=Go.Maps.fit_rising iJ h2;rw[h4]at hr;obtain⟨k1,k2⟩:=atKey_sorted (QF kv) hr (.int .i64 x) trivial;by_cases hm:∃p∈QF kv,p.1=.int .i64 x
 ·obtain⟨p,hp,e⟩:=hm
  have:=(k2 p hp e .nil).symm.trans (hat .nil);obtain⟨q,hq,rfl⟩:=List.mem_map.1 hp;simp only at e this
  injection e with _ e
  injection this with this
  subst e;rw[←this];exact jL h.nodup hq
 ·have hn:∀p∈QF kv,p.1≠ .int .i64 x:=λp hp e=>hm ⟨p,hp,e⟩
  have:=(k1 hn .nil).symm.trans (hat .nil);cases this
theorem LJ{kv:List (Int×Value)}{x:Int}(hx:(bQ kv x).isSome=true):Maps.has (DV kv) (.int .i64 x)=true:=by
 obtain⟨p,hp,e⟩:=List.mem_map.1 (jl.1 hx);refine List.any_eq_true.2 ⟨(.int .i64 p.1,.held p.2),mem_sorted.2 (List.mem_map.2 ⟨p,hp,rfl⟩),?_⟩;rw[e];exact WideAt.sameKey_self (a:=.int .i64 x) trivial
theorem og(a b:Int):(Lit.int .i64 a).sameKey (.int .i64 b)=decide (a=b):=by
 by_cases h:a=b
 ·subst h
  rw[WideAt.sameKey_self (a:=.int .i64 a) trivial];simp
 ·have:(Lit.int .i64 a).sameKey (.int .i64 b)=false:=by
   cases hs:(Lit.int .i64 a).sameKey (.int .i64 b)
   ·rfl
   ·have:=WideAt.sameKey_eq hs
    injection this with _ this
    exact absurd this h
  rw[this];simp[h]
def over(m s:ax):ax:=λn=>if (s n).isSome=true then s n else m n
def yN(m s:ax)(left:Lit→Bool):ax:=λn=>if (s n).isSome=true∧left (.int .i64 n)=false then s n else m n
theorem abG{key:Value}{kl:Lit}(h:keyOf prog 3 key=some kl):∃x,key=.int .i64 x:=by
 obtain⟨x,h,_⟩:=Maps.keyOf_int_inv underlying3 h;exact⟨x,h⟩
theorem VG(db sb:Nat)(m s:ax)(w:World)(hd:Sp w db m)(hs:Sp w sb s)(hne:db≠sb)(hb:∀n,256≤n→s n=none)(hwf:∀n p,s n=some p→p.bytes.length=256) :
 Calls prog 101 #[.map (some db),.map (some sb)] w λe w'=>e=.returned (.tuple #[])∧Sp w' db (over m s)∧Keep (λq=>q=db) w w':=by
 obtain⟨kv,hmp,hget,hpos⟩:=hs;have hl:kv.length≤maxLen:=by
  have h1:=(Sp.keys hb hmp hget hpos).length_eq;have h2:=aT s;simp only[jE]at h1
  unfold maxLen;omega
 have hown:=hmp.VE hl;have hdl:=hd.lt;have hsl:=hmp.lt;have HG:=xh hget;have HM:=xh hmp;have HP:=xh hpos;have HB:=xh hb;have HW:=xh hwf;have HL:=xh hl;clear hget hmp hpos hb hwf hl;have hz:∀w,(zeroValue 187).run prog w=.ok (.agg Pg.zero.cells.toArray) w:=pz;obtain⟨zs,hzs⟩:∃zs:List Value,zs=Pg.zero.cells:=⟨_,rfl⟩;have hzl:zs.length=257:=by rw[hzs];simp[Pg.cells,Pg.zero]
 rw[←hzs]at hz;have oh:=xh hzl;clear hzs hzl;go_enter func101,ntmps101
 go_wp2_with (first
  | (at_range;refine wpList_range_own _ rfl _ 113 rfl 3 187 iJ underlying113 _ sb kv.length _ rfl hown ?_;intro w0 hrg0 hg0 hs0)
  | go_in)
 go_frame
 go_loopw [4] (λ_ wr=>∃(left:Lit→Bool) (cnt:Nat),wr.ranges prog 3 RV sb w.heap.size kv.length (DV kv) left cnt∧Sp wr db (yN m s left)∧Keep (λq=>q=db) w wr)
  (λ_ wr=>wr.rangeLeft sb w.heap.size)
 case atStart=>
  refine⟨_,_,hrg0,?_,⟨hg0.os,hg0.tape,hg0.output,hg0.size,λi hi _=>hg0.block i hi (by simp)⟩⟩;have e:yN m s (Maps.has (DV kv))=m:=by
   funext n
   refine if_neg ?_;rintro⟨h1,h2⟩;rw[LJ (by rw[HG.o n,Option.isSome_map];exact h1)]at h2;cases h2
  rw[e];exact hd.of_block (hg0.block db hdl (by simp))
 case round=>
  obtain⟨left,cnt,hrg,hsp,hkr⟩:=hrel
  go_wp2_with (first
   | (at_next;refine wpList_next_ranges _ rfl _ rfl 3 iJ RV (Value.int .i64) id (λkey kl h=>abG h) (λv y h=>⟨v,rfl⟩) sb w.heap.size kv.length _ _ _ rfl hrg ?_ ?_)
   | go_in)
  ·intro _ hl0
   go_wp2
   go_end0
   have e:yN m s left=over m s:=by
    funext n
    unfold yN over;simp[hl0]
   exact⟨rfl,by rw[←e];exact hsp,hkr⟩
  ·intro x c kl y yp w1 cnt1 hkey hlx hR hat hrg1 hlt hg1 hs1 hen
   obtain⟨x',ex,rfl,hwx⟩:=Maps.keyOf_int_inv underlying3 hkey;cases ex
   have hy:y=.held c:=by
    have:=congrArg (Option.map Prod.fst) hR
    simpa [RV]using this.symm
   subst hy;have hgk:=VF HM.o HL.o hwx hat;obtain⟨n,rfl⟩:∃n:Nat,x=n:=by
    have hm:=jl.1 (by rw[hgk];rfl:(bQ kv x).isSome=true);obtain⟨q,hq,rfl⟩:=List.mem_map.1 hm;exact Int.eq_ofNat_of_zero_le (HP.o q hq)
   rw[HG.o n]at hgk;obtain⟨p,hp,rfl⟩:=Option.map_eq_some_iff.1 hgk;have hpw:=HW.o n p hp;have VH:n<256:=by
    refine Classical.byContradiction λhc=>?_;rw[HB.o n (by omega)]at hp;cases hp
   have HX:=xh (And.intro hlx hp);have LK:=xh hrg;have LM:=xh hrg1;have HLT:=xh hlt;have kr1:Keep (λq=>q=db) w w1:=hkr.dY (S:=λq=>q=db) (S':=λq=>q=w.heap.size) ⟨hg1.os,hg1.tape,hg1.output,hg1.size,λi hi hn=>hg1.block i hi (by simpa using λe=>hn e)⟩ (λi hi=>.inr (by omega));have sp1:Sp w1 db (yN m s left):=hsp.of_block (hg1.block db hsp.lt (by simp;omega));obtain⟨cs,hcs⟩:=e_x p.cells;have hpv:p.v=.agg cs.toArray:=by rw[←hcs];rfl
   have hcl:cs.length=257:=by rw[←hcs];simp[Pg.cells,hpw]
   have hone:∀v∈cs,v.oneCell'=true:=by rw[←hcs];exact Pg.cells_one _
   have UQ:=xh hpv;have bP:=xh kr1;have HS1:=xh sp1;rw[hpv]at hen⊢;have jK:=xh hcl;have qg:=xh hone;clear hs1 hgk hp hpw hlx hR hat hrg1 hlt hg1 kr1 sp1 hcs hcl hone hpv hsp hkey hrg
   go_wp2_with (first
    | (refine aA rfl 187 (.tmp 5) (.tmp 12) rfl rfl w1.heap.size cs zs 187 (Blk.new w1 zs _) rfl rfl (by rw[jK.o];kernel_rfl) (oh.o.trans jK.o.symm) qg.o ?_;intro w2 B2 K2;have k12:Bel w1 w2:=(Below.heap_alloc' w1 _).trans (K2.below _ (by simp) (λk hk=>by omega));have uQ:=xh k12;clear k12 K2)
    | (refine wpList_load_mid rfl 187 (.tmp 5) rfl w1.heap.size 0 rfl cs _ (by have:=B2.out.range 0;simpa using this) underlying187 rfl (by rw[jK.o];kernel_rfl) ?_
       obtain⟨es,clock,hup,xN,hk4⟩:=(HS1.o.bel uQ.o).update n (by omega) p;rw[UQ.o]at hup;have HS4:=xh xN;have qh:=xh hk4;clear xN hk4;generalize hw4:Go.ChangeMaps.setBlock w2 db (.map es clock)=w4 at *
       clear hw4))
   have hrg4:=(LM.o.kept (w':=w2) (row:=none) ⟨uQ.o.os,uQ.o.tape,uQ.o.output,uQ.o.size,λi hi _=>uQ.o.block i hi⟩ (by simp) (by simp)).kept (w':=w4) (row:=some db) ⟨qh.o.os,qh.o.tape,qh.o.output,qh.o.size,λi hi hn=>qh.o.block i hi (by simpa using hn)⟩ (by simpa using λe=>hne e.symm) (by simp;omega);have adG:=xh hrg4;clear hrg4
   go_roundw
   case rel=>
    refine⟨_,cnt1,adG.o,?_,bP.o.tr ((Keep.of_bel _ uQ.o).tr qh.o)⟩;have e:yN m s (λz=>left z&&!z.sameKey (.int .i64 n))=λi=>if i=n then some p else yN m s left i:=by
     funext i
     unfold yN;simp only[og]
     by_cases hi:i=n
     ·subst hi
      simp[HX.o.2]
     ·rw[if_neg hi]
      have:decide ((i:Int)=n)=false:=by simp;omega
      rw[this];simp
    rw[e];exact HS4.o
   case measure=>rw[adG.o.left_eq,LK.o.left_eq];exact HLT.o
end
end Go.Proofs.YtcnjjchlebmfiaaGreatDoor
