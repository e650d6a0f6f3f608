/-.-/
import Derived.Test.YtcnjjchlebmfiaaGreatDoorP05
import Derived.Test.YtcnjjchlebmfiaaGreatDoorP04
import Derived.Shelf.SlIterI.Nil
import Derived.Shelf.SortM.Plain
import Derived.Shelf.SortM.SortNone
import Derived.Shelf.Small.Wraps
import Derived.Shelf.Strings.SplitShaped
import Derived.StillTailTactics
set_option linter.unusedVariables false
set_option linter.unusedSimpArgs false
set_option maxRecDepth 100000
set_option maxHeartbeats 16000000
namespace Go.Proofs
open Go.Shelf
def Tryz.Q7:Go.Shelf.Ren:=⟨λ|103=>252|210=>316|206=>349|n=>n,λ|9=>9|4=>4|24=>235|3=>3|n=>n,λ|n=>n⟩
theorem Tryz.aa2:Go.Proofs.Lays.n103 prog Tryz.Q7:={
 mixed:=by kernel_rfl
 f103:=fe func252 (by kernel_rfl)
 f206:=fe func349 (by kernel_rfl)
 f210:=fe func316 (by kernel_rfl)
 t3:=underlying3
 a3:=isAgg3
 z3:=sizeOf3
 v3:=zeroValue3
 t4:=underlying4
 a4:=isAgg4
 z4:=sizeOf4
 v4:=zeroValue4
 t9:=underlying9
 a9:=isAgg9
 z9:=sizeOf9
 v9:=zeroValue9
 t24:=underlying235
 a24:=isAgg235
 z24:=sizeOf235
 v24:=zeroValue235}
def Tryz.Jb:Go.Shelf.Ren:=⟨λ|146=>253|221=>317|268=>350|138=>351|143=>318|195=>357|197=>358|218=>359|219=>352|260=>365|217=>360|225=>361|224=>362|267=>363|266=>366|314=>367|n=>n,λ|9=>9|31=>66|3=>3|4=>4|0=>0|105=>530|21=>21|5=>5|46=>33|119=>55|139=>538|138=>537|146=>534|51=>367|n=>n,λ|1=>3|3=>4|4=>5|n=>n⟩
theorem Tryz.Ya:Go.Proofs.Lays.n146 prog Tryz.Jb:={
 mixed:=by kernel_rfl
 f138:=fe func351 (by kernel_rfl)
 f143:=fe func318 (by kernel_rfl)
 f146:=fe func253 (by kernel_rfl)
 f195:=fe func357 (by kernel_rfl)
 f197:=fe func358 (by kernel_rfl)
 f217:=fe func360 (by kernel_rfl)
 f218:=fe func359 (by kernel_rfl)
 f219:=fe func352 (by kernel_rfl)
 f221:=fe func317 (by kernel_rfl)
 f224:=fe func362 (by kernel_rfl)
 f225:=fe func361 (by kernel_rfl)
 f260:=fe func365 (by kernel_rfl)
 f266:=fe func366 (by kernel_rfl)
 f267:=fe func363 (by kernel_rfl)
 f268:=fe func350 (by kernel_rfl)
 f314:=fe func367 (by kernel_rfl)
 t0:=underlying0
 a0:=isAgg0
 z0:=sizeOf0
 v0:=zeroValue0
 t3:=underlying3
 a3:=isAgg3
 z3:=sizeOf3
 v3:=zeroValue3
 t4:=underlying4
 a4:=isAgg4
 z4:=sizeOf4
 v4:=zeroValue4
 t5:=underlying5
 a5:=isAgg5
 z5:=sizeOf5
 v5:=zeroValue5
 t9:=underlying9
 a9:=isAgg9
 z9:=sizeOf9
 v9:=zeroValue9
 t21:=underlying21
 a21:=isAgg21
 z21:=sizeOf21
 v21:=zeroValue21
 t31:=underlying66
 a31:=isAgg66
 z31:=sizeOf66
 v31:=zeroValue66
 t46:=underlying33
 a46:=isAgg33
 z46:=sizeOf33
 v46:=zeroValue33
 t51:=underlying367
 a51:=isAgg367
 z51:=sizeOf367
 v51:=zeroValue367
 t105:=underlying530
 a105:=isAgg530
 z105:=sizeOf530
 v105:=zeroValue530
 t119:=underlying55
 a119:=isAgg55
 z119:=sizeOf55
 t138:=underlying537
 a138:=isAgg537
 z138:=sizeOf537
 v138:=zeroValue537
 t139:=underlying538
 a139:=isAgg538
 z139:=sizeOf538
 v139:=zeroValue538
 t146:=underlying534
 a146:=isAgg534
 z146:=sizeOf534
 v146:=zeroValue534
 g1:=by kernel_rfl
 g3:=by kernel_rfl
 g4:=by kernel_rfl}
def Tryz.NG:Go.Shelf.Ren:=⟨λ|144=>254|143=>318|219=>352|217=>360|225=>361|224=>362|267=>363|266=>366|314=>367|n=>n,λ|9=>9|4=>4|3=>3|5=>5|46=>33|146=>534|51=>367|n=>n,λ|1=>3|n=>n⟩
theorem Tryz.aa3:Go.Proofs.Lays.n144 prog Tryz.NG:={
 mixed:=by kernel_rfl
 f143:=fe func318 (by kernel_rfl)
 f144:=fe func254 (by kernel_rfl)
 f217:=fe func360 (by kernel_rfl)
 f219:=fe func352 (by kernel_rfl)
 f224:=fe func362 (by kernel_rfl)
 f225:=fe func361 (by kernel_rfl)
 f266:=fe func366 (by kernel_rfl)
 f267:=fe func363 (by kernel_rfl)
 f314:=fe func367 (by kernel_rfl)
 t3:=underlying3
 a3:=isAgg3
 z3:=sizeOf3
 v3:=zeroValue3
 t4:=underlying4
 a4:=isAgg4
 z4:=sizeOf4
 v4:=zeroValue4
 t5:=underlying5
 a5:=isAgg5
 z5:=sizeOf5
 v5:=zeroValue5
 t9:=underlying9
 a9:=isAgg9
 z9:=sizeOf9
 v9:=zeroValue9
 t46:=underlying33
 a46:=isAgg33
 z46:=sizeOf33
 v46:=zeroValue33
 t51:=underlying367
 a51:=isAgg367
 z51:=sizeOf367
 v51:=zeroValue367
 t146:=underlying534
 a146:=isAgg534
 z146:=sizeOf534
 v146:=zeroValue534
 g1:=by kernel_rfl}
def Tryz.Bh:Go.Shelf.Ren:=⟨λ|7=>39|10=>74|n=>n,λ|23=>103|26=>3|3=>104|28=>101|0=>0|27=>100|33=>179|4=>4|n=>n,λ|n=>n⟩
theorem Tryz.WA:Go.Proofs.SlLaysZI.n7 prog Tryz.Bh:={
 mixed:=by kernel_rfl
 f7:=⟨Tryz.f39.name,by decide,fe func39 (by kernel_rfl)⟩
 f10:=⟨Tryz.f74.name,by decide,fe func74 (by kernel_rfl)⟩
 t0:=underlying0
 a0:=isAgg0
 z0:=sizeOf0
 v0:=zeroValue0
 t4:=underlying4
 a4:=isAgg4
 z4:=sizeOf4
 v4:=zeroValue4
 t23:=underlying103
 a23:=isAgg103
 z23:=sizeOf103
 v23:=zeroValue103
 t26:=underlying3
 a26:=isAgg3
 z26:=sizeOf3
 v26:=zeroValue3
 t27:=underlying100
 a27:=isAgg100
 z27:=sizeOf100
 v27:=zeroValue100
 t28:=underlying101
 a28:=isAgg101
 z28:=sizeOf101
 v28:=zeroValue101
 t33:=underlying179
 a33:=isAgg179
 z33:=sizeOf179
 v33:=zeroValue179}
def Tryz.vF:Go.Shelf.Ren:=⟨λ|7=>173|10=>249|n=>n,λ|23=>232|26=>9|3=>218|28=>311|0=>0|27=>310|33=>396|4=>4|n=>n,λ|n=>n⟩
theorem Tryz.Q8:Go.Proofs.SlLaysZ.n7 prog Tryz.vF:={
 mixed:=by kernel_rfl
 f7:=⟨Tryz.f173.name,by decide,fe func173 (by kernel_rfl)⟩
 f10:=⟨Tryz.f249.name,by decide,fe func249 (by kernel_rfl)⟩
 t0:=underlying0
 a0:=isAgg0
 z0:=sizeOf0
 v0:=zeroValue0
 t4:=underlying4
 a4:=isAgg4
 z4:=sizeOf4
 v4:=zeroValue4
 t23:=underlying232
 a23:=isAgg232
 z23:=sizeOf232
 v23:=zeroValue232
 t26:=underlying9
 a26:=isAgg9
 z26:=sizeOf9
 v26:=zeroValue9
 t27:=underlying310
 a27:=isAgg310
 z27:=sizeOf310
 v27:=zeroValue310
 t28:=underlying311
 a28:=isAgg311
 z28:=sizeOf311
 v28:=zeroValue311
 t33:=underlying396
 a33:=isAgg396
 z33:=sizeOf396
 v33:=zeroValue396}
def Tryz.wQ:Go.Shelf.Ren:=⟨λ|6=>172|8=>247|9=>248|11=>306|13=>122|12=>307|23=>219|24=>220|14=>337|15=>338|16=>339|17=>340|18=>341|19=>342|20=>343|21=>344|22=>345|25=>353|26=>277|27=>278|28=>354|29=>355|30=>251|31=>364|n=>n,λ|26=>9|28=>311|24=>66|0=>0|3=>3|37=>33|48=>367|50=>37|4=>4|40=>360|39=>359|45=>364|5=>5|9=>9|51=>430|55=>434|57=>507|58=>142|33=>396|n=>n,λ|n=>n⟩
theorem Tryz.La:Go.Proofs.SlLaysZ.n6 prog Tryz.wQ:={
 mixed:=by kernel_rfl
 f6:=⟨Tryz.f172.name,by decide,fe func172 (by kernel_rfl)⟩
 f8:=⟨Tryz.f247.name,by decide,fe func247 (by kernel_rfl)⟩
 f11:=⟨Tryz.f306.name,by decide,fe func306 (by kernel_rfl)⟩
 t0:=underlying0
 a0:=isAgg0
 z0:=sizeOf0
 v0:=zeroValue0
 t24:=underlying66
 a24:=isAgg66
 z24:=sizeOf66
 v24:=zeroValue66
 t26:=underlying9
 a26:=isAgg9
 z26:=sizeOf9
 v26:=zeroValue9
 t28:=underlying311
 a28:=isAgg311
 z28:=sizeOf311
 v28:=zeroValue311
 i26:=by kernel_rfl}
def Tryz.NH:Go.Shelf.Ren:=⟨λ|6=>248|8=>122|9=>307|19=>219|20=>220|21=>337|22=>338|23=>339|24=>340|25=>341|26=>342|27=>343|28=>344|29=>345|36=>353|31=>277|32=>278|37=>354|38=>355|39=>251|41=>364|n=>n,λ|27=>66|29=>9|3=>3|32=>33|26=>66|0=>0|44=>367|46=>37|4=>4|36=>360|35=>359|41=>364|5=>5|9=>9|53=>430|57=>434|63=>507|64=>142|n=>n,λ|n=>n⟩
theorem Tryz.WB:Go.Proofs.SlLaysM.n6 prog Tryz.NH:={
 mixed:=by kernel_rfl
 f6:=⟨Tryz.f248.name,by decide,fe func248 (by kernel_rfl)⟩
 f8:=fe func122 (by kernel_rfl)
 f9:=⟨Tryz.f307.name,by decide,fe func307 (by kernel_rfl)⟩
 f19:=fe func219 (by kernel_rfl)
 f20:=fe func220 (by kernel_rfl)
 f21:=⟨Tryz.f337.name,by decide,fe func337 (by kernel_rfl)⟩
 f22:=⟨Tryz.f338.name,by decide,fe func338 (by kernel_rfl)⟩
 f23:=⟨Tryz.f339.name,by decide,fe func339 (by kernel_rfl)⟩
 f24:=⟨Tryz.f340.name,by decide,fe func340 (by kernel_rfl)⟩
 f25:=⟨Tryz.f341.name,by decide,fe func341 (by kernel_rfl)⟩
 f26:=⟨Tryz.f342.name,by decide,fe func342 (by kernel_rfl)⟩
 f27:=⟨Tryz.f343.name,by decide,fe func343 (by kernel_rfl)⟩
 f28:=⟨Tryz.f344.name,by decide,fe func344 (by kernel_rfl)⟩
 f29:=⟨Tryz.f345.name,by decide,fe func345 (by kernel_rfl)⟩
 f31:=fe func277 (by kernel_rfl)
 f32:=fe func278 (by kernel_rfl)
 f36:=⟨Tryz.f353.name,by decide,fe func353 (by kernel_rfl)⟩
 f37:=⟨Tryz.f354.name,by decide,fe func354 (by kernel_rfl)⟩
 f38:=⟨Tryz.f355.name,by decide,fe func355 (by kernel_rfl)⟩
 f39:=⟨Tryz.f251.name,by decide,fe func251 (by kernel_rfl)⟩
 f41:=⟨Tryz.f364.name,by decide,fe func364 (by kernel_rfl)⟩
 t0:=underlying0
 a0:=isAgg0
 z0:=sizeOf0
 v0:=zeroValue0
 t3:=underlying3
 a3:=isAgg3
 z3:=sizeOf3
 v3:=zeroValue3
 t4:=underlying4
 a4:=isAgg4
 z4:=sizeOf4
 v4:=zeroValue4
 t5:=underlying5
 a5:=isAgg5
 z5:=sizeOf5
 v5:=zeroValue5
 t9:=underlying9
 a9:=isAgg9
 z9:=sizeOf9
 v9:=zeroValue9
 t26:=underlying66
 a26:=isAgg66
 z26:=sizeOf66
 v26:=zeroValue66
 t27:=underlying66
 a27:=isAgg66
 z27:=sizeOf66
 v27:=zeroValue66
 t29:=underlying9
 a29:=isAgg9
 z29:=sizeOf9
 v29:=zeroValue9
 t32:=underlying33
 a32:=isAgg33
 z32:=sizeOf33
 v32:=zeroValue33
 t35:=underlying359
 a35:=isAgg359
 z35:=sizeOf359
 v35:=zeroValue359
 t36:=underlying360
 a36:=isAgg360
 z36:=sizeOf360
 v36:=zeroValue360
 t41:=underlying364
 a41:=isAgg364
 z41:=sizeOf364
 v41:=zeroValue364
 t44:=underlying367
 a44:=isAgg367
 z44:=sizeOf367
 v44:=zeroValue367
 t46:=underlying37
 a46:=isAgg37
 z46:=sizeOf37
 v46:=zeroValue37
 t53:=underlying430
 a53:=isAgg430
 z53:=sizeOf430
 v53:=zeroValue430
 t57:=underlying434
 a57:=isAgg434
 z57:=sizeOf434
 v57:=zeroValue434
 t63:=underlying507
 a63:=isAgg507
 z63:=sizeOf507
 v63:=zeroValue507
 t64:=underlying142
 a64:=isAgg142
 z64:=sizeOf142
 v64:=zeroValue142}
end Go.Proofs
namespace Go.Proofs.YtcnjjchlebmfiaaGreatDoor
section
open Go.Proofs.Tryz Go.RowKit Go.Shelf
theorem Bz(s:ByteArray):Lib.splitB ⟨#[47]⟩ 0 (Lib.countB s ⟨#[47]⟩) s=(splitOn 47 s.data.toList).map λx=>⟨x.toArray⟩:=by
 have h:=Lib.splitB_data ⟨#[47]⟩ 0 (Lib.countB s ⟨#[47]⟩) s;rw[←Bl,Lib.split,←(show Lib.countB s ⟨#[47]⟩=Lib.count s.data.toList [47]from rfl),←(show Lib.splitK (ByteArray.mk #[47]).data.toList 0 _ _=_ from rfl),←h,List.map_map]
 conv=>lhs;rw[←List.map_id (Lib.splitB _ _ _ _)]
 exact List.map_congr_left λx _=>rfl
theorem J2(s:ByteArray):Lib.countB s ⟨#[47]⟩+1=(splitOn 47 s.data.toList).length:=by
 rw[←Lib.splitB_all ⟨#[47]⟩ (by decide) 0 _ s rfl,Bz,fJ]
def dZ(w:World):Prop:=∃m,w.cell? (3,0)=some (.int .i64 m)
theorem dZ.lt{w:World}(h:dZ w):3<w.heap.size:=by
 obtain⟨m,h⟩:=h;have:=World.block_lt_of_cell? _ _ h
 simpa using this
theorem dZ.keep{S:Nat→Prop}{w w':World}(h:dZ w)(k:Keep S w w')(hs:¬S 3):dZ w':=by
 have hlt:=h.lt;obtain⟨m,h⟩:=h;exact⟨m,(k.cell _ hlt hs).trans h⟩
theorem dZ.bel{w w':World}(h:dZ w)(k:Bel w w'):dZ w':=h.keep (Keep.of_bel (λ_=>False) k) (λh=>h)
theorem YY(s:ByteArray)(w:World)(h:∀r,s.data.toList≠47::r) :
 Calls prog 252 #[s,.string ⟨#[47]⟩] w (Z.e (.tuple #[s,false]) w):=by
 have hp:Lib.hasPrefix s.data.toList [47]=false:=by
  unfold Lib.hasPrefix;cases hs:s.data.toList with
  | nil=>rfl
  | cons b r=>
    rw[List.isPrefixOf_cons_cons,show(47==b)=false from bK (λe=>h r (by rw[hs,←e]))];rfl
 refine(Any.strings_CutPrefix Tryz.aa2 s ⟨#[47]⟩ w).mono ?_;rintro e w' ⟨rfl,rfl⟩;refine⟨?_,rfl⟩;rw[show(ByteArray.mk #[47]).data.toList=[47]from rfl,Lib.trimPrefix,hp];rfl
theorem Dv(s:ByteArray)(r:List UInt8)(w:World)(h:s.data.toList=47::r) :
 Calls prog 252 #[s,.string ⟨#[47]⟩] w (Z.e (.tuple #[.string ⟨r.toArray⟩,true]) w):=by
 have hp:Lib.hasPrefix s.data.toList [47]=true:=by
  unfold Lib.hasPrefix;rw[h,List.isPrefixOf_cons_cons];rfl
 refine(Any.strings_CutPrefix Tryz.aa2 s ⟨#[47]⟩ w).mono ?_;rintro e w' ⟨rfl,rfl⟩;refine⟨?_,rfl⟩;rw[show(ByteArray.mk #[47]).data.toList=[47]from rfl,Lib.trimPrefix,hp,h];rfl
theorem J3(s:ByteArray)(w:World)(hm:dZ w)(hs:s.size≤1000000) :
 Calls prog 253 #[s,.string ⟨#[47]⟩] w λe w'=>e=.returned (.slice (w.heap.size,0) (splitOn 47 s.data.toList).length (splitOn 47 s.data.toList).length)∧
  Blk w' w.heap.size ((splitOn 47 s.data.toList).map λx=>Value.string ⟨x.toArray⟩) 9∧Bel w w':=by
 obtain⟨m,hm⟩:=hm;refine(Any.strings_Split Tryz.Ya (by kernel_rfl) s ⟨#[47]⟩ m w (by omega) hm (by decide)).mono ?_;rintro e w' ⟨rfl,rfl⟩;rw[J2,Bz,List.map_map];exact⟨rfl,Blk.new _ _ _,Bel.start _ _⟩
theorem rz(c:UInt8):∀l:List UInt8,(0≤Lib.indexByte l c↔c∈l)∧ -1≤Lib.indexByte l c
 | []=>by simp[Lib.indexByte]
 | b::l=>by
   have ih:=rz c l;unfold Lib.indexByte;by_cases h:b=c
   ·subst h;simp
   ·rw[if_neg (by simpa using h)]
    by_cases h2:Lib.indexByte l c = -1
    ·rw[if_pos (by simpa using h2)]
     have hn:c∉l:=λhm=>by have:=ih.1.2 hm;omega
     simp[hn,Ne.symm h]
    ·rw[if_neg (by simpa using h2)]
     have hm:c∈l:=ih.1.1 (by omega);simp[hm]
     omega
theorem Sn(s:ByteArray)(b:Bool)(w:World)(hb:decide ((0:UInt8)∈s.data.toList)=b) :
 Calls prog 254 #[s,.string ⟨#[0]⟩] w (Z.e (.bool b) w):=by
 refine(Any.strings_Contains_one Tryz.aa3 s 0 w).mono ?_;rintro e w' ⟨rfl,rfl⟩;refine⟨?_,rfl⟩;rw[←hb,show decide (0≤Lib.indexByte s.data.toList 0)=decide ((0:UInt8)∈s.data.toList)from by
  rw[Bool.eq_iff_iff];simp only[decide_eq_true_eq];exact(rz 0 _).1]
theorem QT(s:ByteArray)(w:World)(hn:∀r,s.data.toList=47::r→60<s.size) :
 Calls prog 177 #[s] w (Z.b (.tuple #[(),eD 8]) w):=by
 by_cases h:∃r,s.data.toList=47::r
 ·obtain⟨r,hr⟩:=h
  have Zy:=hn r hr;have HC:=xh (Dv s r w hr);have adP:(60:Int)<(s.size:Int):=by omega
  clear hr hn Zy;go_enter func177,ntmps177;go_wp2_with (go_at_call 252;with_reducible refine au HC.o ?_;rintro e w1 ⟨rfl,rfl⟩)
  go_ret2
  exact⟨rfl,Bel.refl _⟩
 ·have HC:=xh (YY s w (λr e=>h ⟨r,e⟩))
  clear h hn;go_enter func177,ntmps177;go_wp2_with (go_at_call 252;with_reducible refine au HC.o ?_;rintro e w1 ⟨rfl,rfl⟩)
  go_ret2
  exact⟨rfl,Bel.refl _⟩
theorem I5(s:ByteArray)(w:World)(h:s.data.toList=[47]) :
 Calls prog 177 #[s] w (Z.b (.tuple #[(),.nilIface]) w):=by
 have HC:=xh (Dv s [] w h);have hz:s.size=1:=by have:=congrArg List.length h;simpa using this
 have Zy:¬(60:Int)<(s.size:Int):=by omega
 clear h hz;go_enter func177,ntmps177;go_wp2_with (go_at_call 252;with_reducible refine au HC.o ?_;rintro e w1 ⟨rfl,rfl⟩)
 go_ret2
 exact⟨rfl,Bel.refl _⟩
def Sq(g:Nat)(l:List (List UInt8))(e:Ending)(w':World):Prop:=(l.all aS=false→e=.returned (.tuple #[(),eD 8]))∧
 (l.all aS=true→e=.returned (.tuple #[.slice (g,0) l.length l.length,.nilIface])∧Blk w' g (l.map λx=>Value.string ⟨x.toArray⟩) 9)
theorem yV(s:ByteArray)(r:List UInt8)(w:World)(hm:dZ w)(h:s.data.toList=47::r)(hr:r≠[])(Zy:s.size≤60) :
 Calls prog 177 #[s] w λe w'=>Bel w w'∧Sq w.heap.size (splitOn 47 r) e w':=by
 have HC:=xh (Dv s r w h);have hsz:r.length+1=s.size:=by have:=congrArg List.length h;simpa using this.symm
 have hs:=J3 ⟨r.toArray⟩ w hm (by show r.toArray.size≤1000000;simp;omega);obtain⟨g,hg⟩:=e_x w.heap.size;rw[hg]at hs⊢;have HS:=xh hs;clear hs hg;have hl:=mq 47 r;have hrr:((⟨r.toArray⟩:ByteArray).toList==[])=false:=by
  rw[ByteArray.toList_eq];exact bK (by simpa using hr)
 have adP:¬(60:Int)<(s.size:Int):=by omega
 have hne:=jJ 47 r;simp only[List.toList_toArray]at HS
 generalize splitOn 47 r=l at *
 generalize (⟨r.toArray⟩:ByteArray)=rs at *
 clear h hr hm;have hpos:0<l.length:=List.length_pos_iff.2 hne;have afq:l.length≤60:=by omega
 clear hl hne hsz;go_enter func177,ntmps177
 go_wp2_with (first
  | (go_at_call 252;with_reducible refine au HC.o ?_;rintro e w1 ⟨rfl,rfl⟩)
  | (go_at_call 253;with_reducible refine au HS.o ?_;rintro e w1 ⟨rfl,B1,k1⟩))
 have HB1:=xh B1;have bG:=xh k1;have hg:=B1.lt;clear B1 k1
 go_loop [28] (λi=>∃k:Nat,k≤l.length∧i=.int .i64 k∧∀j x,j<k→l[j]?=some x→aS x=true) (λi=>l.length-(intOf i).toNat)
 case atStart=>exact⟨0,Nat.zero_le _,rfl,λj x hj=>by omega⟩
 case round=>
  obtain⟨k,hk,rfl,hall⟩:=hrel;have lS:=xh hall;clear hall;by_cases hlt:k<l.length
  ·have hx:=bP hlt
   generalize l[k]=x at *
   have c0:w1.cell? ⟨g,k,none⟩=some (.string ⟨x.toArray⟩):=by rw[HB1.o.cell,dA,hx];rfl
   have HX:=xh hx;have HBAD:Hid (aS x=false→l.all aS=false):=xh λhb=>by
    rw[List.all_eq_false];exact⟨x,List.mem_of_getElem? hx,by simp[hb]⟩
   have hsz:((⟨x.toArray⟩:ByteArray).size:Nat)=x.length:=by show x.toArray.size=_;simp
   have hdt:(⟨x.toArray⟩:ByteArray).data.toList=x:=by simp
   have htl:(⟨x.toArray⟩:ByteArray).toList=x:=by rw[ByteArray.toList_eq]
   have HCN:=xh λb W hb=>Sn ⟨x.toArray⟩ b W hb;rw[hdt]at HCN;generalize (⟨x.toArray⟩:ByteArray)=xs at *
   clear hx hdt;by_cases q1:x.length<1
   ·have HN:Hid (aS x=false):=xh (by unfold aS;simp[show ¬1≤x.length from by omega])
    have q1':(xs.size:Int)<1:=by omega
    clear q1 htl;go_wp2_with fail
    go_ret2
    exact⟨bG.o,λ_=>rfl,λh=>by rw[HBAD.o HN.o]at h;cases h⟩
   have q1':¬(xs.size:Int)<1:=by omega
   by_cases q2:14<x.length
   ·have HN:Hid (aS x=false):=xh (by unfold aS;simp[show ¬x.length≤14 from by omega])
    have q2':(14:Int)<(xs.size:Int):=by omega
    clear q1 q2 htl;go_wp2_with fail
    go_ret2
    exact⟨bG.o,λ_=>rfl,λh=>by rw[HBAD.o HN.o]at h;cases h⟩
   have q2':¬(14:Int)<(xs.size:Int):=by omega
   cases h3:(xs.toList==[46])with
   | true=>
     have HN:Hid (aS x=false):=xh (by rw[htl]at h3;unfold aS;rw[h3];simp);clear q1 q2 htl;go_wp2_with fail
     go_ret2
     exact⟨bG.o,λ_=>rfl,λh=>by rw[HBAD.o HN.o]at h;cases h⟩
   | false=>
     cases h4:(xs.toList==[46,46])with
     | true=>
       have HN:Hid (aS x=false):=xh (by rw[htl]at h4;unfold aS;rw[h4];simp);clear q1 q2 htl;go_wp2_with fail
       go_ret2
       exact⟨bG.o,λ_=>rfl,λh=>by rw[HBAD.o HN.o]at h;cases h⟩
     | false=>
       have HB:Hid (aS x=!decide ((0:UInt8)∈x)):=xh (by
        rw[htl]at h3 h4;unfold aS;rw[h3,h4];simp[show 1≤x.length from by omega,show x.length≤14 from by omega])
       clear q1 q2 htl;by_cases hz:(0:UInt8)∈x
       ·have HN:Hid (aS x=false):=xh (by rw[HB.o];simp[hz])
        have HC0:=xh λW=>HCN.o true W (by simpa using hz);clear hz;go_wp2_with (go_at_call 254;with_reducible refine au (HC0.o _) ?_;rintro e w2 ⟨rfl,rfl⟩)
        go_ret2
        exact⟨bG.o,λ_=>rfl,λh=>by rw[HBAD.o HN.o]at h;cases h⟩
       ·have HN:Hid (aS x=true):=xh (by rw[HB.o];simp[hz])
        have HC0:=xh λW=>HCN.o false W (by simpa using hz);clear hz;go_wp2_with (go_at_call 254;with_reducible refine au (HC0.o _) ?_;rintro e w2 ⟨rfl,rfl⟩)
        go_round
        case rel=>exact⟨k+1,by omega,by go_num,λj y hj hy=>by
         by_cases e:j=k
         ·subst e
          rw[HX.o]at hy;cases hy
          exact HN.o
         ·exact lS.o j y (by omega) hy⟩
        case measure=>simp[intOf]<;>omega
  ·obtain rfl:k=l.length:=by omega
   have HT:Hid (l.all aS=true):=xh (List.all_eq_true.2 λx hx=>by
    obtain⟨j,hj,he⟩:=List.getElem_of_mem hx;exact lS.o j x hj (by rw[bP hj,he]))
   go_wp2_with fail
   go_ret2
   exact⟨bG.o,(λh=>by rw[HT.o]at h;cases h),λ_=>⟨rfl,HB1.o⟩⟩
end
section
open Go.Proofs.Tryz Go.RowKit Go.MapKept Go.Maps
def ry(L:List Nd):Nat×ByteArray×Nat→List (List UInt8)→Nat×ByteArray×Nat×Nat
 | (d,nm,n),[]=>(d,nm,n,0)
 | (_,_,n),x::t=>if n=0 then(0,⟨#[]⟩,0,9)else if isDir L n then ry L (n,⟨x.toArray⟩,child L n ⟨x.toArray⟩) t else(0,⟨#[]⟩,0,11)
theorem yU(L:List Nd):∀(t:List (List UInt8)) (d:Nat) (x:List UInt8),dF L d (x::t)=ry L (d,⟨x.toArray⟩,child L d ⟨x.toArray⟩) t
 | [],d,x=>rfl
 | y::t,d,x=>by
   have ih:=yU L t (child L d ⟨x.toArray⟩) y;simp only[dF,ry,ih]
theorem Nv(L:List Nd)(h:isDir L 1=true):∀l,dF L 1 l=ry L (0,⟨#[]⟩,1) l
 | []=>rfl
 | x::t=>by rw[yU];simp[ry,h]
def wI(A:bB)(r:Nat×ByteArray×Nat×Nat):Value:=
 if r.2.2.2=0 then .tuple #[.agg #[A.ptr r.1,.string r.2.1,A.ptr r.2.2.1],.nilIface]else .tuple #[.agg #[.pointer none,.string ⟨#[]⟩,.pointer none],eD r.2.2.2]
def tY(A:bB)(d:Nat)(nm:ByteArray)(n:Nat):List Value:=[A.ptr d,.string nm,A.ptr n]
structure TN where
 bM:Nat
 bytes:Nat
 most:Int
 iT:Int
def TN.cells(A:bB)(t:TN):List Value:=[A.ptr 1,.int .i64 t.bM,.int .i64 t.bytes,.int .i64 t.most,.int .i64 t.iT]
theorem UI(w:World):(zeroValue 218).run prog w=.ok (.pointer none) w:=by kernel_rfl
theorem bT.lookup{w:World}{A:bB}{T:List Pn}(h:bT w A T)(d:Nat)(n:Pn)(hd:T[d]?=some n)(nu:n.dir=true)(s:ByteArray)(hs:s.size≤maxLen) :
 (Instr.lookup 232 (.map (some (A.mb (d+1)))) (.string s) false).run prog w=.ok (A.ptr (child (aH T) (d+1) s)) w:=by
 have:=(h.kids d n hd nu).lookup I4 underlying232 s hs false (UI w);simp only[Bool.false_eq_true,if_false]at this
 rw[Fb]at this;exact this
theorem qz(g:Nat)(m:Option Nat)(w:World)(hc:w.cell? (g,2)=some (.map m)) :
 Calls prog 92 #[g] w (Z.e (.bool m.isSome) w):=by
 have h0:∀w,(binOp .neq 232 (.map none) (.map none)).run prog w=.ok (.bool false) w:=λw=>by kernel_rfl
 have h1:∀m w,(binOp .neq 232 (.map (some m)) (.map none)).run prog w=.ok (.bool true) w:=λm w=>by kernel_rfl
 cases m with
 | none=>
   go_enter func92,ntmps92;go_wp2
   go_ret
   exact⟨rfl,rfl⟩
 | some m=>
   go_enter func92,ntmps92;go_wp2
   go_ret
   exact⟨rfl,rfl⟩
theorem Fe(tb:Nat)(s:ByteArray)(w:World)(hn:∀W,Bel w W→Calls prog 177 #[s] W (Z.b (.tuple #[(),eD 8]) W)) :
 Calls prog 95 #[tb,s] w (Z.b (.tuple #[.agg #[.pointer none,.string ⟨#[]⟩,.pointer none],eD 8]) w):=by
 have HN:=xh hn;clear hn;go_enter func95,ntmps95;go_upto_region 1 with fail
 have k1:Bel w (w.alloc (.cells #[.pointer none,.string ⟨#[]⟩,.pointer none] 240)):=Bel.start w _;have B1:=Blk.new w [.pointer none,.string ⟨#[]⟩,.pointer none] 240;generalize w.alloc (.cells #[.pointer none,.string ⟨#[]⟩,.pointer none] 240)=w1 at *
 have HB1:=xh B1;have K1:=xh k1;have HM:=xh (HN.o w1 k1);obtain⟨g,hg⟩:=e_x w.heap.size;rw[hg]at HB1⊢;have HG:=xh hg;clear k1 B1 hg;go_upto_region 3 with(go_at_call 177;with_reducible refine au HM.o ?_;rintro e w2 ⟨rfl,k2⟩)
 have B2:=HB1.o.bel k2;have c:=B2.cell;have f:=B2.frozen;have hl:=B2.lt;have K2:=xh (K1.o.tr k2);clear k2;have hgw:w.heap.size≤g:=by rw[HG.o];exact bH _
 clear B2;go_wp2
 refine bodyPost_ret (v:=.tuple #[.agg #[.pointer none,.string ⟨#[]⟩,.pointer none],eD 8]) (by simp[results,results95,go_sem,c]) rfl ⟨rfl,?_⟩
 first
  | exact K2.o
  | exact((K2.o.store (p:=⟨g,0,none⟩) hgw _).store (p:=⟨g,1,none⟩) hgw _).store (p:=⟨g,2,none⟩) hgw _
def XV(W:World)(v:Value)(l:List (List UInt8)):Prop:=∃p,v=.slice p l.length l.length∧∀j x,l[j]?=some x→∃g,p=some ⟨g,0,none⟩∧W.cell? ⟨g,j,none⟩=some (.string ⟨x.toArray⟩)
def ug(A:bB)(r:Nat×ByteArray×Nat×Nat)(e:Ending):Prop:=e=.returned (wI A r)
theorem IZ(T:List Pn)(n:Nat)(x:Pn)(hx:T[n]?=some x):isDir (aH T) (n+1)=x.dir:=by
 rw[Nw,Nat.add_sub_cancel,hx];rfl
theorem find_ok(tb:Nat)(A:bB)(T:List Pn)(t:TN)(s:ByteArray)(l:List (List UInt8))(w:World)(hT:Blk w tb (t.cells A) 220)(ht:bT w A T)(hsm:∀x∈l,x.length≤1000)(hll:l.length≤1000)
 (hn:∀W,Bel w W→Calls prog 177 #[s] W λe w'=>(∃v,e=.returned (.tuple #[v,.nilIface])∧XV w' v l)∧Bel W w') :
 Calls prog 95 #[tb,s] w λe w'=>ug A (dF (aH T) 1 l) e∧Bel w w':=by
 have HN:=xh hn;have HT:=xh hT;have HP:=xh ht;have qV:=xh hsm;have HW:Hid (dF (aH T) 1 l=ry (aH T) (0,⟨#[]⟩,1) l):=xh (by
  obtain⟨r,h0,_,h1,_⟩:=ht.root;exact Nv _ (by rw[IZ T 0 r h0];exact h1) l)
 clear hn hT ht hsm;go_enter func95,ntmps95;go_upto_region 1 with fail
 have k1:Bel w (w.alloc (.cells #[.pointer none,.string ⟨#[]⟩,.pointer none] 240)):=Bel.start w _;have B1:=Blk.new w [.pointer none,.string ⟨#[]⟩,.pointer none] 240;generalize w.alloc (.cells #[.pointer none,.string ⟨#[]⟩,.pointer none] 240)=w1 at *
 have HB1:=xh B1;have K1:=xh k1;have HM:=xh (HN.o w1 k1);obtain⟨g,hg⟩:=e_x w.heap.size;rw[hg]at HB1⊢;have HG:=xh hg;clear k1 B1 hg;go_upto_region 4 with(go_at_call 177;(with_reducible refine au HM.o ?_);rintro e w2 ⟨⟨v,rfl,p,rfl,hcl⟩,k2⟩)
 have c0:w2.cell? (tb,0)=some (.pointer (A.at_ 1)):=(HT.o.bel (K1.o.tr k2)).cell 0;have B2:=HB1.o.bel k2;have K2:=xh (K1.o.tr k2);have HB2:=xh B2;have iV:=xh hcl;have hl:=B2.lt;clear k2 B2 hcl HM HB1;obtain⟨q1,hq1⟩:=e_x (A.at_ 1);rw[hq1]at c0;have HQ1:=xh hq1;clear hq1;go_upto_region 5 with fail
 have k3:Bel w2 (w2.alloc (.cells #[.pointer none,.string ⟨#[]⟩,.pointer q1] 240)):=Bel.start w2 _;have B3:=Blk.new w2 [.pointer none,.string ⟨#[]⟩,.pointer q1] 240;generalize w2.alloc (.cells #[.pointer none,.string ⟨#[]⟩,.pointer q1] 240)=w3 at *
 obtain⟨g8,WY⟩:=e_x w2.heap.size;rw[WY]at B3⊢;have HG8:=xh WY;have hgg:g<g8:=by rw[←WY];exact hl
 have HB3:Hid (Blk w3 g8 (tY A 0 ⟨#[]⟩ 1) 240):=xh (by have:=B3;rw[←HQ1.o]at this;exact this);have hl3:=B3.lt;have K3:=xh (K2.o.tr k3);have HBG:=xh (HB2.o.bel k3);have jm:=xh k3;clear WY B3 k3 c0 HB2;go_wp2
 go_loopw [27] (λi wr=>∃(k d n:Nat) (nm:ByteArray),k≤l.length∧i=.int .i64 k∧n≤T.length∧Blk wr g8 (tY A d nm n) 240∧dF (aH T) 1 l=ry (aH T) (d,nm,n) (l.drop k)∧Keep (λq=>q=g8) w3 wr) (λi _=>l.length-(intOf i).toNat)
 case atStart=>exact⟨0,0,1,⟨#[]⟩,Nat.zero_le _,rfl,by
  obtain⟨r,h0,_⟩:=HP.o.root;have:=(bZ h0).1;omega,HB3.o,HW.o,Keep.refl _ _⟩
 case round=>
  obtain⟨k,d,n,nm,hk,rfl,hnT,hB,hw,hkr⟩:=hrel;have Au:=xh hB;have qU:=xh hkr;have HWR:=xh hw;have hlr:=hB.lt;have c2:wr.cell? (g8,2)=some (.pointer (A.at_ n)):=hB.cell 2;have f8:=hB.frozen;have oK:Hid (Bel w wr):=xh (Below.trans K3.o (qU.o.below _ K3.o.size (λq hq=>by have:=HG.o;omega)));have rJ:Hid (bT wr A T):=xh (((HP.o.bel K2.o).bel jm.o).keep qU.o (λq hq e=>by have:=(HP.o.bel K2.o).fE hq;have:=HG8.o;omega));have BG:=(HBG.o.keep qU.o (by omega));have cg:=BG.cell;have fg:=BG.frozen;have hlg:=BG.lt;have hgw:w.heap.size≤g:=by rw[HG.o];exact bH _
  have acR:=xh BG;clear hB hkr hw BG;by_cases hlt:k<l.length
  ·obtain⟨gs,rfl,hcs⟩:=iV.o k l[k] (bP hlt)
   have cs:wr.cell? ⟨gs,k,none⟩=some (.string ⟨l[k].toArray⟩):=by
    have hb:=World.block_lt_of_cell? _ _ hcs;rw[qU.o.cell ⟨gs,k,none⟩ (Nat.lt_of_lt_of_le hb jm.o.size) (by simp at hb;have:=HG8.o;simp;omega),jm.o.cell (p:=⟨gs,k,none⟩) hb];exact hcs
   have hd:l.drop k=l[k]::l.drop (k+1):=List.drop_eq_getElem_cons hlt;have hxs:=qV.o l[k] (List.getElem_mem hlt);have HHD:=xh hd;generalize l[k]=x at *
   clear hd hcs;by_cases hn0:n=0
   ·subst hn0
    have HE:Hid (dF (aH T) 1 l=(0,⟨#[]⟩,0,9)):=xh (by rw[HWR.o,HHD.o];rfl);have hat:A.at_ 0=none:=rfl;rw[hat]at c2;clear hat;go_wp2
    refine bodyPost_ret (v:=.tuple #[.agg #[.pointer none,.string ⟨#[]⟩,.pointer none],eD 9]) (by simp[results,results95,go_sem,cg]) rfl ⟨?_,?_⟩
    ·unfold ug;rw[HE.o];rfl
    ·first
      | exact oK.o
      | exact((oK.o.store (p:=⟨g,0,none⟩) hgw _).store (p:=⟨g,1,none⟩) hgw _).store (p:=⟨g,2,none⟩) hgw _
   ·have hat:A.at_ n=some ⟨A.nb n,0,none⟩:=by simp[bB.at_,hn0]
    rw[hat]at c2;have hlt1:n-1<T.length:=by omega
    have hx1:=bP hlt1;have hnd:=rJ.o.node (n-1) T[n-1] hx1;have hdi:=IZ T (n-1) T[n-1] hx1;have hlk:=bT.lookup (w:=wr.drew) (rJ.o.bel (Bel.drew (Bel.refl wr))) (n-1) T[n-1] hx1;rw[show n-1+1=n from by omega]at hnd hdi hlk;generalize T[n-1]=X at *
    have cM:wr.cell? (A.nb n,2)=some (.map (X.map A n)):=hnd.cell 2;have jD:Hid (n≠0):=xh hn0;cases hxd:X.dir with
    | false=>
      have HE:Hid (dF (aH T) 1 l=(0,⟨#[]⟩,0,11)):=xh (by rw[HWR.o,HHD.o,ry,if_neg hn0,hdi,hxd];rfl);have hm:X.map A n=none:=by unfold Pn.map;rw[hxd];rfl
      rw[hm]at cM;have HD:=xh (qz (A.nb n) none wr cM);clear hnd hdi hlk hx1 hat hxd hm hn0 cM;go_wp2_with (go_at_call 92;with_reducible refine au HD.o ?_;rintro e wx ⟨rfl,h⟩;subst h)
      refine bodyPost_ret (v:=.tuple #[.agg #[.pointer none,.string ⟨#[]⟩,.pointer none],eD 11]) (by simp[results,results95,go_sem,cg]) rfl ⟨?_,?_⟩
      ·unfold ug;rw[HE.o];rfl
      ·first
        | exact oK.o
        | exact((oK.o.store (p:=⟨g,0,none⟩) hgw _).store (p:=⟨g,1,none⟩) hgw _).store (p:=⟨g,2,none⟩) hgw _
    | true=>
      have HE:Hid (dF (aH T) 1 l=ry (aH T) (n,⟨x.toArray⟩,child (aH T) n ⟨x.toArray⟩) (l.drop (k+1))):=xh (by
       rw[HWR.o,HHD.o,ry,if_neg hn0,hdi,hxd];rfl)
      have hm:X.map A n=some (A.mb n):=by unfold Pn.map;rw[hxd];rfl
      rw[hm]at cM;have HD:=xh (qz (A.nb n) (some (A.mb n)) wr cM);have hlk2:=hlk hxd ⟨x.toArray⟩ (by show x.toArray.size≤_;simp;unfold maxLen;omega);have acS:=uf (aH T) n ⟨x.toArray⟩;rw[jM]at acS;generalize (⟨x.toArray⟩:ByteArray)=xs at *
      generalize child (aH T) n xs=n2 at *
      have aaW:A.ptr n2=.pointer (A.at_ n2):=rfl;rw[aaW]at hlk2;clear hnd hdi hlk hx1 hat hxd hm hn0 aaW;go_upto_region 12 with(go_at_call 92;with_reducible refine au HD.o ?_;rintro e wx ⟨rfl,h⟩;subst h)
      go_still_tail 11,(by kernel_rfl)
      change wpList _ _ _ _ _ wr.drew
      have BD:Blk wr.drew g8 (tY A d nm n) 240:=Au.o;have kd:Bel wr wr.drew:=Bel.drew (Bel.refl _);have gJ:=xh (qU.o.tr (Keep.of_bel _ kd));generalize wr.drew=wd at *
      have uI:=xh BD;clear BD kd hlk2 c2 f8 cg fg hlg hlr;have hpn:Value.pointer (A.nb n,0)=A.ptr n:=by simp[bB.ptr,bB.at_,jD.o]
      have Wp:=xh hpn;clear hpn;go_wp2_with (refine aG rfl 240 (.tmp 8) (.tmp 54) rfl rfl g8 [.pointer (A.nb n,0),.string xs,.pointer (A.at_ n2)] (tY A d nm n) 240 uI.o rfl rfl (by kernel_rfl) rfl (by intro v hv;simp at hv;rcases hv with rfl|rfl|rfl<;>rfl) ?_;intro w5 B5 K5)
      go_roundw
      case rel=>exact⟨k+1,n,n2,xs,by omega,by go_num,by omega,by have:=B5.out;rw[Wp.o]at this;exact this,HE.o,gJ.o.tr K5⟩
      case measure=>simp[intOf]<;>omega
  ·obtain rfl:k=l.length:=by omega
   have HE:Hid (dF (aH T) 1 l=(d,nm,n,0)):=xh (by rw[HWR.o,List.drop_length];rfl);clear c2 cg fg hlg f8 hlr
   go_wp2_with (first
    | (refine wpList_load_mid rfl 240 (.tmp 8) rfl g8 0 rfl (tY A d nm n) _ (by have:=Au.o.range 0;simpa using this) underlying240 rfl (by kernel_rfl) ?_)
    | (refine aG rfl 240 (.tmp 4) (.tmp 56) rfl rfl g (tY A d nm n) _ 240 acR.o rfl rfl (by kernel_rfl) rfl (by intro v hv;simp[tY]at hv;rcases hv with rfl|rfl|rfl<;>rfl) ?_;intro w5 B5 K5))
   have c0:w5.cell? (g,0)=some (A.ptr d):=B5.out.cell 0;have c1:w5.cell? (g,1)=some (.string nm):=B5.out.cell 1;have c2:w5.cell? (g,2)=some (A.ptr n):=B5.out.cell 2;refine bodyPost_ret (v:=.tuple #[.agg #[A.ptr d,.string nm,A.ptr n],.nilIface]) (by simp[results,results95,go_sem,c0,c1,c2]) rfl ⟨?_,?_⟩
   ·unfold ug;rw[HE.o];rfl
   ·exact Below.trans oK.o (K5.below _ oK.o.size (λq hq=>by omega))
theorem yN(tb:Nat)(A:bB)(T:List Pn)(t:TN)(s:ByteArray)(w:World)(hT:Blk w tb (t.cells A) 220)(ht:bT w A T)(hs:s.size≤1000000)(hmx:dZ w) :
 Calls prog 95 #[tb,s] w λe w'=>ug A (ay (aH T) s.data.toList) e∧Bel w w':=by
 have hno:∀(h:∀r,s.data.toList=47::r→60<s.size),ay (aH T) s.data.toList=(0,⟨#[]⟩,0,8):=λh=>by
  unfold ay;cases hd:s.data.toList with
  | nil=>rfl
  | cons b r=>
    rw[gX,if_neg];rintro⟨rfl,h2⟩;have:=h r hd;have e:s.size=r.length+1:=by have:=congrArg List.length hd;simpa using this
    omega
 by_cases h:∃r,s.data.toList=47::r∧s.size≤60
 ·obtain⟨r,hr,Zy⟩:=h
  have e:s.size=r.length+1:=by have:=congrArg List.length hr;simpa using this
  by_cases hr0:r=[]
  ·subst hr0
   have hd:ay (aH T) s.data.toList=dF (aH T) 1 []:=by unfold ay;rw[hr];rfl
   rw[hd];refine find_ok tb A T t s [] w hT ht (λx hx=>by cases hx) (by simp) λW hW=>(I5 s W hr).mono ?_;rintro e w' ⟨rfl,k⟩;exact⟨⟨_,rfl,none,rfl,λj x hx=>by cases hx⟩,k⟩
  ·have hp:pathOf s.data.toList=if (splitOn 47 r).all aS then some (splitOn 47 r)else none:=by
    rw[hr,gX,if_pos ⟨rfl,by omega⟩,if_neg hr0]
   cases ha:(splitOn 47 r).all aS with
   | false=>
     have hd:ay (aH T) s.data.toList=(0,⟨#[]⟩,0,8):=by unfold ay;rw[hp,ha];rfl
     rw[hd];refine(Fe tb s w λW hW=>(yV s r W (hmx.bel hW) hr hr0 Zy).mono ?_).mono ?_
     ·rintro e w' ⟨k,h1,_⟩
      exact⟨h1 ha,k⟩
     ·rintro e w' ⟨rfl,k⟩
      exact⟨rfl,k⟩
   | true=>
     have hd:ay (aH T) s.data.toList=dF (aH T) 1 (splitOn 47 r):=by unfold ay;rw[hp,ha];rfl
     rw[hd];refine find_ok tb A T t s _ w hT ht (λx hx=>?_) (by have:=mq 47 r;omega) λW hW=>(yV s r W (hmx.bel hW) hr hr0 Zy).mono ?_
     ·have:=List.all_eq_true.1 ha x hx
      simp only[aS,Bool.and_eq_true,decide_eq_true_eq]at this
      omega
     ·rintro e w' ⟨k,_,h2⟩
      obtain⟨rfl,hB⟩:=h2 ha;refine⟨⟨_,rfl,_,rfl,λj x hx=>⟨_,rfl,?_⟩⟩,k⟩;rw[hB.cell,dA,hx];rfl
 ·have h2:∀r,s.data.toList=47::r→60<s.size:=λr hr=>Classical.byContradiction λhc=>h ⟨r,hr,by omega⟩
  rw[hno h2];refine(Fe tb s w λW hW=>QT s W h2).mono ?_;rintro e w' ⟨rfl,k⟩;exact⟨rfl,k⟩
end
end Go.Proofs.YtcnjjchlebmfiaaGreatDoor
