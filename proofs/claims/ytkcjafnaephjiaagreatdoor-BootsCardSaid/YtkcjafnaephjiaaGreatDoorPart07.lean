/- Library functions of the dump, laid at the proved contracts (written by a tool of the kit). -/
import Derived.Shelf.SlIterI.Nil
import Derived.Shelf.SlIter.Nil
import Derived.Shelf.SortM.Plain
import Derived.Shelf.SortM.SortNone
import Derived.Ground.GgzProg
import Derived.Ground.SlgmProg
import Derived.Ground.SlsfProg
import Derived.Shelf.Small.Wraps
import Derived.Shelf.Strings.SplitShaped
import Derived.Shelf.Strings.Search3
import Derived.Shelf.SlSortCmp.WholeK
import Derived.Shelf.SlSortCmp.NoneTotal
import Derived.Test.YtkcjafnaephjiaaGreatDoorProg
import Derived.Lib.SplitLaws
import Derived.Test.YtkcjafnaephjiaaGreatDoorPart02
import Derived.Test.YtkcjafnaephjiaaGreatDoorPart06
import Derived.StillTailTactics
import Derived.Test.YtkcjafnaephjiaaGreatDoorPart05
set_option linter.unusedVariables false
set_option linter.unusedSimpArgs false
namespace Go.Proofs
open Go.Shelf
def Tryz.cutL_ren : Go.Shelf.Ren := ⟨fun | 103 => 102 | 210 => 124 | 206 => 143 | n => n, fun | 9 => 9 | 4 => 4 | 24 => 226 | 3 => 3 | n => n, fun | n => n⟩
theorem Tryz.cutL : Go.Proofs.Lays.n103 Tryz.prog Tryz.cutL_ren := {
  mixed := by kernel_rfl
  f103 := Tryz.func102.trans (congrArg some (by kernel_rfl))
  f206 := Tryz.func143.trans (congrArg some (by kernel_rfl))
  f210 := Tryz.func124.trans (congrArg some (by kernel_rfl))
  t3 := Tryz.underlying3
  a3 := Tryz.isAgg3
  z3 := Tryz.sizeOf3
  v3 := Tryz.zeroValue3
  t4 := Tryz.underlying4
  a4 := Tryz.isAgg4
  z4 := Tryz.sizeOf4
  v4 := Tryz.zeroValue4
  t9 := Tryz.underlying9
  a9 := Tryz.isAgg9
  z9 := Tryz.sizeOf9
  v9 := Tryz.zeroValue9
  t24 := Tryz.underlying226
  a24 := Tryz.isAgg226
  z24 := Tryz.sizeOf226
  v24 := Tryz.zeroValue226 }
def Tryz.splitL_ren : Go.Shelf.Ren := ⟨fun | 146 => 103 | 221 => 125 | 268 => 144 | 138 => 145 | 143 => 126 | 195 => 160 | 197 => 161 | 218 => 162 | 219 => 146 | 260 => 171 | 217 => 163 | 225 => 164 | 224 => 165 | 267 => 166 | 266 => 172 | 314 => 173 | n => n, fun | 9 => 9 | 31 => 50 | 3 => 3 | 4 => 4 | 0 => 0 | 105 => 304 | 21 => 21 | 5 => 5 | 46 => 250 | 119 => 85 | 139 => 315 | 138 => 314 | 146 => 310 | 51 => 276 | n => n, fun | 1 => 2 | 3 => 3 | 4 => 4 | n => n⟩
theorem Tryz.splitL : Go.Proofs.Lays.n146 Tryz.prog Tryz.splitL_ren := {
  mixed := by kernel_rfl
  f138 := Tryz.func145.trans (congrArg some (by kernel_rfl))
  f143 := Tryz.func126.trans (congrArg some (by kernel_rfl))
  f146 := Tryz.func103.trans (congrArg some (by kernel_rfl))
  f195 := Tryz.func160.trans (congrArg some (by kernel_rfl))
  f197 := Tryz.func161.trans (congrArg some (by kernel_rfl))
  f217 := Tryz.func163.trans (congrArg some (by kernel_rfl))
  f218 := Tryz.func162.trans (congrArg some (by kernel_rfl))
  f219 := Tryz.func146.trans (congrArg some (by kernel_rfl))
  f221 := Tryz.func125.trans (congrArg some (by kernel_rfl))
  f224 := Tryz.func165.trans (congrArg some (by kernel_rfl))
  f225 := Tryz.func164.trans (congrArg some (by kernel_rfl))
  f260 := Tryz.func171.trans (congrArg some (by kernel_rfl))
  f266 := Tryz.func172.trans (congrArg some (by kernel_rfl))
  f267 := Tryz.func166.trans (congrArg some (by kernel_rfl))
  f268 := Tryz.func144.trans (congrArg some (by kernel_rfl))
  f314 := Tryz.func173.trans (congrArg some (by kernel_rfl))
  t0 := Tryz.underlying0
  a0 := Tryz.isAgg0
  z0 := Tryz.sizeOf0
  v0 := Tryz.zeroValue0
  t3 := Tryz.underlying3
  a3 := Tryz.isAgg3
  z3 := Tryz.sizeOf3
  v3 := Tryz.zeroValue3
  t4 := Tryz.underlying4
  a4 := Tryz.isAgg4
  z4 := Tryz.sizeOf4
  v4 := Tryz.zeroValue4
  t5 := Tryz.underlying5
  a5 := Tryz.isAgg5
  z5 := Tryz.sizeOf5
  v5 := Tryz.zeroValue5
  t9 := Tryz.underlying9
  a9 := Tryz.isAgg9
  z9 := Tryz.sizeOf9
  v9 := Tryz.zeroValue9
  t21 := Tryz.underlying21
  a21 := Tryz.isAgg21
  z21 := Tryz.sizeOf21
  v21 := Tryz.zeroValue21
  t31 := Tryz.underlying50
  a31 := Tryz.isAgg50
  z31 := Tryz.sizeOf50
  v31 := Tryz.zeroValue50
  t46 := Tryz.underlying250
  a46 := Tryz.isAgg250
  z46 := Tryz.sizeOf250
  v46 := Tryz.zeroValue250
  t51 := Tryz.underlying276
  a51 := Tryz.isAgg276
  z51 := Tryz.sizeOf276
  v51 := Tryz.zeroValue276
  t105 := Tryz.underlying304
  a105 := Tryz.isAgg304
  z105 := Tryz.sizeOf304
  v105 := Tryz.zeroValue304
  t119 := Tryz.underlying85
  a119 := Tryz.isAgg85
  z119 := Tryz.sizeOf85
  t138 := Tryz.underlying314
  a138 := Tryz.isAgg314
  z138 := Tryz.sizeOf314
  v138 := Tryz.zeroValue314
  t139 := Tryz.underlying315
  a139 := Tryz.isAgg315
  z139 := Tryz.sizeOf315
  v139 := Tryz.zeroValue315
  t146 := Tryz.underlying310
  a146 := Tryz.isAgg310
  z146 := Tryz.sizeOf310
  v146 := Tryz.zeroValue310
  g1 := by kernel_rfl
  g3 := by kernel_rfl
  g4 := by kernel_rfl }
def Tryz.contL_ren : Go.Shelf.Ren := ⟨fun | 144 => 104 | 143 => 126 | 219 => 146 | 217 => 163 | 225 => 164 | 224 => 165 | 267 => 166 | 266 => 172 | 314 => 173 | n => n, fun | 9 => 9 | 4 => 4 | 3 => 3 | 5 => 5 | 46 => 250 | 146 => 310 | 51 => 276 | n => n, fun | 1 => 2 | n => n⟩
theorem Tryz.contL : Go.Proofs.Lays.n144 Tryz.prog Tryz.contL_ren := {
  mixed := by kernel_rfl
  f143 := Tryz.func126.trans (congrArg some (by kernel_rfl))
  f144 := Tryz.func104.trans (congrArg some (by kernel_rfl))
  f217 := Tryz.func163.trans (congrArg some (by kernel_rfl))
  f219 := Tryz.func146.trans (congrArg some (by kernel_rfl))
  f224 := Tryz.func165.trans (congrArg some (by kernel_rfl))
  f225 := Tryz.func164.trans (congrArg some (by kernel_rfl))
  f266 := Tryz.func172.trans (congrArg some (by kernel_rfl))
  f267 := Tryz.func166.trans (congrArg some (by kernel_rfl))
  f314 := Tryz.func173.trans (congrArg some (by kernel_rfl))
  t3 := Tryz.underlying3
  a3 := Tryz.isAgg3
  z3 := Tryz.sizeOf3
  v3 := Tryz.zeroValue3
  t4 := Tryz.underlying4
  a4 := Tryz.isAgg4
  z4 := Tryz.sizeOf4
  v4 := Tryz.zeroValue4
  t5 := Tryz.underlying5
  a5 := Tryz.isAgg5
  z5 := Tryz.sizeOf5
  v5 := Tryz.zeroValue5
  t9 := Tryz.underlying9
  a9 := Tryz.isAgg9
  z9 := Tryz.sizeOf9
  v9 := Tryz.zeroValue9
  t46 := Tryz.underlying250
  a46 := Tryz.isAgg250
  z46 := Tryz.sizeOf250
  v46 := Tryz.zeroValue250
  t51 := Tryz.underlying276
  a51 := Tryz.isAgg276
  z51 := Tryz.sizeOf276
  v51 := Tryz.zeroValue276
  t146 := Tryz.underlying310
  a146 := Tryz.isAgg310
  z146 := Tryz.sizeOf310
  v146 := Tryz.zeroValue310
  g1 := by kernel_rfl }
def Tryz.keysP_ren : Go.Shelf.Ren := ⟨fun | 7 => 51 | 10 => 77 | n => n, fun | 23 => 117 | 26 => 3 | 3 => 130 | 28 => 163 | 0 => 0 | 27 => 162 | 33 => 193 | 4 => 4 | n => n, fun | n => n⟩
theorem Tryz.keysP : Go.Proofs.SlLaysZI.n7 Tryz.prog Tryz.keysP_ren := {
  mixed := by kernel_rfl
  f7 := ⟨Tryz.f51.name, by decide, Tryz.func51.trans (congrArg some (by kernel_rfl))⟩
  f10 := ⟨Tryz.f77.name, by decide, Tryz.func77.trans (congrArg some (by kernel_rfl))⟩
  t0 := Tryz.underlying0
  a0 := Tryz.isAgg0
  z0 := Tryz.sizeOf0
  v0 := Tryz.zeroValue0
  t4 := Tryz.underlying4
  a4 := Tryz.isAgg4
  z4 := Tryz.sizeOf4
  v4 := Tryz.zeroValue4
  t23 := Tryz.underlying117
  a23 := Tryz.isAgg117
  z23 := Tryz.sizeOf117
  v23 := Tryz.zeroValue117
  t26 := Tryz.underlying3
  a26 := Tryz.isAgg3
  z26 := Tryz.sizeOf3
  v26 := Tryz.zeroValue3
  t27 := Tryz.underlying162
  a27 := Tryz.isAgg162
  z27 := Tryz.sizeOf162
  v27 := Tryz.zeroValue162
  t28 := Tryz.underlying163
  a28 := Tryz.isAgg163
  z28 := Tryz.sizeOf163
  v28 := Tryz.zeroValue163
  t33 := Tryz.underlying193
  a33 := Tryz.isAgg193
  z33 := Tryz.sizeOf193
  v33 := Tryz.zeroValue193 }
def Tryz.keysN_ren : Go.Shelf.Ren := ⟨fun | 7 => 98 | 10 => 121 | n => n, fun | 23 => 171 | 26 => 9 | 3 => 170 | 28 => 253 | 0 => 0 | 27 => 252 | 33 => 246 | 4 => 4 | n => n, fun | n => n⟩
theorem Tryz.keysN : Go.Proofs.SlLaysZ.n7 Tryz.prog Tryz.keysN_ren := {
  mixed := by kernel_rfl
  f7 := ⟨Tryz.f98.name, by decide, Tryz.func98.trans (congrArg some (by kernel_rfl))⟩
  f10 := ⟨Tryz.f121.name, by decide, Tryz.func121.trans (congrArg some (by kernel_rfl))⟩
  t0 := Tryz.underlying0
  a0 := Tryz.isAgg0
  z0 := Tryz.sizeOf0
  v0 := Tryz.zeroValue0
  t4 := Tryz.underlying4
  a4 := Tryz.isAgg4
  z4 := Tryz.sizeOf4
  v4 := Tryz.zeroValue4
  t23 := Tryz.underlying171
  a23 := Tryz.isAgg171
  z23 := Tryz.sizeOf171
  v23 := Tryz.zeroValue171
  t26 := Tryz.underlying9
  a26 := Tryz.isAgg9
  z26 := Tryz.sizeOf9
  v26 := Tryz.zeroValue9
  t27 := Tryz.underlying252
  a27 := Tryz.isAgg252
  z27 := Tryz.sizeOf252
  v27 := Tryz.zeroValue252
  t28 := Tryz.underlying253
  a28 := Tryz.isAgg253
  z28 := Tryz.sizeOf253
  v28 := Tryz.zeroValue253
  t33 := Tryz.underlying246
  a33 := Tryz.isAgg246
  z33 := Tryz.sizeOf246
  v33 := Tryz.zeroValue246 }
def Tryz.sortedN_ren : Go.Shelf.Ren := ⟨fun | 6 => 97 | 8 => 119 | 9 => 120 | 11 => 133 | 13 => 95 | 12 => 134 | 23 => 117 | 24 => 118 | 14 => 148 | 15 => 149 | 16 => 150 | 17 => 151 | 18 => 152 | 19 => 153 | 20 => 154 | 21 => 155 | 22 => 156 | 25 => 167 | 26 => 128 | 27 => 129 | 28 => 168 | 29 => 169 | 30 => 123 | 31 => 174 | n => n, fun | 26 => 9 | 28 => 253 | 24 => 50 | 0 => 0 | 3 => 3 | 37 => 250 | 48 => 276 | 50 => 74 | 4 => 4 | 40 => 270 | 39 => 269 | 45 => 211 | 5 => 5 | 9 => 9 | 51 => 281 | 55 => 285 | 57 => 295 | 58 => 103 | 33 => 246 | n => n, fun | n => n⟩
theorem Tryz.sortedN : Go.Proofs.SlLaysZ.n6 Tryz.prog Tryz.sortedN_ren := {
  mixed := by kernel_rfl
  f6 := ⟨Tryz.f97.name, by decide, Tryz.func97.trans (congrArg some (by kernel_rfl))⟩
  f8 := ⟨Tryz.f119.name, by decide, Tryz.func119.trans (congrArg some (by kernel_rfl))⟩
  f11 := ⟨Tryz.f133.name, by decide, Tryz.func133.trans (congrArg some (by kernel_rfl))⟩
  t0 := Tryz.underlying0
  a0 := Tryz.isAgg0
  z0 := Tryz.sizeOf0
  v0 := Tryz.zeroValue0
  t24 := Tryz.underlying50
  a24 := Tryz.isAgg50
  z24 := Tryz.sizeOf50
  v24 := Tryz.zeroValue50
  t26 := Tryz.underlying9
  a26 := Tryz.isAgg9
  z26 := Tryz.sizeOf9
  v26 := Tryz.zeroValue9
  t28 := Tryz.underlying253
  a28 := Tryz.isAgg253
  z28 := Tryz.sizeOf253
  v28 := Tryz.zeroValue253
  i26 := by kernel_rfl }
def Tryz.sortN_ren : Go.Shelf.Ren := ⟨fun | 6 => 120 | 8 => 95 | 9 => 134 | 19 => 117 | 20 => 118 | 21 => 148 | 22 => 149 | 23 => 150 | 24 => 151 | 25 => 152 | 26 => 153 | 27 => 154 | 28 => 155 | 29 => 156 | 36 => 167 | 31 => 128 | 32 => 129 | 37 => 168 | 38 => 169 | 39 => 123 | 41 => 174 | n => n, fun | 27 => 50 | 29 => 9 | 3 => 3 | 32 => 250 | 26 => 50 | 0 => 0 | 44 => 276 | 46 => 74 | 4 => 4 | 36 => 270 | 35 => 269 | 41 => 211 | 5 => 5 | 9 => 9 | 53 => 281 | 57 => 285 | 63 => 295 | 64 => 103 | n => n, fun | n => n⟩
theorem Tryz.sortN : Go.Proofs.SlLaysM.n6 Tryz.prog Tryz.sortN_ren := {
  mixed := by kernel_rfl
  f6 := ⟨Tryz.f120.name, by decide, Tryz.func120.trans (congrArg some (by kernel_rfl))⟩
  f8 := Tryz.func95.trans (congrArg some (by kernel_rfl))
  f9 := ⟨Tryz.f134.name, by decide, Tryz.func134.trans (congrArg some (by kernel_rfl))⟩
  f19 := Tryz.func117.trans (congrArg some (by kernel_rfl))
  f20 := Tryz.func118.trans (congrArg some (by kernel_rfl))
  f21 := ⟨Tryz.f148.name, by decide, Tryz.func148.trans (congrArg some (by kernel_rfl))⟩
  f22 := ⟨Tryz.f149.name, by decide, Tryz.func149.trans (congrArg some (by kernel_rfl))⟩
  f23 := ⟨Tryz.f150.name, by decide, Tryz.func150.trans (congrArg some (by kernel_rfl))⟩
  f24 := ⟨Tryz.f151.name, by decide, Tryz.func151.trans (congrArg some (by kernel_rfl))⟩
  f25 := ⟨Tryz.f152.name, by decide, Tryz.func152.trans (congrArg some (by kernel_rfl))⟩
  f26 := ⟨Tryz.f153.name, by decide, Tryz.func153.trans (congrArg some (by kernel_rfl))⟩
  f27 := ⟨Tryz.f154.name, by decide, Tryz.func154.trans (congrArg some (by kernel_rfl))⟩
  f28 := ⟨Tryz.f155.name, by decide, Tryz.func155.trans (congrArg some (by kernel_rfl))⟩
  f29 := ⟨Tryz.f156.name, by decide, Tryz.func156.trans (congrArg some (by kernel_rfl))⟩
  f31 := Tryz.func128.trans (congrArg some (by kernel_rfl))
  f32 := Tryz.func129.trans (congrArg some (by kernel_rfl))
  f36 := ⟨Tryz.f167.name, by decide, Tryz.func167.trans (congrArg some (by kernel_rfl))⟩
  f37 := ⟨Tryz.f168.name, by decide, Tryz.func168.trans (congrArg some (by kernel_rfl))⟩
  f38 := ⟨Tryz.f169.name, by decide, Tryz.func169.trans (congrArg some (by kernel_rfl))⟩
  f39 := ⟨Tryz.f123.name, by decide, Tryz.func123.trans (congrArg some (by kernel_rfl))⟩
  f41 := ⟨Tryz.f174.name, by decide, Tryz.func174.trans (congrArg some (by kernel_rfl))⟩
  t0 := Tryz.underlying0
  a0 := Tryz.isAgg0
  z0 := Tryz.sizeOf0
  v0 := Tryz.zeroValue0
  t3 := Tryz.underlying3
  a3 := Tryz.isAgg3
  z3 := Tryz.sizeOf3
  v3 := Tryz.zeroValue3
  t4 := Tryz.underlying4
  a4 := Tryz.isAgg4
  z4 := Tryz.sizeOf4
  v4 := Tryz.zeroValue4
  t5 := Tryz.underlying5
  a5 := Tryz.isAgg5
  z5 := Tryz.sizeOf5
  v5 := Tryz.zeroValue5
  t9 := Tryz.underlying9
  a9 := Tryz.isAgg9
  z9 := Tryz.sizeOf9
  v9 := Tryz.zeroValue9
  t26 := Tryz.underlying50
  a26 := Tryz.isAgg50
  z26 := Tryz.sizeOf50
  v26 := Tryz.zeroValue50
  t27 := Tryz.underlying50
  a27 := Tryz.isAgg50
  z27 := Tryz.sizeOf50
  v27 := Tryz.zeroValue50
  t29 := Tryz.underlying9
  a29 := Tryz.isAgg9
  z29 := Tryz.sizeOf9
  v29 := Tryz.zeroValue9
  t32 := Tryz.underlying250
  a32 := Tryz.isAgg250
  z32 := Tryz.sizeOf250
  v32 := Tryz.zeroValue250
  t35 := Tryz.underlying269
  a35 := Tryz.isAgg269
  z35 := Tryz.sizeOf269
  v35 := Tryz.zeroValue269
  t36 := Tryz.underlying270
  a36 := Tryz.isAgg270
  z36 := Tryz.sizeOf270
  v36 := Tryz.zeroValue270
  t41 := Tryz.underlying211
  a41 := Tryz.isAgg211
  z41 := Tryz.sizeOf211
  v41 := Tryz.zeroValue211
  t44 := Tryz.underlying276
  a44 := Tryz.isAgg276
  z44 := Tryz.sizeOf276
  v44 := Tryz.zeroValue276
  t46 := Tryz.underlying74
  a46 := Tryz.isAgg74
  z46 := Tryz.sizeOf74
  v46 := Tryz.zeroValue74
  t53 := Tryz.underlying281
  a53 := Tryz.isAgg281
  z53 := Tryz.sizeOf281
  v53 := Tryz.zeroValue281
  t57 := Tryz.underlying285
  a57 := Tryz.isAgg285
  z57 := Tryz.sizeOf285
  v57 := Tryz.zeroValue285
  t63 := Tryz.underlying295
  a63 := Tryz.isAgg295
  z63 := Tryz.sizeOf295
  v63 := Tryz.zeroValue295
  t64 := Tryz.underlying103
  a64 := Tryz.isAgg103
  z64 := Tryz.sizeOf103
  v64 := Tryz.zeroValue103 }
def Tryz.sortF_ren : Go.Shelf.Ren := ⟨fun | 6 => 99 | 15 => 95 | 14 => 122 | 28 => 117 | 29 => 118 | 20 => 135 | 21 => 136 | 22 => 137 | 23 => 138 | 24 => 139 | 25 => 140 | 26 => 141 | 27 => 142 | 46 => 157 | 47 => 128 | 48 => 129 | 49 => 158 | 50 => 159 | 57 => 170 | n => n, fun | 22 => 24 | 24 => 44 | 25 => 257 | 3 => 3 | 39 => 250 | 0 => 0 | 53 => 276 | 55 => 74 | 4 => 4 | 46 => 270 | 45 => 269 | 50 => 211 | 5 => 5 | 9 => 9 | 66 => 281 | 70 => 285 | 76 => 295 | 77 => 103 | n => n, fun | n => n⟩
theorem Tryz.sortF : Go.Proofs.SlLaysF0.n6 Tryz.prog Tryz.sortF_ren := {
  mixed := by kernel_rfl
  f6 := ⟨Tryz.f99.name, by decide, Tryz.func99.trans (congrArg some (by kernel_rfl))⟩
  f14 := ⟨Tryz.f122.name, by decide, Tryz.func122.trans (congrArg some (by kernel_rfl))⟩
  f15 := Tryz.func95.trans (congrArg some (by kernel_rfl))
  f20 := ⟨Tryz.f135.name, by decide, Tryz.func135.trans (congrArg some (by kernel_rfl))⟩
  f21 := ⟨Tryz.f136.name, by decide, Tryz.func136.trans (congrArg some (by kernel_rfl))⟩
  f22 := ⟨Tryz.f137.name, by decide, Tryz.func137.trans (congrArg some (by kernel_rfl))⟩
  f23 := ⟨Tryz.f138.name, by decide, Tryz.func138.trans (congrArg some (by kernel_rfl))⟩
  f24 := ⟨Tryz.f139.name, by decide, Tryz.func139.trans (congrArg some (by kernel_rfl))⟩
  f25 := ⟨Tryz.f140.name, by decide, Tryz.func140.trans (congrArg some (by kernel_rfl))⟩
  f26 := ⟨Tryz.f141.name, by decide, Tryz.func141.trans (congrArg some (by kernel_rfl))⟩
  f27 := ⟨Tryz.f142.name, by decide, Tryz.func142.trans (congrArg some (by kernel_rfl))⟩
  f28 := Tryz.func117.trans (congrArg some (by kernel_rfl))
  f29 := Tryz.func118.trans (congrArg some (by kernel_rfl))
  f46 := ⟨Tryz.f157.name, by decide, Tryz.func157.trans (congrArg some (by kernel_rfl))⟩
  f47 := Tryz.func128.trans (congrArg some (by kernel_rfl))
  f48 := Tryz.func129.trans (congrArg some (by kernel_rfl))
  f49 := ⟨Tryz.f158.name, by decide, Tryz.func158.trans (congrArg some (by kernel_rfl))⟩
  f50 := ⟨Tryz.f159.name, by decide, Tryz.func159.trans (congrArg some (by kernel_rfl))⟩
  f57 := ⟨Tryz.f170.name, by decide, Tryz.func170.trans (congrArg some (by kernel_rfl))⟩
  t0 := Tryz.underlying0
  a0 := Tryz.isAgg0
  z0 := Tryz.sizeOf0
  v0 := Tryz.zeroValue0
  t3 := Tryz.underlying3
  a3 := Tryz.isAgg3
  z3 := Tryz.sizeOf3
  v3 := Tryz.zeroValue3
  t4 := Tryz.underlying4
  a4 := Tryz.isAgg4
  z4 := Tryz.sizeOf4
  v4 := Tryz.zeroValue4
  t5 := Tryz.underlying5
  a5 := Tryz.isAgg5
  z5 := Tryz.sizeOf5
  v5 := Tryz.zeroValue5
  t9 := Tryz.underlying9
  a9 := Tryz.isAgg9
  z9 := Tryz.sizeOf9
  v9 := Tryz.zeroValue9
  t22 := Tryz.underlying24
  a22 := Tryz.isAgg24
  z22 := Tryz.sizeOf24
  v22 := Tryz.zeroValue24
  t25 := Tryz.underlying257
  a25 := Tryz.isAgg257
  z25 := Tryz.sizeOf257
  v25 := Tryz.zeroValue257
  t39 := Tryz.underlying250
  a39 := Tryz.isAgg250
  z39 := Tryz.sizeOf250
  v39 := Tryz.zeroValue250
  t45 := Tryz.underlying269
  a45 := Tryz.isAgg269
  z45 := Tryz.sizeOf269
  v45 := Tryz.zeroValue269
  t46 := Tryz.underlying270
  a46 := Tryz.isAgg270
  z46 := Tryz.sizeOf270
  v46 := Tryz.zeroValue270
  t50 := Tryz.underlying211
  a50 := Tryz.isAgg211
  z50 := Tryz.sizeOf211
  v50 := Tryz.zeroValue211
  t53 := Tryz.underlying276
  a53 := Tryz.isAgg276
  z53 := Tryz.sizeOf276
  v53 := Tryz.zeroValue276
  t55 := Tryz.underlying74
  a55 := Tryz.isAgg74
  z55 := Tryz.sizeOf74
  v55 := Tryz.zeroValue74
  t66 := Tryz.underlying281
  a66 := Tryz.isAgg281
  z66 := Tryz.sizeOf281
  v66 := Tryz.zeroValue281
  t70 := Tryz.underlying285
  a70 := Tryz.isAgg285
  z70 := Tryz.sizeOf285
  v70 := Tryz.zeroValue285
  t76 := Tryz.underlying295
  a76 := Tryz.isAgg295
  z76 := Tryz.sizeOf295
  v76 := Tryz.zeroValue295
  t77 := Tryz.underlying103
  a77 := Tryz.isAgg103
  z77 := Tryz.sizeOf103
  v77 := Tryz.zeroValue103 }
end Go.Proofs

/- The program's split of a path. -/
namespace Go.Proofs.YtkcjafnaephjiaaGreatDoor
open Go.RowKit Go.Shelf
set_option maxRecDepth 100000

theorem splitB_eq (s : ByteArray) : Lib.splitB ⟨#[47]⟩ 0 (Lib.countB s ⟨#[47]⟩) s = (splitOn 47 s.data.toList).map fun x => ⟨x.toArray⟩ := by
  have h := Lib.splitB_data ⟨#[47]⟩ 0 (Lib.countB s ⟨#[47]⟩) s
  rw [← split_one, Lib.split, ← (show Lib.countB s ⟨#[47]⟩ = Lib.count s.data.toList [47] from rfl), ← (show Lib.splitK (ByteArray.mk #[47]).data.toList 0 _ _ = _ from rfl), ← h, List.map_map]
  conv => lhs; rw [← List.map_id (Lib.splitB _ _ _ _)]
  exact List.map_congr_left fun x _ => rfl
theorem splitB_len (s : ByteArray) : Lib.countB s ⟨#[47]⟩ + 1 = (splitOn 47 s.data.toList).length := by
  rw [← Lib.splitB_all ⟨#[47]⟩ (by decide) 0 _ s rfl, splitB_eq, List.length_map]

/-- What internal/bytealg.MaxLen holds: some number. -/
def MaxVar (w : World) : Prop := ∃ m, w.cell? ⟨2, 0, none⟩ = some (.int .i64 m)
theorem MaxVar.lt {w : World} (h : MaxVar w) : 2 < w.heap.size := by
  obtain ⟨m, h⟩ := h
  have := World.block_lt_of_cell? _ _ h
  simpa using this
theorem MaxVar.keep {S : Nat → Prop} {w w' : World} (h : MaxVar w) (k : Keep S w w') (hs : ¬ S 2) : MaxVar w' := by
  have hlt := h.lt
  obtain ⟨m, h⟩ := h
  exact ⟨m, (k.cell _ hlt hs).trans h⟩
theorem MaxVar.bel {w w' : World} (h : MaxVar w) (k : Bel w w') : MaxVar w' := h.keep (Keep.of_bel (fun _ => False) k) (fun h => h)

theorem cut_no (s : ByteArray) (w : World) (h : ∀ r, s.data.toList ≠ 47 :: r) :
    Calls Tryz.prog 102 #[.string s, .string ⟨#[47]⟩] w fun e w' => e = .returned (.tuple #[.string s, .bool false]) ∧ w = w' := by
  have hp : Lib.hasPrefix s.data.toList [47] = false := by
    unfold Lib.hasPrefix
    cases hs : s.data.toList with
    | nil => rfl
    | cons b r =>
      rw [List.isPrefixOf_cons_cons, show (47 == b) = false from beq_eq_false_iff_ne.2 (fun e => h r (by rw [hs, ← e]))]
      rfl
  refine (Any.strings_CutPrefix Tryz.cutL s ⟨#[47]⟩ w).mono ?_
  rintro e w' ⟨rfl, rfl⟩
  refine ⟨?_, rfl⟩
  rw [show (ByteArray.mk #[47]).data.toList = [47] from rfl, Lib.trimPrefix, hp]
  rfl
theorem cut_yes (s : ByteArray) (r : List UInt8) (w : World) (h : s.data.toList = 47 :: r) :
    Calls Tryz.prog 102 #[.string s, .string ⟨#[47]⟩] w fun e w' => e = .returned (.tuple #[.string ⟨r.toArray⟩, .bool true]) ∧ w = w' := by
  have hp : Lib.hasPrefix s.data.toList [47] = true := by
    unfold Lib.hasPrefix
    rw [h, List.isPrefixOf_cons_cons]
    rfl
  refine (Any.strings_CutPrefix Tryz.cutL s ⟨#[47]⟩ w).mono ?_
  rintro e w' ⟨rfl, rfl⟩
  refine ⟨?_, rfl⟩
  rw [show (ByteArray.mk #[47]).data.toList = [47] from rfl, Lib.trimPrefix, hp, h]
  rfl
theorem splits_any (s : ByteArray) (w : World) (hm : MaxVar w) (hs : s.size ≤ 1000000) :
    Calls Tryz.prog 103 #[.string s, .string ⟨#[47]⟩] w fun e w' => e = .returned (.slice (some ⟨w.heap.size, 0, none⟩) (splitOn 47 s.data.toList).length (splitOn 47 s.data.toList).length) ∧
      Blk w' w.heap.size ((splitOn 47 s.data.toList).map fun x => Value.string ⟨x.toArray⟩) 9 ∧ Bel w w' := by
  obtain ⟨m, hm⟩ := hm
  refine (Any.strings_Split Tryz.splitL (by kernel_rfl) s ⟨#[47]⟩ m w (by omega) hm (by decide)).mono ?_
  rintro e w' ⟨rfl, rfl⟩
  rw [splitB_len, splitB_eq, List.map_map]
  exact ⟨rfl, Blk.new _ _ _, Bel.start _ _⟩
theorem indexByte_iff (c : UInt8) : ∀ l : List UInt8, (0 ≤ Lib.indexByte l c ↔ c ∈ l) ∧ -1 ≤ Lib.indexByte l c
  | [] => by simp [Lib.indexByte]
  | b :: l => by
    have ih := indexByte_iff c l
    unfold Lib.indexByte
    by_cases h : b = c
    · subst h; simp
    · rw [if_neg (by simpa using h)]
      by_cases h2 : Lib.indexByte l c = -1
      · rw [if_pos (by simpa using h2)]
        have hn : c ∉ l := fun hm => by have := ih.1.2 hm; omega
        simp [hn, Ne.symm h]
      · rw [if_neg (by simpa using h2)]
        have hm : c ∈ l := ih.1.1 (by omega)
        simp [hm]
        omega
theorem cont_any (s : ByteArray) (b : Bool) (w : World) (hb : decide ((0 : UInt8) ∈ s.data.toList) = b) :
    Calls Tryz.prog 104 #[.string s, .string ⟨#[0]⟩] w fun e w' => e = .returned (.bool b) ∧ w = w' := by
  refine (Any.strings_Contains_one Tryz.contL s 0 w).mono ?_
  rintro e w' ⟨rfl, rfl⟩
  refine ⟨?_, rfl⟩
  rw [← hb, show decide (0 ≤ Lib.indexByte s.data.toList 0) = decide ((0 : UInt8) ∈ s.data.toList) from by
    rw [Bool.eq_iff_iff]; simp only [decide_eq_true_eq]; exact (indexByte_iff 0 _).1]


set_option maxHeartbeats 4000000 in
theorem split_no (s : ByteArray) (w : World) (hn : ∀ r, s.data.toList = 47 :: r → 60 < s.size) :
    Calls Tryz.prog 83 #[.string s] w fun e w' => e = .returned (.tuple #[.slice none 0 0, errN 8]) ∧ Bel w w' := by
  by_cases h : ∃ r, s.data.toList = 47 :: r
  · obtain ⟨r, hr⟩ := h
    have h60 := hn r hr
    have HC := Lib.hid (cut_yes s r w hr)
    have h60' : (60 : Int) < (s.size : Int) := by omega
    clear hr hn h60
    go_enter Tryz.func83, Tryz.ntmps83
    go_wp2_with (go_at_call 102; with_reducible refine Calls.mono HC.out ?_; rintro e w1 ⟨rfl, rfl⟩)
    go_ret2
    exact ⟨rfl, Bel.refl _⟩
  · have HC := Lib.hid (cut_no s w (fun r e => h ⟨r, e⟩))
    clear h hn
    go_enter Tryz.func83, Tryz.ntmps83
    go_wp2_with (go_at_call 102; with_reducible refine Calls.mono HC.out ?_; rintro e w1 ⟨rfl, rfl⟩)
    go_ret2
    exact ⟨rfl, Bel.refl _⟩

set_option maxHeartbeats 4000000 in
theorem split_root (s : ByteArray) (w : World) (h : s.data.toList = [47]) :
    Calls Tryz.prog 83 #[.string s] w fun e w' => e = .returned (.tuple #[.slice none 0 0, .nilIface]) ∧ Bel w w' := by
  have HC := Lib.hid (cut_yes s [] w h)
  have hz : s.size = 1 := by have := congrArg List.length h; simpa using this
  have h60 : ¬ (60 : Int) < (s.size : Int) := by omega
  clear h hz
  go_enter Tryz.func83, Tryz.ntmps83
  go_wp2_with (go_at_call 102; with_reducible refine Calls.mono HC.out ?_; rintro e w1 ⟨rfl, rfl⟩)
  go_ret2
  exact ⟨rfl, Bel.refl _⟩

def SplitRes (g : Nat) (l : List (List UInt8)) (e : Ending) (w' : World) : Prop := (l.all nameOk = false → e = .returned (.tuple #[.slice none 0 0, errN 8])) ∧
  (l.all nameOk = true → e = .returned (.tuple #[.slice (some ⟨g, 0, none⟩) l.length l.length, .nilIface]) ∧ Blk w' g (l.map fun x => Value.string ⟨x.toArray⟩) 9)
set_option maxHeartbeats 8000000 in
theorem split_some (s : ByteArray) (r : List UInt8) (w : World) (hm : MaxVar w) (h : s.data.toList = 47 :: r) (hr : r ≠ []) (h60 : s.size ≤ 60) :
    Calls Tryz.prog 83 #[.string s] w fun e w' => Bel w w' ∧ SplitRes w.heap.size (splitOn 47 r) e w' := by
  have HC := Lib.hid (cut_yes s r w h)
  have hsz : r.length + 1 = s.size := by have := congrArg List.length h; simpa using this.symm
  have hs := splits_any ⟨r.toArray⟩ w hm (by show r.toArray.size ≤ 1000000; simp; omega)
  obtain ⟨g, hg⟩ : ∃ g, w.heap.size = g := ⟨_, rfl⟩
  rw [hg] at hs ⊢
  have HS := Lib.hid hs
  clear hs hg
  have hl := splitOn_len 47 r
  have hrr : ((⟨r.toArray⟩ : ByteArray).toList == []) = false := by
    rw [ByteArray.toList_eq]
    exact beq_eq_false_iff_ne.2 (by simpa using hr)
  have h60' : ¬ (60 : Int) < (s.size : Int) := by omega
  have hne := splitOn_ne 47 r
  simp only [List.toList_toArray] at HS
  generalize splitOn 47 r = l at *
  generalize (⟨r.toArray⟩ : ByteArray) = rs at *
  clear h hr hm
  have hpos : 0 < l.length := List.length_pos_iff.2 hne
  have hl60 : l.length ≤ 60 := by omega
  clear hl hne hsz
  go_enter Tryz.func83, Tryz.ntmps83
  go_wp2_with (first
    | (go_at_call 102; with_reducible refine Calls.mono HC.out ?_; rintro e w1 ⟨rfl, rfl⟩)
    | (go_at_call 103; with_reducible refine Calls.mono HS.out ?_; rintro e w1 ⟨rfl, B1, k1⟩))
  have HB1 := Lib.hid B1
  have HK1 := Lib.hid k1
  have hg := B1.lt
  clear B1 k1
  go_loop [28] (fun i => ∃ k : Nat, k ≤ l.length ∧ i = .int .i64 k ∧ ∀ j x, j < k → l[j]? = some x → nameOk x = true) (fun i => l.length - (intOf i).toNat)
  case atStart => exact ⟨0, Nat.zero_le _, rfl, fun j x hj => by omega⟩
  case round =>
    obtain ⟨k, hk, rfl, hall⟩ := hrel
    have HALL := Lib.hid hall
    clear hall
    by_cases hlt : k < l.length
    · have hx := List.getElem?_eq_getElem hlt
      generalize l[k] = x at *
      have c0 : w1.cell? ⟨g, k, none⟩ = some (.string ⟨x.toArray⟩) := by rw [HB1.out.cell, List.getElem?_map, hx]; rfl
      have HX := Lib.hid hx
      have HBAD : Hid (nameOk x = false → l.all nameOk = false) := Lib.hid fun hb => by
        rw [List.all_eq_false]; exact ⟨x, List.mem_of_getElem? hx, by simp [hb]⟩
      have hsz : ((⟨x.toArray⟩ : ByteArray).size : Nat) = x.length := by show x.toArray.size = _; simp
      have hdt : (⟨x.toArray⟩ : ByteArray).data.toList = x := by simp
      have htl : (⟨x.toArray⟩ : ByteArray).toList = x := by rw [ByteArray.toList_eq]
      have HCN := Lib.hid fun b W hb => cont_any ⟨x.toArray⟩ b W hb
      rw [hdt] at HCN
      generalize (⟨x.toArray⟩ : ByteArray) = xs at *
      clear hx hdt
      by_cases q1 : x.length < 1
      · have HN : Hid (nameOk x = false) := Lib.hid (by unfold nameOk; simp [show ¬ 1 ≤ x.length from by omega])
        have q1' : (xs.size : Int) < 1 := by omega
        clear q1 htl
        go_wp2_with fail
        go_ret2
        exact ⟨HK1.out, fun _ => rfl, fun h => by rw [HBAD.out HN.out] at h; cases h⟩
      have q1' : ¬ (xs.size : Int) < 1 := by omega
      by_cases q2 : 14 < x.length
      · have HN : Hid (nameOk x = false) := Lib.hid (by unfold nameOk; simp [show ¬ x.length ≤ 14 from by omega])
        have q2' : (14 : Int) < (xs.size : Int) := by omega
        clear q1 q2 htl
        go_wp2_with fail
        go_ret2
        exact ⟨HK1.out, fun _ => rfl, fun h => by rw [HBAD.out HN.out] at h; cases h⟩
      have q2' : ¬ (14 : Int) < (xs.size : Int) := by omega
      cases h3 : (xs.toList == [46]) with
      | true =>
        have HN : Hid (nameOk x = false) := Lib.hid (by rw [htl] at h3; unfold nameOk; rw [h3]; simp)
        clear q1 q2 htl
        go_wp2_with fail
        go_ret2
        exact ⟨HK1.out, fun _ => rfl, fun h => by rw [HBAD.out HN.out] at h; cases h⟩
      | false =>
        cases h4 : (xs.toList == [46, 46]) with
        | true =>
          have HN : Hid (nameOk x = false) := Lib.hid (by rw [htl] at h4; unfold nameOk; rw [h4]; simp)
          clear q1 q2 htl
          go_wp2_with fail
          go_ret2
          exact ⟨HK1.out, fun _ => rfl, fun h => by rw [HBAD.out HN.out] at h; cases h⟩
        | false =>
          have HB : Hid (nameOk x = !decide ((0 : UInt8) ∈ x)) := Lib.hid (by
            rw [htl] at h3 h4
            unfold nameOk
            rw [h3, h4]
            simp [show 1 ≤ x.length from by omega, show x.length ≤ 14 from by omega])
          clear q1 q2 htl
          by_cases hz : (0 : UInt8) ∈ x
          · have HN : Hid (nameOk x = false) := Lib.hid (by rw [HB.out]; simp [hz])
            have HC0 := Lib.hid fun W => HCN.out true W (by simpa using hz)
            clear hz
            go_wp2_with (go_at_call 104; with_reducible refine Calls.mono (HC0.out _) ?_; rintro e w2 ⟨rfl, rfl⟩)
            go_ret2
            exact ⟨HK1.out, fun _ => rfl, fun h => by rw [HBAD.out HN.out] at h; cases h⟩
          · have HN : Hid (nameOk x = true) := Lib.hid (by rw [HB.out]; simp [hz])
            have HC0 := Lib.hid fun W => HCN.out false W (by simpa using hz)
            clear hz
            go_wp2_with (go_at_call 104; with_reducible refine Calls.mono (HC0.out _) ?_; rintro e w2 ⟨rfl, rfl⟩)
            go_round
            case rel => exact ⟨k + 1, by omega, by go_num, fun j y hj hy => by
              by_cases e : j = k
              · subst e
                rw [HX.out] at hy
                cases hy
                exact HN.out
              · exact HALL.out j y (by omega) hy⟩
            case measure => simp [intOf] <;> omega
    · obtain rfl : k = l.length := by omega
      have HT : Hid (l.all nameOk = true) := Lib.hid (List.all_eq_true.2 fun x hx => by
        obtain ⟨j, hj, he⟩ := List.getElem_of_mem hx
        exact HALL.out j x hj (by rw [List.getElem?_eq_getElem hj, he]))
      go_wp2_with fail
      go_ret2
      exact ⟨HK1.out, (fun h => by rw [HT.out] at h; cases h), fun _ => ⟨rfl, HB1.out⟩⟩
end Go.Proofs.YtkcjafnaephjiaaGreatDoor

/- The program's Find: what the document's walk finds. -/
namespace Go.Proofs.YtkcjafnaephjiaaGreatDoor
open Go.RowKit Go.MapKept Go.Maps
set_option maxRecDepth 100000

/-- The walk goes on from a spot. -/
def contF (L : List Nd) : Nat × ByteArray × Nat → List (List UInt8) → Nat × ByteArray × Nat × Nat
  | (d, nm, n), [] => (d, nm, n, 0)
  | (_, _, n), x :: t => if n = 0 then (0, ⟨#[]⟩, 0, 9) else if isDir L n then contF L (n, ⟨x.toArray⟩, child L n ⟨x.toArray⟩) t else (0, ⟨#[]⟩, 0, 11)
theorem walkF_cont (L : List Nd) : ∀ (t : List (List UInt8)) (d : Nat) (x : List UInt8), walkF L d (x :: t) = contF L (d, ⟨x.toArray⟩, child L d ⟨x.toArray⟩) t
  | [], d, x => rfl
  | y :: t, d, x => by
    have ih := walkF_cont L t (child L d ⟨x.toArray⟩) y
    simp only [walkF, contF, ih]
theorem walk_cont (L : List Nd) (h : isDir L 1 = true) : ∀ l, walkF L 1 l = contF L (0, ⟨#[]⟩, 1) l
  | [] => rfl
  | x :: t => by rw [walkF_cont]; simp [contF, h]

def spotV (A : Adr) (r : Nat × ByteArray × Nat × Nat) : Value :=
  if r.2.2.2 = 0 then .tuple #[.agg #[A.ptr r.1, .string r.2.1, A.ptr r.2.2.1], .nilIface] else .tuple #[.agg #[.pointer none, .string ⟨#[]⟩, .pointer none], errN r.2.2.2]
def spotC (A : Adr) (d : Nat) (nm : ByteArray) (n : Nat) : List Value := [A.ptr d, .string nm, A.ptr n]
/-- The numbers that a tree's block bears. -/
structure TN where
  inodes : Nat
  bytes : Nat
  most : Int
  mostBytes : Int
def TN.cells (A : Adr) (t : TN) : List Value := [A.ptr 1, .int .i64 t.inodes, .int .i64 t.bytes, .int .i64 t.most, .int .i64 t.mostBytes]

theorem zeroPtr (w : World) : (zeroValue 170).run Tryz.prog w = .ok (.pointer none) w := by kernel_rfl
theorem PTree.lookup {w : World} {A : Adr} {T : List Pn} (h : PTree w A T) (d : Nat) (n : Pn) (hd : T[d]? = some n) (hdir : n.dir = true) (s : ByteArray) (hs : s.size ≤ maxLen) :
    (Instr.lookup 171 (.map (some (A.mb (d + 1)))) (.string s) false).run Tryz.prog w = .ok (A.ptr (child (nds T) (d + 1) s)) w := by
  have := (h.kids d n hd hdir).lookup keyedS Tryz.underlying171 s hs false (zeroPtr w)
  simp only [Bool.false_eq_true, if_false] at this
  rw [kids_get] at this
  exact this

theorem dir_any (g : Nat) (m : Option Nat) (w : World) (hc : w.cell? ⟨g, 2, none⟩ = some (.map m)) :
    Calls Tryz.prog 59 #[.pointer (some ⟨g, 0, none⟩)] w fun e w' => e = .returned (.bool m.isSome) ∧ w = w' := by
  have h0 : ∀ w, (binOp .neq 171 (.map none) (.map none)).run Tryz.prog w = .ok (.bool false) w := fun w => by kernel_rfl
  have h1 : ∀ m w, (binOp .neq 171 (.map (some m)) (.map none)).run Tryz.prog w = .ok (.bool true) w := fun m w => by kernel_rfl
  cases m with
  | none =>
    go_enter Tryz.func59, Tryz.ntmps59
    go_wp2
    go_ret
    exact ⟨rfl, rfl⟩
  | some m =>
    go_enter Tryz.func59, Tryz.ntmps59
    go_wp2
    go_ret
    exact ⟨rfl, rfl⟩

set_option maxHeartbeats 8000000 in
theorem find_err (tb : Nat) (s : ByteArray) (w : World) (hn : ∀ W, Bel w W → Calls Tryz.prog 83 #[.string s] W fun e w' => e = .returned (.tuple #[.slice none 0 0, errN 8]) ∧ Bel W w') :
    Calls Tryz.prog 57 #[.pointer (some ⟨tb, 0, none⟩), .string s] w fun e w' => e = .returned (.tuple #[.agg #[.pointer none, .string ⟨#[]⟩, .pointer none], errN 8]) ∧ Bel w w' := by
  have HN := Lib.hid hn
  clear hn
  go_enter Tryz.func57, Tryz.ntmps57
  go_upto_region 1 with fail
  have k1 : Bel w (w.alloc (.cells #[.pointer none, .string ⟨#[]⟩, .pointer none] 180)) := Bel.start w _
  have B1 := Blk.new w [.pointer none, .string ⟨#[]⟩, .pointer none] 180
  generalize w.alloc (.cells #[.pointer none, .string ⟨#[]⟩, .pointer none] 180) = w1 at *
  have HB1 := Lib.hid B1
  have K1 := Lib.hid k1
  have HM := Lib.hid (HN.out w1 k1)
  obtain ⟨g, hg⟩ : ∃ g, w.heap.size = g := ⟨_, rfl⟩
  rw [hg] at HB1 ⊢
  have HG := Lib.hid hg
  clear k1 B1 hg
  go_upto_region 3 with (go_at_call 83; with_reducible refine Calls.mono HM.out ?_; rintro e w2 ⟨rfl, k2⟩)
  have B2 := HB1.out.bel k2
  have c := B2.cell
  have f := B2.frozen
  have hl := B2.lt
  have K2 := Lib.hid (K1.out.tr k2)
  clear k2
  have hgw : w.heap.size ≤ g := by rw [HG.out]; exact Nat.le_refl _
  clear B2
  go_wp2
  refine bodyPost_ret (v := .tuple #[.agg #[.pointer none, .string ⟨#[]⟩, .pointer none], errN 8]) (by simp [results, Tryz.results57, go_sem, c]) rfl ⟨rfl, ?_⟩
  first
    | exact K2.out
    | exact ((K2.out.store (p := ⟨g, 0, none⟩) hgw _).store (p := ⟨g, 1, none⟩) hgw _).store (p := ⟨g, 2, none⟩) hgw _

/-- What split hands back at a path of these names. -/
def SplitV (W : World) (v : Value) (l : List (List UInt8)) : Prop := ∃ p, v = .slice p l.length l.length ∧ ∀ j x, l[j]? = some x → ∃ g, p = some ⟨g, 0, none⟩ ∧ W.cell? ⟨g, j, none⟩ = some (.string ⟨x.toArray⟩)
def FindRes (A : Adr) (r : Nat × ByteArray × Nat × Nat) (e : Ending) : Prop := e = .returned (spotV A r)

theorem nd_dir (T : List Pn) (n : Nat) (x : Pn) (hx : T[n]? = some x) : isDir (nds T) (n + 1) = x.dir := by
  rw [isDir_nds, Nat.add_sub_cancel, hx]; rfl

set_option maxHeartbeats 16000000 in
theorem find_ok (tb : Nat) (A : Adr) (T : List Pn) (t : TN) (s : ByteArray) (l : List (List UInt8)) (w : World) (hT : Blk w tb (t.cells A) 175) (ht : PTree w A T) (hsm : ∀ x ∈ l, x.length ≤ 1000) (hll : l.length ≤ 1000)
    (hn : ∀ W, Bel w W → Calls Tryz.prog 83 #[.string s] W fun e w' => (∃ v, e = .returned (.tuple #[v, .nilIface]) ∧ SplitV w' v l) ∧ Bel W w') :
    Calls Tryz.prog 57 #[.pointer (some ⟨tb, 0, none⟩), .string s] w fun e w' => FindRes A (walkF (nds T) 1 l) e ∧ Bel w w' := by
  have HN := Lib.hid hn
  have HT := Lib.hid hT
  have HP := Lib.hid ht
  have HSM := Lib.hid hsm
  have HW : Hid (walkF (nds T) 1 l = contF (nds T) (0, ⟨#[]⟩, 1) l) := Lib.hid (by
    obtain ⟨r, h0, _, h1, _⟩ := ht.root
    exact walk_cont _ (by rw [nd_dir T 0 r h0]; exact h1) l)
  clear hn hT ht hsm
  go_enter Tryz.func57, Tryz.ntmps57
  go_upto_region 1 with fail
  have k1 : Bel w (w.alloc (.cells #[.pointer none, .string ⟨#[]⟩, .pointer none] 180)) := Bel.start w _
  have B1 := Blk.new w [.pointer none, .string ⟨#[]⟩, .pointer none] 180
  generalize w.alloc (.cells #[.pointer none, .string ⟨#[]⟩, .pointer none] 180) = w1 at *
  have HB1 := Lib.hid B1
  have K1 := Lib.hid k1
  have HM := Lib.hid (HN.out w1 k1)
  obtain ⟨g, hg⟩ : ∃ g, w.heap.size = g := ⟨_, rfl⟩
  rw [hg] at HB1 ⊢
  have HG := Lib.hid hg
  clear k1 B1 hg
  go_upto_region 4 with (go_at_call 83; (with_reducible refine Calls.mono HM.out ?_); rintro e w2 ⟨⟨v, rfl, p, rfl, hcl⟩, k2⟩)
  have c0 : w2.cell? ⟨tb, 0, none⟩ = some (.pointer (A.at_ 1)) := (HT.out.bel (K1.out.tr k2)).cell 0
  have B2 := HB1.out.bel k2
  have K2 := Lib.hid (K1.out.tr k2)
  have HB2 := Lib.hid B2
  have HCL := Lib.hid hcl
  have hl := B2.lt
  clear k2 B2 hcl HM HB1
  obtain ⟨q1, hq1⟩ : ∃ q, A.at_ 1 = q := ⟨_, rfl⟩
  rw [hq1] at c0
  have HQ1 := Lib.hid hq1
  clear hq1
  go_upto_region 5 with fail
  have k3 : Bel w2 (w2.alloc (.cells #[.pointer none, .string ⟨#[]⟩, .pointer q1] 180)) := Bel.start w2 _
  have B3 := Blk.new w2 [.pointer none, .string ⟨#[]⟩, .pointer q1] 180
  generalize w2.alloc (.cells #[.pointer none, .string ⟨#[]⟩, .pointer q1] 180) = w3 at *
  obtain ⟨g8, hg8⟩ : ∃ g, w2.heap.size = g := ⟨_, rfl⟩
  rw [hg8] at B3 ⊢
  have HG8 := Lib.hid hg8
  have hgg : g < g8 := by rw [← hg8]; exact hl
  have HB3 : Hid (Blk w3 g8 (spotC A 0 ⟨#[]⟩ 1) 180) := Lib.hid (by have := B3; rw [← HQ1.out] at this; exact this)
  have hl3 := B3.lt
  have K3 := Lib.hid (K2.out.tr k3)
  have HBG := Lib.hid (HB2.out.bel k3)
  have HK3 := Lib.hid k3
  clear hg8 B3 k3 c0 HB2
  go_wp2
  go_loopw [27] (fun i wr => ∃ (k d n : Nat) (nm : ByteArray), k ≤ l.length ∧ i = .int .i64 k ∧ n ≤ T.length ∧ Blk wr g8 (spotC A d nm n) 180 ∧ walkF (nds T) 1 l = contF (nds T) (d, nm, n) (l.drop k) ∧ Keep (fun q => q = g8) w3 wr) (fun i _ => l.length - (intOf i).toNat)
  case atStart => exact ⟨0, 0, 1, ⟨#[]⟩, Nat.zero_le _, rfl, by
    obtain ⟨r, h0, _⟩ := HP.out.root
    have := (List.getElem?_eq_some_iff.1 h0).1
    omega, HB3.out, HW.out, Keep.refl _ _⟩
  case round =>
    obtain ⟨k, d, n, nm, hk, rfl, hnT, hB, hw, hkr⟩ := hrel
    have HBR := Lib.hid hB
    have HKR := Lib.hid hkr
    have HWR := Lib.hid hw
    have hlr := hB.lt
    have c2 : wr.cell? ⟨g8, 2, none⟩ = some (.pointer (A.at_ n)) := hB.cell 2
    have f8 := hB.frozen
    have HBW : Hid (Bel w wr) := Lib.hid (Below.trans K3.out (HKR.out.below _ K3.out.size (fun q hq => by have := HG.out; omega)))
    have HPR : Hid (PTree wr A T) := Lib.hid (((HP.out.bel K2.out).bel HK3.out).keep HKR.out (fun q hq e => by have := (HP.out.bel K2.out).foot_lt hq; have := HG8.out; omega))
    have BG := (HBG.out.keep HKR.out (by omega))
    have cg := BG.cell
    have fg := BG.frozen
    have hlg := BG.lt
    have hgw : w.heap.size ≤ g := by rw [HG.out]; exact Nat.le_refl _
    have HBG4 := Lib.hid BG
    clear hB hkr hw BG
    by_cases hlt : k < l.length
    · obtain ⟨gs, rfl, hcs⟩ := HCL.out k l[k] (List.getElem?_eq_getElem hlt)
      have cs : wr.cell? ⟨gs, k, none⟩ = some (.string ⟨l[k].toArray⟩) := by
        have hb := World.block_lt_of_cell? _ _ hcs
        rw [HKR.out.cell ⟨gs, k, none⟩ (Nat.lt_of_lt_of_le hb HK3.out.size) (by simp at hb; have := HG8.out; simp; omega), HK3.out.cell (p := ⟨gs, k, none⟩) hb]
        exact hcs
      have hd : l.drop k = l[k] :: l.drop (k + 1) := List.drop_eq_getElem_cons hlt
      have hxs := HSM.out l[k] (List.getElem_mem hlt)
      have HHD := Lib.hid hd
      generalize l[k] = x at *
      clear hd hcs
      by_cases hn0 : n = 0
      · subst hn0
        have HE : Hid (walkF (nds T) 1 l = (0, ⟨#[]⟩, 0, 9)) := Lib.hid (by rw [HWR.out, HHD.out]; rfl)
        have hat : A.at_ 0 = none := rfl
        rw [hat] at c2
        clear hat
        go_wp2
        refine bodyPost_ret (v := .tuple #[.agg #[.pointer none, .string ⟨#[]⟩, .pointer none], errN 9]) (by simp [results, Tryz.results57, go_sem, cg]) rfl ⟨?_, ?_⟩
        · unfold FindRes; rw [HE.out]; rfl
        · first
            | exact HBW.out
            | exact ((HBW.out.store (p := ⟨g, 0, none⟩) hgw _).store (p := ⟨g, 1, none⟩) hgw _).store (p := ⟨g, 2, none⟩) hgw _
      · have hat : A.at_ n = some ⟨A.nb n, 0, none⟩ := by simp [Adr.at_, hn0]
        rw [hat] at c2
        have hlt1 : n - 1 < T.length := by omega
        have hx1 := List.getElem?_eq_getElem hlt1
        have hnd := HPR.out.node (n - 1) T[n - 1] hx1
        have hdi := nd_dir T (n - 1) T[n - 1] hx1
        have hlk := PTree.lookup (w := wr.drew) (HPR.out.bel (Bel.drew (Bel.refl wr))) (n - 1) T[n - 1] hx1
        rw [show n - 1 + 1 = n from by omega] at hnd hdi hlk
        generalize T[n - 1] = X at *
        have cM : wr.cell? ⟨A.nb n, 2, none⟩ = some (.map (X.map A n)) := hnd.cell 2
        have HNE : Hid (n ≠ 0) := Lib.hid hn0
        cases hxd : X.dir with
        | false =>
          have HE : Hid (walkF (nds T) 1 l = (0, ⟨#[]⟩, 0, 11)) := Lib.hid (by rw [HWR.out, HHD.out, contF, if_neg hn0, hdi, hxd]; rfl)
          have hm : X.map A n = none := by unfold Pn.map; rw [hxd]; rfl
          rw [hm] at cM
          have HD := Lib.hid (dir_any (A.nb n) none wr cM)
          clear hnd hdi hlk hx1 hat hxd hm hn0 cM
          go_wp2_with (go_at_call 59; with_reducible refine Calls.mono HD.out ?_; rintro e wx ⟨rfl, h⟩; subst h)
          refine bodyPost_ret (v := .tuple #[.agg #[.pointer none, .string ⟨#[]⟩, .pointer none], errN 11]) (by simp [results, Tryz.results57, go_sem, cg]) rfl ⟨?_, ?_⟩
          · unfold FindRes; rw [HE.out]; rfl
          · first
              | exact HBW.out
              | exact ((HBW.out.store (p := ⟨g, 0, none⟩) hgw _).store (p := ⟨g, 1, none⟩) hgw _).store (p := ⟨g, 2, none⟩) hgw _
        | true =>
          have HE : Hid (walkF (nds T) 1 l = contF (nds T) (n, ⟨x.toArray⟩, child (nds T) n ⟨x.toArray⟩) (l.drop (k + 1))) := Lib.hid (by
            rw [HWR.out, HHD.out, contF, if_neg hn0, hdi, hxd]; rfl)
          have hm : X.map A n = some (A.mb n) := by unfold Pn.map; rw [hxd]; rfl
          rw [hm] at cM
          have HD := Lib.hid (dir_any (A.nb n) (some (A.mb n)) wr cM)
          have hlk2 := hlk hxd ⟨x.toArray⟩ (by show x.toArray.size ≤ _; simp; unfold maxLen; omega)
          have HCL2 := child_le (nds T) n ⟨x.toArray⟩
          rw [nds_len] at HCL2
          generalize (⟨x.toArray⟩ : ByteArray) = xs at *
          generalize child (nds T) n xs = n2 at *
          have hat2 : A.ptr n2 = .pointer (A.at_ n2) := rfl
          rw [hat2] at hlk2
          clear hnd hdi hlk hx1 hat hxd hm hn0 hat2
          go_upto_region 12 with (go_at_call 59; with_reducible refine Calls.mono HD.out ?_; rintro e wx ⟨rfl, h⟩; subst h)
          go_still_tail 11, (by kernel_rfl)
          change wpList _ _ _ _ _ wr.drew
          have BD : Blk wr.drew g8 (spotC A d nm n) 180 := HBR.out
          have kd : Bel wr wr.drew := Bel.drew (Bel.refl _)
          have HKD := Lib.hid (HKR.out.tr (Keep.of_bel _ kd))
          generalize wr.drew = wd at *
          have HBD := Lib.hid BD
          clear BD kd hlk2 c2 f8 cg fg hlg hlr
          have hpn : Value.pointer (some ⟨A.nb n, 0, none⟩) = A.ptr n := by simp [Adr.ptr, Adr.at_, HNE.out]
          have HPN := Lib.hid hpn
          clear hpn
          go_wp2_with (refine wpList_store_blk rfl 180 (.tmp 8) (.tmp 54) rfl rfl g8 [.pointer (some ⟨A.nb n, 0, none⟩), .string xs, .pointer (A.at_ n2)] (spotC A d nm n) 180 HBD.out rfl rfl (by kernel_rfl) rfl (by intro v hv; simp at hv; rcases hv with rfl | rfl | rfl <;> rfl) ?_; intro w5 B5 K5)
          go_roundw
          case rel => exact ⟨k + 1, n, n2, xs, by omega, by go_num, by omega, by have := B5.out; rw [HPN.out] at this; exact this, HE.out, HKD.out.tr K5⟩
          case measure => simp [intOf] <;> omega
    · obtain rfl : k = l.length := by omega
      have HE : Hid (walkF (nds T) 1 l = (d, nm, n, 0)) := Lib.hid (by rw [HWR.out, List.drop_length]; rfl)
      clear c2 cg fg hlg f8 hlr
      go_wp2_with (first
        | (refine wpList_load_mid rfl 180 (.tmp 8) rfl g8 0 rfl (spotC A d nm n) _ (by have := HBR.out.range 0; simpa using this) Tryz.underlying180 rfl (by kernel_rfl) ?_)
        | (refine wpList_store_blk rfl 180 (.tmp 4) (.tmp 56) rfl rfl g (spotC A d nm n) _ 180 HBG4.out rfl rfl (by kernel_rfl) rfl (by intro v hv; simp [spotC] at hv; rcases hv with rfl | rfl | rfl <;> rfl) ?_; intro w5 B5 K5))
      have c0 : w5.cell? ⟨g, 0, none⟩ = some (A.ptr d) := B5.out.cell 0
      have c1 : w5.cell? ⟨g, 1, none⟩ = some (.string nm) := B5.out.cell 1
      have c2 : w5.cell? ⟨g, 2, none⟩ = some (A.ptr n) := B5.out.cell 2
      refine bodyPost_ret (v := .tuple #[.agg #[A.ptr d, .string nm, A.ptr n], .nilIface]) (by simp [results, Tryz.results57, go_sem, c0, c1, c2]) rfl ⟨?_, ?_⟩
      · unfold FindRes; rw [HE.out]; rfl
      · exact Below.trans HBW.out (K5.below _ HBW.out.size (fun q hq => by omega))

/-- (*Tree).Find. -/
theorem find_any (tb : Nat) (A : Adr) (T : List Pn) (t : TN) (s : ByteArray) (w : World) (hT : Blk w tb (t.cells A) 175) (ht : PTree w A T) (hs : s.size ≤ 1000000) (hmx : MaxVar w) :
    Calls Tryz.prog 57 #[.pointer (some ⟨tb, 0, none⟩), .string s] w fun e w' => FindRes A (docWalk (nds T) s.data.toList) e ∧ Bel w w' := by
  have hno : ∀ (h : ∀ r, s.data.toList = 47 :: r → 60 < s.size), docWalk (nds T) s.data.toList = (0, ⟨#[]⟩, 0, 8) := fun h => by
    unfold docWalk
    cases hd : s.data.toList with
    | nil => rfl
    | cons b r =>
      rw [pathOf_cons, if_neg]
      rintro ⟨rfl, h2⟩
      have := h r hd
      have e : s.size = r.length + 1 := by have := congrArg List.length hd; simpa using this
      omega
  by_cases h : ∃ r, s.data.toList = 47 :: r ∧ s.size ≤ 60
  · obtain ⟨r, hr, h60⟩ := h
    have e : s.size = r.length + 1 := by have := congrArg List.length hr; simpa using this
    by_cases hr0 : r = []
    · subst hr0
      have hd : docWalk (nds T) s.data.toList = walkF (nds T) 1 [] := by unfold docWalk; rw [hr]; rfl
      rw [hd]
      refine find_ok tb A T t s [] w hT ht (fun x hx => by cases hx) (by simp) fun W hW => (split_root s W hr).mono ?_
      rintro e w' ⟨rfl, k⟩
      exact ⟨⟨_, rfl, none, rfl, fun j x hx => by cases hx⟩, k⟩
    · have hp : pathOf s.data.toList = if (splitOn 47 r).all nameOk then some (splitOn 47 r) else none := by
        rw [hr, pathOf_cons, if_pos ⟨rfl, by omega⟩, if_neg hr0]
      cases ha : (splitOn 47 r).all nameOk with
      | false =>
        have hd : docWalk (nds T) s.data.toList = (0, ⟨#[]⟩, 0, 8) := by unfold docWalk; rw [hp, ha]; rfl
        rw [hd]
        refine (find_err tb s w fun W hW => (split_some s r W (hmx.bel hW) hr hr0 h60).mono ?_).mono ?_
        · rintro e w' ⟨k, h1, _⟩
          exact ⟨h1 ha, k⟩
        · rintro e w' ⟨rfl, k⟩
          exact ⟨rfl, k⟩
      | true =>
        have hd : docWalk (nds T) s.data.toList = walkF (nds T) 1 (splitOn 47 r) := by unfold docWalk; rw [hp, ha]; rfl
        rw [hd]
        refine find_ok tb A T t s _ w hT ht (fun x hx => ?_) (by have := splitOn_len 47 r; omega) fun W hW => (split_some s r W (hmx.bel hW) hr hr0 h60).mono ?_
        · have := List.all_eq_true.1 ha x hx
          simp only [nameOk, Bool.and_eq_true, decide_eq_true_eq] at this
          omega
        · rintro e w' ⟨k, _, h2⟩
          obtain ⟨rfl, hB⟩ := h2 ha
          refine ⟨⟨_, rfl, _, rfl, fun j x hx => ⟨_, rfl, ?_⟩⟩, k⟩
          rw [hB.cell, List.getElem?_map, hx]
          rfl
  · have h2 : ∀ r, s.data.toList = 47 :: r → 60 < s.size := fun r hr => Classical.byContradiction fun hc => h ⟨r, hr, by omega⟩
    rw [hno h2]
    refine (find_err tb s w fun W hW => split_no s W h2).mono ?_
    rintro e w' ⟨rfl, k⟩
    exact ⟨rfl, k⟩
end Go.Proofs.YtkcjafnaephjiaaGreatDoor
