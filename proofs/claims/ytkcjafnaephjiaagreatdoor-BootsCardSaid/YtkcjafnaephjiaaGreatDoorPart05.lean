/- Library functions of the dump, laid at the proved contracts (written by a tool of the kit). -/
import Derived.Shelf.SlIterI.Nil
import Derived.Shelf.SlIter.Nil
import Derived.Shelf.SortM.Plain
import Derived.Shelf.SortM.SortNone
import Derived.Ground.GgzProg
import Derived.Ground.SlgmProg
import Derived.Ground.SlsfProg
import Derived.Shelf.Small.Wraps
import Derived.Shelf.Strings.SplitShaped
import Derived.Shelf.Strings.Search3
import Derived.Shelf.SlSortCmp.WholeK
import Derived.Shelf.SlSortCmp.NoneTotal
import Derived.Test.YtkcjafnaephjiaaGreatDoorProg
import Derived.Test.YtkcjafnaephjiaaGreatDoorChecked
import Derived.Deep.MidRow
import Derived.Deep.QuietTactic
import Derived.BigQuiet
import Derived.Lib.Hide
import Derived.Test.YtkcjafnaephjiaaGreatDoorPart03
import Derived.Test.YtkcjafnaephjiaaGreatDoorPart02
namespace Go.Proofs
open Go.Shelf
def Tryz.cutL_ren : Go.Shelf.Ren := ⟨fun | 103 => 102 | 210 => 124 | 206 => 143 | n => n, fun | 9 => 9 | 4 => 4 | 24 => 226 | 3 => 3 | n => n, fun | n => n⟩
theorem Tryz.cutL : Go.Proofs.Lays.n103 Tryz.prog Tryz.cutL_ren := {
  mixed := by kernel_rfl
  f103 := Tryz.func102.trans (congrArg some (by kernel_rfl))
  f206 := Tryz.func143.trans (congrArg some (by kernel_rfl))
  f210 := Tryz.func124.trans (congrArg some (by kernel_rfl))
  t3 := Tryz.underlying3
  a3 := Tryz.isAgg3
  z3 := Tryz.sizeOf3
  v3 := Tryz.zeroValue3
  t4 := Tryz.underlying4
  a4 := Tryz.isAgg4
  z4 := Tryz.sizeOf4
  v4 := Tryz.zeroValue4
  t9 := Tryz.underlying9
  a9 := Tryz.isAgg9
  z9 := Tryz.sizeOf9
  v9 := Tryz.zeroValue9
  t24 := Tryz.underlying226
  a24 := Tryz.isAgg226
  z24 := Tryz.sizeOf226
  v24 := Tryz.zeroValue226 }
def Tryz.splitL_ren : Go.Shelf.Ren := ⟨fun | 146 => 103 | 221 => 125 | 268 => 144 | 138 => 145 | 143 => 126 | 195 => 160 | 197 => 161 | 218 => 162 | 219 => 146 | 260 => 171 | 217 => 163 | 225 => 164 | 224 => 165 | 267 => 166 | 266 => 172 | 314 => 173 | n => n, fun | 9 => 9 | 31 => 50 | 3 => 3 | 4 => 4 | 0 => 0 | 105 => 304 | 21 => 21 | 5 => 5 | 46 => 250 | 119 => 85 | 139 => 315 | 138 => 314 | 146 => 310 | 51 => 276 | n => n, fun | 1 => 2 | 3 => 3 | 4 => 4 | n => n⟩
theorem Tryz.splitL : Go.Proofs.Lays.n146 Tryz.prog Tryz.splitL_ren := {
  mixed := by kernel_rfl
  f138 := Tryz.func145.trans (congrArg some (by kernel_rfl))
  f143 := Tryz.func126.trans (congrArg some (by kernel_rfl))
  f146 := Tryz.func103.trans (congrArg some (by kernel_rfl))
  f195 := Tryz.func160.trans (congrArg some (by kernel_rfl))
  f197 := Tryz.func161.trans (congrArg some (by kernel_rfl))
  f217 := Tryz.func163.trans (congrArg some (by kernel_rfl))
  f218 := Tryz.func162.trans (congrArg some (by kernel_rfl))
  f219 := Tryz.func146.trans (congrArg some (by kernel_rfl))
  f221 := Tryz.func125.trans (congrArg some (by kernel_rfl))
  f224 := Tryz.func165.trans (congrArg some (by kernel_rfl))
  f225 := Tryz.func164.trans (congrArg some (by kernel_rfl))
  f260 := Tryz.func171.trans (congrArg some (by kernel_rfl))
  f266 := Tryz.func172.trans (congrArg some (by kernel_rfl))
  f267 := Tryz.func166.trans (congrArg some (by kernel_rfl))
  f268 := Tryz.func144.trans (congrArg some (by kernel_rfl))
  f314 := Tryz.func173.trans (congrArg some (by kernel_rfl))
  t0 := Tryz.underlying0
  a0 := Tryz.isAgg0
  z0 := Tryz.sizeOf0
  v0 := Tryz.zeroValue0
  t3 := Tryz.underlying3
  a3 := Tryz.isAgg3
  z3 := Tryz.sizeOf3
  v3 := Tryz.zeroValue3
  t4 := Tryz.underlying4
  a4 := Tryz.isAgg4
  z4 := Tryz.sizeOf4
  v4 := Tryz.zeroValue4
  t5 := Tryz.underlying5
  a5 := Tryz.isAgg5
  z5 := Tryz.sizeOf5
  v5 := Tryz.zeroValue5
  t9 := Tryz.underlying9
  a9 := Tryz.isAgg9
  z9 := Tryz.sizeOf9
  v9 := Tryz.zeroValue9
  t21 := Tryz.underlying21
  a21 := Tryz.isAgg21
  z21 := Tryz.sizeOf21
  v21 := Tryz.zeroValue21
  t31 := Tryz.underlying50
  a31 := Tryz.isAgg50
  z31 := Tryz.sizeOf50
  v31 := Tryz.zeroValue50
  t46 := Tryz.underlying250
  a46 := Tryz.isAgg250
  z46 := Tryz.sizeOf250
  v46 := Tryz.zeroValue250
  t51 := Tryz.underlying276
  a51 := Tryz.isAgg276
  z51 := Tryz.sizeOf276
  v51 := Tryz.zeroValue276
  t105 := Tryz.underlying304
  a105 := Tryz.isAgg304
  z105 := Tryz.sizeOf304
  v105 := Tryz.zeroValue304
  t119 := Tryz.underlying85
  a119 := Tryz.isAgg85
  z119 := Tryz.sizeOf85
  t138 := Tryz.underlying314
  a138 := Tryz.isAgg314
  z138 := Tryz.sizeOf314
  v138 := Tryz.zeroValue314
  t139 := Tryz.underlying315
  a139 := Tryz.isAgg315
  z139 := Tryz.sizeOf315
  v139 := Tryz.zeroValue315
  t146 := Tryz.underlying310
  a146 := Tryz.isAgg310
  z146 := Tryz.sizeOf310
  v146 := Tryz.zeroValue310
  g1 := by kernel_rfl
  g3 := by kernel_rfl
  g4 := by kernel_rfl }
def Tryz.contL_ren : Go.Shelf.Ren := ⟨fun | 144 => 104 | 143 => 126 | 219 => 146 | 217 => 163 | 225 => 164 | 224 => 165 | 267 => 166 | 266 => 172 | 314 => 173 | n => n, fun | 9 => 9 | 4 => 4 | 3 => 3 | 5 => 5 | 46 => 250 | 146 => 310 | 51 => 276 | n => n, fun | 1 => 2 | n => n⟩
theorem Tryz.contL : Go.Proofs.Lays.n144 Tryz.prog Tryz.contL_ren := {
  mixed := by kernel_rfl
  f143 := Tryz.func126.trans (congrArg some (by kernel_rfl))
  f144 := Tryz.func104.trans (congrArg some (by kernel_rfl))
  f217 := Tryz.func163.trans (congrArg some (by kernel_rfl))
  f219 := Tryz.func146.trans (congrArg some (by kernel_rfl))
  f224 := Tryz.func165.trans (congrArg some (by kernel_rfl))
  f225 := Tryz.func164.trans (congrArg some (by kernel_rfl))
  f266 := Tryz.func172.trans (congrArg some (by kernel_rfl))
  f267 := Tryz.func166.trans (congrArg some (by kernel_rfl))
  f314 := Tryz.func173.trans (congrArg some (by kernel_rfl))
  t3 := Tryz.underlying3
  a3 := Tryz.isAgg3
  z3 := Tryz.sizeOf3
  v3 := Tryz.zeroValue3
  t4 := Tryz.underlying4
  a4 := Tryz.isAgg4
  z4 := Tryz.sizeOf4
  v4 := Tryz.zeroValue4
  t5 := Tryz.underlying5
  a5 := Tryz.isAgg5
  z5 := Tryz.sizeOf5
  v5 := Tryz.zeroValue5
  t9 := Tryz.underlying9
  a9 := Tryz.isAgg9
  z9 := Tryz.sizeOf9
  v9 := Tryz.zeroValue9
  t46 := Tryz.underlying250
  a46 := Tryz.isAgg250
  z46 := Tryz.sizeOf250
  v46 := Tryz.zeroValue250
  t51 := Tryz.underlying276
  a51 := Tryz.isAgg276
  z51 := Tryz.sizeOf276
  v51 := Tryz.zeroValue276
  t146 := Tryz.underlying310
  a146 := Tryz.isAgg310
  z146 := Tryz.sizeOf310
  v146 := Tryz.zeroValue310
  g1 := by kernel_rfl }
def Tryz.keysP_ren : Go.Shelf.Ren := ⟨fun | 7 => 51 | 10 => 77 | n => n, fun | 23 => 117 | 26 => 3 | 3 => 130 | 28 => 163 | 0 => 0 | 27 => 162 | 33 => 193 | 4 => 4 | n => n, fun | n => n⟩
theorem Tryz.keysP : Go.Proofs.SlLaysZI.n7 Tryz.prog Tryz.keysP_ren := {
  mixed := by kernel_rfl
  f7 := ⟨Tryz.f51.name, by decide, Tryz.func51.trans (congrArg some (by kernel_rfl))⟩
  f10 := ⟨Tryz.f77.name, by decide, Tryz.func77.trans (congrArg some (by kernel_rfl))⟩
  t0 := Tryz.underlying0
  a0 := Tryz.isAgg0
  z0 := Tryz.sizeOf0
  v0 := Tryz.zeroValue0
  t4 := Tryz.underlying4
  a4 := Tryz.isAgg4
  z4 := Tryz.sizeOf4
  v4 := Tryz.zeroValue4
  t23 := Tryz.underlying117
  a23 := Tryz.isAgg117
  z23 := Tryz.sizeOf117
  v23 := Tryz.zeroValue117
  t26 := Tryz.underlying3
  a26 := Tryz.isAgg3
  z26 := Tryz.sizeOf3
  v26 := Tryz.zeroValue3
  t27 := Tryz.underlying162
  a27 := Tryz.isAgg162
  z27 := Tryz.sizeOf162
  v27 := Tryz.zeroValue162
  t28 := Tryz.underlying163
  a28 := Tryz.isAgg163
  z28 := Tryz.sizeOf163
  v28 := Tryz.zeroValue163
  t33 := Tryz.underlying193
  a33 := Tryz.isAgg193
  z33 := Tryz.sizeOf193
  v33 := Tryz.zeroValue193 }
def Tryz.keysN_ren : Go.Shelf.Ren := ⟨fun | 7 => 98 | 10 => 121 | n => n, fun | 23 => 171 | 26 => 9 | 3 => 170 | 28 => 253 | 0 => 0 | 27 => 252 | 33 => 246 | 4 => 4 | n => n, fun | n => n⟩
theorem Tryz.keysN : Go.Proofs.SlLaysZ.n7 Tryz.prog Tryz.keysN_ren := {
  mixed := by kernel_rfl
  f7 := ⟨Tryz.f98.name, by decide, Tryz.func98.trans (congrArg some (by kernel_rfl))⟩
  f10 := ⟨Tryz.f121.name, by decide, Tryz.func121.trans (congrArg some (by kernel_rfl))⟩
  t0 := Tryz.underlying0
  a0 := Tryz.isAgg0
  z0 := Tryz.sizeOf0
  v0 := Tryz.zeroValue0
  t4 := Tryz.underlying4
  a4 := Tryz.isAgg4
  z4 := Tryz.sizeOf4
  v4 := Tryz.zeroValue4
  t23 := Tryz.underlying171
  a23 := Tryz.isAgg171
  z23 := Tryz.sizeOf171
  v23 := Tryz.zeroValue171
  t26 := Tryz.underlying9
  a26 := Tryz.isAgg9
  z26 := Tryz.sizeOf9
  v26 := Tryz.zeroValue9
  t27 := Tryz.underlying252
  a27 := Tryz.isAgg252
  z27 := Tryz.sizeOf252
  v27 := Tryz.zeroValue252
  t28 := Tryz.underlying253
  a28 := Tryz.isAgg253
  z28 := Tryz.sizeOf253
  v28 := Tryz.zeroValue253
  t33 := Tryz.underlying246
  a33 := Tryz.isAgg246
  z33 := Tryz.sizeOf246
  v33 := Tryz.zeroValue246 }
def Tryz.sortedN_ren : Go.Shelf.Ren := ⟨fun | 6 => 97 | 8 => 119 | 9 => 120 | 11 => 133 | 13 => 95 | 12 => 134 | 23 => 117 | 24 => 118 | 14 => 148 | 15 => 149 | 16 => 150 | 17 => 151 | 18 => 152 | 19 => 153 | 20 => 154 | 21 => 155 | 22 => 156 | 25 => 167 | 26 => 128 | 27 => 129 | 28 => 168 | 29 => 169 | 30 => 123 | 31 => 174 | n => n, fun | 26 => 9 | 28 => 253 | 24 => 50 | 0 => 0 | 3 => 3 | 37 => 250 | 48 => 276 | 50 => 74 | 4 => 4 | 40 => 270 | 39 => 269 | 45 => 211 | 5 => 5 | 9 => 9 | 51 => 281 | 55 => 285 | 57 => 295 | 58 => 103 | 33 => 246 | n => n, fun | n => n⟩
theorem Tryz.sortedN : Go.Proofs.SlLaysZ.n6 Tryz.prog Tryz.sortedN_ren := {
  mixed := by kernel_rfl
  f6 := ⟨Tryz.f97.name, by decide, Tryz.func97.trans (congrArg some (by kernel_rfl))⟩
  f8 := ⟨Tryz.f119.name, by decide, Tryz.func119.trans (congrArg some (by kernel_rfl))⟩
  f11 := ⟨Tryz.f133.name, by decide, Tryz.func133.trans (congrArg some (by kernel_rfl))⟩
  t0 := Tryz.underlying0
  a0 := Tryz.isAgg0
  z0 := Tryz.sizeOf0
  v0 := Tryz.zeroValue0
  t24 := Tryz.underlying50
  a24 := Tryz.isAgg50
  z24 := Tryz.sizeOf50
  v24 := Tryz.zeroValue50
  t26 := Tryz.underlying9
  a26 := Tryz.isAgg9
  z26 := Tryz.sizeOf9
  v26 := Tryz.zeroValue9
  t28 := Tryz.underlying253
  a28 := Tryz.isAgg253
  z28 := Tryz.sizeOf253
  v28 := Tryz.zeroValue253
  i26 := by kernel_rfl }
def Tryz.sortN_ren : Go.Shelf.Ren := ⟨fun | 6 => 120 | 8 => 95 | 9 => 134 | 19 => 117 | 20 => 118 | 21 => 148 | 22 => 149 | 23 => 150 | 24 => 151 | 25 => 152 | 26 => 153 | 27 => 154 | 28 => 155 | 29 => 156 | 36 => 167 | 31 => 128 | 32 => 129 | 37 => 168 | 38 => 169 | 39 => 123 | 41 => 174 | n => n, fun | 27 => 50 | 29 => 9 | 3 => 3 | 32 => 250 | 26 => 50 | 0 => 0 | 44 => 276 | 46 => 74 | 4 => 4 | 36 => 270 | 35 => 269 | 41 => 211 | 5 => 5 | 9 => 9 | 53 => 281 | 57 => 285 | 63 => 295 | 64 => 103 | n => n, fun | n => n⟩
theorem Tryz.sortN : Go.Proofs.SlLaysM.n6 Tryz.prog Tryz.sortN_ren := {
  mixed := by kernel_rfl
  f6 := ⟨Tryz.f120.name, by decide, Tryz.func120.trans (congrArg some (by kernel_rfl))⟩
  f8 := Tryz.func95.trans (congrArg some (by kernel_rfl))
  f9 := ⟨Tryz.f134.name, by decide, Tryz.func134.trans (congrArg some (by kernel_rfl))⟩
  f19 := Tryz.func117.trans (congrArg some (by kernel_rfl))
  f20 := Tryz.func118.trans (congrArg some (by kernel_rfl))
  f21 := ⟨Tryz.f148.name, by decide, Tryz.func148.trans (congrArg some (by kernel_rfl))⟩
  f22 := ⟨Tryz.f149.name, by decide, Tryz.func149.trans (congrArg some (by kernel_rfl))⟩
  f23 := ⟨Tryz.f150.name, by decide, Tryz.func150.trans (congrArg some (by kernel_rfl))⟩
  f24 := ⟨Tryz.f151.name, by decide, Tryz.func151.trans (congrArg some (by kernel_rfl))⟩
  f25 := ⟨Tryz.f152.name, by decide, Tryz.func152.trans (congrArg some (by kernel_rfl))⟩
  f26 := ⟨Tryz.f153.name, by decide, Tryz.func153.trans (congrArg some (by kernel_rfl))⟩
  f27 := ⟨Tryz.f154.name, by decide, Tryz.func154.trans (congrArg some (by kernel_rfl))⟩
  f28 := ⟨Tryz.f155.name, by decide, Tryz.func155.trans (congrArg some (by kernel_rfl))⟩
  f29 := ⟨Tryz.f156.name, by decide, Tryz.func156.trans (congrArg some (by kernel_rfl))⟩
  f31 := Tryz.func128.trans (congrArg some (by kernel_rfl))
  f32 := Tryz.func129.trans (congrArg some (by kernel_rfl))
  f36 := ⟨Tryz.f167.name, by decide, Tryz.func167.trans (congrArg some (by kernel_rfl))⟩
  f37 := ⟨Tryz.f168.name, by decide, Tryz.func168.trans (congrArg some (by kernel_rfl))⟩
  f38 := ⟨Tryz.f169.name, by decide, Tryz.func169.trans (congrArg some (by kernel_rfl))⟩
  f39 := ⟨Tryz.f123.name, by decide, Tryz.func123.trans (congrArg some (by kernel_rfl))⟩
  f41 := ⟨Tryz.f174.name, by decide, Tryz.func174.trans (congrArg some (by kernel_rfl))⟩
  t0 := Tryz.underlying0
  a0 := Tryz.isAgg0
  z0 := Tryz.sizeOf0
  v0 := Tryz.zeroValue0
  t3 := Tryz.underlying3
  a3 := Tryz.isAgg3
  z3 := Tryz.sizeOf3
  v3 := Tryz.zeroValue3
  t4 := Tryz.underlying4
  a4 := Tryz.isAgg4
  z4 := Tryz.sizeOf4
  v4 := Tryz.zeroValue4
  t5 := Tryz.underlying5
  a5 := Tryz.isAgg5
  z5 := Tryz.sizeOf5
  v5 := Tryz.zeroValue5
  t9 := Tryz.underlying9
  a9 := Tryz.isAgg9
  z9 := Tryz.sizeOf9
  v9 := Tryz.zeroValue9
  t26 := Tryz.underlying50
  a26 := Tryz.isAgg50
  z26 := Tryz.sizeOf50
  v26 := Tryz.zeroValue50
  t27 := Tryz.underlying50
  a27 := Tryz.isAgg50
  z27 := Tryz.sizeOf50
  v27 := Tryz.zeroValue50
  t29 := Tryz.underlying9
  a29 := Tryz.isAgg9
  z29 := Tryz.sizeOf9
  v29 := Tryz.zeroValue9
  t32 := Tryz.underlying250
  a32 := Tryz.isAgg250
  z32 := Tryz.sizeOf250
  v32 := Tryz.zeroValue250
  t35 := Tryz.underlying269
  a35 := Tryz.isAgg269
  z35 := Tryz.sizeOf269
  v35 := Tryz.zeroValue269
  t36 := Tryz.underlying270
  a36 := Tryz.isAgg270
  z36 := Tryz.sizeOf270
  v36 := Tryz.zeroValue270
  t41 := Tryz.underlying211
  a41 := Tryz.isAgg211
  z41 := Tryz.sizeOf211
  v41 := Tryz.zeroValue211
  t44 := Tryz.underlying276
  a44 := Tryz.isAgg276
  z44 := Tryz.sizeOf276
  v44 := Tryz.zeroValue276
  t46 := Tryz.underlying74
  a46 := Tryz.isAgg74
  z46 := Tryz.sizeOf74
  v46 := Tryz.zeroValue74
  t53 := Tryz.underlying281
  a53 := Tryz.isAgg281
  z53 := Tryz.sizeOf281
  v53 := Tryz.zeroValue281
  t57 := Tryz.underlying285
  a57 := Tryz.isAgg285
  z57 := Tryz.sizeOf285
  v57 := Tryz.zeroValue285
  t63 := Tryz.underlying295
  a63 := Tryz.isAgg295
  z63 := Tryz.sizeOf295
  v63 := Tryz.zeroValue295
  t64 := Tryz.underlying103
  a64 := Tryz.isAgg103
  z64 := Tryz.sizeOf103
  v64 := Tryz.zeroValue103 }
def Tryz.sortF_ren : Go.Shelf.Ren := ⟨fun | 6 => 99 | 15 => 95 | 14 => 122 | 28 => 117 | 29 => 118 | 20 => 135 | 21 => 136 | 22 => 137 | 23 => 138 | 24 => 139 | 25 => 140 | 26 => 141 | 27 => 142 | 46 => 157 | 47 => 128 | 48 => 129 | 49 => 158 | 50 => 159 | 57 => 170 | n => n, fun | 22 => 24 | 24 => 44 | 25 => 257 | 3 => 3 | 39 => 250 | 0 => 0 | 53 => 276 | 55 => 74 | 4 => 4 | 46 => 270 | 45 => 269 | 50 => 211 | 5 => 5 | 9 => 9 | 66 => 281 | 70 => 285 | 76 => 295 | 77 => 103 | n => n, fun | n => n⟩
theorem Tryz.sortF : Go.Proofs.SlLaysF0.n6 Tryz.prog Tryz.sortF_ren := {
  mixed := by kernel_rfl
  f6 := ⟨Tryz.f99.name, by decide, Tryz.func99.trans (congrArg some (by kernel_rfl))⟩
  f14 := ⟨Tryz.f122.name, by decide, Tryz.func122.trans (congrArg some (by kernel_rfl))⟩
  f15 := Tryz.func95.trans (congrArg some (by kernel_rfl))
  f20 := ⟨Tryz.f135.name, by decide, Tryz.func135.trans (congrArg some (by kernel_rfl))⟩
  f21 := ⟨Tryz.f136.name, by decide, Tryz.func136.trans (congrArg some (by kernel_rfl))⟩
  f22 := ⟨Tryz.f137.name, by decide, Tryz.func137.trans (congrArg some (by kernel_rfl))⟩
  f23 := ⟨Tryz.f138.name, by decide, Tryz.func138.trans (congrArg some (by kernel_rfl))⟩
  f24 := ⟨Tryz.f139.name, by decide, Tryz.func139.trans (congrArg some (by kernel_rfl))⟩
  f25 := ⟨Tryz.f140.name, by decide, Tryz.func140.trans (congrArg some (by kernel_rfl))⟩
  f26 := ⟨Tryz.f141.name, by decide, Tryz.func141.trans (congrArg some (by kernel_rfl))⟩
  f27 := ⟨Tryz.f142.name, by decide, Tryz.func142.trans (congrArg some (by kernel_rfl))⟩
  f28 := Tryz.func117.trans (congrArg some (by kernel_rfl))
  f29 := Tryz.func118.trans (congrArg some (by kernel_rfl))
  f46 := ⟨Tryz.f157.name, by decide, Tryz.func157.trans (congrArg some (by kernel_rfl))⟩
  f47 := Tryz.func128.trans (congrArg some (by kernel_rfl))
  f48 := Tryz.func129.trans (congrArg some (by kernel_rfl))
  f49 := ⟨Tryz.f158.name, by decide, Tryz.func158.trans (congrArg some (by kernel_rfl))⟩
  f50 := ⟨Tryz.f159.name, by decide, Tryz.func159.trans (congrArg some (by kernel_rfl))⟩
  f57 := ⟨Tryz.f170.name, by decide, Tryz.func170.trans (congrArg some (by kernel_rfl))⟩
  t0 := Tryz.underlying0
  a0 := Tryz.isAgg0
  z0 := Tryz.sizeOf0
  v0 := Tryz.zeroValue0
  t3 := Tryz.underlying3
  a3 := Tryz.isAgg3
  z3 := Tryz.sizeOf3
  v3 := Tryz.zeroValue3
  t4 := Tryz.underlying4
  a4 := Tryz.isAgg4
  z4 := Tryz.sizeOf4
  v4 := Tryz.zeroValue4
  t5 := Tryz.underlying5
  a5 := Tryz.isAgg5
  z5 := Tryz.sizeOf5
  v5 := Tryz.zeroValue5
  t9 := Tryz.underlying9
  a9 := Tryz.isAgg9
  z9 := Tryz.sizeOf9
  v9 := Tryz.zeroValue9
  t22 := Tryz.underlying24
  a22 := Tryz.isAgg24
  z22 := Tryz.sizeOf24
  v22 := Tryz.zeroValue24
  t25 := Tryz.underlying257
  a25 := Tryz.isAgg257
  z25 := Tryz.sizeOf257
  v25 := Tryz.zeroValue257
  t39 := Tryz.underlying250
  a39 := Tryz.isAgg250
  z39 := Tryz.sizeOf250
  v39 := Tryz.zeroValue250
  t45 := Tryz.underlying269
  a45 := Tryz.isAgg269
  z45 := Tryz.sizeOf269
  v45 := Tryz.zeroValue269
  t46 := Tryz.underlying270
  a46 := Tryz.isAgg270
  z46 := Tryz.sizeOf270
  v46 := Tryz.zeroValue270
  t50 := Tryz.underlying211
  a50 := Tryz.isAgg211
  z50 := Tryz.sizeOf211
  v50 := Tryz.zeroValue211
  t53 := Tryz.underlying276
  a53 := Tryz.isAgg276
  z53 := Tryz.sizeOf276
  v53 := Tryz.zeroValue276
  t55 := Tryz.underlying74
  a55 := Tryz.isAgg74
  z55 := Tryz.sizeOf74
  v55 := Tryz.zeroValue74
  t66 := Tryz.underlying281
  a66 := Tryz.isAgg281
  z66 := Tryz.sizeOf281
  v66 := Tryz.zeroValue281
  t70 := Tryz.underlying285
  a70 := Tryz.isAgg285
  z70 := Tryz.sizeOf285
  v70 := Tryz.zeroValue285
  t76 := Tryz.underlying295
  a76 := Tryz.isAgg295
  z76 := Tryz.sizeOf295
  v76 := Tryz.zeroValue295
  t77 := Tryz.underlying103
  a77 := Tryz.isAgg103
  z77 := Tryz.sizeOf103
  v77 := Tryz.zeroValue103 }
end Go.Proofs

/- An address space of the program: a map from page numbers to pages. -/
namespace Go.Proofs.YtkcjafnaephjiaaGreatDoor
open Go.RowKit Go.Maps
set_option maxRecDepth 100000

def IsByte (b : Int) : Prop := 0 ≤ b ∧ b ≤ 255

/-- A page: what may be done with it, its 256 bytes. -/
structure Pg where
  perm : Int
  bytes : List Int

structure Pg.wf (p : Pg) : Prop where
  len : p.bytes.length = 256
  byte : ∀ x ∈ p.bytes, IsByte x
  perm : 0 ≤ p.perm ∧ p.perm ≤ 7

def Pg.cells (p : Pg) : List Value := .int .u8 p.perm :: p.bytes.map (Value.int .u8)
def Pg.v (p : Pg) : Value := .agg p.cells.toArray
def Pg.zero : Pg := ⟨0, List.replicate 256 0⟩
theorem Pg.zero_wf : Pg.zero.wf := ⟨by simp [Pg.zero], by simp [Pg.zero, IsByte], by simp [Pg.zero]⟩

noncomputable def keyI : KeyEnc Tryz.prog 3 Int := intEnc Tryz.underlying3
theorem keyedI : Keyed Tryz.prog 3 := int_keyed Tryz.underlying3

/-- The pages that are there. -/
abbrev Pages := Nat → Option Pg
structure PagesOk (m : Pages) : Prop where
  below : ∀ n, 256 ≤ n → m n = none
  wf : ∀ n p, m n = some p → p.wf

/-- Block b of w is the space m. -/
def Sp (w : World) (b : Nat) (m : Pages) : Prop :=
  ∃ kv, Mp keyI w b kv ∧ (∀ n : Nat, getKv kv (n : Int) = (m n).map Pg.v) ∧ ∀ p ∈ kv, 0 ≤ p.1

theorem Sp.lt {w : World} {b : Nat} {m : Pages} (h : Sp w b m) : b < w.heap.size := by
  obtain ⟨kv, h, _⟩ := h
  exact h.lt
theorem Sp.of_block {w w' : World} {b : Nat} {m : Pages} (h : Sp w b m) (hb : w'.heap[b]? = w.heap[b]?) : Sp w' b m := by
  obtain ⟨kv, h1, h2⟩ := h
  exact ⟨kv, h1.of_block hb, h2⟩
theorem Sp.bel {w w' : World} {b : Nat} {m : Pages} (h : Sp w b m) (hb : Bel w w') : Sp w' b m := h.of_block (hb.block b h.lt)
theorem Sp.alloc {w : World} {b : Nat} {m : Pages} (h : Sp w b m) (o : Obj) : Sp (w.alloc o) b m := h.bel (Bel.start w o)
theorem Sp.setCell {w : World} {b : Nat} {m : Pages} {a : Addr} (h : Sp w b m) (v : Value) : Sp (w.setCell a v) b m := by
  obtain ⟨kv, h1, h2⟩ := h
  exact ⟨kv, h1.setCell v, h2⟩

theorem zeroPage (w : World) : (zeroValue 192).run Tryz.prog w = .ok Pg.zero.v w := by
  have : Pg.zero.v = .agg (.int .u8 0 :: (List.replicate 256 (Value.int .u8 0))).toArray := by simp [Pg.v, Pg.cells, Pg.zero]
  rw [this]
  exact (by kernel_rfl : (zeroValue 192).run Tryz.prog w = .ok (.agg (.int .u8 0 :: (List.replicate 256 (Value.int .u8 0))).toArray) w)

/-- m[n]. -/
theorem Sp.lookup {w : World} {b : Nat} {m : Pages} (h : Sp w b m) (n : Nat) (hn : n < 9223372036854775808) :
    (Instr.lookup 132 (.map (some b)) (.int .i64 n) false).run Tryz.prog w = .ok ((m n).getD Pg.zero).v w := by
  obtain ⟨kv, h1, h2, _⟩ := h
  have := h1.lookup keyedI Tryz.underlying132 (n : Int) (WalkArith.wf_i64 (by omega)) false (zeroPage w)
  simp only [Bool.false_eq_true, if_false] at this
  rw [h2 n] at this
  rw [show Value.int .i64 (n : Int) = (keyI).kf (n : Int) from rfl, this]
  cases m n <;> rfl

theorem field_perm (p : Pg) (w : World) : (Instr.field 192 p.v 0).run Tryz.prog w = .ok (.int .u8 p.perm) w := by
  kernel_rfl

/-- May a page be used so? -/
def Pg.can (p : Pg) (perm : Int) : Bool := !(bits .and .u8 p.perm perm == 0)
def canAt (m : Pages) (n : Nat) (perm : Int) : Bool := ((m n).getD Pg.zero).can perm
/-- May n bytes from an address on be used so? -/
def mayAll (m : Pages) (perm : Int) (first last : Nat) : Bool := (List.range (last - first)).all fun i => canAt m (first + i) perm
def lastOf (a n : Int) : Nat := ((a + n + 255) / 256).toNat
def mayB (m : Pages) (a n perm : Int) : Bool :=
  if n = 0 then true else if n < 0 ∨ 65536 ≤ a ∨ 65536 - a < n then false else mayAll m perm (a / 256).toNat (lastOf a n)

theorem mayAll_snoc (m : Pages) (perm : Int) (f l : Nat) (h : f ≤ l) : mayAll m perm f (l + 1) = (mayAll m perm f l && canAt m l perm) := by
  unfold mayAll
  rw [show l + 1 - f = (l - f) + 1 from by omega, List.range_succ, List.all_append]
  simp [show f + (l - f) = l from by omega]
theorem mayAll_false (m : Pages) (perm : Int) (f l k : Nat) (h1 : f ≤ k) (h2 : k < l) (hk : canAt m k perm = false) : mayAll m perm f l = false := by
  unfold mayAll
  rw [List.all_eq_false]
  refine ⟨k - f, by simp; omega, ?_⟩
  simp [show f + (k - f) = k from by omega, hk]

set_option maxHeartbeats 4000000 in
/-- (Space).May. -/
theorem may_any (b : Nat) (m : Pages) (a n perm : Int) (w : World) (hs : Sp w b m) (ha : 0 ≤ a) (ha1 : a < 18446744073709551616) (hn : -9223372036854775808 ≤ n) (hn1 : n < 9223372036854775808) :
    Calls Tryz.prog 87 #[.map (some b), .int .u64 a, .int .i64 n, .int .u8 perm] w fun e w' => e = .returned (.bool (mayB m a n perm)) ∧ w = w' := by
  by_cases h0 : n = 0
  · subst h0
    go_enter Tryz.func87, Tryz.ntmps87
    go_wp2
    go_ret
    exact ⟨by simp [mayB], rfl⟩
  have g0 : (n == 0) = false := by simpa using h0
  by_cases h1 : n < 0 ∨ 65536 ≤ a ∨ 65536 - a < n
  · have hr : mayB m a n perm = false := by simp [mayB, h0, h1]
    have HR := Lib.hid hr
    clear hr
    by_cases h2 : n < 0
    · clear h1 h0
      go_enter Tryz.func87, Tryz.ntmps87
      go_wp2
      go_ret
      exact ⟨by rw [HR.out]; try rfl, rfl⟩
    · have h3 : 0 ≤ n := by omega
      by_cases h4 : 65536 ≤ a
      · clear h1 h0 h2
        go_enter Tryz.func87, Tryz.ntmps87
        go_wp2
        go_ret
        exact ⟨by rw [HR.out]; try rfl, rfl⟩
      · have h5 : a < 65536 := by omega
        have h6 : 65536 - a < n := by omega
        clear h1 h0 h2 h4
        go_enter Tryz.func87, Tryz.ntmps87
        go_wp2
        go_ret
        exact ⟨by rw [HR.out]; try rfl, rfl⟩
  · have h2 : 0 < n := by omega
    have h3 : a < 65536 := by omega
    have h4 : n ≤ 65536 - a := by omega
    have hr : mayB m a n perm = mayAll m perm (a / 256).toNat (lastOf a n) := by simp [mayB, h0, h1]
    have HR := Lib.hid hr
    clear hr h1 h0 hn hn1 ha1
    go_enter Tryz.func87, Tryz.ntmps87
    go_wp2
    go_loop [9] (fun p => ∃ k : Nat, (a / 256).toNat ≤ k ∧ k ≤ lastOf a n ∧ p = .int .i64 k ∧ mayAll m perm (a / 256).toNat k = true) (fun p => lastOf a n - (intOf p).toNat)
    case atStart => exact ⟨(a / 256).toNat, Nat.le_refl _, by simp only [lastOf]; omega, by congr 1; omega, by simp [mayAll]⟩
    case round =>
      obtain ⟨k, hk, hk1, rfl, hall⟩ := hrel
      have hl := hs.lookup k (by simp only [lastOf] at hk1; omega)
      have hf := field_perm ((m k).getD Pg.zero)
      have HA := Lib.hid hall
      clear hall
      have hkb : (k : Int) ≤ 256 := by simp only [lastOf] at hk1; omega
      by_cases hlt : (k : Int) * 256 < a + n
      · have hlast : k < lastOf a n := by simp only [lastOf]; omega
        cases hc : canAt m k perm with
        | false =>
          have hres := Lib.hid (HR.out.trans (mayAll_false m perm _ _ k hk hlast hc))
          have hb : (bits .and .u8 ((m k).getD Pg.zero).perm perm == 0) = true := by simpa [canAt, Pg.can] using hc
          clear hc
          go_wp2
          go_ret
          exact ⟨by rw [hres.out]; try rfl, rfl⟩
        | true =>
          have hnext := Lib.hid ((mayAll_snoc m perm _ k hk).trans (by rw [HA.out, hc]))
          have hb : (bits .and .u8 ((m k).getD Pg.zero).perm perm == 0) = false := by simpa [canAt, Pg.can] using hc
          clear hc
          go_wp2
          go_round
          case rel => exact ⟨k + 1, by omega, by omega, by go_num, hnext.out⟩
          case measure => simp [intOf] <;> omega
      · have hlast : lastOf a n = k := by simp only [lastOf] at hk1 ⊢; omega
        have hres := Lib.hid (HR.out.trans (by rw [hlast]; exact HA.out) : mayB m a n perm = true)
        clear hlast
        go_wp2
        go_ret
        exact ⟨by rw [hres.out]; try rfl, rfl⟩
end Go.Proofs.YtkcjafnaephjiaaGreatDoor
