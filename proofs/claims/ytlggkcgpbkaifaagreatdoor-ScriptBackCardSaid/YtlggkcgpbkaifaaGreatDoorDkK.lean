/-
  Hints for the functions of this seat (printed by mkh.py).
-/
import Derived.Test.YtlggkcgpbkaifaaGreatDoorAbSim
import Derived.Test.YtlggkcgpbkaifaaGreatDoorProg
import Derived.KernelRfl
import Derived.Shelf.Strings.OnBuilder
import Derived.Shelf.Small.Strs
import Derived.Shelf.Strconv.Itoa1
import Derived.Shelf.LaysM
import Derived.Shelf.Strconv.Itoa3
import Derived.Shelf.LaysC
import Derived.Shelf.Strconv.ParseIntPublic10
import Derived.Ground.MpProg
import Derived.Shelf.Pu.ParseUintPublic10
import Derived.Shelf.Strings.Cut
import Derived.Shelf.Strings.SlTrimAscii
import Derived.Shelf.Strings.Split
import Derived.Shelf.Strings.Repeat
set_option linter.unusedSimpArgs false
set_option linter.unusedVariables false
namespace Go.Ab
open Go Go.Proofs
set_option maxRecDepth 100000
def dkInfo : FuncId → Option FInfo
  | 3 => some ⟨true, [], []⟩
  | 5 => some ⟨false, [2, 3, 19], []⟩
  | 6 => some ⟨true, [], []⟩
  | 7 => some ⟨true, [], []⟩
  | 8 => some ⟨false, [1000005], [(3, [0, 5, 9, 10, 11])]⟩
  | 10 => some ⟨false, [], []⟩
  | 11 => some ⟨false, [], []⟩
  | 12 => some ⟨true, [], []⟩
  | 15 => some ⟨true, [], [(35, [2, 7, 8, 79, 80, 81])]⟩
  | 17 => some ⟨false, [2, 3, 22, 24], []⟩
  | 19 => some ⟨false, [], []⟩
  | 20 => some ⟨true, [], []⟩
  | 25 => some ⟨true, [2000022, 2000028], []⟩
  | 26 => some ⟨true, [], []⟩
  | 27 => some ⟨true, [1], []⟩
  | 28 => some ⟨false, [3, 33, 36], []⟩
  | 29 => some ⟨true, [], []⟩
  | 30 => some ⟨true, [], []⟩
  | 34 => some ⟨true, [], []⟩
  | 38 => some ⟨true, [1], [(4, [1, 38, 39])]⟩
  | 39 => some ⟨true, [2, 3, 8, 10], []⟩
  | 40 => some ⟨true, [1], []⟩
  | 41 => some ⟨false, [], []⟩
  | 42 => some ⟨false, [], []⟩
  | 44 => some ⟨false, [], []⟩
  | 49 => some ⟨true, [], []⟩
  | 50 => some ⟨true, [], [(5, [0, 2, 4, 12, 13])]⟩
  | 51 => some ⟨true, [], []⟩
  | 52 => some ⟨true, [], []⟩
  | 53 => some ⟨true, [], []⟩
  | 54 => some ⟨true, [1], []⟩
  | 57 => some ⟨true, [], []⟩
  | 58 => some ⟨true, [1], []⟩
  | 60 => some ⟨true, [3], []⟩
  | 64 => some ⟨false, [3, 28, 41], [(10, [0, 4, 5, 6, 54, 55, 56]), (19, [0, 4, 5, 9])]⟩
  | 67 => some ⟨false, [3], []⟩
  | 69 => some ⟨false, [3, 10], []⟩
  | 71 => some ⟨true, [], []⟩
  | 79 => some ⟨true, [], []⟩
  | 80 => some ⟨true, [], []⟩
  | 81 => some ⟨true, [1], [(3, [4, 13, 14, 15])]⟩
  | 82 => some ⟨true, [1], [(6, [1, 40, 41, 42]), (12, [1, 51, 52, 53]), (18, [1, 72, 73, 74])]⟩
  | 83 => some ⟨true, [], [(4, [0, 1, 12, 13])]⟩
  | 84 => some ⟨true, [1, 12, 15, 17], []⟩
  | 86 => some ⟨false, [], []⟩
  | 87 => some ⟨false, [], []⟩
  | 88 => some ⟨false, [], [(6, [2, 5, 28, 29, 30])]⟩
  | 89 => some ⟨true, [], []⟩
  | 90 => some ⟨true, [], []⟩
  | 91 => some ⟨true, [2], []⟩
  | 101 => some ⟨true, [], []⟩
  | 102 => some ⟨true, [2], [(3, [1, 5, 11, 12, 13])]⟩
  | 103 => some ⟨true, [1], []⟩
  | 104 => some ⟨true, [1], []⟩
  | 105 => some ⟨true, [1], []⟩
  | 108 => some ⟨true, [1], []⟩
  | 112 => some ⟨true, [1, 4, 7, 9, 11], []⟩
  | 120 => some ⟨false, [], []⟩
  | 124 => some ⟨false, [], []⟩
  | 132 => some ⟨true, [3], [(11, [4, 6, 9])]⟩
  | 135 => some ⟨true, [], []⟩
  | 137 => some ⟨false, [3, 2000007], [(5, [0, 5, 14, 15, 16])]⟩
  | 138 => some ⟨true, [], []⟩
  | 154 => some ⟨true, [], []⟩
  | 155 => some ⟨true, [], [(3, [4, 9, 10, 11])]⟩
  | 156 => some ⟨true, [], [(2, [0, 1, 5])]⟩
  | 161 => some ⟨true, [1], [(4, [1, 28, 29, 30])]⟩
  | 162 => some ⟨true, [], [(2, [1, 2, 3, 4, 5, 10, 11])]⟩
  | 163 => some ⟨true, [1], []⟩
  | 167 => some ⟨true, [1], []⟩
  | 168 => some ⟨false, [], [(9, [1, 4, 5, 6, 7, 24])]⟩
  | 169 => some ⟨true, [1, 12, 14, 16, 18, 20, 28, 30, 35, 1000005], []⟩
  | 170 => some ⟨true, [], []⟩
  | 171 => some ⟨false, [], []⟩
  | 172 => some ⟨false, [], [(3, [0])]⟩
  | 173 => some ⟨true, [], []⟩
  | 174 => some ⟨false, [3, 104, 2000018], [(5, [0, 3, 5, 6, 7, 8]), (31, [0, 117, 118, 119])]⟩
  | 175 => some ⟨true, [1], []⟩
  | 176 => some ⟨true, [1], []⟩
  | 178 => some ⟨true, [7, 8, 55, 56], [(8, [2, 4, 6])]⟩
  | 184 => some ⟨true, [1000005], [(4, [4, 5, 11, 12, 13])]⟩
  | 185 => some ⟨true, [1], []⟩
  | 187 => some ⟨true, [1], []⟩
  | 188 => some ⟨true, [1, 4, 7, 10, 12, 14, 16], []⟩
  | 201 => some ⟨false, [], [(2, [0, 1, 2, 6, 7, 8]), (7, [0, 1, 2, 6]), (9, [0, 1, 2, 6, 7, 8])]⟩
  | 205 => some ⟨true, [3, 4], [(6, [3, 6, 9, 11, 27, 28, 29])]⟩
  | 237 => some ⟨true, [], [(3, [0, 3, 4])]⟩
  | 238 => some ⟨true, [], []⟩
  | 239 => some ⟨true, [], []⟩
  | 242 => some ⟨true, [], []⟩
  | 244 => some ⟨false, [], [(1, [0, 1, 4])]⟩
  | 255 => some ⟨true, [], []⟩
  | 257 => some ⟨true, [], []⟩
  | 260 => some ⟨true, [1000003], [(3, [0, 2, 3, 7]), (6, [0, 2, 3, 7, 12, 13])]⟩
  | 261 => some ⟨true, [], []⟩
  | 262 => some ⟨true, [], []⟩
  | 263 => some ⟨true, [3, 7], []⟩
  | 265 => some ⟨true, [], [(3, [0, 3, 5])]⟩
  | 266 => some ⟨true, [1], [(6, [1, 2, 4, 6, 30, 31, 32]), (11, [1, 2, 6, 49, 50, 51]), (16, [2, 6, 66, 67, 68])]⟩
  | 267 => some ⟨true, [1], []⟩
  | 268 => some ⟨true, [], []⟩
  | 269 => some ⟨true, [], []⟩
  | 270 => some ⟨true, [], [(3, [0, 1, 6, 7])]⟩
  | 271 => some ⟨false, [], [(2, [0, 4, 9, 10, 11])]⟩
  | 275 => some ⟨false, [], [(9, [0, 1, 7, 24, 25, 26])]⟩
  | 276 => some ⟨true, [], [(2, [6, 7, 8])]⟩
  | 277 => some ⟨true, [], [(3, [3, 6, 7, 8])]⟩
  | 278 => some ⟨false, [], [(2, [0, 2, 14, 15, 16])]⟩
  | 279 => some ⟨true, [1, 4, 7, 11], []⟩
  | 280 => some ⟨false, [], [(2, [0, 2, 14, 15, 16])]⟩
  | 282 => some ⟨false, [], [(2, [0, 2, 14, 15, 16])]⟩
  | 284 => some ⟨true, [], []⟩
  | 285 => some ⟨false, [], []⟩
  | 286 => some ⟨true, [1, 32, 34], []⟩
  | 295 => some ⟨false, [2], []⟩
  | 296 => some ⟨false, [], []⟩
  | 298 => some ⟨true, [1, 4, 8, 12], []⟩
  | 300 => some ⟨true, [1, 4, 7], []⟩
  | 321 => some ⟨false, [], [(1, [0, 1, 2, 3, 8]), (4, [0, 1, 2, 3, 8, 9])]⟩
  | 355 => some ⟨true, [], []⟩
  | 365 => some ⟨true, [2], []⟩
  | 366 => some ⟨true, [1], [(6, [1, 2, 4, 6, 33, 34])]⟩
  | 367 => some ⟨true, [2, 3], [(3, [3, 4, 6, 25, 26, 27]), (11, [4, 6, 9, 10, 11, 41, 42, 43]), (25, [4, 10, 16, 95, 96, 97]), (31, [4, 10, 16, 20, 95, 96, 97, 113, 114, 115])]⟩
  | 368 => some ⟨false, [], []⟩
  | 369 => some ⟨true, [], []⟩
  | 370 => some ⟨true, [], [(3, [0, 3, 6, 7]), (7, [0, 3, 6, 7, 16])]⟩
  | 371 => some ⟨true, [], []⟩
  | 400 => some ⟨true, [], []⟩
  | 401 => some ⟨true, [1], []⟩
  | 402 => some ⟨true, [], []⟩
  | 403 => some ⟨true, [1], []⟩
  | 404 => some ⟨true, [], []⟩
  | 405 => some ⟨true, [1], []⟩
  | 461 => some ⟨true, [2, 3], []⟩
  | 475 => some ⟨true, [], [(3, [2, 4, 9, 10, 11])]⟩
  | 476 => some ⟨true, [1], [(5, [1, 2, 4, 45, 46, 47]), (12, [1, 2, 4, 66, 67, 68]), (20, [2, 4, 106, 107, 108])]⟩
  | 477 => some ⟨true, [1, 5, 8, 11, 14, 16, 18], []⟩
  | 478 => some ⟨true, [1], [(8, [6, 32])]⟩
  | 518 => some ⟨true, [1, 4, 7], []⟩
  | 522 => some ⟨false, [2], []⟩
  | 523 => some ⟨false, [], []⟩
  | 524 => some ⟨false, [2], []⟩
  | 525 => some ⟨false, [], []⟩
  | 526 => some ⟨false, [2], []⟩
  | 527 => some ⟨false, [], []⟩
  | 539 => some ⟨true, [2], []⟩
  | 540 => some ⟨true, [], []⟩
  | 541 => some ⟨true, [], []⟩
  | 545 => some ⟨true, [3, 5, 22, 18], []⟩
  | 555 => some ⟨true, [3, 5, 22, 18], []⟩
  | 562 => some ⟨true, [], [(2, [0, 1, 5])]⟩
  | 563 => some ⟨true, [], [(2, [0, 1, 5])]⟩
  | 564 => some ⟨true, [], [(2, [0, 1, 5])]⟩
  | 566 => some ⟨true, [1], []⟩
  | 567 => some ⟨true, [1], []⟩
  | 568 => some ⟨true, [1], []⟩
  | 569 => some ⟨false, [], []⟩
  | 589 => some ⟨true, [2], [(3, [1, 5, 7, 8])]⟩
  | 592 => some ⟨true, [], [(3, [0, 3, 6, 7])]⟩
  | 600 => some ⟨true, [], []⟩
  | 604 => some ⟨false, [], [(2, [0, 1, 2, 3, 4, 10, 11])]⟩
  | 633 => some ⟨false, [], [(1, [0, 1, 2, 3, 8]), (4, [0, 1, 2, 3, 8, 9])]⟩
  | _ => none
def dkPrims : FuncId → Option (List D → Option D)
  | 9 => some (repPrim)
  | 95 => some (idP)
  | 362 => some (add64D)
  | 601 => some (cmpStrD)
  | 177 => some (cloneP 32)
  | 98 => some (cloneP 8)
  | 328 => some (cloneP 1)
  | 33 => some (Dk.cutD)
  | 18 => some (Dk.splitD)
  | 70 => some (Dk.joinD)
  | 56 => some (Dk.itoaD)
  | 243 => some (Dk.numDigD)
  | 35 => some (Dk.puintD)
  | 37 => some (Dk.pintD)
  | 74 => some (Dk.trimD)
  | 77 => some (Dk.indexByteD)
  | _ => none
def dkH : Hints := ⟨dkInfo, dkPrims⟩
end Go.Ab

/-
  Contracts of the library at this program, laid by the shelf's own tool, in plain words.
-/
namespace Go.Proofs
open Go.Shelf
open Go.RowKit Go.Sort
def Tryz.lays160_ren : Go.Shelf.Ren := ⟨fun | 160 => 74 | 232 => 141 | 231 => 140 | 227 => 142 | 234 => 144 | 233 => 143 | 236 => 146 | 235 => 145 | 228 => 249 | 271 => 251 | 151 => 250 | 197 => 180 | 120 => 361 | 152 => 360 | 260 => 291 | 137 => 77 | 119 => 474 | 224 => 247 | 225 => 246 | 217 => 153 | 266 => 254 | n => n, fun | 9 => 9 | 4 => 4 | 3 => 3 | 5 => 5 | 117 => 283 | 116 => 282 | 0 => 0 | 124 => 286 | 21 => 21 | 105 => 326 | 46 => 77 | 119 => 563 | 139 => 566 | 138 => 565 | n => n, fun | 3 => 4 | 4 => 5 | n => n⟩
theorem Tryz.lays160 : Go.Proofs.Lays.n160 Tryz.prog Tryz.lays160_ren := {
  mixed := by kernel_rfl
  f119 := Tryz.func474.trans (congrArg some (by kernel_rfl))
  f120 := Tryz.func361.trans (congrArg some (by kernel_rfl))
  f137 := Tryz.func77.trans (congrArg some (by kernel_rfl))
  f151 := Tryz.func250.trans (congrArg some (by kernel_rfl))
  f152 := Tryz.func360.trans (congrArg some (by kernel_rfl))
  f160 := Tryz.func74.trans (congrArg some (by kernel_rfl))
  f197 := Tryz.func180.trans (congrArg some (by kernel_rfl))
  f217 := Tryz.func153.trans (congrArg some (by kernel_rfl))
  f224 := Tryz.func247.trans (congrArg some (by kernel_rfl))
  f225 := Tryz.func246.trans (congrArg some (by kernel_rfl))
  f227 := Tryz.func142.trans (congrArg some (by kernel_rfl))
  f228 := Tryz.func249.trans (congrArg some (by kernel_rfl))
  f231 := Tryz.func140.trans (congrArg some (by kernel_rfl))
  f232 := Tryz.func141.trans (congrArg some (by kernel_rfl))
  f233 := Tryz.func143.trans (congrArg some (by kernel_rfl))
  f234 := Tryz.func144.trans (congrArg some (by kernel_rfl))
  f235 := Tryz.func145.trans (congrArg some (by kernel_rfl))
  f236 := Tryz.func146.trans (congrArg some (by kernel_rfl))
  f260 := Tryz.func291.trans (congrArg some (by kernel_rfl))
  f266 := Tryz.func254.trans (congrArg some (by kernel_rfl))
  f271 := Tryz.func251.trans (congrArg some (by kernel_rfl))
  t0 := Tryz.underlying0
  a0 := Tryz.isAgg0
  z0 := Tryz.sizeOf0
  v0 := Tryz.zeroValue0
  t3 := Tryz.underlying3
  a3 := Tryz.isAgg3
  z3 := Tryz.sizeOf3
  v3 := Tryz.zeroValue3
  t4 := Tryz.underlying4
  a4 := Tryz.isAgg4
  z4 := Tryz.sizeOf4
  v4 := Tryz.zeroValue4
  t5 := Tryz.underlying5
  a5 := Tryz.isAgg5
  z5 := Tryz.sizeOf5
  v5 := Tryz.zeroValue5
  t9 := Tryz.underlying9
  a9 := Tryz.isAgg9
  z9 := Tryz.sizeOf9
  v9 := Tryz.zeroValue9
  t21 := Tryz.underlying21
  a21 := Tryz.isAgg21
  z21 := Tryz.sizeOf21
  v21 := Tryz.zeroValue21
  t46 := Tryz.underlying77
  a46 := Tryz.isAgg77
  z46 := Tryz.sizeOf77
  v46 := Tryz.zeroValue77
  t105 := Tryz.underlying326
  a105 := Tryz.isAgg326
  z105 := Tryz.sizeOf326
  v105 := Tryz.zeroValue326
  t116 := Tryz.underlying282
  a116 := Tryz.isAgg282
  z116 := Tryz.sizeOf282
  t117 := Tryz.underlying283
  a117 := Tryz.isAgg283
  z117 := Tryz.sizeOf283
  v117 := Tryz.zeroValue283
  t119 := Tryz.underlying563
  a119 := Tryz.isAgg563
  z119 := Tryz.sizeOf563
  t124 := Tryz.underlying286
  a124 := Tryz.isAgg286
  z124 := Tryz.sizeOf286
  v124 := Tryz.zeroValue286
  t138 := Tryz.underlying565
  a138 := Tryz.isAgg565
  z138 := Tryz.sizeOf565
  v138 := Tryz.zeroValue565
  t139 := Tryz.underlying566
  a139 := Tryz.isAgg566
  z139 := Tryz.sizeOf566
  v139 := Tryz.zeroValue566
  g3 := by kernel_rfl
  g4 := by kernel_rfl }
def Tryz.lays285_ren : Go.Shelf.Ren := ⟨fun | 285 => 244 | n => n, fun | 37 => 67 | 53 => 26 | 3 => 3 | 4 => 4 | 51 => 134 | 9 => 9 | 5 => 5 | 0 => 0 | n => n, fun | n => n⟩
theorem Tryz.lays285 : Go.Proofs.Lays.n285 Tryz.prog Tryz.lays285_ren := {
  mixed := by kernel_rfl
  f285 := Tryz.func244.trans (congrArg some (by kernel_rfl))
  t0 := Tryz.underlying0
  a0 := Tryz.isAgg0
  z0 := Tryz.sizeOf0
  v0 := Tryz.zeroValue0
  t3 := Tryz.underlying3
  a3 := Tryz.isAgg3
  z3 := Tryz.sizeOf3
  v3 := Tryz.zeroValue3
  t4 := Tryz.underlying4
  a4 := Tryz.isAgg4
  z4 := Tryz.sizeOf4
  v4 := Tryz.zeroValue4
  t5 := Tryz.underlying5
  a5 := Tryz.isAgg5
  z5 := Tryz.sizeOf5
  v5 := Tryz.zeroValue5
  t9 := Tryz.underlying9
  a9 := Tryz.isAgg9
  z9 := Tryz.sizeOf9
  v9 := Tryz.zeroValue9
  t37 := Tryz.underlying67
  a37 := Tryz.isAgg67
  z37 := Tryz.sizeOf67
  v37 := Tryz.zeroValue67
  t51 := Tryz.underlying134
  a51 := Tryz.isAgg134
  z51 := Tryz.sizeOf134
  v51 := Tryz.zeroValue134
  t53 := Tryz.underlying26
  a53 := Tryz.isAgg26
  z53 := Tryz.sizeOf26
  v53 := Tryz.zeroValue26 }
def Tryz.lays156_ren : Go.Shelf.Ren := ⟨fun | 156 => 70 | 165 => 23 | 166 => 19 | 169 => 20 | 240 => 44 | 241 => 48 | 276 => 95 | 277 => 96 | n => n, fun | 31 => 70 | 9 => 9 | 3 => 3 | 4 => 4 | 0 => 0 | 20 => 20 | 72 => 69 | 76 => 74 | 70 => 66 | 37 => 67 | 75 => 73 | 127 => 133 | 164 => 201 | 5 => 5 | 80 => 76 | n => n, fun | n => n⟩
theorem Tryz.lays156 : Go.Proofs.Lays.n156 Tryz.prog Tryz.lays156_ren := {
  mixed := by kernel_rfl
  f156 := Tryz.func70.trans (congrArg some (by kernel_rfl))
  f165 := Tryz.func23.trans (congrArg some (by kernel_rfl))
  f166 := Tryz.func19.trans (congrArg some (by kernel_rfl))
  f169 := Tryz.func20.trans (congrArg some (by kernel_rfl))
  f240 := Tryz.func44.trans (congrArg some (by kernel_rfl))
  f241 := Tryz.func48.trans (congrArg some (by kernel_rfl))
  f276 := Tryz.func95.trans (congrArg some (by kernel_rfl))
  f277 := Tryz.func96.trans (congrArg some (by kernel_rfl))
  t0 := Tryz.underlying0
  a0 := Tryz.isAgg0
  z0 := Tryz.sizeOf0
  v0 := Tryz.zeroValue0
  t3 := Tryz.underlying3
  a3 := Tryz.isAgg3
  z3 := Tryz.sizeOf3
  v3 := Tryz.zeroValue3
  t4 := Tryz.underlying4
  a4 := Tryz.isAgg4
  z4 := Tryz.sizeOf4
  v4 := Tryz.zeroValue4
  t9 := Tryz.underlying9
  a9 := Tryz.isAgg9
  z9 := Tryz.sizeOf9
  v9 := Tryz.zeroValue9
  t20 := Tryz.underlying20
  a20 := Tryz.isAgg20
  z20 := Tryz.sizeOf20
  v20 := Tryz.zeroValue20
  t31 := Tryz.underlying70
  a31 := Tryz.isAgg70
  z31 := Tryz.sizeOf70
  v31 := Tryz.zeroValue70
  t37 := Tryz.underlying67
  a37 := Tryz.isAgg67
  z37 := Tryz.sizeOf67
  v37 := Tryz.zeroValue67
  t70 := Tryz.underlying66
  a70 := Tryz.isAgg66
  z70 := Tryz.sizeOf66
  v70 := Tryz.zeroValue66
  t72 := Tryz.underlying69
  a72 := Tryz.isAgg69
  z72 := Tryz.sizeOf69
  v72 := Tryz.zeroValue69
  t75 := Tryz.underlying73
  a75 := Tryz.isAgg73
  z75 := Tryz.sizeOf73
  v75 := Tryz.zeroValue73
  t76 := Tryz.underlying74
  a76 := Tryz.isAgg74
  z76 := Tryz.sizeOf74
  v76 := Tryz.zeroValue74
  t127 := Tryz.underlying133
  a127 := Tryz.isAgg133
  z127 := Tryz.sizeOf133
  v127 := Tryz.zeroValue133
  t164 := Tryz.underlying201
  a164 := Tryz.isAgg201
  z164 := Tryz.sizeOf201
  v164 := Tryz.zeroValue201 }
theorem Tryz.Builder_Extra_156 : Builder.Extra Tryz.prog Tryz.lays156_ren := {
  sizeBuilder := by kernel_rfl
  liesBuilder := by kernel_rfl
  t5 := Tryz.underlying5
  a5 := Tryz.isAgg5
  z5 := Tryz.sizeOf5
  v5 := Tryz.zeroValue5
  infoByte := by kernel_rfl
  cellsByte := by kernel_rfl
  sizeByte := by kernel_rfl
  neB5 := by decide }
theorem Tryz.strings_Join_none (a : Option Addr) (c : Nat) (sep : ByteArray) (w : World) :
    Calls Tryz.prog 70 #[.slice a 0 c, .string sep] w fun e w' => e = .returned (.string ⟨#[]⟩) ∧ w' = w := Any.strings_Join_none Tryz.lays156 Tryz.Builder_Extra_156 a c sep w
theorem Tryz.strings_Join (bk o c : Nat) (xs : List ByteArray) (sep : ByteArray) (w : World) (hcells : ∀ (j : Nat) x, xs[j]? = some x → w.cell? ⟨bk, o + j, none⟩ = some (.string x)) (hbk : bk < w.heap.size) (hN : xs.length ≤ 140737488355328) (hcap : xs.length ≤ c) (hlen : (Lib.join (xs.map (·.data.toList)) sep.data.toList).length ≤ 140737488355328) :
    Calls Tryz.prog 70 #[.slice (some ⟨bk, o, none⟩) xs.length c, .string sep] w fun e w' => e = .returned (.string ⟨(Lib.join (xs.map (·.data.toList)) sep.data.toList).toArray⟩) ∧ Below w.heap.size w w' := Any.strings_Join Tryz.lays156 Tryz.Builder_Extra_156 bk o c xs sep w hcells hbk hN hcap hlen
def Tryz.lays137_ren : Go.Shelf.Ren := ⟨fun | 137 => 77 | 217 => 153 | 266 => 254 | n => n, fun | 9 => 9 | 5 => 5 | 3 => 3 | n => n, fun | n => n⟩
theorem Tryz.lays137 : Go.Proofs.Lays.n137 Tryz.prog Tryz.lays137_ren := {
  mixed := by kernel_rfl
  f137 := Tryz.func77.trans (congrArg some (by kernel_rfl))
  f217 := Tryz.func153.trans (congrArg some (by kernel_rfl))
  f266 := Tryz.func254.trans (congrArg some (by kernel_rfl))
  t3 := Tryz.underlying3
  a3 := Tryz.isAgg3
  z3 := Tryz.sizeOf3
  v3 := Tryz.zeroValue3
  t5 := Tryz.underlying5
  a5 := Tryz.isAgg5
  z5 := Tryz.sizeOf5
  v5 := Tryz.zeroValue5
  t9 := Tryz.underlying9
  a9 := Tryz.isAgg9
  z9 := Tryz.sizeOf9
  v9 := Tryz.zeroValue9 }
theorem Tryz.strings_IndexByte (s : ByteArray) (c : Int) (w : World) :
    Calls Tryz.prog 77 #[.string s, .int .u8 c] w fun e w' => e = .returned (.int .i64 (Lib.indexByte s.data.toList c.toNat.toUInt8)) ∧ w' = w := Any.strings_IndexByte Tryz.lays137 s c w
def Tryz.lays283_ren : Go.Shelf.Ren := ⟨fun | 283 => 242 | n => n, fun | 3 => 3 | 9 => 9 | 4 => 4 | n => n, fun | n => n⟩
theorem Tryz.lays283 : Go.Proofs.Lays.n283 Tryz.prog Tryz.lays283_ren := {
  mixed := by kernel_rfl
  f283 := Tryz.func242.trans (congrArg some (by kernel_rfl))
  t3 := Tryz.underlying3
  a3 := Tryz.isAgg3
  z3 := Tryz.sizeOf3
  v3 := Tryz.zeroValue3
  t4 := Tryz.underlying4
  a4 := Tryz.isAgg4
  z4 := Tryz.sizeOf4
  v4 := Tryz.zeroValue4
  t9 := Tryz.underlying9
  a9 := Tryz.isAgg9
  z9 := Tryz.sizeOf9
  v9 := Tryz.zeroValue9 }
theorem Tryz.internal_strconv_small (i : Nat) (h : i < 100) (w : World) :
    Calls Tryz.prog 242 #[.int .i64 i] w fun e w' => e = .returned (.string ⟨(Lib.decDigits i).toArray⟩) ∧ w' = w := Any.internal_strconv_small Tryz.lays283 i h w
def Tryz.laysM284_ren : Go.Shelf.Ren := ⟨fun | 284 => 243 | 129 => 355 | 317 => 354 | 318 => 356 | n => n, fun | 53 => 26 | 3 => 3 | 212 => 526 | 0 => 0 | 4 => 4 | 46 => 77 | 5 => 5 | 9 => 9 | n => n, fun | 17 => 3 | n => n⟩
theorem Tryz.laysM284 : Go.Proofs.LaysM.n284 Tryz.prog Tryz.laysM284_ren := {
  mixed := by kernel_rfl
  f129 := Tryz.func355.trans (congrArg some (by kernel_rfl))
  f284 := Tryz.func243.trans (congrArg some (by kernel_rfl))
  f317 := Tryz.func354.trans (congrArg some (by kernel_rfl))
  f318 := Tryz.func356.trans (congrArg some (by kernel_rfl))
  t0 := Tryz.underlying0
  a0 := Tryz.isAgg0
  z0 := Tryz.sizeOf0
  v0 := Tryz.zeroValue0
  t3 := Tryz.underlying3
  a3 := Tryz.isAgg3
  z3 := Tryz.sizeOf3
  v3 := Tryz.zeroValue3
  t4 := Tryz.underlying4
  a4 := Tryz.isAgg4
  z4 := Tryz.sizeOf4
  v4 := Tryz.zeroValue4
  t5 := Tryz.underlying5
  a5 := Tryz.isAgg5
  z5 := Tryz.sizeOf5
  v5 := Tryz.zeroValue5
  t9 := Tryz.underlying9
  a9 := Tryz.isAgg9
  z9 := Tryz.sizeOf9
  v9 := Tryz.zeroValue9
  t46 := Tryz.underlying77
  a46 := Tryz.isAgg77
  z46 := Tryz.sizeOf77
  v46 := Tryz.zeroValue77
  t53 := Tryz.underlying26
  a53 := Tryz.isAgg26
  z53 := Tryz.sizeOf26
  v53 := Tryz.zeroValue26
  t212 := Tryz.underlying526
  a212 := Tryz.isAgg526
  z212 := Tryz.sizeOf526
  v212 := Tryz.zeroValue526
  g17 := by kernel_rfl
  i0 := by kernel_rfl
  i3 := by kernel_rfl
  i4 := by kernel_rfl
  i5 := by kernel_rfl
  i9 := by kernel_rfl
  i46 := by kernel_rfl
  i53 := by kernel_rfl
  i212 := by kernel_rfl
  m17 := by kernel_rfl }
theorem Tryz.internal_strconv_numDigits (u : Nat) (h1 : 1 ≤ u) (h2 : u < 18446744073709551616) (w : World) (htab : Lib.TabIs Tryz.prog w "internal/strconv.uint64pow10" .u64 Lib.pow10Tab) :
    Calls Tryz.prog 243 #[.int .u64 u] w fun e w' => e = .returned (.int .i64 (Lib.nDigits u)) ∧ w' = w := Any.internal_strconv_numDigits Tryz.laysM284 u h1 h2 w htab
def Tryz.laysM171_ren : Go.Shelf.Ren := ⟨fun | 171 => 56 | 243 => 97 | 246 => 182 | 283 => 242 | 284 => 243 | 285 => 244 | 286 => 245 | 129 => 355 | 317 => 354 | 318 => 356 | 319 => 357 | 320 => 358 | 337 => 472 | 338 => 473 | n => n, fun | 3 => 3 | 9 => 9 | 2 => 2 | 4 => 4 | 171 => 404 | 0 => 0 | 53 => 26 | 37 => 67 | 5 => 5 | 173 => 407 | 212 => 526 | 51 => 134 | 20 => 20 | 213 => 527 | 46 => 77 | 232 => 29 | 233 => 742 | n => n, fun | 17 => 3 | 18 => 6 | 19 => 7 | n => n⟩
theorem Tryz.laysM171 : Go.Proofs.LaysM.n171 Tryz.prog Tryz.laysM171_ren := {
  mixed := by kernel_rfl
  f129 := Tryz.func355.trans (congrArg some (by kernel_rfl))
  f171 := Tryz.func56.trans (congrArg some (by kernel_rfl))
  f243 := Tryz.func97.trans (congrArg some (by kernel_rfl))
  f246 := Tryz.func182.trans (congrArg some (by kernel_rfl))
  f283 := Tryz.func242.trans (congrArg some (by kernel_rfl))
  f284 := Tryz.func243.trans (congrArg some (by kernel_rfl))
  f285 := Tryz.func244.trans (congrArg some (by kernel_rfl))
  f286 := Tryz.func245.trans (congrArg some (by kernel_rfl))
  f317 := Tryz.func354.trans (congrArg some (by kernel_rfl))
  f318 := Tryz.func356.trans (congrArg some (by kernel_rfl))
  f319 := Tryz.func357.trans (congrArg some (by kernel_rfl))
  f320 := Tryz.func358.trans (congrArg some (by kernel_rfl))
  f337 := Tryz.func472.trans (congrArg some (by kernel_rfl))
  f338 := Tryz.func473.trans (congrArg some (by kernel_rfl))
  t0 := Tryz.underlying0
  a0 := Tryz.isAgg0
  z0 := Tryz.sizeOf0
  v0 := Tryz.zeroValue0
  t2 := Tryz.underlying2
  a2 := Tryz.isAgg2
  z2 := Tryz.sizeOf2
  v2 := Tryz.zeroValue2
  t3 := Tryz.underlying3
  a3 := Tryz.isAgg3
  z3 := Tryz.sizeOf3
  v3 := Tryz.zeroValue3
  t4 := Tryz.underlying4
  a4 := Tryz.isAgg4
  z4 := Tryz.sizeOf4
  v4 := Tryz.zeroValue4
  t5 := Tryz.underlying5
  a5 := Tryz.isAgg5
  z5 := Tryz.sizeOf5
  v5 := Tryz.zeroValue5
  t9 := Tryz.underlying9
  a9 := Tryz.isAgg9
  z9 := Tryz.sizeOf9
  v9 := Tryz.zeroValue9
  t20 := Tryz.underlying20
  a20 := Tryz.isAgg20
  z20 := Tryz.sizeOf20
  v20 := Tryz.zeroValue20
  t37 := Tryz.underlying67
  a37 := Tryz.isAgg67
  z37 := Tryz.sizeOf67
  v37 := Tryz.zeroValue67
  t46 := Tryz.underlying77
  a46 := Tryz.isAgg77
  z46 := Tryz.sizeOf77
  v46 := Tryz.zeroValue77
  t51 := Tryz.underlying134
  a51 := Tryz.isAgg134
  z51 := Tryz.sizeOf134
  v51 := Tryz.zeroValue134
  t53 := Tryz.underlying26
  a53 := Tryz.isAgg26
  z53 := Tryz.sizeOf26
  v53 := Tryz.zeroValue26
  t171 := Tryz.underlying404
  a171 := Tryz.isAgg404
  z171 := Tryz.sizeOf404
  v171 := Tryz.zeroValue404
  t173 := Tryz.underlying407
  a173 := Tryz.isAgg407
  z173 := Tryz.sizeOf407
  v173 := Tryz.zeroValue407
  t212 := Tryz.underlying526
  a212 := Tryz.isAgg526
  z212 := Tryz.sizeOf526
  v212 := Tryz.zeroValue526
  t213 := Tryz.underlying527
  a213 := Tryz.isAgg527
  z213 := Tryz.sizeOf527
  t232 := Tryz.underlying29
  a232 := Tryz.isAgg29
  z232 := Tryz.sizeOf29
  v232 := Tryz.zeroValue29
  t233 := Tryz.underlying742
  a233 := Tryz.isAgg742
  z233 := Tryz.sizeOf742
  v233 := Tryz.zeroValue742
  g17 := by kernel_rfl
  g18 := by kernel_rfl
  g19 := by kernel_rfl
  i0 := by kernel_rfl
  i2 := by kernel_rfl
  i3 := by kernel_rfl
  i4 := by kernel_rfl
  i5 := by kernel_rfl
  i9 := by kernel_rfl
  i20 := by kernel_rfl
  i37 := by kernel_rfl
  i46 := by kernel_rfl
  i51 := by kernel_rfl
  i53 := by kernel_rfl
  i171 := by kernel_rfl
  i173 := by kernel_rfl
  i212 := by kernel_rfl
  i232 := by kernel_rfl
  i233 := by kernel_rfl
  m17 := by kernel_rfl
  m18 := by kernel_rfl
  m19 := by kernel_rfl }
theorem Tryz.strconv_Itoa (n : Int) (h0 : -9223372036854775808 ≤ n) (h1 : n ≤ 9223372036854775807) (w : World) (htab : Lib.TabIs Tryz.prog w "internal/strconv.uint64pow10" .u64 Lib.pow10Tab) :
    Calls Tryz.prog 56 #[.int .i64 n] w fun e w' => e = .returned (.string ⟨(Lib.itoa n).toArray⟩) ∧ ∃ k os, w' = grow (w.drewN k) os := Any.strconv_Itoa Tryz.laysM171 n h0 h1 w htab
def Tryz.laysC174_ren : Go.Shelf.Ren := ⟨fun | 174 => 37 | 247 => 78 | 245 => 76 | 287 => 75 | 279 => 149 | 280 => 150 | 281 => 151 | 282 => 152 | 321 => 147 | 322 => 148 | 316 => 252 | 171 => 56 | 205 => 253 | 243 => 97 | 246 => 182 | 283 => 242 | 284 => 243 | 285 => 244 | 286 => 245 | 129 => 355 | 317 => 354 | 318 => 356 | 319 => 357 | 320 => 358 | 337 => 472 | 338 => 473 | n => n, fun | 9 => 9 | 3 => 3 | 2 => 2 | 75 => 73 | 85 => 125 | 4 => 4 | 167 => 287 | 5 => 5 | 53 => 26 | 175 => 123 | 46 => 77 | 168 => 290 | 37 => 67 | 0 => 0 | 210 => 412 | 21 => 21 | 127 => 133 | 145 => 534 | 143 => 532 | 171 => 404 | 173 => 407 | 212 => 526 | 51 => 134 | 20 => 20 | 213 => 527 | 232 => 29 | 233 => 742 | 80 => 76 | n => n, fun | 15 => 1 | 16 => 2 | 17 => 3 | 18 => 6 | 19 => 7 | n => n⟩
theorem Tryz.laysC174 : Go.Proofs.LaysC.n174 Tryz.prog Tryz.laysC174_ren := {
  mixed := by kernel_rfl
  f129 := Tryz.func355.trans (congrArg some (by kernel_rfl))
  f171 := Tryz.func56.trans (congrArg some (by kernel_rfl))
  f174 := Tryz.func37.trans (congrArg some (by kernel_rfl))
  f205 := Tryz.func253.trans (congrArg some (by kernel_rfl))
  f243 := Tryz.func97.trans (congrArg some (by kernel_rfl))
  f245 := Tryz.func76.trans (congrArg some (by kernel_rfl))
  f246 := Tryz.func182.trans (congrArg some (by kernel_rfl))
  f247 := Tryz.func78.trans (congrArg some (by kernel_rfl))
  f279 := Tryz.func149.trans (congrArg some (by kernel_rfl))
  f280 := Tryz.func150.trans (congrArg some (by kernel_rfl))
  f281 := Tryz.func151.trans (congrArg some (by kernel_rfl))
  f282 := Tryz.func152.trans (congrArg some (by kernel_rfl))
  f283 := Tryz.func242.trans (congrArg some (by kernel_rfl))
  f284 := Tryz.func243.trans (congrArg some (by kernel_rfl))
  f285 := Tryz.func244.trans (congrArg some (by kernel_rfl))
  f286 := Tryz.func245.trans (congrArg some (by kernel_rfl))
  f287 := Tryz.func75.trans (congrArg some (by kernel_rfl))
  f316 := Tryz.func252.trans (congrArg some (by kernel_rfl))
  f317 := Tryz.func354.trans (congrArg some (by kernel_rfl))
  f318 := Tryz.func356.trans (congrArg some (by kernel_rfl))
  f319 := Tryz.func357.trans (congrArg some (by kernel_rfl))
  f320 := Tryz.func358.trans (congrArg some (by kernel_rfl))
  f321 := Tryz.func147.trans (congrArg some (by kernel_rfl))
  f322 := Tryz.func148.trans (congrArg some (by kernel_rfl))
  f337 := Tryz.func472.trans (congrArg some (by kernel_rfl))
  f338 := Tryz.func473.trans (congrArg some (by kernel_rfl))
  t0 := Tryz.underlying0
  a0 := Tryz.isAgg0
  z0 := Tryz.sizeOf0
  v0 := Tryz.zeroValue0
  t2 := Tryz.underlying2
  a2 := Tryz.isAgg2
  z2 := Tryz.sizeOf2
  v2 := Tryz.zeroValue2
  t3 := Tryz.underlying3
  a3 := Tryz.isAgg3
  z3 := Tryz.sizeOf3
  v3 := Tryz.zeroValue3
  t4 := Tryz.underlying4
  a4 := Tryz.isAgg4
  z4 := Tryz.sizeOf4
  v4 := Tryz.zeroValue4
  t5 := Tryz.underlying5
  a5 := Tryz.isAgg5
  z5 := Tryz.sizeOf5
  v5 := Tryz.zeroValue5
  t9 := Tryz.underlying9
  a9 := Tryz.isAgg9
  z9 := Tryz.sizeOf9
  v9 := Tryz.zeroValue9
  t20 := Tryz.underlying20
  a20 := Tryz.isAgg20
  z20 := Tryz.sizeOf20
  v20 := Tryz.zeroValue20
  t21 := Tryz.underlying21
  a21 := Tryz.isAgg21
  z21 := Tryz.sizeOf21
  v21 := Tryz.zeroValue21
  t37 := Tryz.underlying67
  a37 := Tryz.isAgg67
  z37 := Tryz.sizeOf67
  v37 := Tryz.zeroValue67
  t46 := Tryz.underlying77
  a46 := Tryz.isAgg77
  z46 := Tryz.sizeOf77
  v46 := Tryz.zeroValue77
  t51 := Tryz.underlying134
  a51 := Tryz.isAgg134
  z51 := Tryz.sizeOf134
  v51 := Tryz.zeroValue134
  t53 := Tryz.underlying26
  a53 := Tryz.isAgg26
  z53 := Tryz.sizeOf26
  v53 := Tryz.zeroValue26
  t75 := Tryz.underlying73
  a75 := Tryz.isAgg73
  z75 := Tryz.sizeOf73
  v75 := Tryz.zeroValue73
  t85 := Tryz.underlying125
  a85 := Tryz.isAgg125
  z85 := Tryz.sizeOf125
  v85 := Tryz.zeroValue125
  t127 := Tryz.underlying133
  a127 := Tryz.isAgg133
  z127 := Tryz.sizeOf133
  v127 := Tryz.zeroValue133
  t143 := Tryz.underlying532
  a143 := Tryz.isAgg532
  z143 := Tryz.sizeOf532
  v143 := Tryz.zeroValue532
  t145 := Tryz.underlying534
  a145 := Tryz.isAgg534
  z145 := Tryz.sizeOf534
  v145 := Tryz.zeroValue534
  t167 := Tryz.underlying287
  a167 := Tryz.isAgg287
  z167 := Tryz.sizeOf287
  v167 := Tryz.zeroValue287
  t168 := Tryz.underlying290
  a168 := Tryz.isAgg290
  z168 := Tryz.sizeOf290
  v168 := Tryz.zeroValue290
  t171 := Tryz.underlying404
  a171 := Tryz.isAgg404
  z171 := Tryz.sizeOf404
  v171 := Tryz.zeroValue404
  t173 := Tryz.underlying407
  a173 := Tryz.isAgg407
  z173 := Tryz.sizeOf407
  v173 := Tryz.zeroValue407
  t175 := Tryz.underlying123
  a175 := Tryz.isAgg123
  z175 := Tryz.sizeOf123
  v175 := Tryz.zeroValue123
  t210 := Tryz.underlying412
  a210 := Tryz.isAgg412
  z210 := Tryz.sizeOf412
  v210 := Tryz.zeroValue412
  t212 := Tryz.underlying526
  a212 := Tryz.isAgg526
  z212 := Tryz.sizeOf526
  v212 := Tryz.zeroValue526
  t213 := Tryz.underlying527
  a213 := Tryz.isAgg527
  z213 := Tryz.sizeOf527
  t232 := Tryz.underlying29
  a232 := Tryz.isAgg29
  z232 := Tryz.sizeOf29
  v232 := Tryz.zeroValue29
  t233 := Tryz.underlying742
  a233 := Tryz.isAgg742
  z233 := Tryz.sizeOf742
  v233 := Tryz.zeroValue742
  g15 := by kernel_rfl
  g16 := by kernel_rfl
  g17 := by kernel_rfl
  g18 := by kernel_rfl
  g19 := by kernel_rfl
  t80 := Tryz.underlying76
  a80 := Tryz.isAgg76
  z80 := Tryz.sizeOf76
  v80 := Tryz.zeroValue76
  i0 := by kernel_rfl
  i2 := by kernel_rfl
  i3 := by kernel_rfl
  i4 := by kernel_rfl
  i5 := by kernel_rfl
  i9 := by kernel_rfl
  i20 := by kernel_rfl
  i21 := by kernel_rfl
  i37 := by kernel_rfl
  i46 := by kernel_rfl
  i51 := by kernel_rfl
  i53 := by kernel_rfl
  i75 := by kernel_rfl
  i80 := by kernel_rfl
  i85 := by kernel_rfl
  i127 := by kernel_rfl
  i143 := by kernel_rfl
  i145 := by kernel_rfl
  i167 := by kernel_rfl
  i168 := by kernel_rfl
  i171 := by kernel_rfl
  i173 := by kernel_rfl
  i175 := by kernel_rfl
  i210 := by kernel_rfl
  i212 := by kernel_rfl
  i232 := by kernel_rfl
  i233 := by kernel_rfl
  m15 := by kernel_rfl
  m16 := by kernel_rfl
  m17 := by kernel_rfl
  m18 := by kernel_rfl
  m19 := by kernel_rfl
  c0 := by kernel_rfl
  c2 := by kernel_rfl
  c3 := by kernel_rfl
  c4 := by kernel_rfl
  c5 := by kernel_rfl
  c9 := by kernel_rfl
  c20 := by kernel_rfl
  c21 := by kernel_rfl
  c37 := by kernel_rfl
  c46 := by kernel_rfl
  c51 := by kernel_rfl
  c53 := by kernel_rfl
  c75 := by kernel_rfl
  c80 := by kernel_rfl
  c85 := by kernel_rfl
  c127 := by kernel_rfl
  c143 := by kernel_rfl
  c145 := by kernel_rfl
  c167 := by kernel_rfl
  c168 := by kernel_rfl
  c171 := by kernel_rfl
  c173 := by kernel_rfl
  c175 := by kernel_rfl
  c210 := by kernel_rfl
  c212 := by kernel_rfl
  c213 := by kernel_rfl
  c232 := by kernel_rfl
  c233 := by kernel_rfl }
theorem Tryz.strconv_ParseInt_10_at64_ok (s : ByteArray) (hmax : s.size ≤ 9223372036854775806) (v : Int) (h : Lib.parseIntB 64 s.data.toList = .ok v) (w : World) :
    Calls Tryz.prog 37 #[.string s, .int .i64 10, .int .i64 64] w fun e w' => e = .returned (.tuple #[.int .i64 v, .nilIface]) ∧ (w' = w ∨ ∃ t, w' = Lib.bytesWorld w 5 t) := Any.strconv_ParseInt_10_at64_ok Tryz.laysC174 s hmax v h w
theorem Tryz.strconv_ParseInt_10_at64_syntax (s : ByteArray) (hlim : s.size ≤ 281474976710656) (h : Lib.parseIntB 64 s.data.toList = Lib.NumEnd.syntax) (ev : Value) (w : World) (hv : w.cell? ⟨1, 0, none⟩ = some ev) (hev : ev = .nilIface ∨ ∃ te pe, ev = .iface te pe) :
    Calls Tryz.prog 37 #[.string s, .int .i64 10, .int .i64 64] w fun e w' => ∃ N, e = .returned (.tuple #[.int .i64 (0), .iface 290 (.pointer (some ⟨N, 0, none⟩))]) ∧ w.heap.size ≤ N ∧ w'.heap[N]? = some (.cells #[.string ⟨#[80, 97, 114, 115, 101, 73, 110, 116]⟩, .string s, ev] 412 (0, 0)) ∧ Below w.heap.size w w' := Any.strconv_ParseInt_10_at64_syntax Tryz.laysC174 s hlim h ev w hv hev
theorem Tryz.strconv_ParseInt_10_at64_range (s : ByteArray) (hlim : s.size ≤ 281474976710656) (h : Lib.parseIntB 64 s.data.toList = .range) (ev : Value) (w : World) (hv : w.cell? ⟨2, 0, none⟩ = some ev) (hev : ev = .nilIface ∨ ∃ te pe, ev = .iface te pe) :
    Calls Tryz.prog 37 #[.string s, .int .i64 10, .int .i64 64] w fun e w' => ∃ N, e = .returned (.tuple #[.int .i64 (Lib.intSat 64 s.data.toList), .iface 290 (.pointer (some ⟨N, 0, none⟩))]) ∧ w.heap.size ≤ N ∧ w'.heap[N]? = some (.cells #[.string ⟨#[80, 97, 114, 115, 101, 73, 110, 116]⟩, .string s, ev] 412 (0, 0)) ∧ Below w.heap.size w w' := Any.strconv_ParseInt_10_at64_range Tryz.laysC174 s hlim h ev w hv hev
def Tryz.laysPu14_ren : Go.Shelf.Ren := ⟨fun | 14 => 35 | 16 => 75 | 17 => 76 | 19 => 147 | 20 => 148 | 21 => 149 | 22 => 150 | 23 => 151 | 24 => 152 | 25 => 252 | 27 => 56 | 26 => 253 | 28 => 97 | 29 => 182 | 30 => 242 | 31 => 243 | 32 => 244 | 33 => 245 | 35 => 355 | 34 => 354 | 36 => 356 | 37 => 357 | 38 => 358 | 39 => 472 | 40 => 473 | n => n, fun | 9 => 9 | 3 => 3 | 22 => 26 | 24 => 73 | 25 => 123 | 4 => 4 | 34 => 287 | 5 => 5 | 36 => 77 | 37 => 67 | 0 => 0 | 39 => 290 | 21 => 21 | 44 => 412 | 47 => 133 | 50 => 534 | 48 => 532 | 2 => 2 | 52 => 404 | 55 => 407 | 59 => 526 | 60 => 134 | 20 => 20 | 61 => 527 | 65 => 29 | 66 => 742 | 67 => 76 | n => n, fun | 0 => 1 | 1 => 2 | 2 => 3 | 3 => 6 | 4 => 7 | n => n⟩
theorem Tryz.laysPu14 : Go.Proofs.LaysPu.n14 Tryz.prog Tryz.laysPu14_ren := {
  mixed := by kernel_rfl
  f14 := Tryz.func35.trans (congrArg some (by kernel_rfl))
  f16 := Tryz.func75.trans (congrArg some (by kernel_rfl))
  f17 := Tryz.func76.trans (congrArg some (by kernel_rfl))
  f19 := Tryz.func147.trans (congrArg some (by kernel_rfl))
  f20 := Tryz.func148.trans (congrArg some (by kernel_rfl))
  f21 := Tryz.func149.trans (congrArg some (by kernel_rfl))
  f22 := Tryz.func150.trans (congrArg some (by kernel_rfl))
  f23 := Tryz.func151.trans (congrArg some (by kernel_rfl))
  f24 := Tryz.func152.trans (congrArg some (by kernel_rfl))
  f25 := Tryz.func252.trans (congrArg some (by kernel_rfl))
  f26 := Tryz.func253.trans (congrArg some (by kernel_rfl))
  f27 := Tryz.func56.trans (congrArg some (by kernel_rfl))
  f28 := Tryz.func97.trans (congrArg some (by kernel_rfl))
  f29 := Tryz.func182.trans (congrArg some (by kernel_rfl))
  f30 := Tryz.func242.trans (congrArg some (by kernel_rfl))
  f31 := Tryz.func243.trans (congrArg some (by kernel_rfl))
  f32 := Tryz.func244.trans (congrArg some (by kernel_rfl))
  f33 := Tryz.func245.trans (congrArg some (by kernel_rfl))
  f34 := Tryz.func354.trans (congrArg some (by kernel_rfl))
  f35 := Tryz.func355.trans (congrArg some (by kernel_rfl))
  f36 := Tryz.func356.trans (congrArg some (by kernel_rfl))
  f37 := Tryz.func357.trans (congrArg some (by kernel_rfl))
  f38 := Tryz.func358.trans (congrArg some (by kernel_rfl))
  f39 := Tryz.func472.trans (congrArg some (by kernel_rfl))
  f40 := Tryz.func473.trans (congrArg some (by kernel_rfl))
  t0 := Tryz.underlying0
  a0 := Tryz.isAgg0
  z0 := Tryz.sizeOf0
  v0 := Tryz.zeroValue0
  i0 := by kernel_rfl
  t2 := Tryz.underlying2
  a2 := Tryz.isAgg2
  z2 := Tryz.sizeOf2
  v2 := Tryz.zeroValue2
  i2 := by kernel_rfl
  t3 := Tryz.underlying3
  a3 := Tryz.isAgg3
  z3 := Tryz.sizeOf3
  v3 := Tryz.zeroValue3
  i3 := by kernel_rfl
  t4 := Tryz.underlying4
  a4 := Tryz.isAgg4
  z4 := Tryz.sizeOf4
  v4 := Tryz.zeroValue4
  i4 := by kernel_rfl
  t5 := Tryz.underlying5
  a5 := Tryz.isAgg5
  z5 := Tryz.sizeOf5
  v5 := Tryz.zeroValue5
  i5 := by kernel_rfl
  t9 := Tryz.underlying9
  a9 := Tryz.isAgg9
  z9 := Tryz.sizeOf9
  v9 := Tryz.zeroValue9
  i9 := by kernel_rfl
  t20 := Tryz.underlying20
  a20 := Tryz.isAgg20
  z20 := Tryz.sizeOf20
  v20 := Tryz.zeroValue20
  i20 := by kernel_rfl
  t21 := Tryz.underlying21
  a21 := Tryz.isAgg21
  z21 := Tryz.sizeOf21
  v21 := Tryz.zeroValue21
  i21 := by kernel_rfl
  t22 := Tryz.underlying26
  a22 := Tryz.isAgg26
  z22 := Tryz.sizeOf26
  v22 := Tryz.zeroValue26
  i22 := by kernel_rfl
  t24 := Tryz.underlying73
  a24 := Tryz.isAgg73
  z24 := Tryz.sizeOf73
  v24 := Tryz.zeroValue73
  i24 := by kernel_rfl
  t25 := Tryz.underlying123
  a25 := Tryz.isAgg123
  z25 := Tryz.sizeOf123
  v25 := Tryz.zeroValue123
  i25 := by kernel_rfl
  t34 := Tryz.underlying287
  a34 := Tryz.isAgg287
  z34 := Tryz.sizeOf287
  v34 := Tryz.zeroValue287
  i34 := by kernel_rfl
  c34 := by kernel_rfl
  t36 := Tryz.underlying77
  a36 := Tryz.isAgg77
  z36 := Tryz.sizeOf77
  v36 := Tryz.zeroValue77
  i36 := by kernel_rfl
  t37 := Tryz.underlying67
  a37 := Tryz.isAgg67
  z37 := Tryz.sizeOf67
  v37 := Tryz.zeroValue67
  i37 := by kernel_rfl
  t39 := Tryz.underlying290
  a39 := Tryz.isAgg290
  z39 := Tryz.sizeOf290
  v39 := Tryz.zeroValue290
  i39 := by kernel_rfl
  t44 := Tryz.underlying412
  a44 := Tryz.isAgg412
  z44 := Tryz.sizeOf412
  v44 := Tryz.zeroValue412
  i44 := by kernel_rfl
  t47 := Tryz.underlying133
  a47 := Tryz.isAgg133
  z47 := Tryz.sizeOf133
  v47 := Tryz.zeroValue133
  i47 := by kernel_rfl
  t48 := Tryz.underlying532
  a48 := Tryz.isAgg532
  z48 := Tryz.sizeOf532
  v48 := Tryz.zeroValue532
  i48 := by kernel_rfl
  t50 := Tryz.underlying534
  a50 := Tryz.isAgg534
  z50 := Tryz.sizeOf534
  v50 := Tryz.zeroValue534
  i50 := by kernel_rfl
  t52 := Tryz.underlying404
  a52 := Tryz.isAgg404
  z52 := Tryz.sizeOf404
  v52 := Tryz.zeroValue404
  i52 := by kernel_rfl
  t55 := Tryz.underlying407
  a55 := Tryz.isAgg407
  z55 := Tryz.sizeOf407
  v55 := Tryz.zeroValue407
  i55 := by kernel_rfl
  t59 := Tryz.underlying526
  a59 := Tryz.isAgg526
  z59 := Tryz.sizeOf526
  v59 := Tryz.zeroValue526
  i59 := by kernel_rfl
  t60 := Tryz.underlying134
  a60 := Tryz.isAgg134
  z60 := Tryz.sizeOf134
  v60 := Tryz.zeroValue134
  i60 := by kernel_rfl
  t61 := Tryz.underlying527
  a61 := Tryz.isAgg527
  z61 := Tryz.sizeOf527
  t65 := Tryz.underlying29
  a65 := Tryz.isAgg29
  z65 := Tryz.sizeOf29
  v65 := Tryz.zeroValue29
  i65 := by kernel_rfl
  t66 := Tryz.underlying742
  a66 := Tryz.isAgg742
  z66 := Tryz.sizeOf742
  v66 := Tryz.zeroValue742
  i66 := by kernel_rfl
  t67 := Tryz.underlying76
  a67 := Tryz.isAgg76
  z67 := Tryz.sizeOf76
  v67 := Tryz.zeroValue76
  i67 := by kernel_rfl
  g0 := by kernel_rfl
  m0 := by kernel_rfl
  g1 := by kernel_rfl
  m1 := by kernel_rfl
  g2 := by kernel_rfl
  m2 := by kernel_rfl
  g3 := by kernel_rfl
  m3 := by kernel_rfl
  g4 := by kernel_rfl
  m4 := by kernel_rfl }
theorem Tryz.strconv_ParseUint_10_at64_ok (s : ByteArray) (hmax : s.size ≤ 9223372036854775806) (u : Nat) (h : Lib.parseUintB 64 s.data.toList = .ok u) (w : World) :
    Calls Tryz.prog 35 #[.string s, .int .i64 10, .int .i64 64] w fun e w' => e = .returned (.tuple #[.int .u64 u, .nilIface]) ∧ (w' = w ∨ w' = Lib.bytesWorld w 5 s) := Any.strconv_ParseUint_10_at64_ok Tryz.laysPu14 s hmax u h w
theorem Tryz.strconv_ParseUint_10_at64_syntax (s : ByteArray) (hlim : s.size ≤ 281474976710656) (h : Lib.parseUintB 64 s.data.toList = Lib.NumEnd.syntax) (ev : Value) (w : World) (hv : w.cell? ⟨1, 0, none⟩ = some ev) (hev : ev = .nilIface ∨ ∃ te pe, ev = .iface te pe) :
    Calls Tryz.prog 35 #[.string s, .int .i64 10, .int .i64 64] w fun e w' => ∃ N, e = .returned (.tuple #[.int .u64 0, .iface 290 (.pointer (some ⟨N, 0, none⟩))]) ∧ w.heap.size ≤ N ∧ w'.heap[N]? = some (.cells #[.string ⟨#[80, 97, 114, 115, 101, 85, 105, 110, 116]⟩, .string s, ev] 412 (0, 0)) ∧ Below w.heap.size w w' := Any.strconv_ParseUint_10_at64_syntax Tryz.laysPu14 s hlim h ev w hv hev
theorem Tryz.strconv_ParseUint_10_at64_range (s : ByteArray) (hlim : s.size ≤ 281474976710656) (h : Lib.parseUintB 64 s.data.toList = .range) (ev : Value) (w : World) (hv : w.cell? ⟨2, 0, none⟩ = some ev) (hev : ev = .nilIface ∨ ∃ te pe, ev = .iface te pe) :
    Calls Tryz.prog 35 #[.string s, .int .i64 10, .int .i64 64] w fun e w' => ∃ N, e = .returned (.tuple #[.int .u64 18446744073709551615, .iface 290 (.pointer (some ⟨N, 0, none⟩))]) ∧ w.heap.size ≤ N ∧ w'.heap[N]? = some (.cells #[.string ⟨#[80, 97, 114, 115, 101, 85, 105, 110, 116]⟩, .string s, ev] 412 (0, 0)) ∧ Below w.heap.size w w' := Any.strconv_ParseUint_10_at64_range Tryz.laysPu14 s hlim h ev w hv hev
def Tryz.lays145_ren : Go.Shelf.Ren := ⟨fun | 145 => 33 | 220 => 73 | 219 => 139 | 217 => 153 | 225 => 246 | 224 => 247 | 267 => 248 | 266 => 254 | 314 => 359 | n => n, fun | 9 => 9 | 4 => 4 | 59 => 120 | 3 => 3 | 5 => 5 | 46 => 77 | 146 => 135 | 51 => 134 | n => n, fun | 1 => 0 | n => n⟩
theorem Tryz.lays145 : Go.Proofs.Lays.n145 Tryz.prog Tryz.lays145_ren := {
  mixed := by kernel_rfl
  f145 := Tryz.func33.trans (congrArg some (by kernel_rfl))
  f217 := Tryz.func153.trans (congrArg some (by kernel_rfl))
  f219 := Tryz.func139.trans (congrArg some (by kernel_rfl))
  f220 := Tryz.func73.trans (congrArg some (by kernel_rfl))
  f224 := Tryz.func247.trans (congrArg some (by kernel_rfl))
  f225 := Tryz.func246.trans (congrArg some (by kernel_rfl))
  f266 := Tryz.func254.trans (congrArg some (by kernel_rfl))
  f267 := Tryz.func248.trans (congrArg some (by kernel_rfl))
  f314 := Tryz.func359.trans (congrArg some (by kernel_rfl))
  t3 := Tryz.underlying3
  a3 := Tryz.isAgg3
  z3 := Tryz.sizeOf3
  v3 := Tryz.zeroValue3
  t4 := Tryz.underlying4
  a4 := Tryz.isAgg4
  z4 := Tryz.sizeOf4
  v4 := Tryz.zeroValue4
  t5 := Tryz.underlying5
  a5 := Tryz.isAgg5
  z5 := Tryz.sizeOf5
  v5 := Tryz.zeroValue5
  t9 := Tryz.underlying9
  a9 := Tryz.isAgg9
  z9 := Tryz.sizeOf9
  v9 := Tryz.zeroValue9
  t46 := Tryz.underlying77
  a46 := Tryz.isAgg77
  z46 := Tryz.sizeOf77
  v46 := Tryz.zeroValue77
  t51 := Tryz.underlying134
  a51 := Tryz.isAgg134
  z51 := Tryz.sizeOf134
  v51 := Tryz.zeroValue134
  t59 := Tryz.underlying120
  a59 := Tryz.isAgg120
  z59 := Tryz.sizeOf120
  v59 := Tryz.zeroValue120
  t146 := Tryz.underlying135
  a146 := Tryz.isAgg135
  z146 := Tryz.sizeOf135
  v146 := Tryz.zeroValue135
  g1 := by kernel_rfl }
theorem Tryz.strings_Cut (s sep : ByteArray) (m : Int) (w : World) (hs : s.size < 4294967281) (hm : w.cell? ⟨0, 0, none⟩ = some (.int .i64 m)) :
    Calls Tryz.prog 33 #[.string s, .string sep] w fun e w' => e = .returned (.tuple #[.string ⟨(Lib.cut s.data.toList sep.data.toList).1.toArray⟩, .string ⟨(Lib.cut s.data.toList sep.data.toList).2.1.toArray⟩, .bool (Lib.cut s.data.toList sep.data.toList).2.2]) ∧ ∃ n, w' = w.drewN n := Any.strings_Cut Tryz.lays145 s sep m w hs hm
def Tryz.lays146_ren : Go.Shelf.Ren := ⟨fun | 146 => 18 | 221 => 43 | 268 => 92 | 138 => 93 | 143 => 94 | 195 => 179 | 197 => 180 | 218 => 181 | 219 => 139 | 260 => 291 | 217 => 153 | 225 => 246 | 224 => 247 | 267 => 248 | 266 => 254 | 314 => 359 | n => n, fun | 9 => 9 | 31 => 70 | 3 => 3 | 4 => 4 | 0 => 0 | 105 => 326 | 21 => 21 | 5 => 5 | 46 => 77 | 119 => 563 | 139 => 566 | 138 => 565 | 146 => 135 | 51 => 134 | n => n, fun | 1 => 0 | 3 => 4 | 4 => 5 | n => n⟩
theorem Tryz.lays146 : Go.Proofs.Lays.n146 Tryz.prog Tryz.lays146_ren := {
  mixed := by kernel_rfl
  f138 := Tryz.func93.trans (congrArg some (by kernel_rfl))
  f143 := Tryz.func94.trans (congrArg some (by kernel_rfl))
  f146 := Tryz.func18.trans (congrArg some (by kernel_rfl))
  f195 := Tryz.func179.trans (congrArg some (by kernel_rfl))
  f197 := Tryz.func180.trans (congrArg some (by kernel_rfl))
  f217 := Tryz.func153.trans (congrArg some (by kernel_rfl))
  f218 := Tryz.func181.trans (congrArg some (by kernel_rfl))
  f219 := Tryz.func139.trans (congrArg some (by kernel_rfl))
  f221 := Tryz.func43.trans (congrArg some (by kernel_rfl))
  f224 := Tryz.func247.trans (congrArg some (by kernel_rfl))
  f225 := Tryz.func246.trans (congrArg some (by kernel_rfl))
  f260 := Tryz.func291.trans (congrArg some (by kernel_rfl))
  f266 := Tryz.func254.trans (congrArg some (by kernel_rfl))
  f267 := Tryz.func248.trans (congrArg some (by kernel_rfl))
  f268 := Tryz.func92.trans (congrArg some (by kernel_rfl))
  f314 := Tryz.func359.trans (congrArg some (by kernel_rfl))
  t0 := Tryz.underlying0
  a0 := Tryz.isAgg0
  z0 := Tryz.sizeOf0
  v0 := Tryz.zeroValue0
  t3 := Tryz.underlying3
  a3 := Tryz.isAgg3
  z3 := Tryz.sizeOf3
  v3 := Tryz.zeroValue3
  t4 := Tryz.underlying4
  a4 := Tryz.isAgg4
  z4 := Tryz.sizeOf4
  v4 := Tryz.zeroValue4
  t5 := Tryz.underlying5
  a5 := Tryz.isAgg5
  z5 := Tryz.sizeOf5
  v5 := Tryz.zeroValue5
  t9 := Tryz.underlying9
  a9 := Tryz.isAgg9
  z9 := Tryz.sizeOf9
  v9 := Tryz.zeroValue9
  t21 := Tryz.underlying21
  a21 := Tryz.isAgg21
  z21 := Tryz.sizeOf21
  v21 := Tryz.zeroValue21
  t31 := Tryz.underlying70
  a31 := Tryz.isAgg70
  z31 := Tryz.sizeOf70
  v31 := Tryz.zeroValue70
  t46 := Tryz.underlying77
  a46 := Tryz.isAgg77
  z46 := Tryz.sizeOf77
  v46 := Tryz.zeroValue77
  t51 := Tryz.underlying134
  a51 := Tryz.isAgg134
  z51 := Tryz.sizeOf134
  v51 := Tryz.zeroValue134
  t105 := Tryz.underlying326
  a105 := Tryz.isAgg326
  z105 := Tryz.sizeOf326
  v105 := Tryz.zeroValue326
  t119 := Tryz.underlying563
  a119 := Tryz.isAgg563
  z119 := Tryz.sizeOf563
  t138 := Tryz.underlying565
  a138 := Tryz.isAgg565
  z138 := Tryz.sizeOf565
  v138 := Tryz.zeroValue565
  t139 := Tryz.underlying566
  a139 := Tryz.isAgg566
  z139 := Tryz.sizeOf566
  v139 := Tryz.zeroValue566
  t146 := Tryz.underlying135
  a146 := Tryz.isAgg135
  z146 := Tryz.sizeOf135
  v146 := Tryz.zeroValue135
  g1 := by kernel_rfl
  g3 := by kernel_rfl
  g4 := by kernel_rfl }
theorem Tryz.strings_Split (s sep : ByteArray) (m : Int) (w : World) (hs : s.size < 4294967281) (hm : w.cell? ⟨0, 0, none⟩ = some (.int .i64 m)) (h1 : 1 ≤ sep.size) :
    Calls Tryz.prog 18 #[.string s, .string sep] w fun e w' =>
      e = .returned (.slice (some ⟨w.heap.size, 0, none⟩) (Lib.countB s sep + 1) (Lib.countB s sep + 1)) ∧ w' = w.alloc (.cells ((Lib.splitB sep 0 (Lib.countB s sep) s).map Value.string).toArray 9) := Any.strings_Split Tryz.lays146 (by kernel_rfl) s sep m w hs hm h1
def Tryz.lays105_ren : Go.Shelf.Ren := ⟨fun | 105 => 9 | 212 => 21 | 99 => 22 | 165 => 23 | 166 => 19 | 170 => 24 | 169 => 20 | 263 => 45 | 264 => 46 | 206 => 47 | 240 => 44 | 241 => 48 | 276 => 95 | 277 => 96 | n => n, fun | 9 => 9 | 3 => 3 | 4 => 4 | 20 => 20 | 0 => 0 | 46 => 77 | 109 => 78 | 5 => 5 | 72 => 69 | 76 => 74 | 51 => 134 | 146 => 135 | 53 => 26 | 148 => 137 | 70 => 66 | 37 => 67 | 75 => 73 | 127 => 133 | 164 => 201 | 80 => 76 | n => n, fun | n => n⟩
theorem Tryz.lays105 : Go.Proofs.Lays.n105 Tryz.prog Tryz.lays105_ren := {
  mixed := by kernel_rfl
  f99 := Tryz.func22.trans (congrArg some (by kernel_rfl))
  f105 := Tryz.func9.trans (congrArg some (by kernel_rfl))
  f165 := Tryz.func23.trans (congrArg some (by kernel_rfl))
  f166 := Tryz.func19.trans (congrArg some (by kernel_rfl))
  f169 := Tryz.func20.trans (congrArg some (by kernel_rfl))
  f170 := Tryz.func24.trans (congrArg some (by kernel_rfl))
  f206 := Tryz.func47.trans (congrArg some (by kernel_rfl))
  f212 := Tryz.func21.trans (congrArg some (by kernel_rfl))
  f240 := Tryz.func44.trans (congrArg some (by kernel_rfl))
  f241 := Tryz.func48.trans (congrArg some (by kernel_rfl))
  f263 := Tryz.func45.trans (congrArg some (by kernel_rfl))
  f264 := Tryz.func46.trans (congrArg some (by kernel_rfl))
  f276 := Tryz.func95.trans (congrArg some (by kernel_rfl))
  f277 := Tryz.func96.trans (congrArg some (by kernel_rfl))
  t0 := Tryz.underlying0
  a0 := Tryz.isAgg0
  z0 := Tryz.sizeOf0
  v0 := Tryz.zeroValue0
  t3 := Tryz.underlying3
  a3 := Tryz.isAgg3
  z3 := Tryz.sizeOf3
  v3 := Tryz.zeroValue3
  t4 := Tryz.underlying4
  a4 := Tryz.isAgg4
  z4 := Tryz.sizeOf4
  v4 := Tryz.zeroValue4
  t5 := Tryz.underlying5
  a5 := Tryz.isAgg5
  z5 := Tryz.sizeOf5
  v5 := Tryz.zeroValue5
  t9 := Tryz.underlying9
  a9 := Tryz.isAgg9
  z9 := Tryz.sizeOf9
  v9 := Tryz.zeroValue9
  t20 := Tryz.underlying20
  a20 := Tryz.isAgg20
  z20 := Tryz.sizeOf20
  v20 := Tryz.zeroValue20
  t37 := Tryz.underlying67
  a37 := Tryz.isAgg67
  z37 := Tryz.sizeOf67
  v37 := Tryz.zeroValue67
  t46 := Tryz.underlying77
  a46 := Tryz.isAgg77
  z46 := Tryz.sizeOf77
  v46 := Tryz.zeroValue77
  t51 := Tryz.underlying134
  a51 := Tryz.isAgg134
  z51 := Tryz.sizeOf134
  v51 := Tryz.zeroValue134
  t53 := Tryz.underlying26
  a53 := Tryz.isAgg26
  z53 := Tryz.sizeOf26
  v53 := Tryz.zeroValue26
  t70 := Tryz.underlying66
  a70 := Tryz.isAgg66
  z70 := Tryz.sizeOf66
  v70 := Tryz.zeroValue66
  t72 := Tryz.underlying69
  a72 := Tryz.isAgg69
  z72 := Tryz.sizeOf69
  v72 := Tryz.zeroValue69
  t75 := Tryz.underlying73
  a75 := Tryz.isAgg73
  z75 := Tryz.sizeOf73
  v75 := Tryz.zeroValue73
  t76 := Tryz.underlying74
  a76 := Tryz.isAgg74
  z76 := Tryz.sizeOf74
  v76 := Tryz.zeroValue74
  t109 := Tryz.underlying78
  a109 := Tryz.isAgg78
  z109 := Tryz.sizeOf78
  v109 := Tryz.zeroValue78
  t127 := Tryz.underlying133
  a127 := Tryz.isAgg133
  z127 := Tryz.sizeOf133
  v127 := Tryz.zeroValue133
  t146 := Tryz.underlying135
  a146 := Tryz.isAgg135
  z146 := Tryz.sizeOf135
  v146 := Tryz.zeroValue135
  t148 := Tryz.underlying137
  a148 := Tryz.isAgg137
  z148 := Tryz.sizeOf137
  v148 := Tryz.zeroValue137
  t164 := Tryz.underlying201
  a164 := Tryz.isAgg201
  z164 := Tryz.sizeOf201
  v164 := Tryz.zeroValue201 }
theorem Tryz.Builder_Extra_105 : Builder.Extra Tryz.prog Tryz.lays105_ren := {
  sizeBuilder := by kernel_rfl
  liesBuilder := by kernel_rfl
  t5 := Tryz.underlying5
  a5 := Tryz.isAgg5
  z5 := Tryz.sizeOf5
  v5 := Tryz.zeroValue5
  infoByte := by kernel_rfl
  cellsByte := by kernel_rfl
  sizeByte := by kernel_rfl
  neB5 := by decide }
theorem Tryz.strings_Repeat (s : ByteArray) (c : Nat) (w : World) (hc : c ≤ 9223372036854775807) (hlen : s.size * c ≤ 140737488355328) :
    Calls Tryz.prog 9 #[.string s, .int .i64 c] w fun e w' => e = .returned (.string ⟨(Lib.repeatL s.data.toList c).toArray⟩) ∧ Below w.heap.size w w' := Any.strings_Repeat Tryz.lays105 Tryz.Builder_Extra_105 s c w hc hlen
end Go.Proofs

/-
  What the hints know of the library's functions is so: by the shelf's contracts.
-/
namespace Go.Ab.Dk
open Go Go.Proofs Go.Ab Go.RowKit
set_option maxRecDepth 100000
variable {H : Hints}
theorem rep_ok : PrimA Tryz.prog H 9 repPrim := by
  refine primA ⟨_, _, Tryz.func9, rfl, by kernel_rfl⟩ fun args d hd base fl E st w vs hg hr hR => ?_
  unfold repPrim at hd
  split at hd <;> (try contradiction)
  rename_i s c
  split at hd <;> (try contradiction)
  rename_i hc
  injection hd with hd
  subst hd
  obtain ⟨v0, us, rfl, r0, R1⟩ := hR.cons_inv
  obtain ⟨v1, us, rfl, r1, R2⟩ := R1.cons_inv
  cases R2.nil_inv
  cases r0
  cases r1
  obtain ⟨n, rfl⟩ : ∃ n : Nat, c = n := ⟨c.toNat, by omega⟩
  refine (Tryz.strings_Repeat ⟨s.toArray⟩ n w (by omega) (by have := hc.2.2; simpa [ByteArray.size] using this)).mono ?_
  rintro e w' ⟨rfl, b⟩
  refine ⟨_, rfl, b, ?_⟩
  rw [repB_lib]
  exact .str _
theorem cut_ok : PrimA Tryz.prog H 33 cutD := by
  refine primA ⟨_, _, Tryz.func33, rfl, by kernel_rfl⟩ fun args d hd base fl E st w vs hg hr hR => ?_
  unfold cutD at hd
  split at hd <;> (try contradiction)
  rename_i s sep
  split at hd <;> (try contradiction)
  rename_i hc
  injection hd with hd
  subst hd
  obtain ⟨v0, us, rfl, r0, R1⟩ := hR.cons_inv
  obtain ⟨v1, us, rfl, r1, R2⟩ := R1.cons_inv
  cases R2.nil_inv
  cases r0
  cases r1
  obtain ⟨m, hm⟩ := at_max hg hr
  refine (Tryz.strings_Cut ⟨s.toArray⟩ ⟨sep.toArray⟩ m w (by rw [size_str]; exact hc) hm).mono ?_
  rintro e w' ⟨rfl, n, rfl⟩
  exact ⟨_, rfl, below_drewN _ _, rel_cut s sep⟩
theorem split_ok : PrimA Tryz.prog H 18 splitD := by
  refine primA ⟨_, _, Tryz.func18, rfl, by kernel_rfl⟩ fun args d hd base fl E st w vs hg hr hR => ?_
  unfold splitD at hd
  split at hd <;> (try contradiction)
  rename_i s sep
  split at hd <;> (try contradiction)
  rename_i hc
  injection hd with hd
  subst hd
  obtain ⟨v0, us, rfl, r0, R1⟩ := hR.cons_inv
  obtain ⟨v1, us, rfl, r1, R2⟩ := R1.cons_inv
  cases R2.nil_inv
  cases r0
  cases r1
  obtain ⟨m, hm⟩ := at_max hg hr
  refine (Tryz.strings_Split ⟨s.toArray⟩ ⟨sep.toArray⟩ m w (by rw [size_str]; exact hc.1) hm (by rw [size_str]; exact hc.2)).mono ?_
  rintro e w' ⟨rfl, rfl⟩
  refine ⟨_, rfl, (Below.refl _ _).alloc (Nat.le_refl _) _, ?_⟩
  have := rel_split hr s sep 9
  rw [← len_split s sep hc.2]
  exact this
theorem join_ok : PrimA Tryz.prog H 70 joinD := by
  refine primA ⟨_, _, Tryz.func70, rfl, by kernel_rfl⟩ fun args d hd base fl E st w vs hg hr hR => ?_
  unfold joinD at hd
  split at hd <;> (try contradiction)
  rename_i n cs tip sep
  simp only [Option.bind_eq_some_iff] at hd
  obtain ⟨l, hl, hd⟩ := hd
  split at hd <;> (try contradiction)
  rename_i hc
  obtain ⟨rfl, h1, h2⟩ := hc
  injection hd with hd
  subst hd
  have hcs := strs_inv hl
  subst hcs
  obtain ⟨v0, us, rfl, r0, R1⟩ := hR.cons_inv
  obtain ⟨v1, us, rfl, r1, R2⟩ := R1.cons_inv
  cases R2.nil_inv
  cases r1
  cases r0 with
  | list _ _ _ a cap vs hvl hn ha ht h =>
  have hvs := rel_strs hvl h
  subst hvs
  cases l with
  | nil =>
    refine (Tryz.strings_Join_none a cap ⟨sep.toArray⟩ w).mono ?_
    rintro e w' ⟨rfl, rfl⟩
    exact ⟨_, rfl, Below.refl _ _, .str _⟩
  | cons x l =>
    obtain ⟨b, o, rfl, hst⟩ := ha (by simp)
    have hx := hst 0 (by simp)
    have e1 : ((x :: l).map fun s => (⟨s.toArray⟩ : ByteArray)).map (·.data.toList) = x :: l := by
      rw [List.map_map]
      exact List.map_id (x :: l)
    have e2 : ((x :: l).map fun s => (⟨s.toArray⟩ : ByteArray)).length = (x :: l).length := by simp
    have hc := Tryz.strings_Join b o cap ((x :: l).map fun s => ⟨s.toArray⟩) ⟨sep.toArray⟩ w (fun j y hy => by
      simp only [List.getElem?_map, Option.map_eq_some_iff] at hy
      obtain ⟨z, hz, rfl⟩ := hy
      obtain ⟨hj, rfl⟩ := List.getElem?_eq_some_iff.1 hz
      have := (hst j (by simpa using hj)).1
      rw [List.getElem_map] at this
      exact this) (cell_lt hx.1) (by rw [e2]; exact h1) (by rw [e2]; exact hn) (by rw [e1]; exact h2)
    rw [e1, e2] at hc
    refine hc.mono ?_
    rintro e w' ⟨rfl, hb⟩
    exact ⟨_, rfl, hb, .str _⟩
theorem itoa_ok : PrimA Tryz.prog H 56 itoaD := by
  refine primA ⟨_, _, Tryz.func56, rfl, by kernel_rfl⟩ fun args d hd base fl E st w vs hg hr hR => ?_
  unfold itoaD at hd
  split at hd <;> (try contradiction)
  rename_i n
  split at hd <;> (try contradiction)
  rename_i hc
  injection hd with hd
  subst hd
  obtain ⟨v0, us, rfl, r0, R1⟩ := hR.cons_inv
  cases R1.nil_inv
  cases r0
  refine (Tryz.strconv_Itoa n hc.1 hc.2 w (at_tab (by kernel_rfl) hg hr)).mono ?_
  rintro e w' ⟨rfl, k, os, rfl⟩
  refine ⟨_, rfl, below_grow _ _ _, ?_⟩
  rw [itoa_eq n hc.1 hc.2]
  exact .str _
theorem numDig_ok : PrimA Tryz.prog H 243 numDigD := by
  refine primA ⟨_, _, Tryz.func243, rfl, by kernel_rfl⟩ fun args d hd base fl E st w vs hg hr hR => ?_
  unfold numDigD at hd
  split at hd <;> (try contradiction)
  rename_i n
  split at hd <;> (try contradiction)
  rename_i hc
  injection hd with hd
  subst hd
  obtain ⟨v0, us, rfl, r0, R1⟩ := hR.cons_inv
  cases R1.nil_inv
  cases r0
  obtain ⟨u, rfl⟩ : ∃ u : Nat, n = u := ⟨n.toNat, by omega⟩
  refine (Tryz.internal_strconv_numDigits u (by omega) (by omega) w (at_tab (by kernel_rfl) hg hr)).mono ?_
  rintro e w' ⟨rfl, rfl⟩
  refine ⟨_, rfl, Below.refl _ _, ?_⟩
  have hl : (digs (u : Int).toNat).length = Lib.nDigits u := by
    unfold digs
    rw [digF_len 20 _ [] (by omega) (by decide)]
    simp
  rw [hl]
  exact .int _ _
theorem puint_ok : PrimA Tryz.prog H 35 puintD := by
  refine primA ⟨_, _, Tryz.func35, rfl, by kernel_rfl⟩ fun args d hd base fl E st w vs hg hr hR => ?_
  unfold puintD at hd
  split at hd <;> (try contradiction)
  rename_i s b z
  split at hd <;> (try contradiction)
  rename_i hc
  obtain ⟨rfl, rfl, hs⟩ := hc
  injection hd with hd
  obtain ⟨v0, us, rfl, r0, R1⟩ := hR.cons_inv
  obtain ⟨v1, us, rfl, r1, R2⟩ := R1.cons_inv
  obtain ⟨v2, us, rfl, r2, R3⟩ := R2.cons_inv
  cases R3.nil_inv
  cases r0
  cases r1
  cases r2
  have hz := size_str s
  split at hd
  · rename_i u hu
    subst hd
    refine (Tryz.strconv_ParseUint_10_at64_ok ⟨s.toArray⟩ (by omega) u hu w).mono ?_
    rintro e w' ⟨rfl, hw⟩
    refine ⟨_, rfl, ?_, rel_two (.int _ _) .ifn⟩
    rcases hw with rfl | rfl
    · exact Below.refl _ _
    · exact Lib.bytesWorld_below _ _ _
  · rename_i hu
    subst hd
    obtain ⟨tp, p, hv⟩ := at_err1 hg hr
    refine (Tryz.strconv_ParseUint_10_at64_syntax ⟨s.toArray⟩ (by omega) hu (.iface tp p) w hv (.inr ⟨tp, p, rfl⟩)).mono ?_
    rintro e w' ⟨N, rfl, _, _, hb⟩
    exact ⟨_, rfl, hb, rel_two (.int _ _) (.ifs _ _)⟩
  · rename_i hu
    subst hd
    obtain ⟨tp, p, hv⟩ := at_err2 hg hr
    refine (Tryz.strconv_ParseUint_10_at64_range ⟨s.toArray⟩ (by omega) hu (.iface tp p) w hv (.inr ⟨tp, p, rfl⟩)).mono ?_
    rintro e w' ⟨N, rfl, _, _, hb⟩
    exact ⟨_, rfl, hb, rel_two (.int _ _) (.ifs _ _)⟩
theorem pint_ok : PrimA Tryz.prog H 37 pintD := by
  refine primA ⟨_, _, Tryz.func37, rfl, by kernel_rfl⟩ fun args d hd base fl E st w vs hg hr hR => ?_
  unfold pintD at hd
  split at hd <;> (try contradiction)
  rename_i s b z
  split at hd <;> (try contradiction)
  rename_i hc
  obtain ⟨rfl, rfl, hs⟩ := hc
  injection hd with hd
  obtain ⟨v0, us, rfl, r0, R1⟩ := hR.cons_inv
  obtain ⟨v1, us, rfl, r1, R2⟩ := R1.cons_inv
  obtain ⟨v2, us, rfl, r2, R3⟩ := R2.cons_inv
  cases R3.nil_inv
  cases r0
  cases r1
  cases r2
  have hz := size_str s
  split at hd
  · rename_i u hu
    subst hd
    refine (Tryz.strconv_ParseInt_10_at64_ok ⟨s.toArray⟩ (by omega) u hu w).mono ?_
    rintro e w' ⟨rfl, hw⟩
    refine ⟨_, rfl, ?_, rel_two (.int _ _) .ifn⟩
    rcases hw with rfl | ⟨t, rfl⟩
    · exact Below.refl _ _
    · exact Lib.bytesWorld_below _ _ _
  · rename_i hu
    subst hd
    obtain ⟨tp, p, hv⟩ := at_err1 hg hr
    refine (Tryz.strconv_ParseInt_10_at64_syntax ⟨s.toArray⟩ (by omega) hu (.iface tp p) w hv (.inr ⟨tp, p, rfl⟩)).mono ?_
    rintro e w' ⟨N, rfl, _, _, hb⟩
    exact ⟨_, rfl, hb, rel_two (.int _ _) (.ifs _ _)⟩
  · rename_i hu
    subst hd
    obtain ⟨tp, p, hv⟩ := at_err2 hg hr
    refine (Tryz.strconv_ParseInt_10_at64_range ⟨s.toArray⟩ (by omega) hu (.iface tp p) w hv (.inr ⟨tp, p, rfl⟩)).mono ?_
    rintro e w' ⟨N, rfl, _, _, hb⟩
    exact ⟨_, rfl, hb, rel_two (.int _ _) (.ifs _ _)⟩
theorem trim_ok : PrimA Tryz.prog H 74 trimD := by
  refine primA ⟨_, _, Tryz.func74, rfl, by kernel_rfl⟩ fun args d hd base fl E st w vs hg hr hR => ?_
  unfold trimD at hd
  split at hd <;> (try contradiction)
  rename_i s cs
  split at hd <;> (try contradiction)
  rename_i hc
  obtain ⟨h1, h2, h3⟩ := hc
  injection hd with hd
  subst hd
  obtain ⟨v0, us, rfl, r0, R1⟩ := hR.cons_inv
  obtain ⟨v1, us, rfl, r1, R2⟩ := R1.cons_inv
  cases R2.nil_inv
  cases r0
  cases r1
  refine (Any.strings_Trim_laid Tryz.lays160 (by kernel_rfl) ⟨s.toArray⟩ ⟨cs.toArray⟩ w (by rw [size_str]; exact h1) (by rw [size_str]; exact h2) (fun j b hj => ?_)).mono ?_
  · have := List.all_eq_true.1 h3 b (List.mem_of_getElem? hj)
    simpa using this
  · rintro e w' ⟨rfl, hb⟩
    exact ⟨_, rfl, hb, .str _⟩
theorem ixByte_ok : PrimA Tryz.prog H 77 indexByteD := by
  refine primA ⟨_, _, Tryz.func77, rfl, by kernel_rfl⟩ fun args d hd base fl E st w vs hg hr hR => ?_
  unfold indexByteD at hd
  split at hd <;> (try contradiction)
  rename_i s c
  split at hd <;> (try contradiction)
  injection hd with hd
  subst hd
  obtain ⟨v0, us, rfl, r0, R1⟩ := hR.cons_inv
  obtain ⟨v1, us, rfl, r1, R2⟩ := R1.cons_inv
  cases R2.nil_inv
  cases r0
  cases r1
  refine (Tryz.strings_IndexByte ⟨s.toArray⟩ c w).mono ?_
  rintro e w' ⟨rfl, rfl⟩
  refine ⟨_, rfl, Below.refl _ _, ?_⟩
  rw [indexByte_eq]
  exact .int _ _
end Go.Ab.Dk
