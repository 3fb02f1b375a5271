/-
  Hints for the functions of this seat (printed by mkh.py).
-/
import Derived.Test.YtpchdmndbocedaaGreatAbSim
import Derived.Test.YtpchdmndbocedaaGreatAbNil
import Derived.Test.YtpchdmndbocedaaGreatProg
import Derived.KernelRfl
import Derived.Test.YtpchdmndbocedaaGreatAbGo
set_option linter.unusedSimpArgs false
set_option linter.unusedVariables false
namespace Go.Ab
open Go Go.Proofs
set_option maxRecDepth 100000
def nlInfo : FuncId → Option FInfo
 | 3 => some ⟨true,[2,3,16,17,19,20],[]⟩
 | 4 => some ⟨true,[],[]⟩
 | 6 => some ⟨false,[],[]⟩
 | 7 => some ⟨true,[],[]⟩
 | 8 => some ⟨true,[2,3],[]⟩
 | 9 => some ⟨true,[2,3,18,24,29,32,35,39],[]⟩
 | 10 => some ⟨false,[2,3,22,24],[]⟩
 | 11 => some ⟨true,[],[]⟩
 | 12 => some ⟨true,[3],[]⟩
 | 13 => some ⟨true,[3],[]⟩
 | 14 => some ⟨true,[3],[(5,[3,4,6,25,26,27])]⟩
 | 15 => some ⟨true,[],[(6,[6,17,18,19])]⟩
 | 16 => some ⟨true,[3],[]⟩
 | 18 => some ⟨false,[],[]⟩
 | 22 => some ⟨false,[3,33,36],[]⟩
 | 23 => some ⟨true,[],[]⟩
 | 24 => some ⟨true,[],[]⟩
 | 25 => some ⟨true,[],[]⟩
 | 26 => some ⟨true,[],[]⟩
 | 27 => some ⟨true,[],[]⟩
 | 28 => some ⟨true,[],[]⟩
 | 29 => some ⟨true,[1],[]⟩
 | 30 => some ⟨true,[2,3,8,10],[]⟩
 | 31 => some ⟨true,[],[]⟩
 | 32 => some ⟨true,[4,17,19,21],[]⟩
 | 33 => some ⟨true,[1],[]⟩
 | 34 => some ⟨true,[1],[]⟩
 | 35 => some ⟨true,[5,8,63],[(5,[1,2,4,5,11,12])]⟩
 | 36 => some ⟨true,[],[(4,[2,4,5,6]),(11,[2,4,5,8]),(22,[2,4,5,10]),(33,[2,4,5,12]),(40,[2,4,5,14])]⟩
 | 37 => some ⟨true,[1],[]⟩
 | 38 => some ⟨true,[5,8,80],[(6,[1,2,4,5,11,12,13])]⟩
 | 39 => some ⟨true,[1],[]⟩
 | 40 => some ⟨true,[1],[(4,[1,38,39])]⟩
 | 41 => some ⟨true,[1],[]⟩
 | 42 => some ⟨false,[],[]⟩
 | 43 => some ⟨false,[],[]⟩
 | 44 => some ⟨true,[],[]⟩
 | 45 => some ⟨true,[2],[(3,[1,5,11,12,13])]⟩
 | 46 => some ⟨true,[1],[]⟩
 | 47 => some ⟨true,[1],[]⟩
 | 48 => some ⟨true,[1],[]⟩
 | 49 => some ⟨true,[],[]⟩
 | 50 => some ⟨true,[2,8],[]⟩
 | 51 => some ⟨true,[1],[]⟩
 | 52 => some ⟨true,[2,3,7,8],[]⟩
 | 53 => some ⟨true,[1],[]⟩
 | 58 => some ⟨true,[],[]⟩
 | 60 => some ⟨true,[1,4,7,9,11],[]⟩
 | 62 => some ⟨true,[],[]⟩
 | 63 => some ⟨true,[1],[]⟩
 | 71 => some ⟨false,[3,28,41],[(10,[0,4,5,6,54,55,56]),(19,[0,4,5,9])]⟩
 | 72 => some ⟨false,[3],[]⟩
 | 74 => some ⟨false,[3],[]⟩
 | 78 => some ⟨true,[],[(4,[0,1,12,13])]⟩
 | 79 => some ⟨false,[],[(7,[2,8,18,19])]⟩
 | 80 => some ⟨false,[2,4],[]⟩
 | 81 => some ⟨false,[],[]⟩
 | 82 => some ⟨false,[],[]⟩
 | 83 => some ⟨false,[],[(7,[2,8,18,19])]⟩
 | 84 => some ⟨false,[2,4,6],[]⟩
 | 85 => some ⟨false,[],[(7,[2,8,18,19])]⟩
 | 86 => some ⟨false,[2,5,7,9,11,13],[]⟩
 | 87 => some ⟨false,[],[]⟩
 | 88 => some ⟨false,[],[(7,[2,8,18,19])]⟩
 | 89 => some ⟨false,[2,4],[]⟩
 | 90 => some ⟨false,[],[(7,[2,8,18,19])]⟩
 | 91 => some ⟨false,[2,4],[]⟩
 | 92 => some ⟨true,[1],[]⟩
 | 93 => some ⟨true,[1000005],[(4,[4,5,11,12,13])]⟩
 | 94 => some ⟨true,[1,1000017],[(4,[1,3,25,26,27]),(11,[1,3,47,48,49]),(18,[1,3,76,77,78]),(23,[1,3,87,88,89]),(29,[1,3,87,88,89,113,114,115]),(36,[3,131,132,133])]⟩
 | 95 => some ⟨true,[1,11,1000007],[(5,[3,21,22,23])]⟩
 | 96 => some ⟨true,[1],[]⟩
 | 97 => some ⟨true,[2,3,5,7],[]⟩
 | 98 => some ⟨true,[3,8],[]⟩
 | 99 => some ⟨false,[],[]⟩
 | 100 => some ⟨false,[],[(4,[2,3,4,5])]⟩
 | 101 => some ⟨false,[],[]⟩
 | 102 => some ⟨false,[],[]⟩
 | 103 => some ⟨true,[1,62,73,80,126,138,146,164,176,184],[(4,[1,3]),(9,[1,4]),(14,[1,5]),(19,[1,6]),(24,[1,7])]⟩
 | 104 => some ⟨true,[],[]⟩
 | 105 => some ⟨true,[1,22,30,52,60,68,77,81,85,89,146,154],[(3,[1,3,4]),(8,[1,3,5]),(13,[1,3,6]),(19,[1,3,8])]⟩
 | 106 => some ⟨true,[1],[]⟩
 | 107 => some ⟨true,[2,3,5,7],[]⟩
 | 108 => some ⟨true,[3,8],[]⟩
 | 109 => some ⟨true,[1,5,8,21,29],[(3,[1,3,4])]⟩
 | 110 => some ⟨true,[],[]⟩
 | 111 => some ⟨true,[],[]⟩
 | 112 => some ⟨true,[1],[(3,[4,13,14,15])]⟩
 | 113 => some ⟨true,[1],[(6,[1,40,41,42]),(12,[1,51,52,53]),(18,[1,72,73,74])]⟩
 | 114 => some ⟨true,[1,12,15,17],[]⟩
 | 116 => some ⟨false,[],[]⟩
 | 117 => some ⟨false,[],[]⟩
 | 118 => some ⟨false,[],[(6,[2,5,28,29,30])]⟩
 | 119 => some ⟨true,[],[]⟩
 | 120 => some ⟨true,[],[]⟩
 | 121 => some ⟨true,[2],[]⟩
 | 122 => some ⟨true,[1],[]⟩
 | 123 => some ⟨true,[2],[]⟩
 | 124 => some ⟨true,[1],[]⟩
 | 125 => some ⟨true,[],[]⟩
 | 126 => some ⟨true,[2],[(3,[1,5,11,12])]⟩
 | 127 => some ⟨true,[],[]⟩
 | 129 => some ⟨true,[],[(5,[0,3,11,12,13])]⟩
 | 133 => some ⟨true,[1,4,7,10,12,14,16],[]⟩
 | 134 => some ⟨true,[1,5,8,11,14,16,18],[]⟩
 | 136 => some ⟨true,[1],[(3,[1,3,4])]⟩
 | 143 => some ⟨false,[],[]⟩
 | 147 => some ⟨false,[],[]⟩
 | 148 => some ⟨true,[],[]⟩
 | 154 => some ⟨true,[3],[(11,[4,6,9])]⟩
 | 157 => some ⟨true,[],[]⟩
 | 160 => some ⟨true,[],[(3,[0,5,8])]⟩
 | 162 => some ⟨true,[],[(2,[0,1,2,9,10])]⟩
 | 163 => some ⟨true,[1,4,7],[]⟩
 | 164 => some ⟨true,[3],[]⟩
 | 165 => some ⟨true,[1],[]⟩
 | 166 => some ⟨true,[3],[]⟩
 | 167 => some ⟨true,[1],[]⟩
 | 168 => some ⟨true,[],[]⟩
 | 169 => some ⟨true,[3],[]⟩
 | 170 => some ⟨true,[1,18,20,29,31,37,39,41],[]⟩
 | 171 => some ⟨true,[],[(2,[0,1,2,9,10])]⟩
 | 172 => some ⟨true,[1],[]⟩
 | 173 => some ⟨true,[3],[]⟩
 | 174 => some ⟨true,[1],[]⟩
 | 175 => some ⟨true,[],[(2,[0,1,2,9,10])]⟩
 | 176 => some ⟨true,[1],[]⟩
 | 177 => some ⟨true,[3],[]⟩
 | 178 => some ⟨true,[1],[]⟩
 | 179 => some ⟨false,[],[]⟩
 | 180 => some ⟨true,[],[]⟩
 | 181 => some ⟨true,[],[(5,[2,4,5,6,7]),(11,[2,5,9,43])]⟩
 | 182 => some ⟨true,[],[]⟩
 | 183 => some ⟨false,[],[]⟩
 | 184 => some ⟨false,[3,7],[]⟩
 | 185 => some ⟨false,[],[]⟩
 | 186 => some ⟨true,[],[(3,[0,3,5])]⟩
 | 187 => some ⟨true,[],[(4,[0,5,6,7])]⟩
 | 188 => some ⟨true,[1,4,7],[]⟩
 | 189 => some ⟨true,[],[]⟩
 | 190 => some ⟨true,[1],[]⟩
 | 191 => some ⟨true,[],[(3,[1,4,5,6])]⟩
 | 192 => some ⟨true,[],[]⟩
 | 193 => some ⟨true,[1],[]⟩
 | 194 => some ⟨true,[],[]⟩
 | 195 => some ⟨true,[],[]⟩
 | 196 => some ⟨true,[],[(3,[0,3,4])]⟩
 | 197 => some ⟨true,[],[]⟩
 | 198 => some ⟨true,[],[(3,[4,9,10,11])]⟩
 | 199 => some ⟨true,[],[(2,[0,1,5])]⟩
 | 204 => some ⟨true,[1],[(4,[1,28,29,30])]⟩
 | 205 => some ⟨true,[],[(2,[1,2,3,4,5,10,11])]⟩
 | 206 => some ⟨true,[1],[]⟩
 | 210 => some ⟨true,[1],[]⟩
 | 211 => some ⟨false,[],[(9,[1,4,5,6,7,24])]⟩
 | 212 => some ⟨true,[1,12,14,16,18,20,28,30,35,1000005],[]⟩
 | 213 => some ⟨true,[],[]⟩
 | 214 => some ⟨false,[],[]⟩
 | 215 => some ⟨false,[],[(3,[0])]⟩
 | 218 => some ⟨true,[1],[]⟩
 | 219 => some ⟨true,[1],[]⟩
 | 220 => some ⟨true,[1],[]⟩
 | 222 => some ⟨true,[7,8,55,56],[(8,[2,4,6])]⟩
 | 223 => some ⟨false,[2],[]⟩
 | 224 => some ⟨false,[],[]⟩
 | 225 => some ⟨true,[2],[(3,[1,5,7,8])]⟩
 | 230 => some ⟨true,[1,4,8,12],[]⟩
 | 231 => some ⟨true,[1],[]⟩
 | 232 => some ⟨true,[1],[]⟩
 | 233 => some ⟨true,[1],[]⟩
 | 239 => some ⟨false,[],[(2,[0,1,2,6,7,8]),(7,[0,1,2,6]),(9,[0,1,2,6,7,8])]⟩
 | 243 => some ⟨true,[3,4],[(6,[3,6,9,11,27,28,29])]⟩
 | 262 => some ⟨true,[],[(3,[0,3,4])]⟩
 | 263 => some ⟨true,[],[]⟩
 | 266 => some ⟨true,[],[]⟩
 | 267 => some ⟨true,[],[]⟩
 | 269 => some ⟨true,[],[]⟩
 | 270 => some ⟨true,[],[]⟩
 | 271 => some ⟨true,[2],[]⟩
 | 272 => some ⟨true,[],[]⟩
 | 273 => some ⟨true,[2],[]⟩
 | 274 => some ⟨true,[],[]⟩
 | 275 => some ⟨true,[2],[]⟩
 | 276 => some ⟨true,[],[]⟩
 | 277 => some ⟨true,[2],[]⟩
 | 278 => some ⟨true,[],[]⟩
 | 279 => some ⟨true,[2],[]⟩
 | 280 => some ⟨false,[],[]⟩
 | 281 => some ⟨true,[],[]⟩
 | 282 => some ⟨true,[],[]⟩
 | 283 => some ⟨true,[],[(3,[0,2,3,9]),(6,[0,2,3,4,9,12]),(12,[2,3,6])]⟩
 | 284 => some ⟨true,[],[(3,[1,2,3,6,7,8,9,10,11,12,13,14,36]),(10,[3,6,111,112])]⟩
 | 285 => some ⟨true,[],[]⟩
 | 286 => some ⟨true,[],[]⟩
 | 287 => some ⟨true,[],[]⟩
 | 289 => some ⟨true,[],[]⟩
 | 291 => some ⟨true,[],[]⟩
 | 294 => some ⟨true,[1000003],[(3,[0,2,3,7]),(6,[0,2,3,7,12,13])]⟩
 | 295 => some ⟨true,[],[]⟩
 | 296 => some ⟨true,[],[]⟩
 | 297 => some ⟨true,[3,7],[]⟩
 | 299 => some ⟨true,[1],[(6,[1,2,4,6,30,31,32]),(11,[1,2,6,49,50,51]),(16,[2,6,66,67,68])]⟩
 | 300 => some ⟨true,[1],[]⟩
 | 301 => some ⟨true,[],[]⟩
 | 302 => some ⟨true,[],[]⟩
 | 303 => some ⟨true,[],[(3,[0,1,6,7])]⟩
 | 304 => some ⟨false,[],[(2,[0,4,9,10,11])]⟩
 | 308 => some ⟨false,[],[(9,[0,1,7,24,25,26])]⟩
 | 309 => some ⟨true,[],[(2,[6,7,8])]⟩
 | 310 => some ⟨true,[],[(3,[3,6,7,8])]⟩
 | 311 => some ⟨false,[],[(2,[0,2,14,15,16])]⟩
 | 312 => some ⟨true,[1,4,7,11],[]⟩
 | 313 => some ⟨false,[],[(2,[0,2,14,15,16])]⟩
 | 315 => some ⟨false,[],[(2,[0,2,14,15,16])]⟩
 | 317 => some ⟨true,[],[]⟩
 | 318 => some ⟨false,[],[]⟩
 | 319 => some ⟨true,[1,32,34],[]⟩
 | 327 => some ⟨true,[],[]⟩
 | 328 => some ⟨true,[1],[]⟩
 | 329 => some ⟨true,[],[]⟩
 | 330 => some ⟨true,[1],[]⟩
 | 331 => some ⟨true,[],[]⟩
 | 332 => some ⟨true,[1],[]⟩
 | 337 => some ⟨false,[],[(1,[0,1,2,3,8]),(4,[0,1,2,3,8,9])]⟩
 | 369 => some ⟨true,[],[]⟩
 | 370 => some ⟨true,[],[]⟩
 | 371 => some ⟨true,[],[]⟩
 | 373 => some ⟨true,[],[(2,[0,1,7,8])]⟩
 | 374 => some ⟨true,[],[(2,[0,1,7,8])]⟩
 | 375 => some ⟨true,[],[(2,[0,1,7,8])]⟩
 | 376 => some ⟨true,[],[(2,[0,1,7,8])]⟩
 | 377 => some ⟨true,[],[(2,[0,1,7,8])]⟩
 | 379 => some ⟨true,[],[]⟩
 | 380 => some ⟨true,[],[]⟩
 | 381 => some ⟨true,[],[]⟩
 | 385 => some ⟨true,[2],[]⟩
 | 386 => some ⟨true,[1],[(6,[1,2,4,6,33,34])]⟩
 | 387 => some ⟨true,[2,3],[(3,[3,4,6,25,26,27]),(11,[4,6,9,10,11,41,42,43]),(25,[4,10,16,95,96,97]),(31,[4,10,16,20,95,96,97,113,114,115])]⟩
 | 388 => some ⟨false,[],[]⟩
 | 389 => some ⟨true,[],[]⟩
 | 390 => some ⟨true,[],[(3,[0,3,6,7]),(7,[0,3,6,7,16])]⟩
 | 416 => some ⟨false,[2],[]⟩
 | 417 => some ⟨false,[],[]⟩
 | 418 => some ⟨false,[2],[]⟩
 | 419 => some ⟨false,[],[]⟩
 | 420 => some ⟨false,[2],[]⟩
 | 421 => some ⟨false,[],[]⟩
 | 465 => some ⟨true,[2,3],[]⟩
 | 476 => some ⟨true,[],[]⟩
 | 477 => some ⟨true,[],[(3,[2,4,9,10,11])]⟩
 | 478 => some ⟨true,[1],[(5,[1,2,4,45,46,47]),(12,[1,2,4,66,67,68]),(20,[2,4,106,107,108])]⟩
 | 479 => some ⟨true,[1],[(8,[6,32])]⟩
 | 519 => some ⟨true,[1,4,7],[]⟩
 | 527 => some ⟨true,[2],[]⟩
 | 528 => some ⟨true,[],[]⟩
 | 529 => some ⟨true,[],[]⟩
 | 533 => some ⟨true,[3,5,22,18],[]⟩
 | 543 => some ⟨true,[3,5,22,18],[]⟩
 | 551 => some ⟨true,[],[(2,[0,1,5])]⟩
 | 552 => some ⟨true,[],[(2,[0,1,5])]⟩
 | 553 => some ⟨true,[],[(2,[0,1,5])]⟩
 | 555 => some ⟨false,[],[]⟩
 | 574 => some ⟨true,[2],[(3,[1,5,7,8])]⟩
 | 577 => some ⟨true,[],[(3,[0,3,6,7])]⟩
 | 585 => some ⟨true,[],[]⟩
 | 589 => some ⟨false,[],[(2,[0,1,2,3,4,10,11])]⟩
 | 618 => some ⟨true,[],[]⟩
 | 619 => some ⟨false,[],[(1,[0,1,2,3,8]),(4,[0,1,2,3,8,9])]⟩
 | _ => none
def nlPrims : FuncId → Option (List D → Option D)
 | 161 => some (repPrim)
 | 378 => some (idP)
 | 382 => some (add64D)
 | 586 => some (cmpStrD)
 | 221 => some (cloneP 32)
 | 77 => some (cloneP 8)
 | 344 => some (cloneP 1)
 | _ => none
def nlH : Hints:=⟨nlInfo,nlPrims⟩
end Go.Ab
namespace Go.Ab.Nl
open Go Go.Proofs Go.Ab
set_option maxRecDepth 100000
set_option maxHeartbeats 4000000
theorem prims_eq : nlPrims = nkPrims:=rfl
theorem info_up : ∀ k fi,nkInfo k = some fi → nlInfo k = some fi:=by
 intro k fi h
 unfold nkInfo at h
 split at h <;> first | (cases h; rfl) | cases h
end Go.Ab.Nl
namespace Go.Ab.Nl
open Go Go.Proofs Go.Ab
theorem prim_none : ∀ k fi,nkPrims k = none → nkInfo k = some fi → nlPrims k = none:=fun k fi h _ => by rw [prims_eq]; exact h
theorem nlUp : HUp nkH nlH:=fun k => ⟨info_up k,fun f h => by
 show nlPrims k = some f
 rw [prims_eq]; exact h,fun fi h1 h2 => prim_none k fi h1 h2⟩
end Go.Ab.Nl
namespace Go.Ab.Sha
open Go Go.Proofs Go.Ab
set_option maxRecDepth 100000
set_option maxHeartbeats 4000000
theorem u_bytes (fl : Fl) (l : List UInt8) (h : l.length = 32) (st : St) : run Tryz.prog nlH fl 124 [.agg (bytesD l)] st = some (.str l,st):=run_up Nl.nlUp (r_bytes fl l h st)
theorem u_of (fl : Fl) (label : List UInt8) (ps : List (List UInt8)) (tip : Tip) (st : St) (hl : (textB label ++ (ps.map textB).flatten).length ≤ 1000000000) :
  run Tryz.prog nlH fl 93 [.str label,.list ps.length (ps.map .str) tip] st = some (.agg (bytesD (ofB label ps)),st):=run_up Nl.nlUp (r_of fl label ps tip st hl)
theorem bs245_1 (x : List UInt8) : buildSliceD Tryz.prog 245 1 [(0,.str x)] = some (.list 1 [.str x] .full):=by kernel_rfl
theorem bs245_2 (x y : List UInt8) : buildSliceD Tryz.prog 245 2 [(0,.str x),(1,.str y)] = some (.list 2 [.str x,.str y] .full):=by kernel_rfl
theorem varB_small (k n : Nat) (h : n < 128) : (varB k n).length = 1:=by rw [varB_end k n h]; rfl
theorem textB_small (s : List UInt8) (h : s.length < 128) : (textB s).length = s.length + 1:=by
 simp only [textB,List.length_append,varB_small 9 _ h]; omega
theorem ofB_len (label : List UInt8) (ps : List (List UInt8)) : (ofB label ps).length = 32:=by unfold ofB sumB; exact outB_len _
def leafB (h : List UInt8) : List UInt8:=ofB [108,101,97,102] [h]
theorem r_leaf (fl : Fl) (l : List UInt8) (h : l.length = 32) (st : St) : run Tryz.prog nlH fl 96 [.agg (bytesD l)] st = some (.agg (bytesD (leafB l)),st):=by
 refine run_sime (fi:=⟨true,[1],[]⟩) (rs:=[.cell 2 24]) rfl rfl rfl Tryz.func96 rfl rfl ?_
 simp only [argsFr]
 have hl : (bytesD l).length = 32:=by rw [bytesD_len,h]
 have hb : ∀ tip st',run Tryz.prog nlH (flAll st) 93 [.str [108,101,97,102],.list 1 [.str l] tip] st' = some (.agg (bytesD (leafB l)),st'):=fun tip st' => u_of (flAll st) [108,101,97,102] [l] tip st' (by
  simp [textB_small,h])
 have ldb : ∀ st',loadD Tryz.prog st' 24 (.box 0 (bytesD l)) = some (.agg (bytesD l)):=fun _ => pt24 l h
 have hsl : (leafB l).length = 32:=ofB_len _ _
 have hlb : (bytesD (leafB l)).length = 32:=by rw [bytesD_len,hsl]
 repeat (first | with_reducible refine zg ?_ | (with_reducible refine zo ?_; (conv => { arg 1; simp (disch:=(first | omega | (with_unfolding_all exact byrfl rfl))) only [evOp,wantSh,Nat.reduceAdd,loadI,evX,ofValue,ofValue1,binD,pairsD,evCall,builtinD,D.mem,D.cells,Int.reduceToNat,reduceCtorEq,Nat.reduceBEq,bs1,bs2,bs3,mx1,mx2,splice_one,tz_24,ldb,u_bytes _ l h,bs245_1,hb,List.toList_toArray,sp24 _ hsl,ts_24,hlb,List.length_replicate,Nat.reduceLeDiff] }); with_reducible refine s1 ?_))
 exact fin_cell rfl (load_ext.trans (pt24 _ hsl)) (bytesD_flat _)
def pairB (a b : List UInt8) : List UInt8:=ofB [112,97,105,114] [a,b]
theorem r_pair (fl : Fl) (a b : List UInt8) (ha : a.length = 32) (hb : b.length = 32) (st : St) : run Tryz.prog nlH fl 97 [.agg (bytesD a),.agg (bytesD b)] st = some (.agg (bytesD (pairB a b)),st):=by
 refine run_sime (fi:=⟨true,[2,3,5,7],[]⟩) (rs:=[.cell 4 24]) rfl rfl rfl Tryz.func97 rfl rfl ?_
 simp only [argsFr]
 have ho : ∀ tip st',run Tryz.prog nlH (flAll st) 93 [.str [112,97,105,114],.list 2 [.str a,.str b] tip] st' = some (.agg (bytesD (pairB a b)),st'):=fun tip st' => u_of (flAll st) [112,97,105,114] [a,b] tip st' (by
  simp [textB_small,ha,hb])
 have lda : ∀ st',loadD Tryz.prog st' 24 (.box 0 (bytesD a)) = some (.agg (bytesD a)):=fun _ => pt24 a ha
 have ldb : ∀ st',loadD Tryz.prog st' 24 (.box 0 (bytesD b)) = some (.agg (bytesD b)):=fun _ => pt24 b hb
 have hsl : (pairB a b).length = 32:=ofB_len _ _
 have hlb : (bytesD (pairB a b)).length = 32:=by rw [bytesD_len,hsl]
 repeat (first | with_reducible refine zg ?_ | (with_reducible refine zo ?_; (conv => { arg 1; simp (disch:=(first | omega | (with_unfolding_all exact byrfl rfl))) only [evOp,wantSh,Nat.reduceAdd,loadI,evX,ofValue,ofValue1,binD,pairsD,evCall,builtinD,D.mem,D.cells,Int.reduceToNat,reduceCtorEq,Nat.reduceBEq,bs1,bs2,bs3,mx1,mx2,splice_one,tz_24,lda,ldb,pt24 a ha,pt24 b hb,u_bytes _ a ha,u_bytes _ b hb,bs245_2,ho,List.toList_toArray,sp24 _ hsl,ts_24,hlb,List.length_replicate,Nat.reduceLeDiff] }); with_reducible refine s1 ?_))
 exact fin_cell rfl (load_ext.trans (pt24 _ hsl)) (bytesD_flat _)
theorem u_eight (fl : Fl) (n : Nat) (st : St) : run Tryz.prog nlH fl 186 [.int .u64 n] st = some (.str (be8 n),st):=run_up Nl.nlUp (r_eight fl n st)
def rootB (n : Nat) (a : List UInt8) : List UInt8:=ofB [114,111,111,116] [be8 n,a]
theorem r_root (fl : Fl) (n : Nat) (a : List UInt8) (hn : n < 9223372036854775808) (ha : a.length = 32) (st : St) : run Tryz.prog nlH fl 98 [.int .i64 n,.agg (bytesD a)] st = some (.agg (bytesD (rootB n a)),st):=by
 refine run_sime (fi:=⟨true,[3,8],[]⟩) (rs:=[.cell 4 24]) rfl rfl rfl Tryz.func98 rfl rfl ?_
 simp only [argsFr]
 have w8 : IntKind.wrap .u64 (n : Int) = n:=wrap_u64 (by omega) (by omega)
 have ho : ∀ tip st',run Tryz.prog nlH (flAll st) 93 [.str [114,111,111,116],.list 2 [.str (be8 n),.str a] tip] st' = some (.agg (bytesD (rootB n a)),st'):=fun tip st' => u_of (flAll st) [114,111,111,116] [be8 n,a] tip st' (by
  simp [textB_small,ha,be8])
 have lda : ∀ st',loadD Tryz.prog st' 24 (.box 0 (bytesD a)) = some (.agg (bytesD a)):=fun _ => pt24 a ha
 have hsl : (rootB n a).length = 32:=ofB_len _ _
 have hlb : (bytesD (rootB n a)).length = 32:=by rw [bytesD_len,hsl]
 repeat (first | with_reducible refine zg ?_ | (with_reducible refine zo ?_; (conv => { arg 1; simp (disch:=(first | omega | (with_unfolding_all exact byrfl rfl))) only [evOp,wantSh,Nat.reduceAdd,loadI,evX,ofValue,ofValue1,binD,pairsD,evCall,builtinD,D.mem,D.cells,Int.reduceToNat,reduceCtorEq,Nat.reduceBEq,bs1,bs2,bs3,mx1,mx2,splice_one,tz_24,lda,pt24 a ha,cv_3_22,w8,u_eight,u_bytes _ a ha,bs245_2,ho,List.toList_toArray,sp24 _ hsl,ts_24,hlb,List.length_replicate,Nat.reduceLeDiff] }); with_reducible refine s1 ?_))
 exact fin_cell rfl (load_ext.trans (pt24 _ hsl)) (bytesD_flat _)
end Go.Ab.Sha
