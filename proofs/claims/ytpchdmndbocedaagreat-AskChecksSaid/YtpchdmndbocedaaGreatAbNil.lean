/-
  A list held against nil.
-/
import Derived.Test.YtpchdmndbocedaaGreatAbSim
import Derived.Lib.SliceRun
import Derived.Test.YtpchdmndbocedaaGreatProg
import Derived.KernelRfl
set_option linter.unusedSimpArgs false
set_option linter.unusedVariables false
namespace Go.Ab
section
variable {base : Base}
theorem OpN.nils {cx : Cx} {fr : Fr} {st : St} {dst : Option Nat} {t e ty' ty : TypeId} {i : Nat} {pos : String} {af : Array Edge} {K : D → St → Prop} {n : Nat} {cs : List D} {tip : Tip}
  (hu : cx.P.underlying t = some (.slice e)) (hx : fr.get i = .list n cs tip) (hk : ∀ b,(cs ≠ [] → b = false) → K (.bool b) st) :
  OpN base cx fr st ⟨dst,.binOp .eql t (.tmp i) (.const (.slice none 0 0)) ty',ty,pos,af,none⟩ K:=by
 intro E w a Hh F r nn next Q hn
 have rx:=evX_rel F (show evX fr (.tmp i) = some (.list n cs tip) by
  simp only [evX,hx])
 generalize hv : a.eval (.tmp i) = v at rx
 cases rx with
 | list _ _ _ p cap vs hl hn' ha ht h =>
 refine wpIn_of (fun c h => by cases h) ?_
 have hex : execOp a.eval ⟨dst,.binOp .eql t (.tmp i) (.const (.slice none 0 0)) ty',ty,pos,af,none⟩ =
  (do pure (.value (← (do eqGuard .eql t (.tmp i) (.const (.slice none 0 0)) (a.eval (.tmp i)) (.slice none 0 0); binOp .eql t (a.eval (.tmp i)) (.slice none 0 0))))):=rfl
 rw [hex,hv]
 have hrun : (do eqGuard .eql t (.tmp i) (.const (.slice none 0 0)) (.slice p n cap) (.slice none 0 0); binOp .eql t (.slice p n cap) (.slice none 0 0) : Sem Value).run cx.P w = .ok (.bool p.isNone) w:=by
  rw [Sem.run_bind,eqGuard_other (by simp) (by simp),Result.andThen_ok]
  exact Lib.run_eql_slice_nil w t e p n cap 0 0 hu
 simp only [Sem.run_bind,hrun,Result.andThen_ok,Sem.run_pure,Oper.uponIn_value]
 refine hn _ _ _ E w (hk p.isNone fun hc => ?_) (Ext.refl base cx.fl E st w Hh.fb Hh.ft) Hh.sim (.bool _)
 obtain ⟨b,o,rfl,_⟩:=ha hc
 rfl
end
end Go.Ab
namespace Go.Ab
def repB (s : List UInt8) : Nat → List UInt8
 | 0 => []
 | n + 1 => s ++ repB s n
def repPrim : List D → Option D
 | [.str s,.int .i64 c] => if 0 ≤ c ∧ c ≤ 9223372036854775807 ∧ s.length * c.toNat ≤ 140737488355328 then some (.str (repB s c.toNat)) else none
 | _ => none
def idP : List D → Option D
 | [.ref b o] => some (.ref b o)
 | _ => none
def cloneP (_sz : Nat) : List D → Option D
 | [.list 0 [] _] => some (.list 0 [] .full)
 | _ => none
end Go.Ab
namespace Go.Ab
open Go Go.Proofs
set_option maxRecDepth 100000
def nkInfo : FuncId → Option FInfo
 | 4 => some ⟨true,[],[]⟩
 | 6 => some ⟨false,[],[]⟩
 | 7 => some ⟨true,[],[]⟩
 | 8 => some ⟨true,[2,3],[]⟩
 | 10 => some ⟨false,[2,3,22,24],[]⟩
 | 11 => some ⟨true,[],[]⟩
 | 12 => some ⟨true,[3],[]⟩
 | 13 => some ⟨true,[3],[]⟩
 | 14 => some ⟨true,[3],[(5,[3,4,6,25,26,27])]⟩
 | 15 => some ⟨true,[],[(6,[6,17,18,19])]⟩
 | 16 => some ⟨true,[3],[]⟩
 | 18 => some ⟨false,[],[]⟩
 | 22 => some ⟨false,[3,33,36],[]⟩
 | 23 => some ⟨true,[],[]⟩
 | 24 => some ⟨true,[],[]⟩
 | 25 => some ⟨true,[],[]⟩
 | 26 => some ⟨true,[],[]⟩
 | 27 => some ⟨true,[],[]⟩
 | 28 => some ⟨true,[],[]⟩
 | 29 => some ⟨true,[1],[]⟩
 | 30 => some ⟨true,[2,3,8,10],[]⟩
 | 31 => some ⟨true,[],[]⟩
 | 32 => some ⟨true,[4,17,19,21],[]⟩
 | 40 => some ⟨true,[1],[(4,[1,38,39])]⟩
 | 41 => some ⟨true,[1],[]⟩
 | 42 => some ⟨false,[],[]⟩
 | 43 => some ⟨false,[],[]⟩
 | 44 => some ⟨true,[],[]⟩
 | 45 => some ⟨true,[2],[(3,[1,5,11,12,13])]⟩
 | 46 => some ⟨true,[1],[]⟩
 | 47 => some ⟨true,[1],[]⟩
 | 48 => some ⟨true,[1],[]⟩
 | 49 => some ⟨true,[],[]⟩
 | 50 => some ⟨true,[2,8],[]⟩
 | 51 => some ⟨true,[1],[]⟩
 | 52 => some ⟨true,[2,3,7,8],[]⟩
 | 53 => some ⟨true,[1],[]⟩
 | 58 => some ⟨true,[],[]⟩
 | 60 => some ⟨true,[1,4,7,9,11],[]⟩
 | 62 => some ⟨true,[],[]⟩
 | 63 => some ⟨true,[1],[]⟩
 | 71 => some ⟨false,[3,28,41],[(10,[0,4,5,6,54,55,56]),(19,[0,4,5,9])]⟩
 | 72 => some ⟨false,[3],[]⟩
 | 74 => some ⟨false,[3],[]⟩
 | 78 => some ⟨true,[],[(4,[0,1,12,13])]⟩
 | 79 => some ⟨false,[],[(7,[2,8,18,19])]⟩
 | 82 => some ⟨false,[],[]⟩
 | 83 => some ⟨false,[],[(7,[2,8,18,19])]⟩
 | 85 => some ⟨false,[],[(7,[2,8,18,19])]⟩
 | 88 => some ⟨false,[],[(7,[2,8,18,19])]⟩
 | 90 => some ⟨false,[],[(7,[2,8,18,19])]⟩
 | 93 => some ⟨true,[1000005],[(4,[4,5,11,12,13])]⟩
 | 110 => some ⟨true,[],[]⟩
 | 111 => some ⟨true,[],[]⟩
 | 112 => some ⟨true,[1],[(3,[4,13,14,15])]⟩
 | 113 => some ⟨true,[1],[(6,[1,40,41,42]),(12,[1,51,52,53]),(18,[1,72,73,74])]⟩
 | 114 => some ⟨true,[1,12,15,17],[]⟩
 | 116 => some ⟨false,[],[]⟩
 | 117 => some ⟨false,[],[]⟩
 | 118 => some ⟨false,[],[(6,[2,5,28,29,30])]⟩
 | 119 => some ⟨true,[],[]⟩
 | 120 => some ⟨true,[],[]⟩
 | 121 => some ⟨true,[2],[]⟩
 | 122 => some ⟨true,[1],[]⟩
 | 123 => some ⟨true,[2],[]⟩
 | 124 => some ⟨true,[1],[]⟩
 | 125 => some ⟨true,[],[]⟩
 | 126 => some ⟨true,[2],[(3,[1,5,11,12])]⟩
 | 127 => some ⟨true,[],[]⟩
 | 129 => some ⟨true,[],[(5,[0,3,11,12,13])]⟩
 | 133 => some ⟨true,[1,4,7,10,12,14,16],[]⟩
 | 134 => some ⟨true,[1,5,8,11,14,16,18],[]⟩
 | 143 => some ⟨false,[],[]⟩
 | 147 => some ⟨false,[],[]⟩
 | 148 => some ⟨true,[],[]⟩
 | 154 => some ⟨true,[3],[(11,[4,6,9])]⟩
 | 157 => some ⟨true,[],[]⟩
 | 160 => some ⟨true,[],[(3,[0,5,8])]⟩
 | 163 => some ⟨true,[1,4,7],[]⟩
 | 179 => some ⟨false,[],[]⟩
 | 180 => some ⟨true,[],[]⟩
 | 181 => some ⟨true,[],[(5,[2,4,5,6,7]),(11,[2,5,9,43])]⟩
 | 182 => some ⟨true,[],[]⟩
 | 186 => some ⟨true,[],[(3,[0,3,5])]⟩
 | 197 => some ⟨true,[],[]⟩
 | 198 => some ⟨true,[],[(3,[4,9,10,11])]⟩
 | 199 => some ⟨true,[],[(2,[0,1,5])]⟩
 | 204 => some ⟨true,[1],[(4,[1,28,29,30])]⟩
 | 205 => some ⟨true,[],[(2,[1,2,3,4,5,10,11])]⟩
 | 206 => some ⟨true,[1],[]⟩
 | 210 => some ⟨true,[1],[]⟩
 | 211 => some ⟨false,[],[(9,[1,4,5,6,7,24])]⟩
 | 212 => some ⟨true,[1,12,14,16,18,20,28,30,35,1000005],[]⟩
 | 213 => some ⟨true,[],[]⟩
 | 214 => some ⟨false,[],[]⟩
 | 215 => some ⟨false,[],[(3,[0])]⟩
 | 218 => some ⟨true,[1],[]⟩
 | 219 => some ⟨true,[1],[]⟩
 | 220 => some ⟨true,[1],[]⟩
 | 222 => some ⟨true,[7,8,55,56],[(8,[2,4,6])]⟩
 | 223 => some ⟨false,[2],[]⟩
 | 224 => some ⟨false,[],[]⟩
 | 225 => some ⟨true,[2],[(3,[1,5,7,8])]⟩
 | 230 => some ⟨true,[1,4,8,12],[]⟩
 | 231 => some ⟨true,[1],[]⟩
 | 232 => some ⟨true,[1],[]⟩
 | 233 => some ⟨true,[1],[]⟩
 | 239 => some ⟨false,[],[(2,[0,1,2,6,7,8]),(7,[0,1,2,6]),(9,[0,1,2,6,7,8])]⟩
 | 243 => some ⟨true,[3,4],[(6,[3,6,9,11,27,28,29])]⟩
 | 262 => some ⟨true,[],[(3,[0,3,4])]⟩
 | 263 => some ⟨true,[],[]⟩
 | 280 => some ⟨false,[],[]⟩
 | 281 => some ⟨true,[],[]⟩
 | 282 => some ⟨true,[],[]⟩
 | 283 => some ⟨true,[],[(3,[0,2,3,9]),(6,[0,2,3,4,9,12]),(12,[2,3,6])]⟩
 | 284 => some ⟨true,[],[(3,[1,2,3,6,7,8,9,10,11,12,13,14,36]),(10,[3,6,111,112])]⟩
 | 289 => some ⟨true,[],[]⟩
 | 291 => some ⟨true,[],[]⟩
 | 294 => some ⟨true,[1000003],[(3,[0,2,3,7]),(6,[0,2,3,7,12,13])]⟩
 | 295 => some ⟨true,[],[]⟩
 | 296 => some ⟨true,[],[]⟩
 | 297 => some ⟨true,[3,7],[]⟩
 | 299 => some ⟨true,[1],[(6,[1,2,4,6,30,31,32]),(11,[1,2,6,49,50,51]),(16,[2,6,66,67,68])]⟩
 | 300 => some ⟨true,[1],[]⟩
 | 301 => some ⟨true,[],[]⟩
 | 302 => some ⟨true,[],[]⟩
 | 303 => some ⟨true,[],[(3,[0,1,6,7])]⟩
 | 304 => some ⟨false,[],[(2,[0,4,9,10,11])]⟩
 | 308 => some ⟨false,[],[(9,[0,1,7,24,25,26])]⟩
 | 309 => some ⟨true,[],[(2,[6,7,8])]⟩
 | 310 => some ⟨true,[],[(3,[3,6,7,8])]⟩
 | 311 => some ⟨false,[],[(2,[0,2,14,15,16])]⟩
 | 312 => some ⟨true,[1,4,7,11],[]⟩
 | 313 => some ⟨false,[],[(2,[0,2,14,15,16])]⟩
 | 315 => some ⟨false,[],[(2,[0,2,14,15,16])]⟩
 | 317 => some ⟨true,[],[]⟩
 | 318 => some ⟨false,[],[]⟩
 | 319 => some ⟨true,[1,32,34],[]⟩
 | 327 => some ⟨true,[],[]⟩
 | 328 => some ⟨true,[1],[]⟩
 | 329 => some ⟨true,[],[]⟩
 | 330 => some ⟨true,[1],[]⟩
 | 331 => some ⟨true,[],[]⟩
 | 332 => some ⟨true,[1],[]⟩
 | 337 => some ⟨false,[],[(1,[0,1,2,3,8]),(4,[0,1,2,3,8,9])]⟩
 | 379 => some ⟨true,[],[]⟩
 | 385 => some ⟨true,[2],[]⟩
 | 386 => some ⟨true,[1],[(6,[1,2,4,6,33,34])]⟩
 | 387 => some ⟨true,[2,3],[(3,[3,4,6,25,26,27]),(11,[4,6,9,10,11,41,42,43]),(25,[4,10,16,95,96,97]),(31,[4,10,16,20,95,96,97,113,114,115])]⟩
 | 388 => some ⟨false,[],[]⟩
 | 389 => some ⟨true,[],[]⟩
 | 390 => some ⟨true,[],[(3,[0,3,6,7]),(7,[0,3,6,7,16])]⟩
 | 416 => some ⟨false,[2],[]⟩
 | 417 => some ⟨false,[],[]⟩
 | 418 => some ⟨false,[2],[]⟩
 | 419 => some ⟨false,[],[]⟩
 | 420 => some ⟨false,[2],[]⟩
 | 421 => some ⟨false,[],[]⟩
 | 465 => some ⟨true,[2,3],[]⟩
 | 476 => some ⟨true,[],[]⟩
 | 477 => some ⟨true,[],[(3,[2,4,9,10,11])]⟩
 | 478 => some ⟨true,[1],[(5,[1,2,4,45,46,47]),(12,[1,2,4,66,67,68]),(20,[2,4,106,107,108])]⟩
 | 479 => some ⟨true,[1],[(8,[6,32])]⟩
 | 519 => some ⟨true,[1,4,7],[]⟩
 | 527 => some ⟨true,[2],[]⟩
 | 528 => some ⟨true,[],[]⟩
 | 529 => some ⟨true,[],[]⟩
 | 533 => some ⟨true,[3,5,22,18],[]⟩
 | 543 => some ⟨true,[3,5,22,18],[]⟩
 | 551 => some ⟨true,[],[(2,[0,1,5])]⟩
 | 552 => some ⟨true,[],[(2,[0,1,5])]⟩
 | 553 => some ⟨true,[],[(2,[0,1,5])]⟩
 | 555 => some ⟨false,[],[]⟩
 | 574 => some ⟨true,[2],[(3,[1,5,7,8])]⟩
 | 577 => some ⟨true,[],[(3,[0,3,6,7])]⟩
 | 585 => some ⟨true,[],[]⟩
 | 589 => some ⟨false,[],[(2,[0,1,2,3,4,10,11])]⟩
 | 618 => some ⟨true,[],[]⟩
 | 619 => some ⟨false,[],[(1,[0,1,2,3,8]),(4,[0,1,2,3,8,9])]⟩
 | _ => none
def nkPrims : FuncId → Option (List D → Option D)
 | 161 => some (repPrim)
 | 378 => some (idP)
 | 382 => some (add64D)
 | 586 => some (cmpStrD)
 | 221 => some (cloneP 32)
 | 77 => some (cloneP 8)
 | 344 => some (cloneP 1)
 | _ => none
def nkH : Hints:=⟨nkInfo,nkPrims⟩
end Go.Ab
