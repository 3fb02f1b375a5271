/-
  Hints for the functions of this seat (printed by mkh.py).
-/
import Derived.Test.YtnahgcofhneilaaAbPrim
import Derived.Test.YtnahgcofhneilaaProg
import Derived.KernelRfl
namespace Go.Ab
open Go Go.Proofs
set_option maxRecDepth 100000
def moInfo : FuncId → Option FInfo
  | 0 => some ⟨true, [], []⟩
  | 1 => some ⟨true, [], []⟩
  | 2 => some ⟨true, [], []⟩
  | 3 => some ⟨true, [], [(8, [5, 7, 42, 43, 44])]⟩
  | 4 => some ⟨true, [], [(9, [5, 7, 8, 9, 10, 41, 42, 43]), (18, [5, 7, 8, 9, 10, 12, 13, 41, 42, 43, 69, 70, 71]), (23, [5, 7, 8, 9, 10, 12, 13, 18, 41, 42, 43])]⟩
  | 5 => some ⟨true, [4], [(11, [2, 4, 7, 9, 10, 48, 49])]⟩
  | 6 => some ⟨true, [3], []⟩
  | 8 => some ⟨true, [3], []⟩
  | 9 => some ⟨true, [3], [(8, [0, 3, 6, 8, 31, 32, 33])]⟩
  | 10 => some ⟨true, [], []⟩
  | 11 => some ⟨true, [], []⟩
  | 12 => some ⟨true, [5], [(8, [0, 9, 12, 49, 50, 51])]⟩
  | 13 => some ⟨true, [5], []⟩
  | 14 => some ⟨true, [], []⟩
  | 15 => some ⟨true, [], [(2, [0, 5, 6, 7])]⟩
  | 17 => some ⟨true, [], [(3, [2, 4, 9, 10, 11])]⟩
  | 18 => some ⟨true, [], [(3, [0, 4, 5])]⟩
  | 19 => some ⟨true, [], [(3, [2, 4, 7, 12, 13, 14])]⟩
  | 20 => some ⟨true, [], [(3, [0, 1, 7, 8])]⟩
  | 21 => some ⟨true, [], [(4, [0, 1, 12, 13])]⟩
  | 22 => some ⟨true, [2], []⟩
  | 23 => some ⟨true, [4], [(2, [2, 3, 4, 6, 16, 17]), (11, [3, 4, 6, 35, 36, 37])]⟩
  | 24 => some ⟨true, [4, 51], [(2, [0, 2, 4, 8]), (8, [0, 2, 4, 11]), (13, [0, 2, 4, 12])]⟩
  | 25 => some ⟨true, [1], []⟩
  | 26 => some ⟨true, [1], []⟩
  | 27 => some ⟨true, [], [(4, [0, 1, 12, 13])]⟩
  | 28 => some ⟨true, [1], []⟩
  | 29 => some ⟨true, [2, 3, 10, 11], []⟩
  | 30 => some ⟨true, [3], []⟩
  | 31 => some ⟨true, [], [(4, [0, 1, 12, 13])]⟩
  | 33 => some ⟨true, [], [(3, [0, 3, 4])]⟩
  | 36 => some ⟨true, [1, 37, 48, 55], [(5, [1, 3, 4])]⟩
  | 37 => some ⟨true, [5, 54, 63, 69], [(8, [0, 5, 7, 8, 9])]⟩
  | 38 => some ⟨true, [], [(3, [0, 3, 4])]⟩
  | 39 => some ⟨true, [], []⟩
  | 40 => some ⟨true, [], []⟩
  | 41 => some ⟨true, [], []⟩
  | 42 => some ⟨true, [], []⟩
  | 43 => some ⟨true, [], []⟩
  | 44 => some ⟨true, [], []⟩
  | 45 => some ⟨true, [1], [(2, [1, 6, 7, 8])]⟩
  | 47 => some ⟨true, [1], [(5, [4, 14, 15, 16])]⟩
  | 48 => some ⟨true, [1, 16, 27, 35], [(3, [1, 4, 5])]⟩
  | 49 => some ⟨true, [1], []⟩
  | 50 => some ⟨true, [5], [(7, [0, 2, 3, 5, 11, 13, 15, 16])]⟩
  | 51 => some ⟨true, [], []⟩
  | 52 => some ⟨true, [], []⟩
  | 53 => some ⟨true, [], []⟩
  | 54 => some ⟨true, [2, 3], []⟩
  | 55 => some ⟨true, [3, 23], []⟩
  | 56 => some ⟨true, [2], []⟩
  | 57 => some ⟨true, [1, 4, 7], []⟩
  | 58 => some ⟨true, [3, 18, 35], [(2, [0, 3, 6])]⟩
  | 59 => some ⟨true, [], [(3, [0, 3, 4])]⟩
  | 60 => some ⟨true, [], []⟩
  | 61 => some ⟨true, [1], []⟩
  | 62 => some ⟨true, [1], []⟩
  | 63 => some ⟨true, [], []⟩
  | 64 => some ⟨true, [2], []⟩
  | 65 => some ⟨true, [], []⟩
  | 66 => some ⟨true, [2, 3, 6, 9], []⟩
  | 67 => some ⟨true, [], []⟩
  | 68 => some ⟨true, [1], []⟩
  | 69 => some ⟨true, [4, 20, 41, 45], [(2, [0, 2, 4, 7])]⟩
  | 70 => some ⟨true, [1], [(5, [1, 3, 37, 38, 39])]⟩
  | 73 => some ⟨true, [2, 3, 5, 7], []⟩
  | 74 => some ⟨true, [], [(3, [0, 4, 5])]⟩
  | 75 => some ⟨true, [4], []⟩
  | 76 => some ⟨true, [], []⟩
  | 77 => some ⟨true, [], []⟩
  | 78 => some ⟨true, [], [(3, [0, 4, 7, 8, 9])]⟩
  | 79 => some ⟨true, [1], []⟩
  | 80 => some ⟨true, [], [(2, [0, 1, 5])]⟩
  | 81 => some ⟨true, [1], []⟩
  | 82 => some ⟨true, [], [(3, [4, 9, 10, 11])]⟩
  | 83 => some ⟨true, [], [(3, [0, 4, 5])]⟩
  | 84 => some ⟨true, [3, 17], [(2, [0, 3, 5])]⟩
  | 85 => some ⟨true, [1, 13, 20], [(3, [1, 3, 4])]⟩
  | 86 => some ⟨true, [], []⟩
  | 87 => some ⟨true, [3, 5, 22, 18], []⟩
  | 88 => some ⟨true, [], []⟩
  | 89 => some ⟨true, [], []⟩
  | 90 => some ⟨true, [], [(3, [0, 3, 5])]⟩
  | 91 => some ⟨true, [1, 4, 7], []⟩
  | 92 => some ⟨true, [], [(2, [0, 1, 7, 8])]⟩
  | 93 => some ⟨false, [2], []⟩
  | 94 => some ⟨false, [], []⟩
  | 95 => some ⟨true, [2], [(3, [1, 5, 7, 8])]⟩
  | 96 => some ⟨true, [], [(2, [0, 1, 2, 3, 4, 10, 11])]⟩
  | 97 => some ⟨true, [], []⟩
  | 98 => some ⟨true, [], []⟩
  | 99 => some ⟨true, [1], [(3, [1, 3, 4])]⟩
  | 100 => some ⟨true, [], [(2, [0, 1, 5])]⟩
  | 101 => some ⟨true, [1], []⟩
  | 102 => some ⟨true, [2, 3, 6, 9], []⟩
  | 103 => some ⟨true, [2, 3], [(5, [4, 6, 7, 8, 9])]⟩
  | 104 => some ⟨true, [], []⟩
  | 105 => some ⟨true, [2], [(6, [1, 2, 4, 7, 8, 9])]⟩
  | 106 => some ⟨true, [], []⟩
  | 107 => some ⟨true, [], [(2, [0, 1, 5])]⟩
  | 108 => some ⟨true, [1], []⟩
  | 109 => some ⟨true, [], []⟩
  | 110 => some ⟨true, [2], []⟩
  | 111 => some ⟨true, [], []⟩
  | 112 => some ⟨true, [], [(3, [0, 3, 6, 7])]⟩
  | 113 => some ⟨true, [28], []⟩
  | 114 => some ⟨true, [], [(3, [0, 3, 4])]⟩
  | 115 => some ⟨false, [], [(1, [0, 1, 2, 3, 8]), (4, [0, 1, 2, 3, 8, 9])]⟩
  | 116 => some ⟨false, [], [(4, [0, 3, 8, 9, 10, 11]), (8, [0, 3, 8, 9, 12])]⟩
  | 117 => some ⟨false, [], [(5, [0, 1, 8, 9, 10, 11])]⟩
  | 118 => some ⟨true, [], []⟩
  | 119 => some ⟨false, [], [(2, [0, 8, 9])]⟩
  | 120 => some ⟨false, [], [(3, [0, 1, 2, 3, 9, 10]), (5, [0, 1, 2, 3, 9, 10]), (14, [0, 1, 2, 3, 9, 10, 11]), (20, [0, 1, 2, 3, 9, 10, 12])]⟩
  | 121 => some ⟨false, [], [(3, [0, 1, 4, 11, 12]), (5, [0, 1, 4, 11, 12])]⟩
  | 122 => some ⟨false, [], [(3, [0, 1, 4, 12, 13]), (5, [0, 1, 4, 12, 13]), (13, [0, 1, 4, 12, 13]), (15, [0, 1, 4, 12, 13])]⟩
  | 123 => some ⟨true, [], []⟩
  | 124 => some ⟨true, [], []⟩
  | 125 => some ⟨true, [], []⟩
  | 126 => some ⟨true, [1], []⟩
  | 127 => some ⟨true, [], [(2, [0, 2, 4])]⟩
  | 128 => some ⟨true, [], [(4, [0, 3, 4, 5])]⟩
  | 129 => some ⟨true, [2, 14, 18], []⟩
  | 130 => some ⟨true, [], []⟩
  | 131 => some ⟨true, [2], [(5, [4, 6, 7, 8, 9])]⟩
  | 132 => some ⟨true, [], [(2, [0, 1, 7, 8])]⟩
  | 133 => some ⟨false, [], [(1, [0, 2, 3, 4, 10])]⟩
  | 134 => some ⟨true, [], []⟩
  | 135 => some ⟨false, [], []⟩
  | 136 => some ⟨true, [], []⟩
  | 137 => some ⟨true, [], []⟩
  | 138 => some ⟨true, [], [(17, [2, 8, 9, 10, 11, 13, 14, 15, 16]), (24, [2, 8, 9, 10, 14, 15, 16, 17, 18])]⟩
  | 139 => some ⟨true, [], []⟩
  | 140 => some ⟨false, [], [(3, [0, 1, 5, 6]), (8, [0, 1, 5, 7, 8])]⟩
  | 141 => some ⟨false, [], []⟩
  | 142 => some ⟨true, [], []⟩
  | _ => none
def moPrims : FuncId → Option (List D → Option D)
  | 111 => some add64D
  | 125 => some cmpStrD
  | _ => none
def moH : Hints := ⟨moInfo, moPrims⟩
theorem moExt : ∀ k f, moPrims k = some f → ∀ args d, f args = some d → ExtOk Try.prog k args d := by
    intro k f hf
    have hk : (k = 111 ∧ f = add64D) ∨ (k = 125 ∧ f = cmpStrD) := by
      unfold moPrims at hf
      split at hf
      · cases hf; exact .inl ⟨rfl, rfl⟩
      · cases hf; exact .inr (⟨rfl, rfl⟩)
      · cases hf
    rcases hk with ⟨rfl, rfl⟩ | ⟨rfl, rfl⟩
    · exact ext_add64 Try.func111 (by kernel_rfl) (by kernel_rfl) (by kernel_rfl) (by kernel_rfl)
    · exact ext_cmpStr Try.func125 (by kernel_rfl) (by kernel_rfl) (by kernel_rfl) (by kernel_rfl)
end Go.Ab
