/-
  The functions of the shelf and the coins: hints; and what is known by computing alone.
-/
import Derived.Test.YtbopjdnjkajneaaAbRun
import Derived.Test.YtbopjdnjkajneaaAbSim
import Derived.Test.YtbopjdnjkajneaaAbPrim
import Derived.Test.YtbopjdnjkajneaaProg
import Derived.KernelRfl
namespace Go.Ab
open Go Go.Proofs
set_option maxRecDepth 100000
def shInfo : FuncId → Option FInfo
  | 3 => some ⟨true, [], []⟩
  | 4 => some ⟨true, [], [(7, [3, 4, 23, 24, 25])]⟩
  | 5 => some ⟨true, [], [(8, [3, 4, 24, 25, 26]), (23, [4, 91, 92, 93])]⟩
  | 6 => some ⟨true, [48], [(5, [0, 1, 5, 22, 23, 24]), (13, [0, 8, 49, 50, 51]), (22, [8, 13, 14, 15, 88, 89, 90]), (30, [13, 130, 131, 132])]⟩
  | 7 => some ⟨true, [3], [(8, [3, 4, 5, 6, 26, 27, 28]), (15, [3, 4, 5, 6, 47])]⟩
  | 8 => some ⟨true, [], []⟩
  | 9 => some ⟨true, [], [(8, [5, 7, 42, 43, 44])]⟩
  | 10 => some ⟨true, [], [(9, [5, 7, 8, 9, 10, 41, 42, 43]), (18, [5, 7, 8, 9, 10, 12, 13, 41, 42, 43, 69, 70, 71]), (23, [5, 7, 8, 9, 10, 12, 13, 18, 41, 42, 43])]⟩
  | 11 => some ⟨true, [4], [(11, [2, 4, 7, 9, 10, 48, 49])]⟩
  | 12 => some ⟨true, [3], []⟩
  | 14 => some ⟨true, [], []⟩
  | 15 => some ⟨true, [3, 22], []⟩
  | 16 => some ⟨true, [2], []⟩
  | 17 => some ⟨true, [2], []⟩
  | 18 => some ⟨true, [2], [(3, [1, 7, 8])]⟩
  | 19 => some ⟨true, [], []⟩
  | 20 => some ⟨true, [], [(3, [0, 3, 6, 7, 8])]⟩
  | 21 => some ⟨true, [], []⟩
  | 22 => some ⟨true, [], []⟩
  | 23 => some ⟨true, [], []⟩
  | 24 => some ⟨true, [], []⟩
  | 25 => some ⟨true, [1], []⟩
  | 26 => some ⟨true, [2, 3], []⟩
  | 27 => some ⟨true, [1], []⟩
  | 28 => some ⟨true, [], [(3, [2, 4, 9, 10, 11])]⟩
  | 29 => some ⟨true, [], []⟩
  | 30 => some ⟨true, [], [(3, [2, 4, 7, 12, 13, 14])]⟩
  | 31 => some ⟨true, [], []⟩
  | 32 => some ⟨true, [], [(2, [0, 5, 6, 7])]⟩
  | 33 => some ⟨true, [], [(3, [0, 4, 5])]⟩
  | 34 => some ⟨true, [], [(3, [0, 1, 7, 8])]⟩
  | 35 => some ⟨true, [], [(4, [0, 1, 12, 13])]⟩
  | 36 => some ⟨true, [2], []⟩
  | 37 => some ⟨true, [4], [(2, [2, 3, 4, 6, 16, 17]), (11, [3, 4, 6, 35, 36, 37])]⟩
  | 38 => some ⟨true, [4], [(2, [0, 2, 4, 8]), (8, [0, 2, 4, 11]), (13, [0, 2, 4, 12])]⟩
  | 39 => some ⟨true, [1], []⟩
  | 40 => some ⟨true, [1], []⟩
  | 41 => some ⟨true, [], [(4, [0, 1, 12, 13])]⟩
  | 42 => some ⟨true, [1], []⟩
  | 43 => some ⟨true, [2, 3], []⟩
  | 44 => some ⟨true, [3], []⟩
  | 45 => some ⟨true, [], [(4, [0, 1, 12, 13])]⟩
  | 47 => some ⟨true, [], [(3, [0, 3, 4])]⟩
  | 48 => some ⟨true, [], []⟩
  | 49 => some ⟨true, [], [(3, [0, 3, 6, 7])]⟩
  | 50 => some ⟨true, [], []⟩
  | 51 => some ⟨true, [], [(2, [0, 1, 6])]⟩
  | 52 => some ⟨true, [], []⟩
  | 53 => some ⟨false, [2], []⟩
  | 54 => some ⟨false, [], []⟩
  | 55 => some ⟨true, [2, 3], []⟩
  | 56 => some ⟨true, [2], []⟩
  | 57 => some ⟨true, [1], []⟩
  | 58 => some ⟨true, [3], []⟩
  | 59 => some ⟨true, [3], [(2, [0, 3, 6])]⟩
  | 60 => some ⟨true, [], [(3, [0, 3, 4])]⟩
  | 61 => some ⟨true, [], []⟩
  | 62 => some ⟨true, [1], []⟩
  | 63 => some ⟨true, [1], []⟩
  | 64 => some ⟨true, [], []⟩
  | 65 => some ⟨true, [2], []⟩
  | 66 => some ⟨true, [], []⟩
  | 67 => some ⟨true, [2, 3], []⟩
  | 68 => some ⟨true, [], []⟩
  | 69 => some ⟨true, [1], []⟩
  | 70 => some ⟨true, [4], [(2, [0, 2, 4, 7])]⟩
  | 71 => some ⟨true, [28], []⟩
  | 72 => some ⟨true, [], []⟩
  | 73 => some ⟨true, [3, 5, 22], []⟩
  | 74 => some ⟨true, [], []⟩
  | 75 => some ⟨true, [], []⟩
  | 76 => some ⟨true, [], [(3, [0, 3, 5])]⟩
  | 77 => some ⟨true, [1], []⟩
  | 78 => some ⟨true, [], [(2, [0, 1, 7, 8])]⟩
  | 79 => some ⟨false, [2], []⟩
  | 80 => some ⟨false, [], []⟩
  | 81 => some ⟨true, [2], [(3, [1, 5, 7, 8])]⟩
  | 82 => some ⟨true, [], [(2, [0, 1, 2, 3, 4, 10, 11])]⟩
  | 83 => some ⟨true, [], []⟩
  | 84 => some ⟨true, [], []⟩
  | 85 => some ⟨true, [1], [(3, [1, 3, 4])]⟩
  | 86 => some ⟨true, [], []⟩
  | 87 => some ⟨true, [28], []⟩
  | 88 => some ⟨true, [], [(3, [0, 3, 4])]⟩
  | 89 => some ⟨false, [], [(1, [0, 1, 2, 3, 8]), (4, [0, 1, 2, 3, 8, 9])]⟩
  | 90 => some ⟨false, [], [(4, [0, 3, 8, 9, 10, 11]), (8, [0, 3, 8, 9, 12])]⟩
  | 91 => some ⟨false, [], [(5, [0, 1, 8, 9, 10, 11])]⟩
  | 92 => some ⟨true, [], []⟩
  | 93 => some ⟨false, [], [(2, [0, 8, 9])]⟩
  | 94 => some ⟨false, [], [(3, [0, 1, 2, 3, 9, 10]), (5, [0, 1, 2, 3, 9, 10]), (14, [0, 1, 2, 3, 9, 10, 11]), (20, [0, 1, 2, 3, 9, 10, 12])]⟩
  | 95 => some ⟨false, [], [(3, [0, 1, 4, 11, 12]), (5, [0, 1, 4, 11, 12])]⟩
  | 96 => some ⟨false, [], [(3, [0, 1, 4, 12, 13]), (5, [0, 1, 4, 12, 13]), (13, [0, 1, 4, 12, 13]), (15, [0, 1, 4, 12, 13])]⟩
  | 97 => some ⟨true, [], []⟩
  | 98 => some ⟨true, [], []⟩
  | 99 => some ⟨true, [], []⟩
  | 100 => some ⟨false, [], [(1, [0, 2, 3, 4, 10])]⟩
  | 101 => some ⟨true, [], []⟩
  | 102 => some ⟨false, [], []⟩
  | 103 => some ⟨true, [], []⟩
  | 104 => some ⟨true, [], []⟩
  | 105 => some ⟨false, [], []⟩
  | _ => none
def shPrims : FuncId → Option (List D → Option D)
  | 86 => some add64D
  | 99 => some cmpStrD
  | _ => none
def shH : Hints := ⟨shInfo, shPrims⟩

theorem shPrim : PrimOk Try.prog shH where
  ok := by
    intro k f hf
    have hk : (k = 86 ∧ f = add64D) ∨ (k = 99 ∧ f = cmpStrD) := by
      simp only [shH] at hf
      unfold shPrims at hf
      split at hf
      · cases hf; exact .inl ⟨rfl, rfl⟩
      · cases hf; exact .inr ⟨rfl, rfl⟩
      · cases hf
    rcases hk with ⟨rfl, rfl⟩ | ⟨rfl, rfl⟩
    · exact .inr (ext_add64 Try.func86 (by kernel_rfl) (by kernel_rfl) (by kernel_rfl) (by kernel_rfl))
    · exact .inr (ext_cmpStr Try.func99 (by kernel_rfl) (by kernel_rfl) (by kernel_rfl) (by kernel_rfl))
end Go.Ab
