/-
  What types a type leads to, found in a few steps.
-/
import Derived.Test.YtpchdmndbocedaaGreatNaJ
set_option linter.unusedSimpArgs false
set_option linter.unusedVariables false
namespace Go.Ab.Nk.Jb
open Go Go.Proofs
set_option maxRecDepth 100000
theorem grown_fix {P : Program} {L : List TypeId} (h : P.grow L = L) : ∀ d, P.grown d L = L
  | 0 => rfl
  | d + 1 => by
    show P.grown d (P.grow L) = L
    rw [h, grown_fix h d]
theorem grown_add {P : Program} (b : Nat) : ∀ (a : Nat) (L : List TypeId), P.grown (a + b) L = P.grown b (P.grown a L)
  | 0, L => by rw [Nat.zero_add]; rfl
  | a + 1, L => by
    rw [Nat.succ_add]
    show P.grown (a + b) (P.grow L) = P.grown b (P.grown a (P.grow L))
    exact grown_add b a _
theorem book_of {t : TypeId} {L : List TypeId} (h1 : Tryz.prog.grown 6 [t] = L) (h2 : Tryz.prog.grow L = L) : Tryz.prog.book t = L:=by
 unfold Program.book
 rw [J.size,show 829 = 6 + 823 from rfl,grown_add,h1,grown_fix h2]
theorem b3 : Tryz.prog.book 3 = [3]:=book_of (by kernel_rfl) (by kernel_rfl)
theorem b4 : Tryz.prog.book 4 = [4]:=book_of (by kernel_rfl) (by kernel_rfl)
theorem b5 : Tryz.prog.book 5 = [5]:=book_of (by kernel_rfl) (by kernel_rfl)
theorem b9 : Tryz.prog.book 9 = [9]:=book_of (by kernel_rfl) (by kernel_rfl)
theorem b22 : Tryz.prog.book 22 = [22]:=book_of (by kernel_rfl) (by kernel_rfl)
theorem b24 : Tryz.prog.book 24 = [24,5]:=book_of (by kernel_rfl) (by kernel_rfl)
theorem b26 : Tryz.prog.book 26 = [26,24,22,9,5]:=book_of (by kernel_rfl) (by kernel_rfl)
theorem b28 : Tryz.prog.book 28 = [28,22,24,26,9,5]:=book_of (by kernel_rfl) (by kernel_rfl)
theorem b29 : Tryz.prog.book 29 = [29,24,5]:=book_of (by kernel_rfl) (by kernel_rfl)
theorem b31 : Tryz.prog.book 31 = [31,9,28,3,29,22,24,26,5]:=book_of (by kernel_rfl) (by kernel_rfl)
theorem read31 : Tryz.prog.readableRec 31 = true:=by
 unfold Program.readableRec
 rw [b31]
 kernel_rfl
theorem read24 : Tryz.prog.readableRec 24 = true:=by
 unfold Program.readableRec
 rw [b24]
 kernel_rfl
theorem loops31 : Tryz.prog.loopsFrom 31 = false:=by
 unfold Program.loopsFrom
 have e : ∀ u ∈ [31,9,28,3,29,22,24,26,5],((Tryz.prog.partsOf u).any fun v => (Tryz.prog.book v).contains u) = false:=by
  intro u hu
  simp only [List.mem_cons,List.not_mem_nil,or_false] at hu
  have p31 : Tryz.prog.partsOf 31 = [9,28,3,29,22]:=by kernel_rfl
  have p9 : Tryz.prog.partsOf 9 = []:=by kernel_rfl
  have p28 : Tryz.prog.partsOf 28 = [22,22,24,24,24,22,22,26,9]:=by kernel_rfl
  have p3 : Tryz.prog.partsOf 3 = []:=by kernel_rfl
  have p29 : Tryz.prog.partsOf 29 = [24]:=by kernel_rfl
  have p22 : Tryz.prog.partsOf 22 = []:=by kernel_rfl
  have p24 : Tryz.prog.partsOf 24 = [5]:=by kernel_rfl
  have p26 : Tryz.prog.partsOf 26 = [24,22,22,9]:=by kernel_rfl
  have p5 : Tryz.prog.partsOf 5 = []:=by kernel_rfl
  rcases hu with rfl | rfl | rfl | rfl | rfl | rfl | rfl | rfl | rfl <;>
   simp only [p31,p9,p28,p3,p29,p22,p24,p26,p5,List.any_cons,List.any_nil,b3,b5,b9,b22,b24,b26,b28,b29,b31] <;> rfl
 rw [b31,List.any_eq_false]
 intro u hu
 rw [e u hu]; decide
theorem loops24 : Tryz.prog.loopsFrom 24 = false:=by
 unfold Program.loopsFrom
 have p24 : Tryz.prog.partsOf 24 = [5]:=by kernel_rfl
 have p5 : Tryz.prog.partsOf 5 = []:=by kernel_rfl
 rw [b24]
 simp only [List.any_cons,List.any_nil,p24,p5,b5]
 rfl
theorem maps31 : Tryz.prog.mapsRec 31 = false:=by
 unfold Program.mapsRec; rw [b31]; kernel_rfl
theorem maps24 : Tryz.prog.mapsRec 24 = false:=by
 unfold Program.mapsRec; rw [b24]; kernel_rfl
theorem ifaces31 : Tryz.prog.ifacesRec 31 = false:=by
 unfold Program.ifacesRec; rw [b31]; kernel_rfl
theorem ifaces24 : Tryz.prog.ifacesRec 24 = false:=by
 unfold Program.ifacesRec; rw [b24]; kernel_rfl
theorem wide31 : Tryz.prog.wideKeysFrom 31 = false:=by
 unfold Program.wideKeysFrom; rw [b31]; kernel_rfl
theorem wide24 : Tryz.prog.wideKeysFrom 24 = false:=by
 unfold Program.wideKeysFrom; rw [b24]; kernel_rfl
theorem wide4 : Tryz.prog.wideKeysFrom 4 = false:=by
 unfold Program.wideKeysFrom; rw [b4]; kernel_rfl
theorem veil31 : Tryz.prog.veiledRec 31 = false:=by
 unfold Program.veiledRec; rw [b31]; kernel_rfl
theorem veil24 : Tryz.prog.veiledRec 24 = false:=by
 unfold Program.veiledRec; rw [b24]; kernel_rfl
theorem veil4 : Tryz.prog.veiledRec 4 = false:=by
 unfold Program.veiledRec; rw [b4]; kernel_rfl
theorem own31 : Tryz.prog.veiledOwn 31 = true:=by unfold Program.veiledOwn; rw [veil31]; rfl
theorem own24 : Tryz.prog.veiledOwn 24 = true:=by unfold Program.veiledOwn; rw [veil24]; rfl
theorem own4 : Tryz.prog.veiledOwn 4 = true:=by unfold Program.veiledOwn; rw [veil4]; rfl
end Go.Ab.Nk.Jb
