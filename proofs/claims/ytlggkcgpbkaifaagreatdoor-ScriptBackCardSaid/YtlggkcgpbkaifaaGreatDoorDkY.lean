/-
  What the rows list of the library's variables gives what the evaluation leans on.
-/
import Derived.Test.YtlggkcgpbkaifaaGreatDoorRows
import Derived.Test.YtlggkcgpbkaifaaGreatDoorDkB
import Derived.Test.YtlggkcgpbkaifaaGreatDoorAbSim
set_option linter.unusedSimpArgs false
set_option linter.unusedVariables false
namespace Go.Ab.Dk
open Go Go.Proofs Go.Proofs.YtlggkcgpbkaifaaGreatDoor
set_option maxRecDepth 100000
theorem g0 : Tryz.prog.globalNamed "internal/bytealg.MaxLen" = some 0 := by kernel_rfl
theorem g1 : Tryz.prog.globalNamed "strconv.ErrSyntax" = some 1 := by kernel_rfl
theorem g2 : Tryz.prog.globalNamed "strconv.ErrRange" = some 2 := by kernel_rfl
theorem g3 : Tryz.prog.globalNamed "internal/strconv.uint64pow10" = some 3 := by kernel_rfl
theorem z0 : ((begin Tryz.prog (fun _ _ => 0) default).world.heap[0]?).bind Obj.row? = some (#[.int .i64 0], 3) := by kernel_rfl
theorem dk_laid {W : World} (hsh : W.ShapedOpen Tryz.prog) (h : laidMetH Tryz.prog Rows.scriptKnownRow.laid W) : dkG fun k => W.heap[k]? := by
  refine ⟨?_, ?_, ?_, ?_⟩
  · exact open_one hsh (of_decide_eq_true (by kernel_rfl)) z0 rfl (by kernel_rfl) (by kernel_rfl) Tryz.underlying3
  · have hl := laid_one (l := Rows.scriptKnownRow.laid) "strconv.ErrSyntax" (r := [("strconv.ErrSyntax", .iface "*errors.errorString" (.ptr (.agg [.lit (.string [105, 110, 118, 97, 108, 105, 100, 32, 115, 121, 110, 116, 97, 120])])))]) (by kernel_rfl) h
    obtain ⟨tp, p, hv⟩ := laid_iface hl g1 (ti := 73) (by kernel_rfl) Tryz.underlying73
    obtain ⟨e, f, hb⟩ := at_var g1 hv
    exact ⟨_, _, e, f, hb⟩
  · have hl := laid_one (l := Rows.scriptKnownRow.laid) "strconv.ErrRange" (r := [("strconv.ErrRange", .iface "*errors.errorString" (.ptr (.agg [.lit (.string [118, 97, 108, 117, 101, 32, 111, 117, 116, 32, 111, 102, 32, 114, 97, 110, 103, 101])])))]) (by kernel_rfl) h
    obtain ⟨tp, p, hv⟩ := laid_iface hl g2 (ti := 73) (by kernel_rfl) Tryz.underlying73
    obtain ⟨e, f, hb⟩ := at_var g2 hv
    exact ⟨_, _, e, f, hb⟩
  · have hl := laid_one (l := Rows.scriptKnownRow.laid) "internal/strconv.uint64pow10" (r := [("internal/strconv.uint64pow10", Lib.tabData .u64 Lib.pow10Tab)]) (by kernel_rfl) h
    have ht := Lib.tabIs_of_head g3 (t := 526) (e := 26) (n := 20) (by kernel_rfl) Tryz.underlying526 Tryz.underlying26 (by kernel_rfl) (by kernel_rfl) hl
    obtain ⟨e, f, hb⟩ := at_var g3 ht
    exact ⟨e, f, hb⟩
end Go.Ab.Dk
