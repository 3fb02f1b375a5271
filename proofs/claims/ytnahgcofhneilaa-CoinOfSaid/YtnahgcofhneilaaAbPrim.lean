/-
  A call that is known by a contract of another kind: it hands back a datum, and leaves what was there.
-/
import Derived.Test.YtnahgcofhneilaaAbSim
import Derived.Below
import Derived.Laws.Externs
import Derived.Lib.Bytealg
namespace Go.Ab
theorem callPost_same {base : Base} {fl : Fl} {E : Env} {st : St} {w w' : World} {d : D} {v : Value} (h : Here base fl E st w) (hdr : base.dr = false) (b : RowKit.Below w.heap.size w w') (r : Rel E st w' d v) : CallPost base fl E st w d st (.returned v) w' := by
  obtain ⟨S, h1, h2⟩ := h
  have hs : Same base w w' := ⟨b.size, b.os, b.tape, b.output, (fun h => by rw [hdr] at h; cases h), b.block⟩
  exact ⟨v, E, rfl, Ext.same S h1 h2 hs, S.same hs, r⟩
end Go.Ab

/-! ### Functions without a body that the model knows -/
namespace Go.Ab
/-- math/bits.Add64 -/
def add64D : List D → Option D
  | [.int .u64 x, .int .u64 y, .int .u64 c] => if 0 ≤ x ∧ 0 ≤ y ∧ 0 ≤ c ∧ c ≤ 1 then some (.tuple [.int .u64 ((x + y + c) % 18446744073709551616), .int .u64 ((x + y + c) / 18446744073709551616)]) else none
  | _ => none
/-- internal/bytealg.abigen_runtime_cmpstring, strings.Compare -/
def cmpStrD : List D → Option D
  | [.str a, .str b] => some (.int .i64 (Lib.compareBytes a b))
  | _ => none

theorem ext_add64 {P : Program} {k : FuncId} {fn : Func} (hf : P.funcs[k]? = some fn) (hname : (fn.name == "runtime.NumGoroutine") = false) (hb : fn.body.isNone = true) (hn : Extern.findNext fn = none) (he : Extern.find fn = some add64Entry) :
    ∀ args d, add64D args = some d → ExtOk P k args d := by
  intro args d h
  unfold add64D at h
  split at h <;> (try contradiction)
  rename_i x y c
  split at h <;> (try contradiction)
  rename_i hc
  cases h
  refine ⟨fun b => by simp, fun E st w vs hr => ?_⟩
  obtain ⟨v1, vs, rfl, r1, hr⟩ := hr.cons_inv
  obtain ⟨v2, vs, rfl, r2, hr⟩ := hr.cons_inv
  obtain ⟨v3, vs, rfl, r3, hr⟩ := hr.cons_inv
  cases hr.nil_inv
  cases r1; cases r2; cases r3
  refine ⟨.tuple #[.int .u64 ((x + y + c) % 18446744073709551616), .int .u64 ((x + y + c) / 18446744073709551616)], ?_, ?_⟩
  · rw [run_callFunc_extern hf hname hb hn he, run_add64 x y c hc.1 hc.2.1 hc.2.2.1 hc.2.2.2]
    rfl
  · have hl : RelL E st w [.int .u64 ((x + y + c) % 18446744073709551616), .int .u64 ((x + y + c) / 18446744073709551616)] [.int .u64 ((x + y + c) % 18446744073709551616), .int .u64 ((x + y + c) / 18446744073709551616)] := RelL.cons (.int _ _) (RelL.cons (.int _ _) .nil)
    exact .tuple _ _ hl.1 hl.2

theorem ext_cmpStr {P : Program} {k : FuncId} {fn : Func} (hf : P.funcs[k]? = some fn) (hname : (fn.name == "runtime.NumGoroutine") = false) (hb : fn.body.isNone = true) (hn : Extern.findNext fn = none) (he : Extern.find fn = some Extern.BytealgCompare.compare) :
    ∀ args d, cmpStrD args = some d → ExtOk P k args d := by
  intro args d h
  unfold cmpStrD at h
  split at h <;> (try contradiction)
  rename_i x y
  cases h
  refine ⟨fun b => by simp, fun E st w vs hr => ?_⟩
  obtain ⟨v1, vs, rfl, r1, hr⟩ := hr.cons_inv
  obtain ⟨v2, vs, rfl, r2, hr⟩ := hr.cons_inv
  cases hr.nil_inv
  cases r1; cases r2
  refine ⟨.int .i64 (Lib.compareBytes x y), ?_, .int _ _⟩
  rw [run_callFunc_extern hf hname hb hn he, Lib.run_compareString]
  rfl
end Go.Ab

/-! ### Frozen data is handed back as it is -/
namespace Go.Ab
theorem out1_flat {fl : Fl} {st : St} {d : D} (h : d.flat = true) : out1 fl st d = some d := by
  cases d with
  | list n cs t =>
    simp only [D.flat, Bool.and_eq_true] at h
    cases t with
    | own r => simp at h
    | _ => simp [out1, h.2]
  | ref b off => simp [D.flat] at h
  | sl b off n sz t => simp [D.flat] at h
  | map r => cases r with
    | none => rfl
    | some b => simp [D.flat] at h
  | _ => simp [out1, h]
theorem mapM_flat {f : D → Option D} (hf : ∀ d, d.flat = true → f d = some d) : ∀ {cs : List D}, flatL cs = true → cs.mapM f = some cs
  | [], _ => rfl
  | d :: cs, h => by
    simp only [flatL, Bool.and_eq_true] at h
    simp [List.mapM_cons, hf d h.1, mapM_flat hf h.2]
theorem out2_flat {fl : Fl} {st : St} {d : D} (h : d.flat = true) : out2 fl st d = some d := by
  cases d with
  | agg cs =>
    simp only [D.flat] at h
    simp [out2, mapM_flat (fun d => out1_flat) h]
  | _ => exact out1_flat (fl := fl) (st := st) h
theorem outD_flat {fl : Fl} {st : St} {d : D} (h : d.flat = true) : outD fl st d = some d := by
  cases d with
  | tuple cs =>
    simp only [D.flat] at h
    simp [outD, mapM_flat (fun d => out2_flat) h]
  | _ => exact out2_flat (fl := fl) (st := st) h
end Go.Ab
namespace Go.Ab
theorem fin {P : Program} {rs : List ResultVar} {fl : Fl} {d : D} {fr : Fr} {st : St} {l : List D} (h1 : rs.mapM (resultOne P fr st) = some l) (h2 : pack l = d) (h3 : d.flat = true) : Ends P rs fl d .ret fr st :=
  ⟨trivial, l, h1, by rw [h2]; exact outD_flat h3⟩
end Go.Ab
