/-
  script.Read gone through.
-/
import Derived.Test.YtlggkcgpbkaifaaGreatDoorBkL
set_option linter.unusedSimpArgs false
set_option linter.unusedVariables false
namespace Go.Ab.Bk
open Go Go.Proofs Go.Ab Go.Ab.Dk
set_option maxRecDepth 100000
set_option maxHeartbeats 4000000
theorem sp4_0 (a b c d x : D) : splice [a, b, c, d] 0 [x] = [x, b, c, d] := rfl
theorem sp4_1 (a b c d x : D) : splice [a, b, c, d] 1 [x] = [a, x, c, d] := rfl
theorem sp4_2 (a b c d x : D) : splice [a, b, c, d] 2 [x] = [a, b, x, d] := rfl
theorem sp4_3 (a b c d x : D) : splice [a, b, c, d] 3 [x] = [a, b, c, x] := rfl
theorem sp4_a (a b c d x y z w : D) : splice [a, b, c, d] 0 [x, y, z, w] = [x, y, z, w] := rfl
theorem pt52 (a b c d : D) : partD Tryz.prog 52 [a, b, c, d] 0 = some (.agg [a, b, c, d]) := by rw [pt_52]; rfl
theorem wq {w l : Txt} {b : Bool} (h : decide (w = l) = b) : strBin .eql w l = some (.bool b) := by rw [← h]; rfl
theorem ie0 : intBin .neq .i64 0 0 = some (.bool false) := rfl
theorem ie5 : intBin .neq .i64 5 0 = some (.bool true) := rfl
theorem r_cut (fl : Fl) (st : St) (s : Txt) (hs : s.length ≤ 1000000) : run Tryz.prog bkH fl 33 [.str s, .str [32]] st = some (match cutAt [32] [] s with | some (a, b) => .tuple [.str a, .str b, .bool true] | none => .tuple [.str s, .str [], .bool false], st) := by
  refine run_prim (f := cutD) rfl ?_
  show (if s.length < 4294967281 then some _ else none) = _
  rw [if_pos (by omega)]
  rfl
theorem r_puint (fl : Fl) (st : St) (s : Txt) (hs : s.length ≤ 1000000) : run Tryz.prog bkH fl 35 [.str s, .int .i64 10, .int .i64 64] st = some (match Lib.parseUintB 64 s with
    | .ok u => .tuple [.int .u64 u, .ifc true]
    | Lib.NumEnd.syntax => .tuple [.int .u64 0, .ifc false]
    | .range => .tuple [.int .u64 18446744073709551615, .ifc false], st) := by
  refine run_prim (f := puintD) rfl ?_
  show (if (10 : Int) = 10 ∧ (64 : Int) = 64 ∧ s.length ≤ 281474976710656 then some _ else none) = _
  rw [if_pos ⟨rfl, rfl, by omega⟩]
  rfl
theorem r_pint (fl : Fl) (st : St) (s : Txt) (hs : s.length ≤ 1000000) : run Tryz.prog bkH fl 37 [.str s, .int .i64 10, .int .i64 64] st = some (match Lib.parseIntB 64 s with
    | .ok u => .tuple [.int .i64 u, .ifc true]
    | Lib.NumEnd.syntax => .tuple [.int .i64 0, .ifc false]
    | .range => .tuple [.int .i64 (Lib.intSat 64 s), .ifc false], st) := by
  refine run_prim (f := pintD) rfl ?_
  show (if (10 : Int) = 10 ∧ (64 : Int) = 64 ∧ s.length ≤ 281474976710656 then some _ else none) = _
  rw [if_pos ⟨rfl, rfl, by omega⟩]
  rfl
theorem r_split (fl : Fl) (st : St) (s : Txt) (hs : s.length ≤ 1000000) : run Tryz.prog bkH fl 18 [.str s, .str [44]] st = some (.list (splitC s).length ((splitC s).map .str) .cut, st) := by
  refine run_prim (f := splitD) rfl ?_
  show (if s.length < 4294967281 ∧ 1 ≤ [(44 : UInt8)].length then some (D.list (pieces [44] (cntF [44] (s.length + 1) s) s).length ((pieces [44] (cntF [44] (s.length + 1) s) s).map .str) .cut) else none) = _
  rw [if_pos ⟨by omega, by decide⟩, pieces_split _ s (Nat.lt_succ_self _)]
theorem split_len : ∀ s : Txt, (splitC s).length ≤ s.length + 1 ∧ ∀ w ∈ splitC s, w.length ≤ s.length
  | [] => by simp [splitC]
  | c :: r => by
    obtain ⟨h1, h2⟩ := split_len r
    unfold splitC
    split
    · refine ⟨by simp; omega, fun w hw => ?_⟩
      rcases List.mem_cons.1 hw with rfl | hw
      · simp
      · have := h2 w hw
        simp; omega
    · split
      · rename_i p ps he
        rw [he] at h1 h2
        refine ⟨by simp at h1 ⊢; omega, fun w hw => ?_⟩
        rcases List.mem_cons.1 hw with rfl | hw
        · have := h2 p (by simp)
          simp; omega
        · have := h2 w (List.mem_cons_of_mem _ hw)
          simp; omega
      · refine ⟨by simp, fun w hw => ?_⟩
        simp at hw
        subst hw
        simp
theorem keep_snoc : ∀ {a : List Txt} {vs : List Int} {w : Txt} {v : Int}, keepM a = some vs → digitsM true w = true → Lib.parseIntB 64 w = .ok v → keepM (a ++ [w]) = some (vs ++ [v])
  | [], vs, w, v, h, hd, hp => by
    cases h
    show keepM [w] = some [v]
    unfold keepM
    rw [if_pos hd, hp]
    rfl
  | x :: a, vs, w, v, h, hd, hp => by
    unfold keepM at h
    split at h
    · rename_i hx
      split at h
      · rename_i y hy
        simp only [Option.map_eq_some_iff] at h
        obtain ⟨us, hu, rfl⟩ := h
        show keepM (x :: (a ++ [w])) = _
        unfold keepM
        rw [if_pos hx, hy]
        simp only
        rw [keep_snoc hu hd hp]
        rfl
      · cases h
    · cases h
theorem keep_bad : ∀ {l : List Txt} {w : Txt}, w ∈ l → (digitsM true w = false ∨ ∀ v, Lib.parseIntB 64 w ≠ .ok v) → keepM l = none
  | x :: l, w, hw, h => by
    unfold keepM
    split
    · rename_i hx
      split
      · rename_i y hy
        rcases List.mem_cons.1 hw with rfl | hw
        · rcases h with h | h
          · rw [h] at hx; cases hx
          · exact absurd hy (h y)
        · rw [keep_bad hw h]
          rfl
      · rfl
    · rfl
def zeroS : StepM := ⟨0, 0, [], []⟩
def ReadR (line : Txt) (d : D) : Prop := match readM line with | some t => ∃ tip, d = .tuple [stepD t tip, .int .i64 0] | none => ∃ e : Int, e ≠ 0 ∧ d = .tuple [stepD zeroS .nil, .int .i64 e]
/-- What stands in two places of the call's own is handed back. -/
theorem fin_read {fr : Fr} {st : St} {ts : Ts} {k n e : Int} {b : Txt} {kd kd' : D} {y : Blk} {R : D → Prop} (h2 : fr.get 2 = .ref (st.blk.length + 0) 0) (h3 : fr.get 3 = .int .i64 e) (ho : out1 (flAll st) (st.ext [.cells [.int .u8 k, .int .u64 n, .str b, kd], y] ts) kd = some kd') (hR : R (.tuple [.agg [.int .u8 k, .int .u64 n, .str b, kd'], .int .i64 e])) :
    ∃ d, R d ∧ Ends Tryz.prog [.cell 2 52, .tmp 3] (flAll st) d .ret fr (st.ext [.cells [.int .u8 k, .int .u64 n, .str b, kd], y] ts) := by
  refine ⟨_, hR, trivial, [.agg [.int .u8 k, .int .u64 n, .str b, kd], .int .i64 e], ?_, ?_⟩
  · have hl : loadD Tryz.prog (st.ext [.cells [.int .u8 k, .int .u64 n, .str b, kd], y] ts) 52 (.ref (st.blk.length + 0) 0) = some (.agg [.int .u8 k, .int .u64 n, .str b, kd]) := load_ext.trans (pt52 _ _ _ _)
    simp only [List.mapM_cons, List.mapM_nil, resultOne, h2, h3, hl]
    rfl
  · have o1 : ∀ d : D, d.flat = true → out1 (flAll st) (st.ext [.cells [.int .u8 k, .int .u64 n, .str b, kd], y] ts) d = some d := fun d h => out1_flat h
    simp only [pack, outD, out2, List.mapM_cons, List.mapM_nil, ho, o1 (.int .u8 k) rfl, o1 (.int .u64 n) rfl, o1 (.str b) rfl, o1 (.int .i64 e) rfl]
    rfl
theorem out_nil {fl : Fl} {st : St} : out1 fl st (.list 0 [] .nil) = some (.list 0 [] .nil) := rfl
theorem flat_ints : ∀ vs : List Int, flatL (vs.map (.int .i64)) = true
  | [] => rfl
  | v :: vs => by
    show (D.flat _ && flatL (vs.map (.int .i64))) = true
    rw [flat_ints vs]
    rfl
theorem out_keep {st st' : St} {ts : Ts} {vs : List Int} {d : D} (h : LdOk st ts (vs.map (.int .i64)) d) : ∃ tip, out1 (flAll st) st' d = some (.list vs.length (vs.map (.int .i64)) tip) := by
  rcases h with ⟨h0, rfl, _⟩ | ⟨_, rfl, _⟩
  · have : vs = [] := by simpa using h0
    subst this
    exact ⟨.nil, rfl⟩
  · refine ⟨.cut, ?_⟩
    simp [out1, flat_ints, flAll]
theorem readR_none {line : Txt} {e : Int} (h : readM line = none) (he : e ≠ 0) : ReadR line (.tuple [.agg [.int .u8 0, .int .u64 0, .str [], .list 0 [] .nil], .int .i64 e]) := by
  unfold ReadR
  rw [h]
  exact ⟨e, he, rfl⟩
theorem readR_some {line : Txt} {t : StepM} {tip : Tip} (h : readM line = some t) : ReadR line (.tuple [.agg [.int .u8 t.k, .int .u64 t.n, .str t.b, .list t.keep.length (t.keep.map (.int .i64)) tip], .int .i64 0]) := by
  unfold ReadR
  rw [h]
  exact ⟨tip, rfl⟩
end Go.Ab.Bk
