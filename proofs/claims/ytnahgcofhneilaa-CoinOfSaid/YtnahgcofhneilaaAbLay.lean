/-
  States with blocks laid behind what was there.
-/
import Derived.Test.YtnahgcofhneilaaAbPrim
namespace Go.Ab
/-- The blocks bs behind those of st; the rows ts. -/
def St.ext (st : St) (bs : List Blk) (ts : List (Nat × Nat)) : St := ⟨st.blk ++ bs, ts⟩
section
variable {st : St} {bs : List Blk} {ts : List (Nat × Nat)}
theorem lay_nil : st.ext [] st.tips = st := by unfold St.ext; rw [List.append_nil]
theorem lay_len : (st.ext bs ts).blk.length = st.blk.length + bs.length := by simp [St.ext]
theorem lay_new {b : Blk} : (st.ext bs ts).new b = st.ext (bs ++ [b]) ts := by simp [St.ext, St.new]
theorem lay_get {i : Nat} : (st.ext bs ts).blk[st.blk.length + i]? = bs[i]? := by
  show (st.blk ++ bs)[st.blk.length + i]? = bs[i]?
  rw [List.getElem?_append_right (by omega)]
  congr 1; omega
theorem lay_set {i : Nat} {x : Blk} : (st.ext bs ts).set (st.blk.length + i) x = st.ext (bs.set i x) ts := by
  simp only [St.ext, St.set]
  congr 1
  rw [List.set_append, if_neg (by omega)]
  congr 2; omega
theorem load_ext {P : Program} {t : TypeId} {i off : Nat} : loadD P (st.ext bs ts) t (.ref (st.blk.length + i) off) = match bs[i]? with | some (.cells cs) => partD P t cs off | _ => none := by
  simp only [loadD, lay_get]
  rfl
theorem store_ext {P : Program} {fl : Fl} {t : TypeId} {i off : Nat} {d : D} (hf : fl.fb ≤ st.blk.length) (hm : d.mem = true) : storeD P fl (st.ext bs ts) t (.ref (st.blk.length + i) off) d =
    match bs[i]? with | some (.cells cs) => (if tySize P t == some d.cells.length && decide (off + d.cells.length ≤ cs.length) then some (st.ext (bs.set i (.cells (splice cs off d.cells))) ts) else none) | _ => none := by
  simp only [storeD, lay_get, lay_set, hm, Bool.and_true]
  rw [if_pos (by simp; omega)]
  rfl
theorem run_ext {P : Program} {H : Hints} {fl : Fl} {k : FuncId} {args : List D} {d : D} (h : run P H fl k args (st.ext [] st.tips) = some (d, st.ext [] st.tips)) : run P H fl k args st = some (d, st) := by rwa [lay_nil] at h
end
/-- A function that only reads. What it lays is behind what was there. -/
theorem run_sime {P : Program} {H : Hints} {fl : Fl} {k : FuncId} {fn : Func} {c : Code} {args : List D} {st : St} {d : D} {fi : FInfo} {rs : List ResultVar} (hp : H.prim k = none) (hi : H.info k = some fi) (hro : fi.ro = true) (hf : P.funcs[k]? = some fn) (hc : fn.body = some c) (hr : fn.results.toList = rs)
    (h : Wp { P, fl := flAll st, H, fi, call := run P H (flAll st), yld := runY P H (flAll st), k, nt := fn.ntmps, rd := none } c (argsFr 0 args) (st.ext [] st.tips) fun e fr' st' => Ends P rs (flAll st) d e fr' st') : run P H fl k args st = some (d, st) := by
  refine run_sim hp hi hro hf hc hr ?_
  rw [lay_nil] at h
  exact h
/-- What is handed back lies in one cell that was laid. -/
theorem fin_cell {P : Program} {fl : Fl} {d : D} {fr : Fr} {st : St} {a : Nat} {t : TypeId} {x : D} (hx : fr.get a = x) (h : loadD P st t x = some d) (hf : d.flat = true) : Ends P [.cell a t] fl d .ret fr st :=
  fin (l := [d]) (by simp only [List.mapM_cons, resultOne, hx, h, List.mapM_nil]; rfl) rfl hf
theorem flAll_fb {st : St} : (flAll st).fb ≤ st.blk.length := Nat.le_refl _
theorem store_agg {st : St} {bs : List Blk} {ts : List (Nat × Nat)} {P : Program} {t : TypeId} {i off : Nat} {cs1 : List D} : storeD P (flAll st) (st.ext bs ts) t (.ref (st.blk.length + i) off) (.agg cs1) =
    match bs[i]? with | some (.cells cs) => (if tySize P t == some cs1.length && decide (off + cs1.length ≤ cs.length) then some (st.ext (bs.set i (.cells (splice cs off cs1))) ts) else none) | _ => none := store_ext flAll_fb rfl
theorem store_int {st : St} {bs : List Blk} {ts : List (Nat × Nat)} {P : Program} {t : TypeId} {i off : Nat} {k : IntKind} {n : Int} : storeD P (flAll st) (st.ext bs ts) t (.ref (st.blk.length + i) off) (.int k n) =
    match bs[i]? with | some (.cells cs) => (if tySize P t == some 1 && decide (off + 1 ≤ cs.length) then some (st.ext (bs.set i (.cells (splice cs off [.int k n]))) ts) else none) | _ => none := store_ext flAll_fb rfl
theorem store_bool {st : St} {bs : List Blk} {ts : List (Nat × Nat)} {P : Program} {t : TypeId} {i off : Nat} {b : Bool} : storeD P (flAll st) (st.ext bs ts) t (.ref (st.blk.length + i) off) (.bool b) =
    match bs[i]? with | some (.cells cs) => (if tySize P t == some 1 && decide (off + 1 ≤ cs.length) then some (st.ext (bs.set i (.cells (splice cs off [.bool b]))) ts) else none) | _ => none := store_ext flAll_fb rfl
theorem store_str {st : St} {bs : List Blk} {ts : List (Nat × Nat)} {P : Program} {t : TypeId} {i off : Nat} {s : List UInt8} : storeD P (flAll st) (st.ext bs ts) t (.ref (st.blk.length + i) off) (.str s) =
    match bs[i]? with | some (.cells cs) => (if tySize P t == some 1 && decide (off + 1 ≤ cs.length) then some (st.ext (bs.set i (.cells (splice cs off [.str s]))) ts) else none) | _ => none := store_ext flAll_fb rfl
end Go.Ab

/-! ### Rows that grow -/
namespace Go.Ab
/-- A list that may be appended to. -/
def Gr (ft : Nat) (ts : List (Nat × Nat)) (n s : Nat) (tip : Tip) : Prop := ft ≤ ts.length ∧ (tip = .full ∨ ∃ r, tip = .own r ∧ ft ≤ r ∧ ts[r]? = some (n, s))
theorem gr_full {ft : Nat} {ts : List (Nat × Nat)} {n s : Nat} (h : ft ≤ ts.length) : Gr ft ts n s .full := ⟨h, .inl rfl⟩
theorem w1_app {P : Program} {st : St} {bs : List Blk} {ts : List (Nat × Nat)} {ty e : TypeId} {s bytes : Nat} {z : List D} {n m : Nat} {cs ds : List D} {tip tip0 : Tip} {K : D → St → Prop}
    (he : tyElem P ty = some e) (hs : tySize P e = some s) (hb : tyBytes P e = some bytes) (hz : tyZero P e = some z) (hok : z.length = s ∧ 0 < s ∧ 0 < bytes)
    (hcs : cs.length = n * s) (hds : ds.length = m * s) (hroom : (n + m + 256) * bytes ≤ mostRow) (hg : Gr st.tips.length ts n s tip)
    (h : ∀ ts' tip', Gr st.tips.length ts' (n + m) s tip' → K (.list (n + m) (cs ++ ds) tip') (st.ext bs ts')) :
    W1 (appendD P (flAll st) false (st.ext bs ts) ty (.list n cs tip) (.list m ds tip0)) K := by
  unfold appendD
  simp only [he, hs, hb, hz, srcOf, rowOf]
  rw [if_neg (by simp [hds, hok.1, hok.2.1, hok.2.2])]
  by_cases hm : m = 0
  · subst hm
    rw [if_pos rfl]
    have : ds = [] := by simpa using hds
    subst this
    have := h ts tip hg
    rw [List.append_nil] at this
    exact this
  · rw [if_neg hm, if_neg (by simp [hroom, hcs])]
    obtain ⟨hl, rfl | ⟨r, rfl, hr, ht⟩⟩ := hg
    · simp only [Bool.false_eq_true, if_false]
      refine h (ts ++ [(n + m, s)]) (.own ts.length) ⟨by simp; omega, .inr ⟨_, rfl, hl, by simp⟩⟩
    · have hr' := (List.getElem?_eq_some_iff.1 ht).1
      have ht' : (st.ext bs ts).tips[r]? = some (n, s) := ht
      simp only [ht', flAll, hr, decide_true, beq_self_eq_true, Bool.not_false, Bool.and_self, if_true]
      refine h (ts.set r (n + m, s)) (.own r) ⟨by simpa using hl, .inr ⟨r, rfl, hr, by simp [hr']⟩⟩
/-- A function that only reads, of whose answer something is known. -/
theorem run_simx {P : Program} {H : Hints} {fl : Fl} {k : FuncId} {fn : Func} {c : Code} {args : List D} {st : St} {R : D → Prop} {fi : FInfo} {rs : List ResultVar} (hp : H.prim k = none) (hi : H.info k = some fi) (hro : fi.ro = true) (hf : P.funcs[k]? = some fn) (hc : fn.body = some c) (hr : fn.results.toList = rs)
    (h : Wp { P, fl := flAll st, H, fi, call := run P H (flAll st), yld := runY P H (flAll st), k, nt := fn.ntmps, rd := none } c (argsFr 0 args) (st.ext [] st.tips) fun e fr' st' => ∃ d, R d ∧ Ends P rs (flAll st) d e fr' st') : ∃ d, R d ∧ run P H fl k args st = some (d, st) := by
  rw [wp_iff] at h
  obtain ⟨e, fr', st', h1, d, hR, h2⟩ := h
  refine ⟨d, hR, run_sime hp hi hro hf hc hr ?_⟩
  rw [wp_iff]
  exact ⟨e, fr', st', h1, h2⟩
/-- A list that is handed back. -/
theorem fin_list {P : Program} {rs : List ResultVar} {st : St} {fr : Fr} {st' : St} {ft : Nat} {ts : List (Nat × Nat)} {n m s : Nat} {cs : List D} {tip : Tip} (hg : Gr ft ts m s tip) (h1 : rs.mapM (resultOne P fr st') = some [.list n cs tip]) (hf : flatL cs = true) (hft : (flAll st).ft ≤ ft) :
    ∃ d, (∃ tip, (∀ r, tip ≠ .own r) ∧ d = .list n cs tip) ∧ Ends P rs (flAll st) d .ret fr st' := by
  obtain ⟨_, rfl | ⟨r, rfl, hr, _⟩⟩ := hg
  · exact ⟨_, ⟨.full, by simp, rfl⟩, trivial, _, h1, by simp [pack, outD, out2, out1, hf]⟩
  · refine ⟨_, ⟨.cut, by simp, rfl⟩, trivial, _, h1, ?_⟩
    simp [pack, outD, out2, out1, hf, show ¬ r < (flAll st).ft by omega]
end Go.Ab
namespace Go.Ab
theorem ofv_nilsl : ofValue1 (.slice none 0 0) = some (.list 0 [] .full) := rfl
theorem ofv_nilsl' : ofValue (.slice none 0 0) = some (.list 0 [] .full) := rfl
end Go.Ab
