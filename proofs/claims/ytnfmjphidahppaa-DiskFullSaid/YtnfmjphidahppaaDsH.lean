/-
  DiskFull, DiskBegins.
-/
import Derived.Test.YtnfmjphidahppaaAbSem
namespace Go.Ab.Ds
open Go Go.Proofs Go.Ab
set_option maxRecDepth 100000
set_option maxHeartbeats 4000000
section
/-- A new disk. -/
theorem fit_new : Fit DM.new := ⟨DM.ok_new, by decide, by decide⟩
theorem at_new (fl : Fl) (st : St) (h1 : fl.fb ≤ st.blk.length) (h2 : fl.ft ≤ st.tips.length) : At fl (st.new (.cells (diskD DM.new .full))) st.blk.length DM.new .full := ⟨new_get _ _, h1, h2, .inl rfl, fit_new⟩
theorem fit_append {m : DM} (h : Fit m) (f : Int) (s : List UInt8) (hb : m.ops < 1000000000 ∧ m.loose.length < 900000000) : Fit (m.append f s).1 := by
  refine ⟨DM.ok_append h.ok f s, ?_, ?_⟩
  · unfold DM.append; split; · exact h.ops
    split; · exact h.ops
    split; · exact h.ops
    split <;> simp <;> omega
  · unfold DM.append; split; · exact h.loose
    split; · exact h.loose
    split; · exact h.loose
    split <;> simp <;> omega
theorem r_repL (fl : Fl) (x : UInt8) (c : Int) (h0 : 0 ≤ c) (h1 : c ≤ 100000000) (st : St) : run Try.prog drL fl 20 [.str [x], .int .i64 c] st = some (.str (List.replicate c.toNat x), st) := by
  refine run_prim (f := repPrim) rfl ?_
  show (if 0 ≤ c ∧ c ≤ 9223372036854775807 ∧ ([x] : List UInt8).length * c.toNat ≤ 140737488355328 then some (D.str (repB [x] c.toNat)) else none) = _
  rw [if_pos (by simp; omega), repB_one]
theorem ofv_d : ofValue1 (.string ⟨#[100]⟩) = some (.str [100]) := rfl
theorem ofv_e : ofValue1 (.string ⟨#[101]⟩) = some (.str [101]) := rfl
theorem cv53 (imm : Bool) (st : St) (n : Nat) (h : n < 256) : convertD Try.prog imm st 5 3 (.int .u8 n) = some (.int .i64 n, st) := by
  have : convertD Try.prog imm st 5 3 (.int .u8 n) = some (.int .i64 (IntKind.wrap .i64 n), st) := by kernel_rfl
  rw [this, wrap_i64 (by omega) (by omega)]
theorem app_ok {m : DM} {f : Nat} {s : List UInt8} (h1 : m.off = false) (h2 : f < 64) (h3 : (m.nowAt f).length + s.length ≤ DM.mostF) (h4 : ¬ ((m.ops : Int) = m.goes)) :
    m.append f s = ({ m with ops := m.ops + 1, now := m.now.set f (m.nowAt f ++ s), loose := m.loose ++ [⟨f, (m.nowAt f).length, s, false⟩] }, 0) := by
  unfold DM.append
  rw [if_neg (by simp [h1]), if_neg (by rw [isF_true (by omega)]; decide), Int.toNat_natCast, if_neg (by omega), if_neg h4]
theorem app_big {m : DM} {f : Nat} {s : List UInt8} (h1 : m.off = false) (h2 : f < 64) (h3 : DM.mostF < (m.nowAt f).length + s.length) : m.append f s = (m, 3) := by
  unfold DM.append
  rw [if_neg (by simp [h1]), if_neg (by rw [isF_true (by omega)]; decide), Int.toNat_natCast, if_pos h3]
theorem now_set {m : DM} {l : List (List UInt8)} {f g : Nat} {s : List UInt8} (h : m.now = l.set f s) (hf : f < l.length) : m.nowAt g = if f = g then s else l.getD g [] := by
  unfold DM.nowAt; rw [h, DM.getD_set hf]
theorem new_now (f : Nat) : DM.new.nowAt f = [] := by
  show (List.replicate 64 []).getD f [] = []
  rw [List.getD_eq_getElem?_getD, List.getElem?_replicate]; split <;> rfl
theorem size_now {m : DM} {f : Nat} (h : f < 64) : m.size f = (m.nowAt f).length := by
  unfold DM.size; rw [isF_true (by omega), if_pos rfl, Int.toNat_natCast]
theorem full_plain (n k : Nat) (hn : n < 256) (hk : k ≤ 1048581) :
    (DM.new.append (5 : Nat) (List.replicate (1048576 - n) 100)).2 = 0 ∧ Fit (DM.new.append (5 : Nat) (List.replicate (1048576 - n) 100)).1 ∧
    (n < k → ((DM.new.append (5 : Nat) (List.replicate (1048576 - n) 100)).1.append (5 : Nat) (List.replicate k 101)).2 = 3 ∧ ((DM.new.append (5 : Nat) (List.replicate (1048576 - n) 100)).1.append (5 : Nat) (List.replicate k 101)).1.size (5 : Nat) = 1048576 - n ∧ ((DM.new.append (5 : Nat) (List.replicate (1048576 - n) 100)).1.append (5 : Nat) (List.replicate k 101)).1.ops = 1) ∧
    (k ≤ n → ((DM.new.append (5 : Nat) (List.replicate (1048576 - n) 100)).1.append (5 : Nat) (List.replicate k 101)).2 = 0 ∧ ((DM.new.append (5 : Nat) (List.replicate (1048576 - n) 100)).1.append (5 : Nat) (List.replicate k 101)).1.size (5 : Nat) = 1048576 - n + k) := by
  have hf := fit_append fit_new (5 : Nat) (List.replicate (1048576 - n) 100) (by decide)
  have e := app_ok (m := DM.new) (f := 5) (s := List.replicate (1048576 - n) 100) rfl (by omega) (by rw [new_now]; simp [DM.mostF]) (by decide)
  rw [e] at hf ⊢
  refine ⟨rfl, hf, ?_⟩
  rw [new_now, List.nil_append] at hf ⊢
  have h1 : ∀ l, ({ DM.new with ops := DM.new.ops + 1, now := DM.new.now.set 5 (List.replicate (1048576 - n) 100), loose := l } : DM).nowAt 5 = List.replicate (1048576 - n) 100 := fun l => by
    rw [now_set (l := DM.new.now) rfl (by decide), if_pos rfl]
  constructor
  · intro h
    rw [app_big rfl (by omega) (by rw [h1]; simp [DM.mostF]; omega)]
    refine ⟨rfl, ?_, rfl⟩
    rw [size_now (by omega), h1, List.length_replicate]
  · intro h
    have hm : ¬ (((0 + 1 : Nat) : Int) = -1) := by omega
    rw [app_ok rfl (by omega) (by rw [h1]; simp [DM.mostF]; omega) hm]
    refine ⟨rfl, ?_⟩
    rw [size_now (by omega), now_set (l := DM.new.now.set 5 (List.replicate (1048576 - n) 100)) rfl (by simp [DM.new]), if_pos rfl, h1]
    simp
set_option maxHeartbeats 16000000 in
theorem r_full (fl : Fl) (n : Nat) (hn : n < 256) (more : Int) (st : St) : run Try.prog drL fl 4 [.int .u8 n, .int .i64 more] st = some (.bool true, st) := by
  refine run_sim (fi := ⟨true, [], []⟩) rfl rfl rfl Try.func4 rfl rfl ?_
  simp only [argsFr]
  by_cases h0 : more < 0
  · have d0 : decide (more < 0) = true := decide_eq_true h0
    repeat (first | with_reducible refine zg ?_ | (with_reducible refine zo ?_; (conv => { arg 1; simp (disch := (first | omega | (with_unfolding_all exact byrfl rfl))) only [evOp, loadI, evX, ofValue, ofValue1, binD, pairsD, evCall, builtinD, D.mem, D.cells, Int.reduceToNat, reduceCtorEq, Nat.reduceBEq, bs1, bs2, bs3, rL18, Bool.not_true, d0] }); with_reducible refine s1 ?_))
    exact ⟨trivial, _, rfl, rfl⟩
  have d0 : decide (more < 0) = false := decide_eq_false h0
  by_cases h1 : 1048581 < more
  · have d1 : decide (1048581 < more) = true := decide_eq_true h1
    repeat (first | with_reducible refine zg ?_ | (with_reducible refine zo ?_; (conv => { arg 1; simp (disch := (first | omega | (with_unfolding_all exact byrfl rfl))) only [evOp, loadI, evX, ofValue, ofValue1, binD, pairsD, evCall, builtinD, D.mem, D.cells, Int.reduceToNat, reduceCtorEq, Nat.reduceBEq, bs1, bs2, bs3, rL18, Bool.not_true, d0, d1] }); with_reducible refine s1 ?_))
    exact ⟨trivial, _, rfl, rfl⟩
  have d1 : decide (1048581 < more) = false := decide_eq_false h1
  obtain ⟨k, rfl⟩ : ∃ k : Nat, more = k := ⟨more.toNat, by omega⟩
  have rn := fun fl st => run_up drUp (r_new fl st)
  have c1 := fun imm st => cv53 imm st n hn
  have e0 : (1048576 : Int) - (n : Nat) = ((1048576 - n : Nat) : Int) := by omega
  have rp := fun fl st => r_repL fl 100 ((1048576 - n : Nat) : Int) (by omega) (by omega) st
  have rq := fun fl st => r_repL fl 101 ((k : Nat) : Int) (by omega) (by omega) st
  rw [Int.toNat_natCast] at rp rq
  have A0 := at_new (flAll st) st (Nat.le_refl _) (Nat.le_refl _)
  obtain ⟨p1, p2, p3, p4⟩ := full_plain n k hn (by omega)
  obtain ⟨_, st1, ⟨rfl, tip1, F1⟩, R1⟩ := runw_up drUp (r_append A0 (5 : Nat) (List.replicate (1048576 - n) 100) (by simp; omega))
  rw [p1] at R1
  have A1 := A0.aft F1 p2
  obtain ⟨_, st2, ⟨rfl, tip2, F2⟩, R2⟩ := runw_up drUp (r_append A1 (5 : Nat) (List.replicate k 101) (by simp; omega))
  have A2 := A1.aft F2 (fit_append p2 _ _ (by
    have : ((DM.new.append (5 : Nat) (List.replicate (1048576 - n) 100)).1).ops ≤ 1 ∧ ((DM.new.append (5 : Nat) (List.replicate (1048576 - n) 100)).1).loose.length ≤ 1 := by
      rw [app_ok (m := DM.new) (f := 5) (s := List.replicate (1048576 - n) 100) rfl (by omega) (by rw [new_now]; simp [DM.mostF]) (by decide)]
      exact ⟨Nat.le_refl 1, Nat.le_refl 1⟩
    omega))
  generalize (DM.new.append (5 : Nat) (List.replicate (1048576 - n) 100)).1 = m1 at *
  have rs1 := fun fl => run_up drUp (r_size (tip := tip2) (ts := st2.tips) fl A2.fit.ok A2.lt 5)
  rw [A2.eq] at rs1
  have ro1 := fun fl => run_up drUp (r_ops (tip := tip2) (ts := st2.tips) fl A2.fit.ok A2.lt)
  rw [A2.eq] at ro1
  by_cases hkn : n < k
  · obtain ⟨q1, q2, q3⟩ := p3 hkn
    rw [q1] at R2
    rw [show (5 : Int) = ((5 : Nat) : Int) from rfl, q2] at rs1
    rw [q3] at ro1
    have d2 : decide (((n : Nat) : Int) < ((k : Nat) : Int)) = true := decide_eq_true (by omega)
    have R1' : run Try.prog drL (flAll st) 19 [.ref st.blk.length 0, .int .i64 5, .str (List.replicate (1048576 - n) 100)] (st.new (.cells (diskD DM.new .full))) = some (.int .i64 ((0 : Nat) : Int), st1) := R1
    have R2' : run Try.prog drL (flAll st) 19 [.ref st.blk.length 0, .int .i64 5, .str (List.replicate k 101)] st1 = some (.int .i64 ((3 : Nat) : Int), st2) := R2
    have rs1' : ∀ fl, run Try.prog drL fl 21 [.ref st.blk.length 0, .int .i64 5] st2 = some (.int .i64 ((1048576 - n : Nat) : Int), st2) := rs1
    have e33 : decide (((3 : Nat) : Int) = 3) = true := rfl
    have e11 : decide (((1 : Nat) : Int) = 1) = true := rfl
    have e44 : decide (((1048576 - n : Nat) : Int) = ((1048576 - n : Nat) : Int)) = true := decide_eq_true rfl
    repeat (first | with_reducible refine zg ?_ | (with_reducible refine zo ?_; (conv => { arg 1; simp (disch := (first | omega | (with_unfolding_all exact byrfl rfl))) only [evOp, loadI, evX, ofValue, ofValue1, binD, pairsD, evCall, builtinD, D.mem, D.cells, Int.reduceToNat, reduceCtorEq, Nat.reduceBEq, bs1, bs2, bs3, rL18, Bool.not_true, d0, d1, rn, c1, e0, ofv_d, ofv_e, rp, rq, R1', ne0, R2', d2, rs1', ro1, e33, e11, e44] }); with_reducible refine s1 ?_))
    exact ⟨trivial, _, rfl, rfl⟩
  · obtain ⟨q1, q2⟩ := p4 (by omega)
    rw [q1] at R2
    rw [show (5 : Int) = ((5 : Nat) : Int) from rfl, q2] at rs1
    have d2 : decide (((n : Nat) : Int) < ((k : Nat) : Int)) = false := decide_eq_false (by omega)
    have R1' : run Try.prog drL (flAll st) 19 [.ref st.blk.length 0, .int .i64 5, .str (List.replicate (1048576 - n) 100)] (st.new (.cells (diskD DM.new .full))) = some (.int .i64 ((0 : Nat) : Int), st1) := R1
    have R2' : run Try.prog drL (flAll st) 19 [.ref st.blk.length 0, .int .i64 5, .str (List.replicate k 101)] st1 = some (.int .i64 ((0 : Nat) : Int), st2) := R2
    have rs1' : ∀ fl, run Try.prog drL fl 21 [.ref st.blk.length 0, .int .i64 5] st2 = some (.int .i64 ((1048576 - n + k : Nat) : Int), st2) := rs1
    have e00 : decide (((0 : Nat) : Int) = 0) = true := rfl
    have e44 : decide (((1048576 - n + k : Nat) : Int) = ((1048576 - n : Nat) : Int) + ((k : Nat) : Int)) = true := decide_eq_true (by omega)
    repeat (first | with_reducible refine zg ?_ | (with_reducible refine zo ?_; (conv => { arg 1; simp (disch := (first | omega | (with_unfolding_all exact byrfl rfl))) only [evOp, loadI, evX, ofValue, ofValue1, binD, pairsD, evCall, builtinD, D.mem, D.cells, Int.reduceToNat, reduceCtorEq, Nat.reduceBEq, bs1, bs2, bs3, rL18, Bool.not_true, d0, d1, rn, c1, e0, ofv_d, ofv_e, rp, rq, R1', ne0, R2', d2, rs1', e00, e44] }); with_reducible refine s1 ?_))
    exact ⟨trivial, _, rfl, rfl⟩
end
end Go.Ab.Ds

/-
  DiskBegins.
-/
namespace Go.Ab.Ds
open Go Go.Proofs Go.Ab
set_option maxRecDepth 100000
set_option maxHeartbeats 4000000
section
/-- A disk on which there were few calls. -/
structure Small (k : Nat) (m : DM) : Prop where
  ok : m.Ok
  ops : m.ops ≤ k
  loose : m.loose.length ≤ k
theorem Small.fit {k : Nat} {m : DM} (h : Small k m) (hk : k < 900000000) : Fit m := ⟨h.ok, by have := h.ops; omega, by have := h.loose; omega⟩
theorem Small.mono {k j : Nat} {m : DM} (h : Small k m) (hj : k ≤ j) : Small j m := ⟨h.ok, by have := h.ops; omega, by have := h.loose; omega⟩
theorem small_new : Small 0 DM.new := ⟨DM.ok_new, by decide, by decide⟩
theorem small_append {k : Nat} {m : DM} (h : Small k m) (f : Int) (s : List UInt8) : Small (k + 1) (m.append f s).1 := by
  have h1 := h.ops
  have h2 := h.loose
  refine ⟨DM.ok_append h.ok f s, ?_, ?_⟩ <;> unfold DM.append <;> repeat (first | (split) | (simp; omega) | omega)
theorem small_sync {k : Nat} {m : DM} (h : Small k m) (f : Int) : Small (k + 1) (m.sync f).1 := by
  have h1 := h.ops
  have h2 := h.loose
  have h3 := List.length_filter_le (fun c : ChM => decide (c.file ≠ f.toNat)) m.loose
  refine ⟨DM.ok_sync h.ok f, ?_, ?_⟩
  · unfold DM.sync
    repeat (first | (split) | (simp; omega) | omega)
  · unfold DM.sync
    split; · simp; omega
    split; · simp; omega
    split; · simp; omega
    show (m.loose.filter _).length ≤ k + 1
    omega
def bm1 (s : List UInt8) : DM := (DM.new.append (2 : Nat) s).1
def bm2 (s : List UInt8) : DM := ((bm1 s).sync (2 : Nat)).1
def bm3 (s t : List UInt8) : DM := ((bm2 s).append (2 : Nat) t).1
def bm4 (s t : List UInt8) (keep : Int) : DM := (bm3 s t).crash [keep]
def bm5 (s t : List UInt8) (keep n : Int) : DM := ((bm4 s t keep).cutF (2 : Nat) n).1
def bm6 (s t : List UInt8) (keep n : Int) : DM := (bm5 s t keep n).crash [keep]
def got (s t : List UInt8) (keep : Int) : List UInt8 := s ++ t.take keep.toNat
variable {s t : List UInt8}
theorem b1 (hs : s.length ≤ 4096) : DM.new.append (2 : Nat) s = (bm1 s, 0) ∧ (bm1 s).Good ∧ Small 1 (bm1 s) ∧ (bm1 s).nowAt 2 = s := by
  have e := app_ok (m := DM.new) (f := 2) (s := s) rfl (by omega) (by rw [new_now]; simp [DM.mostF]; omega) (by decide)
  refine ⟨?_, ⟨DM.ok_append DM.ok_new _ _, DM.live_append DM.live_new _ _, DM.full_append DM.ok_new DM.full_new _ _⟩, small_append small_new _ _, ?_⟩
  · unfold bm1; rw [e]
  · unfold bm1; rw [e, now_set (l := DM.new.now) rfl (by decide), if_pos rfl, new_now, List.nil_append]
theorem b2 (hs : s.length ≤ 4096) : (bm1 s).sync (2 : Nat) = (bm2 s, 0) ∧ (bm2 s).Good ∧ Small 2 (bm2 s) ∧ (bm2 s).nowAt 2 = s ∧ DM.Still 2 s (bm2 s) ∧ (bm2 s).loose = [] := by
  obtain ⟨_, g1, s1', n1⟩ := b1 hs
  have e := DM.sync_live g1.live (f := (2 : Nat)) rfl
  have st' := DM.still_sync g1 (f := (2 : Nat)) rfl
  refine ⟨?_, DM.good_sync g1 _, small_sync s1' _, ?_, ?_, ?_⟩
  · unfold bm2; rw [e]
  · unfold bm2; rw [e]; exact n1
  · rw [show ((2 : Nat) : Int).toNat = 2 from rfl, n1] at st'; exact st'
  · unfold bm2; rw [e]
    show (bm1 s).loose.filter _ = []
    have e1 := app_ok (m := DM.new) (f := 2) (s := s) rfl (by omega) (by rw [new_now]; simp [DM.mostF]; omega) (by decide)
    unfold bm1; rw [e1]; rfl
theorem int_arg {x : D} (h : ArgIs Try.prog 3 x) : ∃ n : Int, x = .int .i64 n ∧ -9223372036854775808 ≤ n ∧ n ≤ 9223372036854775807 := by
  obtain ⟨n, rfl, h1, h2⟩ := arg_int Try.underlying3 h
  exact ⟨n, rfl, h1, h2⟩
theorem diskFull (x y : D) (h1 : ArgIs Try.prog 5 x) (h2 : ArgIs Try.prog 3 y) : ∃ n st', evFn Try.prog drL n ⟨0, 0⟩ 4 [x, y] st0 = some (.bool true, st') := by
  obtain ⟨a, rfl, ha, ha'⟩ := arg_int Try.underlying5 h1
  obtain ⟨b, rfl, _, _⟩ := int_arg h2
  have h0 : 0 ≤ a := ha
  have h255 : a ≤ 255 := ha'
  obtain ⟨k, rfl⟩ : ∃ k : Nat, a = k := ⟨a.toNat, by omega⟩
  obtain ⟨n, hn⟩ := run_iff.1 (r_full ⟨0, 0⟩ k (by omega) b st0)
  exact ⟨n, _, hn⟩
end
end Go.Ab.Ds
