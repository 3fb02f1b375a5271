/-
  Rolls: the reference's parameters; seats, keys, what stands ahead.
-/
import Derived.Test.YtnahgcofhneilaaGreatAbFun
set_option linter.unusedSimpArgs false
set_option linter.unusedVariables false
namespace Go.Ab.Rz
open Go Go.Proofs Go.Ab Go.Ab.G Go.Ab.Cn
set_option maxRecDepth 100000
set_option maxHeartbeats 4000000
theorem parE_in {k n : Nat} (h : k < 8) (h1 : (span k).1 ≤ n) (h2 : n ≤ (span k).2) : parE k n = 0 := by
  unfold parE; rw [if_neg (by omega), if_neg (by omega)]
theorem parE_out {k n : Nat} (h : k < 8) (h1 : ¬((span k).1 ≤ n ∧ n ≤ (span k).2)) : parE k n = 2 := by
  unfold parE; rw [if_neg (by omega), if_pos (by omega)]
theorem r_rparam (fl : Fl) (k n : Nat) (st : St) : run Tryz.prog rzH fl 67 [.int .u64 k, .int .u64 n] st = some (.int .i64 (parE k n), st) := by
  refine run_sime (fi := ⟨true, [], []⟩) (rs := [.tmp 4]) rfl rfl rfl Tryz.func67 rfl rfl ?_
  simp only [argsFr]
  by_cases hk0 : k = 0
  · have hs : span k = (0, 1099511627775) := by rw [hk0]; rfl
    have e0 : decide ((k : Int) = 0) = true := decide_eq_true (by omega)
    have e1 : decide ((k : Int) = 1) = false := decide_eq_false (by omega)
    have e2 : decide ((k : Int) = 2) = false := decide_eq_false (by omega)
    have e3 : decide ((k : Int) = 3) = false := decide_eq_false (by omega)
    have e4 : decide ((k : Int) = 4) = false := decide_eq_false (by omega)
    have e5 : decide ((k : Int) = 5) = false := decide_eq_false (by omega)
    have e6 : decide ((k : Int) = 6) = false := decide_eq_false (by omega)
    have e7 : decide ((k : Int) = 7) = false := decide_eq_false (by omega)
    by_cases h : n ≤ 1099511627775
    · have d : decide ((n : Int) < 1099511627776) = true := decide_eq_true (by omega)
      rw [parE_in (by omega) (by rw [hs]; exact Nat.zero_le _) (by rw [hs]; exact h)]
      refine zw (nx @e0 <| nx @e1 <| nx @e2 <| nx @e3 <| nx @e4 <| nx @e5 <| nx @e6 <| nx @e7 <| @d) ?_
      exact ⟨trivial, _, rfl, rfl⟩
    · have d : decide ((n : Int) < 1099511627776) = false := decide_eq_false (by omega)
      rw [parE_out (by omega) (by rw [hs]; exact fun p => h p.2)]
      refine zw (nx @e0 <| nx @e1 <| nx @e2 <| nx @e3 <| nx @e4 <| nx @e5 <| nx @e6 <| nx @e7 <| @d) ?_
      exact ⟨trivial, _, rfl, rfl⟩
  by_cases hk1 : k = 1
  · have hs : span k = (0, 1048575) := by rw [hk1]; rfl
    have e0 : decide ((k : Int) = 0) = false := decide_eq_false (by omega)
    have e1 : decide ((k : Int) = 1) = true := decide_eq_true (by omega)
    have e2 : decide ((k : Int) = 2) = false := decide_eq_false (by omega)
    have e3 : decide ((k : Int) = 3) = false := decide_eq_false (by omega)
    have e4 : decide ((k : Int) = 4) = false := decide_eq_false (by omega)
    have e5 : decide ((k : Int) = 5) = false := decide_eq_false (by omega)
    have e6 : decide ((k : Int) = 6) = false := decide_eq_false (by omega)
    have e7 : decide ((k : Int) = 7) = false := decide_eq_false (by omega)
    by_cases h : n ≤ 1048575
    · have d : decide ((n : Int) < 1048576) = true := decide_eq_true (by omega)
      rw [parE_in (by omega) (by rw [hs]; exact Nat.zero_le _) (by rw [hs]; exact h)]
      refine zw (nx @e0 <| nx @e1 <| nx @e2 <| nx @e3 <| nx @e4 <| nx @e5 <| nx @e6 <| nx @e7 <| @d) ?_
      exact ⟨trivial, _, rfl, rfl⟩
    · have d : decide ((n : Int) < 1048576) = false := decide_eq_false (by omega)
      rw [parE_out (by omega) (by rw [hs]; exact fun p => h p.2)]
      refine zw (nx @e0 <| nx @e1 <| nx @e2 <| nx @e3 <| nx @e4 <| nx @e5 <| nx @e6 <| nx @e7 <| @d) ?_
      exact ⟨trivial, _, rfl, rfl⟩
  by_cases hk2 : k = 2
  · have hs : span k = (0, 1099511627775) := by rw [hk2]; rfl
    have e0 : decide ((k : Int) = 0) = false := decide_eq_false (by omega)
    have e1 : decide ((k : Int) = 1) = false := decide_eq_false (by omega)
    have e2 : decide ((k : Int) = 2) = true := decide_eq_true (by omega)
    have e3 : decide ((k : Int) = 3) = false := decide_eq_false (by omega)
    have e4 : decide ((k : Int) = 4) = false := decide_eq_false (by omega)
    have e5 : decide ((k : Int) = 5) = false := decide_eq_false (by omega)
    have e6 : decide ((k : Int) = 6) = false := decide_eq_false (by omega)
    have e7 : decide ((k : Int) = 7) = false := decide_eq_false (by omega)
    by_cases h : n ≤ 1099511627775
    · have d : decide ((n : Int) < 1099511627776) = true := decide_eq_true (by omega)
      rw [parE_in (by omega) (by rw [hs]; exact Nat.zero_le _) (by rw [hs]; exact h)]
      refine zw (nx @e0 <| nx @e1 <| nx @e2 <| nx @e3 <| nx @e4 <| nx @e5 <| nx @e6 <| nx @e7 <| @d) ?_
      exact ⟨trivial, _, rfl, rfl⟩
    · have d : decide ((n : Int) < 1099511627776) = false := decide_eq_false (by omega)
      rw [parE_out (by omega) (by rw [hs]; exact fun p => h p.2)]
      refine zw (nx @e0 <| nx @e1 <| nx @e2 <| nx @e3 <| nx @e4 <| nx @e5 <| nx @e6 <| nx @e7 <| @d) ?_
      exact ⟨trivial, _, rfl, rfl⟩
  by_cases hk3 : k = 3
  · have hs : span k = (0, 1099511627775) := by rw [hk3]; rfl
    have e0 : decide ((k : Int) = 0) = false := decide_eq_false (by omega)
    have e1 : decide ((k : Int) = 1) = false := decide_eq_false (by omega)
    have e2 : decide ((k : Int) = 2) = false := decide_eq_false (by omega)
    have e3 : decide ((k : Int) = 3) = true := decide_eq_true (by omega)
    have e4 : decide ((k : Int) = 4) = false := decide_eq_false (by omega)
    have e5 : decide ((k : Int) = 5) = false := decide_eq_false (by omega)
    have e6 : decide ((k : Int) = 6) = false := decide_eq_false (by omega)
    have e7 : decide ((k : Int) = 7) = false := decide_eq_false (by omega)
    by_cases h : n ≤ 1099511627775
    · have d : decide ((n : Int) < 1099511627776) = true := decide_eq_true (by omega)
      rw [parE_in (by omega) (by rw [hs]; exact Nat.zero_le _) (by rw [hs]; exact h)]
      refine zw (nx @e0 <| nx @e1 <| nx @e2 <| nx @e3 <| nx @e4 <| nx @e5 <| nx @e6 <| nx @e7 <| @d) ?_
      exact ⟨trivial, _, rfl, rfl⟩
    · have d : decide ((n : Int) < 1099511627776) = false := decide_eq_false (by omega)
      rw [parE_out (by omega) (by rw [hs]; exact fun p => h p.2)]
      refine zw (nx @e0 <| nx @e1 <| nx @e2 <| nx @e3 <| nx @e4 <| nx @e5 <| nx @e6 <| nx @e7 <| @d) ?_
      exact ⟨trivial, _, rfl, rfl⟩
  by_cases hk4 : k = 4
  · have hs : span k = (0, 1000) := by rw [hk4]; rfl
    have e0 : decide ((k : Int) = 0) = false := decide_eq_false (by omega)
    have e1 : decide ((k : Int) = 1) = false := decide_eq_false (by omega)
    have e2 : decide ((k : Int) = 2) = false := decide_eq_false (by omega)
    have e3 : decide ((k : Int) = 3) = false := decide_eq_false (by omega)
    have e4 : decide ((k : Int) = 4) = true := decide_eq_true (by omega)
    have e5 : decide ((k : Int) = 5) = false := decide_eq_false (by omega)
    have e6 : decide ((k : Int) = 6) = false := decide_eq_false (by omega)
    have e7 : decide ((k : Int) = 7) = false := decide_eq_false (by omega)
    by_cases h : n ≤ 1000
    · have d : decide ((n : Int) ≤ 1000) = true := decide_eq_true (by omega)
      rw [parE_in (by omega) (by rw [hs]; exact Nat.zero_le _) (by rw [hs]; exact h)]
      refine zw (nx @e0 <| nx @e1 <| nx @e2 <| nx @e3 <| nx @e4 <| nx @e5 <| nx @e6 <| nx @e7 <| @d) ?_
      exact ⟨trivial, _, rfl, rfl⟩
    · have d : decide ((n : Int) ≤ 1000) = false := decide_eq_false (by omega)
      rw [parE_out (by omega) (by rw [hs]; exact fun p => h p.2)]
      refine zw (nx @e0 <| nx @e1 <| nx @e2 <| nx @e3 <| nx @e4 <| nx @e5 <| nx @e6 <| nx @e7 <| @d) ?_
      exact ⟨trivial, _, rfl, rfl⟩
  by_cases hk5 : k = 5
  · have hs : span k = (0, 1000) := by rw [hk5]; rfl
    have e0 : decide ((k : Int) = 0) = false := decide_eq_false (by omega)
    have e1 : decide ((k : Int) = 1) = false := decide_eq_false (by omega)
    have e2 : decide ((k : Int) = 2) = false := decide_eq_false (by omega)
    have e3 : decide ((k : Int) = 3) = false := decide_eq_false (by omega)
    have e4 : decide ((k : Int) = 4) = false := decide_eq_false (by omega)
    have e5 : decide ((k : Int) = 5) = true := decide_eq_true (by omega)
    have e6 : decide ((k : Int) = 6) = false := decide_eq_false (by omega)
    have e7 : decide ((k : Int) = 7) = false := decide_eq_false (by omega)
    by_cases h : n ≤ 1000
    · have d : decide ((n : Int) ≤ 1000) = true := decide_eq_true (by omega)
      rw [parE_in (by omega) (by rw [hs]; exact Nat.zero_le _) (by rw [hs]; exact h)]
      refine zw (nx @e0 <| nx @e1 <| nx @e2 <| nx @e3 <| nx @e4 <| nx @e5 <| nx @e6 <| nx @e7 <| @d) ?_
      exact ⟨trivial, _, rfl, rfl⟩
    · have d : decide ((n : Int) ≤ 1000) = false := decide_eq_false (by omega)
      rw [parE_out (by omega) (by rw [hs]; exact fun p => h p.2)]
      refine zw (nx @e0 <| nx @e1 <| nx @e2 <| nx @e3 <| nx @e4 <| nx @e5 <| nx @e6 <| nx @e7 <| @d) ?_
      exact ⟨trivial, _, rfl, rfl⟩
  by_cases hk6 : k = 6
  · have hs : span k = (1, 1000) := by rw [hk6]; rfl
    have e0 : decide ((k : Int) = 0) = false := decide_eq_false (by omega)
    have e1 : decide ((k : Int) = 1) = false := decide_eq_false (by omega)
    have e2 : decide ((k : Int) = 2) = false := decide_eq_false (by omega)
    have e3 : decide ((k : Int) = 3) = false := decide_eq_false (by omega)
    have e4 : decide ((k : Int) = 4) = false := decide_eq_false (by omega)
    have e5 : decide ((k : Int) = 5) = false := decide_eq_false (by omega)
    have e6 : decide ((k : Int) = 6) = true := decide_eq_true (by omega)
    have e7 : decide ((k : Int) = 7) = false := decide_eq_false (by omega)
    by_cases g : 1 ≤ n
    · have d1 : decide ((1 : Int) ≤ (n : Int)) = true := decide_eq_true (by omega)
      by_cases h : n ≤ 1000
      · have d : decide ((n : Int) ≤ 1000) = true := decide_eq_true (by omega)
        rw [parE_in (by omega) (by rw [hs]; exact g) (by rw [hs]; exact h)]
        refine zw (nx @e0 <| nx @e1 <| nx @e2 <| nx @e3 <| nx @e4 <| nx @e5 <| nx @e6 <| nx @e7 <| nx @d <| @d1) ?_
        exact ⟨trivial, _, rfl, rfl⟩
      · have d : decide ((n : Int) ≤ 1000) = false := decide_eq_false (by omega)
        rw [parE_out (by omega) (by rw [hs]; exact fun p => h p.2)]
        refine zw (nx @e0 <| nx @e1 <| nx @e2 <| nx @e3 <| nx @e4 <| nx @e5 <| nx @e6 <| nx @e7 <| nx @d <| @d1) ?_
        exact ⟨trivial, _, rfl, rfl⟩
    · have d1 : decide ((1 : Int) ≤ (n : Int)) = false := decide_eq_false (by omega)
      rw [parE_out (by omega) (by rw [hs]; exact fun p => g p.1)]
      refine zw (nx @e0 <| nx @e1 <| nx @e2 <| nx @e3 <| nx @e4 <| nx @e5 <| nx @e6 <| nx @e7 <| @d1) ?_
      exact ⟨trivial, _, rfl, rfl⟩
  by_cases hk7 : k = 7
  · have hs : span k = (1, 32768) := by rw [hk7]; rfl
    have e0 : decide ((k : Int) = 0) = false := decide_eq_false (by omega)
    have e1 : decide ((k : Int) = 1) = false := decide_eq_false (by omega)
    have e2 : decide ((k : Int) = 2) = false := decide_eq_false (by omega)
    have e3 : decide ((k : Int) = 3) = false := decide_eq_false (by omega)
    have e4 : decide ((k : Int) = 4) = false := decide_eq_false (by omega)
    have e5 : decide ((k : Int) = 5) = false := decide_eq_false (by omega)
    have e6 : decide ((k : Int) = 6) = false := decide_eq_false (by omega)
    have e7 : decide ((k : Int) = 7) = true := decide_eq_true (by omega)
    by_cases g : 1 ≤ n
    · have d1 : decide ((1 : Int) ≤ (n : Int)) = true := decide_eq_true (by omega)
      by_cases h : n ≤ 32768
      · have d : decide ((n : Int) ≤ 32768) = true := decide_eq_true (by omega)
        rw [parE_in (by omega) (by rw [hs]; exact g) (by rw [hs]; exact h)]
        refine zw (nx @e0 <| nx @e1 <| nx @e2 <| nx @e3 <| nx @e4 <| nx @e5 <| nx @e6 <| nx @e7 <| nx @d <| @d1) ?_
        exact ⟨trivial, _, rfl, rfl⟩
      · have d : decide ((n : Int) ≤ 32768) = false := decide_eq_false (by omega)
        rw [parE_out (by omega) (by rw [hs]; exact fun p => h p.2)]
        refine zw (nx @e0 <| nx @e1 <| nx @e2 <| nx @e3 <| nx @e4 <| nx @e5 <| nx @e6 <| nx @e7 <| nx @d <| @d1) ?_
        exact ⟨trivial, _, rfl, rfl⟩
    · have d1 : decide ((1 : Int) ≤ (n : Int)) = false := decide_eq_false (by omega)
      rw [parE_out (by omega) (by rw [hs]; exact fun p => g p.1)]
      refine zw (nx @e0 <| nx @e1 <| nx @e2 <| nx @e3 <| nx @e4 <| nx @e5 <| nx @e6 <| nx @e7 <| @d1) ?_
      exact ⟨trivial, _, rfl, rfl⟩
  · have hp : parE k n = 5 := by unfold parE; rw [if_pos (by omega)]
    rw [hp]
    have e0 : decide ((k : Int) = 0) = false := decide_eq_false (by omega)
    have e1 : decide ((k : Int) = 1) = false := decide_eq_false (by omega)
    have e2 : decide ((k : Int) = 2) = false := decide_eq_false (by omega)
    have e3 : decide ((k : Int) = 3) = false := decide_eq_false (by omega)
    have e4 : decide ((k : Int) = 4) = false := decide_eq_false (by omega)
    have e5 : decide ((k : Int) = 5) = false := decide_eq_false (by omega)
    have e6 : decide ((k : Int) = 6) = false := decide_eq_false (by omega)
    have e7 : decide ((k : Int) = 7) = false := decide_eq_false (by omega)
    refine zw (nx @e0 <| nx @e1 <| nx @e2 <| nx @e3 <| nx @e4 <| nx @e5 <| nx @e6 <| @e7) ?_
    exact ⟨trivial, _, rfl, rfl⟩
/-! ### Seats -/
def seatB (s : SeatM) : Bool := decide (s.pledge < 9223372036854775808 ∧ s.cost < 9223372036854775808 ∧ s.margin ≤ 1000)
theorem psPl (x : SeatM) : partD Tryz.prog 40 (seatD x) 64 = some (.int .u64 x.pledge) := part_one (n := 1) (by kernel_rfl) (by kernel_rfl) (hD x.pool ++ hD x.key) _ [.int .u64 x.cost, .int .u64 x.margin] (by simp [seatD]) (by simp [hD_length])
theorem psCo (x : SeatM) : partD Tryz.prog 40 (seatD x) 65 = some (.int .u64 x.cost) := part_one (n := 1) (by kernel_rfl) (by kernel_rfl) (hD x.pool ++ (hD x.key ++ [.int .u64 x.pledge])) _ [.int .u64 x.margin] (by simp [seatD]) (by simp [hD_length])
theorem psMa (x : SeatM) : partD Tryz.prog 40 (seatD x) 66 = some (.int .u64 x.margin) := part_one (n := 1) (by kernel_rfl) (by kernel_rfl) (hD x.pool ++ (hD x.key ++ [.int .u64 x.pledge, .int .u64 x.cost])) _ [] (by simp [seatD]) (by simp [hD_length])
theorem r_seat (fl : Fl) (x : SeatM) (st : St) : run Tryz.prog rzH fl 109 [.agg (seatD x)] st = some (.bool (seatB x), st) := by
  refine run_sim (fi := ⟨true, [1], []⟩) rfl rfl rfl Tryz.func109 rfl rfl ?_
  simp only [argsFr]
  unfold seatB
  by_cases h1 : x.pledge < 9223372036854775808
  · have d1 : decide ((x.pledge : Int) < 9223372036854775808) = true := decide_eq_true (by omega)
    by_cases h2 : x.cost < 9223372036854775808
    · have d2 : decide ((x.cost : Int) < 9223372036854775808) = true := decide_eq_true (by omega)
      by_cases h3 : x.margin ≤ 1000
      · have d3 : decide ((x.margin : Int) ≤ 1000) = true := decide_eq_true (by omega)
        rw [decide_eq_true (p := _ ∧ _) (by omega)]
        refine zw (nx @fa_54_2 <| nx @fa_54_3 <| nx @fa_54_4 <| nx @ld_box <| nx @psPl <| nx @psCo <| nx @psMa <| nx @d1 <| nx @d2 <| @d3) ?_
        exact ⟨trivial, _, rfl, rfl⟩
      · have d3 : decide ((x.margin : Int) ≤ 1000) = false := decide_eq_false (by omega)
        rw [decide_eq_false (p := _ ∧ _) (by omega)]
        refine zw (nx @fa_54_2 <| nx @fa_54_3 <| nx @fa_54_4 <| nx @ld_box <| nx @psPl <| nx @psCo <| nx @psMa <| nx @d1 <| nx @d2 <| @d3) ?_
        exact ⟨trivial, _, rfl, rfl⟩
    · have d2 : decide ((x.cost : Int) < 9223372036854775808) = false := decide_eq_false (by omega)
      rw [decide_eq_false (p := _ ∧ _) (by omega)]
      refine zw (nx @fa_54_2 <| nx @fa_54_3 <| nx @fa_54_4 <| nx @ld_box <| nx @psPl <| nx @psCo <| nx @psMa <| nx @d1 <| @d2) ?_
      exact ⟨trivial, _, rfl, rfl⟩
  · have d1 : decide ((x.pledge : Int) < 9223372036854775808) = false := decide_eq_false (by omega)
    rw [decide_eq_false (p := _ ∧ _) (by omega)]
    refine zw (nx @fa_54_2 <| nx @fa_54_3 <| nx @fa_54_4 <| nx @ld_box <| nx @psPl <| nx @psCo <| nx @psMa <| @d1) ?_
    exact ⟨trivial, _, rfl, rfl⟩
theorem r_rseat (fl : Fl) (x : SeatM) (st : St) : run Tryz.prog rzH fl 65 [.agg (seatD x)] st = some (.bool (seatB x), st) := by
  refine run_sim (fi := ⟨true, [1], []⟩) rfl rfl rfl Tryz.func65 rfl rfl ?_
  simp only [argsFr]
  unfold seatB
  by_cases h1 : x.pledge < 9223372036854775808
  · have d1 : decide ((x.pledge : Int) < 9223372036854775808) = true := decide_eq_true (by omega)
    by_cases h2 : x.cost < 9223372036854775808
    · have d2 : decide ((x.cost : Int) < 9223372036854775808) = true := decide_eq_true (by omega)
      by_cases h3 : x.margin ≤ 1000
      · have d3 : decide ((x.margin : Int) ≤ 1000) = true := decide_eq_true (by omega)
        rw [decide_eq_true (p := _ ∧ _) (by omega)]
        refine zw (nx @fa_54_2 <| nx @fa_54_3 <| nx @fa_54_4 <| nx @ld_box <| nx @psPl <| nx @psCo <| nx @psMa <| nx @d1 <| nx @d2 <| @d3) ?_
        exact ⟨trivial, _, rfl, rfl⟩
      · have d3 : decide ((x.margin : Int) ≤ 1000) = false := decide_eq_false (by omega)
        rw [decide_eq_false (p := _ ∧ _) (by omega)]
        refine zw (nx @fa_54_2 <| nx @fa_54_3 <| nx @fa_54_4 <| nx @ld_box <| nx @psPl <| nx @psCo <| nx @psMa <| nx @d1 <| nx @d2 <| @d3) ?_
        exact ⟨trivial, _, rfl, rfl⟩
    · have d2 : decide ((x.cost : Int) < 9223372036854775808) = false := decide_eq_false (by omega)
      rw [decide_eq_false (p := _ ∧ _) (by omega)]
      refine zw (nx @fa_54_2 <| nx @fa_54_3 <| nx @fa_54_4 <| nx @ld_box <| nx @psPl <| nx @psCo <| nx @psMa <| nx @d1 <| @d2) ?_
      exact ⟨trivial, _, rfl, rfl⟩
  · have d1 : decide ((x.pledge : Int) < 9223372036854775808) = false := decide_eq_false (by omega)
    rw [decide_eq_false (p := _ ∧ _) (by omega)]
    refine zw (nx @fa_54_2 <| nx @fa_54_3 <| nx @fa_54_4 <| nx @ld_box <| nx @psPl <| nx @psCo <| nx @psMa <| @d1) ?_
    exact ⟨trivial, _, rfl, rfl⟩
end Go.Ab.Rz

/-
  A shelf of accounts: its twigs and its methods, gone through.
-/
namespace Go.Ab.Ac
open Go Go.Proofs Go.Ab Go.Ab.G
set_option maxRecDepth 100000
set_option maxHeartbeats 4000000

def twD : Tw Rz.AccM → D
  | .nil => .nilp
  | .node k v rk c l r => .box 0 (.str k :: (Rz.accD v ++ [.int .u64 rk, .int .i64 c, twD l, twD r]))
def nodeC (k : List UInt8) (v : Rz.AccM) (rk c : Int) (l r : D) : List D := .str k :: (Rz.accD v ++ [.int .u64 rk, .int .i64 c, l, r])
theorem tw_nil : twD .nil = .nilp := rfl
theorem tw_node (k : List UInt8) (v : Rz.AccM) (rk c : Int) (l r : Tw Rz.AccM) : twD (.node k v rk c l r) = .box 0 (nodeC k v rk c (twD l) (twD r)) := rfl
theorem eqP_n : eqD Tryz.prog 31 .nilp .nilp = some true := by kernel_rfl
theorem eqP_b (o : Nat) (cs : List D) : eqD Tryz.prog 31 (.box o cs) .nilp = some false := by kernel_rfl
theorem fa_0 (cs : List D) : fieldAddrD Tryz.prog 224 (.box 0 cs) 0 = some (.box 0 cs) := by kernel_rfl
theorem fa_1 (cs : List D) : fieldAddrD Tryz.prog 224 (.box 0 cs) 1 = some (.box 1 cs) := by kernel_rfl
theorem fa_2 (cs : List D) : fieldAddrD Tryz.prog 224 (.box 0 cs) 2 = some (.box (1 + 66) cs) := by kernel_rfl
theorem fa_3 (cs : List D) : fieldAddrD Tryz.prog 224 (.box 0 cs) 3 = some (.box (2 + 66) cs) := by kernel_rfl
theorem fa_4 (cs : List D) : fieldAddrD Tryz.prog 224 (.box 0 cs) 4 = some (.box (3 + 66) cs) := by kernel_rfl
theorem fa_5 (cs : List D) : fieldAddrD Tryz.prog 224 (.box 0 cs) 5 = some (.box (4 + 66) cs) := by kernel_rfl
theorem ldK (k : List UInt8) (v : Rz.AccM) (rk c : Int) (l r : D) (st : St) : loadD Tryz.prog st 9 (.box 0 (nodeC k v rk c l r)) = some (.str k) := by
  unfold nodeC
  generalize (Rz.accD v ++ [.int .u64 rk, .int .i64 c, l, r]) = cs
  kernel_rfl
theorem ptV (v : Rz.AccM) : partD Tryz.prog 48 (Rz.accD v) 0 = some (.agg (Rz.accD v)) := by
  simp only [partD, ag_48, ts_48]
  rw [if_pos (by rw [Rz.accD_length]; omega), List.drop_zero, List.take_of_length_le (by rw [Rz.accD_length]; omega)]
theorem ldB (v : Rz.AccM) (st : St) : loadD Tryz.prog st 48 (.box 0 (Rz.accD v)) = some (.agg (Rz.accD v)) := ptV v
theorem ldV (k : List UInt8) (v : Rz.AccM) (rk c : Int) (l r : D) (st : St) : loadD Tryz.prog st 48 (.box 1 (nodeC k v rk c l r)) = some (.agg (Rz.accD v)) := by
  unfold nodeC
  simp only [loadD, partD, ag_48, ts_48]
  rw [if_pos (by rw [List.length_cons, List.length_append, Rz.accD_length]; omega), List.drop_succ_cons, List.drop_zero, List.take_append_of_le_length (by rw [Rz.accD_length]; omega), List.take_of_length_le (by rw [Rz.accD_length]; omega)]
theorem at_cells (k : List UInt8) (v : Rz.AccM) (x : List D) (i : Nat) : (D.str k :: (Rz.accD v ++ x))[i + 1 + 66]? = x[i]? := by
  rw [show i + 1 + 66 = (i + 66) + 1 by omega, List.getElem?_cons_succ, List.getElem?_append_right (by rw [Rz.accD_length]; omega), Rz.accD_length, show i + 66 - 66 = i by omega]
theorem ldR (k : List UInt8) (v : Rz.AccM) (rk c : Int) (l r : D) (st : St) : loadD Tryz.prog st 40 (.box (1 + 66) (nodeC k v rk c l r)) = some (.int .u64 rk) := by
  rw [show ∀ cs : List D, loadD Tryz.prog st 40 (.box (1 + 66) cs) = cs[0 + 1 + 66]? from fun cs => by kernel_rfl, nodeC, at_cells]; rfl
theorem ldC (k : List UInt8) (v : Rz.AccM) (rk c : Int) (l r : D) (st : St) : loadD Tryz.prog st 3 (.box (2 + 66) (nodeC k v rk c l r)) = some (.int .i64 c) := by
  rw [show ∀ cs : List D, loadD Tryz.prog st 3 (.box (2 + 66) cs) = cs[1 + 1 + 66]? from fun cs => by kernel_rfl, nodeC, at_cells]; rfl
theorem ldL (k : List UInt8) (v : Rz.AccM) (rk c : Int) (l r : D) (st : St) : loadD Tryz.prog st 31 (.box (3 + 66) (nodeC k v rk c l r)) = some (l) := by
  rw [show ∀ cs : List D, loadD Tryz.prog st 31 (.box (3 + 66) cs) = cs[2 + 1 + 66]? from fun cs => by kernel_rfl, nodeC, at_cells]; rfl
theorem ldG (k : List UInt8) (v : Rz.AccM) (rk c : Int) (l r : D) (st : St) : loadD Tryz.prog st 31 (.box (4 + 66) (nodeC k v rk c l r)) = some (r) := by
  rw [show ∀ cs : List D, loadD Tryz.prog st 31 (.box (4 + 66) cs) = cs[3 + 1 + 66]? from fun cs => by kernel_rfl, nodeC, at_cells]; rfl

theorem runCOUNT (fl : Fl) (t : Tw Rz.AccM) (st : St) : run Tryz.prog rzH fl 167 [twD t] st = some (.int .i64 t.cnt, st) := by
  refine run_sim (fi := ⟨true, [], []⟩) rfl rfl rfl Tryz.func167 rfl rfl ?_
  simp only [argsFr]
  cases t with
  | nil =>
    simp only [tw_nil]
    refine zw (@eqP_n) ?_
    exact ⟨trivial, _, rfl, rfl⟩
  | node k v rk c l r =>
    simp only [tw_node]
    refine zw (nx @eqP_b <| nx @fa_3 <| @ldC) ?_
    exact ⟨trivial, _, rfl, rfl⟩
theorem tw_one (t : Tw Rz.AccM) : (twD t).one = true := by cases t <;> rfl
theorem tw_flat : ∀ t : Tw Rz.AccM, (twD t).flat = true
  | .nil => rfl
  | .node k v rk c l r => by simp [twD, D.flat, flatL, flat_append, Rz.accD_flat, tw_flat l, tw_flat r]
theorem node_flat (k : List UInt8) (v : Rz.AccM) (rk c : Int) {l r : D} (hl : l.flat = true) (hr : r.flat = true) : flatL (nodeC k v rk c l r) = true := by simp [nodeC, D.flat, flatL, flat_append, Rz.accD_flat, hl, hr]
theorem bdN (k : List UInt8) (v : Rz.AccM) (rk c : Int) (e f : Tw Rz.AccM) : buildD Tryz.prog 224 [(0, .str k), (1, .agg (Rz.accD v)), (2, .int .u64 rk), (3, .int .i64 c), (4, twD e), (5, twD f)] = some (.agg (nodeC k v rk c (twD e) (twD f))) := by
  rw [bd_224_0_1_2_3_4_5 _ _ _ _ _ _ rfl (Rz.accD_length v) rfl rfl (tw_one e) (tw_one f), nodeC]
  simp
theorem bdN4 (k : List UInt8) (v : Rz.AccM) (rk c : Int) : buildD Tryz.prog 224 [(0, .str k), (1, .agg (Rz.accD v)), (2, .int .u64 rk), (3, .int .i64 c)] = some (.agg (nodeC k v rk c .nilp .nilp)) := by
  rw [bd_224_0_1_2_3 _ _ _ _ rfl (Rz.accD_length v) rfl rfl, nodeC]
  simp
theorem runWITH (fl : Fl) (k : List UInt8) (v : Rz.AccM) (rk c : Int) (dl dr : D) (a b : Tw Rz.AccM) (st : St) (ha : 0 ≤ a.cnt ∧ 0 ≤ b.cnt ∧ a.cnt + b.cnt < 4611686018427387904) :
    run Tryz.prog rzH fl 185 [.box 0 (nodeC k v rk c dl dr), twD a, twD b] st = some (.box 0 (nodeC k v rk (a.cnt + b.cnt + 1) (twD a) (twD b)), st) := by
  refine run_sim (fi := ⟨true, [28], []⟩) rfl rfl rfl Tryz.func185 rfl rfl ?_
  simp only [argsFr]
  refine zw (nx @fa_0 <| nx @fa_1 <| nx @fa_2 <| nx @ldK <| nx @ldV <| nx @ldR <| nx @runCOUNT <| @bdN) ?_
  exact fin (d := .box 0 (nodeC k v rk (a.cnt + b.cnt + 1) (twD a) (twD b))) rfl rfl (node_flat _ _ _ _ (tw_flat a) (tw_flat b))
theorem runSPLIT (key : List UInt8) : ∀ (t : Tw Rz.AccM) (fl : Fl) (st : St), t.Good → t.size < 4611686018427387904 →
    run Tryz.prog rzH fl 148 [twD t, .str key] st = some (.tuple [twD (splitM key t).1, twD (splitM key t).2], st)
  | .nil, fl, st, hg, hs => by
    refine run_sim (fi := ⟨true, [], []⟩) rfl rfl rfl Tryz.func148 rfl rfl ?_
    simp only [argsFr, tw_nil, tw_node]
    refine zw (@eqP_n) ?_
    exact ⟨trivial, _, rfl, rfl⟩
  | .node k v rk c l r, fl, st, hg, hs => by
    have ihl := fun fl st => runSPLIT key l fl st hg.2.1 (by simp only [Tw.size] at hs; omega)
    have ihr := fun fl st => runSPLIT key r fl st hg.2.2 (by simp only [Tw.size] at hs; omega)
    obtain ⟨r1, r2, r3⟩ := splitM_good key hg.2.2
    obtain ⟨l1, l2, l3⟩ := splitM_good key hg.2.1
    have e1 := Tw.cnt_size r1
    have e2 := Tw.cnt_size l2
    have e3 := Tw.cnt_size hg.2.1
    have e4 := Tw.cnt_size hg.2.2
    refine run_sim (fi := ⟨true, [], []⟩) rfl rfl rfl Tryz.func148 rfl rfl ?_
    unfold splitM
    simp only [argsFr, tw_nil, tw_node]
    simp only [Tw.size] at hs
    refine zw (nx @eqP_b <| nx @fa_0 <| nx @ldK <| @strBin.eq_def) ?_
    by_cases h1 : lessB k key = true
    · rw [if_pos h1, if_pos h1]
      refine zw (nx @eqP_b <| nx @fa_0 <| nx @fa_5 <| nx @fa_4 <| nx @ldK <| nx @ldL <| nx @ldG <| nx @strBin.eq_def <| nx @ihr <| @runWITH) ?_
      exact fin rfl rfl (by simp [D.flat, flatL, tw_flat, node_flat, tw_node])
    · rw [if_neg h1, if_neg h1]
      refine zw (nx @eqP_b <| nx @fa_0 <| nx @ldK <| @strBin.eq_def) ?_
      by_cases h2 : k = key
      · subst h2
        rw [if_pos rfl, if_neg (by simp)]
        refine zw (nx @eqP_b <| nx @fa_4 <| nx @fa_5 <| nx @ldL <| @ldG) ?_
        exact fin rfl rfl (by simp [D.flat, flatL, tw_flat, node_flat, tw_node])
      · rw [if_neg h2, if_pos (by simp [h1, h2])]
        refine zw (nx @eqP_b <| nx @fa_0 <| nx @fa_5 <| nx @fa_4 <| nx @ldK <| nx @ldL <| nx @ldG <| nx @strBin.eq_def <| nx @ihl <| @runWITH) ?_
        exact fin rfl rfl (by simp [D.flat, flatL, tw_flat, node_flat, tw_node])

theorem runJOIN : ∀ (n : Nat) (a b : Tw Rz.AccM) (fl : Fl) (st : St), a.size + b.size < n → n ≤ 4611686018427387904 → a.Good → b.Good → run Tryz.prog rzH fl 149 [twD a, twD b] st = some (twD (joinM a b), st)
  | 0, a, b, fl, st, h, _, _, _ => by omega
  | n + 1, a, b, fl, st, h, hn, ha, hb => by
    refine run_sim (fi := ⟨true, [], []⟩) rfl rfl rfl Tryz.func149 rfl rfl ?_
    simp only [argsFr]
    cases a with
    | nil =>
      simp only [joinM_nil]
      simp only [tw_nil, tw_node]
      refine zw (@eqP_n) ?_
      exact fin rfl rfl (tw_flat b)
    | node k v rk c l r =>
      cases b with
      | nil =>
        simp only [joinM_nil']
        simp only [tw_nil, tw_node]
        refine zw (nx @eqP_n <| @eqP_b) ?_
        exact fin rfl rfl (tw_flat (.node k v rk c l r))
      | node k' v' rk' c' l' r' =>
        have i1 := fun fl st => runJOIN n r (.node k' v' rk' c' l' r') fl st (by simp only [Tw.size] at h ⊢; omega) (by omega) ha.2.2 hb
        have i2 := fun fl st => runJOIN n (.node k v rk c l r) l' fl st (by simp only [Tw.size] at h ⊢; omega) (by omega) ha hb.2.1
        obtain ⟨g1, s1'⟩ := joinM_good (n + 1) r (.node k' v' rk' c' l' r') (by simp only [Tw.size] at h ⊢; omega) ha.2.2 hb
        obtain ⟨g2, s2'⟩ := joinM_good (n + 1) (.node k v rk c l r) l' (by simp only [Tw.size] at h ⊢; omega) ha hb.2.1
        have e1 := Tw.cnt_size g1
        have e2 := Tw.cnt_size g2
        have e3 := Tw.cnt_size ha.2.1
        have e4 := Tw.cnt_size hb.2.2
        simp only [Tw.size] at h s1' s2'
        simp only [tw_node] at i1 i2
        rw [joinM_node]
        simp only [tw_nil, tw_node]
        refine zw (nx @eqP_b <| nx @fa_2 <| @ldR) ?_
        refine sc_dec (fun hlt => ?_) (fun hge => ?_)
        · rw [if_pos (by omega)]
          refine zw (nx @fa_4 <| nx @fa_5 <| nx @ldL <| nx @ldG <| nx @i1 <| @runWITH) ?_
          exact fin rfl rfl (by simp [D.flat, flatL, tw_flat, node_flat, tw_node])
        · rw [if_neg (by omega)]
          refine zw (nx @fa_4 <| nx @fa_5 <| nx @ldL <| nx @ldG <| nx @i2 <| @runWITH) ?_
          exact fin rfl rfl (by simp [D.flat, flatL, tw_flat, node_flat, tw_node])

def shD (t : Tw Rz.AccM) : D := .agg [twD t]
theorem len9 (s : List UInt8) : lenD Tryz.prog 9 (.str s) = some (.int .i64 s.length) := by kernel_rfl
theorem xor64 (x y : Int) : intBin .xor .u64 x y = some (.int .u64 (rkXor x y)) := rfl
theorem mul64 (x y : Int) : intBin .mul .u64 x y = some (.int .u64 (IntKind.wrap .u64 (x * y))) := rfl
theorem shr29 (x : Int) : shiftD .shr .u64 x 29 = some (.int .u64 (x.fdiv (2 ^ 29))) := rfl
theorem cv5_26 (imm : Bool) (st : St) (n : Int) : convertD Tryz.prog imm st 5 40 (.int .u8 n) = some (.int .u64 (IntKind.wrap .u64 n), st) := by kernel_rfl
theorem idx9 (s : List UInt8) (n : Int) (h : 0 ≤ n) (h' : n < s.length) : indexD Tryz.prog 9 (.str s) (.int .i64 n) = some (.int .u8 (s.getD n.toNat 0).toNat) := by
  have : indexD Tryz.prog 9 (.str s) (.int .i64 n) = if n < 0 then none else (s[n.toNat]?).map fun c => .int .u8 c.toNat := by kernel_rfl
  rw [this, if_neg (by omega), List.getElem?_eq_getElem (by omega), Option.map_some]
  have hn : n.toNat < s.length := by omega
  simp [hn]
theorem runRANK (fl : Fl) (s : List UInt8) (hs : s.length ≤ 4611686018427387904) (st : St) : run Tryz.prog rzH fl 114 [.str s] st = some (.int .u64 (rkM s), st) := by
  refine run_sim (fi := ⟨true, [], [(3, [0, 3, 6, 7])]⟩) rfl rfl rfl Tryz.func114 rfl rfl ?_
  simp only [argsFr]
  refine zw (@len9) ?_
  refine sk_count ⟨true, [], [(3, [0, 3, 6, 7])]⟩ rfl [0, 3, 6, 7] rfl (fun m fr => ∃ (i : Nat) (x : Int), m = s.length - i ∧ i ≤ s.length ∧ fr = [(0, .str s), (3, .int .u64 x), (6, .int .i64 s.length), (7, .int .i64 i)] ∧ (s.drop i).foldl rkStep x = s.foldl rkStep 14695981039346656037) s.length ?_ ?_
  · refine zw True.intro ?_
    exact ⟨0, _, rfl, by omega, rfl, rfl⟩
  · rintro m fr ⟨i, x, rfl, hi, rfl, hx⟩
    refine zw True.intro ?_
    refine sc_dec (fun hlt => ?_) (fun hge => ?_)
    · refine zw (nx @idx9 <| nx @Int.toNat_natCast <| nx @cv5_26 <| nx @xor64 <| @mul64) ?_
      refine turn_go0 (s.length - (i + 1)) (by omega) ?_
      refine zw True.intro ?_
      refine ⟨i + 1, rkStep x (s.getD i 0), rfl, by omega, ?_, ?_⟩
      · unfold rkStep; rfl
      · rw [← hx, List.drop_eq_getElem_cons (by omega : i < s.length), List.foldl_cons]
        have hg : s.getD i 0 = s[i]'(by omega) := by simp [show i < s.length by omega]
        rw [← hg]
    · refine zw (nx @xor64 <| nx @mul64 <| @shr29) ?_
      have : i = s.length := by omega
      subst this
      simp at hx
      subst hx
      exact ⟨trivial, _, rfl, rfl⟩

theorem faS (cs : List D) : fieldAddrD Tryz.prog 33 (.box 0 cs) 0 = some (.box 0 cs) := by kernel_rfl
theorem ldS (a : D) (st : St) : loadD Tryz.prog st 31 (.box 0 [a]) = some a := by kernel_rfl
theorem ldSS (a : D) (st : St) : loadD Tryz.prog st 33 (.box 0 [a]) = some (.agg [a]) := by kernel_rfl
theorem tzS : tyZero Tryz.prog 33 = some [.nilp] := by kernel_rfl
theorem tsS : tySize Tryz.prog 33 = some 1 := by kernel_rfl
theorem ptS (a : D) : partD Tryz.prog 33 [a] 0 = some (.agg [a]) := by kernel_rfl
theorem bdS (t : Tw Rz.AccM) : buildD Tryz.prog 33 [(0, twD t)] = some (.agg [twD t]) := bd_33_0 _ (tw_one t)
theorem splV (v w : Rz.AccM) : splice (Rz.accD v) 0 (Rz.accD w) = Rz.accD w := splice_all (by rw [Rz.accD_length, Rz.accD_length])
theorem tzV : tyZero Tryz.prog 48 = some (Rz.accD Rz.zAcc) := by kernel_rfl
theorem runLEN (fl : Fl) (t : Tw Rz.AccM) (st : St) : run Tryz.prog rzH fl 121 [shD t] st = some (.int .i64 t.cnt, st) := by
  refine run_sim (fi := ⟨true, [1], []⟩) rfl rfl rfl Tryz.func121 rfl rfl ?_
  simp only [argsFr, shD]
  refine zw (nx @faS <| nx @ldS <| @runCOUNT) ?_
  exact ⟨trivial, _, rfl, rfl⟩
theorem runPUT (fl : Fl) (t : Tw Rz.AccM) (key : List UInt8) (v : Rz.AccM) (st : St) (hg : t.Good) (hs : t.size < 1000000) (hk : key.length ≤ 4611686018427387904) : run Tryz.prog rzH fl 111 [shD t, .str key, .agg (Rz.accD v)] st = some (shD (putM t key v), st) := by
  obtain ⟨g1, g2, g3⟩ := splitM_good key hg
  obtain ⟨j1, j2⟩ := joinM_good _ _ (.node key v (rkM key) 1 .nil .nil) (Nat.lt_succ_self _) g1 (one_good key v _)
  have r1 := fun fl st => runSPLIT key t fl st hg (by omega)
  have r2 := fun fl st => runRANK fl key hk st
  have ra := fun fl st => runJOIN 4000000 _ _ fl st (by simp only [Tw.size]; omega) (by omega) g1 (one_good key v (rkM key))
  have rb := fun fl st => runJOIN 4000000 _ _ fl st (by rw [j2]; simp only [Tw.size]; omega) (by omega) j1 g2
  simp only [tw_nil, tw_node] at ra
  refine run_sime (fi := ⟨true, [3, 5, 22, 18], []⟩) (rs := [.cell 6 33]) rfl rfl rfl Tryz.func111 rfl rfl ?_
  simp only [argsFr, shD]
  refine zw (nx @lay_len <| nx @lay_new <| nx @tzS <| nx @faS <| nx @ldS <| nx @ldB <| nx @ptV <| nx @r1 <| nx @r2 <| nx @bdN4 <| nx @ra <| nx @rb <| nx @bdS <| nx @store_agg <| nx @tsS <| nx @List.set_cons_zero.{0} <| @Nat.le_refl) ?_
  apply fin_cell (x := .ref (st.blk.length + 0) 0)
  · rfl
  · rw [load_ext]; exact ptS _
  · simp [D.flat, flatL, tw_flat]
def bestD : Option (List UInt8 × Rz.AccM) → D → Prop
  | none, d => d = .nilp
  | some (k, v), d => ∃ rk c l r, d = twD (.node k v rk c l r)
def nextD : Option (List UInt8 × Rz.AccM) → D
  | none => .tuple [.str [], .agg (Rz.accD Rz.zAcc), .bool false]
  | some (k, v) => .tuple [.str k, .agg (Rz.accD v), .bool true]
theorem runNEXT (fl : Fl) (t : Tw Rz.AccM) (key : List UInt8) (st : St) : run Tryz.prog rzH fl 118 [shD t, .str key] st = some (nextD (nextM key t none), st) := by
  refine run_sime (fi := ⟨true, [2], [(3, [1, 5, 7, 8])]⟩) (rs := [.tmp 4, .cell 5 48, .tmp 6]) rfl rfl rfl Tryz.func118 rfl rfl ?_
  simp only [argsFr, shD]
  refine zw (nx @tzV <| nx @faS <| @ldS) ?_
  refine sk_count ⟨true, [2], [(3, [1, 5, 7, 8])]⟩ rfl [1, 5, 7, 8] rfl (fun m fr => ∃ (u : Tw Rz.AccM) (b : Option (List UInt8 × Rz.AccM)) (d : D), m = u.size ∧ bestD b d ∧ fr = [(1, .str key), (5, .ref (st.blk.length + 0) 0), (7, d), (8, twD u)] ∧ nextM key u b = nextM key t none) t.size ?_ ?_
  · refine zw True.intro ?_
    exact ⟨t, none, .nilp, rfl, rfl, rfl, rfl⟩
  · rintro m fr ⟨u, b, d, rfl, hb, rfl, hx⟩
    cases u with
    | nil =>
      simp only [tw_nil]
      simp only [nextM] at hx
      rw [← hx]
      clear hx
      cases b with
      | none =>
        simp only [bestD] at hb
        subst hb
        refine zw (nx @eqP_n <| nx @tzV <| nx @ptV <| nx @splV <| nx @Rz.accD_length <| @ts_48) ?_
        exact fin_tct (y := .ref (st.blk.length + 0) 0) rfl rfl (by rw [load_ext]; exact ptV _) rfl (by simp [D.flat, Rz.accD_flat]) rfl rfl
      | some kv =>
        obtain ⟨k, v⟩ := kv
        obtain ⟨rk, c, l, r, rfl⟩ := hb
        simp only [tw_node]
        refine zw (nx @eqP_n <| nx @eqP_b <| nx @fa_0 <| nx @fa_1 <| nx @ldK <| nx @ldV <| nx @tzV <| nx @ptV <| nx @splV <| nx @Rz.accD_length <| @ts_48) ?_
        exact fin_tct (y := .ref (st.blk.length + 0) 0) rfl rfl (by rw [load_ext]; exact ptV _) rfl (by simp [D.flat, Rz.accD_flat]) rfl rfl
    | node k v rk c l r =>
      simp only [tw_node]
      refine zw (nx @eqP_b <| nx @fa_0 <| nx @ldK <| @strBin.eq_def) ?_
      simp only [nextM] at hx
      by_cases h1 : lessB k key = true
      · rw [if_neg (by simp [h1])]
        rw [if_pos h1] at hx
        refine zw (nx @fa_5 <| @ldG) ?_
        refine turn_go0 r.size (by simp only [Tw.size]; omega) ?_
        refine zw True.intro ?_
        exact ⟨r, b, d, rfl, hb, rfl, hx⟩
      · rw [if_pos (by simp [h1])]
        rw [if_neg h1] at hx
        refine zw (nx @fa_4 <| @ldL) ?_
        refine turn_go0 l.size (by simp only [Tw.size]; omega) ?_
        refine zw True.intro ?_
        exact ⟨l, some (k, v), twD (.node k v rk c l r), rfl, ⟨rk, c, l, r, rfl⟩, rfl, hx⟩
def getD' : Option Rz.AccM → D
  | none => .tuple [.agg (Rz.accD Rz.zAcc), .bool false]
  | some v => .tuple [.agg (Rz.accD v), .bool true]
theorem runGET (fl : Fl) (t : Tw Rz.AccM) (key : List UInt8) (st : St) : run Tryz.prog rzH fl 70 [shD t, .str key] st = some (getD' (getM key t), st) := by
  have r1 := fun fl st => runNEXT fl t key st
  simp only [shD] at r1
  refine run_sime (fi := ⟨true, [2], []⟩) (rs := [.cell 4 48, .tmp 5]) rfl rfl rfl Tryz.func70 rfl rfl ?_
  cases hn : nextM key t none with
  | none =>
    rw [show getM key t = none by simp [getM, hn]]
    simp only [hn, nextD] at r1
    simp only [argsFr, shD]
    refine zw (nx @ldSS <| nx @r1 <| nx @tzV <| nx @ptV <| nx @splV <| nx @Rz.accD_length <| @ts_48) ?_
    exact fin_ct (x := .ref (st.blk.length + 0) 0) rfl (by rw [load_ext]; exact ptV _) rfl (by simp [D.flat, Rz.accD_flat]) rfl
  | some kv =>
    obtain ⟨k, v⟩ := kv
    simp only [hn, nextD] at r1
    by_cases h : k = key
    · rw [show getM key t = some v by simp [getM, hn, h]]
      simp only [argsFr, shD]
      refine zw (nx @ldSS <| nx @r1 <| nx @tzV <| nx @ptV <| nx @splV <| nx @Rz.accD_length <| @ts_48) ?_
      refine sc_dec (fun h' => absurd h h') (fun h' => ?_)
      refine zw (nx @ptV <| nx @splV <| nx @Rz.accD_length <| @ts_48) ?_
      exact fin_ct (x := .ref (st.blk.length + 0) 0) rfl (by rw [load_ext]; exact ptV _) rfl (by simp [D.flat, Rz.accD_flat]) rfl
    · rw [show getM key t = none by simp [getM, hn, h]]
      simp only [argsFr, shD]
      refine zw (nx @ldSS <| nx @r1 <| nx @tzV <| nx @ptV <| nx @splV <| nx @Rz.accD_length <| @ts_48) ?_
      exact fin_ct (x := .ref (st.blk.length + 0) 0) rfl (by rw [load_ext]; exact ptV _) rfl (by simp [D.flat, Rz.accD_flat]) rfl
theorem runDROP (fl : Fl) (t : Tw Rz.AccM) (key : List UInt8) (st : St) (hg : t.Good) (hs : t.size < 1000000) : run Tryz.prog rzH fl 122 [shD t, .str key] st = some (shD (dropM key t), st) := by
  obtain ⟨g1, g2, g3⟩ := splitM_good key hg
  have r1 := fun fl st => runGET fl t key st
  have r2 := fun fl st => runSPLIT key t fl st hg (by omega)
  have ra := fun fl st => runJOIN 4000000 _ _ fl st (by omega) (by omega) g1 g2
  refine run_sime (fi := ⟨true, [2], []⟩) (rs := [.cell 4 33]) rfl rfl rfl Tryz.func122 rfl rfl ?_
  simp only [argsFr, shD] at r1 ⊢
  cases hn : getM key t with
  | none =>
    rw [show dropM key t = t by simp [dropM, hn]]
    simp only [hn, getD'] at r1
    refine zw (nx @tzS <| nx @tzV <| nx @ldSS <| nx @r1 <| nx @tsS <| nx @ptV <| nx @splV <| nx @Rz.accD_length <| @ts_48) ?_
    apply fin_cell (x := .ref (st.blk.length + 0) 0)
    · rfl
    · rw [load_ext]; exact ptS _
    · simp [D.flat, flatL, tw_flat]
  | some v =>
    rw [show dropM key t = joinM (splitM key t).1 (splitM key t).2 by simp [dropM, hn]]
    simp only [hn, getD'] at r1
    refine zw (nx @tzS <| nx @tzV <| nx @ldSS <| nx @faS <| nx @ldS <| nx @r1 <| nx @r2 <| nx @ra <| nx @bdS <| nx @tsS <| nx @ptV <| nx @splV <| nx @Rz.accD_length <| @ts_48) ?_
    apply fin_cell (x := .ref (st.blk.length + 0) 0)
    · rfl
    · rw [load_ext]; exact ptS _
    · simp [D.flat, flatL, tw_flat]

/-! ### All -/
def kvD (e : List UInt8 × Rz.AccM) : List D := [.str e.1, .agg (Rz.accD e.2)]
theorem ldY (x : D) (st : St) : loadD Tryz.prog st 221 (.box 0 [x]) = some x := by kernel_rfl
theorem ptF (x : D) : partD Tryz.prog 222 [x] 0 = some x := by kernel_rfl
theorem ldF {s : St} {c : Nat} {x : D} (h : s.blk[c]? = some (.cells [x])) : loadD Tryz.prog s 222 (.ref c 0) = some x := by
  simp only [loadD, h, ptF]
def allX (b n : Nat) : D := .clos 131 [] [.ref n 0, .box 0 [.yld b]]
/-- The walk over a shelf's twigs. -/
theorem runALL11 {fl : Fl} {b c : Nat} : ∀ (t : Tw Rz.AccM) (st st' : St) (r : Bool), Rds Tryz.prog rzH fl b (fun st => st.blk[c]? = some (.cells [allX b c])) (t.lst.map kvD) st r st' →
    run Tryz.prog rzH fl 131 [twD t, .ref c 0, .box 0 [.yld b]] st = some (.bool r, st')
  | .nil, st, st', r, h => by
    have : r = true ∧ st' = st := by cases h; exact ⟨rfl, rfl⟩
    obtain ⟨rfl, rfl⟩ := this
    refine run_simw (fi := ⟨false, [], []⟩) (rs := [.tmp 4]) rfl rfl rfl Tryz.func131 rfl rfl ?_
    simp only [argsFr, tw_nil, tw_node]
    refine zw (@eqP_n) ?_
    exact ⟨trivial, rfl, _, rfl, rfl⟩
  | .node k v rk cn l rt, st, st', r, h => by
    have i1 := ldF h.start
    rw [show (Tw.node k v rk cn l rt).lst.map kvD = l.lst.map kvD ++ kvD (k, v) :: rt.lst.map kvD by simp [Tw.lst]] at h
    refine run_simw (fi := ⟨false, [], []⟩) (rs := [.tmp 4]) rfl rfl rfl Tryz.func131 rfl rfl ?_
    simp only [argsFr, tw_nil, tw_node]
    simp only [allX] at i1
    rcases h.split with ⟨rfl, h1⟩ | ⟨st1, h1, h2⟩
    · have e1 := runALL11 l _ _ _ h1
      refine zw (nx @eqP_b <| nx @i1 <| nx @fa_4 <| nx @ldL <| @e1) ?_
      exact ⟨trivial, rfl, _, rfl, rfl⟩
    · have e1 := runALL11 l _ _ _ h1
      cases h2 with
      | stop i2 h2 =>
        simp only [kvD] at h2
        refine zw (nx @eqP_b <| nx @i1 <| nx @fa_4 <| nx @ldL <| nx @e1 <| nx @ldY <| nx @fa_0 <| nx @fa_1 <| nx @ldK <| nx @ldV <| @h2) ?_
        exact ⟨trivial, rfl, _, rfl, rfl⟩
      | go i2 h2 h3 =>
        simp only [kvD] at h2
        have i3 := ldF h3.start
        simp only [allX] at i3
        have e3 := runALL11 rt _ _ _ h3
        refine zw (nx @eqP_b <| nx @i1 <| nx @fa_4 <| nx @ldL <| nx @e1 <| nx @ldY <| nx @fa_0 <| nx @fa_1 <| nx @ldK <| nx @ldV <| nx @h2 <| nx @i3 <| nx @fa_5 <| nx @ldG <| @e3) ?_
        exact ⟨trivial, rfl, _, rfl, rfl⟩

theorem tzF : tyZero Tryz.prog 222 = some [.nilf] := by kernel_rfl
theorem tsF : tySize Tryz.prog 222 = some 1 := by kernel_rfl
theorem stF {fl : Fl} {st : St} {f : FuncId} {a b : List D} (hf : fl.fb ≤ st.blk.length) : storeD Tryz.prog fl (st.new (.cells [.nilf])) 222 (.ref st.blk.length 0) (.clos f a b) = some (st.new (.cells [.clos f a b])) := by
  simp only [storeD]
  rw [if_pos (by simp [hf, D.mem])]
  simp only [get_newR, tsF, D.cells, List.length_cons, List.length_nil, set_new]
  rfl
/-- All's closure, ranged over. -/
theorem allALL1 (t : Tw Rz.AccM) : AllOk Tryz.prog rzH 130 (.box 0 [twD t]) (t.lst.map kvD) allX := by
  intro fl b st st' r hf h
  have e := runALL11 t _ _ _ h
  have i := ldF h.start
  simp only [allX] at i e
  refine run_simw (fi := ⟨false, [2], []⟩) (rs := []) rfl rfl rfl Tryz.func130 rfl rfl ?_
  simp only [argsFr]
  have sF := fun (f : FuncId) (a b : List D) => stF (st := st) (f := f) (a := a) (b := b) hf
  refine zw (nx @tzF <| nx @sF <| nx @i <| nx @faS <| nx @ldS <| @e) ?_
  exact ⟨trivial, rfl, _, rfl, rfl⟩
theorem runALL (fl : Fl) (t : Tw Rz.AccM) (st : St) : run Tryz.prog rzH fl 87 [shD t] st = some (.clos 130 [] [.box 0 [twD t]], st) := by
  refine run_sim (fi := ⟨true, [1], []⟩) rfl rfl rfl Tryz.func87 rfl rfl ?_
  simp only [argsFr, shD]
  refine zw True.intro ?_
  exact fin rfl rfl (by simp [D.flat, flatL, tw_flat])

end Go.Ab.Ac

/-
  A shelf of pools: its twigs and its methods, gone through.
-/
namespace Go.Ab.Po
open Go Go.Proofs Go.Ab Go.Ab.G
set_option maxRecDepth 100000
set_option maxHeartbeats 4000000

def twD : Tw Rz.PoolM → D
  | .nil => .nilp
  | .node k v rk c l r => .box 0 (.str k :: (Rz.poolD v ++ [.int .u64 rk, .int .i64 c, twD l, twD r]))
def nodeC (k : List UInt8) (v : Rz.PoolM) (rk c : Int) (l r : D) : List D := .str k :: (Rz.poolD v ++ [.int .u64 rk, .int .i64 c, l, r])
theorem tw_nil : twD .nil = .nilp := rfl
theorem tw_node (k : List UInt8) (v : Rz.PoolM) (rk c : Int) (l r : Tw Rz.PoolM) : twD (.node k v rk c l r) = .box 0 (nodeC k v rk c (twD l) (twD r)) := rfl
theorem eqP_n : eqD Tryz.prog 34 .nilp .nilp = some true := by kernel_rfl
theorem eqP_b (o : Nat) (cs : List D) : eqD Tryz.prog 34 (.box o cs) .nilp = some false := by kernel_rfl
theorem fa_0 (cs : List D) : fieldAddrD Tryz.prog 217 (.box 0 cs) 0 = some (.box 0 cs) := by kernel_rfl
theorem fa_1 (cs : List D) : fieldAddrD Tryz.prog 217 (.box 0 cs) 1 = some (.box 1 cs) := by kernel_rfl
theorem fa_2 (cs : List D) : fieldAddrD Tryz.prog 217 (.box 0 cs) 2 = some (.box (1 + 138) cs) := by kernel_rfl
theorem fa_3 (cs : List D) : fieldAddrD Tryz.prog 217 (.box 0 cs) 3 = some (.box (2 + 138) cs) := by kernel_rfl
theorem fa_4 (cs : List D) : fieldAddrD Tryz.prog 217 (.box 0 cs) 4 = some (.box (3 + 138) cs) := by kernel_rfl
theorem fa_5 (cs : List D) : fieldAddrD Tryz.prog 217 (.box 0 cs) 5 = some (.box (4 + 138) cs) := by kernel_rfl
theorem ldK (k : List UInt8) (v : Rz.PoolM) (rk c : Int) (l r : D) (st : St) : loadD Tryz.prog st 9 (.box 0 (nodeC k v rk c l r)) = some (.str k) := by
  unfold nodeC
  generalize (Rz.poolD v ++ [.int .u64 rk, .int .i64 c, l, r]) = cs
  kernel_rfl
theorem ptV (v : Rz.PoolM) : partD Tryz.prog 56 (Rz.poolD v) 0 = some (.agg (Rz.poolD v)) := by
  simp only [partD, ag_56, ts_56]
  rw [if_pos (by rw [Rz.poolD_length]; omega), List.drop_zero, List.take_of_length_le (by rw [Rz.poolD_length]; omega)]
theorem ldB (v : Rz.PoolM) (st : St) : loadD Tryz.prog st 56 (.box 0 (Rz.poolD v)) = some (.agg (Rz.poolD v)) := ptV v
theorem ldV (k : List UInt8) (v : Rz.PoolM) (rk c : Int) (l r : D) (st : St) : loadD Tryz.prog st 56 (.box 1 (nodeC k v rk c l r)) = some (.agg (Rz.poolD v)) := by
  unfold nodeC
  simp only [loadD, partD, ag_56, ts_56]
  rw [if_pos (by rw [List.length_cons, List.length_append, Rz.poolD_length]; omega), List.drop_succ_cons, List.drop_zero, List.take_append_of_le_length (by rw [Rz.poolD_length]; omega), List.take_of_length_le (by rw [Rz.poolD_length]; omega)]
theorem at_cells (k : List UInt8) (v : Rz.PoolM) (x : List D) (i : Nat) : (D.str k :: (Rz.poolD v ++ x))[i + 1 + 138]? = x[i]? := by
  rw [show i + 1 + 138 = (i + 138) + 1 by omega, List.getElem?_cons_succ, List.getElem?_append_right (by rw [Rz.poolD_length]; omega), Rz.poolD_length, show i + 138 - 138 = i by omega]
theorem ldR (k : List UInt8) (v : Rz.PoolM) (rk c : Int) (l r : D) (st : St) : loadD Tryz.prog st 40 (.box (1 + 138) (nodeC k v rk c l r)) = some (.int .u64 rk) := by
  rw [show ∀ cs : List D, loadD Tryz.prog st 40 (.box (1 + 138) cs) = cs[0 + 1 + 138]? from fun cs => by kernel_rfl, nodeC, at_cells]; rfl
theorem ldC (k : List UInt8) (v : Rz.PoolM) (rk c : Int) (l r : D) (st : St) : loadD Tryz.prog st 3 (.box (2 + 138) (nodeC k v rk c l r)) = some (.int .i64 c) := by
  rw [show ∀ cs : List D, loadD Tryz.prog st 3 (.box (2 + 138) cs) = cs[1 + 1 + 138]? from fun cs => by kernel_rfl, nodeC, at_cells]; rfl
theorem ldL (k : List UInt8) (v : Rz.PoolM) (rk c : Int) (l r : D) (st : St) : loadD Tryz.prog st 34 (.box (3 + 138) (nodeC k v rk c l r)) = some (l) := by
  rw [show ∀ cs : List D, loadD Tryz.prog st 34 (.box (3 + 138) cs) = cs[2 + 1 + 138]? from fun cs => by kernel_rfl, nodeC, at_cells]; rfl
theorem ldG (k : List UInt8) (v : Rz.PoolM) (rk c : Int) (l r : D) (st : St) : loadD Tryz.prog st 34 (.box (4 + 138) (nodeC k v rk c l r)) = some (r) := by
  rw [show ∀ cs : List D, loadD Tryz.prog st 34 (.box (4 + 138) cs) = cs[3 + 1 + 138]? from fun cs => by kernel_rfl, nodeC, at_cells]; rfl

theorem runCOUNT (fl : Fl) (t : Tw Rz.PoolM) (st : St) : run Tryz.prog rzH fl 168 [twD t] st = some (.int .i64 t.cnt, st) := by
  refine run_sim (fi := ⟨true, [], []⟩) rfl rfl rfl Tryz.func168 rfl rfl ?_
  simp only [argsFr]
  cases t with
  | nil =>
    simp only [tw_nil]
    refine zw (@eqP_n) ?_
    exact ⟨trivial, _, rfl, rfl⟩
  | node k v rk c l r =>
    simp only [tw_node]
    refine zw (nx @eqP_b <| nx @fa_3 <| @ldC) ?_
    exact ⟨trivial, _, rfl, rfl⟩
theorem tw_one (t : Tw Rz.PoolM) : (twD t).one = true := by cases t <;> rfl
theorem tw_flat : ∀ t : Tw Rz.PoolM, (twD t).flat = true
  | .nil => rfl
  | .node k v rk c l r => by simp [twD, D.flat, flatL, flat_append, Rz.poolD_flat, tw_flat l, tw_flat r]
theorem node_flat (k : List UInt8) (v : Rz.PoolM) (rk c : Int) {l r : D} (hl : l.flat = true) (hr : r.flat = true) : flatL (nodeC k v rk c l r) = true := by simp [nodeC, D.flat, flatL, flat_append, Rz.poolD_flat, hl, hr]
theorem bdN (k : List UInt8) (v : Rz.PoolM) (rk c : Int) (e f : Tw Rz.PoolM) : buildD Tryz.prog 217 [(0, .str k), (1, .agg (Rz.poolD v)), (2, .int .u64 rk), (3, .int .i64 c), (4, twD e), (5, twD f)] = some (.agg (nodeC k v rk c (twD e) (twD f))) := by
  rw [bd_217_0_1_2_3_4_5 _ _ _ _ _ _ rfl (Rz.poolD_length v) rfl rfl (tw_one e) (tw_one f), nodeC]
  simp
theorem bdN4 (k : List UInt8) (v : Rz.PoolM) (rk c : Int) : buildD Tryz.prog 217 [(0, .str k), (1, .agg (Rz.poolD v)), (2, .int .u64 rk), (3, .int .i64 c)] = some (.agg (nodeC k v rk c .nilp .nilp)) := by
  rw [bd_217_0_1_2_3 _ _ _ _ rfl (Rz.poolD_length v) rfl rfl, nodeC]
  simp
theorem runWITH (fl : Fl) (k : List UInt8) (v : Rz.PoolM) (rk c : Int) (dl dr : D) (a b : Tw Rz.PoolM) (st : St) (ha : 0 ≤ a.cnt ∧ 0 ≤ b.cnt ∧ a.cnt + b.cnt < 4611686018427387904) :
    run Tryz.prog rzH fl 169 [.box 0 (nodeC k v rk c dl dr), twD a, twD b] st = some (.box 0 (nodeC k v rk (a.cnt + b.cnt + 1) (twD a) (twD b)), st) := by
  refine run_sim (fi := ⟨true, [28], []⟩) rfl rfl rfl Tryz.func169 rfl rfl ?_
  simp only [argsFr]
  refine zw (nx @fa_0 <| nx @fa_1 <| nx @fa_2 <| nx @ldK <| nx @ldV <| nx @ldR <| nx @runCOUNT <| @bdN) ?_
  exact fin (d := .box 0 (nodeC k v rk (a.cnt + b.cnt + 1) (twD a) (twD b))) rfl rfl (node_flat _ _ _ _ (tw_flat a) (tw_flat b))
theorem runSPLIT (key : List UInt8) : ∀ (t : Tw Rz.PoolM) (fl : Fl) (st : St), t.Good → t.size < 4611686018427387904 →
    run Tryz.prog rzH fl 128 [twD t, .str key] st = some (.tuple [twD (splitM key t).1, twD (splitM key t).2], st)
  | .nil, fl, st, hg, hs => by
    refine run_sim (fi := ⟨true, [], []⟩) rfl rfl rfl Tryz.func128 rfl rfl ?_
    simp only [argsFr, tw_nil, tw_node]
    refine zw (@eqP_n) ?_
    exact ⟨trivial, _, rfl, rfl⟩
  | .node k v rk c l r, fl, st, hg, hs => by
    have ihl := fun fl st => runSPLIT key l fl st hg.2.1 (by simp only [Tw.size] at hs; omega)
    have ihr := fun fl st => runSPLIT key r fl st hg.2.2 (by simp only [Tw.size] at hs; omega)
    obtain ⟨r1, r2, r3⟩ := splitM_good key hg.2.2
    obtain ⟨l1, l2, l3⟩ := splitM_good key hg.2.1
    have e1 := Tw.cnt_size r1
    have e2 := Tw.cnt_size l2
    have e3 := Tw.cnt_size hg.2.1
    have e4 := Tw.cnt_size hg.2.2
    refine run_sim (fi := ⟨true, [], []⟩) rfl rfl rfl Tryz.func128 rfl rfl ?_
    unfold splitM
    simp only [argsFr, tw_nil, tw_node]
    simp only [Tw.size] at hs
    refine zw (nx @eqP_b <| nx @fa_0 <| nx @ldK <| @strBin.eq_def) ?_
    by_cases h1 : lessB k key = true
    · rw [if_pos h1, if_pos h1]
      refine zw (nx @eqP_b <| nx @fa_0 <| nx @fa_5 <| nx @fa_4 <| nx @ldK <| nx @ldL <| nx @ldG <| nx @strBin.eq_def <| nx @ihr <| @runWITH) ?_
      exact fin rfl rfl (by simp [D.flat, flatL, tw_flat, node_flat, tw_node])
    · rw [if_neg h1, if_neg h1]
      refine zw (nx @eqP_b <| nx @fa_0 <| nx @ldK <| @strBin.eq_def) ?_
      by_cases h2 : k = key
      · subst h2
        rw [if_pos rfl, if_neg (by simp)]
        refine zw (nx @eqP_b <| nx @fa_4 <| nx @fa_5 <| nx @ldL <| @ldG) ?_
        exact fin rfl rfl (by simp [D.flat, flatL, tw_flat, node_flat, tw_node])
      · rw [if_neg h2, if_pos (by simp [h1, h2])]
        refine zw (nx @eqP_b <| nx @fa_0 <| nx @fa_5 <| nx @fa_4 <| nx @ldK <| nx @ldL <| nx @ldG <| nx @strBin.eq_def <| nx @ihl <| @runWITH) ?_
        exact fin rfl rfl (by simp [D.flat, flatL, tw_flat, node_flat, tw_node])

theorem runJOIN : ∀ (n : Nat) (a b : Tw Rz.PoolM) (fl : Fl) (st : St), a.size + b.size < n → n ≤ 4611686018427387904 → a.Good → b.Good → run Tryz.prog rzH fl 129 [twD a, twD b] st = some (twD (joinM a b), st)
  | 0, a, b, fl, st, h, _, _, _ => by omega
  | n + 1, a, b, fl, st, h, hn, ha, hb => by
    refine run_sim (fi := ⟨true, [], []⟩) rfl rfl rfl Tryz.func129 rfl rfl ?_
    simp only [argsFr]
    cases a with
    | nil =>
      simp only [joinM_nil]
      simp only [tw_nil, tw_node]
      refine zw (@eqP_n) ?_
      exact fin rfl rfl (tw_flat b)
    | node k v rk c l r =>
      cases b with
      | nil =>
        simp only [joinM_nil']
        simp only [tw_nil, tw_node]
        refine zw (nx @eqP_n <| @eqP_b) ?_
        exact fin rfl rfl (tw_flat (.node k v rk c l r))
      | node k' v' rk' c' l' r' =>
        have i1 := fun fl st => runJOIN n r (.node k' v' rk' c' l' r') fl st (by simp only [Tw.size] at h ⊢; omega) (by omega) ha.2.2 hb
        have i2 := fun fl st => runJOIN n (.node k v rk c l r) l' fl st (by simp only [Tw.size] at h ⊢; omega) (by omega) ha hb.2.1
        obtain ⟨g1, s1'⟩ := joinM_good (n + 1) r (.node k' v' rk' c' l' r') (by simp only [Tw.size] at h ⊢; omega) ha.2.2 hb
        obtain ⟨g2, s2'⟩ := joinM_good (n + 1) (.node k v rk c l r) l' (by simp only [Tw.size] at h ⊢; omega) ha hb.2.1
        have e1 := Tw.cnt_size g1
        have e2 := Tw.cnt_size g2
        have e3 := Tw.cnt_size ha.2.1
        have e4 := Tw.cnt_size hb.2.2
        simp only [Tw.size] at h s1' s2'
        simp only [tw_node] at i1 i2
        rw [joinM_node]
        simp only [tw_nil, tw_node]
        refine zw (nx @eqP_b <| nx @fa_2 <| @ldR) ?_
        refine sc_dec (fun hlt => ?_) (fun hge => ?_)
        · rw [if_pos (by omega)]
          refine zw (nx @fa_4 <| nx @fa_5 <| nx @ldL <| nx @ldG <| nx @i1 <| @runWITH) ?_
          exact fin rfl rfl (by simp [D.flat, flatL, tw_flat, node_flat, tw_node])
        · rw [if_neg (by omega)]
          refine zw (nx @fa_4 <| nx @fa_5 <| nx @ldL <| nx @ldG <| nx @i2 <| @runWITH) ?_
          exact fin rfl rfl (by simp [D.flat, flatL, tw_flat, node_flat, tw_node])

def shD (t : Tw Rz.PoolM) : D := .agg [twD t]
theorem len9 (s : List UInt8) : lenD Tryz.prog 9 (.str s) = some (.int .i64 s.length) := by kernel_rfl
theorem xor64 (x y : Int) : intBin .xor .u64 x y = some (.int .u64 (rkXor x y)) := rfl
theorem mul64 (x y : Int) : intBin .mul .u64 x y = some (.int .u64 (IntKind.wrap .u64 (x * y))) := rfl
theorem shr29 (x : Int) : shiftD .shr .u64 x 29 = some (.int .u64 (x.fdiv (2 ^ 29))) := rfl
theorem cv5_26 (imm : Bool) (st : St) (n : Int) : convertD Tryz.prog imm st 5 40 (.int .u8 n) = some (.int .u64 (IntKind.wrap .u64 n), st) := by kernel_rfl
theorem idx9 (s : List UInt8) (n : Int) (h : 0 ≤ n) (h' : n < s.length) : indexD Tryz.prog 9 (.str s) (.int .i64 n) = some (.int .u8 (s.getD n.toNat 0).toNat) := by
  have : indexD Tryz.prog 9 (.str s) (.int .i64 n) = if n < 0 then none else (s[n.toNat]?).map fun c => .int .u8 c.toNat := by kernel_rfl
  rw [this, if_neg (by omega), List.getElem?_eq_getElem (by omega), Option.map_some]
  have hn : n.toNat < s.length := by omega
  simp [hn]
theorem runRANK (fl : Fl) (s : List UInt8) (hs : s.length ≤ 4611686018427387904) (st : St) : run Tryz.prog rzH fl 114 [.str s] st = some (.int .u64 (rkM s), st) := by
  refine run_sim (fi := ⟨true, [], [(3, [0, 3, 6, 7])]⟩) rfl rfl rfl Tryz.func114 rfl rfl ?_
  simp only [argsFr]
  refine zw (@len9) ?_
  refine sk_count ⟨true, [], [(3, [0, 3, 6, 7])]⟩ rfl [0, 3, 6, 7] rfl (fun m fr => ∃ (i : Nat) (x : Int), m = s.length - i ∧ i ≤ s.length ∧ fr = [(0, .str s), (3, .int .u64 x), (6, .int .i64 s.length), (7, .int .i64 i)] ∧ (s.drop i).foldl rkStep x = s.foldl rkStep 14695981039346656037) s.length ?_ ?_
  · refine zw True.intro ?_
    exact ⟨0, _, rfl, by omega, rfl, rfl⟩
  · rintro m fr ⟨i, x, rfl, hi, rfl, hx⟩
    refine zw True.intro ?_
    refine sc_dec (fun hlt => ?_) (fun hge => ?_)
    · refine zw (nx @idx9 <| nx @Int.toNat_natCast <| nx @cv5_26 <| nx @xor64 <| @mul64) ?_
      refine turn_go0 (s.length - (i + 1)) (by omega) ?_
      refine zw True.intro ?_
      refine ⟨i + 1, rkStep x (s.getD i 0), rfl, by omega, ?_, ?_⟩
      · unfold rkStep; rfl
      · rw [← hx, List.drop_eq_getElem_cons (by omega : i < s.length), List.foldl_cons]
        have hg : s.getD i 0 = s[i]'(by omega) := by simp [show i < s.length by omega]
        rw [← hg]
    · refine zw (nx @xor64 <| nx @mul64 <| @shr29) ?_
      have : i = s.length := by omega
      subst this
      simp at hx
      subst hx
      exact ⟨trivial, _, rfl, rfl⟩

theorem faS (cs : List D) : fieldAddrD Tryz.prog 36 (.box 0 cs) 0 = some (.box 0 cs) := by kernel_rfl
theorem ldS (a : D) (st : St) : loadD Tryz.prog st 34 (.box 0 [a]) = some a := by kernel_rfl
theorem ldSS (a : D) (st : St) : loadD Tryz.prog st 36 (.box 0 [a]) = some (.agg [a]) := by kernel_rfl
theorem tzS : tyZero Tryz.prog 36 = some [.nilp] := by kernel_rfl
theorem tsS : tySize Tryz.prog 36 = some 1 := by kernel_rfl
theorem ptS (a : D) : partD Tryz.prog 36 [a] 0 = some (.agg [a]) := by kernel_rfl
theorem bdS (t : Tw Rz.PoolM) : buildD Tryz.prog 36 [(0, twD t)] = some (.agg [twD t]) := bd_36_0 _ (tw_one t)
theorem splV (v w : Rz.PoolM) : splice (Rz.poolD v) 0 (Rz.poolD w) = Rz.poolD w := splice_all (by rw [Rz.poolD_length, Rz.poolD_length])
theorem tzV : tyZero Tryz.prog 56 = some (Rz.poolD Rz.zPool) := by kernel_rfl
theorem runLEN (fl : Fl) (t : Tw Rz.PoolM) (st : St) : run Tryz.prog rzH fl 123 [shD t] st = some (.int .i64 t.cnt, st) := by
  refine run_sim (fi := ⟨true, [1], []⟩) rfl rfl rfl Tryz.func123 rfl rfl ?_
  simp only [argsFr, shD]
  refine zw (nx @faS <| nx @ldS <| @runCOUNT) ?_
  exact ⟨trivial, _, rfl, rfl⟩
theorem runPUT (fl : Fl) (t : Tw Rz.PoolM) (key : List UInt8) (v : Rz.PoolM) (st : St) (hg : t.Good) (hs : t.size < 1000000) (hk : key.length ≤ 4611686018427387904) : run Tryz.prog rzH fl 110 [shD t, .str key, .agg (Rz.poolD v)] st = some (shD (putM t key v), st) := by
  obtain ⟨g1, g2, g3⟩ := splitM_good key hg
  obtain ⟨j1, j2⟩ := joinM_good _ _ (.node key v (rkM key) 1 .nil .nil) (Nat.lt_succ_self _) g1 (one_good key v _)
  have r1 := fun fl st => runSPLIT key t fl st hg (by omega)
  have r2 := fun fl st => runRANK fl key hk st
  have ra := fun fl st => runJOIN 4000000 _ _ fl st (by simp only [Tw.size]; omega) (by omega) g1 (one_good key v (rkM key))
  have rb := fun fl st => runJOIN 4000000 _ _ fl st (by rw [j2]; simp only [Tw.size]; omega) (by omega) j1 g2
  simp only [tw_nil, tw_node] at ra
  refine run_sime (fi := ⟨true, [3, 5, 22, 18], []⟩) (rs := [.cell 6 36]) rfl rfl rfl Tryz.func110 rfl rfl ?_
  simp only [argsFr, shD]
  refine zw (nx @lay_len <| nx @lay_new <| nx @tzS <| nx @faS <| nx @ldS <| nx @ldB <| nx @ptV <| nx @r1 <| nx @r2 <| nx @bdN4 <| nx @ra <| nx @rb <| nx @bdS <| nx @store_agg <| nx @tsS <| nx @List.set_cons_zero.{0} <| @Nat.le_refl) ?_
  apply fin_cell (x := .ref (st.blk.length + 0) 0)
  · rfl
  · rw [load_ext]; exact ptS _
  · simp [D.flat, flatL, tw_flat]
def bestD : Option (List UInt8 × Rz.PoolM) → D → Prop
  | none, d => d = .nilp
  | some (k, v), d => ∃ rk c l r, d = twD (.node k v rk c l r)
def nextD : Option (List UInt8 × Rz.PoolM) → D
  | none => .tuple [.str [], .agg (Rz.poolD Rz.zPool), .bool false]
  | some (k, v) => .tuple [.str k, .agg (Rz.poolD v), .bool true]
theorem runNEXT (fl : Fl) (t : Tw Rz.PoolM) (key : List UInt8) (st : St) : run Tryz.prog rzH fl 119 [shD t, .str key] st = some (nextD (nextM key t none), st) := by
  refine run_sime (fi := ⟨true, [2], [(3, [1, 5, 7, 8])]⟩) (rs := [.tmp 4, .cell 5 56, .tmp 6]) rfl rfl rfl Tryz.func119 rfl rfl ?_
  simp only [argsFr, shD]
  refine zw (nx @tzV <| nx @faS <| @ldS) ?_
  refine sk_count ⟨true, [2], [(3, [1, 5, 7, 8])]⟩ rfl [1, 5, 7, 8] rfl (fun m fr => ∃ (u : Tw Rz.PoolM) (b : Option (List UInt8 × Rz.PoolM)) (d : D), m = u.size ∧ bestD b d ∧ fr = [(1, .str key), (5, .ref (st.blk.length + 0) 0), (7, d), (8, twD u)] ∧ nextM key u b = nextM key t none) t.size ?_ ?_
  · refine zw True.intro ?_
    exact ⟨t, none, .nilp, rfl, rfl, rfl, rfl⟩
  · rintro m fr ⟨u, b, d, rfl, hb, rfl, hx⟩
    cases u with
    | nil =>
      simp only [tw_nil]
      simp only [nextM] at hx
      rw [← hx]
      clear hx
      cases b with
      | none =>
        simp only [bestD] at hb
        subst hb
        refine zw (nx @eqP_n <| nx @tzV <| nx @ptV <| nx @splV <| nx @Rz.poolD_length <| @ts_56) ?_
        exact fin_tct (y := .ref (st.blk.length + 0) 0) rfl rfl (by rw [load_ext]; exact ptV _) rfl (by simp [D.flat, Rz.poolD_flat]) rfl rfl
      | some kv =>
        obtain ⟨k, v⟩ := kv
        obtain ⟨rk, c, l, r, rfl⟩ := hb
        simp only [tw_node]
        refine zw (nx @eqP_n <| nx @eqP_b <| nx @fa_0 <| nx @fa_1 <| nx @ldK <| nx @ldV <| nx @tzV <| nx @ptV <| nx @splV <| nx @Rz.poolD_length <| @ts_56) ?_
        exact fin_tct (y := .ref (st.blk.length + 0) 0) rfl rfl (by rw [load_ext]; exact ptV _) rfl (by simp [D.flat, Rz.poolD_flat]) rfl rfl
    | node k v rk c l r =>
      simp only [tw_node]
      refine zw (nx @eqP_b <| nx @fa_0 <| nx @ldK <| @strBin.eq_def) ?_
      simp only [nextM] at hx
      by_cases h1 : lessB k key = true
      · rw [if_neg (by simp [h1])]
        rw [if_pos h1] at hx
        refine zw (nx @fa_5 <| @ldG) ?_
        refine turn_go0 r.size (by simp only [Tw.size]; omega) ?_
        refine zw True.intro ?_
        exact ⟨r, b, d, rfl, hb, rfl, hx⟩
      · rw [if_pos (by simp [h1])]
        rw [if_neg h1] at hx
        refine zw (nx @fa_4 <| @ldL) ?_
        refine turn_go0 l.size (by simp only [Tw.size]; omega) ?_
        refine zw True.intro ?_
        exact ⟨l, some (k, v), twD (.node k v rk c l r), rfl, ⟨rk, c, l, r, rfl⟩, rfl, hx⟩
def getD' : Option Rz.PoolM → D
  | none => .tuple [.agg (Rz.poolD Rz.zPool), .bool false]
  | some v => .tuple [.agg (Rz.poolD v), .bool true]
theorem runGET (fl : Fl) (t : Tw Rz.PoolM) (key : List UInt8) (st : St) : run Tryz.prog rzH fl 72 [shD t, .str key] st = some (getD' (getM key t), st) := by
  have r1 := fun fl st => runNEXT fl t key st
  simp only [shD] at r1
  refine run_sime (fi := ⟨true, [2], []⟩) (rs := [.cell 4 56, .tmp 5]) rfl rfl rfl Tryz.func72 rfl rfl ?_
  cases hn : nextM key t none with
  | none =>
    rw [show getM key t = none by simp [getM, hn]]
    simp only [hn, nextD] at r1
    simp only [argsFr, shD]
    refine zw (nx @ldSS <| nx @r1 <| nx @tzV <| nx @ptV <| nx @splV <| nx @Rz.poolD_length <| @ts_56) ?_
    exact fin_ct (x := .ref (st.blk.length + 0) 0) rfl (by rw [load_ext]; exact ptV _) rfl (by simp [D.flat, Rz.poolD_flat]) rfl
  | some kv =>
    obtain ⟨k, v⟩ := kv
    simp only [hn, nextD] at r1
    by_cases h : k = key
    · rw [show getM key t = some v by simp [getM, hn, h]]
      simp only [argsFr, shD]
      refine zw (nx @ldSS <| nx @r1 <| nx @tzV <| nx @ptV <| nx @splV <| nx @Rz.poolD_length <| @ts_56) ?_
      refine sc_dec (fun h' => absurd h h') (fun h' => ?_)
      refine zw (nx @ptV <| nx @splV <| nx @Rz.poolD_length <| @ts_56) ?_
      exact fin_ct (x := .ref (st.blk.length + 0) 0) rfl (by rw [load_ext]; exact ptV _) rfl (by simp [D.flat, Rz.poolD_flat]) rfl
    · rw [show getM key t = none by simp [getM, hn, h]]
      simp only [argsFr, shD]
      refine zw (nx @ldSS <| nx @r1 <| nx @tzV <| nx @ptV <| nx @splV <| nx @Rz.poolD_length <| @ts_56) ?_
      exact fin_ct (x := .ref (st.blk.length + 0) 0) rfl (by rw [load_ext]; exact ptV _) rfl (by simp [D.flat, Rz.poolD_flat]) rfl
theorem runDROP (fl : Fl) (t : Tw Rz.PoolM) (key : List UInt8) (st : St) (hg : t.Good) (hs : t.size < 1000000) : run Tryz.prog rzH fl 85 [shD t, .str key] st = some (shD (dropM key t), st) := by
  obtain ⟨g1, g2, g3⟩ := splitM_good key hg
  have r1 := fun fl st => runGET fl t key st
  have r2 := fun fl st => runSPLIT key t fl st hg (by omega)
  have ra := fun fl st => runJOIN 4000000 _ _ fl st (by omega) (by omega) g1 g2
  refine run_sime (fi := ⟨true, [2], []⟩) (rs := [.cell 4 36]) rfl rfl rfl Tryz.func85 rfl rfl ?_
  simp only [argsFr, shD] at r1 ⊢
  cases hn : getM key t with
  | none =>
    rw [show dropM key t = t by simp [dropM, hn]]
    simp only [hn, getD'] at r1
    refine zw (nx @tzS <| nx @tzV <| nx @ldSS <| nx @r1 <| nx @tsS <| nx @ptV <| nx @splV <| nx @Rz.poolD_length <| @ts_56) ?_
    apply fin_cell (x := .ref (st.blk.length + 0) 0)
    · rfl
    · rw [load_ext]; exact ptS _
    · simp [D.flat, flatL, tw_flat]
  | some v =>
    rw [show dropM key t = joinM (splitM key t).1 (splitM key t).2 by simp [dropM, hn]]
    simp only [hn, getD'] at r1
    refine zw (nx @tzS <| nx @tzV <| nx @ldSS <| nx @faS <| nx @ldS <| nx @r1 <| nx @r2 <| nx @ra <| nx @bdS <| nx @tsS <| nx @ptV <| nx @splV <| nx @Rz.poolD_length <| @ts_56) ?_
    apply fin_cell (x := .ref (st.blk.length + 0) 0)
    · rfl
    · rw [load_ext]; exact ptS _
    · simp [D.flat, flatL, tw_flat]

/-! ### All -/
def kvD (e : List UInt8 × Rz.PoolM) : List D := [.str e.1, .agg (Rz.poolD e.2)]
theorem ldY (x : D) (st : St) : loadD Tryz.prog st 214 (.box 0 [x]) = some x := by kernel_rfl
theorem ptF (x : D) : partD Tryz.prog 215 [x] 0 = some x := by kernel_rfl
theorem ldF {s : St} {c : Nat} {x : D} (h : s.blk[c]? = some (.cells [x])) : loadD Tryz.prog s 215 (.ref c 0) = some x := by
  simp only [loadD, h, ptF]
def allX (b n : Nat) : D := .clos 127 [] [.ref n 0, .box 0 [.yld b]]
/-- The walk over a shelf's twigs. -/
theorem runALL11 {fl : Fl} {b c : Nat} : ∀ (t : Tw Rz.PoolM) (st st' : St) (r : Bool), Rds Tryz.prog rzH fl b (fun st => st.blk[c]? = some (.cells [allX b c])) (t.lst.map kvD) st r st' →
    run Tryz.prog rzH fl 127 [twD t, .ref c 0, .box 0 [.yld b]] st = some (.bool r, st')
  | .nil, st, st', r, h => by
    have : r = true ∧ st' = st := by cases h; exact ⟨rfl, rfl⟩
    obtain ⟨rfl, rfl⟩ := this
    refine run_simw (fi := ⟨false, [], []⟩) (rs := [.tmp 4]) rfl rfl rfl Tryz.func127 rfl rfl ?_
    simp only [argsFr, tw_nil, tw_node]
    refine zw (@eqP_n) ?_
    exact ⟨trivial, rfl, _, rfl, rfl⟩
  | .node k v rk cn l rt, st, st', r, h => by
    have i1 := ldF h.start
    rw [show (Tw.node k v rk cn l rt).lst.map kvD = l.lst.map kvD ++ kvD (k, v) :: rt.lst.map kvD by simp [Tw.lst]] at h
    refine run_simw (fi := ⟨false, [], []⟩) (rs := [.tmp 4]) rfl rfl rfl Tryz.func127 rfl rfl ?_
    simp only [argsFr, tw_nil, tw_node]
    simp only [allX] at i1
    rcases h.split with ⟨rfl, h1⟩ | ⟨st1, h1, h2⟩
    · have e1 := runALL11 l _ _ _ h1
      refine zw (nx @eqP_b <| nx @i1 <| nx @fa_4 <| nx @ldL <| @e1) ?_
      exact ⟨trivial, rfl, _, rfl, rfl⟩
    · have e1 := runALL11 l _ _ _ h1
      cases h2 with
      | stop i2 h2 =>
        simp only [kvD] at h2
        refine zw (nx @eqP_b <| nx @i1 <| nx @fa_4 <| nx @ldL <| nx @e1 <| nx @ldY <| nx @fa_0 <| nx @fa_1 <| nx @ldK <| nx @ldV <| @h2) ?_
        exact ⟨trivial, rfl, _, rfl, rfl⟩
      | go i2 h2 h3 =>
        simp only [kvD] at h2
        have i3 := ldF h3.start
        simp only [allX] at i3
        have e3 := runALL11 rt _ _ _ h3
        refine zw (nx @eqP_b <| nx @i1 <| nx @fa_4 <| nx @ldL <| nx @e1 <| nx @ldY <| nx @fa_0 <| nx @fa_1 <| nx @ldK <| nx @ldV <| nx @h2 <| nx @i3 <| nx @fa_5 <| nx @ldG <| @e3) ?_
        exact ⟨trivial, rfl, _, rfl, rfl⟩

theorem tzF : tyZero Tryz.prog 215 = some [.nilf] := by kernel_rfl
theorem tsF : tySize Tryz.prog 215 = some 1 := by kernel_rfl
theorem stF {fl : Fl} {st : St} {f : FuncId} {a b : List D} (hf : fl.fb ≤ st.blk.length) : storeD Tryz.prog fl (st.new (.cells [.nilf])) 215 (.ref st.blk.length 0) (.clos f a b) = some (st.new (.cells [.clos f a b])) := by
  simp only [storeD]
  rw [if_pos (by simp [hf, D.mem])]
  simp only [get_newR, tsF, D.cells, List.length_cons, List.length_nil, set_new]
  rfl
/-- All's closure, ranged over. -/
theorem allALL1 (t : Tw Rz.PoolM) : AllOk Tryz.prog rzH 126 (.box 0 [twD t]) (t.lst.map kvD) allX := by
  intro fl b st st' r hf h
  have e := runALL11 t _ _ _ h
  have i := ldF h.start
  simp only [allX] at i e
  refine run_simw (fi := ⟨false, [2], []⟩) (rs := []) rfl rfl rfl Tryz.func126 rfl rfl ?_
  simp only [argsFr]
  have sF := fun (f : FuncId) (a b : List D) => stF (st := st) (f := f) (a := a) (b := b) hf
  refine zw (nx @tzF <| nx @sF <| nx @i <| nx @faS <| nx @ldS <| @e) ?_
  exact ⟨trivial, rfl, _, rfl, rfl⟩
theorem runALL (fl : Fl) (t : Tw Rz.PoolM) (st : St) : run Tryz.prog rzH fl 84 [shD t] st = some (.clos 126 [] [.box 0 [twD t]], st) := by
  refine run_sim (fi := ⟨true, [1], []⟩) rfl rfl rfl Tryz.func84 rfl rfl ?_
  simp only [argsFr, shD]
  refine zw True.intro ?_
  exact fin rfl rfl (by simp [D.flat, flatL, tw_flat])

end Go.Ab.Po

/-
  A shelf of votes: its twigs and its methods, gone through.
-/
namespace Go.Ab.Vo
open Go Go.Proofs Go.Ab Go.Ab.G
set_option maxRecDepth 100000
set_option maxHeartbeats 4000000

def twD : Tw Rz.VoteM → D
  | .nil => .nilp
  | .node k v rk c l r => .box 0 (.str k :: (Rz.voteD v ++ [.int .u64 rk, .int .i64 c, twD l, twD r]))
def nodeC (k : List UInt8) (v : Rz.VoteM) (rk c : Int) (l r : D) : List D := .str k :: (Rz.voteD v ++ [.int .u64 rk, .int .i64 c, l, r])
theorem tw_nil : twD .nil = .nilp := rfl
theorem tw_node (k : List UInt8) (v : Rz.VoteM) (rk c : Int) (l r : Tw Rz.VoteM) : twD (.node k v rk c l r) = .box 0 (nodeC k v rk c (twD l) (twD r)) := rfl
theorem eqP_n : eqD Tryz.prog 37 .nilp .nilp = some true := by kernel_rfl
theorem eqP_b (o : Nat) (cs : List D) : eqD Tryz.prog 37 (.box o cs) .nilp = some false := by kernel_rfl
theorem fa_0 (cs : List D) : fieldAddrD Tryz.prog 202 (.box 0 cs) 0 = some (.box 0 cs) := by kernel_rfl
theorem fa_1 (cs : List D) : fieldAddrD Tryz.prog 202 (.box 0 cs) 1 = some (.box 1 cs) := by kernel_rfl
theorem fa_2 (cs : List D) : fieldAddrD Tryz.prog 202 (.box 0 cs) 2 = some (.box (1 + 34) cs) := by kernel_rfl
theorem fa_3 (cs : List D) : fieldAddrD Tryz.prog 202 (.box 0 cs) 3 = some (.box (2 + 34) cs) := by kernel_rfl
theorem fa_4 (cs : List D) : fieldAddrD Tryz.prog 202 (.box 0 cs) 4 = some (.box (3 + 34) cs) := by kernel_rfl
theorem fa_5 (cs : List D) : fieldAddrD Tryz.prog 202 (.box 0 cs) 5 = some (.box (4 + 34) cs) := by kernel_rfl
theorem ldK (k : List UInt8) (v : Rz.VoteM) (rk c : Int) (l r : D) (st : St) : loadD Tryz.prog st 9 (.box 0 (nodeC k v rk c l r)) = some (.str k) := by
  unfold nodeC
  generalize (Rz.voteD v ++ [.int .u64 rk, .int .i64 c, l, r]) = cs
  kernel_rfl
theorem ptV (v : Rz.VoteM) : partD Tryz.prog 75 (Rz.voteD v) 0 = some (.agg (Rz.voteD v)) := by
  simp only [partD, ag_75, ts_75]
  rw [if_pos (by rw [Rz.voteD_length]; omega), List.drop_zero, List.take_of_length_le (by rw [Rz.voteD_length]; omega)]
theorem ldB (v : Rz.VoteM) (st : St) : loadD Tryz.prog st 75 (.box 0 (Rz.voteD v)) = some (.agg (Rz.voteD v)) := ptV v
theorem ldV (k : List UInt8) (v : Rz.VoteM) (rk c : Int) (l r : D) (st : St) : loadD Tryz.prog st 75 (.box 1 (nodeC k v rk c l r)) = some (.agg (Rz.voteD v)) := by
  unfold nodeC
  simp only [loadD, partD, ag_75, ts_75]
  rw [if_pos (by rw [List.length_cons, List.length_append, Rz.voteD_length]; omega), List.drop_succ_cons, List.drop_zero, List.take_append_of_le_length (by rw [Rz.voteD_length]; omega), List.take_of_length_le (by rw [Rz.voteD_length]; omega)]
theorem at_cells (k : List UInt8) (v : Rz.VoteM) (x : List D) (i : Nat) : (D.str k :: (Rz.voteD v ++ x))[i + 1 + 34]? = x[i]? := by
  rw [show i + 1 + 34 = (i + 34) + 1 by omega, List.getElem?_cons_succ, List.getElem?_append_right (by rw [Rz.voteD_length]; omega), Rz.voteD_length, show i + 34 - 34 = i by omega]
theorem ldR (k : List UInt8) (v : Rz.VoteM) (rk c : Int) (l r : D) (st : St) : loadD Tryz.prog st 40 (.box (1 + 34) (nodeC k v rk c l r)) = some (.int .u64 rk) := by
  rw [show ∀ cs : List D, loadD Tryz.prog st 40 (.box (1 + 34) cs) = cs[0 + 1 + 34]? from fun cs => by kernel_rfl, nodeC, at_cells]; rfl
theorem ldC (k : List UInt8) (v : Rz.VoteM) (rk c : Int) (l r : D) (st : St) : loadD Tryz.prog st 3 (.box (2 + 34) (nodeC k v rk c l r)) = some (.int .i64 c) := by
  rw [show ∀ cs : List D, loadD Tryz.prog st 3 (.box (2 + 34) cs) = cs[1 + 1 + 34]? from fun cs => by kernel_rfl, nodeC, at_cells]; rfl
theorem ldL (k : List UInt8) (v : Rz.VoteM) (rk c : Int) (l r : D) (st : St) : loadD Tryz.prog st 37 (.box (3 + 34) (nodeC k v rk c l r)) = some (l) := by
  rw [show ∀ cs : List D, loadD Tryz.prog st 37 (.box (3 + 34) cs) = cs[2 + 1 + 34]? from fun cs => by kernel_rfl, nodeC, at_cells]; rfl
theorem ldG (k : List UInt8) (v : Rz.VoteM) (rk c : Int) (l r : D) (st : St) : loadD Tryz.prog st 37 (.box (4 + 34) (nodeC k v rk c l r)) = some (r) := by
  rw [show ∀ cs : List D, loadD Tryz.prog st 37 (.box (4 + 34) cs) = cs[3 + 1 + 34]? from fun cs => by kernel_rfl, nodeC, at_cells]; rfl

theorem runCOUNT (fl : Fl) (t : Tw Rz.VoteM) (st : St) : run Tryz.prog rzH fl 186 [twD t] st = some (.int .i64 t.cnt, st) := by
  refine run_sim (fi := ⟨true, [], []⟩) rfl rfl rfl Tryz.func186 rfl rfl ?_
  simp only [argsFr]
  cases t with
  | nil =>
    simp only [tw_nil]
    refine zw (@eqP_n) ?_
    exact ⟨trivial, _, rfl, rfl⟩
  | node k v rk c l r =>
    simp only [tw_node]
    refine zw (nx @eqP_b <| nx @fa_3 <| @ldC) ?_
    exact ⟨trivial, _, rfl, rfl⟩
theorem tw_one (t : Tw Rz.VoteM) : (twD t).one = true := by cases t <;> rfl
theorem tw_flat : ∀ t : Tw Rz.VoteM, (twD t).flat = true
  | .nil => rfl
  | .node k v rk c l r => by simp [twD, D.flat, flatL, flat_append, Rz.voteD_flat, tw_flat l, tw_flat r]
theorem node_flat (k : List UInt8) (v : Rz.VoteM) (rk c : Int) {l r : D} (hl : l.flat = true) (hr : r.flat = true) : flatL (nodeC k v rk c l r) = true := by simp [nodeC, D.flat, flatL, flat_append, Rz.voteD_flat, hl, hr]
theorem bdN (k : List UInt8) (v : Rz.VoteM) (rk c : Int) (e f : Tw Rz.VoteM) : buildD Tryz.prog 202 [(0, .str k), (1, .agg (Rz.voteD v)), (2, .int .u64 rk), (3, .int .i64 c), (4, twD e), (5, twD f)] = some (.agg (nodeC k v rk c (twD e) (twD f))) := by
  rw [bd_202_0_1_2_3_4_5 _ _ _ _ _ _ rfl (Rz.voteD_length v) rfl rfl (tw_one e) (tw_one f), nodeC]
  simp
theorem bdN4 (k : List UInt8) (v : Rz.VoteM) (rk c : Int) : buildD Tryz.prog 202 [(0, .str k), (1, .agg (Rz.voteD v)), (2, .int .u64 rk), (3, .int .i64 c)] = some (.agg (nodeC k v rk c .nilp .nilp)) := by
  rw [bd_202_0_1_2_3 _ _ _ _ rfl (Rz.voteD_length v) rfl rfl, nodeC]
  simp
theorem runWITH (fl : Fl) (k : List UInt8) (v : Rz.VoteM) (rk c : Int) (dl dr : D) (a b : Tw Rz.VoteM) (st : St) (ha : 0 ≤ a.cnt ∧ 0 ≤ b.cnt ∧ a.cnt + b.cnt < 4611686018427387904) :
    run Tryz.prog rzH fl 150 [.box 0 (nodeC k v rk c dl dr), twD a, twD b] st = some (.box 0 (nodeC k v rk (a.cnt + b.cnt + 1) (twD a) (twD b)), st) := by
  refine run_sim (fi := ⟨true, [28], []⟩) rfl rfl rfl Tryz.func150 rfl rfl ?_
  simp only [argsFr]
  refine zw (nx @fa_0 <| nx @fa_1 <| nx @fa_2 <| nx @ldK <| nx @ldV <| nx @ldR <| nx @runCOUNT <| @bdN) ?_
  exact fin (d := .box 0 (nodeC k v rk (a.cnt + b.cnt + 1) (twD a) (twD b))) rfl rfl (node_flat _ _ _ _ (tw_flat a) (tw_flat b))
theorem runSPLIT (key : List UInt8) : ∀ (t : Tw Rz.VoteM) (fl : Fl) (st : St), t.Good → t.size < 4611686018427387904 →
    run Tryz.prog rzH fl 113 [twD t, .str key] st = some (.tuple [twD (splitM key t).1, twD (splitM key t).2], st)
  | .nil, fl, st, hg, hs => by
    refine run_sim (fi := ⟨true, [], []⟩) rfl rfl rfl Tryz.func113 rfl rfl ?_
    simp only [argsFr, tw_nil, tw_node]
    refine zw (@eqP_n) ?_
    exact ⟨trivial, _, rfl, rfl⟩
  | .node k v rk c l r, fl, st, hg, hs => by
    have ihl := fun fl st => runSPLIT key l fl st hg.2.1 (by simp only [Tw.size] at hs; omega)
    have ihr := fun fl st => runSPLIT key r fl st hg.2.2 (by simp only [Tw.size] at hs; omega)
    obtain ⟨r1, r2, r3⟩ := splitM_good key hg.2.2
    obtain ⟨l1, l2, l3⟩ := splitM_good key hg.2.1
    have e1 := Tw.cnt_size r1
    have e2 := Tw.cnt_size l2
    have e3 := Tw.cnt_size hg.2.1
    have e4 := Tw.cnt_size hg.2.2
    refine run_sim (fi := ⟨true, [], []⟩) rfl rfl rfl Tryz.func113 rfl rfl ?_
    unfold splitM
    simp only [argsFr, tw_nil, tw_node]
    simp only [Tw.size] at hs
    refine zw (nx @eqP_b <| nx @fa_0 <| nx @ldK <| @strBin.eq_def) ?_
    by_cases h1 : lessB k key = true
    · rw [if_pos h1, if_pos h1]
      refine zw (nx @eqP_b <| nx @fa_0 <| nx @fa_5 <| nx @fa_4 <| nx @ldK <| nx @ldL <| nx @ldG <| nx @strBin.eq_def <| nx @ihr <| @runWITH) ?_
      exact fin rfl rfl (by simp [D.flat, flatL, tw_flat, node_flat, tw_node])
    · rw [if_neg h1, if_neg h1]
      refine zw (nx @eqP_b <| nx @fa_0 <| nx @ldK <| @strBin.eq_def) ?_
      by_cases h2 : k = key
      · subst h2
        rw [if_pos rfl, if_neg (by simp)]
        refine zw (nx @eqP_b <| nx @fa_4 <| nx @fa_5 <| nx @ldL <| @ldG) ?_
        exact fin rfl rfl (by simp [D.flat, flatL, tw_flat, node_flat, tw_node])
      · rw [if_neg h2, if_pos (by simp [h1, h2])]
        refine zw (nx @eqP_b <| nx @fa_0 <| nx @fa_5 <| nx @fa_4 <| nx @ldK <| nx @ldL <| nx @ldG <| nx @strBin.eq_def <| nx @ihl <| @runWITH) ?_
        exact fin rfl rfl (by simp [D.flat, flatL, tw_flat, node_flat, tw_node])

theorem runJOIN : ∀ (n : Nat) (a b : Tw Rz.VoteM) (fl : Fl) (st : St), a.size + b.size < n → n ≤ 4611686018427387904 → a.Good → b.Good → run Tryz.prog rzH fl 115 [twD a, twD b] st = some (twD (joinM a b), st)
  | 0, a, b, fl, st, h, _, _, _ => by omega
  | n + 1, a, b, fl, st, h, hn, ha, hb => by
    refine run_sim (fi := ⟨true, [], []⟩) rfl rfl rfl Tryz.func115 rfl rfl ?_
    simp only [argsFr]
    cases a with
    | nil =>
      simp only [joinM_nil]
      simp only [tw_nil, tw_node]
      refine zw (@eqP_n) ?_
      exact fin rfl rfl (tw_flat b)
    | node k v rk c l r =>
      cases b with
      | nil =>
        simp only [joinM_nil']
        simp only [tw_nil, tw_node]
        refine zw (nx @eqP_n <| @eqP_b) ?_
        exact fin rfl rfl (tw_flat (.node k v rk c l r))
      | node k' v' rk' c' l' r' =>
        have i1 := fun fl st => runJOIN n r (.node k' v' rk' c' l' r') fl st (by simp only [Tw.size] at h ⊢; omega) (by omega) ha.2.2 hb
        have i2 := fun fl st => runJOIN n (.node k v rk c l r) l' fl st (by simp only [Tw.size] at h ⊢; omega) (by omega) ha hb.2.1
        obtain ⟨g1, s1'⟩ := joinM_good (n + 1) r (.node k' v' rk' c' l' r') (by simp only [Tw.size] at h ⊢; omega) ha.2.2 hb
        obtain ⟨g2, s2'⟩ := joinM_good (n + 1) (.node k v rk c l r) l' (by simp only [Tw.size] at h ⊢; omega) ha hb.2.1
        have e1 := Tw.cnt_size g1
        have e2 := Tw.cnt_size g2
        have e3 := Tw.cnt_size ha.2.1
        have e4 := Tw.cnt_size hb.2.2
        simp only [Tw.size] at h s1' s2'
        simp only [tw_node] at i1 i2
        rw [joinM_node]
        simp only [tw_nil, tw_node]
        refine zw (nx @eqP_b <| nx @fa_2 <| @ldR) ?_
        refine sc_dec (fun hlt => ?_) (fun hge => ?_)
        · rw [if_pos (by omega)]
          refine zw (nx @fa_4 <| nx @fa_5 <| nx @ldL <| nx @ldG <| nx @i1 <| @runWITH) ?_
          exact fin rfl rfl (by simp [D.flat, flatL, tw_flat, node_flat, tw_node])
        · rw [if_neg (by omega)]
          refine zw (nx @fa_4 <| nx @fa_5 <| nx @ldL <| nx @ldG <| nx @i2 <| @runWITH) ?_
          exact fin rfl rfl (by simp [D.flat, flatL, tw_flat, node_flat, tw_node])

def shD (t : Tw Rz.VoteM) : D := .agg [twD t]
theorem len9 (s : List UInt8) : lenD Tryz.prog 9 (.str s) = some (.int .i64 s.length) := by kernel_rfl
theorem xor64 (x y : Int) : intBin .xor .u64 x y = some (.int .u64 (rkXor x y)) := rfl
theorem mul64 (x y : Int) : intBin .mul .u64 x y = some (.int .u64 (IntKind.wrap .u64 (x * y))) := rfl
theorem shr29 (x : Int) : shiftD .shr .u64 x 29 = some (.int .u64 (x.fdiv (2 ^ 29))) := rfl
theorem cv5_26 (imm : Bool) (st : St) (n : Int) : convertD Tryz.prog imm st 5 40 (.int .u8 n) = some (.int .u64 (IntKind.wrap .u64 n), st) := by kernel_rfl
theorem idx9 (s : List UInt8) (n : Int) (h : 0 ≤ n) (h' : n < s.length) : indexD Tryz.prog 9 (.str s) (.int .i64 n) = some (.int .u8 (s.getD n.toNat 0).toNat) := by
  have : indexD Tryz.prog 9 (.str s) (.int .i64 n) = if n < 0 then none else (s[n.toNat]?).map fun c => .int .u8 c.toNat := by kernel_rfl
  rw [this, if_neg (by omega), List.getElem?_eq_getElem (by omega), Option.map_some]
  have hn : n.toNat < s.length := by omega
  simp [hn]
theorem runRANK (fl : Fl) (s : List UInt8) (hs : s.length ≤ 4611686018427387904) (st : St) : run Tryz.prog rzH fl 114 [.str s] st = some (.int .u64 (rkM s), st) := by
  refine run_sim (fi := ⟨true, [], [(3, [0, 3, 6, 7])]⟩) rfl rfl rfl Tryz.func114 rfl rfl ?_
  simp only [argsFr]
  refine zw (@len9) ?_
  refine sk_count ⟨true, [], [(3, [0, 3, 6, 7])]⟩ rfl [0, 3, 6, 7] rfl (fun m fr => ∃ (i : Nat) (x : Int), m = s.length - i ∧ i ≤ s.length ∧ fr = [(0, .str s), (3, .int .u64 x), (6, .int .i64 s.length), (7, .int .i64 i)] ∧ (s.drop i).foldl rkStep x = s.foldl rkStep 14695981039346656037) s.length ?_ ?_
  · refine zw True.intro ?_
    exact ⟨0, _, rfl, by omega, rfl, rfl⟩
  · rintro m fr ⟨i, x, rfl, hi, rfl, hx⟩
    refine zw True.intro ?_
    refine sc_dec (fun hlt => ?_) (fun hge => ?_)
    · refine zw (nx @idx9 <| nx @Int.toNat_natCast <| nx @cv5_26 <| nx @xor64 <| @mul64) ?_
      refine turn_go0 (s.length - (i + 1)) (by omega) ?_
      refine zw True.intro ?_
      refine ⟨i + 1, rkStep x (s.getD i 0), rfl, by omega, ?_, ?_⟩
      · unfold rkStep; rfl
      · rw [← hx, List.drop_eq_getElem_cons (by omega : i < s.length), List.foldl_cons]
        have hg : s.getD i 0 = s[i]'(by omega) := by simp [show i < s.length by omega]
        rw [← hg]
    · refine zw (nx @xor64 <| nx @mul64 <| @shr29) ?_
      have : i = s.length := by omega
      subst this
      simp at hx
      subst hx
      exact ⟨trivial, _, rfl, rfl⟩

theorem faS (cs : List D) : fieldAddrD Tryz.prog 39 (.box 0 cs) 0 = some (.box 0 cs) := by kernel_rfl
theorem ldS (a : D) (st : St) : loadD Tryz.prog st 37 (.box 0 [a]) = some a := by kernel_rfl
theorem ldSS (a : D) (st : St) : loadD Tryz.prog st 39 (.box 0 [a]) = some (.agg [a]) := by kernel_rfl
theorem tzS : tyZero Tryz.prog 39 = some [.nilp] := by kernel_rfl
theorem tsS : tySize Tryz.prog 39 = some 1 := by kernel_rfl
theorem ptS (a : D) : partD Tryz.prog 39 [a] 0 = some (.agg [a]) := by kernel_rfl
theorem bdS (t : Tw Rz.VoteM) : buildD Tryz.prog 39 [(0, twD t)] = some (.agg [twD t]) := bd_39_0 _ (tw_one t)
theorem splV (v w : Rz.VoteM) : splice (Rz.voteD v) 0 (Rz.voteD w) = Rz.voteD w := splice_all (by rw [Rz.voteD_length, Rz.voteD_length])
theorem tzV : tyZero Tryz.prog 75 = some (Rz.voteD Rz.zVote) := by kernel_rfl
theorem runPUT (fl : Fl) (t : Tw Rz.VoteM) (key : List UInt8) (v : Rz.VoteM) (st : St) (hg : t.Good) (hs : t.size < 1000000) (hk : key.length ≤ 4611686018427387904) : run Tryz.prog rzH fl 63 [shD t, .str key, .agg (Rz.voteD v)] st = some (shD (putM t key v), st) := by
  obtain ⟨g1, g2, g3⟩ := splitM_good key hg
  obtain ⟨j1, j2⟩ := joinM_good _ _ (.node key v (rkM key) 1 .nil .nil) (Nat.lt_succ_self _) g1 (one_good key v _)
  have r1 := fun fl st => runSPLIT key t fl st hg (by omega)
  have r2 := fun fl st => runRANK fl key hk st
  have ra := fun fl st => runJOIN 4000000 _ _ fl st (by simp only [Tw.size]; omega) (by omega) g1 (one_good key v (rkM key))
  have rb := fun fl st => runJOIN 4000000 _ _ fl st (by rw [j2]; simp only [Tw.size]; omega) (by omega) j1 g2
  simp only [tw_nil, tw_node] at ra
  refine run_sime (fi := ⟨true, [3, 5, 22, 18], []⟩) (rs := [.cell 6 39]) rfl rfl rfl Tryz.func63 rfl rfl ?_
  simp only [argsFr, shD]
  refine zw (nx @lay_len <| nx @lay_new <| nx @tzS <| nx @faS <| nx @ldS <| nx @ldB <| nx @ptV <| nx @r1 <| nx @r2 <| nx @bdN4 <| nx @ra <| nx @rb <| nx @bdS <| nx @store_agg <| nx @tsS <| nx @List.set_cons_zero.{0} <| @Nat.le_refl) ?_
  apply fin_cell (x := .ref (st.blk.length + 0) 0)
  · rfl
  · rw [load_ext]; exact ptS _
  · simp [D.flat, flatL, tw_flat]
def bestD : Option (List UInt8 × Rz.VoteM) → D → Prop
  | none, d => d = .nilp
  | some (k, v), d => ∃ rk c l r, d = twD (.node k v rk c l r)
def nextD : Option (List UInt8 × Rz.VoteM) → D
  | none => .tuple [.str [], .agg (Rz.voteD Rz.zVote), .bool false]
  | some (k, v) => .tuple [.str k, .agg (Rz.voteD v), .bool true]
theorem runNEXT (fl : Fl) (t : Tw Rz.VoteM) (key : List UInt8) (st : St) : run Tryz.prog rzH fl 170 [shD t, .str key] st = some (nextD (nextM key t none), st) := by
  refine run_sime (fi := ⟨true, [2], [(3, [1, 5, 7, 8])]⟩) (rs := [.tmp 4, .cell 5 75, .tmp 6]) rfl rfl rfl Tryz.func170 rfl rfl ?_
  simp only [argsFr, shD]
  refine zw (nx @tzV <| nx @faS <| @ldS) ?_
  refine sk_count ⟨true, [2], [(3, [1, 5, 7, 8])]⟩ rfl [1, 5, 7, 8] rfl (fun m fr => ∃ (u : Tw Rz.VoteM) (b : Option (List UInt8 × Rz.VoteM)) (d : D), m = u.size ∧ bestD b d ∧ fr = [(1, .str key), (5, .ref (st.blk.length + 0) 0), (7, d), (8, twD u)] ∧ nextM key u b = nextM key t none) t.size ?_ ?_
  · refine zw True.intro ?_
    exact ⟨t, none, .nilp, rfl, rfl, rfl, rfl⟩
  · rintro m fr ⟨u, b, d, rfl, hb, rfl, hx⟩
    cases u with
    | nil =>
      simp only [tw_nil]
      simp only [nextM] at hx
      rw [← hx]
      clear hx
      cases b with
      | none =>
        simp only [bestD] at hb
        subst hb
        refine zw (nx @eqP_n <| nx @tzV <| nx @ptV <| nx @splV <| nx @Rz.voteD_length <| @ts_75) ?_
        exact fin_tct (y := .ref (st.blk.length + 0) 0) rfl rfl (by rw [load_ext]; exact ptV _) rfl (by simp [D.flat, Rz.voteD_flat]) rfl rfl
      | some kv =>
        obtain ⟨k, v⟩ := kv
        obtain ⟨rk, c, l, r, rfl⟩ := hb
        simp only [tw_node]
        refine zw (nx @eqP_n <| nx @eqP_b <| nx @fa_0 <| nx @fa_1 <| nx @ldK <| nx @ldV <| nx @tzV <| nx @ptV <| nx @splV <| nx @Rz.voteD_length <| @ts_75) ?_
        exact fin_tct (y := .ref (st.blk.length + 0) 0) rfl rfl (by rw [load_ext]; exact ptV _) rfl (by simp [D.flat, Rz.voteD_flat]) rfl rfl
    | node k v rk c l r =>
      simp only [tw_node]
      refine zw (nx @eqP_b <| nx @fa_0 <| nx @ldK <| @strBin.eq_def) ?_
      simp only [nextM] at hx
      by_cases h1 : lessB k key = true
      · rw [if_neg (by simp [h1])]
        rw [if_pos h1] at hx
        refine zw (nx @fa_5 <| @ldG) ?_
        refine turn_go0 r.size (by simp only [Tw.size]; omega) ?_
        refine zw True.intro ?_
        exact ⟨r, b, d, rfl, hb, rfl, hx⟩
      · rw [if_pos (by simp [h1])]
        rw [if_neg h1] at hx
        refine zw (nx @fa_4 <| @ldL) ?_
        refine turn_go0 l.size (by simp only [Tw.size]; omega) ?_
        refine zw True.intro ?_
        exact ⟨l, some (k, v), twD (.node k v rk c l r), rfl, ⟨rk, c, l, r, rfl⟩, rfl, hx⟩
def getD' : Option Rz.VoteM → D
  | none => .tuple [.agg (Rz.voteD Rz.zVote), .bool false]
  | some v => .tuple [.agg (Rz.voteD v), .bool true]
theorem runGET (fl : Fl) (t : Tw Rz.VoteM) (key : List UInt8) (st : St) : run Tryz.prog rzH fl 134 [shD t, .str key] st = some (getD' (getM key t), st) := by
  have r1 := fun fl st => runNEXT fl t key st
  simp only [shD] at r1
  refine run_sime (fi := ⟨true, [2], []⟩) (rs := [.cell 4 75, .tmp 5]) rfl rfl rfl Tryz.func134 rfl rfl ?_
  cases hn : nextM key t none with
  | none =>
    rw [show getM key t = none by simp [getM, hn]]
    simp only [hn, nextD] at r1
    simp only [argsFr, shD]
    refine zw (nx @ldSS <| nx @r1 <| nx @tzV <| nx @ptV <| nx @splV <| nx @Rz.voteD_length <| @ts_75) ?_
    exact fin_ct (x := .ref (st.blk.length + 0) 0) rfl (by rw [load_ext]; exact ptV _) rfl (by simp [D.flat, Rz.voteD_flat]) rfl
  | some kv =>
    obtain ⟨k, v⟩ := kv
    simp only [hn, nextD] at r1
    by_cases h : k = key
    · rw [show getM key t = some v by simp [getM, hn, h]]
      simp only [argsFr, shD]
      refine zw (nx @ldSS <| nx @r1 <| nx @tzV <| nx @ptV <| nx @splV <| nx @Rz.voteD_length <| @ts_75) ?_
      refine sc_dec (fun h' => absurd h h') (fun h' => ?_)
      refine zw (nx @ptV <| nx @splV <| nx @Rz.voteD_length <| @ts_75) ?_
      exact fin_ct (x := .ref (st.blk.length + 0) 0) rfl (by rw [load_ext]; exact ptV _) rfl (by simp [D.flat, Rz.voteD_flat]) rfl
    · rw [show getM key t = none by simp [getM, hn, h]]
      simp only [argsFr, shD]
      refine zw (nx @ldSS <| nx @r1 <| nx @tzV <| nx @ptV <| nx @splV <| nx @Rz.voteD_length <| @ts_75) ?_
      exact fin_ct (x := .ref (st.blk.length + 0) 0) rfl (by rw [load_ext]; exact ptV _) rfl (by simp [D.flat, Rz.voteD_flat]) rfl
theorem runDROP (fl : Fl) (t : Tw Rz.VoteM) (key : List UInt8) (st : St) (hg : t.Good) (hs : t.size < 1000000) : run Tryz.prog rzH fl 90 [shD t, .str key] st = some (shD (dropM key t), st) := by
  obtain ⟨g1, g2, g3⟩ := splitM_good key hg
  have r1 := fun fl st => runGET fl t key st
  have r2 := fun fl st => runSPLIT key t fl st hg (by omega)
  have ra := fun fl st => runJOIN 4000000 _ _ fl st (by omega) (by omega) g1 g2
  refine run_sime (fi := ⟨true, [2], []⟩) (rs := [.cell 4 39]) rfl rfl rfl Tryz.func90 rfl rfl ?_
  simp only [argsFr, shD] at r1 ⊢
  cases hn : getM key t with
  | none =>
    rw [show dropM key t = t by simp [dropM, hn]]
    simp only [hn, getD'] at r1
    refine zw (nx @tzS <| nx @tzV <| nx @ldSS <| nx @r1 <| nx @tsS <| nx @ptV <| nx @splV <| nx @Rz.voteD_length <| @ts_75) ?_
    apply fin_cell (x := .ref (st.blk.length + 0) 0)
    · rfl
    · rw [load_ext]; exact ptS _
    · simp [D.flat, flatL, tw_flat]
  | some v =>
    rw [show dropM key t = joinM (splitM key t).1 (splitM key t).2 by simp [dropM, hn]]
    simp only [hn, getD'] at r1
    refine zw (nx @tzS <| nx @tzV <| nx @ldSS <| nx @faS <| nx @ldS <| nx @r1 <| nx @r2 <| nx @ra <| nx @bdS <| nx @tsS <| nx @ptV <| nx @splV <| nx @Rz.voteD_length <| @ts_75) ?_
    apply fin_cell (x := .ref (st.blk.length + 0) 0)
    · rfl
    · rw [load_ext]; exact ptS _
    · simp [D.flat, flatL, tw_flat]

/-! ### All -/
def kvD (e : List UInt8 × Rz.VoteM) : List D := [.str e.1, .agg (Rz.voteD e.2)]
theorem ldY (x : D) (st : St) : loadD Tryz.prog st 225 (.box 0 [x]) = some x := by kernel_rfl
theorem ptF (x : D) : partD Tryz.prog 226 [x] 0 = some x := by kernel_rfl
theorem ldF {s : St} {c : Nat} {x : D} (h : s.blk[c]? = some (.cells [x])) : loadD Tryz.prog s 226 (.ref c 0) = some x := by
  simp only [loadD, h, ptF]
def allX (b n : Nat) : D := .clos 133 [] [.ref n 0, .box 0 [.yld b]]
/-- The walk over a shelf's twigs. -/
theorem runALL11 {fl : Fl} {b c : Nat} : ∀ (t : Tw Rz.VoteM) (st st' : St) (r : Bool), Rds Tryz.prog rzH fl b (fun st => st.blk[c]? = some (.cells [allX b c])) (t.lst.map kvD) st r st' →
    run Tryz.prog rzH fl 133 [twD t, .ref c 0, .box 0 [.yld b]] st = some (.bool r, st')
  | .nil, st, st', r, h => by
    have : r = true ∧ st' = st := by cases h; exact ⟨rfl, rfl⟩
    obtain ⟨rfl, rfl⟩ := this
    refine run_simw (fi := ⟨false, [], []⟩) (rs := [.tmp 4]) rfl rfl rfl Tryz.func133 rfl rfl ?_
    simp only [argsFr, tw_nil, tw_node]
    refine zw (@eqP_n) ?_
    exact ⟨trivial, rfl, _, rfl, rfl⟩
  | .node k v rk cn l rt, st, st', r, h => by
    have i1 := ldF h.start
    rw [show (Tw.node k v rk cn l rt).lst.map kvD = l.lst.map kvD ++ kvD (k, v) :: rt.lst.map kvD by simp [Tw.lst]] at h
    refine run_simw (fi := ⟨false, [], []⟩) (rs := [.tmp 4]) rfl rfl rfl Tryz.func133 rfl rfl ?_
    simp only [argsFr, tw_nil, tw_node]
    simp only [allX] at i1
    rcases h.split with ⟨rfl, h1⟩ | ⟨st1, h1, h2⟩
    · have e1 := runALL11 l _ _ _ h1
      refine zw (nx @eqP_b <| nx @i1 <| nx @fa_4 <| nx @ldL <| @e1) ?_
      exact ⟨trivial, rfl, _, rfl, rfl⟩
    · have e1 := runALL11 l _ _ _ h1
      cases h2 with
      | stop i2 h2 =>
        simp only [kvD] at h2
        refine zw (nx @eqP_b <| nx @i1 <| nx @fa_4 <| nx @ldL <| nx @e1 <| nx @ldY <| nx @fa_0 <| nx @fa_1 <| nx @ldK <| nx @ldV <| @h2) ?_
        exact ⟨trivial, rfl, _, rfl, rfl⟩
      | go i2 h2 h3 =>
        simp only [kvD] at h2
        have i3 := ldF h3.start
        simp only [allX] at i3
        have e3 := runALL11 rt _ _ _ h3
        refine zw (nx @eqP_b <| nx @i1 <| nx @fa_4 <| nx @ldL <| nx @e1 <| nx @ldY <| nx @fa_0 <| nx @fa_1 <| nx @ldK <| nx @ldV <| nx @h2 <| nx @i3 <| nx @fa_5 <| nx @ldG <| @e3) ?_
        exact ⟨trivial, rfl, _, rfl, rfl⟩

theorem tzF : tyZero Tryz.prog 226 = some [.nilf] := by kernel_rfl
theorem tsF : tySize Tryz.prog 226 = some 1 := by kernel_rfl
theorem stF {fl : Fl} {st : St} {f : FuncId} {a b : List D} (hf : fl.fb ≤ st.blk.length) : storeD Tryz.prog fl (st.new (.cells [.nilf])) 226 (.ref st.blk.length 0) (.clos f a b) = some (st.new (.cells [.clos f a b])) := by
  simp only [storeD]
  rw [if_pos (by simp [hf, D.mem])]
  simp only [get_newR, tsF, D.cells, List.length_cons, List.length_nil, set_new]
  rfl
/-- All's closure, ranged over. -/
theorem allALL1 (t : Tw Rz.VoteM) : AllOk Tryz.prog rzH 132 (.box 0 [twD t]) (t.lst.map kvD) allX := by
  intro fl b st st' r hf h
  have e := runALL11 t _ _ _ h
  have i := ldF h.start
  simp only [allX] at i e
  refine run_simw (fi := ⟨false, [2], []⟩) (rs := []) rfl rfl rfl Tryz.func132 rfl rfl ?_
  simp only [argsFr]
  have sF := fun (f : FuncId) (a b : List D) => stF (st := st) (f := f) (a := a) (b := b) hf
  refine zw (nx @tzF <| nx @sF <| nx @i <| nx @faS <| nx @ldS <| @e) ?_
  exact ⟨trivial, rfl, _, rfl, rfl⟩
theorem runALL (fl : Fl) (t : Tw Rz.VoteM) (st : St) : run Tryz.prog rzH fl 89 [shD t] st = some (.clos 132 [] [.box 0 [twD t]], st) := by
  refine run_sim (fi := ⟨true, [1], []⟩) rfl rfl rfl Tryz.func89 rfl rfl ?_
  simp only [argsFr, shD]
  refine zw True.intro ?_
  exact fin rfl rfl (by simp [D.flat, flatL, tw_flat])

end Go.Ab.Vo

/-
  Rolls: keys, what stands ahead, pools; a roll in its block: what is loaded and stored.
-/
namespace Go.Ab.Rz
open Go Go.Proofs Go.Ab Go.Ab.G Go.Ab.Cn
set_option maxRecDepth 100000
set_option maxHeartbeats 4000000
/-! ### Parts -/
theorem paKey (x : AccM) : partD Tryz.prog 28 (accD x) 0 = some (.agg (hD x.key)) := part_agg (by kernel_rfl) (by kernel_rfl) [] (hD x.key) _ rfl rfl (hD_length _)
theorem paPool (x : AccM) : partD Tryz.prog 28 (accD x) 32 = some (.agg (hD x.pool)) := part_agg (by kernel_rfl) (by kernel_rfl) (hD x.key) (hD x.pool) [.int .u64 x.dep, .int .u64 x.rew] rfl (hD_length _) (hD_length _)
theorem paDep (x : AccM) : partD Tryz.prog 40 (accD x) 64 = some (.int .u64 x.dep) := part_one (n := 1) (by kernel_rfl) (by kernel_rfl) (hD x.key ++ hD x.pool) _ [.int .u64 x.rew] (by simp [accD]) (by simp [hD_length])
theorem paRew (x : AccM) : partD Tryz.prog 40 (accD x) 65 = some (.int .u64 x.rew) := part_one (n := 1) (by kernel_rfl) (by kernel_rfl) (hD x.key ++ (hD x.pool ++ [.int .u64 x.dep])) _ [] (by simp [accD]) (by simp [hD_length])
theorem ppNow (x : PoolM) : partD Tryz.prog 54 (poolD x) 0 = some (.agg (seatD x.now)) := part_agg (by kernel_rfl) (by kernel_rfl) [] (seatD x.now) _ rfl rfl (seatD_length _)
theorem ppLater (x : PoolM) : partD Tryz.prog 54 (poolD x) 67 = some (.agg (seatD x.later)) := part_agg (by kernel_rfl) (by kernel_rfl) (seatD x.now) (seatD x.later) _ rfl (seatD_length _) (seatD_length _)
theorem ppNowPool (x : PoolM) : partD Tryz.prog 28 (poolD x) 0 = some (.agg (hD x.now.pool)) := part_agg (by kernel_rfl) (by kernel_rfl) [] (hD x.now.pool) ((hD x.now.key ++ [.int .u64 x.now.pledge, .int .u64 x.now.cost, .int .u64 x.now.margin]) ++ (seatD x.later ++ [.bool x.turns, .bool x.closes, .int .u64 x.dep, .int .u64 x.cl])) (by simp [poolD, seatD]) rfl (hD_length _)
theorem ppNowKey (x : PoolM) : partD Tryz.prog 28 (poolD x) 32 = some (.agg (hD x.now.key)) := part_agg (by kernel_rfl) (by kernel_rfl) (hD x.now.pool) (hD x.now.key) ([.int .u64 x.now.pledge, .int .u64 x.now.cost, .int .u64 x.now.margin] ++ (seatD x.later ++ [.bool x.turns, .bool x.closes, .int .u64 x.dep, .int .u64 x.cl])) (by simp [poolD, seatD]) (hD_length _) (hD_length _)
theorem ppLatPool (x : PoolM) : partD Tryz.prog 28 (poolD x) 67 = some (.agg (hD x.later.pool)) := part_agg (by kernel_rfl) (by kernel_rfl) (seatD x.now) (hD x.later.pool) ((hD x.later.key ++ [.int .u64 x.later.pledge, .int .u64 x.later.cost, .int .u64 x.later.margin]) ++ [.bool x.turns, .bool x.closes, .int .u64 x.dep, .int .u64 x.cl]) (by simp [poolD, seatD]) (seatD_length _) (hD_length _)
theorem ppTurns (x : PoolM) : partD Tryz.prog 4 (poolD x) 134 = some (.bool x.turns) := part_one (n := 1) (by kernel_rfl) (by kernel_rfl) (seatD x.now ++ seatD x.later) _ [.bool x.closes, .int .u64 x.dep, .int .u64 x.cl] (by simp [poolD]) (by simp [seatD_length])
theorem ppCloses (x : PoolM) : partD Tryz.prog 4 (poolD x) 135 = some (.bool x.closes) := part_one (n := 1) (by kernel_rfl) (by kernel_rfl) (seatD x.now ++ (seatD x.later ++ [.bool x.turns])) _ [.int .u64 x.dep, .int .u64 x.cl] (by simp [poolD]) (by simp [seatD_length])
theorem ppDep (x : PoolM) : partD Tryz.prog 40 (poolD x) 136 = some (.int .u64 x.dep) := part_one (n := 1) (by kernel_rfl) (by kernel_rfl) (seatD x.now ++ (seatD x.later ++ [.bool x.turns, .bool x.closes])) _ [.int .u64 x.cl] (by simp [poolD]) (by simp [seatD_length])
theorem ppCl (x : PoolM) : partD Tryz.prog 40 (poolD x) 137 = some (.int .u64 x.cl) := part_one (n := 1) (by kernel_rfl) (by kernel_rfl) (seatD x.now ++ (seatD x.later ++ [.bool x.turns, .bool x.closes, .int .u64 x.dep])) _ [] (by simp [poolD]) (by simp [seatD_length])
theorem pvPool (x : VoteM) : partD Tryz.prog 28 (voteD x) 0 = some (.agg (hD x.pool)) := part_agg (by kernel_rfl) (by kernel_rfl) [] (hD x.pool) _ rfl rfl (hD_length _)
theorem pvParam (x : VoteM) : partD Tryz.prog 40 (voteD x) 32 = some (.int .u64 x.param) := part_one (n := 1) (by kernel_rfl) (by kernel_rfl) (hD x.pool) _ [.int .u64 x.value] (by simp [voteD]) (by simp [hD_length])
theorem pvValue (x : VoteM) : partD Tryz.prog 40 (voteD x) 33 = some (.int .u64 x.value) := part_one (n := 1) (by kernel_rfl) (by kernel_rfl) (hD x.pool ++ [.int .u64 x.param]) _ [] (by simp [voteD]) (by simp [hD_length])
theorem ptHH (x : H32) : partD Tryz.prog 28 (hD x) 0 = some (.agg (hD x)) := part_agg (by kernel_rfl) (by kernel_rfl) [] (hD x) [] (by simp) rfl (hD_length _)
theorem ptSS (x : SeatM) : partD Tryz.prog 54 (seatD x) 0 = some (.agg (seatD x)) := part_agg (by kernel_rfl) (by kernel_rfl) [] (seatD x) [] (by simp) rfl (seatD_length _)
/-! ### Keys -/
def atK (v : VoteM) : List UInt8 := v.pool.b ++ be8 v.param
theorem r_accKey (fl : Fl) (x : AccM) (st : St) : run Tryz.prog rzH fl 53 [.agg (accD x)] st = some (.str x.key.b, st) := by
  refine run_sim (fi := ⟨true, [1], []⟩) rfl rfl rfl Tryz.func53 rfl rfl ?_
  simp only [argsFr]
  refine zw (nx @fa_48_0 <| nx @ld_box <| nx @paKey <| @r_bytes) ?_
  exact ⟨trivial, _, rfl, rfl⟩
theorem r_poolKey (fl : Fl) (x : PoolM) (st : St) : run Tryz.prog rzH fl 55 [.agg (poolD x)] st = some (.str x.now.pool.b, st) := by
  refine run_sim (fi := ⟨true, [1], []⟩) rfl rfl rfl Tryz.func55 rfl rfl ?_
  simp only [argsFr]
  refine zw (nx @fa_56_0 <| nx @fa_54_0 <| nx @ld_box <| nx @ppNowPool <| @r_bytes) ?_
  exact ⟨trivial, _, rfl, rfl⟩
theorem r_at (fl : Fl) (x : VoteM) (st : St) : run Tryz.prog rzH fl 57 [.agg (voteD x)] st = some (.str (atK x), st) := by
  refine run_sim (fi := ⟨true, [1, 4, 7], []⟩) rfl rfl rfl Tryz.func57 rfl rfl ?_
  simp only [argsFr]
  have h := x.pool.hb
  have h8 : (be8 x.param).length = 8 := rfl
  refine zw (nx @fa_75_0 <| nx @fa_75_1 <| nx @ld_box <| nx @pvPool <| nx @pvParam <| nx @r_bytes <| @r_eight) ?_
  exact ⟨trivial, _, rfl, rfl⟩
def aheadB (a b : VoteM) : Bool := lessB a.pool.b b.pool.b || (decide (a.pool = b.pool) && decide (a.param < b.param))
theorem r_ahead (fl : Fl) (a b : VoteM) (st : St) : run Tryz.prog rzH fl 68 [.agg (voteD a), .agg (voteD b)] st = some (.bool (aheadB a b), st) := by
  refine run_sim (fi := ⟨true, [2, 3], []⟩) rfl rfl rfl Tryz.func68 rfl rfl ?_
  simp only [argsFr]
  have eb := eqH a.pool b.pool
  unfold aheadB
  cases h1 : lessB a.pool.b b.pool.b with
  | true =>
    refine zw (nx @fa_75_0 <| nx @fa_75_1 <| nx @ld_box <| nx @pvPool <| nx @pvParam <| nx @r_less <| @h1) ?_
    exact ⟨trivial, _, rfl, rfl⟩
  | false =>
    by_cases h2 : a.pool = b.pool
    · rw [decide_eq_true h2] at eb
      rw [decide_eq_true h2]
      by_cases h3 : a.param < b.param
      · have d3 : decide ((a.param : Int) < (b.param : Int)) = true := decide_eq_true (by omega)
        rw [decide_eq_true h3]
        refine zw (nx @fa_75_0 <| nx @fa_75_1 <| nx @ld_box <| nx @pvPool <| nx @pvParam <| nx @r_less <| nx @h1 <| nx @eb <| @d3) ?_
        exact ⟨trivial, _, rfl, rfl⟩
      · have d3 : decide ((a.param : Int) < (b.param : Int)) = false := decide_eq_false (by omega)
        rw [decide_eq_false h3]
        refine zw (nx @fa_75_0 <| nx @fa_75_1 <| nx @ld_box <| nx @pvPool <| nx @pvParam <| nx @r_less <| nx @h1 <| nx @eb <| @d3) ?_
        exact ⟨trivial, _, rfl, rfl⟩
    · rw [decide_eq_false h2] at eb
      rw [decide_eq_false h2]
      refine zw (nx @fa_75_0 <| nx @fa_75_1 <| nx @ld_box <| nx @pvPool <| nx @pvParam <| nx @r_less <| nx @h1 <| @eb) ?_
      exact ⟨trivial, _, rfl, rfl⟩
end Go.Ab.Rz

/-
  Rolls: pools that may be; a roll in its block: what is loaded and stored; more, put, Account, Pool.
-/
namespace Go.Ab.Rz
open Go Go.Proofs Go.Ab Go.Ab.G Go.Ab.Cn
set_option maxRecDepth 100000
set_option maxHeartbeats 4000000
def poolB (x : PoolM) : Bool := !(x.turns && !decide (x.later.pool = x.now.pool) || !x.turns && !decide (x.later = zSeat) || !x.closes && !decide (x.cl = 0)) && seatB x.now && seatB x.later
theorem bdZS : buildD Tryz.prog 54 [] = some (.agg (seatD zSeat)) := by kernel_rfl
theorem r_pool (fl : Fl) (x : PoolM) (st : St) : run Tryz.prog rzH fl 58 [.agg (poolD x)] st = some (.bool (poolB x), st) := by
  refine run_sim (fi := ⟨true, [1], []⟩) rfl rfl rfl Tryz.func58 rfl rfl ?_
  simp only [argsFr]
  have q1 := eqH x.later.pool x.now.pool
  have q2 := eqSeat x.later zSeat
  have pT := ppTurns x
  have pC := ppCloses x
  have r1 := fun fl st => r_seat fl x.now st
  have r2 := fun fl st => r_seat fl x.later st
  unfold poolB
  cases ht : x.turns with
  | true =>
    rw [ht] at pT
    by_cases hq : x.later.pool = x.now.pool
    · rw [decide_eq_true hq] at q1 ⊢
      cases hc : x.closes with
      | true =>
        rw [hc] at pC
        cases h1 : seatB x.now with
        | false =>
          rw [h1] at r1
          refine zw (nx @fa_56_0 <| nx @fa_56_1 <| nx @fa_56_2 <| nx @fa_56_3 <| nx @fa_56_5 <| nx @fa_54_0 <| nx @ld_box <| nx @ppNow <| nx @ppLater <| nx @ppNowPool <| nx @ppLatPool <| nx @ppCl <| nx @pT <| nx @pC <| nx @bdZS <| nx @q1 <| nx @q2 <| nx @r1 <| @r2) ?_
          exact ⟨trivial, _, rfl, rfl⟩
        | true =>
          rw [h1] at r1
          cases h2 : seatB x.later with
          | false =>
            rw [h2] at r2
            refine zw (nx @fa_56_0 <| nx @fa_56_1 <| nx @fa_56_2 <| nx @fa_56_3 <| nx @fa_56_5 <| nx @fa_54_0 <| nx @ld_box <| nx @ppNow <| nx @ppLater <| nx @ppNowPool <| nx @ppLatPool <| nx @ppCl <| nx @pT <| nx @pC <| nx @bdZS <| nx @q1 <| nx @q2 <| nx @r1 <| @r2) ?_
            exact ⟨trivial, _, rfl, rfl⟩
          | true =>
            rw [h2] at r2
            refine zw (nx @fa_56_0 <| nx @fa_56_1 <| nx @fa_56_2 <| nx @fa_56_3 <| nx @fa_56_5 <| nx @fa_54_0 <| nx @ld_box <| nx @ppNow <| nx @ppLater <| nx @ppNowPool <| nx @ppLatPool <| nx @ppCl <| nx @pT <| nx @pC <| nx @bdZS <| nx @q1 <| nx @q2 <| nx @r1 <| @r2) ?_
            exact ⟨trivial, _, rfl, rfl⟩
      | false =>
        rw [hc] at pC
        by_cases h3 : x.cl = 0
        · have d3 : decide ((x.cl : Int) = 0) = true := decide_eq_true (by omega)
          have d4 : decide ((x.cl : Int) ≠ 0) = false := decide_eq_false (by omega)
          rw [decide_eq_true h3]
          cases h1 : seatB x.now with
          | false =>
            rw [h1] at r1
            refine zw (nx @fa_56_0 <| nx @fa_56_1 <| nx @fa_56_2 <| nx @fa_56_3 <| nx @fa_56_5 <| nx @fa_54_0 <| nx @ld_box <| nx @ppNow <| nx @ppLater <| nx @ppNowPool <| nx @ppLatPool <| nx @ppCl <| nx @pT <| nx @pC <| nx @bdZS <| nx @q1 <| nx @q2 <| nx @d3 <| nx @d4 <| nx @r1 <| @r2) ?_
            exact ⟨trivial, _, rfl, rfl⟩
          | true =>
            rw [h1] at r1
            cases h2 : seatB x.later with
            | false =>
              rw [h2] at r2
              refine zw (nx @fa_56_0 <| nx @fa_56_1 <| nx @fa_56_2 <| nx @fa_56_3 <| nx @fa_56_5 <| nx @fa_54_0 <| nx @ld_box <| nx @ppNow <| nx @ppLater <| nx @ppNowPool <| nx @ppLatPool <| nx @ppCl <| nx @pT <| nx @pC <| nx @bdZS <| nx @q1 <| nx @q2 <| nx @d3 <| nx @d4 <| nx @r1 <| @r2) ?_
              exact ⟨trivial, _, rfl, rfl⟩
            | true =>
              rw [h2] at r2
              refine zw (nx @fa_56_0 <| nx @fa_56_1 <| nx @fa_56_2 <| nx @fa_56_3 <| nx @fa_56_5 <| nx @fa_54_0 <| nx @ld_box <| nx @ppNow <| nx @ppLater <| nx @ppNowPool <| nx @ppLatPool <| nx @ppCl <| nx @pT <| nx @pC <| nx @bdZS <| nx @q1 <| nx @q2 <| nx @d3 <| nx @d4 <| nx @r1 <| @r2) ?_
              exact ⟨trivial, _, rfl, rfl⟩
        · have d3 : decide ((x.cl : Int) = 0) = false := decide_eq_false (by omega)
          have d4 : decide ((x.cl : Int) ≠ 0) = true := decide_eq_true (by omega)
          rw [decide_eq_false h3]
          refine zw (nx @fa_56_0 <| nx @fa_56_1 <| nx @fa_56_2 <| nx @fa_56_3 <| nx @fa_56_5 <| nx @fa_54_0 <| nx @ld_box <| nx @ppNow <| nx @ppLater <| nx @ppNowPool <| nx @ppLatPool <| nx @ppCl <| nx @pT <| nx @pC <| nx @bdZS <| nx @q1 <| nx @q2 <| nx @d3 <| @d4) ?_
          exact ⟨trivial, _, rfl, rfl⟩
    · rw [decide_eq_false hq] at q1 ⊢
      refine zw (nx @fa_56_0 <| nx @fa_56_1 <| nx @fa_56_2 <| nx @fa_56_3 <| nx @fa_56_5 <| nx @fa_54_0 <| nx @ld_box <| nx @ppNow <| nx @ppLater <| nx @ppNowPool <| nx @ppLatPool <| nx @ppCl <| nx @pT <| nx @pC <| nx @bdZS <| nx @q1 <| @q2) ?_
      exact ⟨trivial, _, rfl, rfl⟩
  | false =>
    rw [ht] at pT
    by_cases hq : x.later = zSeat
    · rw [decide_eq_true hq] at q2 ⊢
      cases hc : x.closes with
      | true =>
        rw [hc] at pC
        cases h1 : seatB x.now with
        | false =>
          rw [h1] at r1
          refine zw (nx @fa_56_0 <| nx @fa_56_1 <| nx @fa_56_2 <| nx @fa_56_3 <| nx @fa_56_5 <| nx @fa_54_0 <| nx @ld_box <| nx @ppNow <| nx @ppLater <| nx @ppNowPool <| nx @ppLatPool <| nx @ppCl <| nx @pT <| nx @pC <| nx @bdZS <| nx @q1 <| nx @q2 <| nx @r1 <| @r2) ?_
          exact ⟨trivial, _, rfl, rfl⟩
        | true =>
          rw [h1] at r1
          cases h2 : seatB x.later with
          | false =>
            rw [h2] at r2
            refine zw (nx @fa_56_0 <| nx @fa_56_1 <| nx @fa_56_2 <| nx @fa_56_3 <| nx @fa_56_5 <| nx @fa_54_0 <| nx @ld_box <| nx @ppNow <| nx @ppLater <| nx @ppNowPool <| nx @ppLatPool <| nx @ppCl <| nx @pT <| nx @pC <| nx @bdZS <| nx @q1 <| nx @q2 <| nx @r1 <| @r2) ?_
            exact ⟨trivial, _, rfl, rfl⟩
          | true =>
            rw [h2] at r2
            refine zw (nx @fa_56_0 <| nx @fa_56_1 <| nx @fa_56_2 <| nx @fa_56_3 <| nx @fa_56_5 <| nx @fa_54_0 <| nx @ld_box <| nx @ppNow <| nx @ppLater <| nx @ppNowPool <| nx @ppLatPool <| nx @ppCl <| nx @pT <| nx @pC <| nx @bdZS <| nx @q1 <| nx @q2 <| nx @r1 <| @r2) ?_
            exact ⟨trivial, _, rfl, rfl⟩
      | false =>
        rw [hc] at pC
        by_cases h3 : x.cl = 0
        · have d3 : decide ((x.cl : Int) = 0) = true := decide_eq_true (by omega)
          have d4 : decide ((x.cl : Int) ≠ 0) = false := decide_eq_false (by omega)
          rw [decide_eq_true h3]
          cases h1 : seatB x.now with
          | false =>
            rw [h1] at r1
            refine zw (nx @fa_56_0 <| nx @fa_56_1 <| nx @fa_56_2 <| nx @fa_56_3 <| nx @fa_56_5 <| nx @fa_54_0 <| nx @ld_box <| nx @ppNow <| nx @ppLater <| nx @ppNowPool <| nx @ppLatPool <| nx @ppCl <| nx @pT <| nx @pC <| nx @bdZS <| nx @q1 <| nx @q2 <| nx @d3 <| nx @d4 <| nx @r1 <| @r2) ?_
            exact ⟨trivial, _, rfl, rfl⟩
          | true =>
            rw [h1] at r1
            cases h2 : seatB x.later with
            | false =>
              rw [h2] at r2
              refine zw (nx @fa_56_0 <| nx @fa_56_1 <| nx @fa_56_2 <| nx @fa_56_3 <| nx @fa_56_5 <| nx @fa_54_0 <| nx @ld_box <| nx @ppNow <| nx @ppLater <| nx @ppNowPool <| nx @ppLatPool <| nx @ppCl <| nx @pT <| nx @pC <| nx @bdZS <| nx @q1 <| nx @q2 <| nx @d3 <| nx @d4 <| nx @r1 <| @r2) ?_
              exact ⟨trivial, _, rfl, rfl⟩
            | true =>
              rw [h2] at r2
              refine zw (nx @fa_56_0 <| nx @fa_56_1 <| nx @fa_56_2 <| nx @fa_56_3 <| nx @fa_56_5 <| nx @fa_54_0 <| nx @ld_box <| nx @ppNow <| nx @ppLater <| nx @ppNowPool <| nx @ppLatPool <| nx @ppCl <| nx @pT <| nx @pC <| nx @bdZS <| nx @q1 <| nx @q2 <| nx @d3 <| nx @d4 <| nx @r1 <| @r2) ?_
              exact ⟨trivial, _, rfl, rfl⟩
        · have d3 : decide ((x.cl : Int) = 0) = false := decide_eq_false (by omega)
          have d4 : decide ((x.cl : Int) ≠ 0) = true := decide_eq_true (by omega)
          rw [decide_eq_false h3]
          refine zw (nx @fa_56_0 <| nx @fa_56_1 <| nx @fa_56_2 <| nx @fa_56_3 <| nx @fa_56_5 <| nx @fa_54_0 <| nx @ld_box <| nx @ppNow <| nx @ppLater <| nx @ppNowPool <| nx @ppLatPool <| nx @ppCl <| nx @pT <| nx @pC <| nx @bdZS <| nx @q1 <| nx @q2 <| nx @d3 <| @d4) ?_
          exact ⟨trivial, _, rfl, rfl⟩
    · rw [decide_eq_false hq] at q2 ⊢
      refine zw (nx @fa_56_0 <| nx @fa_56_1 <| nx @fa_56_2 <| nx @fa_56_3 <| nx @fa_56_5 <| nx @fa_54_0 <| nx @ld_box <| nx @ppNow <| nx @ppLater <| nx @ppNowPool <| nx @ppLatPool <| nx @ppCl <| nx @pT <| nx @pC <| nx @bdZS <| nx @q1 <| @q2) ?_
      exact ⟨trivial, _, rfl, rfl⟩
/-! ### A roll in its block -/
structure RT where
  acc : Tw AccM
  poo : Tw PoolM
  vot : Tw VoteM
  dep : Nat
  rew : Nat
def rollC (R : RT) : List D := [Ac.twD R.acc, Po.twD R.poo, Vo.twD R.vot, .int .u64 R.dep, .int .u64 R.rew]
def rst (st : St) (b : Nat) (R : RT) : St := ⟨st.blk.set b (.cells (rollC R)), st.tips⟩
theorem rollC_flat (R : RT) : flatL (rollC R) = true := by simp [rollC, flatL, D.flat, Ac.tw_flat, Po.tw_flat, Vo.tw_flat]
theorem rollC_length (R : RT) : (rollC R).length = 5 := rfl
theorem rst_self {st : St} {b : Nat} {R : RT} (h : st.blk[b]? = some (.cells (rollC R))) : rst st b R = st := by
  unfold rst
  obtain ⟨hb, e⟩ := List.getElem?_eq_some_iff.1 h
  have : st.blk.set b (.cells (rollC R)) = st.blk := by rw [← e]; exact List.set_getElem_self hb
  rw [this]
section
variable {st : St} {b : Nat} {R : RT} {fl : Fl}
theorem rst_get (hb : b < st.blk.length) : (rst st b R).blk[b]? = some (.cells (rollC R)) := by simp [rst, hb]
theorem ldR {t off : Nat} {d : D} (hb : b < st.blk.length) (h : partD Tryz.prog t (rollC R) off = some d) : loadD Tryz.prog (rst st b R) t (.ref b off) = some d := by
  simp only [loadD, rst_get hb]; exact h
theorem ldAcc (hb : b < st.blk.length) : loadD Tryz.prog (rst st b R) 33 (.ref b 0) = some (Ac.shD R.acc) := ldR hb (by kernel_rfl)
theorem ldPoo (hb : b < st.blk.length) : loadD Tryz.prog (rst st b R) 36 (.ref b 1) = some (Po.shD R.poo) := ldR hb (by kernel_rfl)
theorem ldDep (hb : b < st.blk.length) : loadD Tryz.prog (rst st b R) 40 (.ref b 3) = some (.int .u64 R.dep) := ldR hb (by kernel_rfl)
theorem ldRew (hb : b < st.blk.length) : loadD Tryz.prog (rst st b R) 40 (.ref b 4) = some (.int .u64 R.rew) := ldR hb (by kernel_rfl)
theorem stR {t off : Nat} {d : D} {R' : RT} (hm : d.mem = true) (hl : (tySize Tryz.prog t) = some d.cells.length) (ho : off + d.cells.length ≤ 5) (hb : b < st.blk.length) (hf : fl.fb ≤ b) (h : splice (rollC R) off d.cells = rollC R') : storeD Tryz.prog fl (rst st b R) t (.ref b off) d = some (rst st b R') := by
  simp only [storeD, rst_get hb, hm, hl, Bool.and_true, decide_eq_true hf, if_true, beq_self_eq_true, rollC_length, Bool.true_and, h]
  rw [if_pos (by simp [ho])]
  simp [rst, St.set]
theorem stAcc (hb : b < st.blk.length) (hf : fl.fb ≤ b) (t : Tw AccM) : storeD Tryz.prog fl (rst st b R) 33 (.ref b 0) (Ac.shD t) = some (rst st b { R with acc := t }) := stR rfl (by kernel_rfl) (by show 0 + 1 ≤ 5; omega) hb hf rfl
theorem stPoo (hb : b < st.blk.length) (hf : fl.fb ≤ b) (t : Tw PoolM) : storeD Tryz.prog fl (rst st b R) 36 (.ref b 1) (Po.shD t) = some (rst st b { R with poo := t }) := stR rfl (by kernel_rfl) (by show 1 + 1 ≤ 5; omega) hb hf rfl
theorem stDep (hb : b < st.blk.length) (hf : fl.fb ≤ b) (n : Nat) : storeD Tryz.prog fl (rst st b R) 40 (.ref b 3) (.int .u64 n) = some (rst st b { R with dep := n }) := stR rfl (by kernel_rfl) (by show 3 + 1 ≤ 5; omega) hb hf rfl
theorem stRew (hb : b < st.blk.length) (hf : fl.fb ≤ b) (n : Nat) : storeD Tryz.prog fl (rst st b R) 40 (.ref b 4) (.int .u64 n) = some (rst st b { R with rew := n }) := stR rfl (by kernel_rfl) (by show 4 + 1 ≤ 5; omega) hb hf rfl
end
end Go.Ab.Rz

/-
  Rolls: more, putAccount, putPool, Account, Pool, Deposits, Rewards, Hush.
-/
namespace Go.Ab.Rz
open Go Go.Proofs Go.Ab Go.Ab.G Go.Ab.Cn
set_option maxRecDepth 100000
set_option maxHeartbeats 4000000
section
variable {st : St} {b : Nat} {R : RT}
theorem bsU3 (x y z : Int) : buildSliceD Tryz.prog 171 3 [(0, .int .u64 x), (1, .int .u64 y), (2, .int .u64 z)] = some (.list 3 [.int .u64 x, .int .u64 y, .int .u64 z] .full) := by kernel_rfl
theorem r_sum3 (x y z : Nat) (h1 : x < 18446744073709551616) (h2 : y < 18446744073709551616) (h3 : z < 18446744073709551616) (fl : Fl) (st : St) : run Tryz.prog rzH fl 99 [.list 3 [.int .u64 x, .int .u64 y, .int .u64 z] .full] st = some (addR (x + y + z), st) := by
  have := r_wsum fl [x, y, z] (by simp [h1, h2, h3]) (by simp) .full st
  rw [show [x, y, z].sum = x + y + z by simp [Nat.add_assoc]] at this
  exact this
theorem dz0 : decide ((0 : Int) ≠ 0) = false := by decide
theorem dz9 : decide ((9 : Int) ≠ 0) = true := by decide
theorem r_moreD (fl : Fl) (hb : b < st.blk.length) (hf : fl.fb ≤ b) (n : Nat) (h1 : R.dep < 18446744073709551616) (h2 : R.rew < 18446744073709551616) (h3 : n < 18446744073709551616) :
    run Tryz.prog rzH fl 59 [.ref b 0, .ref b 3, .int .u64 n] (rst st b R) = some (if R.dep + R.rew + n < 9223372036854775808 then (.int .i64 0, rst st b { R with dep := R.dep + n }) else (.int .i64 9, rst st b R)) := by
  have r1 := r_sum3 R.dep R.rew n h1 h2 h3
  have l1 := ldDep (R := R) hb
  have l2 := ldRew (R := R) hb
  split
  · rename_i h
    rw [addR, if_neg (by omega)] at r1
    have d : decide ((9223372036854775808 : Int) ≤ ((R.dep + R.rew + n : Nat) : Int)) = false := decide_eq_false (by omega)
    have k : intBin .add .u64 (R.dep : Nat) (n : Nat) = some (.int .u64 (R.dep + n : Nat)) := by rw [ib_addm, Nat.mod_eq_of_lt (by omega)]
    have w := stDep (R := R) hb hf (R.dep + n)
    refine run_simw (fi := ⟨false, [], []⟩) (rs := [.tmp 6]) rfl rfl rfl Tryz.func59 rfl rfl ?_
    simp only [argsFr]
    refine zw (nx @fr_42_3 <| nx @fr_42_4 <| nx @l1 <| nx @l2 <| nx @bsU3 <| nx @dz0 <| nx @dz9 <| nx @r1 <| nx @d <| nx @k <| @w) ?_
    exact ⟨trivial, rfl, _, rfl, rfl⟩
  · rename_i h
    by_cases g : 18446744073709551616 ≤ R.dep + R.rew + n
    · rw [addR, if_pos g] at r1
      refine run_simw (fi := ⟨false, [], []⟩) (rs := [.tmp 6]) rfl rfl rfl Tryz.func59 rfl rfl ?_
      simp only [argsFr]
      refine zw (nx @fr_42_3 <| nx @fr_42_4 <| nx @l1 <| nx @l2 <| nx @bsU3 <| nx @dz0 <| nx @dz9 <| @r1) ?_
      exact ⟨trivial, rfl, _, rfl, rfl⟩
    · rw [addR, if_neg g] at r1
      have d : decide ((9223372036854775808 : Int) ≤ ((R.dep + R.rew + n : Nat) : Int)) = true := decide_eq_true (by omega)
      refine run_simw (fi := ⟨false, [], []⟩) (rs := [.tmp 6]) rfl rfl rfl Tryz.func59 rfl rfl ?_
      simp only [argsFr]
      refine zw (nx @fr_42_3 <| nx @fr_42_4 <| nx @l1 <| nx @l2 <| nx @bsU3 <| nx @dz0 <| nx @dz9 <| nx @r1 <| @d) ?_
      exact ⟨trivial, rfl, _, rfl, rfl⟩
theorem r_moreW (fl : Fl) (hb : b < st.blk.length) (hf : fl.fb ≤ b) (n : Nat) (h1 : R.dep < 18446744073709551616) (h2 : R.rew < 18446744073709551616) (h3 : n < 18446744073709551616) :
    run Tryz.prog rzH fl 59 [.ref b 0, .ref b 4, .int .u64 n] (rst st b R) = some (if R.dep + R.rew + n < 9223372036854775808 then (.int .i64 0, rst st b { R with rew := R.rew + n }) else (.int .i64 9, rst st b R)) := by
  have r1 := r_sum3 R.dep R.rew n h1 h2 h3
  have l1 := ldDep (R := R) hb
  have l2 := ldRew (R := R) hb
  split
  · rename_i h
    rw [addR, if_neg (by omega)] at r1
    have d : decide ((9223372036854775808 : Int) ≤ ((R.dep + R.rew + n : Nat) : Int)) = false := decide_eq_false (by omega)
    have k : intBin .add .u64 (R.rew : Nat) (n : Nat) = some (.int .u64 (R.rew + n : Nat)) := by rw [ib_addm, Nat.mod_eq_of_lt (by omega)]
    have w := stRew (R := R) hb hf (R.rew + n)
    refine run_simw (fi := ⟨false, [], []⟩) (rs := [.tmp 6]) rfl rfl rfl Tryz.func59 rfl rfl ?_
    simp only [argsFr]
    refine zw (nx @fr_42_3 <| nx @fr_42_4 <| nx @l1 <| nx @l2 <| nx @bsU3 <| nx @dz0 <| nx @dz9 <| nx @r1 <| nx @d <| nx @k <| @w) ?_
    exact ⟨trivial, rfl, _, rfl, rfl⟩
  · rename_i h
    by_cases g : 18446744073709551616 ≤ R.dep + R.rew + n
    · rw [addR, if_pos g] at r1
      refine run_simw (fi := ⟨false, [], []⟩) (rs := [.tmp 6]) rfl rfl rfl Tryz.func59 rfl rfl ?_
      simp only [argsFr]
      refine zw (nx @fr_42_3 <| nx @fr_42_4 <| nx @l1 <| nx @l2 <| nx @bsU3 <| nx @dz0 <| nx @dz9 <| @r1) ?_
      exact ⟨trivial, rfl, _, rfl, rfl⟩
    · rw [addR, if_neg g] at r1
      have d : decide ((9223372036854775808 : Int) ≤ ((R.dep + R.rew + n : Nat) : Int)) = true := decide_eq_true (by omega)
      refine run_simw (fi := ⟨false, [], []⟩) (rs := [.tmp 6]) rfl rfl rfl Tryz.func59 rfl rfl ?_
      simp only [argsFr]
      refine zw (nx @fr_42_3 <| nx @fr_42_4 <| nx @l1 <| nx @l2 <| nx @bsU3 <| nx @dz0 <| nx @dz9 <| nx @r1 <| @d) ?_
      exact ⟨trivial, rfl, _, rfl, rfl⟩
theorem len32 (h : H32) : h.b.length ≤ 4611686018427387904 := by rw [h.hb]; omega
theorem r_putAcc (fl : Fl) (hb : b < st.blk.length) (hf : fl.fb ≤ b) (x : AccM) (hg : R.acc.Good) (hs : R.acc.size < 1000000) :
    run Tryz.prog rzH fl 61 [.ref b 0, .agg (accD x)] (rst st b R) = some (.tuple [], rst st b { R with acc := putM R.acc x.key.b x }) := by
  have l1 := ldAcc (R := R) hb
  have w := stAcc (R := R) hb hf (putM R.acc x.key.b x)
  have r1 := fun fl st => Ac.runPUT fl R.acc x.key.b x st hg hs (len32 _)
  have pt := Ac.ptV x
  refine run_simw (fi := ⟨false, [3, 9, 11], []⟩) (rs := []) rfl rfl rfl Tryz.func61 rfl rfl ?_
  simp only [argsFr]
  refine zw (nx @fr_42_0 <| nx @l1 <| nx @ld_box <| nx @pt <| nx @r_accKey <| nx @r1 <| @w) ?_
  exact ⟨trivial, rfl, _, rfl, rfl⟩
theorem r_putPool (fl : Fl) (hb : b < st.blk.length) (hf : fl.fb ≤ b) (x : PoolM) (hg : R.poo.Good) (hs : R.poo.size < 1000000) :
    run Tryz.prog rzH fl 60 [.ref b 0, .agg (poolD x)] (rst st b R) = some (.tuple [], rst st b { R with poo := putM R.poo x.now.pool.b x }) := by
  have l1 := ldPoo (R := R) hb
  have w := stPoo (R := R) hb hf (putM R.poo x.now.pool.b x)
  have r1 := fun fl st => Po.runPUT fl R.poo x.now.pool.b x st hg hs (len32 _)
  have pt := Po.ptV x
  refine run_simw (fi := ⟨false, [3, 9, 11], []⟩) (rs := []) rfl rfl rfl Tryz.func60 rfl rfl ?_
  simp only [argsFr]
  refine zw (nx @fr_42_1 <| nx @l1 <| nx @ld_box <| nx @pt <| nx @r_poolKey <| nx @r1 <| @w) ?_
  exact ⟨trivial, rfl, _, rfl, rfl⟩
end
end Go.Ab.Rz
