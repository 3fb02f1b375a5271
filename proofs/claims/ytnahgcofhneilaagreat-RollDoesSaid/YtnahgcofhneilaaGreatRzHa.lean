/-
  Certificates: whether one may be.
-/
import Derived.Test.YtnahgcofhneilaaGreatRzT
set_option linter.unusedSimpArgs false
set_option linter.unusedVariables false
namespace Go.Ab.Rz
open Go Go.Proofs Go.Ab Go.Ab.G Go.Ab.Cn
set_option maxRecDepth 100000
set_option maxHeartbeats 4000000
structure CertM where
  kind : Nat
  key : H32
  pool : H32
  a : Nat
  b : Nat
  c : Nat
  hk : kind < 256
  ha : a < 18446744073709551616
  hb : b < 18446744073709551616
  hc : c < 18446744073709551616
deriving DecidableEq
def certD (x : CertM) : List D := .int .u8 x.kind :: (hD x.key ++ (hD x.pool ++ [.int .u64 x.a, .int .u64 x.b, .int .u64 x.c]))
theorem certD_length (x : CertM) : (certD x).length = 68 := by simp [certD, hD_length]
def CertM.base (x : CertM) : CertM := ⟨x.kind, zH, zH, 0, 0, 0, x.hk, by decide, by decide, by decide⟩
def zCert : CertM := ⟨0, zH, zH, 0, 0, 0, by decide, by decide, by decide, by decide⟩
theorem pcKind (x : CertM) : partD Tryz.prog 5 (certD x) 0 = some (.int .u8 x.kind) := part_one (n := 1) (by kernel_rfl) (by kernel_rfl) [] _ _ rfl rfl
theorem pcKey (x : CertM) : partD Tryz.prog 28 (certD x) 1 = some (.agg (hD x.key)) := part_agg (by kernel_rfl) (by kernel_rfl) [.int .u8 x.kind] (hD x.key) (hD x.pool ++ [.int .u64 x.a, .int .u64 x.b, .int .u64 x.c]) rfl rfl (hD_length _)
theorem pcPool (x : CertM) : partD Tryz.prog 28 (certD x) 33 = some (.agg (hD x.pool)) := part_agg (by kernel_rfl) (by kernel_rfl) (.int .u8 x.kind :: hD x.key) (hD x.pool) [.int .u64 x.a, .int .u64 x.b, .int .u64 x.c] (by simp [certD]) (by simp [hD_length]) (hD_length _)
theorem pcA (x : CertM) : partD Tryz.prog 40 (certD x) 65 = some (.int .u64 x.a) := part_one (n := 1) (by kernel_rfl) (by kernel_rfl) (.int .u8 x.kind :: (hD x.key ++ hD x.pool)) _ [.int .u64 x.b, .int .u64 x.c] (by simp [certD]) (by simp [hD_length])
theorem pcB (x : CertM) : partD Tryz.prog 40 (certD x) 66 = some (.int .u64 x.b) := part_one (n := 1) (by kernel_rfl) (by kernel_rfl) (.int .u8 x.kind :: (hD x.key ++ (hD x.pool ++ [.int .u64 x.a]))) _ [.int .u64 x.c] (by simp [certD]) (by simp [hD_length])
theorem pcC (x : CertM) : partD Tryz.prog 40 (certD x) 67 = some (.int .u64 x.c) := part_one (n := 1) (by kernel_rfl) (by kernel_rfl) (.int .u8 x.kind :: (hD x.key ++ (hD x.pool ++ [.int .u64 x.a, .int .u64 x.b]))) _ [] (by simp [certD]) (by simp [hD_length])
theorem pcAll (x : CertM) : partD Tryz.prog 64 (certD x) 0 = some (.agg (certD x)) := part_agg (by kernel_rfl) (by kernel_rfl) [] (certD x) [] (by simp) rfl (certD_length _)
theorem scKey (x : CertM) (h : H32) : splice (certD x) 1 (hD h) = certD { x with key := h } := by
  have := splice_mid (a := [.int .u8 x.kind]) (m := hD x.key) (b := hD x.pool ++ [.int .u64 x.a, .int .u64 x.b, .int .u64 x.c]) (m' := hD h) (o := 1) rfl (by rw [hD_length, hD_length])
  simpa [certD] using this
theorem scPool (x : CertM) (h : H32) : splice (certD x) 33 (hD h) = certD { x with pool := h } := by
  have := splice_mid (a := .int .u8 x.kind :: hD x.key) (m := hD x.pool) (b := [.int .u64 x.a, .int .u64 x.b, .int .u64 x.c]) (m' := hD h) (o := 33) (by simp [hD_length]) (by rw [hD_length, hD_length])
  simpa [certD] using this
theorem scA (x : CertM) (n : Nat) (h : n < 18446744073709551616) : splice (certD x) 65 [.int .u64 n] = certD { x with a := n, ha := h } := by
  have := splice_mid (a := .int .u8 x.kind :: (hD x.key ++ hD x.pool)) (m := [.int .u64 x.a]) (b := [.int .u64 x.b, .int .u64 x.c]) (m' := [.int .u64 n]) (o := 65) (by simp [hD_length]) rfl
  simpa [certD] using this
theorem scB (x : CertM) (n : Nat) (h : n < 18446744073709551616) : splice (certD x) 66 [.int .u64 n] = certD { x with b := n, hb := h } := by
  have := splice_mid (a := .int .u8 x.kind :: (hD x.key ++ (hD x.pool ++ [.int .u64 x.a]))) (m := [.int .u64 x.b]) (b := [.int .u64 x.c]) (m' := [.int .u64 n]) (o := 66) (by simp [hD_length]) rfl
  simpa [certD] using this
theorem bdCert (x : CertM) : buildD Tryz.prog 64 [(0, .int .u8 x.kind)] = some (.agg (certD x.base)) := by
  rw [bd_64_0 _ rfl]; rfl
theorem splCC (x y : CertM) : splice (certD x) 0 (certD y) = certD y := splice_all (by rw [certD_length, certD_length])
theorem tzCert : tyZero Tryz.prog 64 = some (certD zCert) := by kernel_rfl
theorem eqRowCert (x y : CertM) : eqRow (certD x) (certD y) = some (decide (x = y)) := by
  rw [certD, certD, row_cons (eqRowN _ _ _) (row_app (by rw [hD_length, hD_length]) (eqRowH _ _) (row_app (by rw [hD_length, hD_length]) (eqRowH _ _) (row_cons (eqRowN _ _ _) (row_cons (eqRowN _ _ _) (eqRowN _ _ _)))))]
  congr 1
  obtain ⟨a, b, c, d, e, f, _, _, _, _⟩ := x; obtain ⟨a', b', c', d', e', f', _, _, _, _⟩ := y
  rw [Bool.eq_iff_iff]
  simp
theorem clsCert (x : CertM) : (certD x).map clsD = List.replicate 68 1 := by rw [certD, List.map_cons, List.map_append, List.map_append, clsH, clsH]; rfl
theorem eqCert (x y : CertM) : eqD Tryz.prog 64 (.agg (certD x)) (.agg (certD y)) = some (decide (x = y)) := by
  simp only [eqD]
  rw [if_pos ⟨by rw [clsCert]; kernel_rfl, by kernel_rfl, by kernel_rfl⟩, eqRowCert]
/-- Whether a certificate may be. -/
def certB (x : CertM) : Bool :=
  if x.kind = 1 then decide (x.pool = zH ∧ x.a = 0 ∧ x.b = 0 ∧ x.c = 0)
  else if x.kind = 2 then decide (x.pool = zH ∧ x.a = 0 ∧ x.b = 0 ∧ x.c = 0)
  else if x.kind = 3 then decide (x.a = 0 ∧ x.b = 0 ∧ x.c = 0)
  else if x.kind = 4 then decide (x.a < 9223372036854775808 ∧ x.b < 9223372036854775808 ∧ x.c ≤ 1000)
  else if x.kind = 5 then decide (x.key = zH ∧ x.b = 0 ∧ x.c = 0)
  else if x.kind = 6 then decide (x.key = zH ∧ x.c = 0)
  else false
set_option maxHeartbeats 16000000 in
theorem r_cert (fl : Fl) (x : CertM) (st : St) : run Tryz.prog rzH fl 158 [.agg (certD x)] st = some (.bool (certB x), st) := by
  refine run_sime (fi := ⟨true, [1, 18, 20, 29, 31, 37, 39, 41], []⟩) (rs := [.tmp 2]) rfl rfl rfl Tryz.func158 rfl rfl ?_
  simp only [argsFr]
  have pZ := pcAll x
  by_cases h1 : x.kind = 1
  · skip
    have e1 : decide ((x.kind : Int) = 1) = true := decide_eq_true (by omega)
    have e2 : decide ((x.kind : Int) = 2) = false := decide_eq_false (by omega)
    have e3 : decide ((x.kind : Int) = 3) = false := decide_eq_false (by omega)
    have e4 : decide ((x.kind : Int) = 4) = false := decide_eq_false (by omega)
    have e5 : decide ((x.kind : Int) = 5) = false := decide_eq_false (by omega)
    have e6 : decide ((x.kind : Int) = 6) = false := decide_eq_false (by omega)
    have sc0 := scKey x.base x.key
    have e7 : decide ((x.kind : Int) ≠ 4) = true := decide_eq_true (by omega)
    have q : eqD Tryz.prog 64 (.agg (certD x)) (.agg (certD { x.base with key := x.key })) = some (certB x) := by
      rw [eqCert]
      congr 1
      unfold certB
      rw [if_pos h1]
      rw [Bool.eq_iff_iff]
      simp only [decide_eq_true_eq]
      obtain ⟨kd, ky, po, a, b, c, _, _, _, _⟩ := x
      simp only [CertM.base, CertM.mk.injEq]
      constructor
      · rintro h; simp_all
      · rintro h; simp_all
    cases hb : certB x with
    | true =>
      rw [hb] at q
      refine zw (nx @tzCert <| nx @bdCert <| nx @splCC <| nx @certD_length <| nx @hD_length <| nx @ts_64 <| nx @tsH <| nx @ts40 <| nx @fa_64_0 <| nx @fa_64_1 <| nx @fa_64_2 <| nx @fa_64_3 <| nx @fa_64_4 <| nx @fa_64_5 <| nx @fr_64_0 <| nx @fr_64_1 <| nx @fr_64_2 <| nx @fr_64_3 <| nx @fr_64_4 <| nx @fr_64_5 <| nx @ld_box <| nx @pcKind <| nx @pcKey <| nx @pcPool <| nx @pcA <| nx @pcB <| nx @pcC <| nx @pcAll <| nx @e1 <| nx @e2 <| nx @e3 <| nx @e4 <| nx @e5 <| nx @e6 <| nx @sc0 <| nx @e7 <| @q) ?_
      exact ⟨trivial, _, rfl, rfl⟩
    | false =>
      rw [hb] at q
      refine zw (nx @tzCert <| nx @bdCert <| nx @splCC <| nx @certD_length <| nx @hD_length <| nx @ts_64 <| nx @tsH <| nx @ts40 <| nx @fa_64_0 <| nx @fa_64_1 <| nx @fa_64_2 <| nx @fa_64_3 <| nx @fa_64_4 <| nx @fa_64_5 <| nx @fr_64_0 <| nx @fr_64_1 <| nx @fr_64_2 <| nx @fr_64_3 <| nx @fr_64_4 <| nx @fr_64_5 <| nx @ld_box <| nx @pcKind <| nx @pcKey <| nx @pcPool <| nx @pcA <| nx @pcB <| nx @pcC <| nx @pcAll <| nx @e1 <| nx @e2 <| nx @e3 <| nx @e4 <| nx @e5 <| nx @e6 <| nx @sc0 <| nx @e7 <| @q) ?_
      exact ⟨trivial, _, rfl, rfl⟩
  by_cases h2 : x.kind = 2
  · skip
    have e1 : decide ((x.kind : Int) = 1) = false := decide_eq_false (by omega)
    have e2 : decide ((x.kind : Int) = 2) = true := decide_eq_true (by omega)
    have e3 : decide ((x.kind : Int) = 3) = false := decide_eq_false (by omega)
    have e4 : decide ((x.kind : Int) = 4) = false := decide_eq_false (by omega)
    have e5 : decide ((x.kind : Int) = 5) = false := decide_eq_false (by omega)
    have e6 : decide ((x.kind : Int) = 6) = false := decide_eq_false (by omega)
    have sc0 := scKey x.base x.key
    have e7 : decide ((x.kind : Int) ≠ 4) = true := decide_eq_true (by omega)
    have q : eqD Tryz.prog 64 (.agg (certD x)) (.agg (certD { x.base with key := x.key })) = some (certB x) := by
      rw [eqCert]
      congr 1
      unfold certB
      rw [if_neg (by omega), if_pos h2]
      rw [Bool.eq_iff_iff]
      simp only [decide_eq_true_eq]
      obtain ⟨kd, ky, po, a, b, c, _, _, _, _⟩ := x
      simp only [CertM.base, CertM.mk.injEq]
      constructor
      · rintro h; simp_all
      · rintro h; simp_all
    cases hb : certB x with
    | true =>
      rw [hb] at q
      refine zw (nx @tzCert <| nx @bdCert <| nx @splCC <| nx @certD_length <| nx @hD_length <| nx @ts_64 <| nx @tsH <| nx @ts40 <| nx @fa_64_0 <| nx @fa_64_1 <| nx @fa_64_2 <| nx @fa_64_3 <| nx @fa_64_4 <| nx @fa_64_5 <| nx @fr_64_0 <| nx @fr_64_1 <| nx @fr_64_2 <| nx @fr_64_3 <| nx @fr_64_4 <| nx @fr_64_5 <| nx @ld_box <| nx @pcKind <| nx @pcKey <| nx @pcPool <| nx @pcA <| nx @pcB <| nx @pcC <| nx @pcAll <| nx @e1 <| nx @e2 <| nx @e3 <| nx @e4 <| nx @e5 <| nx @e6 <| nx @sc0 <| nx @e7 <| @q) ?_
      exact ⟨trivial, _, rfl, rfl⟩
    | false =>
      rw [hb] at q
      refine zw (nx @tzCert <| nx @bdCert <| nx @splCC <| nx @certD_length <| nx @hD_length <| nx @ts_64 <| nx @tsH <| nx @ts40 <| nx @fa_64_0 <| nx @fa_64_1 <| nx @fa_64_2 <| nx @fa_64_3 <| nx @fa_64_4 <| nx @fa_64_5 <| nx @fr_64_0 <| nx @fr_64_1 <| nx @fr_64_2 <| nx @fr_64_3 <| nx @fr_64_4 <| nx @fr_64_5 <| nx @ld_box <| nx @pcKind <| nx @pcKey <| nx @pcPool <| nx @pcA <| nx @pcB <| nx @pcC <| nx @pcAll <| nx @e1 <| nx @e2 <| nx @e3 <| nx @e4 <| nx @e5 <| nx @e6 <| nx @sc0 <| nx @e7 <| @q) ?_
      exact ⟨trivial, _, rfl, rfl⟩
  by_cases h3 : x.kind = 3
  · skip
    have e1 : decide ((x.kind : Int) = 1) = false := decide_eq_false (by omega)
    have e2 : decide ((x.kind : Int) = 2) = false := decide_eq_false (by omega)
    have e3 : decide ((x.kind : Int) = 3) = true := decide_eq_true (by omega)
    have e4 : decide ((x.kind : Int) = 4) = false := decide_eq_false (by omega)
    have e5 : decide ((x.kind : Int) = 5) = false := decide_eq_false (by omega)
    have e6 : decide ((x.kind : Int) = 6) = false := decide_eq_false (by omega)
    have sc0 := scKey x.base x.key
    have sc1 := scPool { x.base with key := x.key } x.pool
    have e7 : decide ((x.kind : Int) ≠ 4) = true := decide_eq_true (by omega)
    have q : eqD Tryz.prog 64 (.agg (certD x)) (.agg (certD { x.base with key := x.key, pool := x.pool })) = some (certB x) := by
      rw [eqCert]
      congr 1
      unfold certB
      rw [if_neg (by omega), if_neg (by omega), if_pos h3]
      rw [Bool.eq_iff_iff]
      simp only [decide_eq_true_eq]
      obtain ⟨kd, ky, po, a, b, c, _, _, _, _⟩ := x
      simp only [CertM.base, CertM.mk.injEq]
      constructor
      · rintro h; simp_all
      · rintro h; simp_all
    cases hb : certB x with
    | true =>
      rw [hb] at q
      refine zw (nx @tzCert <| nx @bdCert <| nx @splCC <| nx @certD_length <| nx @hD_length <| nx @ts_64 <| nx @tsH <| nx @ts40 <| nx @fa_64_0 <| nx @fa_64_1 <| nx @fa_64_2 <| nx @fa_64_3 <| nx @fa_64_4 <| nx @fa_64_5 <| nx @fr_64_0 <| nx @fr_64_1 <| nx @fr_64_2 <| nx @fr_64_3 <| nx @fr_64_4 <| nx @fr_64_5 <| nx @ld_box <| nx @pcKind <| nx @pcKey <| nx @pcPool <| nx @pcA <| nx @pcB <| nx @pcC <| nx @pcAll <| nx @e1 <| nx @e2 <| nx @e3 <| nx @e4 <| nx @e5 <| nx @e6 <| nx @sc0 <| nx @sc1 <| nx @e7 <| @q) ?_
      exact ⟨trivial, _, rfl, rfl⟩
    | false =>
      rw [hb] at q
      refine zw (nx @tzCert <| nx @bdCert <| nx @splCC <| nx @certD_length <| nx @hD_length <| nx @ts_64 <| nx @tsH <| nx @ts40 <| nx @fa_64_0 <| nx @fa_64_1 <| nx @fa_64_2 <| nx @fa_64_3 <| nx @fa_64_4 <| nx @fa_64_5 <| nx @fr_64_0 <| nx @fr_64_1 <| nx @fr_64_2 <| nx @fr_64_3 <| nx @fr_64_4 <| nx @fr_64_5 <| nx @ld_box <| nx @pcKind <| nx @pcKey <| nx @pcPool <| nx @pcA <| nx @pcB <| nx @pcC <| nx @pcAll <| nx @e1 <| nx @e2 <| nx @e3 <| nx @e4 <| nx @e5 <| nx @e6 <| nx @sc0 <| nx @sc1 <| nx @e7 <| @q) ?_
      exact ⟨trivial, _, rfl, rfl⟩
  by_cases h5 : x.kind = 5
  · skip
    have e1 : decide ((x.kind : Int) = 1) = false := decide_eq_false (by omega)
    have e2 : decide ((x.kind : Int) = 2) = false := decide_eq_false (by omega)
    have e3 : decide ((x.kind : Int) = 3) = false := decide_eq_false (by omega)
    have e4 : decide ((x.kind : Int) = 4) = false := decide_eq_false (by omega)
    have e5 : decide ((x.kind : Int) = 5) = true := decide_eq_true (by omega)
    have e6 : decide ((x.kind : Int) = 6) = false := decide_eq_false (by omega)
    have sc0 := scPool x.base x.pool
    have sc1 := scA { x.base with pool := x.pool } x.a x.ha
    have e7 : decide ((x.kind : Int) ≠ 4) = true := decide_eq_true (by omega)
    have q : eqD Tryz.prog 64 (.agg (certD x)) (.agg (certD { x.base with pool := x.pool, a := x.a, ha := x.ha })) = some (certB x) := by
      rw [eqCert]
      congr 1
      unfold certB
      rw [if_neg (by omega), if_neg (by omega), if_neg (by omega), if_neg (by omega), if_pos h5]
      rw [Bool.eq_iff_iff]
      simp only [decide_eq_true_eq]
      obtain ⟨kd, ky, po, a, b, c, _, _, _, _⟩ := x
      simp only [CertM.base, CertM.mk.injEq]
      constructor
      · rintro h; simp_all
      · rintro h; simp_all
    cases hb : certB x with
    | true =>
      rw [hb] at q
      refine zw (nx @tzCert <| nx @bdCert <| nx @splCC <| nx @certD_length <| nx @hD_length <| nx @ts_64 <| nx @tsH <| nx @ts40 <| nx @fa_64_0 <| nx @fa_64_1 <| nx @fa_64_2 <| nx @fa_64_3 <| nx @fa_64_4 <| nx @fa_64_5 <| nx @fr_64_0 <| nx @fr_64_1 <| nx @fr_64_2 <| nx @fr_64_3 <| nx @fr_64_4 <| nx @fr_64_5 <| nx @ld_box <| nx @pcKind <| nx @pcKey <| nx @pcPool <| nx @pcA <| nx @pcB <| nx @pcC <| nx @pcAll <| nx @e1 <| nx @e2 <| nx @e3 <| nx @e4 <| nx @e5 <| nx @e6 <| nx @sc0 <| nx @sc1 <| nx @e7 <| @q) ?_
      exact ⟨trivial, _, rfl, rfl⟩
    | false =>
      rw [hb] at q
      refine zw (nx @tzCert <| nx @bdCert <| nx @splCC <| nx @certD_length <| nx @hD_length <| nx @ts_64 <| nx @tsH <| nx @ts40 <| nx @fa_64_0 <| nx @fa_64_1 <| nx @fa_64_2 <| nx @fa_64_3 <| nx @fa_64_4 <| nx @fa_64_5 <| nx @fr_64_0 <| nx @fr_64_1 <| nx @fr_64_2 <| nx @fr_64_3 <| nx @fr_64_4 <| nx @fr_64_5 <| nx @ld_box <| nx @pcKind <| nx @pcKey <| nx @pcPool <| nx @pcA <| nx @pcB <| nx @pcC <| nx @pcAll <| nx @e1 <| nx @e2 <| nx @e3 <| nx @e4 <| nx @e5 <| nx @e6 <| nx @sc0 <| nx @sc1 <| nx @e7 <| @q) ?_
      exact ⟨trivial, _, rfl, rfl⟩
  by_cases h6 : x.kind = 6
  · skip
    have e1 : decide ((x.kind : Int) = 1) = false := decide_eq_false (by omega)
    have e2 : decide ((x.kind : Int) = 2) = false := decide_eq_false (by omega)
    have e3 : decide ((x.kind : Int) = 3) = false := decide_eq_false (by omega)
    have e4 : decide ((x.kind : Int) = 4) = false := decide_eq_false (by omega)
    have e5 : decide ((x.kind : Int) = 5) = false := decide_eq_false (by omega)
    have e6 : decide ((x.kind : Int) = 6) = true := decide_eq_true (by omega)
    have sc0 := scPool x.base x.pool
    have sc1 := scA { x.base with pool := x.pool } x.a x.ha
    have sc2 := scB { x.base with pool := x.pool, a := x.a, ha := x.ha } x.b x.hb
    have e7 : decide ((x.kind : Int) ≠ 4) = true := decide_eq_true (by omega)
    have q : eqD Tryz.prog 64 (.agg (certD x)) (.agg (certD { x.base with pool := x.pool, a := x.a, ha := x.ha, b := x.b, hb := x.hb })) = some (certB x) := by
      rw [eqCert]
      congr 1
      unfold certB
      rw [if_neg (by omega), if_neg (by omega), if_neg (by omega), if_neg (by omega), if_neg (by omega), if_pos h6]
      rw [Bool.eq_iff_iff]
      simp only [decide_eq_true_eq]
      obtain ⟨kd, ky, po, a, b, c, _, _, _, _⟩ := x
      simp only [CertM.base, CertM.mk.injEq]
      constructor
      · rintro h; simp_all
      · rintro h; simp_all
    cases hb : certB x with
    | true =>
      rw [hb] at q
      refine zw (nx @tzCert <| nx @bdCert <| nx @splCC <| nx @certD_length <| nx @hD_length <| nx @ts_64 <| nx @tsH <| nx @ts40 <| nx @fa_64_0 <| nx @fa_64_1 <| nx @fa_64_2 <| nx @fa_64_3 <| nx @fa_64_4 <| nx @fa_64_5 <| nx @fr_64_0 <| nx @fr_64_1 <| nx @fr_64_2 <| nx @fr_64_3 <| nx @fr_64_4 <| nx @fr_64_5 <| nx @ld_box <| nx @pcKind <| nx @pcKey <| nx @pcPool <| nx @pcA <| nx @pcB <| nx @pcC <| nx @pcAll <| nx @e1 <| nx @e2 <| nx @e3 <| nx @e4 <| nx @e5 <| nx @e6 <| nx @sc0 <| nx @sc1 <| nx @sc2 <| nx @e7 <| @q) ?_
      exact ⟨trivial, _, rfl, rfl⟩
    | false =>
      rw [hb] at q
      refine zw (nx @tzCert <| nx @bdCert <| nx @splCC <| nx @certD_length <| nx @hD_length <| nx @ts_64 <| nx @tsH <| nx @ts40 <| nx @fa_64_0 <| nx @fa_64_1 <| nx @fa_64_2 <| nx @fa_64_3 <| nx @fa_64_4 <| nx @fa_64_5 <| nx @fr_64_0 <| nx @fr_64_1 <| nx @fr_64_2 <| nx @fr_64_3 <| nx @fr_64_4 <| nx @fr_64_5 <| nx @ld_box <| nx @pcKind <| nx @pcKey <| nx @pcPool <| nx @pcA <| nx @pcB <| nx @pcC <| nx @pcAll <| nx @e1 <| nx @e2 <| nx @e3 <| nx @e4 <| nx @e5 <| nx @e6 <| nx @sc0 <| nx @sc1 <| nx @sc2 <| nx @e7 <| @q) ?_
      exact ⟨trivial, _, rfl, rfl⟩
  by_cases h4 : x.kind = 4
  · skip
    have e1 : decide ((x.kind : Int) = 1) = false := decide_eq_false (by omega)
    have e2 : decide ((x.kind : Int) = 2) = false := decide_eq_false (by omega)
    have e3 : decide ((x.kind : Int) = 3) = false := decide_eq_false (by omega)
    have e4 : decide ((x.kind : Int) = 4) = true := decide_eq_true (by omega)
    have e5 : decide ((x.kind : Int) = 5) = false := decide_eq_false (by omega)
    have e6 : decide ((x.kind : Int) = 6) = false := decide_eq_false (by omega)
    have e7 : decide ((x.kind : Int) ≠ 4) = false := decide_eq_false (by omega)
    have q : eqD Tryz.prog 64 (.agg (certD x)) (.agg (certD x)) = some true := by rw [eqCert, decide_eq_true rfl]
    have hB : certB x = decide (x.a < 9223372036854775808 ∧ x.b < 9223372036854775808 ∧ x.c ≤ 1000) := by
      unfold certB; rw [if_neg (by omega), if_neg (by omega), if_neg (by omega), if_pos h4]
    rw [hB]
    by_cases ha : x.a < 9223372036854775808
    · have da : decide ((x.a : Int) < 9223372036854775808) = true := decide_eq_true (by omega)
      by_cases hb : x.b < 9223372036854775808
      · have db : decide ((x.b : Int) < 9223372036854775808) = true := decide_eq_true (by omega)
        by_cases hc : x.c ≤ 1000
        · have dc : decide ((x.c : Int) ≤ 1000) = true := decide_eq_true (by omega)
          rw [decide_eq_true ⟨ha, hb, hc⟩]
          refine zw (nx @tzCert <| nx @bdCert <| nx @splCC <| nx @certD_length <| nx @hD_length <| nx @ts_64 <| nx @tsH <| nx @ts40 <| nx @fa_64_0 <| nx @fa_64_1 <| nx @fa_64_2 <| nx @fa_64_3 <| nx @fa_64_4 <| nx @fa_64_5 <| nx @fr_64_0 <| nx @fr_64_1 <| nx @fr_64_2 <| nx @fr_64_3 <| nx @fr_64_4 <| nx @fr_64_5 <| nx @ld_box <| nx @pcKind <| nx @pcKey <| nx @pcPool <| nx @pcA <| nx @pcB <| nx @pcC <| nx @pcAll <| nx @e1 <| nx @e2 <| nx @e3 <| nx @e4 <| nx @e5 <| nx @e6 <| nx @e7 <| nx @q <| nx @da <| nx @db <| @dc) ?_
          exact ⟨trivial, _, rfl, rfl⟩
        · have dc : decide ((x.c : Int) ≤ 1000) = false := decide_eq_false (by omega)
          rw [decide_eq_false (by rintro ⟨_, _, z⟩; exact hc z)]
          refine zw (nx @tzCert <| nx @bdCert <| nx @splCC <| nx @certD_length <| nx @hD_length <| nx @ts_64 <| nx @tsH <| nx @ts40 <| nx @fa_64_0 <| nx @fa_64_1 <| nx @fa_64_2 <| nx @fa_64_3 <| nx @fa_64_4 <| nx @fa_64_5 <| nx @fr_64_0 <| nx @fr_64_1 <| nx @fr_64_2 <| nx @fr_64_3 <| nx @fr_64_4 <| nx @fr_64_5 <| nx @ld_box <| nx @pcKind <| nx @pcKey <| nx @pcPool <| nx @pcA <| nx @pcB <| nx @pcC <| nx @pcAll <| nx @e1 <| nx @e2 <| nx @e3 <| nx @e4 <| nx @e5 <| nx @e6 <| nx @e7 <| nx @q <| nx @da <| nx @db <| @dc) ?_
          exact ⟨trivial, _, rfl, rfl⟩
      · have db : decide ((x.b : Int) < 9223372036854775808) = false := decide_eq_false (by omega)
        rw [decide_eq_false (by rintro ⟨_, z, _⟩; exact hb z)]
        refine zw (nx @tzCert <| nx @bdCert <| nx @splCC <| nx @certD_length <| nx @hD_length <| nx @ts_64 <| nx @tsH <| nx @ts40 <| nx @fa_64_0 <| nx @fa_64_1 <| nx @fa_64_2 <| nx @fa_64_3 <| nx @fa_64_4 <| nx @fa_64_5 <| nx @fr_64_0 <| nx @fr_64_1 <| nx @fr_64_2 <| nx @fr_64_3 <| nx @fr_64_4 <| nx @fr_64_5 <| nx @ld_box <| nx @pcKind <| nx @pcKey <| nx @pcPool <| nx @pcA <| nx @pcB <| nx @pcC <| nx @pcAll <| nx @e1 <| nx @e2 <| nx @e3 <| nx @e4 <| nx @e5 <| nx @e6 <| nx @e7 <| nx @q <| nx @da <| @db) ?_
        exact ⟨trivial, _, rfl, rfl⟩
    · have da : decide ((x.a : Int) < 9223372036854775808) = false := decide_eq_false (by omega)
      rw [decide_eq_false (by rintro ⟨z, _⟩; exact ha z)]
      refine zw (nx @tzCert <| nx @bdCert <| nx @splCC <| nx @certD_length <| nx @hD_length <| nx @ts_64 <| nx @tsH <| nx @ts40 <| nx @fa_64_0 <| nx @fa_64_1 <| nx @fa_64_2 <| nx @fa_64_3 <| nx @fa_64_4 <| nx @fa_64_5 <| nx @fr_64_0 <| nx @fr_64_1 <| nx @fr_64_2 <| nx @fr_64_3 <| nx @fr_64_4 <| nx @fr_64_5 <| nx @ld_box <| nx @pcKind <| nx @pcKey <| nx @pcPool <| nx @pcA <| nx @pcB <| nx @pcC <| nx @pcAll <| nx @e1 <| nx @e2 <| nx @e3 <| nx @e4 <| nx @e5 <| nx @e6 <| nx @e7 <| nx @q <| @da) ?_
      exact ⟨trivial, _, rfl, rfl⟩
  have e1 : decide ((x.kind : Int) = 1) = false := decide_eq_false (by omega)
  have e2 : decide ((x.kind : Int) = 2) = false := decide_eq_false (by omega)
  have e3 : decide ((x.kind : Int) = 3) = false := decide_eq_false (by omega)
  have e4 : decide ((x.kind : Int) = 4) = false := decide_eq_false (by omega)
  have e5 : decide ((x.kind : Int) = 5) = false := decide_eq_false (by omega)
  have e6 : decide ((x.kind : Int) = 6) = false := decide_eq_false (by omega)
  rw [show certB x = false by unfold certB; simp [h1, h2, h3, h4, h5, h6]]
  refine zw (nx @tzCert <| nx @bdCert <| nx @splCC <| nx @certD_length <| nx @hD_length <| nx @ts_64 <| nx @tsH <| nx @ts40 <| nx @fa_64_0 <| nx @fa_64_1 <| nx @fa_64_2 <| nx @fa_64_3 <| nx @fa_64_4 <| nx @fa_64_5 <| nx @fr_64_0 <| nx @fr_64_1 <| nx @fr_64_2 <| nx @fr_64_3 <| nx @fr_64_4 <| nx @fr_64_5 <| nx @ld_box <| nx @pcKind <| nx @pcKey <| nx @pcPool <| nx @pcA <| nx @pcB <| nx @pcC <| nx @pcAll <| nx @e1 <| nx @e2 <| nx @e3 <| nx @e4 <| nx @e5 <| @e6) ?_
  exact ⟨trivial, _, rfl, rfl⟩
theorem splHH (x y : H32) : splice (hD x) 0 (hD y) = hD y := splice_all (by rw [hD_length, hD_length])
theorem tzHH : tyZero Tryz.prog 28 = some (hD zH) := by kernel_rfl
set_option maxHeartbeats 16000000 in
theorem r_refCert (fl : Fl) (x : CertM) (st : St) : run Tryz.prog rzH fl 80 [.agg (certD x)] st = some (.bool (certB x), st) := by
  refine run_sime (fi := ⟨true, [1], []⟩) (rs := [.tmp 2]) rfl rfl rfl Tryz.func80 rfl rfl ?_
  simp only [argsFr]
  have kk := eqH x.key zH
  have kp := eqH x.pool zH
  by_cases h1 : x.kind = 1
  · skip
    have e1 : decide ((x.kind : Int) = 1) = true := decide_eq_true (by omega)
    have e2 : decide ((x.kind : Int) = 2) = false := decide_eq_false (by omega)
    have e3 : decide ((x.kind : Int) = 3) = false := decide_eq_false (by omega)
    have e4 : decide ((x.kind : Int) = 4) = false := decide_eq_false (by omega)
    have e5 : decide ((x.kind : Int) = 5) = false := decide_eq_false (by omega)
    have e6 : decide ((x.kind : Int) = 6) = false := decide_eq_false (by omega)
    have hB : certB x = decide (x.pool = zH ∧ x.a = 0 ∧ x.b = 0 ∧ x.c = 0) := by unfold certB; rw [if_pos h1]
    by_cases g4 : x.pool = zH
    · have q4 := kp
      rw [decide_eq_true g4] at q4
      by_cases g3 : x.a = 0
      · have q3 : decide ((x.a : Int) = 0) = true := decide_eq_true (by omega)
        by_cases g2 : x.b = 0
        · have q2 : decide ((x.b : Int) = 0) = true := decide_eq_true (by omega)
          by_cases g1 : x.c = 0
          · have q1 : decide ((x.c : Int) = 0) = true := decide_eq_true (by omega)
            rw [show certB x = true by rw [hB]; exact decide_eq_true ⟨g4, g3, g2, g1⟩]
            refine zw (nx @tzHH <| nx @bdZH <| nx @hD_length <| nx @tsH <| nx @splHH <| nx @ptHH <| nx @ts_28 <| nx @fa_64_0 <| nx @fa_64_1 <| nx @fa_64_2 <| nx @fa_64_3 <| nx @fa_64_4 <| nx @fa_64_5 <| nx @ld_box <| nx @pcKind <| nx @pcKey <| nx @pcPool <| nx @pcA <| nx @pcB <| nx @pcC <| nx @e1 <| nx @e2 <| nx @e3 <| nx @e4 <| nx @e5 <| nx @e6 <| nx @kk <| nx @q4 <| nx @q3 <| nx @q2 <| @q1) ?_
            exact ⟨trivial, _, rfl, rfl⟩
          · have q1 : decide ((x.c : Int) = 0) = false := decide_eq_false (by omega)
            rw [show certB x = false by rw [hB]; exact decide_eq_false (by rintro z; simp_all)]
            refine zw (nx @tzHH <| nx @bdZH <| nx @hD_length <| nx @tsH <| nx @splHH <| nx @ptHH <| nx @ts_28 <| nx @fa_64_0 <| nx @fa_64_1 <| nx @fa_64_2 <| nx @fa_64_3 <| nx @fa_64_4 <| nx @fa_64_5 <| nx @ld_box <| nx @pcKind <| nx @pcKey <| nx @pcPool <| nx @pcA <| nx @pcB <| nx @pcC <| nx @e1 <| nx @e2 <| nx @e3 <| nx @e4 <| nx @e5 <| nx @e6 <| nx @kk <| nx @q4 <| nx @q3 <| nx @q2 <| @q1) ?_
            exact ⟨trivial, _, rfl, rfl⟩
        · have q2 : decide ((x.b : Int) = 0) = false := decide_eq_false (by omega)
          rw [show certB x = false by rw [hB]; exact decide_eq_false (by rintro z; simp_all)]
          refine zw (nx @tzHH <| nx @bdZH <| nx @hD_length <| nx @tsH <| nx @splHH <| nx @ptHH <| nx @ts_28 <| nx @fa_64_0 <| nx @fa_64_1 <| nx @fa_64_2 <| nx @fa_64_3 <| nx @fa_64_4 <| nx @fa_64_5 <| nx @ld_box <| nx @pcKind <| nx @pcKey <| nx @pcPool <| nx @pcA <| nx @pcB <| nx @pcC <| nx @e1 <| nx @e2 <| nx @e3 <| nx @e4 <| nx @e5 <| nx @e6 <| nx @kk <| nx @q4 <| nx @q3 <| @q2) ?_
          exact ⟨trivial, _, rfl, rfl⟩
      · have q3 : decide ((x.a : Int) = 0) = false := decide_eq_false (by omega)
        rw [show certB x = false by rw [hB]; exact decide_eq_false (by rintro z; simp_all)]
        refine zw (nx @tzHH <| nx @bdZH <| nx @hD_length <| nx @tsH <| nx @splHH <| nx @ptHH <| nx @ts_28 <| nx @fa_64_0 <| nx @fa_64_1 <| nx @fa_64_2 <| nx @fa_64_3 <| nx @fa_64_4 <| nx @fa_64_5 <| nx @ld_box <| nx @pcKind <| nx @pcKey <| nx @pcPool <| nx @pcA <| nx @pcB <| nx @pcC <| nx @e1 <| nx @e2 <| nx @e3 <| nx @e4 <| nx @e5 <| nx @e6 <| nx @kk <| nx @q4 <| @q3) ?_
        exact ⟨trivial, _, rfl, rfl⟩
    · have q4 := kp
      rw [decide_eq_false g4] at q4
      rw [show certB x = false by rw [hB]; exact decide_eq_false (by rintro z; simp_all)]
      refine zw (nx @tzHH <| nx @bdZH <| nx @hD_length <| nx @tsH <| nx @splHH <| nx @ptHH <| nx @ts_28 <| nx @fa_64_0 <| nx @fa_64_1 <| nx @fa_64_2 <| nx @fa_64_3 <| nx @fa_64_4 <| nx @fa_64_5 <| nx @ld_box <| nx @pcKind <| nx @pcKey <| nx @pcPool <| nx @pcA <| nx @pcB <| nx @pcC <| nx @e1 <| nx @e2 <| nx @e3 <| nx @e4 <| nx @e5 <| nx @e6 <| nx @kk <| @q4) ?_
      exact ⟨trivial, _, rfl, rfl⟩
  by_cases h2 : x.kind = 2
  · skip
    have e1 : decide ((x.kind : Int) = 1) = false := decide_eq_false (by omega)
    have e2 : decide ((x.kind : Int) = 2) = true := decide_eq_true (by omega)
    have e3 : decide ((x.kind : Int) = 3) = false := decide_eq_false (by omega)
    have e4 : decide ((x.kind : Int) = 4) = false := decide_eq_false (by omega)
    have e5 : decide ((x.kind : Int) = 5) = false := decide_eq_false (by omega)
    have e6 : decide ((x.kind : Int) = 6) = false := decide_eq_false (by omega)
    have hB : certB x = decide (x.pool = zH ∧ x.a = 0 ∧ x.b = 0 ∧ x.c = 0) := by unfold certB; rw [if_neg (by omega), if_pos h2]
    by_cases g4 : x.pool = zH
    · have q4 := kp
      rw [decide_eq_true g4] at q4
      by_cases g3 : x.a = 0
      · have q3 : decide ((x.a : Int) = 0) = true := decide_eq_true (by omega)
        by_cases g2 : x.b = 0
        · have q2 : decide ((x.b : Int) = 0) = true := decide_eq_true (by omega)
          by_cases g1 : x.c = 0
          · have q1 : decide ((x.c : Int) = 0) = true := decide_eq_true (by omega)
            rw [show certB x = true by rw [hB]; exact decide_eq_true ⟨g4, g3, g2, g1⟩]
            refine zw (nx @tzHH <| nx @bdZH <| nx @hD_length <| nx @tsH <| nx @splHH <| nx @ptHH <| nx @ts_28 <| nx @fa_64_0 <| nx @fa_64_1 <| nx @fa_64_2 <| nx @fa_64_3 <| nx @fa_64_4 <| nx @fa_64_5 <| nx @ld_box <| nx @pcKind <| nx @pcKey <| nx @pcPool <| nx @pcA <| nx @pcB <| nx @pcC <| nx @e1 <| nx @e2 <| nx @e3 <| nx @e4 <| nx @e5 <| nx @e6 <| nx @kk <| nx @q4 <| nx @q3 <| nx @q2 <| @q1) ?_
            exact ⟨trivial, _, rfl, rfl⟩
          · have q1 : decide ((x.c : Int) = 0) = false := decide_eq_false (by omega)
            rw [show certB x = false by rw [hB]; exact decide_eq_false (by rintro z; simp_all)]
            refine zw (nx @tzHH <| nx @bdZH <| nx @hD_length <| nx @tsH <| nx @splHH <| nx @ptHH <| nx @ts_28 <| nx @fa_64_0 <| nx @fa_64_1 <| nx @fa_64_2 <| nx @fa_64_3 <| nx @fa_64_4 <| nx @fa_64_5 <| nx @ld_box <| nx @pcKind <| nx @pcKey <| nx @pcPool <| nx @pcA <| nx @pcB <| nx @pcC <| nx @e1 <| nx @e2 <| nx @e3 <| nx @e4 <| nx @e5 <| nx @e6 <| nx @kk <| nx @q4 <| nx @q3 <| nx @q2 <| @q1) ?_
            exact ⟨trivial, _, rfl, rfl⟩
        · have q2 : decide ((x.b : Int) = 0) = false := decide_eq_false (by omega)
          rw [show certB x = false by rw [hB]; exact decide_eq_false (by rintro z; simp_all)]
          refine zw (nx @tzHH <| nx @bdZH <| nx @hD_length <| nx @tsH <| nx @splHH <| nx @ptHH <| nx @ts_28 <| nx @fa_64_0 <| nx @fa_64_1 <| nx @fa_64_2 <| nx @fa_64_3 <| nx @fa_64_4 <| nx @fa_64_5 <| nx @ld_box <| nx @pcKind <| nx @pcKey <| nx @pcPool <| nx @pcA <| nx @pcB <| nx @pcC <| nx @e1 <| nx @e2 <| nx @e3 <| nx @e4 <| nx @e5 <| nx @e6 <| nx @kk <| nx @q4 <| nx @q3 <| @q2) ?_
          exact ⟨trivial, _, rfl, rfl⟩
      · have q3 : decide ((x.a : Int) = 0) = false := decide_eq_false (by omega)
        rw [show certB x = false by rw [hB]; exact decide_eq_false (by rintro z; simp_all)]
        refine zw (nx @tzHH <| nx @bdZH <| nx @hD_length <| nx @tsH <| nx @splHH <| nx @ptHH <| nx @ts_28 <| nx @fa_64_0 <| nx @fa_64_1 <| nx @fa_64_2 <| nx @fa_64_3 <| nx @fa_64_4 <| nx @fa_64_5 <| nx @ld_box <| nx @pcKind <| nx @pcKey <| nx @pcPool <| nx @pcA <| nx @pcB <| nx @pcC <| nx @e1 <| nx @e2 <| nx @e3 <| nx @e4 <| nx @e5 <| nx @e6 <| nx @kk <| nx @q4 <| @q3) ?_
        exact ⟨trivial, _, rfl, rfl⟩
    · have q4 := kp
      rw [decide_eq_false g4] at q4
      rw [show certB x = false by rw [hB]; exact decide_eq_false (by rintro z; simp_all)]
      refine zw (nx @tzHH <| nx @bdZH <| nx @hD_length <| nx @tsH <| nx @splHH <| nx @ptHH <| nx @ts_28 <| nx @fa_64_0 <| nx @fa_64_1 <| nx @fa_64_2 <| nx @fa_64_3 <| nx @fa_64_4 <| nx @fa_64_5 <| nx @ld_box <| nx @pcKind <| nx @pcKey <| nx @pcPool <| nx @pcA <| nx @pcB <| nx @pcC <| nx @e1 <| nx @e2 <| nx @e3 <| nx @e4 <| nx @e5 <| nx @e6 <| nx @kk <| @q4) ?_
      exact ⟨trivial, _, rfl, rfl⟩
  by_cases h3 : x.kind = 3
  · skip
    have e1 : decide ((x.kind : Int) = 1) = false := decide_eq_false (by omega)
    have e2 : decide ((x.kind : Int) = 2) = false := decide_eq_false (by omega)
    have e3 : decide ((x.kind : Int) = 3) = true := decide_eq_true (by omega)
    have e4 : decide ((x.kind : Int) = 4) = false := decide_eq_false (by omega)
    have e5 : decide ((x.kind : Int) = 5) = false := decide_eq_false (by omega)
    have e6 : decide ((x.kind : Int) = 6) = false := decide_eq_false (by omega)
    have hB : certB x = decide (x.a = 0 ∧ x.b = 0 ∧ x.c = 0) := by unfold certB; rw [if_neg (by omega), if_neg (by omega), if_pos h3]
    by_cases g3 : x.a = 0
    · have q3 : decide ((x.a : Int) = 0) = true := decide_eq_true (by omega)
      by_cases g2 : x.b = 0
      · have q2 : decide ((x.b : Int) = 0) = true := decide_eq_true (by omega)
        by_cases g1 : x.c = 0
        · have q1 : decide ((x.c : Int) = 0) = true := decide_eq_true (by omega)
          rw [show certB x = true by rw [hB]; exact decide_eq_true ⟨g3, g2, g1⟩]
          refine zw (nx @tzHH <| nx @bdZH <| nx @hD_length <| nx @tsH <| nx @splHH <| nx @ptHH <| nx @ts_28 <| nx @fa_64_0 <| nx @fa_64_1 <| nx @fa_64_2 <| nx @fa_64_3 <| nx @fa_64_4 <| nx @fa_64_5 <| nx @ld_box <| nx @pcKind <| nx @pcKey <| nx @pcPool <| nx @pcA <| nx @pcB <| nx @pcC <| nx @e1 <| nx @e2 <| nx @e3 <| nx @e4 <| nx @e5 <| nx @e6 <| nx @kk <| nx @kp <| nx @q3 <| nx @q2 <| @q1) ?_
          exact ⟨trivial, _, rfl, rfl⟩
        · have q1 : decide ((x.c : Int) = 0) = false := decide_eq_false (by omega)
          rw [show certB x = false by rw [hB]; exact decide_eq_false (by rintro z; simp_all)]
          refine zw (nx @tzHH <| nx @bdZH <| nx @hD_length <| nx @tsH <| nx @splHH <| nx @ptHH <| nx @ts_28 <| nx @fa_64_0 <| nx @fa_64_1 <| nx @fa_64_2 <| nx @fa_64_3 <| nx @fa_64_4 <| nx @fa_64_5 <| nx @ld_box <| nx @pcKind <| nx @pcKey <| nx @pcPool <| nx @pcA <| nx @pcB <| nx @pcC <| nx @e1 <| nx @e2 <| nx @e3 <| nx @e4 <| nx @e5 <| nx @e6 <| nx @kk <| nx @kp <| nx @q3 <| nx @q2 <| @q1) ?_
          exact ⟨trivial, _, rfl, rfl⟩
      · have q2 : decide ((x.b : Int) = 0) = false := decide_eq_false (by omega)
        rw [show certB x = false by rw [hB]; exact decide_eq_false (by rintro z; simp_all)]
        refine zw (nx @tzHH <| nx @bdZH <| nx @hD_length <| nx @tsH <| nx @splHH <| nx @ptHH <| nx @ts_28 <| nx @fa_64_0 <| nx @fa_64_1 <| nx @fa_64_2 <| nx @fa_64_3 <| nx @fa_64_4 <| nx @fa_64_5 <| nx @ld_box <| nx @pcKind <| nx @pcKey <| nx @pcPool <| nx @pcA <| nx @pcB <| nx @pcC <| nx @e1 <| nx @e2 <| nx @e3 <| nx @e4 <| nx @e5 <| nx @e6 <| nx @kk <| nx @kp <| nx @q3 <| @q2) ?_
        exact ⟨trivial, _, rfl, rfl⟩
    · have q3 : decide ((x.a : Int) = 0) = false := decide_eq_false (by omega)
      rw [show certB x = false by rw [hB]; exact decide_eq_false (by rintro z; simp_all)]
      refine zw (nx @tzHH <| nx @bdZH <| nx @hD_length <| nx @tsH <| nx @splHH <| nx @ptHH <| nx @ts_28 <| nx @fa_64_0 <| nx @fa_64_1 <| nx @fa_64_2 <| nx @fa_64_3 <| nx @fa_64_4 <| nx @fa_64_5 <| nx @ld_box <| nx @pcKind <| nx @pcKey <| nx @pcPool <| nx @pcA <| nx @pcB <| nx @pcC <| nx @e1 <| nx @e2 <| nx @e3 <| nx @e4 <| nx @e5 <| nx @e6 <| nx @kk <| nx @kp <| @q3) ?_
      exact ⟨trivial, _, rfl, rfl⟩
  by_cases h4 : x.kind = 4
  · skip
    have e1 : decide ((x.kind : Int) = 1) = false := decide_eq_false (by omega)
    have e2 : decide ((x.kind : Int) = 2) = false := decide_eq_false (by omega)
    have e3 : decide ((x.kind : Int) = 3) = false := decide_eq_false (by omega)
    have e4 : decide ((x.kind : Int) = 4) = true := decide_eq_true (by omega)
    have e5 : decide ((x.kind : Int) = 5) = false := decide_eq_false (by omega)
    have e6 : decide ((x.kind : Int) = 6) = false := decide_eq_false (by omega)
    have hB : certB x = decide (x.a < 9223372036854775808 ∧ x.b < 9223372036854775808 ∧ x.c ≤ 1000) := by unfold certB; rw [if_neg (by omega), if_neg (by omega), if_neg (by omega), if_pos h4]
    by_cases g3 : x.a < 9223372036854775808
    · have q3 : decide ((x.a : Int) ≤ 9223372036854775807) = true := decide_eq_true (by omega)
      by_cases g2 : x.b < 9223372036854775808
      · have q2 : decide ((x.b : Int) ≤ 9223372036854775807) = true := decide_eq_true (by omega)
        by_cases g1 : x.c ≤ 1000
        · have q1 : decide ((x.c : Int) ≤ 1000) = true := decide_eq_true (by omega)
          rw [show certB x = true by rw [hB]; exact decide_eq_true ⟨g3, g2, g1⟩]
          refine zw (nx @tzHH <| nx @bdZH <| nx @hD_length <| nx @tsH <| nx @splHH <| nx @ptHH <| nx @ts_28 <| nx @fa_64_0 <| nx @fa_64_1 <| nx @fa_64_2 <| nx @fa_64_3 <| nx @fa_64_4 <| nx @fa_64_5 <| nx @ld_box <| nx @pcKind <| nx @pcKey <| nx @pcPool <| nx @pcA <| nx @pcB <| nx @pcC <| nx @e1 <| nx @e2 <| nx @e3 <| nx @e4 <| nx @e5 <| nx @e6 <| nx @kk <| nx @kp <| nx @q3 <| nx @q2 <| @q1) ?_
          exact ⟨trivial, _, rfl, rfl⟩
        · have q1 : decide ((x.c : Int) ≤ 1000) = false := decide_eq_false (by omega)
          rw [show certB x = false by rw [hB]; exact decide_eq_false (by rintro z; simp_all)]
          refine zw (nx @tzHH <| nx @bdZH <| nx @hD_length <| nx @tsH <| nx @splHH <| nx @ptHH <| nx @ts_28 <| nx @fa_64_0 <| nx @fa_64_1 <| nx @fa_64_2 <| nx @fa_64_3 <| nx @fa_64_4 <| nx @fa_64_5 <| nx @ld_box <| nx @pcKind <| nx @pcKey <| nx @pcPool <| nx @pcA <| nx @pcB <| nx @pcC <| nx @e1 <| nx @e2 <| nx @e3 <| nx @e4 <| nx @e5 <| nx @e6 <| nx @kk <| nx @kp <| nx @q3 <| nx @q2 <| @q1) ?_
          exact ⟨trivial, _, rfl, rfl⟩
      · have q2 : decide ((x.b : Int) ≤ 9223372036854775807) = false := decide_eq_false (by omega)
        rw [show certB x = false by rw [hB]; exact decide_eq_false (by rintro z; simp_all)]
        refine zw (nx @tzHH <| nx @bdZH <| nx @hD_length <| nx @tsH <| nx @splHH <| nx @ptHH <| nx @ts_28 <| nx @fa_64_0 <| nx @fa_64_1 <| nx @fa_64_2 <| nx @fa_64_3 <| nx @fa_64_4 <| nx @fa_64_5 <| nx @ld_box <| nx @pcKind <| nx @pcKey <| nx @pcPool <| nx @pcA <| nx @pcB <| nx @pcC <| nx @e1 <| nx @e2 <| nx @e3 <| nx @e4 <| nx @e5 <| nx @e6 <| nx @kk <| nx @kp <| nx @q3 <| @q2) ?_
        exact ⟨trivial, _, rfl, rfl⟩
    · have q3 : decide ((x.a : Int) ≤ 9223372036854775807) = false := decide_eq_false (by omega)
      rw [show certB x = false by rw [hB]; exact decide_eq_false (by rintro z; simp_all)]
      refine zw (nx @tzHH <| nx @bdZH <| nx @hD_length <| nx @tsH <| nx @splHH <| nx @ptHH <| nx @ts_28 <| nx @fa_64_0 <| nx @fa_64_1 <| nx @fa_64_2 <| nx @fa_64_3 <| nx @fa_64_4 <| nx @fa_64_5 <| nx @ld_box <| nx @pcKind <| nx @pcKey <| nx @pcPool <| nx @pcA <| nx @pcB <| nx @pcC <| nx @e1 <| nx @e2 <| nx @e3 <| nx @e4 <| nx @e5 <| nx @e6 <| nx @kk <| nx @kp <| @q3) ?_
      exact ⟨trivial, _, rfl, rfl⟩
  by_cases h5 : x.kind = 5
  · skip
    have e1 : decide ((x.kind : Int) = 1) = false := decide_eq_false (by omega)
    have e2 : decide ((x.kind : Int) = 2) = false := decide_eq_false (by omega)
    have e3 : decide ((x.kind : Int) = 3) = false := decide_eq_false (by omega)
    have e4 : decide ((x.kind : Int) = 4) = false := decide_eq_false (by omega)
    have e5 : decide ((x.kind : Int) = 5) = true := decide_eq_true (by omega)
    have e6 : decide ((x.kind : Int) = 6) = false := decide_eq_false (by omega)
    have hB : certB x = decide (x.key = zH ∧ x.b = 0 ∧ x.c = 0) := by unfold certB; rw [if_neg (by omega), if_neg (by omega), if_neg (by omega), if_neg (by omega), if_pos h5]
    by_cases g3 : x.key = zH
    · have q3 := kk
      rw [decide_eq_true g3] at q3
      by_cases g2 : x.b = 0
      · have q2 : decide ((x.b : Int) = 0) = true := decide_eq_true (by omega)
        by_cases g1 : x.c = 0
        · have q1 : decide ((x.c : Int) = 0) = true := decide_eq_true (by omega)
          rw [show certB x = true by rw [hB]; exact decide_eq_true ⟨g3, g2, g1⟩]
          refine zw (nx @tzHH <| nx @bdZH <| nx @hD_length <| nx @tsH <| nx @splHH <| nx @ptHH <| nx @ts_28 <| nx @fa_64_0 <| nx @fa_64_1 <| nx @fa_64_2 <| nx @fa_64_3 <| nx @fa_64_4 <| nx @fa_64_5 <| nx @ld_box <| nx @pcKind <| nx @pcKey <| nx @pcPool <| nx @pcA <| nx @pcB <| nx @pcC <| nx @e1 <| nx @e2 <| nx @e3 <| nx @e4 <| nx @e5 <| nx @e6 <| nx @kp <| nx @q3 <| nx @q2 <| @q1) ?_
          exact ⟨trivial, _, rfl, rfl⟩
        · have q1 : decide ((x.c : Int) = 0) = false := decide_eq_false (by omega)
          rw [show certB x = false by rw [hB]; exact decide_eq_false (by rintro z; simp_all)]
          refine zw (nx @tzHH <| nx @bdZH <| nx @hD_length <| nx @tsH <| nx @splHH <| nx @ptHH <| nx @ts_28 <| nx @fa_64_0 <| nx @fa_64_1 <| nx @fa_64_2 <| nx @fa_64_3 <| nx @fa_64_4 <| nx @fa_64_5 <| nx @ld_box <| nx @pcKind <| nx @pcKey <| nx @pcPool <| nx @pcA <| nx @pcB <| nx @pcC <| nx @e1 <| nx @e2 <| nx @e3 <| nx @e4 <| nx @e5 <| nx @e6 <| nx @kp <| nx @q3 <| nx @q2 <| @q1) ?_
          exact ⟨trivial, _, rfl, rfl⟩
      · have q2 : decide ((x.b : Int) = 0) = false := decide_eq_false (by omega)
        rw [show certB x = false by rw [hB]; exact decide_eq_false (by rintro z; simp_all)]
        refine zw (nx @tzHH <| nx @bdZH <| nx @hD_length <| nx @tsH <| nx @splHH <| nx @ptHH <| nx @ts_28 <| nx @fa_64_0 <| nx @fa_64_1 <| nx @fa_64_2 <| nx @fa_64_3 <| nx @fa_64_4 <| nx @fa_64_5 <| nx @ld_box <| nx @pcKind <| nx @pcKey <| nx @pcPool <| nx @pcA <| nx @pcB <| nx @pcC <| nx @e1 <| nx @e2 <| nx @e3 <| nx @e4 <| nx @e5 <| nx @e6 <| nx @kp <| nx @q3 <| @q2) ?_
        exact ⟨trivial, _, rfl, rfl⟩
    · have q3 := kk
      rw [decide_eq_false g3] at q3
      rw [show certB x = false by rw [hB]; exact decide_eq_false (by rintro z; simp_all)]
      refine zw (nx @tzHH <| nx @bdZH <| nx @hD_length <| nx @tsH <| nx @splHH <| nx @ptHH <| nx @ts_28 <| nx @fa_64_0 <| nx @fa_64_1 <| nx @fa_64_2 <| nx @fa_64_3 <| nx @fa_64_4 <| nx @fa_64_5 <| nx @ld_box <| nx @pcKind <| nx @pcKey <| nx @pcPool <| nx @pcA <| nx @pcB <| nx @pcC <| nx @e1 <| nx @e2 <| nx @e3 <| nx @e4 <| nx @e5 <| nx @e6 <| nx @kp <| @q3) ?_
      exact ⟨trivial, _, rfl, rfl⟩
  by_cases h6 : x.kind = 6
  · skip
    have e1 : decide ((x.kind : Int) = 1) = false := decide_eq_false (by omega)
    have e2 : decide ((x.kind : Int) = 2) = false := decide_eq_false (by omega)
    have e3 : decide ((x.kind : Int) = 3) = false := decide_eq_false (by omega)
    have e4 : decide ((x.kind : Int) = 4) = false := decide_eq_false (by omega)
    have e5 : decide ((x.kind : Int) = 5) = false := decide_eq_false (by omega)
    have e6 : decide ((x.kind : Int) = 6) = true := decide_eq_true (by omega)
    have hB : certB x = decide (x.key = zH ∧ x.c = 0) := by unfold certB; rw [if_neg (by omega), if_neg (by omega), if_neg (by omega), if_neg (by omega), if_neg (by omega), if_pos h6]
    by_cases g2 : x.key = zH
    · have q2 := kk
      rw [decide_eq_true g2] at q2
      by_cases g1 : x.c = 0
      · have q1 : decide ((x.c : Int) = 0) = true := decide_eq_true (by omega)
        rw [show certB x = true by rw [hB]; exact decide_eq_true ⟨g2, g1⟩]
        refine zw (nx @tzHH <| nx @bdZH <| nx @hD_length <| nx @tsH <| nx @splHH <| nx @ptHH <| nx @ts_28 <| nx @fa_64_0 <| nx @fa_64_1 <| nx @fa_64_2 <| nx @fa_64_3 <| nx @fa_64_4 <| nx @fa_64_5 <| nx @ld_box <| nx @pcKind <| nx @pcKey <| nx @pcPool <| nx @pcA <| nx @pcB <| nx @pcC <| nx @e1 <| nx @e2 <| nx @e3 <| nx @e4 <| nx @e5 <| nx @e6 <| nx @kp <| nx @q2 <| @q1) ?_
        exact ⟨trivial, _, rfl, rfl⟩
      · have q1 : decide ((x.c : Int) = 0) = false := decide_eq_false (by omega)
        rw [show certB x = false by rw [hB]; exact decide_eq_false (by rintro z; simp_all)]
        refine zw (nx @tzHH <| nx @bdZH <| nx @hD_length <| nx @tsH <| nx @splHH <| nx @ptHH <| nx @ts_28 <| nx @fa_64_0 <| nx @fa_64_1 <| nx @fa_64_2 <| nx @fa_64_3 <| nx @fa_64_4 <| nx @fa_64_5 <| nx @ld_box <| nx @pcKind <| nx @pcKey <| nx @pcPool <| nx @pcA <| nx @pcB <| nx @pcC <| nx @e1 <| nx @e2 <| nx @e3 <| nx @e4 <| nx @e5 <| nx @e6 <| nx @kp <| nx @q2 <| @q1) ?_
        exact ⟨trivial, _, rfl, rfl⟩
    · have q2 := kk
      rw [decide_eq_false g2] at q2
      rw [show certB x = false by rw [hB]; exact decide_eq_false (by rintro z; simp_all)]
      refine zw (nx @tzHH <| nx @bdZH <| nx @hD_length <| nx @tsH <| nx @splHH <| nx @ptHH <| nx @ts_28 <| nx @fa_64_0 <| nx @fa_64_1 <| nx @fa_64_2 <| nx @fa_64_3 <| nx @fa_64_4 <| nx @fa_64_5 <| nx @ld_box <| nx @pcKind <| nx @pcKey <| nx @pcPool <| nx @pcA <| nx @pcB <| nx @pcC <| nx @e1 <| nx @e2 <| nx @e3 <| nx @e4 <| nx @e5 <| nx @e6 <| nx @kp <| @q2) ?_
      exact ⟨trivial, _, rfl, rfl⟩
  have e1 : decide ((x.kind : Int) = 1) = false := decide_eq_false (by omega)
  have e2 : decide ((x.kind : Int) = 2) = false := decide_eq_false (by omega)
  have e3 : decide ((x.kind : Int) = 3) = false := decide_eq_false (by omega)
  have e4 : decide ((x.kind : Int) = 4) = false := decide_eq_false (by omega)
  have e5 : decide ((x.kind : Int) = 5) = false := decide_eq_false (by omega)
  have e6 : decide ((x.kind : Int) = 6) = false := decide_eq_false (by omega)
  rw [show certB x = false by unfold certB; simp [h1, h2, h3, h4, h5, h6]]
  refine zw (nx @tzHH <| nx @bdZH <| nx @hD_length <| nx @tsH <| nx @splHH <| nx @ptHH <| nx @ts_28 <| nx @fa_64_0 <| nx @fa_64_1 <| nx @fa_64_2 <| nx @fa_64_3 <| nx @fa_64_4 <| nx @fa_64_5 <| nx @ld_box <| nx @pcKind <| nx @pcKey <| nx @pcPool <| nx @pcA <| nx @pcB <| nx @pcC <| nx @e1 <| nx @e2 <| nx @e3 <| nx @e4 <| nx @e5 <| nx @e6 <| nx @kk <| @kp) ?_
  exact ⟨trivial, _, rfl, rfl⟩
end Go.Ab.Rz

/-
  Plain laws of rolls: what a certificate does.
-/
namespace Go.Ab.Rz
open Go Go.Proofs Go.Ab Go.Ab.G Go.Ab.Cn
set_option maxRecDepth 100000
abbrev DoAns := List AccM × List PoolM × List VoteM × Nat × Nat × Int
def noDo (e : Int) : DoAns := ([], [], [], 0, 0, e)
def DoAns.e (x : DoAns) : Int := x.2.2.2.2.2
def newAcc (k : H32) (n : Nat) (h : n < 18446744073709551616) : AccM := ⟨k, zH, n, 0, h, by decide⟩
def seatOf (x : CertM) : SeatM := ⟨x.pool, x.key, x.a, x.b, x.c, x.ha, x.hb, x.hc⟩
def newPool (x : CertM) (n : Nat) (h : n < 18446744073709551616) : PoolM := ⟨seatOf x, zSeat, false, false, n, 0, h, by decide⟩
def PoolM.later' (y : PoolM) (x : CertM) : PoolM := { y with later := seatOf x, turns := true, closes := false, cl := 0, hcl := by decide }
def PoolM.closed' (y : PoolM) (x : CertM) : PoolM := { y with closes := true, cl := x.a, hcl := x.ha }
def voteOf (x : CertM) : VoteM := ⟨x.pool, x.a, x.b, x.ha, x.hb⟩
section
variable (x : CertM) (A : List AccM) (P : List PoolM) (V : List VoteM)
def openL (n : Nat) (hn : n < 18446744073709551616) : DoAns :=
  match findL kA x.key.b A with
  | some _ => noDo 8
  | none => if A.length = 64 then noDo 7 else if depS A P + rewS A + n < 9223372036854775808 then (putL kA (newAcc x.key n hn) A, P, V, n, 0, 0) else noDo 9
def shutL : DoAns :=
  match findL kA x.key.b A with
  | none => noDo 4
  | some v => if 0 < v.rew then noDo 8 else (dropL kA x.key.b A, P, V, 0, v.dep, 0)
def trustL : DoAns :=
  match findL kA x.key.b A with
  | none => noDo 4
  | some v => match findL kP x.pool.b P with
    | none => noDo 180
    | some _ => (putL kA { v with pool := x.pool } A, P, V, 0, 0, 0)
def foundL (n : Nat) (hn : n < 18446744073709551616) : DoAns :=
  match findL kP x.pool.b P with
  | some y => (A, putL kP (y.later' x) P, V, 0, 0, 0)
  | none => if P.length = 32 then noDo 7 else if depS A P + rewS A + n < 9223372036854775808 then (A, putL kP (newPool x n hn) P, V, n, 0, 0) else noDo 9
def closeL (ep : Nat) : DoAns :=
  match findL kP x.pool.b P with
  | none => noDo 180
  | some y => if x.a ≤ ep ∨ 16 < x.a - ep then noDo 5 else (A, putL kP (y.closed' x) P, V, 0, 0, 0)
def voteL : DoAns :=
  match findL kP x.pool.b P with
  | none => noDo 180
  | some _ => if parE x.a x.b = 0 then (A, P, putL atK (voteOf x) V, 0, 0, 0) else noDo (parE x.a x.b)
def doL (ep p2 p3 : Nat) (h2 : p2 < 18446744073709551616) (h3 : p3 < 18446744073709551616) : DoAns :=
  if certB x = true ∧ parE 2 p2 = 0 ∧ parE 3 p3 = 0 then
    if x.kind = 1 then openL x A P V p2 h2
    else if x.kind = 2 then shutL x A P V
    else if x.kind = 3 then trustL x A P V
    else if x.kind = 4 then foundL x A P V p3 h3
    else if x.kind = 5 then closeL x A P V ep
    else voteL x A P V
  else noDo 2
end
section
variable {A : List AccM} {P : List PoolM} {V : List VoteM} {R : RT}
theorem findP_self {k : List UInt8} {y : PoolM} (h : findL kP k P = some y) : findL kP (kP y) P = some y := by
  have := (find_some h).2
  rw [this]; exact h
theorem hasP_put {y : PoolM} {k : H32} (h : hasP P k) : hasP (putL kP y P) k := by
  obtain ⟨p, hp, rfl⟩ := h
  by_cases e : kP p = kP y
  · exact ⟨y, mem_putL.2 (.inl rfl), h32_ext e.symm⟩
  · exact ⟨p, mem_putL.2 (.inr ⟨hp, e⟩), rfl⟩
theorem may_poolP (hm : MayR A P V) {y : PoolM} (hb : poolB y = true) (hl : (putL kP y P).length ≤ 32) (hs : depS A (putL kP y P) + rewS A < 9223372036854775808) : MayR A (putL kP y P) V :=
  ⟨hs, hm.la, hl, hm.ua, hm.up.put y, hm.uv, fun z hz => by
    rcases mem_putL.1 hz with rfl | ⟨hz, _⟩
    · exact hb
    · exact hm.pool z hz, fun z hz => (hm.acc z hz).imp_left hasP_put, fun z hz => ⟨hasP_put (hm.vote z hz).1, (hm.vote z hz).2⟩⟩
theorem dep_oldP (hm : MayR A P V) {k : List UInt8} {y z : PoolM} (hf : findL kP k P = some y) (hk : kP z = kP y) (hd : z.dep = y.dep) : (putL kP z P).length = P.length ∧ depS A (putL kP z P) = depS A P := by
  have hf' : findL kP (kP z) P = some y := by rw [hk]; exact findP_self hf
  obtain ⟨h1, h2⟩ := put_old hm.up hf'
  refine ⟨h1, ?_⟩
  have := h2 (·.dep)
  unfold depS; omega
theorem dep_newP (hm : MayR A P V) {z : PoolM} (hf : findL kP (kP z) P = none) : (putL kP z P).length = P.length + 1 ∧ depS A (putL kP z P) = depS A P + z.dep := by
  obtain ⟨h1, h2⟩ := put_new hm.up hf
  refine ⟨h1, ?_⟩
  have := h2 (·.dep)
  unfold depS; omega
/-- What a certificate leaves may be a roll. -/
theorem cert_seat {x : CertM} (hc : certB x = true) (h4 : x.kind = 4) : seatB (seatOf x) = true := by
  unfold certB at hc
  rw [if_neg (by omega), if_neg (by omega), if_neg (by omega), if_pos h4, decide_eq_true_eq] at hc
  unfold seatB seatOf
  exact decide_eq_true hc
theorem seat_zero : seatB zSeat = true := by decide
theorem poolB_parts {y : PoolM} (h : poolB y = true) : seatB y.now = true ∧ seatB y.later = true ∧ (y.turns = true → y.later.pool = y.now.pool) ∧ (y.turns = false → y.later = zSeat) ∧ (y.closes = false → y.cl = 0) := by
  unfold poolB at h
  simp only [Bool.and_eq_true, Bool.not_eq_true', Bool.or_eq_false_iff, Bool.and_eq_false_iff, Bool.not_eq_false', decide_eq_true_eq] at h
  obtain ⟨⟨⟨⟨h1, h2⟩, h3⟩, h4⟩, h5⟩ := h
  refine ⟨h4, h5, fun h => ?_, fun h => ?_, fun h => ?_⟩
  · rcases h1 with h1 | h1
    · rw [h] at h1; cases h1
    · exact h1
  · rcases h2 with h2 | h2
    · rw [h] at h2; cases h2
    · exact h2
  · rcases h3 with h3 | h3
    · rw [h] at h3; cases h3
    · exact h3
theorem poolB_mk {y : PoolM} (h1 : seatB y.now = true) (h2 : seatB y.later = true) (h3 : y.turns = true → y.later.pool = y.now.pool) (h4 : y.turns = false → y.later = zSeat) (h5 : y.closes = false → y.cl = 0) : poolB y = true := by
  unfold poolB
  simp only [Bool.and_eq_true, Bool.not_eq_true', Bool.or_eq_false_iff, Bool.and_eq_false_iff, Bool.not_eq_false', decide_eq_true_eq]
  refine ⟨⟨⟨⟨?_, ?_⟩, ?_⟩, h1⟩, h2⟩
  · cases ht : y.turns with
    | true => exact .inr (h3 ht)
    | false => exact .inl rfl
  · cases ht : y.turns with
    | true => exact .inl rfl
    | false => exact .inr (h4 ht)
  · cases ht : y.closes with
    | true => exact .inl rfl
    | false => exact .inr (h5 ht)
theorem do_may (hm : MayR A P V) (x : CertM) (ep p2 p3 : Nat) (h2 : p2 < 18446744073709551616) (h3 : p3 < 18446744073709551616) : MayR (doL x A P V ep p2 p3 h2 h3).1 (doL x A P V ep p2 p3 h2 h3).2.1 (doL x A P V ep p2 p3 h2 h3).2.2.1 := by
  unfold doL
  by_cases hc : certB x = true ∧ parE 2 p2 = 0 ∧ parE 3 p3 = 0
  case neg => rw [if_neg hc]; exact may_nil
  rw [if_pos hc]
  have hs := hm.sum
  have hla := hm.la
  have hlp := hm.lp
  by_cases k1 : x.kind = 1
  · rw [if_pos k1]
    unfold openL
    cases hf : findL kA x.key.b A with
    | some v => exact may_nil
    | none =>
      simp only
      by_cases h64 : A.length = 64
      · rw [if_pos h64]; exact may_nil
      rw [if_neg h64]
      by_cases ho : depS A P + rewS A + p2 < 9223372036854775808
      · rw [if_pos ho]
        exact may_put_new hm hf (by omega) (.inr rfl) (by show depS A P + rewS A + p2 + 0 < _; omega)
      · rw [if_neg ho]; exact may_nil
  rw [if_neg k1]
  by_cases k2 : x.kind = 2
  · rw [if_pos k2]
    unfold shutL
    cases hf : findL kA x.key.b A with
    | none => exact may_nil
    | some v =>
      simp only
      by_cases hr : 0 < v.rew
      · rw [if_pos hr]; exact may_nil
      · rw [if_neg hr]; exact may_drop hm hf
  rw [if_neg k2]
  by_cases k3 : x.kind = 3
  · rw [if_pos k3]
    unfold trustL
    cases hf : findL kA x.key.b A with
    | none => exact may_nil
    | some v =>
      simp only
      cases hg : findL kP x.pool.b P with
      | none => exact may_nil
      | some y =>
        refine may_put_old hm hf rfl (.inl (hasP_find.1 (by rw [hg]; rfl))) ?_
        show depS A P + rewS A + v.dep + v.rew < _
        omega
  rw [if_neg k3]
  by_cases k4 : x.kind = 4
  · rw [if_pos k4]
    have hseat := cert_seat hc.1 k4
    unfold foundL
    cases hg : findL kP x.pool.b P with
    | some y =>
      obtain ⟨q1, q2, q3, q4, q5⟩ := poolB_parts (hm.pool y (find_some hg).1)
      obtain ⟨e1, e2⟩ := dep_oldP hm (z := y.later' x) hg rfl rfl
      refine may_poolP hm (poolB_mk q1 hseat (fun _ => ?_) (fun h => by cases h) (fun _ => rfl)) (by rw [e1]; exact hlp) (by rw [e2]; exact hs)
      exact (h32_ext (find_some hg).2).symm
    | none =>
      simp only
      by_cases h32 : P.length = 32
      · rw [if_pos h32]; exact may_nil
      rw [if_neg h32]
      by_cases ho : depS A P + rewS A + p3 < 9223372036854775808
      · rw [if_pos ho]
        obtain ⟨e1, e2⟩ := dep_newP hm (z := newPool x p3 h3) hg
        have e3 : (newPool x p3 h3).dep = p3 := rfl
        exact may_poolP hm (poolB_mk hseat seat_zero (fun h => by cases h) (fun _ => rfl) (fun _ => rfl)) (by rw [e1]; omega) (by rw [e2, e3]; omega)
      · rw [if_neg ho]; exact may_nil
  rw [if_neg k4]
  by_cases k5 : x.kind = 5
  · rw [if_pos k5]
    unfold closeL
    cases hg : findL kP x.pool.b P with
    | none => exact may_nil
    | some y =>
      simp only
      by_cases hr : x.a ≤ ep ∨ 16 < x.a - ep
      · rw [if_pos hr]; exact may_nil
      · rw [if_neg hr]
        obtain ⟨q1, q2, q3, q4, q5⟩ := poolB_parts (hm.pool y (find_some hg).1)
        obtain ⟨e1, e2⟩ := dep_oldP hm (z := y.closed' x) hg rfl rfl
        exact may_poolP hm (poolB_mk q1 q2 q3 q4 (fun h => by cases h)) (by rw [e1]; exact hlp) (by rw [e2]; exact hs)
  rw [if_neg k5]
  unfold voteL
  cases hg : findL kP x.pool.b P with
  | none => exact may_nil
  | some y =>
    simp only
    by_cases hp : parE x.a x.b = 0
    · rw [if_pos hp]
      refine ⟨hs, hla, hlp, hm.ua, hm.up, hm.uv.put _, hm.pool, hm.acc, fun z hz => ?_⟩
      rcases mem_putL.1 hz with rfl | ⟨hz, _⟩
      · exact ⟨hasP_find.1 (by show (findL kP x.pool.b P).isSome = true; rw [hg]; rfl), hp⟩
      · exact hm.vote z hz
    · rw [if_neg hp]; exact may_nil
end
end Go.Ab.Rz
