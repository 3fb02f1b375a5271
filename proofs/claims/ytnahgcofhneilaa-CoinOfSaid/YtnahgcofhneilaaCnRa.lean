/-
  The arguments of the coins' laws, read: coins, outputs, hashes.
-/
import Derived.Test.YtnahgcofhneilaaCnF
namespace Go.Ab.Cn
open Go Go.Proofs Go.Ab Go.Ab.G
set_option maxRecDepth 100000
theorem un_u8 : Program.underlying Try.prog 5 = some (.int .u8) := by kernel_rfl
theorem un_u64 : Program.underlying Try.prog 29 = some (.int .u64) := by kernel_rfl
theorem un_H : Program.underlying Try.prog 39 = some (.array 32 5) := by kernel_rfl
theorem u8_read (k : Nat) (p : List D) (h : Typed Try.prog k 5 p) : ∃ c : UInt8, p = u8D c := by
  obtain ⟨n, rfl, h1, h2⟩ := typed_int un_u8 h
  have h1 : 0 ≤ n := h1
  have h2 : n ≤ 255 := h2
  refine ⟨UInt8.ofNat n.toNat, ?_⟩
  simp only [u8D]
  congr 2
  rw [UInt8.toNat_ofNat']
  omega
theorem hash_read (k : Nat) (p : List D) (h : Typed Try.prog k 39 p) : ∃ x : H32, p = hD x := by
  obtain ⟨k', parts, rfl, hl, hp⟩ := typed_array un_H h
  obtain ⟨l, rfl, _⟩ := choose_map (f := u8D) (good := fun _ => True) fun p hq => by
    obtain ⟨c, hc⟩ := u8_read k' p (hp p hq).1
    exact ⟨c, hc, trivial⟩
  exact ⟨⟨l, by simpa using hl⟩, rowU8 l⟩
theorem u64_read (k : Nat) (p : List D) (h : Typed Try.prog k 29 p) : ∃ n : Nat, p = [.int .u64 n] ∧ n < 18446744073709551616 := by
  obtain ⟨n, rfl, h1, h2⟩ := typed_int un_u64 h
  have h1 : 0 ≤ n := h1
  have h2 : n ≤ 18446744073709551615 := h2
  exact ⟨n.toNat, by rw [Int.toNat_of_nonneg h1], by omega⟩
theorem in_read (k : Nat) (p : List D) (h : Typed Try.prog k 58 p) : ∃ x : InM, p = inD x := by
  obtain ⟨k', parts, rfl, h1⟩ := typed_struct Try.underlying58 h
  obtain ⟨p1, q1, rfl, t1, _, h2⟩ := typedL_cons h1
  obtain ⟨p2, q2, rfl, t2, _, h3⟩ := typedL_cons h2
  cases typedL_nil h3
  obtain ⟨a, rfl⟩ := hash_read _ _ t1
  obtain ⟨n, rfl, hn⟩ := u64_read _ _ t2
  exact ⟨⟨a, n, hn⟩, rfl⟩
theorem out_read (k : Nat) (p : List D) (h : Typed Try.prog k 49 p) : ∃ x : OutM, p = outD x := by
  obtain ⟨k', parts, rfl, h1⟩ := typed_struct Try.underlying49 h
  obtain ⟨p1, q1, rfl, t1, _, h2⟩ := typedL_cons h1
  obtain ⟨p2, q2, rfl, t2, _, h3⟩ := typedL_cons h2
  obtain ⟨p3, q3, rfl, t3, _, h4⟩ := typedL_cons h3
  cases typedL_nil h4
  obtain ⟨a, rfl⟩ := hash_read _ _ t1
  obtain ⟨b, rfl⟩ := hash_read _ _ t2
  obtain ⟨n, rfl, hn⟩ := u64_read _ _ t3
  exact ⟨⟨a, b, n, hn⟩, rfl⟩
theorem coin_read (k : Nat) (p : List D) (h : Typed Try.prog k 60 p) : ∃ x : CoinM, p = coinD x := by
  obtain ⟨k', parts, rfl, h1⟩ := typed_struct Try.underlying60 h
  obtain ⟨p1, q1, rfl, t1, _, h2⟩ := typedL_cons h1
  obtain ⟨p2, q2, rfl, t2, _, h3⟩ := typedL_cons h2
  cases typedL_nil h3
  obtain ⟨a, rfl⟩ := in_read _ _ t1
  obtain ⟨b, rfl⟩ := out_read _ _ t2
  exact ⟨⟨a, b⟩, by simp [coinD]⟩
theorem good_of {α : Type} {f : α → List D} {p : List D} (h : ∃ x, p = f x) : ∃ x, p = f x ∧ True := by
  obtain ⟨x, h⟩ := h; exact ⟨x, h, trivial⟩
theorem coins_arg {x : D} (h : ArgIs Try.prog 22 x) : ∃ l : List CoinM, x = .list l.length (rowD coinD l) .cut ∧ l.length < 1000000000000000 := by
  obtain ⟨l, rfl, hl, _⟩ := arg_list (good := fun _ => True) un_C (fun k p h => good_of (coin_read k p h)) h
  refine ⟨l, rfl, ?_⟩
  have h1 := hl.2
  rw [show Program.bytesOf Try.prog 60 = 112 by kernel_rfl] at h1
  unfold reachBytes at h1; omega
end Go.Ab.Cn
