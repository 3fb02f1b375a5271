/-
  The coins' stakes, known wherever they are asked for: the hints of StandMay.
-/
import Derived.Test.YtnahgcofhneilaaGreatRzR
import Derived.Test.YtnahgcofhneilaaGreatSdW
import Derived.Test.YtnahgcofhneilaaGreatSdPa
set_option linter.unusedSimpArgs false
set_option linter.unusedVariables false
namespace Go.Ab.Sd
open Go Go.Proofs Go.Ab Go.Ab.G Go.Ab.Cn Go.Ab.Rz
set_option maxRecDepth 100000
set_option maxHeartbeats 4000000
theorem u8_nat {a b : UInt8} (h : (a.toNat : Int) = b.toNat) : a = b := UInt8.toNat_inj.1 (by omega)
theorem map_u8_nat : ∀ {a b : List UInt8}, (a.map fun c => D.int .u8 c.toNat) = b.map (fun c => D.int .u8 c.toNat) → a = b
  | [], [], _ => rfl
  | [], _ :: _, h => by simp at h
  | _ :: _, [], h => by simp at h
  | x :: a, y :: b, h => by
    simp only [List.map_cons, List.cons.injEq, D.int.injEq, true_and] at h
    rw [u8_nat h.1, map_u8_nat h.2]
theorem hD_inj {a b : H32} (h : hD a = hD b) : a = b := h32_ext (map_u8_nat h)
theorem inD_inj {a b : InM} (h : inD a = inD b) : a = b := by
  obtain ⟨h1, h2⟩ := List.append_inj h (by rw [hD_length, hD_length])
  obtain ⟨t, i, hi⟩ := a
  obtain ⟨t', i', hi'⟩ := b
  simp only [List.cons.injEq, D.int.injEq, true_and, and_true] at h2
  have := hD_inj h1
  simp only at this
  have e : i = i' := by omega
  subst this; subst e; rfl
theorem outD_inj {a b : OutM} (h : Cn.outD a = Cn.outD b) : a = b := by
  obtain ⟨h1, h2⟩ := List.append_inj h (by rw [hD_length, hD_length])
  obtain ⟨h2, h3⟩ := List.append_inj h2 (by rw [hD_length, hD_length])
  obtain ⟨t, s, i, hi⟩ := a
  obtain ⟨t', s', i', hi'⟩ := b
  simp only [List.cons.injEq, D.int.injEq, true_and, and_true] at h3
  have e1 := hD_inj h1
  have e2 := hD_inj h2
  simp only at e1 e2
  have e : i = i' := by omega
  subst e1; subst e2; subst e; rfl
theorem coinD_inj {a b : CoinM} (h : coinD a = coinD b) : a = b := by
  obtain ⟨h1, h2⟩ := List.append_inj h (by rw [inD_length, inD_length])
  obtain ⟨x, y⟩ := a
  obtain ⟨x', y'⟩ := b
  have e1 := inD_inj h1
  have e2 := outD_inj h2
  simp only at e1 e2
  subst e1; subst e2; rfl
theorem twD_inj : ∀ {a b : Tw CoinM}, Co.twD a = Co.twD b → a = b
  | .nil, .nil, _ => rfl
  | .nil, .node .., h => by simp [Co.twD] at h
  | .node .., .nil, h => by simp [Co.twD] at h
  | .node k v rk c l r, .node k' v' rk' c' l' r', h => by
    simp only [Co.twD, D.box.injEq, true_and, List.cons.injEq, D.str.injEq] at h
    obtain ⟨h1, h2⟩ := h
    obtain ⟨h3, h4⟩ := List.append_inj h2 (by rw [coinD_length, coinD_length])
    simp only [List.cons.injEq, D.int.injEq, true_and, and_true] at h4
    obtain ⟨h5, h6, h7, h8⟩ := h4
    rw [h1, coinD_inj h3, h5, h6, twD_inj h7, twD_inj h8]
theorem cD_inj {a b : Tw CoinM} (h : cD a = cD b) : a = b := by
  simp only [cD, D.agg.injEq, List.cons.injEq] at h
  exact twD_inj h.1
open Classical in
noncomputable def stakesP : List D → Option D := fun args => if h : ∃ t : Tw CoinM, t.size < 500000 ∧ args = [cD t] then some (listD (sortP (accS (Cn.vals h.choose)))) else none
theorem stakesP_at {t : Tw CoinM} (h : t.size < 500000) : stakesP [cD t] = some (listD (sortP (accS (Cn.vals t)))) := by
  have hx : ∃ t' : Tw CoinM, t'.size < 500000 ∧ [cD t] = [cD t'] := ⟨t, h, rfl⟩
  unfold stakesP
  rw [dif_pos hx]
  have e : t = Exists.choose hx := cD_inj (List.cons.inj hx.choose_spec.2).1
  exact congrArg (fun u => some (listD (sortP (accS (Cn.vals u))))) e.symm
noncomputable def rzMPrims : FuncId → Option (List D → Option D) := fun k => if k = 36 then some yesP else if k = 98 then some stakesP else rzPrims k
/-- The hints of the law on what may stand. -/
noncomputable def rzM : Hints := ⟨rzSI, rzMPrims⟩
theorem rzMPrim : PrimOk Tryz.prog rzM where
  ok := by
    intro k f hf
    by_cases hk : k = 36
    · subst hk
      have : f = yesP := by
        have e : rzM.prim 36 = some yesP := rfl
        rw [e] at hf; cases hf; rfl
      subst this
      obtain ⟨st', h⟩ := works20
      exact .inl (prim_works (by kernel_rfl) rzW20Ok rzW20Prim ⟨_, _, Tryz.func36, rfl, by kernel_rfl⟩ h)
    · by_cases hk2 : k = 98
      · subst hk2
        have : f = stakesP := by
          have e : rzM.prim 98 = some stakesP := rfl
          rw [e] at hf; cases hf; rfl
        subst this
        refine .inl ⟨⟨_, _, Tryz.func98, rfl, by kernel_rfl⟩, fun args d hd base fl E st w vs hbk hdr hH hR => ?_⟩
        unfold stakesP at hd
        split at hd
        · rename_i h
          cases hd
          have hs := h.choose_spec
          generalize h.choose = t at hs ⊢
          obtain ⟨h1, rfl⟩ := hs
          exact r_stakes (fun r => (hbk r).trans lpKnown_info) h1 hH hR
        · cases hd
      · have e : rzM.prim k = rzH.prim k := by
          show rzMPrims k = rzPrims k
          unfold rzMPrims; rw [if_neg hk, if_neg hk2]
        rw [e] at hf
        exact .inr (rzExt k f hf)
theorem rzMUp : HUp rzH rzM := by
  intro k
  refine ⟨fun fi h => rzSInfo h, fun f h => ?_, fun fi h h' => ?_⟩
  · show rzMPrims k = some f
    unfold rzMPrims
    have hk : k ≠ 36 := by rintro rfl; cases h
    have hk2 : k ≠ 98 := by rintro rfl; cases h
    rw [if_neg hk, if_neg hk2]; exact h
  · show rzMPrims k = none
    unfold rzMPrims
    have hk : k ≠ 36 := by rintro rfl; cases h'
    have hk2 : k ≠ 98 := by rintro rfl; cases h'
    rw [if_neg hk, if_neg hk2]; exact h
theorem runM36 (fl : Fl) (st : St) : run Tryz.prog rzM fl 36 [] st = some (.bool true, st) := run_prim (f := yesP) rfl rfl
theorem runM98 (fl : Fl) {t : Tw CoinM} (h : t.size < 500000) (st : St) : run Tryz.prog rzM fl 98 [cD t] st = some (listD (sortP (accS (Cn.vals t))), st) := run_prim (f := stakesP) rfl (stakesP_at h)
end Go.Ab.Sd

/-
  A map from things to data of any kind, seen as a list in the order in which its keys came.
-/
namespace Go.Ab
open Go
/-- What the values of a map are as data; what stands where no key is. -/
class ValD (β : Type) where
  f : β → D
  z : β
namespace ML
section
variable {α : Type} [DecidableEq α] (K : KeyD α) {β : Type} [ValD β]
def entsM : Nat → List (α × β) → List Ent
  | _, [] => []
  | n, (a, m) :: l => ⟨.agg (K.f a), ValD.f m, n⟩ :: entsM (n + 1) l
variable {K}
def getM (k : α) : List (α × β) → β
  | [] => ValD.z
  | (a, n) :: l => if k = a then n else getM k l
def setM (k : α) (v : β) : List (α × β) → List (α × β)
  | [] => [(k, v)]
  | (a, n) :: l => if k = a then (a, v) :: l else (a, n) :: setM k v l
/-- At which place a key stands, or would. -/
def ixM (k : α) : List (α × β) → Nat
  | [] => 0
  | (a, _) :: l => if k = a then 0 else ixM k l + 1
def touchM (k : α) (l : List (α × β)) : List (α × β) := setM k (getM k l) l

theorem entsM_length : ∀ (n : Nat) (l : List (α × β)), (entsM K n l).length = l.length
  | _, [] => rfl
  | n, (a, m) :: l => by simp [entsM, entsM_length (n + 1) l]
theorem entsM_get : ∀ (n : Nat) (l : List (α × β)) (i : Nat), (entsM K n l)[i]? = (l[i]?).map fun p => ⟨.agg (K.f p.1), ValD.f p.2, n + i⟩
  | _, [], i => by simp [entsM]
  | n, (a, m) :: l, 0 => by simp [entsM]
  | n, (a, m) :: l, i + 1 => by
    simp only [entsM, List.getElem?_cons_succ, entsM_get (n + 1) l i]
    congr 1; funext p; simp; omega
theorem entsM_append : ∀ (n : Nat) (l l' : List (α × β)), entsM K n (l ++ l') = entsM K n l ++ entsM K (n + l.length) l'
  | n, [], l' => by simp [entsM]
  | n, (a, m) :: l, l' => by
    simp only [List.cons_append, entsM, entsM_append (n + 1) l l', List.length_cons]
    congr 3; omega
theorem findE_M (k : α) : ∀ (n : Nat) (l : List (α × β)), findE (.agg (K.f k)) (entsM K n l) = some (if ixM k l < l.length then some (ixM k l) else none)
  | _, [] => rfl
  | n, (a, m) :: l => by
    simp only [entsM, findE, D.mem, isAggD, D.cells, BEq.rfl, Bool.and_true, Bool.not_true, Bool.false_eq_true, if_false, K.eq k a]
    by_cases h : k = a
    · simp [h, ixM]
    · simp only [h, decide_false, findE_M k (n + 1) l, Option.map_some, ixM, if_false, List.length_cons]
      by_cases h1 : ixM k l < l.length
      · rw [if_pos h1, if_pos (by omega)]; rfl
      · rw [if_neg h1, if_neg (by omega)]; rfl
omit [ValD β] in
theorem ixM_le (k : α) : ∀ l : List (α × β), ixM k l ≤ l.length
  | [] => Nat.le_refl _
  | (a, n) :: l => by
    unfold ixM; split
    · exact Nat.zero_le _
    · have := ixM_le k l; simp; omega
theorem ixM_get {k : α} : ∀ {l : List (α × β)}, ixM k l < l.length → l[ixM k l]? = some (k, getM k l)
  | [], h => by simp at h
  | (a, n) :: l, h => by
    unfold ixM getM
    by_cases hk : k = a
    · simp [hk]
    · simp only [hk, if_false, List.getElem?_cons_succ]
      refine ixM_get ?_
      simp only [ixM, hk, if_false, List.length_cons] at h
      omega
theorem getM_none {k : α} : ∀ {l : List (α × β)}, ¬ ixM k l < l.length → getM k l = ValD.z
  | [], _ => rfl
  | (a, n) :: l, h => by
    unfold getM
    by_cases hk : k = a
    · simp [ixM, hk] at h
    · simp only [hk, if_false]
      refine getM_none ?_
      simp only [ixM, hk, if_false, List.length_cons] at h
      omega
theorem touch_here {k : α} : ∀ {l : List (α × β)}, ixM k l < l.length → touchM k l = l
  | [], h => by simp at h
  | (a, n) :: l, h => by
    unfold touchM setM getM
    by_cases hk : k = a
    · simp [hk]
    · simp only [hk, if_false]
      congr 1
      refine touch_here ?_
      simp only [ixM, hk, if_false, List.length_cons] at h
      omega
omit [ValD β] in
theorem set_none {k : α} {v : β} : ∀ {l : List (α × β)}, ¬ ixM k l < l.length → setM k v l = l ++ [(k, v)]
  | [], _ => rfl
  | (a, n) :: l, h => by
    unfold setM
    by_cases hk : k = a
    · simp [ixM, hk] at h
    · simp only [hk, if_false, List.cons_append]
      congr 1
      refine set_none ?_
      simp only [ixM, hk, if_false, List.length_cons] at h
      omega
omit [ValD β] in
theorem set_setM {k : α} {u v : β} : ∀ {l : List (α × β)}, setM k v (setM k u l) = setM k v l
  | [] => by simp [setM]
  | (a, n) :: l => by
    by_cases hk : k = a
    · simp [setM, hk]
    · simp [setM, hk, set_setM (l := l)]
omit [ValD β] in
theorem ix_set {k : α} {v : β} : ∀ {l : List (α × β)}, ixM k (setM k v l) = ixM k l
  | [] => by simp [setM, ixM]
  | (a, n) :: l => by
    by_cases hk : k = a
    · simp [setM, ixM, hk]
    · simp [setM, ixM, hk, ix_set (l := l)]
omit [ValD β] in
theorem ix_lt_set {k : α} {v : β} : ∀ {l : List (α × β)}, ixM k l < (setM k v l).length
  | [] => by simp [setM, ixM]
  | (a, n) :: l => by
    by_cases hk : k = a
    · simp [setM, ixM, hk]
    · simp [setM, ixM, hk, ix_lt_set (l := l)]
theorem setVal_M {k : α} {v : β} : ∀ {n : Nat} {l : List (α × β)}, ixM k l < l.length → setVal (entsM K n l) (ixM k l) (ValD.f v) = entsM K n (setM k v l)
  | _, [], h => by simp at h
  | n, (a, m) :: l, h => by
    by_cases hk : k = a
    · simp [setVal, entsM, ixM, setM, hk, List.modify_cons]
    · have ih := setVal_M (k := k) (v := v) (n := n + 1) (l := l) (by simp only [ixM, hk, if_false, List.length_cons] at h; omega)
      unfold setVal at ih ⊢
      simp only [entsM, ixM, setM, hk, if_false, List.modify_succ_cons, ih]
theorem born_M : ∀ {n : Nat} {l : List (α × β)} {i : Nat}, i < l.length → (entsM K n l).findIdx? (fun e => (e.born : Int) == ((n + i : Nat) : Int)) = some i
  | _, [], _, h => by simp at h
  | n, (a, m) :: l, 0, _ => by simp [entsM, List.findIdx?_cons]
  | n, (a, m) :: l, i + 1, h => by
    have ih := born_M (n := n + 1) (l := l) (i := i) (by simpa using h)
    simp only [entsM, List.findIdx?_cons]
    rw [show n + (i + 1) = n + 1 + i by omega, ih]
    have : ((n : Int) == ((n + 1 + i : Nat) : Int)) = false := by rw [beq_eq_false_iff_ne]; omega
    rw [this]; rfl
omit [ValD β] in
theorem keys_set {k : α} {v : β} : ∀ {l : List (α × β)}, (l.map (·.1)).Nodup → ((setM k v l).map (·.1)).Nodup
  | [], _ => by simp [setM]
  | (a, n) :: l, h => by
    simp only [List.map_cons, List.nodup_cons] at h
    unfold setM
    split
    · simpa using h
    · rename_i hk
      simp only [List.map_cons, List.nodup_cons]
      refine ⟨?_, keys_set h.2⟩
      intro hm
      have : ∀ {l : List (α × β)}, a ∈ (setM k v l).map (·.1) → a = k ∨ a ∈ l.map (·.1) := by
        intro l
        induction l with
        | nil => intro h; simp [setM] at h; exact .inl h
        | cons p l ih =>
          obtain ⟨b, q⟩ := p
          intro h
          unfold setM at h
          split at h
          · simp only [List.map_cons, List.mem_cons] at h ⊢; exact .inr h
          · simp only [List.map_cons, List.mem_cons] at h ⊢
            rcases h with h | h
            · exact .inr (.inl h)
            · rcases ih h with h | h
              · exact .inl h
              · exact .inr (.inr h)
      rcases this hm with h' | h'
      · exact hk h'.symm
      · exact h.1 h'
theorem get_setM {k k' : α} {v : β} : ∀ {l : List (α × β)}, getM k' (setM k v l) = if k' = k then v else getM k' l
  | [] => by simp [setM, getM]
  | (a, n) :: l => by
    have ih := get_setM (k := k) (k' := k') (v := v) (l := l)
    unfold setM
    split
    · rename_i hk
      subst hk
      simp only [getM]
      by_cases h : k' = k <;> simp [h]
    · rename_i hk
      simp only [getM, ih]
      by_cases h : k' = a
      · subst h
        simp [Ne.symm hk]
      · simp [h]

/-! ### The operations -/
variable {P : Program} {fl : Fl} {st : St} {t kt et : TypeId} {b : Nat} {l : List (α × β)} {k : α}
theorem lookup_M (ht : tyMap P t = some (kt, et)) (hk : keyOk P kt (.agg (K.f k)) = true) (hz : zeroD P et = some (ValD.f (ValD.z (β := β)))) (hb : st.blk[b]? = some (.mp (entsM K 0 l) l.length)) : lookupD P st t (.map (some b)) (.agg (K.f k)) false = some (ValD.f (getM k l)) := by
  unfold lookupD
  simp only [ht, entsOf, hb, hk, if_true, findE_M]
  by_cases h : ixM k l < l.length
  · rw [if_pos h]
    simp only [entsM_get, ixM_get h]
    rfl
  · rw [if_neg h]
    simp only [hz, getM_none h]
    rfl
theorem st_set_same {b : Nat} {x : Blk} (h : st.blk[b]? = some x) : st.set b x = st := by
  unfold St.set
  obtain ⟨hb, rfl⟩ := List.getElem?_eq_some_iff.1 h
  rw [List.set_getElem_self]
theorem mapEntry_M (ht : tyMap P t = some (kt, et)) (hk : keyOk P kt (.agg (K.f k)) = true) (hz : zeroD P et = some (ValD.f (ValD.z (β := β)))) (hf : fl.fb ≤ b) (hb : st.blk[b]? = some (.mp (entsM K 0 l) l.length)) :
    mapEntryD P fl st t (.map (some b)) (.agg (K.f k)) = some (.tuple [ValD.f (getM k l), .int .i64 (ixM k l)], st.set b (.mp (entsM K 0 (touchM k l)) (touchM k l).length)) := by
  unfold mapEntryD mapAt
  simp only [ht, if_pos hf, hb, hk, if_true, findE_M]
  by_cases h : ixM k l < l.length
  · rw [if_pos h]
    simp only [entsM_get, ixM_get h, touch_here h, st_set_same hb]
    simp
  · rw [if_neg h]
    have hl : ixM k l = l.length := by have := ixM_le k l; omega
    simp only [hz, touchM, getM_none h, set_none h, hl, entsM_append, List.length_append, List.length_cons, List.length_nil]
    simp [entsM]
theorem entryStore_M {v : β} (hf : fl.fb ≤ b) (hb : st.blk[b]? = some (.mp (entsM K 0 (touchM k l)) (touchM k l).length)) :
    entryStoreD fl st (.map (some b)) (.int .i64 (ixM k l)) (ValD.f v) = some (st.set b (.mp (entsM K 0 (setM k v l)) (setM k v l).length)) := by
  have h := ix_lt_set (k := k) (v := getM k l) (l := l)
  have e1 := born_M (K := K) (n := 0) (l := touchM k l) (i := ixM k l) h
  rw [Nat.zero_add] at e1
  have e2 := setVal_M (K := K) (k := k) (v := v) (n := 0) (l := touchM k l) (by rw [touchM, ix_set]; exact h)
  rw [touchM, ix_set, set_setM] at e2
  have e3 : (touchM k l).length = (setM k v l).length := by
    have := congrArg List.length e2
    rw [setVal, List.length_modify, entsM_length, entsM_length] at this
    exact this
  unfold entryStoreD mapAt
  simp only [if_pos hf, hb, idx, e1, e3]
  rw [touchM, e2]
theorem mapUpdate_M {v : β} (ht : tyMap P t = some (kt, et)) (hk : keyOk P kt (.agg (K.f k)) = true) (hf : fl.fb ≤ b) (hb : st.blk[b]? = some (.mp (entsM K 0 l) l.length)) : mapUpdateD P fl st t (.map (some b)) (.agg (K.f k)) (ValD.f v) = some (st.set b (.mp (entsM K 0 (setM k v l)) (setM k v l).length)) := by
  unfold mapUpdateD mapAt
  simp only [ht, if_pos hf, hb, hk, if_true, findE_M]
  by_cases h : ixM k l < l.length
  · rw [if_pos h]
    have e2 := setVal_M (K := K) (k := k) (v := v) (n := 0) (l := l) h
    have e3 : (setM k v l).length = l.length := by
      have := congrArg List.length e2
      rw [setVal, List.length_modify, entsM_length, entsM_length] at this
      exact this.symm
    simp only [e2, e3]
  · rw [if_neg h]
    have hl : ixM k l = l.length := by have := ixM_le k l; omega
    simp only [set_none h, entsM_append, List.length_append, List.length_cons, List.length_nil]
    simp [entsM]

end
end ML
end Go.Ab

/-
  How stake stands: rows that grow side by side in a map; places of the blocks.
-/
namespace Go.Ab.Sd
open Go Go.Proofs Go.Ab Go.Ab.G Go.Ab.Cn Go.Ab.Rz
set_option maxRecDepth 100000
set_option maxHeartbeats 4000000
theorem w1_appN {P : Program} {st : St} {bs : List Blk} {ts : List (Nat × Nat)} {ty e : TypeId} {s bytes : Nat} {z : List D} {n m : Nat} {cs ds : List D} {tip tip0 : Tip} {K : D → St → Prop}
    (hg : Gr st.tips.length ts n s tip) (he : tyElem P ty = some e) (hs : tySize P e = some s) (hb : tyBytes P e = some bytes) (hz : tyZero P e = some z) (hok : z.length = s ∧ 0 < s ∧ 0 < bytes)
    (hcs : cs.length = n * s) (hds : ds.length = m * s) (hroom : (n + m + 256) * bytes ≤ mostRow) (hm : m ≠ 0)
    (h : ∀ ts1 tip1, Gr st.tips.length ts1 (n + m) s tip1 → (∀ n' s' tip', Gr st.tips.length ts n' s' tip' → (∀ r, tip = .own r → tip' ≠ .own r) → Gr st.tips.length ts1 n' s' tip' ∧ ∀ r, tip1 = .own r → tip' ≠ .own r) → K (.list (n + m) (cs ++ ds) tip1) (st.ext bs ts1)) :
    W1 (appendD P (flAll st) false (st.ext bs ts) ty (.list n cs tip) (.list m ds tip0)) K := by
  unfold appendD
  simp only [he, hs, hb, hz, srcOf, rowOf]
  rw [if_neg (by simp [hds, hok.1, hok.2.1, hok.2.2])]
  rw [if_neg hm, if_neg (by simp [hroom, hcs])]
  obtain ⟨hl, rfl | ⟨r, rfl, hr, ht⟩⟩ := hg
  · simp only [Bool.false_eq_true, if_false]
    refine h (ts ++ [(n + m, s)]) (.own ts.length) ⟨by simp; omega, .inr ⟨_, rfl, hl, by simp⟩⟩ fun n' s' tip' g2 _ => ⟨?_, ?_⟩
    · obtain ⟨_, rfl | ⟨r, rfl, hr, ht⟩⟩ := g2
      · exact gr_full (by simp; omega)
      · have := (List.getElem?_eq_some_iff.1 ht).1
        exact ⟨by simp; omega, .inr ⟨r, rfl, hr, by rw [List.getElem?_append_left this]; exact ht⟩⟩
    · intro r e e'
      cases e
      subst e'
      have := gr_lt g2
      omega
  · have hr' := (List.getElem?_eq_some_iff.1 ht).1
    have ht' : (st.ext bs ts).tips[r]? = some (n, s) := ht
    simp only [ht', flAll, hr, decide_true, beq_self_eq_true, Bool.not_false, Bool.and_self, if_true]
    refine h (ts.set r (n + m, s)) (.own r) ⟨by simpa using hl, .inr ⟨r, rfl, hr, by simp [hr']⟩⟩ fun n' s' tip' g2 g3 => ⟨?_, g3⟩
    obtain ⟨_, rfl | ⟨r1, rfl, hr1, ht1⟩⟩ := g2
    · exact gr_full (by simpa using hl)
    · have hne : r ≠ r1 := fun e => g3 r rfl (by rw [e])
      exact ⟨by simpa using hl, .inr ⟨r1, rfl, hr1, by rw [List.getElem?_set_ne hne]; exact ht1⟩⟩
/-! ### A map of rows -/
abbrev LT := List PayM × Tip
instance : ValD LT := ⟨fun x => .list x.1.length (rowD payD x.1) x.2, ([], .full)⟩
def RowsB (ft : Nat) (ts : List (Nat × Nat)) (B : List (H32 × LT)) : Prop :=
  ft ≤ ts.length ∧ (B.map (·.1)).Nodup ∧ (∀ x ∈ B, Gr ft ts x.2.1.length 33 x.2.2) ∧ ∀ x ∈ B, ∀ y ∈ B, x.1 ≠ y.1 → ∀ r, x.2.2 = .own r → y.2.2 ≠ .own r
theorem rowsB_nil {ft : Nat} {ts : List (Nat × Nat)} (h : ft ≤ ts.length) : RowsB ft ts [] := ⟨h, List.nodup_nil, (by intro x h; cases h), (by intro x h; cases h)⟩
theorem getB_in {k : H32} : ∀ {B : List (H32 × LT)}, (k, ML.getM k B) ∈ B ∨ (ML.getM k B = ([], .full) ∧ k ∉ B.map (·.1))
  | [] => .inr ⟨rfl, by simp⟩
  | (a, n) :: B => by
    unfold ML.getM
    by_cases h : k = a
    · rw [if_pos h, h]; exact .inl (.head _)
    · rw [if_neg h]
      rcases getB_in (k := k) (B := B) with h1 | ⟨h1, h2⟩
      · exact .inl (.tail _ h1)
      · refine .inr ⟨h1, ?_⟩
        simp only [List.map_cons, List.mem_cons, not_or]
        exact ⟨h, h2⟩
theorem mem_setB {k : H32} {v : LT} {y : H32 × LT} : ∀ {B : List (H32 × LT)}, (B.map (·.1)).Nodup → y ∈ ML.setM k v B → y = (k, v) ∨ (y ∈ B ∧ y.1 ≠ k)
  | [], _, h => by simp [ML.setM] at h; exact .inl h
  | (a, n) :: B, hn, h => by
    simp only [List.map_cons, List.nodup_cons] at hn
    unfold ML.setM at h
    split at h
    · rename_i hk
      rcases List.mem_cons.1 h with h | h
      · exact .inl (by rw [h, hk])
      · refine .inr ⟨.tail _ h, ?_⟩
        rintro e
        exact hn.1 (hk ▸ e ▸ List.mem_map_of_mem h)
    · rename_i hk
      rcases List.mem_cons.1 h with h | h
      · exact .inr ⟨by rw [h]; exact .head _, by rw [h]; exact fun e => hk e.symm⟩
      · rcases mem_setB hn.2 h with h | ⟨h1, h2⟩
        · exact .inl h
        · exact .inr ⟨.tail _ h1, h2⟩
theorem rowsB_gr {ft : Nat} {ts : List (Nat × Nat)} {B : List (H32 × LT)} (h : RowsB ft ts B) (k : H32) : Gr ft ts (ML.getM k B).1.length 33 (ML.getM k B).2 := by
  rcases getB_in (k := k) (B := B) with h1 | ⟨h1, _⟩
  · exact h.2.2.1 _ h1
  · rw [h1]; exact gr_full h.1
theorem rowsB_put {ft : Nat} {ts ts1 : List (Nat × Nat)} {B : List (H32 × LT)} (h : RowsB ft ts B) {k : H32} {l' : List PayM} {tip1 : Tip} (h1 : Gr ft ts1 l'.length 33 tip1)
    (h2 : ∀ n' s' tip', Gr ft ts n' s' tip' → (∀ r, (ML.getM k B).2 = .own r → tip' ≠ .own r) → Gr ft ts1 n' s' tip' ∧ ∀ r, tip1 = .own r → tip' ≠ .own r) : RowsB ft ts1 (ML.setM k (l', tip1) B) := by
  obtain ⟨hl, hn, hg, hd⟩ := h
  have hk : ∀ y ∈ B, y.1 ≠ k → ∀ r, (ML.getM k B).2 = .own r → y.2.2 ≠ .own r := by
    intro y hy hyk r e
    rcases getB_in (k := k) (B := B) with h1 | ⟨h1, _⟩
    · exact hd _ h1 y hy (fun e => hyk e.symm) r e
    · rw [h1] at e; cases e
  have hy : ∀ y ∈ B, y.1 ≠ k → Gr ft ts1 y.2.1.length 33 y.2.2 ∧ ∀ r, tip1 = .own r → y.2.2 ≠ .own r := fun y hm hyk => h2 _ _ _ (hg y hm) (hk y hm hyk)
  refine ⟨h1.1, ML.keys_set hn, fun x hx => ?_, fun x hx y hyy hxy => ?_⟩
  · rcases mem_setB hn hx with rfl | ⟨hx1, hx2⟩
    · exact h1
    · exact (hy x hx1 hx2).1
  · rcases mem_setB hn hx with rfl | ⟨hx1, hx2⟩
    · rcases mem_setB hn hyy with rfl | ⟨hy1, hy2⟩
      · exact absurd rfl hxy
      · exact (hy y hy1 hy2).2
    · rcases mem_setB hn hyy with rfl | ⟨hy1, hy2⟩
      · intro r e e'
        exact (hy x hx1 hx2).2 r e' e
      · exact hd x hx1 y hy1 hxy
/-! ### The maps' places -/
theorem tmS : tyMap Tryz.prog 179 = some (28, 40) := tm119
theorem tmR : tyMap Tryz.prog 181 = some (28, 70) := by kernel_rfl
theorem z70 : zeroD Tryz.prog 70 = some (.list 0 [] .full) := by kernel_rfl
section
variable {st : St} {c0 c1 c2 : Blk} {bs rest : List Blk} {ts : List (Nat × Nat)} {a : List PayM} {B : List (H32 × LT)} {k : H32}
theorem muS {v : Nat} : mapUpdateD Tryz.prog (flAll st) (st.ext (c0 :: .mp (entsM KH 0 a) a.length :: rest) ts) 179 (.map (some (st.blk.length + 1))) (.agg (hD k)) (.int .u64 v) = some (st.ext (c0 :: .mp (entsM KH 0 (setM k v a)) (setM k v a).length :: rest) ts) := by
  have h := mapUpdate_M (K := KH) (P := Tryz.prog) (fl := flAll st) (st := st.ext (c0 :: .mp (entsM KH 0 a) a.length :: rest) ts) (b := st.blk.length + 1) (l := a) (k := k) (v := v) tmS (kOk k) (Nat.le_add_right _ _) (by rw [lay_get]; rfl)
  rw [lay_set] at h
  exact h
theorem lkS : lookupD Tryz.prog (st.ext (c0 :: .mp (entsM KH 0 a) a.length :: rest) ts) 179 (.map (some (st.blk.length + 1))) (.agg (hD k)) false = some (.int .u64 (getM k a)) :=
  lookup_M (K := KH) (k := k) tmS (kOk k) z29 (by rw [lay_get]; rfl)
theorem get4 {x : Blk} : (c0 :: c1 :: (bs ++ c2 :: x :: rest))[bs.length + 1 + 1 + 1]? = some x := by
  rw [List.getElem?_cons_succ, List.getElem?_cons_succ, List.getElem?_append_right (by omega), show bs.length + 1 - bs.length = 1 by omega]
  rfl
theorem set4 {x y : Blk} : (c0 :: c1 :: (bs ++ c2 :: x :: rest)).set (bs.length + 1 + 1 + 1) y = c0 :: c1 :: (bs ++ c2 :: y :: rest) := by
  rw [List.set_cons_succ, List.set_cons_succ, List.set_append, if_neg (by omega), show bs.length + 1 - bs.length = 1 by omega]
  rfl
theorem meR : mapEntryD Tryz.prog (flAll st) (st.ext (c0 :: c1 :: (bs ++ c2 :: .mp (ML.entsM KH 0 B) B.length :: rest)) ts) 181 (.map (some (st.blk.length + (bs.length + 1 + 1 + 1)))) (.agg (hD k)) =
    some (.tuple [.list (ML.getM k B).1.length (rowD payD (ML.getM k B).1) (ML.getM k B).2, .int .i64 (ML.ixM k B)], st.ext (c0 :: c1 :: (bs ++ c2 :: .mp (ML.entsM KH 0 (ML.touchM k B)) (ML.touchM k B).length :: rest)) ts) := by
  have h := ML.mapEntry_M (K := KH) (P := Tryz.prog) (fl := flAll st) (st := st.ext (c0 :: c1 :: (bs ++ c2 :: .mp (ML.entsM KH 0 B) B.length :: rest)) ts) (b := st.blk.length + (bs.length + 1 + 1 + 1)) (l := B) (k := k) tmR (kOk k) z70 (Nat.le_add_right _ _) (by rw [lay_get]; exact get4)
  rw [lay_set, set4] at h
  exact h
theorem esR {n : Nat} {ds : List D} {l : List PayM} {tip : Tip} (hn : n = l.length) (hd : ds = rowD payD l) : entryStoreD (flAll st) (st.ext (c0 :: c1 :: (bs ++ c2 :: .mp (ML.entsM KH 0 (ML.touchM k B)) (ML.touchM k B).length :: rest)) ts) (.map (some (st.blk.length + (bs.length + 1 + 1 + 1)))) (.int .i64 (ML.ixM k B)) (.list n ds tip) =
    some (st.ext (c0 :: c1 :: (bs ++ c2 :: .mp (ML.entsM KH 0 (ML.setM k (l, tip) B)) (ML.setM k (l, tip) B).length :: rest)) ts) := by
  subst hn; subst hd
  have h := ML.entryStore_M (K := KH) (fl := flAll st) (st := st.ext (c0 :: c1 :: (bs ++ c2 :: .mp (ML.entsM KH 0 (ML.touchM k B)) (ML.touchM k B).length :: rest)) ts) (b := st.blk.length + (bs.length + 1 + 1 + 1)) (l := B) (k := k) (v := (l, tip)) (Nat.le_add_right _ _) (by rw [lay_get]; exact get4)
  rw [lay_set, set4] at h
  exact h
end
theorem listD_is (o : List PayM) : ∃ tip, listD o = .list o.length (rowD payD o) tip := by
  unfold listD
  by_cases h : o = []
  · subst h; exact ⟨.full, rfl⟩
  · exact ⟨.cut, if_neg h⟩
end Go.Ab.Sd

/-
  Shares as they are made: their members' rows may still grow; what is handed back of them.
-/
namespace Go.Ab.Sd
open Go Go.Proofs Go.Ab Go.Ab.G Go.Ab.Cn Go.Ab.Rz
set_option maxRecDepth 100000
set_option maxHeartbeats 4000000
structure XS where
  seat : SeatM
  stake : Nat
  mem : List PayM
  tip : Tip
  hs : stake < 18446744073709551616
  ha : ∀ m ∈ mem, m.2 < 18446744073709551616
def xsD (x : XS) : List D := seatD x.seat ++ [.int .u64 x.stake, .list x.mem.length (rowD payD x.mem) x.tip]
theorem xsD_length (x : XS) : (xsD x).length = 69 := by simp [xsD, seatD_length]
def xcore (x : XS) : SeatM × Nat × List PayM := (x.seat, x.stake, x.mem)
def cutT : Tip → Tip
  | .own _ => .cut
  | t => t
def mkS (x : XS) : ShareM := ⟨x.seat.pool, x.seat.key, x.seat.pledge, x.seat.cost, x.seat.margin, x.stake, x.mem, cutT x.tip, x.seat.hpl, x.seat.hco, x.seat.hma, x.hs, x.ha, by cases x.tip <;> simp [cutT]⟩
theorem mkS_seat (x : XS) : seatS (mkS x) = x.seat := rfl
theorem xs_out (x : XS) : (xsD x).mapM out0 = some (shareD (mkS x)) := by
  rw [shareD_seat, mkS_seat]
  have h1 : (seatD x.seat).mapM out0 = some (seatD x.seat) := by
    refine mapM_flat (fun d hd => ?_) (seatD_flat x.seat)
    unfold out0
    split
    · simp [D.flat] at hd
    · rw [if_pos hd]
  have h2 : out0 (.list x.mem.length (rowD payD x.mem) x.tip) = some (.list x.mem.length (rowD payD x.mem) (cutT x.tip)) := by
    have hf := rowD_flat payD_flat x.mem
    cases x.tip <;> simp [out0, cutT, hf, D.flat]
  unfold xsD
  rw [List.mapM_append, h1]
  simp only [List.mapM_cons, List.mapM_nil, h2]
  rfl
theorem row_out : ∀ l : List XS, (rowD xsD l).mapM out0 = some (rowD shareD (l.map mkS))
  | [] => rfl
  | x :: l => by
    rw [rowD_cons, List.mapM_append, xs_out, row_out l, List.map_cons, rowD_cons]
    rfl
theorem out0_flat {d e : D} (hd : d.flat = true) (h : out0 d = some e) : e = d := by
  unfold out0 at h
  split at h
  · simp [D.flat] at hd
  · rw [if_pos hd] at h; exact (Option.some.inj h).symm
theorem out0_flatL : ∀ {l m : List D}, flatL l = true → l.mapM out0 = some m → m = l
  | [], m, _, h => by simp at h; exact h
  | d :: l, m, hf, h => by
    simp only [flatL, Bool.and_eq_true] at hf
    simp only [List.mapM_cons, Option.pure_def, Option.bind_eq_bind, Option.bind_eq_some_iff] at h
    obtain ⟨e, h1, r, h2, h3⟩ := h
    injection h3 with h3
    rw [← h3, out0_flat hf.1 h1, out0_flatL hf.2 h2]
theorem out_shares {fl : Fl} {s : St} (l : List XS) (tq : Tip) : ∃ tq', out1 fl s (.list l.length (rowD xsD l) tq) = some (.list (l.map mkS).length (rowD shareD (l.map mkS)) tq') := by
  have h := row_out l
  unfold out1
  by_cases hf : flatL (rowD xsD l) = true
  · have e := out0_flatL hf h
    simp only [hf, if_true]
    exact ⟨_, by rw [List.length_map, e]⟩
  · simp only [hf, if_false, h, Option.map_some, Bool.false_eq_true]
    exact ⟨_, by rw [List.length_map]⟩
theorem xpAll (x : XS) : partD Tryz.prog 105 (xsD x) 0 = some (.agg (xsD x)) := part_agg (n := 69) (by kernel_rfl) (by kernel_rfl) [] (xsD x) [] (by simp) rfl (xsD_length _)
theorem xpStake (x : XS) : partD Tryz.prog 40 (xsD x) 67 = some (.int .u64 x.stake) := part_one (n := 1) (by kernel_rfl) (by kernel_rfl) (seatD x.seat) _ [.list x.mem.length (rowD payD x.mem) x.tip] rfl (seatD_length _)
theorem splXs (z : List D) (x : XS) (h : z.length = 69) : splice z 0 (xsD x) = xsD x := splice_all (by rw [h, xsD_length])
theorem splZx (x : XS) : splice zS78 0 (xsD x) = xsD x := splXs _ x zS78_len
theorem splStake (x : XS) (n : Nat) (hn : n < 18446744073709551616) : splice (xsD x) 67 [.int .u64 n] = xsD { x with stake := n, hs := hn } := by
  unfold splice xsD
  rw [List.length_singleton, show (67 : Nat) = (seatD x.seat).length by rw [seatD_length], List.take_left, List.drop_append]
  simp
theorem bsSh (x : XS) : buildSliceD Tryz.prog 97 1 [(0, .agg (xsD x))] = some (.list 1 (xsD x) .full) := by
  have : ∀ cs : List D, buildSliceD Tryz.prog 97 1 [(0, .agg cs)] = (if cs.length == 69 && decide (0 + 69 ≤ 69) then some (splice (zS78 ++ []) 0 cs) else none).map fun cs => .list 1 cs .full := by
    intro cs; kernel_rfl
  rw [this, xsD_length, List.append_nil, splZx]; rfl
theorem teSh : tyElem Tryz.prog 97 = some 105 := by kernel_rfl
theorem tbSh : tyBytes Tryz.prog 105 = some 120 := by kernel_rfl
theorem tiSh : tyInt Tryz.prog 97 = some none := by kernel_rfl
theorem bdXs (s : SeatM) (l : List PayM) (tip : Tip) (ha : ∀ m ∈ l, m.2 < 18446744073709551616) : buildD Tryz.prog 105 [(0, .agg (seatD s)), (2, .list l.length (rowD payD l) tip)] = some (.agg (xsD ⟨s, 0, l, tip, by decide, ha⟩)) := by
  rw [bd_105_0_2 _ _ (seatD_length s) rfl]
  simp [xsD]
theorem le_sum_mem {n : Nat} : ∀ {l : List Nat}, n ∈ l → n ≤ l.sum
  | x :: l, h => by
    rw [List.sum_cons]
    rcases List.mem_cons.1 h with rfl | h
    · omega
    · have := le_sum_mem h; omega
theorem mem_amt {G : H32 → Nat} {k : H32} {A : List AccM} (h : tots G A < 9223372036854775808) : ∀ m ∈ mems G k A, m.2 < 18446744073709551616 := by
  intro m hm
  unfold mems accs at hm
  obtain ⟨a, ha, rfl⟩ := List.mem_map.1 hm
  obtain ⟨h1, h2⟩ := List.mem_filter.1 ha
  simp only [decide_eq_true_eq] at h2
  have : cnt G a ≤ tots G A := by
    unfold tots
    exact le_sum_mem (List.mem_map_of_mem h1)
  unfold cnt at this
  rw [if_neg h2.2.1] at this
  show amt G a < _
  omega
theorem mems_le {G : H32 → Nat} (k : H32) (A : List AccM) : sumP (mems G k A) ≤ tots G A := by
  have h := accs_sum G (amt G) (ks := [k]) (by simp) A
  simp only [List.map_cons, List.map_nil, List.sum_cons, List.sum_nil, Nat.add_zero] at h
  rw [mems_sum]
  exact h
end Go.Ab.Sd

/-
  How stake stands, gone through.
-/
namespace Go.Ab.Sd
open Go Go.Proofs Go.Ab Go.Ab.G Go.Ab.Cn Go.Ab.Rz
set_option maxRecDepth 100000
set_option maxHeartbeats 4000000
theorem r_viewR (fl : Fl) {R : RT} {A : List AccM} {P : List PoolM} {V : List VoteM} (h : Rep R A P V) (hA : A.length < 100000) (hP : P.length < 100000) (hV : V.length < 100000) (st : St) :
    ∃ d, (∃ ta tp tv, ((∀ r, ta ≠ .own r) ∧ (∀ r, tp ≠ .own r) ∧ (∀ r, tv ≠ .own r)) ∧ d = .agg (vC A P V ta tp tv)) ∧ run Tryz.prog rzH fl 25 [.agg (rollC R)] st = some (d, st) := by
  have r2 := r_view fl R st (by rw [h.acc.size]; omega) (by rw [h.poo.size]; omega) (by rw [h.vot.size]; omega)
  simp only [rollV, show vals R.acc = A from h.acc.vls, show vals R.poo = P from h.poo.vls, show vals R.vot = V from h.vot.vls] at r2
  exact r2
def shares (G : H32 → Nat) (A : List AccM) (P : List PoolM) : List (SeatM × Nat × List PayM) := P.filterMap fun p => if mems G p.now.pool A = [] then none else some (p.now, sumP (mems G p.now.pool A), mems G p.now.pool A)
def OfAns (G : H32 → Nat) (A : List AccM) (P : List PoolM) (d : D) : Prop :=
  if tots G A < 9223372036854775808 then ∃ (S : List ShareM) (tq : Tip), S.map core = shares G A P ∧ d = .tuple [.agg (standD S tq), .int .i64 0] else d = .tuple [.agg [.list 0 [] .full], .int .i64 9]
theorem sum_snoc {l : List PayM} {k : Nat} (h : k < l.length) : sumP (l.take (k + 1)) = sumP (l.take k) + l[k].2 := by
  unfold sumP
  rw [List.take_add_one, List.getElem?_eq_getElem h, Option.toList_some, List.map_append, List.sum_append]
  simp
theorem sum_take (k : Nat) (l : List PayM) : sumP (l.take k) ≤ sumP l := by
  have : sumP l = sumP (l.take k) + sumP (l.drop k) := by
    unfold sumP
    rw [← List.sum_append, ← List.map_append, List.take_append_drop]
  omega
theorem pt94s (x : D) : partD Tryz.prog 97 [x] 0 = some x := by kernel_rfl
theorem tsL97 : tySize Tryz.prog 97 = some 1 := by kernel_rfl
theorem spl3 (x y z a b c : D) : splice [x, y, z] 0 [a, b, c] = [a, b, c] := rfl
theorem splX (x y : D) : splice [x] 0 [y] = [y] := rfl
theorem bd99 : buildD Tryz.prog 99 [] = some (.agg [.list 0 [] .full]) := by kernel_rfl
theorem bs2U (a b : Nat) : buildSliceD Tryz.prog 171 2 [(0, .int .u64 a), (1, .int .u64 b)] = some (.list 2 [.int .u64 a, .int .u64 b] .full) := by kernel_rfl
theorem prAllR (R : RT) : partD Tryz.prog 42 (rollC R) 0 = some (.agg (rollC R)) := by kernel_rfl
theorem r_w2 (fl : Fl) (a b : Nat) (ha : a < 18446744073709551616) (hb : b < 18446744073709551616) (st : St) : run Tryz.prog rzH fl 99 [.list 2 [.int .u64 a, .int .u64 b] .full] st = some (sumRes (a + b), st) := by
  have h := r_wsum fl [a, b] (by intro x hx; simp at hx; rcases hx with rfl | rfl <;> assumption) (show 2 < 1000000 by decide) .full st
  have e : [a, b].sum = a + b := by simp
  rw [e] at h
  exact h
theorem fin_st {fr : Fr} {st s : St} {a c : Nat} {x : D} {d : D} {n : Int} (hx : fr.get a = x) (h : loadD Tryz.prog s 99 x = some d) (hd : d.flat = true) (hc : fr.get c = .int .i64 n) : Ends Tryz.prog [.cell a 99, .tmp c] (flAll st) (.tuple [d, .int .i64 n]) .ret fr s := by
  refine ⟨trivial, [d, .int .i64 n], ?_, ?_⟩
  · simp only [List.mapM_cons, List.mapM_nil, resultOne, hx, h, hc]; rfl
  · simp only [pack, Go.Ab.outD, List.mapM_cons, List.mapM_nil, out2_flat hd]; rfl
theorem stSh {st : St} {c0 c1 a : Blk} {pre rest more : List Blk} {ts : List (Nat × Nat)} {y : XS} {n : Nat} (hn : n < 18446744073709551616) : storeD Tryz.prog (flAll st) (st.ext (c0 :: (pre ++ c1 :: (rest ++ a :: .cells (xsD y) :: more))) ts) 40 (.ref (st.blk.length + (pre.length + (rest.length + 1 + 1) + 1)) 67) (.int .u64 n) = some (st.ext (c0 :: (pre ++ c1 :: (rest ++ a :: .cells (xsD { y with stake := n, hs := hn }) :: more))) ts) := by
  rw [store_ext flAll_fb rfl]
  have e : (c0 :: (pre ++ c1 :: (rest ++ a :: .cells (xsD y) :: more)))[pre.length + (rest.length + 1 + 1) + 1]? = some (.cells (xsD y)) := by
    rw [List.getElem?_cons_succ, List.getElem?_append_right (by omega), show pre.length + (rest.length + 1 + 1) - pre.length = rest.length + 1 + 1 by omega, List.getElem?_cons_succ, List.getElem?_append_right (by omega), show rest.length + 1 - rest.length = 1 by omega]
    rfl
  have e2 : ∀ z, (c0 :: (pre ++ c1 :: (rest ++ a :: .cells (xsD y) :: more))).set (pre.length + (rest.length + 1 + 1) + 1) z = c0 :: (pre ++ c1 :: (rest ++ a :: z :: more)) := by
    intro z
    rw [List.set_cons_succ, List.set_append, if_neg (by omega), show pre.length + (rest.length + 1 + 1) - pre.length = rest.length + 1 + 1 by omega, List.set_cons_succ, List.set_append, if_neg (by omega), show rest.length + 1 - rest.length = 1 by omega]
    rfl
  rw [e]
  have h1 : (D.cells (.int .u64 n)) = [.int .u64 n] := rfl
  simp only [h1, ts29, xsD_length, List.length_singleton]
  rw [if_pos (by decide), splStake y n hn, e2]
theorem fin_sh {fr : Fr} {st s : St} {a c : Nat} {x d e : D} {n : Int} (hx : fr.get a = x) (h : loadD Tryz.prog s 99 x = some (.agg [d])) (hd : out1 (flAll st) s d = some e) (hc : fr.get c = .int .i64 n) : Ends Tryz.prog [.cell a 99, .tmp c] (flAll st) (.tuple [.agg [e], .int .i64 n]) .ret fr s := by
  refine ⟨trivial, [.agg [d], .int .i64 n], ?_, ?_⟩
  · simp only [List.mapM_cons, List.mapM_nil, resultOne, hx, h, hc]; rfl
  · simp only [pack, Go.Ab.outD, List.mapM_cons, List.mapM_nil, out2, hd]; rfl
set_option maxHeartbeats 16000000 in
theorem r_standOf (fl : Fl) {t : Tw CoinM} (ht : t.size < 500000) {R : RT} {A : List AccM} {P : List PoolM} {V : List VoteM} (h : Rep R A P V) (hm : MayR A P V) (hV : V.length < 100000) {G : H32 → Nat} (hG : G = fun k => getM k (sortP (accS (Cn.vals t)))) (hGl : ∀ k, G k < 18446744073709551616) (hnd : ((sortP (accS (Cn.vals t))).map (·.1)).Nodup) (hol : (sortP (accS (Cn.vals t))).length < 1000000000) (st : St) :
    ∃ d, OfAns G A P d ∧ run Tryz.prog rzM fl 38 [cD t, .agg (rollC R)] st = some (d, st) := by
  have hla := hm.la
  have hlp := hm.lp
  have r98 := fun fl st => runM98 fl ht st
  obtain ⟨tipo, ho⟩ := listD_is (sortP (accS (Cn.vals t)))
  rw [ho] at r98
  clear ho
  obtain ⟨o, hoe⟩ : ∃ o, o = sortP (accS (Cn.vals t)) := ⟨_, rfl⟩
  rw [← hoe] at r98 hG hnd hol
  refine run_simx (fi := ⟨true, [2, 3], [(3, [3, 4, 6, 25, 26, 27]), (11, [4, 6, 9, 10, 11, 41, 42, 43]), (25, [4, 10, 16, 95, 96, 97]), (31, [4, 10, 16, 20, 95, 96, 97, 113, 114, 115])]⟩) (rs := [.cell 4 99, .tmp 5]) rfl rfl rfl Tryz.func38 rfl rfl ?_
  simp only [argsFr, cD] at r98 ⊢
  repeat (first | with_reducible refine zg ?_ | (with_reducible refine zo ?_; (conv => { arg 1; simp (disch := (first | omega | (with_unfolding_all exact byrfl rfl))) only [evOp, loadI, evX, ofValue, ofValue1, binD, pairsD, evCall, builtinD, D.mem, D.cells, Int.reduceToNat, reduceCtorEq, Nat.reduceBEq, bs1, bs2, bs3, mx1, mx2, splice_one, mx3, tz_99, ptCc, ld_box, r98, ln_70] }); with_reducible refine s1 ?_))
  refine sk_while ⟨true, [2, 3], [(3, [3, 4, 6, 25, 26, 27]), (11, [4, 6, 9, 10, 11, 41, 42, 43]), (25, [4, 10, 16, 95, 96, 97]), (31, [4, 10, 16, 20, 95, 96, 97, 113, 114, 115])]⟩ rfl [3, 4, 6, 25, 26, 27] rfl (fun m fr st' => ∃ (i : Nat) (bs : List Blk), m = o.length - i ∧ i ≤ o.length ∧
    st' = st.ext (.cells [.list 0 [] .full] :: .mp (entsM KH 0 (o.take i)) (o.take i).length :: bs) st.tips ∧
    fr = [(3, .box 0 (rollC R)), (4, .ref (st.blk.length + 0) 0), (6, .map (some (st.blk.length + 1))), (25, .list o.length (rowD payD o) tipo), (26, .int .i64 o.length), (27, .int .i64 i)]) o.length ?_ ?_
  · refine ⟨0, [], rfl, by omega, rfl, ?_⟩
    repeat (first | with_reducible refine zg ?_ | (with_reducible refine zo ?_; (conv => { arg 1; simp (disch := (first | omega | (with_unfolding_all exact byrfl rfl))) only [evOp, loadI, evX, ofValue, ofValue1, binD, pairsD, evCall, builtinD, D.mem, D.cells, Int.reduceToNat, reduceCtorEq, Nat.reduceBEq, bs1, bs2, bs3] }); with_reducible refine s1 ?_))
    rfl
  rintro m fr st' ⟨i, bs, rfl, hi, rfl, rfl⟩
  repeat (first | with_reducible refine zg ?_ | (with_reducible refine zo ?_; (conv => { arg 1; simp (disch := (first | omega | (with_unfolding_all exact byrfl rfl))) only [evOp, loadI, evX, ofValue, ofValue1, binD, pairsD, evCall, builtinD, D.mem, D.cells, Int.reduceToNat, reduceCtorEq, Nat.reduceBEq, bs1, bs2, bs3] }); with_reducible refine s1 ?_))
  refine sc_dec (fun hlt => ?_) (fun hge => ?_)
  · have hlt : i < o.length := by omega
    have e1 := iaP (tip := tipo) hlt
    have e2 := fun st => ldP hlt st
    have e3 := ptH69 o[i]
    have e4 := ptP1 o[i]
    have hts := take_set hnd hlt
    repeat (first | with_reducible refine zg ?_ | (with_reducible refine zo ?_; (conv => { arg 1; simp (disch := (first | omega | (with_unfolding_all exact byrfl rfl))) only [evOp, loadI, evX, ofValue, ofValue1, binD, pairsD, evCall, builtinD, D.mem, D.cells, Int.reduceToNat, reduceCtorEq, Nat.reduceBEq, bs1, bs2, bs3, mx1, mx2, splice_one, mx3, e1, e2, tzPay, tsPay, splP, payD_length, fr_80_0, fr_80_1, Nat.zero_add, e3, e4, muS] }); with_reducible refine s1 ?_))
    refine turn_go (o.length - (i + 1)) (by omega) ?_
    repeat (first | with_reducible refine zg ?_ | (with_reducible refine zo ?_; (conv => { arg 1; simp (disch := (first | omega | (with_unfolding_all exact byrfl rfl))) only [evOp, loadI, evX, ofValue, ofValue1, binD, pairsD, evCall, builtinD, D.mem, D.cells, Int.reduceToNat, reduceCtorEq, Nat.reduceBEq, bs1, bs2, bs3] }); with_reducible refine s1 ?_))
    exact ⟨i + 1, _, rfl, by omega, by rw [hts], rfl⟩
  have hie : i = o.length := by omega
  subst hie
  rw [List.take_length]
  repeat (first | with_reducible refine zg ?_ | (with_reducible refine zo ?_; (conv => { arg 1; simp (disch := (first | omega | (with_unfolding_all exact byrfl rfl))) only [evOp, loadI, evX, ofValue, ofValue1, binD, pairsD, evCall, builtinD, D.mem, D.cells, Int.reduceToNat, reduceCtorEq, Nat.reduceBEq, bs1, bs2, bs3, ld_box, prAllR] }); with_reducible refine s1 ?_))
  (with_reducible refine so_cons ?_); conv => { arg 1; simp (disch := (first | omega | (with_unfolding_all exact byrfl rfl))) only [evOp, loadI, evX, ofValue, ofValue1, binD, pairsD, evCall, builtinD, D.mem, D.cells, Int.reduceToNat, reduceCtorEq, Nat.reduceBEq, bs1, bs2, bs3] }
  refine w1_ex (runx_up rzMUp (r_viewR _ h (by omega) (by omega) hV _)) ?_
  rintro _ ⟨sa, sp, sv, _, rfl⟩
  repeat (first | with_reducible refine zg ?_ | (with_reducible refine zo ?_; (conv => { arg 1; simp (disch := (first | omega | (with_unfolding_all exact byrfl rfl))) only [evOp, loadI, evX, ofValue, ofValue1, binD, pairsD, evCall, builtinD, D.mem, D.cells, Int.reduceToNat, reduceCtorEq, Nat.reduceBEq, bs1, bs2, bs3, mx1, mx2, splice_one, mx3, tz_26, ts_26, spl3, fr_26_0, pvA, lnAc] }); with_reducible refine s1 ?_))
  have hA0 : tots G (A.take 0) = 0 := rfl
  refine sk_while ⟨true, [2, 3], [(3, [3, 4, 6, 25, 26, 27]), (11, [4, 6, 9, 10, 11, 41, 42, 43]), (25, [4, 10, 16, 95, 96, 97]), (31, [4, 10, 16, 20, 95, 96, 97, 113, 114, 115])]⟩ rfl [4, 6, 9, 10, 11, 41, 42, 43] rfl (fun m fr st' => ∃ (i : Nat) (B : List (H32 × LT)) (ts : List (Nat × Nat)) (more : List Blk), m = A.length - i ∧ i ≤ A.length ∧ tots G (A.take i) < 9223372036854775808 ∧ RowsB st.tips.length ts B ∧ (∀ k, (ML.getM k B).1 = mems G k (A.take i)) ∧
    st' = st.ext (.cells [.list 0 [] .full] :: .mp (entsM KH 0 o) o.length :: (bs ++ .cells (vC A P V sa sp sv) :: .mp (ML.entsM KH 0 B) B.length :: more)) ts ∧
    fr = [(4, .ref (st.blk.length + 0) 0), (6, .map (some (st.blk.length + 1))), (9, .ref (st.blk.length + (bs.length + 1 + 1)) 0), (10, .map (some (st.blk.length + (bs.length + 1 + 1 + 1)))), (11, .int .u64 (tots G (A.take i) : Nat)), (41, .list A.length (rowD accD A) sa), (42, .int .i64 A.length), (43, .int .i64 i)]) A.length ?_ ?_
  · refine ⟨0, [], st.tips, [], rfl, by omega, by rw [hA0]; decide, rowsB_nil (Nat.le_refl _), fun k => rfl, rfl, ?_⟩
    repeat (first | with_reducible refine zg ?_ | (with_reducible refine zo ?_; (conv => { arg 1; simp (disch := (first | omega | (with_unfolding_all exact byrfl rfl))) only [evOp, loadI, evX, ofValue, ofValue1, binD, pairsD, evCall, builtinD, D.mem, D.cells, Int.reduceToNat, reduceCtorEq, Nat.reduceBEq, bs1, bs2, bs3] }); with_reducible refine s1 ?_))
    rfl
  rintro m fr st' ⟨i, B, ts, more, rfl, hi, hT, hB, hM, rfl, rfl⟩
  repeat (first | with_reducible refine zg ?_ | (with_reducible refine zo ?_; (conv => { arg 1; simp (disch := (first | omega | (with_unfolding_all exact byrfl rfl))) only [evOp, loadI, evX, ofValue, ofValue1, binD, pairsD, evCall, builtinD, D.mem, D.cells, Int.reduceToNat, reduceCtorEq, Nat.reduceBEq, bs1, bs2, bs3] }); with_reducible refine s1 ?_))
  refine sc_dec (fun hlt => ?_) (fun hge => ?_)
  · have hlt : i < A.length := by omega
    have e1 := @iaAc A sa i hlt
    have e2 := @prAc A i hlt
    have hts := tots_snoc G hlt
    have hms := fun k => mems_snoc G k hlt
    have hall := tots_le G A (i := i + 1) (j := A.length) (by omega) (Nat.le_refl _)
    rw [List.take_length] at hall
    obtain ⟨x, hx⟩ : ∃ x, x = A[i] := ⟨_, rfl⟩
    rw [← hx] at e2 hts hms
    have a1 := paPool x
    have a2 := paKey x
    have a3 := paRew x
    have hrw := x.hrew
    have bad : ∀ {fr : Fr} {st' : St} {y : D}, ¬ tots G A < 9223372036854775808 → fr.get 4 = y → loadD Tryz.prog st' 99 y = some (.agg [.list 0 [] .full]) → fr.get 5 = .int .i64 9 → ∃ d, OfAns G A P d ∧ Ends Tryz.prog [.cell 4 99, .tmp 5] (flAll st) d .ret fr st' := by
      intro fr st' y hn h4 hl h5
      exact ⟨_, by unfold OfAns; rw [if_neg hn], fin_st h4 hl rfl h5⟩
    by_cases hz : x.pool = zH
    · have q := eqH x.pool zH
      rw [decide_eq_true hz] at q
      have hc : cnt G x = 0 := by unfold cnt; rw [if_pos hz]
      rw [hc] at hts
      replace hts := hts.trans (Nat.add_zero _)
      rw [← hts]
      repeat (first | with_reducible refine zg ?_ | (with_reducible refine zo ?_; (conv => { arg 1; simp (disch := (first | omega | (with_unfolding_all exact byrfl rfl))) only [evOp, loadI, evX, ofValue, ofValue1, binD, pairsD, evCall, builtinD, D.mem, D.cells, Int.reduceToNat, reduceCtorEq, Nat.reduceBEq, bs1, bs2, bs3, mx1, mx2, splice_one, mx3, e1, e2, ld_box, Ac.tzV, Ac.splV, accD_length, tsAc, fr_48_1, a1, bd39, q] }); with_reducible refine s1 ?_))
      refine turn_go (A.length - (i + 1)) (by omega) ?_
      repeat (first | with_reducible refine zg ?_ | (with_reducible refine zo ?_; (conv => { arg 1; simp (disch := (first | omega | (with_unfolding_all exact byrfl rfl))) only [evOp, loadI, evX, ofValue, ofValue1, binD, pairsD, evCall, builtinD, D.mem, D.cells, Int.reduceToNat, reduceCtorEq, Nat.reduceBEq, bs1, bs2, bs3] }); with_reducible refine s1 ?_))
      refine ⟨i + 1, B, ts, _, rfl, by omega, by rw [hts]; exact hT, hB, fun k => ?_, rfl, rfl⟩
      rw [hM k, hms k, if_neg fun h => h.2.1 hz, List.append_nil]
    have q := eqH x.pool zH
    rw [decide_eq_false hz] at q
    have hc : cnt G x = amt G x := by unfold cnt; rw [if_neg hz]
    rw [hc] at hts
    have hg : getM x.key o = G x.key := by rw [hG]
    have rW := fun fl st => run_up rzMUp (r_w2 fl (G x.key) x.rew (hGl _) hrw st)
    have ham : amt G x = G x.key + x.rew := rfl
    by_cases ho1 : G x.key + x.rew < 18446744073709551616
    case neg =>
      have e : sumRes (G x.key + x.rew) = .tuple [.int .u64 0, .int .i64 9] := by unfold sumRes; rw [if_neg ho1]
      rw [e] at rW
      have d9 : decide ((9 : Int) ≠ 0) = true := rfl
      repeat (first | with_reducible refine zg ?_ | (with_reducible refine zo ?_; (conv => { arg 1; simp (disch := (first | omega | (with_unfolding_all exact byrfl rfl))) only [evOp, loadI, evX, ofValue, ofValue1, binD, pairsD, evCall, builtinD, D.mem, D.cells, Int.reduceToNat, reduceCtorEq, Nat.reduceBEq, bs1, bs2, bs3, mx1, mx2, splice_one, mx3, e1, e2, ld_box, Ac.tzV, Ac.splV, accD_length, tsAc, fr_48_0, fr_48_1, fr_48_3, Nat.zero_add, a1, a2, a3, bd39, q, lkS, hg, bs2U, rW, d9, bd99, splX, ts_99] }); with_reducible refine s1 ?_))
      exact bad (by omega) (y := .ref (st.blk.length + 0) 0) rfl (by rw [load_ext]; exact pt94 _) rfl
    have e : sumRes (G x.key + x.rew) = .tuple [.int .u64 (G x.key + x.rew : Nat), .int .i64 0] := by unfold sumRes; rw [if_pos ho1]
    rw [e, ← ham] at rW
    rw [← ham] at ho1
    have rA := fun fl st => run_up rzMUp (r_wadd fl (tots G (A.take i)) (amt G x) (by omega) ho1 st)
    by_cases ho2 : 18446744073709551616 ≤ tots G (A.take i) + amt G x
    · rw [if_pos ho2] at rA
      have d9 : decide ((9 : Int) ≠ 0) = true := rfl
      repeat (first | with_reducible refine zg ?_ | (with_reducible refine zo ?_; (conv => { arg 1; simp (disch := (first | omega | (with_unfolding_all exact byrfl rfl))) only [evOp, loadI, evX, ofValue, ofValue1, binD, pairsD, evCall, builtinD, D.mem, D.cells, Int.reduceToNat, reduceCtorEq, Nat.reduceBEq, bs1, bs2, bs3, mx1, mx2, splice_one, mx3, e1, e2, ld_box, Ac.tzV, Ac.splV, accD_length, tsAc, fr_48_0, fr_48_1, fr_48_3, Nat.zero_add, a1, a2, a3, bd39, q, lkS, hg, bs2U, rW, d00, rA, d9, bd99, splX, ts_99] }); with_reducible refine s1 ?_))
      exact bad (by omega) (y := .ref (st.blk.length + 0) 0) rfl (by rw [load_ext]; exact pt94 _) rfl
    rw [if_neg ho2, ← hts] at rA
    by_cases ho3 : tots G (A.take (i + 1)) < 9223372036854775808
    case neg =>
      have dt : decide ((9223372036854775808 : Int) ≤ (tots G (A.take (i + 1)) : Int)) = true := decide_eq_true (by omega)
      repeat (first | with_reducible refine zg ?_ | (with_reducible refine zo ?_; (conv => { arg 1; simp (disch := (first | omega | (with_unfolding_all exact byrfl rfl))) only [evOp, loadI, evX, ofValue, ofValue1, binD, pairsD, evCall, builtinD, D.mem, D.cells, Int.reduceToNat, reduceCtorEq, Nat.reduceBEq, bs1, bs2, bs3, mx1, mx2, splice_one, mx3, e1, e2, ld_box, Ac.tzV, Ac.splV, accD_length, tsAc, fr_48_0, fr_48_1, fr_48_3, Nat.zero_add, a1, a2, a3, bd39, q, lkS, hg, bs2U, rW, d00, rA, dt, bd99, splX, ts_99] }); with_reducible refine s1 ?_))
      exact bad (by omega) (y := .ref (st.blk.length + 0) 0) rfl (by rw [load_ext]; exact pt94 _) rfl
    have dt : decide ((9223372036854775808 : Int) ≤ (tots G (A.take (i + 1)) : Int)) = false := decide_eq_false (by omega)
    by_cases hp : 0 < amt G x
    case neg =>
      have dp : decide ((0 : Int) < (amt G x : Int)) = false := decide_eq_false (by omega)
      repeat (first | with_reducible refine zg ?_ | (with_reducible refine zo ?_; (conv => { arg 1; simp (disch := (first | omega | (with_unfolding_all exact byrfl rfl))) only [evOp, loadI, evX, ofValue, ofValue1, binD, pairsD, evCall, builtinD, D.mem, D.cells, Int.reduceToNat, reduceCtorEq, Nat.reduceBEq, bs1, bs2, bs3, mx1, mx2, splice_one, mx3, e1, e2, ld_box, Ac.tzV, Ac.splV, accD_length, tsAc, fr_48_0, fr_48_1, fr_48_3, Nat.zero_add, a1, a2, a3, bd39, q, lkS, hg, bs2U, rW, d00, rA, dt, dp] }); with_reducible refine s1 ?_))
      refine turn_go (A.length - (i + 1)) (by omega) ?_
      repeat (first | with_reducible refine zg ?_ | (with_reducible refine zo ?_; (conv => { arg 1; simp (disch := (first | omega | (with_unfolding_all exact byrfl rfl))) only [evOp, loadI, evX, ofValue, ofValue1, binD, pairsD, evCall, builtinD, D.mem, D.cells, Int.reduceToNat, reduceCtorEq, Nat.reduceBEq, bs1, bs2, bs3] }); with_reducible refine s1 ?_))
      refine ⟨i + 1, B, ts, _, rfl, by omega, ho3, hB, fun k => ?_, rfl, rfl⟩
      rw [hM k, hms k, if_neg fun h => hp h.2.2, List.append_nil]
    have dp : decide ((0 : Int) < (amt G x : Int)) = true := decide_eq_true (by omega)
    have bP := bdPay x.key (amt G x)
    have hlen : (ML.getM x.pool B).1.length ≤ 64 := by
      rw [hM]
      unfold mems accs
      rw [List.length_map]
      refine Nat.le_trans (List.length_filter_le _ _) ?_
      rw [List.length_take]; omega
    have hgr := rowsB_gr hB x.pool
    repeat (first | with_reducible refine zg ?_ | (with_reducible refine zo ?_; (conv => { arg 1; simp (disch := (first | omega | (with_unfolding_all exact byrfl rfl))) only [evOp, loadI, evX, ofValue, ofValue1, binD, pairsD, evCall, builtinD, D.mem, D.cells, Int.reduceToNat, reduceCtorEq, Nat.reduceBEq, bs1, bs2, bs3, mx1, mx2, splice_one, mx3, e1, e2, ld_box, Ac.tzV, Ac.splV, accD_length, tsAc, fr_48_0, fr_48_1, fr_48_3, Nat.zero_add, a1, a2, a3, bd39, q, lkS, hg, bs2U, rW, d00, rA, dt, dp, bP, bsPay, meR] }); with_reducible refine s1 ?_))
    (with_reducible refine so_cons ?_); conv => { arg 1; simp (disch := (first | omega | (with_unfolding_all exact byrfl rfl))) only [evOp, loadI, evX, ofValue, ofValue1, binD, pairsD, evCall, builtinD, D.mem, D.cells, Int.reduceToNat, reduceCtorEq, Nat.reduceBEq, bs1, bs2, bs3, tiPay] }
    refine w1_appN hgr tePay tsPay tbPay tzPay ⟨payD_length _, by decide, by decide⟩ (rowD_length payD_length _) (payD_length _) (by unfold mostRow; omega) (by decide) ?_
    intro ts1 tip1 g1 pres
    have es := fun c0 c1 c2 rest => esR (st := st) (c0 := c0) (c1 := c1) (c2 := c2) (bs := bs) (rest := rest) (ts := ts1) (B := B) (k := x.pool) (n := (ML.getM x.pool B).1.length + 1) (ds := rowD payD (ML.getM x.pool B).1 ++ payD (x.key, amt G x)) (l := (ML.getM x.pool B).1 ++ [(x.key, amt G x)]) (tip := tip1) (by simp) (by rw [rowD_append, rowD_one])
    repeat (first | with_reducible refine zg ?_ | (with_reducible refine zo ?_; (conv => { arg 1; simp (disch := (first | omega | (with_unfolding_all exact byrfl rfl))) only [evOp, loadI, evX, ofValue, ofValue1, binD, pairsD, evCall, builtinD, D.mem, D.cells, Int.reduceToNat, reduceCtorEq, Nat.reduceBEq, bs1, bs2, bs3, es] }); with_reducible refine s1 ?_))
    refine turn_go (A.length - (i + 1)) (by omega) ?_
    repeat (first | with_reducible refine zg ?_ | (with_reducible refine zo ?_; (conv => { arg 1; simp (disch := (first | omega | (with_unfolding_all exact byrfl rfl))) only [evOp, loadI, evX, ofValue, ofValue1, binD, pairsD, evCall, builtinD, D.mem, D.cells, Int.reduceToNat, reduceCtorEq, Nat.reduceBEq, bs1, bs2, bs3] }); with_reducible refine s1 ?_))
    refine ⟨i + 1, ML.setM x.pool ((ML.getM x.pool B).1 ++ [(x.key, amt G x)], tip1) B, ts1, _, rfl, by omega, ho3, rowsB_put hB (by rw [List.length_append, List.length_singleton]; exact g1) pres, fun k => ?_, rfl, rfl⟩
    rw [ML.get_setM, hms k]
    by_cases hk : k = x.pool
    · rw [if_pos hk, if_pos ⟨hk.symm, hz, hp⟩, hk, hM]
    · rw [if_neg hk, if_neg fun h => hk h.1.symm, List.append_nil, hM]
  have hie : i = A.length := by omega
  subst hie
  rw [List.take_length] at hT hM
  clear hA0
  obtain ⟨pre, hpre⟩ : ∃ p : List Blk, p = .mp (entsM KH 0 o) o.length :: (bs ++ .cells (vC A P V sa sp sv) :: .mp (ML.entsM KH 0 B) B.length :: more) := ⟨_, rfl⟩
  rw [← hpre]
  have hv1 : pre[bs.length + 1]? = some (.cells (vC A P V sa sp sv)) := by
    rw [hpre, List.getElem?_cons_succ, List.getElem?_append_right (Nat.le_refl _), Nat.sub_self]; rfl
  have hm1 : pre[bs.length + 1 + 1]? = some (.mp (ML.entsM KH 0 B) B.length) := by
    rw [hpre, List.getElem?_cons_succ, List.getElem?_append_right (by omega), show bs.length + 1 - bs.length = 1 by omega]; rfl
  have hts0 := hB.1
  clear hpre hB
  generalize bs.length + 1 = j at hv1 hm1
  have hjl := (List.getElem?_eq_some_iff.1 hv1).1
  have hml := (List.getElem?_eq_some_iff.1 hm1).1
  have lv : ∀ rest, loadD Tryz.prog (st.ext (.cells [.list 0 [] .full] :: (pre ++ rest)) ts) 23 (.ref (st.blk.length + (j + 1)) 1) = some (.list P.length (rowD poolD P) sp) := by
    intro rest
    rw [load_ext, List.getElem?_cons_succ, List.getElem?_append_left hjl, hv1]
    exact pvP _ _ _
  have lk : ∀ rest ts k, lookupD Tryz.prog (st.ext (.cells [.list 0 [] .full] :: (pre ++ rest)) ts) 181 (.map (some (st.blk.length + (j + 1 + 1)))) (.agg (hD k)) false = some (.list (mems G k A).length (rowD payD (mems G k A)) (ML.getM k B).2) := by
    intro rest ts k
    rw [← hM k]
    exact ML.lookup_M (K := KH) (P := Tryz.prog) (st := st.ext (.cells [.list 0 [] .full] :: (pre ++ rest)) ts) (b := st.blk.length + (j + 1 + 1)) (l := B) (k := k) tmR (kOk k) z70 (by rw [lay_get, List.getElem?_cons_succ, List.getElem?_append_left hml, hm1])
  repeat (first | with_reducible refine zg ?_ | (with_reducible refine zo ?_; (conv => { arg 1; simp (disch := (first | omega | (with_unfolding_all exact byrfl rfl))) only [evOp, loadI, evX, ofValue, ofValue1, binD, pairsD, evCall, builtinD, D.mem, D.cells, Int.reduceToNat, reduceCtorEq, Nat.reduceBEq, bs1, bs2, bs3, mx1, mx2, splice_one, mx3, tz_99, fr_26_1, lv, lnPo] }); with_reducible refine s1 ?_))
  refine sk_while ⟨true, [2, 3], [(3, [3, 4, 6, 25, 26, 27]), (11, [4, 6, 9, 10, 11, 41, 42, 43]), (25, [4, 10, 16, 95, 96, 97]), (31, [4, 10, 16, 20, 95, 96, 97, 113, 114, 115])]⟩ rfl [4, 10, 16, 95, 96, 97] rfl (fun m fr st' => ∃ (i : Nat) (S : List XS) (tq : Tip) (ts : List (Nat × Nat)) (rest : List Blk), m = P.length - i ∧ i ≤ P.length ∧ Gr st.tips.length ts S.length 69 tq ∧ S.length ≤ i ∧ S.map xcore = shares G A (P.take i) ∧
    st' = st.ext (.cells [.list 0 [] .full] :: (pre ++ .cells [.list S.length (rowD xsD S) tq] :: rest)) ts ∧
    fr = [(4, .ref (st.blk.length + 0) 0), (10, .map (some (st.blk.length + (j + 1 + 1)))), (16, .ref (st.blk.length + (pre.length + 1)) 0), (95, .list P.length (rowD poolD P) sp), (96, .int .i64 P.length), (97, .int .i64 i)]) P.length ?_ ?_
  · refine ⟨0, [], .full, ts, [], rfl, by omega, gr_full hts0, Nat.le_refl _, rfl, rfl, ?_⟩
    repeat (first | with_reducible refine zg ?_ | (with_reducible refine zo ?_; (conv => { arg 1; simp (disch := (first | omega | (with_unfolding_all exact byrfl rfl))) only [evOp, loadI, evX, ofValue, ofValue1, binD, pairsD, evCall, builtinD, D.mem, D.cells, Int.reduceToNat, reduceCtorEq, Nat.reduceBEq, bs1, bs2, bs3] }); with_reducible refine s1 ?_))
    rfl
  clear lv hts0
  rintro m fr st' ⟨i, S, tq, ts, rest, rfl, hi, hg, hSl, hS, rfl, rfl⟩
  repeat (first | with_reducible refine zg ?_ | (with_reducible refine zo ?_; (conv => { arg 1; simp (disch := (first | omega | (with_unfolding_all exact byrfl rfl))) only [evOp, loadI, evX, ofValue, ofValue1, binD, pairsD, evCall, builtinD, D.mem, D.cells, Int.reduceToNat, reduceCtorEq, Nat.reduceBEq, bs1, bs2, bs3] }); with_reducible refine s1 ?_))
  refine sc_dec (fun hlt => ?_) (fun hge => ?_)
  · have hlt : i < P.length := by omega
    have e1 := @iaPo P sp i hlt
    have e2 := @prPo P i hlt
    have hsh : shares G A (P.take (i + 1)) = shares G A (P.take i) ++ (if mems G P[i].now.pool A = [] then [] else [(P[i].now, sumP (mems G P[i].now.pool A), mems G P[i].now.pool A)]) := by
      unfold shares
      rw [List.take_add_one, List.getElem?_eq_getElem hlt, Option.toList_some, List.filterMap_append]
      congr 1
      by_cases hd : mems G P[i].now.pool A = []
      · rw [if_pos hd, List.filterMap_cons, if_pos hd]; rfl
      · rw [if_neg hd, List.filterMap_cons, if_neg hd]; rfl
    obtain ⟨x, hx⟩ : ∃ x, x = P[i] := ⟨_, rfl⟩
    rw [← hx] at e2 hsh
    have a1 := ppNow x
    have a2 := ppNowPool x
    have lk1 := fun rest ts => lk rest ts x.now.pool
    have hma := mem_amt (G := G) (k := x.now.pool) hT
    have hsu := mems_le (G := G) x.now.pool A
    obtain ⟨l, hl⟩ : ∃ l, l = mems G x.now.pool A := ⟨_, rfl⟩
    have hll : l.length ≤ 64 := by
      rw [hl]
      unfold mems accs
      rw [List.length_map]
      refine Nat.le_trans (List.length_filter_le _ _) ?_
      omega
    rw [← hl] at lk1 hma hsu hsh
    generalize (ML.getM x.now.pool B).2 = tl at lk1
    by_cases hn : l = []
    · rw [if_pos hn, List.append_nil] at hsh
      have dn : decide ((l.length : Int) = 0) = true := decide_eq_true (by rw [hn]; rfl)
      repeat (first | with_reducible refine zg ?_ | (with_reducible refine zo ?_; (conv => { arg 1; simp (disch := (first | omega | (with_unfolding_all exact byrfl rfl))) only [evOp, loadI, evX, ofValue, ofValue1, binD, pairsD, evCall, builtinD, D.mem, D.cells, Int.reduceToNat, reduceCtorEq, Nat.reduceBEq, bs1, bs2, bs3, mx1, mx2, splice_one, mx3, e1, e2, ld_box, Po.tzV, Po.splV, poolD_length, tsPo, fr_56_0, fr_54_0, a2, lk1, ln_70, dn] }); with_reducible refine s1 ?_))
      refine turn_go (P.length - (i + 1)) (by omega) ?_
      repeat (first | with_reducible refine zg ?_ | (with_reducible refine zo ?_; (conv => { arg 1; simp (disch := (first | omega | (with_unfolding_all exact byrfl rfl))) only [evOp, loadI, evX, ofValue, ofValue1, binD, pairsD, evCall, builtinD, D.mem, D.cells, Int.reduceToNat, reduceCtorEq, Nat.reduceBEq, bs1, bs2, bs3] }); with_reducible refine s1 ?_))
      exact ⟨i + 1, S, tq, ts, _, rfl, by omega, hg, by omega, by rw [hsh]; exact hS, rfl, rfl⟩
    rw [if_neg hn] at hsh
    have hpos := List.length_pos_iff.2 hn
    have dn : decide ((l.length : Int) = 0) = false := decide_eq_false (by omega)
    have bX := bdXs x.now l tl hma
    have hsZ := splZx ⟨x.now, 0, l, tl, by decide, hma⟩
    have hxl := xsD_length ⟨x.now, 0, l, tl, by decide, hma⟩
    repeat (first | with_reducible refine zg ?_ | (with_reducible refine zo ?_; (conv => { arg 1; simp (disch := (first | omega | (with_unfolding_all exact byrfl rfl))) only [evOp, loadI, evX, ofValue, ofValue1, binD, pairsD, evCall, builtinD, D.mem, D.cells, Int.reduceToNat, reduceCtorEq, Nat.reduceBEq, bs1, bs2, bs3, mx1, mx2, splice_one, mx3, e1, e2, ld_box, Po.tzV, Po.splV, poolD_length, tsPo, fr_56_0, fr_54_0, a1, a2, lk1, ln_70, dn, bX, tz78, ts_s, zS78_len, hsZ, hxl] }); with_reducible refine s1 ?_))
    have hst : ∀ k, sumP (l.take k) < 18446744073709551616 := fun k => by
      have := sum_take k l
      omega
    refine sk_while ⟨true, [2, 3], [(3, [3, 4, 6, 25, 26, 27]), (11, [4, 6, 9, 10, 11, 41, 42, 43]), (25, [4, 10, 16, 95, 96, 97]), (31, [4, 10, 16, 20, 95, 96, 97, 113, 114, 115])]⟩ rfl [4, 10, 16, 20, 95, 96, 97, 113, 114, 115] rfl (fun m fr st' => ∃ (k : Nat) (more : List Blk), m = l.length - k ∧ k ≤ l.length ∧
      st' = st.ext (.cells [.list 0 [] .full] :: (pre ++ .cells [.list S.length (rowD xsD S) tq] :: (rest ++ .cells (poolD x) :: .cells (xsD ⟨x.now, sumP (l.take k), l, tl, hst k, hma⟩) :: more))) ts ∧
      fr = [(4, .ref (st.blk.length + 0) 0), (10, .map (some (st.blk.length + (j + 1 + 1)))), (16, .ref (st.blk.length + (pre.length + 1)) 0), (20, .ref (st.blk.length + (pre.length + (rest.length + 1 + 1) + 1)) 0), (95, .list P.length (rowD poolD P) sp), (96, .int .i64 P.length), (97, .int .i64 i), (113, .list l.length (rowD payD l) tl), (114, .int .i64 l.length), (115, .int .i64 k)]) l.length ?_ ?_
    · refine ⟨0, [], rfl, by omega, rfl, ?_⟩
      repeat (first | with_reducible refine zg ?_ | (with_reducible refine zo ?_; (conv => { arg 1; simp (disch := (first | omega | (with_unfolding_all exact byrfl rfl))) only [evOp, loadI, evX, ofValue, ofValue1, binD, pairsD, evCall, builtinD, D.mem, D.cells, Int.reduceToNat, reduceCtorEq, Nat.reduceBEq, bs1, bs2, bs3] }); with_reducible refine s1 ?_))
      rfl
    rintro m fr st' ⟨k, more, rfl, hk, rfl, rfl⟩
    repeat (first | with_reducible refine zg ?_ | (with_reducible refine zo ?_; (conv => { arg 1; simp (disch := (first | omega | (with_unfolding_all exact byrfl rfl))) only [evOp, loadI, evX, ofValue, ofValue1, binD, pairsD, evCall, builtinD, D.mem, D.cells, Int.reduceToNat, reduceCtorEq, Nat.reduceBEq, bs1, bs2, bs3] }); with_reducible refine s1 ?_))
    refine sc_dec (fun hlt2 => ?_) (fun hge2 => ?_)
    · have hlt2 : k < l.length := by omega
      have e3 := iaP (tip := tl) hlt2
      have e4 := fun st => ldP hlt2 st
      have e5 := ptP1 l[k]
      have hs1 := hst (k + 1)
      rw [sum_snoc hlt2] at hs1
      have xS := xpStake ⟨x.now, sumP (l.take k), l, tl, hst k, hma⟩
      have sS := fun c0 c1 a pre rest more ts => stSh (st := st) (c0 := c0) (c1 := c1) (a := a) (pre := pre) (rest := rest) (more := more) (ts := ts) (y := ⟨x.now, sumP (l.take k), l, tl, hst k, hma⟩) (n := sumP (l.take k) + l[k].2) hs1
      have ia := ib_addm (sumP (l.take k)) l[k].2
      rw [Nat.mod_eq_of_lt hs1] at ia
      repeat (first | with_reducible refine zg ?_ | (with_reducible refine zo ?_; (conv => { arg 1; simp (disch := (first | omega | (with_unfolding_all exact byrfl rfl))) only [evOp, loadI, evX, ofValue, ofValue1, binD, pairsD, evCall, builtinD, D.mem, D.cells, Int.reduceToNat, reduceCtorEq, Nat.reduceBEq, bs1, bs2, bs3, mx1, mx2, splice_one, mx3, e3, e4, tzPay, tsPay, splP, payD_length, fr_80_1, fr_80_1, fr_80_0, fr_105_1, Nat.zero_add, e5, xS, sS, ia, xsD_length, ts29] }); with_reducible refine s1 ?_))
      refine turn_go (l.length - (k + 1)) (by omega) ?_
      repeat (first | with_reducible refine zg ?_ | (with_reducible refine zo ?_; (conv => { arg 1; simp (disch := (first | omega | (with_unfolding_all exact byrfl rfl))) only [evOp, loadI, evX, ofValue, ofValue1, binD, pairsD, evCall, builtinD, D.mem, D.cells, Int.reduceToNat, reduceCtorEq, Nat.reduceBEq, bs1, bs2, bs3] }); with_reducible refine s1 ?_))
      refine ⟨k + 1, more ++ [.cells (payD l[k])], rfl, by omega, ?_, rfl⟩
      simp only [sum_snoc hlt2]
    have hke : k = l.length := by omega
    have hy1 : sumP (l.take k) = sumP l := by rw [hke, List.take_length]
    obtain ⟨y, hy⟩ : ∃ y : XS, y = ⟨x.now, sumP (l.take k), l, tl, hst k, hma⟩ := ⟨_, rfl⟩
    rw [← hy]
    have hyc : xcore y = (x.now, sumP l, l) := by rw [hy]; unfold xcore; simp only [hy1]
    have xA := xpAll y
    have bS := bsSh y
    have hyl := xsD_length y
    repeat (first | with_reducible refine zg ?_ | (with_reducible refine zo ?_; (conv => { arg 1; simp (disch := (first | omega | (with_unfolding_all exact byrfl rfl))) only [evOp, loadI, evX, ofValue, ofValue1, binD, pairsD, evCall, builtinD, D.mem, D.cells, Int.reduceToNat, reduceCtorEq, Nat.reduceBEq, bs1, bs2, bs3, mx1, mx2, splice_one, mx3, xA, bS, hyl, ld_box, Nat.zero_add, fr_99_0, pt94s] }); with_reducible refine s1 ?_))
    (with_reducible refine so_cons ?_); conv => { arg 1; simp (disch := (first | omega | (with_unfolding_all exact byrfl rfl))) only [evOp, loadI, evX, ofValue, ofValue1, binD, pairsD, evCall, builtinD, D.mem, D.cells, Int.reduceToNat, reduceCtorEq, Nat.reduceBEq, bs1, bs2, bs3, tiSh] }
    refine w1_app (m := 1) teSh ts_s tbSh tz78 ⟨zS78_len, by decide, by decide⟩ (rowD_length xsD_length _) (xsD_length y) (by unfold mostRow; omega) hg ?_
    intro ts1 tip1 g1
    repeat (first | with_reducible refine zg ?_ | (with_reducible refine zo ?_; (conv => { arg 1; simp (disch := (first | omega | (with_unfolding_all exact byrfl rfl))) only [evOp, loadI, evX, ofValue, ofValue1, binD, pairsD, evCall, builtinD, D.mem, D.cells, Int.reduceToNat, reduceCtorEq, Nat.reduceBEq, bs1, bs2, bs3, mx1, mx2, splice_one, mx3, splX, fr_99_0, tsL97] }); with_reducible refine s1 ?_))
    refine turn_go (P.length - (i + 1)) (by omega) ?_
    repeat (first | with_reducible refine zg ?_ | (with_reducible refine zo ?_; (conv => { arg 1; simp (disch := (first | omega | (with_unfolding_all exact byrfl rfl))) only [evOp, loadI, evX, ofValue, ofValue1, binD, pairsD, evCall, builtinD, D.mem, D.cells, Int.reduceToNat, reduceCtorEq, Nat.reduceBEq, bs1, bs2, bs3] }); with_reducible refine s1 ?_))
    refine ⟨i + 1, S ++ [y], tip1, ts1, rest ++ .cells (poolD x) :: .cells (xsD y) :: more, rfl, by omega, by rw [List.length_append, List.length_singleton]; exact g1, by rw [List.length_append, List.length_singleton]; omega, ?_, ?_, rfl⟩
    · rw [List.map_append, hS, hsh, List.map_cons, List.map_nil, hyc]
    · rw [List.length_append, List.length_singleton, rowD_append, rowD_one]
  have hie : i = P.length := by omega
  subst hie
  rw [List.take_length] at hS
  repeat (first | with_reducible refine zg ?_ | (with_reducible refine zo ?_; (conv => { arg 1; simp (disch := (first | omega | (with_unfolding_all exact byrfl rfl))) only [evOp, loadI, evX, ofValue, ofValue1, binD, pairsD, evCall, builtinD, D.mem, D.cells, Int.reduceToNat, reduceCtorEq, Nat.reduceBEq, bs1, bs2, bs3, mx1, mx2, splice_one, mx3, pt94, splX, ts_99] }); with_reducible refine s1 ?_))
  have hE : (S.map mkS).map core = shares G A P := by rw [List.map_map, ← hS]; rfl
  obtain ⟨tq', hto⟩ := out_shares (fl := flAll st) (s := st.ext (.cells [.list S.length (rowD xsD S) tq] :: (pre ++ .cells [.list S.length (rowD xsD S) tq] :: rest)) ts) S tq
  refine ⟨.tuple [.agg (standD (S.map mkS) tq'), .int .i64 0], by unfold OfAns; rw [if_pos hT]; exact ⟨_, _, hE, rfl⟩, ?_⟩
  exact fin_sh (x := .ref (st.blk.length + 0) 0) rfl (by rw [load_ext]; exact pt94 _) hto rfl
end Go.Ab.Sd

/-
  How stake stands: what the shares are. Plain laws.
-/
namespace Go.Ab.Sd
open Go Go.Proofs Go.Ab Go.Ab.G Go.Ab.Cn Go.Ab.Rz
set_option maxRecDepth 100000
set_option maxHeartbeats 4000000
theorem acc_le (l : List CoinM) (ht : tot l < 9223372036854775808) : sumP (accS l) ≤ tot l := by
  have key : ∀ (l : List CoinM) (a : List PayM), sumP a + tot l < 9223372036854775808 →
      sumP (l.foldl (fun acc c => if c.out.stake = zH then acc else addM c.out.stake c.out.am acc) a) ≤ sumP a + tot l := by
    intro l
    induction l with
    | nil => intro a _; simp [tot]
    | cons c l ih =>
      intro a ht
      rw [List.foldl_cons]
      rw [tot_cons] at ht ⊢
      by_cases hz : c.out.stake = zH
      · rw [if_pos hz]
        have h1 := ih a (by omega)
        omega
      · rw [if_neg hz]
        have h3 := get_le c.out.stake a
        have h4 := sum_set c.out.stake ((getM c.out.stake a + c.out.am) % 18446744073709551616) a
        have hmod : (getM c.out.stake a + c.out.am) % 18446744073709551616 = getM c.out.stake a + c.out.am := Nat.mod_eq_of_lt (by omega)
        rw [hmod] at h4
        have e : addM c.out.stake c.out.am a = setM c.out.stake (getM c.out.stake a + c.out.am) a := by unfold addM; rw [hmod]
        rw [e]
        have h1 := ih (setM c.out.stake (getM c.out.stake a + c.out.am) a) (by omega)
        omega
  have := key l [] (by simpa [sumP] using ht)
  rw [show sumP ([] : List PayM) = 0 from rfl, Nat.zero_add] at this
  exact this
theorem rise_pw {L : List H32} (h : L.Pairwise fun a b => lessB a.b b.b = true) : riseK L = true := by
  rw [rise_iff]
  intro k hk
  exact List.pairwise_iff_getElem.1 h k (k + 1) (by omega) hk (by omega)
theorem nodup_pw {L : List H32} (h : L.Pairwise fun a b => lessB a.b b.b = true) : L.Nodup := by
  refine h.imp fun {a b} hl e => ?_
  rw [e, less_irrefl] at hl
  cases hl
theorem stk_mem : ∀ {S : List ShareM} {s : ShareM}, (S.map (·.pool)).Nodup → s ∈ S → stk s.pool S = s.stake
  | x :: S, s, hn, h => by
    simp only [List.map_cons, List.nodup_cons] at hn
    unfold stk
    rcases List.mem_cons.1 h with rfl | h
    · rw [if_pos rfl]
    · have hne : x.pool ≠ s.pool := by
        intro e
        refine hn.1 ?_
        rw [e]
        exact List.mem_map_of_mem (f := fun x : ShareM => x.pool) h
      rw [if_neg hne, stk_mem hn.2 h]
def gS (G : H32 → Nat) (l : List PayM) : Nat := (l.map fun m => G m.1).sum
def allS (G : H32 → Nat) (S : List ShareM) : Nat := (S.map fun s => gS G s.mem).sum
def live (G : H32 → Nat) (A : List AccM) (P : List PoolM) : List PoolM := P.filter fun p => decide (mems G p.now.pool A ≠ [])
theorem shares_live (G : H32 → Nat) (A : List AccM) : ∀ P : List PoolM, shares G A P = (live G A P).map fun p => (p.now, sumP (mems G p.now.pool A), mems G p.now.pool A)
  | [] => rfl
  | p :: P => by
    have ih := shares_live G A P
    unfold shares live at *
    by_cases h : mems G p.now.pool A = []
    · rw [List.filterMap_cons, if_pos h, List.filter_cons_of_neg (by simp [h])]
      exact ih
    · rw [List.filterMap_cons, if_neg h, List.filter_cons_of_pos (by simp [h]), List.map_cons, ← ih]
theorem gS_mems (G : H32 → Nat) (k : H32) (A : List AccM) : gS G (mems G k A) = ((accs G k A).map fun a => G a.key).sum := by
  unfold gS mems
  rw [List.map_map]
  rfl
structure MayS (G : H32 → Nat) (A : List AccM) (P : List PoolM) (n : Nat) (S : List ShareM) : Prop where
  ok : totOk S
  len : S.length ≤ 32
  lenM : ∀ s ∈ S, s.mem.length ≤ 64
  pool : ∀ s ∈ S, ∃ p, findL kP s.pool.b P = some p ∧ p.now = seatS s
  stk : ∀ s ∈ S, stk s.pool S = s.stake
  acc : ∀ s ∈ S, ∀ m ∈ s.mem, ∃ a, findL kA m.1.b A = some a ∧ a.pool = s.pool ∧ m.2 = G m.1 + a.rew
  all : allS G S ≤ n
  ge : allS G S ≤ (S.map (·.stake)).sum
  rew : (S.map (·.stake)).sum - allS G S ≤ rewS A
theorem may_stand {G : H32 → Nat} {A : List AccM} {P : List PoolM} {V : List VoteM} {t : Tw CoinM} (hm : MayR A P V) (hok : Ok t) (hG : G = fun k => getM k (sortP (accS (Cn.vals t)))) (hT : tots G A < 9223372036854775808) {S : List ShareM} (hS : S.map core = shares G A P) : MayS G A P (tot (Cn.vals t)) S := by
  rw [shares_live] at hS
  obtain ⟨L, hL⟩ : ∃ L, L = live G A P := ⟨_, rfl⟩
  rw [← hL] at hS
  have hLP : ∀ p ∈ L, p ∈ P ∧ mems G p.now.pool A ≠ [] := by
    intro p hp
    rw [hL] at hp
    have := List.mem_filter.1 hp
    simpa using this
  have hsub : L.Sublist P := by rw [hL]; exact List.filter_sublist
  have hpools : S.map (·.pool) = L.map fun p => p.now.pool := by
    have := congrArg (fun l : List (SeatM × Nat × List PayM) => l.map fun c => c.1.pool) hS
    simpa [List.map_map, Function.comp_def, core, seatS] using this
  have hpw : (L.map fun p => p.now.pool).Pairwise fun a b => lessB a.b b.b = true := by
    rw [List.pairwise_map]
    exact List.Pairwise.sublist hsub hm.up
  have hnd := nodup_pw hpw
  have hstk : S.map (·.stake) = L.map fun p => sumP (mems G p.now.pool A) := by
    have := congrArg (fun l : List (SeatM × Nat × List PayM) => l.map fun c => c.2.1) hS
    simpa [List.map_map, Function.comp_def, core] using this
  have hall : allS G S = (L.map fun p => gS G (mems G p.now.pool A)).sum := by
    have := congrArg (fun l : List (SeatM × Nat × List PayM) => (l.map fun c => gS G c.2.2).sum) hS
    simpa [allS, List.map_map, Function.comp_def, core] using this
  have hmem : ∀ s ∈ S, ∃ p ∈ L, p.now = seatS s ∧ s.stake = sumP (mems G s.pool A) ∧ s.mem = mems G s.pool A := by
    intro s hs
    have h1 : core s ∈ L.map fun p => (p.now, sumP (mems G p.now.pool A), mems G p.now.pool A) := hS ▸ List.mem_map_of_mem hs
    obtain ⟨p, hp, e⟩ := List.mem_map.1 h1
    unfold core at e
    injection e with e1 e2
    injection e2 with e2 e3
    have ep : p.now.pool = s.pool := by rw [e1]; rfl
    rw [ep] at e2 e3
    exact ⟨p, hp, e1, e2.symm, e3.symm⟩
  have hn : (L.map fun p => sumP (mems G p.now.pool A)).sum ≤ tots G A := by
    have h := accs_sum G (amt G) hnd A
    rw [List.map_map] at h
    have e : (L.map fun p => sumP (mems G p.now.pool A)) = L.map ((fun k => ((accs G k A).map (amt G)).sum) ∘ fun p => p.now.pool) := by
      refine List.map_congr_left fun p _ => ?_
      rw [mems_sum]; rfl
    rw [e]
    exact h
  have hsplit : (L.map fun p => sumP (mems G p.now.pool A)).sum = (L.map fun p => gS G (mems G p.now.pool A)).sum + (L.map fun p => ((accs G p.now.pool A).map fun a => a.rew).sum).sum := by
    rw [← sum_add]
    congr 1
    refine List.map_congr_left fun p _ => ?_
    rw [mems_sum, gS_mems, ← sum_add]
    rfl
  have hr : (L.map fun p => ((accs G p.now.pool A).map fun a => a.rew).sum).sum ≤ rewS A := by
    have h := accs_sum G (fun a => a.rew) hnd A
    rw [List.map_map] at h
    refine Nat.le_trans h ?_
    unfold rewS sumL
    refine sum_mono (fun a => ?_) A
    split <;> omega
  have hg : (L.map fun p => gS G (mems G p.now.pool A)).sum ≤ tot (Cn.vals t) := by
    have h := accs_sum G (fun a => G a.key) hnd A
    rw [List.map_map] at h
    have e : (L.map fun p => gS G (mems G p.now.pool A)) = L.map ((fun k => ((accs G k A).map fun a => G a.key).sum) ∘ fun p => p.now.pool) := by
      refine List.map_congr_left fun p _ => ?_
      rw [gS_mems]; rfl
    rw [e]
    refine Nat.le_trans h ?_
    have h2 : (A.map fun a => if a.pool = zH then 0 else G a.key).sum ≤ (A.map fun a => G a.key).sum := by
      refine sum_mono (fun a => ?_) A
      split <;> omega
    refine Nat.le_trans h2 ?_
    have h3 : (A.map (·.key)).Nodup := by
      refine nodup_pw ?_
      rw [List.pairwise_map]
      exact hm.ua
    have h4 := get_sum (sortP (accS (Cn.vals t))) h3
    rw [List.map_map] at h4
    have h5 := perm_sum (sort_perm (accS (Cn.vals t)))
    have h6 := acc_le (Cn.vals t) hok.tot
    have h7 : (A.map fun a => G a.key) = A.map ((fun k => getM k (sortP (accS (Cn.vals t)))) ∘ fun a => a.key) := by rw [hG]; rfl
    rw [h7]
    omega
  refine ⟨⟨?_, ?_, ?_⟩, ?_, ?_, ?_, ?_, ?_, ?_, ?_, ?_⟩
  · rw [hpools]; exact rise_pw hpw
  · intro s hs
    obtain ⟨p, hp, e1, e2, e3⟩ := hmem s hs
    obtain ⟨hpP, hne⟩ := hLP p hp
    have ep : p.now.pool = s.pool := by rw [e1]; rfl
    have hb := hm.pool p hpP
    simp only [poolB, Bool.and_eq_true] at hb
    have hb2 := hb.1.2
    rw [e1] at hb2
    unfold seatB at hb2
    rw [decide_eq_true_eq] at hb2
    refine ⟨hb2.1, hb2.2.1, hb2.2.2, by rw [e3, ← ep]; exact hne, ?_, ?_, by rw [e3, e2], ?_⟩
    · rw [e3]
      unfold mems
      rw [List.map_map]
      refine rise_pw ?_
      rw [List.pairwise_map]
      exact List.Pairwise.sublist List.filter_sublist hm.ua
    · intro m hmm
      rw [e3] at hmm
      unfold mems accs at hmm
      obtain ⟨a, ha, rfl⟩ := List.mem_map.1 hmm
      have h2 := (List.mem_filter.1 ha).2
      simp only [decide_eq_true_eq] at h2
      show amt G a ≠ 0
      omega
    · rw [e2]
      exact Nat.lt_of_le_of_lt (mems_le _ _) hT
  · rw [hstk]; exact Nat.lt_of_le_of_lt hn hT
  · have h1 : S.length = L.length := by have := congrArg List.length hS; simpa using this
    rw [h1]
    exact Nat.le_trans hsub.length_le hm.lp
  · intro s hs
    obtain ⟨p, hp, e1, e2, e3⟩ := hmem s hs
    rw [e3]
    unfold mems accs
    rw [List.length_map]
    exact Nat.le_trans (List.length_filter_le _ _) hm.la
  · intro s hs
    obtain ⟨p, hp, e1, e2, e3⟩ := hmem s hs
    have ep : p.now.pool = s.pool := by rw [e1]; rfl
    refine ⟨p, ?_, e1⟩
    rw [← ep]
    exact Up.find hm.up (hLP p hp).1
  · intro s hs
    exact stk_mem (by rw [hpools]; exact hnd) hs
  · intro s hs m hmm
    obtain ⟨p, hp, e1, e2, e3⟩ := hmem s hs
    rw [e3] at hmm
    unfold mems accs at hmm
    obtain ⟨a, ha, rfl⟩ := List.mem_map.1 hmm
    obtain ⟨h1, h2⟩ := List.mem_filter.1 ha
    simp only [decide_eq_true_eq] at h2
    exact ⟨a, Up.find hm.ua h1, h2.1, rfl⟩
  · rw [hall]; exact hg
  · rw [hall, hstk, hsplit]; omega
  · rw [hall, hstk, hsplit]; omega
end Go.Ab.Sd

/-
  StandMay: the law gone through.
-/
namespace Go.Ab.Sd
open Go Go.Proofs Go.Ab Go.Ab.G Go.Ab.Cn Go.Ab.Rz
set_option maxRecDepth 100000
set_option maxHeartbeats 4000000
theorem in_read (k : Nat) (p : List D) (h : Typed Tryz.prog k 139 p) : ∃ x : InM, p = inD x := by
  obtain ⟨k', parts, rfl, h1⟩ := typed_struct Tryz.underlying139 h
  obtain ⟨p1, q1, rfl, t1, _, h2⟩ := typedL_cons h1
  obtain ⟨p2, q2, rfl, t2, _, h3⟩ := typedL_cons h2
  cases typedL_nil h3
  obtain ⟨a, rfl⟩ := Rz.hash_read _ _ t1
  obtain ⟨n, rfl, hn⟩ := Rz.u64_read _ _ t2
  exact ⟨⟨a, n, hn⟩, rfl⟩
theorem out_read (k : Nat) (p : List D) (h : Typed Tryz.prog k 175 p) : ∃ x : OutM, p = Cn.outD x := by
  obtain ⟨k', parts, rfl, h1⟩ := typed_struct Tryz.underlying175 h
  obtain ⟨p1, q1, rfl, t1, _, h2⟩ := typedL_cons h1
  obtain ⟨p2, q2, rfl, t2, _, h3⟩ := typedL_cons h2
  obtain ⟨p3, q3, rfl, t3, _, h4⟩ := typedL_cons h3
  cases typedL_nil h4
  obtain ⟨a, rfl⟩ := Rz.hash_read _ _ t1
  obtain ⟨b, rfl⟩ := Rz.hash_read _ _ t2
  obtain ⟨n, rfl, hn⟩ := Rz.u64_read _ _ t3
  exact ⟨⟨a, b, n, hn⟩, rfl⟩
theorem coin_read (k : Nat) (p : List D) (h : Typed Tryz.prog k 177 p) : ∃ x : CoinM, p = coinD x := by
  obtain ⟨k', parts, rfl, h1⟩ := typed_struct Tryz.underlying177 h
  obtain ⟨p1, q1, rfl, t1, _, h2⟩ := typedL_cons h1
  obtain ⟨p2, q2, rfl, t2, _, h3⟩ := typedL_cons h2
  cases typedL_nil h3
  obtain ⟨a, rfl⟩ := in_read _ _ t1
  obtain ⟨b, rfl⟩ := out_read _ _ t2
  exact ⟨⟨a, b⟩, by simp [coinD]⟩
theorem coins_arg {x : D} (h : ArgIs Tryz.prog 88 x) : ∃ l : List CoinM, x = .list l.length (rowD coinD l) .cut ∧ l.length < 1000000000000000 := by
  obtain ⟨l, rfl, hl, _⟩ := arg_list (good := fun _ => True) un_C (fun k p h => Rz.good_of (coin_read k p h)) h
  refine ⟨l, rfl, ?_⟩
  have h1 := hl.2
  rw [show Program.bytesOf Tryz.prog 177 = 112 by kernel_rfl] at h1
  unfold reachBytes at h1; omega

theorem r_great20 (fl : Fl) (l : List CoinM) (tl : Tip) (A : List AccM) (P : List PoolM) (V : List VoteM) (ta tp tv : Tip) (st : St) (hA : A.length < 1000000000000000) (hP : P.length < 1000000000000000) (hV : V.length < 1000000000000000) : run Tryz.prog rzH fl 35 [.list l.length (rowD coinD l) tl, .agg (vC A P V ta tp tv)] st = some (.bool (decide ((100 : Int) < (l.length : Int)) || decide ((200 : Int) < (A.length : Int) + P.length + V.length)), st) := by
  refine run_sim (fi := ⟨true, [3], []⟩) rfl rfl rfl Tryz.func35 rfl rfl ?_
  simp only [argsFr]
  by_cases h : 100 < l.length
  · have d : decide ((100 : Int) < (l.length : Int)) = true := decide_eq_true (by omega)
    simp only [d, Bool.true_or]
    repeat (first | with_reducible refine zg ?_ | (with_reducible refine zo ?_; (conv => { arg 1; simp (disch := (first | omega | (with_unfolding_all exact byrfl rfl))) only [evOp, loadI, evX, ofValue, ofValue1, binD, pairsD, evCall, builtinD, D.mem, D.cells, Int.reduceToNat, reduceCtorEq, Nat.reduceBEq, bs1, bs2, bs3, lnC, d, fa_26_0, fa_26_1, fa_26_2, ld_box, Nat.zero_add, pvA, pvP, pvV, lnAc, lnPo, lnVo] }); with_reducible refine s1 ?_))
    exact ⟨trivial, _, rfl, rfl⟩
  · have d : decide ((100 : Int) < (l.length : Int)) = false := decide_eq_false (by omega)
    simp only [d, Bool.false_or]
    repeat (first | with_reducible refine zg ?_ | (with_reducible refine zo ?_; (conv => { arg 1; simp (disch := (first | omega | (with_unfolding_all exact byrfl rfl))) only [evOp, loadI, evX, ofValue, ofValue1, binD, pairsD, evCall, builtinD, D.mem, D.cells, Int.reduceToNat, reduceCtorEq, Nat.reduceBEq, bs1, bs2, bs3, lnC, d, fa_26_0, fa_26_1, fa_26_2, ld_box, Nat.zero_add, pvA, pvP, pvV, lnAc, lnPo, lnVo] }); with_reducible refine s1 ?_))
    exact ⟨trivial, _, rfl, rfl⟩
theorem pt26v (A : List AccM) (P : List PoolM) (V : List VoteM) (ta tp tv : Tip) : partD Tryz.prog 26 (vC A P V ta tp tv) 0 = some (.agg (vC A P V ta tp tv)) := pt26 _ _ _
theorem lnSh (n : Nat) (cs : List D) (tip : Tip) : lenD Tryz.prog 97 (.list n cs tip) = some (.int .i64 n) := ln_97 n cs tip
theorem all_snoc (G : H32 → Nat) {S : List ShareM} {i : Nat} (h : i < S.length) : allS G (S.take (i + 1)) = allS G (S.take i) + gS G S[i].mem := by
  unfold allS
  rw [List.take_add_one, List.getElem?_eq_getElem h, Option.toList_some, List.map_append, List.sum_append]
  simp
theorem all_le (G : H32 → Nat) (S : List ShareM) {i : Nat} (h : i ≤ S.length) : allS G (S.take i) ≤ allS G S := by
  have : allS G S = allS G (S.take i) + allS G (S.drop i) := by
    unfold allS
    rw [← List.sum_append, ← List.map_append, List.take_append_drop]
  omega
theorem g_snoc (G : H32 → Nat) {l : List PayM} {k : Nat} (h : k < l.length) : gS G (l.take (k + 1)) = gS G (l.take k) + G l[k].1 := by
  unfold gS
  rw [List.take_add_one, List.getElem?_eq_getElem h, Option.toList_some, List.map_append, List.sum_append]
  simp
theorem g_le (G : H32 → Nat) (l : List PayM) (k : Nat) : gS G (l.take k) ≤ gS G l := by
  have : gS G l = gS G (l.take k) + gS G (l.drop k) := by
    unfold gS
    rw [← List.sum_append, ← List.map_append, List.take_append_drop]
  omega
set_option maxHeartbeats 16000000 in
theorem r_standMay (fl : Fl) (l : List CoinM) (tl : Tip) (A : List AccM) (P : List PoolM) (V : List VoteM) (ta tp tv : Tip) (st : St) (hA : A.length < 1000000000000000) (hP : P.length < 1000000000000000) (hV : V.length < 1000000000000000) :
    run Tryz.prog rzM fl 9 [.list l.length (rowD coinD l) tl, .agg (vC A P V ta tp tv)] st = some (.bool true, st) := by
  have rW := runM36
  have rG := fun fl st => run_up rzMUp (r_great20 fl l tl A P V ta tp tv st hA hP hV)
  have pR := pt26v A P V ta tp tv
  refine run_sime (fi := ⟨true, [3], [(13, [5, 6, 7, 9, 10, 11, 66, 67, 68]), (19, [5, 6, 7, 9, 10, 11, 13, 66, 67, 68, 100, 101, 102])]⟩) (rs := [.tmp 4]) rfl rfl rfl Tryz.func9 rfl rfl ?_
  simp only [argsFr]
  by_cases hgr : 100 < l.length ∨ 200 < A.length + P.length + V.length
  · have e : (decide ((100 : Int) < (l.length : Int)) || decide ((200 : Int) < (A.length : Int) + P.length + V.length)) = true := by
      rw [Bool.or_eq_true, decide_eq_true_eq, decide_eq_true_eq]; omega
    rw [e] at rG
    repeat (first | with_reducible refine zg ?_ | (with_reducible refine zo ?_; (conv => { arg 1; simp (disch := (first | omega | (with_unfolding_all exact byrfl rfl))) only [evOp, loadI, evX, ofValue, ofValue1, binD, pairsD, evCall, builtinD, D.mem, D.cells, Int.reduceToNat, reduceCtorEq, Nat.reduceBEq, bs1, bs2, bs3, mx1, mx2, splice_one, mx3, ld_box, pR, rG, rW] }); with_reducible refine s1 ?_))
    exact ⟨trivial, _, rfl, rfl⟩
  have e : (decide ((100 : Int) < (l.length : Int)) || decide ((200 : Int) < (A.length : Int) + P.length + V.length)) = false := by
    rw [Bool.or_eq_false_iff, decide_eq_false_iff_not, decide_eq_false_iff_not]; omega
  rw [e] at rG
  clear e
  have rC := fun fl st => run_up rzMUp (r_of fl l tl st (by omega))
  have rR := fun fl st => run_up rzMUp (Rz.r_of fl A P V ta tp tv st (by omega) (by omega) (by omega))
  obtain ⟨hce, hok, hsz⟩ := ofT_ref l ok_nil
  have hrep := ofM_rep A P V
  generalize ofT .nil l = c at rC hok hsz
  obtain ⟨t, e⟩ := c
  simp only [Tw.size, Nat.zero_add] at rC hok hsz
  by_cases he : e = 0
  case neg =>
    have de : decide ((e : Int) ≠ 0) = true := decide_eq_true (by omega)
    cases hR : ofM A P V with
    | none =>
      simp only [hR, ofR] at rR
      simp only [cD] at rC
      have z2 : decide ((2 : Int) ≠ 0) = true := rfl
      repeat (first | with_reducible refine zg ?_ | (with_reducible refine zo ?_; (conv => { arg 1; simp (disch := (first | omega | (with_unfolding_all exact byrfl rfl))) only [evOp, loadI, evX, ofValue, ofValue1, binD, pairsD, evCall, builtinD, D.mem, D.cells, Int.reduceToNat, reduceCtorEq, Nat.reduceBEq, bs1, bs2, bs3, mx1, mx2, splice_one, mx3, ld_box, pR, rG, rC, rR, tzCc, tsCc, splC2, tzRz, splRR, tsR, rollC_length, de, z2, rW] }); with_reducible refine s1 ?_))
      exact ⟨trivial, _, rfl, rfl⟩
    | some R =>
      simp only [hR, ofR] at rR
      simp only [cD] at rC
      repeat (first | with_reducible refine zg ?_ | (with_reducible refine zo ?_; (conv => { arg 1; simp (disch := (first | omega | (with_unfolding_all exact byrfl rfl))) only [evOp, loadI, evX, ofValue, ofValue1, binD, pairsD, evCall, builtinD, D.mem, D.cells, Int.reduceToNat, reduceCtorEq, Nat.reduceBEq, bs1, bs2, bs3, mx1, mx2, splice_one, mx3, ld_box, pR, rG, rC, rR, tzCc, tsCc, splC2, tzRz, splRR, tsR, rollC_length, de, d00, rW] }); with_reducible refine s1 ?_))
      exact ⟨trivial, _, rfl, rfl⟩
  subst he
  cases hR : ofM A P V with
  | none =>
    simp only [hR, ofR] at rR
    simp only [cD] at rC
    have z2 : decide ((2 : Int) ≠ 0) = true := rfl
    repeat (first | with_reducible refine zg ?_ | (with_reducible refine zo ?_; (conv => { arg 1; simp (disch := (first | omega | (with_unfolding_all exact byrfl rfl))) only [evOp, loadI, evX, ofValue, ofValue1, binD, pairsD, evCall, builtinD, D.mem, D.cells, Int.reduceToNat, reduceCtorEq, Nat.reduceBEq, bs1, bs2, bs3, mx1, mx2, splice_one, mx3, ld_box, pR, rG, rC, rR, tzCc, tsCc, splC2, tzRz, splRR, tsR, rollC_length, d00, z2, rW] }); with_reducible refine s1 ?_))
    exact ⟨trivial, _, rfl, rfl⟩
  | some R =>
  simp only [hR, ofR] at rR
  rw [hR] at hrep
  obtain ⟨hr, hm⟩ := hrep
  have hla := hm.la
  have hlp := hm.lp
  obtain ⟨o, ho⟩ : ∃ o, o = sortP (accS (Cn.vals t)) := ⟨_, rfl⟩
  obtain ⟨G, hG⟩ : ∃ G : H32 → Nat, G = fun k => getM k (sortP (accS (Cn.vals t))) := ⟨_, rfl⟩
  have hf := acc_facts (Cn.vals t)
  have hp := sort_perm (accS (Cn.vals t))
  have hvl : (Cn.vals t).length = t.size := by
    unfold Cn.vals
    rw [List.length_map, lst_length]
  have hGl : ∀ k, G k < 18446744073709551616 := by
    intro k
    rw [hG]
    have h1 := get_le k (sortP (accS (Cn.vals t)))
    have h2 := perm_sum hp
    have h3 := acc_le (Cn.vals t) hok.tot
    have h4 := hok.tot
    show getM k (sortP (accS (Cn.vals t))) < _
    omega
  have rS := fun fl st => r_standOf fl (t := t) (by omega) hr hm (by omega) hG hGl ((hp.map (·.1)).nodup_iff.2 hf.1) (by rw [hp.length_eq]; omega) st
  have rT := fun fl st => run_up rzMUp (r_total fl t st)
  simp only [cD] at rC rT
  repeat (first | with_reducible refine zg ?_ | (with_reducible refine zo ?_; (conv => { arg 1; simp (disch := (first | omega | (with_unfolding_all exact byrfl rfl))) only [evOp, loadI, evX, ofValue, ofValue1, binD, pairsD, evCall, builtinD, D.mem, D.cells, Int.reduceToNat, reduceCtorEq, Nat.reduceBEq, bs1, bs2, bs3, mx1, mx2, splice_one, mx3, ld_box, pR, rG, rC, rR, tzCc, tsCc, splC2, ptCc, tzRz, splRR, tsR, rollC_length, prAllR, d00] }); with_reducible refine s1 ?_))
  (with_reducible refine so_cons ?_); conv => { arg 1; simp (disch := (first | omega | (with_unfolding_all exact byrfl rfl))) only [evOp, loadI, evX, ofValue, ofValue1, binD, pairsD, evCall, builtinD, D.mem, D.cells, Int.reduceToNat, reduceCtorEq, Nat.reduceBEq, bs1, bs2, bs3] }
  refine w1_ex (rS _ _) ?_
  rintro d hd
  clear rS
  unfold OfAns at hd
  by_cases hT : tots G A < 9223372036854775808
  case neg =>
    rw [if_neg hT] at hd
    subst hd
    have d9 : decide ((9 : Int) ≠ 0) = true := rfl
    repeat (first | with_reducible refine zg ?_ | (with_reducible refine zo ?_; (conv => { arg 1; simp (disch := (first | omega | (with_unfolding_all exact byrfl rfl))) only [evOp, loadI, evX, ofValue, ofValue1, binD, pairsD, evCall, builtinD, D.mem, D.cells, Int.reduceToNat, reduceCtorEq, Nat.reduceBEq, bs1, bs2, bs3, mx1, mx2, splice_one, mx3, tz_99, ts_99, splX, d9, fr_99_0, pt94s, lnSh, rW] }); with_reducible refine s1 ?_))
    exact ⟨trivial, _, rfl, rfl⟩
  rw [if_pos hT] at hd
  obtain ⟨S, tq, hS, rfl⟩ := hd
  have M := may_stand hm hok hG hT hS
  have hSl := M.len
  have hfew : Few S := ⟨by have := M.len; omega, fun s hs => by have := M.lenM s hs; omega⟩
  have rO := fun fl st => run_up rzMUp (r_rstot fl S tq hfew st)
  have eT : totRes S = .tuple [.int .u64 ((S.map (·.stake)).sum : Nat), .int .i64 0] := by unfold totRes; rw [if_pos M.ok]
  rw [eT] at rO
  have rK := fun fl k st => run_up rzMUp (r_stake fl S tq k hfew.1 st)
  simp only [standD] at rO rK
  obtain ⟨T, hTe⟩ : ∃ T, T = (S.map (·.stake)).sum := ⟨_, rfl⟩
  rw [← hTe] at rO
  simp only [standD]
  repeat (first | with_reducible refine zg ?_ | (with_reducible refine zo ?_; (conv => { arg 1; simp (disch := (first | omega | (with_unfolding_all exact byrfl rfl))) only [evOp, loadI, evX, ofValue, ofValue1, binD, pairsD, evCall, builtinD, D.mem, D.cells, Int.reduceToNat, reduceCtorEq, Nat.reduceBEq, bs1, bs2, bs3, mx1, mx2, splice_one, mx3, tz_99, ts_99, splX, d00, pt94, rO, fr_99_0, pt94s, lnSh] }); with_reducible refine s1 ?_))
  refine sk_while ⟨true, [3], [(13, [5, 6, 7, 9, 10, 11, 66, 67, 68]), (19, [5, 6, 7, 9, 10, 11, 13, 66, 67, 68, 100, 101, 102])]⟩ rfl [5, 6, 7, 9, 10, 11, 66, 67, 68] rfl (fun m fr st' => ∃ (i : Nat) (bs : List Blk), m = S.length - i ∧ i ≤ S.length ∧
    st' = st.ext (.cells [Co.twD t, .int .u64 (tot (Cn.vals t) : Nat)] :: .cells (rollC R) :: .cells [.list S.length (rowD shareD S) tq] :: bs) st.tips ∧
    fr = [(5, .ref (st.blk.length + 0) 0), (6, .int .i64 0), (7, .ref (st.blk.length + 1) 0), (9, .ref (st.blk.length + 2) 0), (10, .int .u64 T), (11, .int .u64 (allS G (S.take i) : Nat)), (66, .list S.length (rowD shareD S) tq), (67, .int .i64 S.length), (68, .int .i64 i)]) S.length ?_ ?_
  · refine ⟨0, [], rfl, by omega, rfl, ?_⟩
    repeat (first | with_reducible refine zg ?_ | (with_reducible refine zo ?_; (conv => { arg 1; simp (disch := (first | omega | (with_unfolding_all exact byrfl rfl))) only [evOp, loadI, evX, ofValue, ofValue1, binD, pairsD, evCall, builtinD, D.mem, D.cells, Int.reduceToNat, reduceCtorEq, Nat.reduceBEq, bs1, bs2, bs3] }); with_reducible refine s1 ?_))
    rfl
  rintro m fr st' ⟨i, bs, rfl, hi, rfl, rfl⟩
  repeat (first | with_reducible refine zg ?_ | (with_reducible refine zo ?_; (conv => { arg 1; simp (disch := (first | omega | (with_unfolding_all exact byrfl rfl))) only [evOp, loadI, evX, ofValue, ofValue1, binD, pairsD, evCall, builtinD, D.mem, D.cells, Int.reduceToNat, reduceCtorEq, Nat.reduceBEq, bs1, bs2, bs3] }); with_reducible refine s1 ?_))
  refine sc_dec (fun hlt => ?_) (fun hge => ?_)
  · have hlt : i < S.length := by omega
    have e1 := iaSh (tip := tq) hlt
    have e2 := fun st => ldSh hlt st
    obtain ⟨p, hp1, hp2⟩ := M.pool S[i] (List.getElem_mem hlt)
    have hst := M.stk S[i] (List.getElem_mem hlt)
    have hac := M.acc S[i] (List.getElem_mem hlt)
    have hml := M.lenM S[i] (List.getElem_mem hlt)
    have hall := all_snoc G hlt
    have hle := all_le G S (i := i + 1) (by omega)
    have hM := M.all
    obtain ⟨x, hx⟩ : ∃ x, x = S[i] := ⟨_, rfl⟩
    rw [← hx] at e2 hp1 hp2 hst hac hall hml
    have f1 := sfPool x
    have f2 := sfSeat x
    have f3 := sfStake x
    have f4 := sfMem x
    have rP := fun fl st => run_up rzMUp (r_Pool fl R x.pool st)
    rw [hr.poo.get, hp1] at rP
    simp only [Po.getD'] at rP
    have a1 := ppNow p
    have q := eqSeat p.now (seatS x)
    rw [decide_eq_true hp2] at q
    have rK1 := fun fl st => rK fl x.pool st
    simp only [hst] at rK1
    have d1 : decide ((x.stake : Int) ≠ (x.stake : Int)) = false := by simp
    repeat (first | with_reducible refine zg ?_ | (with_reducible refine zo ?_; (conv => { arg 1; simp (disch := (first | omega | (with_unfolding_all exact byrfl rfl))) only [evOp, loadI, evX, ofValue, ofValue1, binD, pairsD, evCall, builtinD, D.mem, D.cells, Int.reduceToNat, reduceCtorEq, Nat.reduceBEq, bs1, bs2, bs3, mx1, mx2, splice_one, mx3, e1, e2, tz78, ts_s, splZ, zS78_len, shareD_length, fr_105_0, fr_105_1, fr_105_2, fr_54_0, Nat.add_zero, Nat.zero_add, f1, f2, f3, f4, prAllR, rP, Po.tzV, Po.splV, poolD_length, tsPo, fr_56_0, a1, q, pt94, rK1, d1, ln_70] }); with_reducible refine s1 ?_))
    have hbt := hok.tot
    refine sk_while ⟨true, [3], [(13, [5, 6, 7, 9, 10, 11, 66, 67, 68]), (19, [5, 6, 7, 9, 10, 11, 13, 66, 67, 68, 100, 101, 102])]⟩ rfl [5, 6, 7, 9, 10, 11, 13, 66, 67, 68, 100, 101, 102] rfl (fun m fr st' => ∃ (k : Nat) (more : List Blk), m = x.mem.length - k ∧ k ≤ x.mem.length ∧
      st' = st.ext (.cells [Co.twD t, .int .u64 (tot (Cn.vals t) : Nat)] :: .cells (rollC R) :: .cells [.list S.length (rowD shareD S) tq] :: (bs ++ .cells (shareD x) :: more)) st.tips ∧
      fr = [(5, .ref (st.blk.length + 0) 0), (6, .int .i64 0), (7, .ref (st.blk.length + 1) 0), (9, .ref (st.blk.length + 2) 0), (10, .int .u64 T), (11, .int .u64 (allS G (S.take i) + gS G (x.mem.take k) : Nat)), (13, .ref (st.blk.length + (bs.length + 1 + 1 + 1)) 0), (66, .list S.length (rowD shareD S) tq), (67, .int .i64 S.length), (68, .int .i64 i), (100, .list x.mem.length (rowD payD x.mem) x.tip), (101, .int .i64 x.mem.length), (102, .int .i64 k)]) x.mem.length ?_ ?_
    · refine ⟨0, [.cells (poolD p)], rfl, by omega, rfl, ?_⟩
      repeat (first | with_reducible refine zg ?_ | (with_reducible refine zo ?_; (conv => { arg 1; simp (disch := (first | omega | (with_unfolding_all exact byrfl rfl))) only [evOp, loadI, evX, ofValue, ofValue1, binD, pairsD, evCall, builtinD, D.mem, D.cells, Int.reduceToNat, reduceCtorEq, Nat.reduceBEq, bs1, bs2, bs3] }); with_reducible refine s1 ?_))
      rfl
    rintro m fr st' ⟨k, more, rfl, hk, rfl, rfl⟩
    repeat (first | with_reducible refine zg ?_ | (with_reducible refine zo ?_; (conv => { arg 1; simp (disch := (first | omega | (with_unfolding_all exact byrfl rfl))) only [evOp, loadI, evX, ofValue, ofValue1, binD, pairsD, evCall, builtinD, D.mem, D.cells, Int.reduceToNat, reduceCtorEq, Nat.reduceBEq, bs1, bs2, bs3] }); with_reducible refine s1 ?_))
    refine sc_dec (fun hlt2 => ?_) (fun hge2 => ?_)
    · have hlt2 : k < x.mem.length := by omega
      have g1 := iaP (tip := x.tip) hlt2
      have g2 := fun st => ldP hlt2 st
      obtain ⟨a, ha1, ha2, ha3⟩ := hac x.mem[k] (List.getElem_mem hlt2)
      have hgs := g_snoc G hlt2
      have hgl := g_le G x.mem (k + 1)
      obtain ⟨y, hy⟩ : ∃ y, y = x.mem[k] := ⟨_, rfl⟩
      rw [← hy] at g2 ha1 ha3 hgs
      have g3 := ptH69 y
      have g4 := ptP1 y
      have rA := fun fl st => run_up rzMUp (r_Account fl R y.1 st)
      rw [hr.acc.get, ha1] at rA
      simp only [Ac.getD'] at rA
      have b1 := paPool a
      have b2 := paRew a
      have q2 := eqH a.pool x.pool
      rw [decide_eq_true ha2] at q2
      have d2 : decide ((y.2 : Int) < (a.rew : Int)) = false := decide_eq_false (by omega)
      have hya := x.ha y (hy ▸ List.getElem_mem hlt2)
      have ks1 : intBin .sub .u64 (y.2 : Int) (a.rew : Int) = some (.int .u64 (G y.1 : Nat)) := by
        rw [ib_subu64 (by omega) (by omega)]
        congr 2
        omega
      have ks2 : intBin .add .u64 (allS G (S.take i) + gS G (x.mem.take k) : Nat) (G y.1 : Nat) = some (.int .u64 (allS G (S.take i) + gS G (x.mem.take (k + 1)) : Nat)) := by
        rw [ib_addm, Nat.mod_eq_of_lt (by omega)]
        congr 3
        omega
      repeat (first | with_reducible refine zg ?_ | (with_reducible refine zo ?_; (conv => { arg 1; simp (disch := (first | omega | (with_unfolding_all exact byrfl rfl))) only [evOp, loadI, evX, ofValue, ofValue1, binD, pairsD, evCall, builtinD, D.mem, D.cells, Int.reduceToNat, reduceCtorEq, Nat.reduceBEq, bs1, bs2, bs3, mx1, mx2, splice_one, mx3, g1, g2, tzPay, tsPay, splP, payD_length, fr_105_0, fr_54_0, fr_80_0, fr_80_1, fr_48_1, fr_48_3, Nat.add_zero, Nat.zero_add, g3, g4, f1, prAllR, rA, Ac.tzV, Ac.splV, accD_length, tsAc, b1, b2, q2, d2, ks1, ks2] }); with_reducible refine s1 ?_))
      refine turn_go (x.mem.length - (k + 1)) (by omega) ?_
      repeat (first | with_reducible refine zg ?_ | (with_reducible refine zo ?_; (conv => { arg 1; simp (disch := (first | omega | (with_unfolding_all exact byrfl rfl))) only [evOp, loadI, evX, ofValue, ofValue1, binD, pairsD, evCall, builtinD, D.mem, D.cells, Int.reduceToNat, reduceCtorEq, Nat.reduceBEq, bs1, bs2, bs3] }); with_reducible refine s1 ?_))
      exact ⟨k + 1, more ++ [.cells (payD y), .cells (accD a)], rfl, by omega, rfl, rfl⟩
    have hke : k = x.mem.length := by omega
    subst hke
    rw [List.take_length, ← hall]
    repeat (first | with_reducible refine zg ?_ | (with_reducible refine zo ?_; (conv => { arg 1; simp (disch := (first | omega | (with_unfolding_all exact byrfl rfl))) only [evOp, loadI, evX, ofValue, ofValue1, binD, pairsD, evCall, builtinD, D.mem, D.cells, Int.reduceToNat, reduceCtorEq, Nat.reduceBEq, bs1, bs2, bs3] }); with_reducible refine s1 ?_))
    refine turn_go (S.length - (i + 1)) (by omega) ?_
    repeat (first | with_reducible refine zg ?_ | (with_reducible refine zo ?_; (conv => { arg 1; simp (disch := (first | omega | (with_unfolding_all exact byrfl rfl))) only [evOp, loadI, evX, ofValue, ofValue1, binD, pairsD, evCall, builtinD, D.mem, D.cells, Int.reduceToNat, reduceCtorEq, Nat.reduceBEq, bs1, bs2, bs3] }); with_reducible refine s1 ?_))
    exact ⟨i + 1, bs ++ .cells (shareD x) :: more, rfl, by omega, rfl, rfl⟩
  have hie : i = S.length := by omega
  subst hie
  rw [List.take_length]
  have rN := fun fl st => run_up rzMUp (r_rewards fl R st)
  rw [hr.rew] at rN
  have hA1 := M.all
  have hG1 := M.ge
  have hR1 := M.rew
  rw [← hTe] at hG1 hR1
  have hT3 := M.ok.2.2
  rw [← hTe] at hT3
  have k1 : decide ((allS G S : Int) ≤ (tot (Cn.vals t) : Int)) = true := decide_eq_true (by omega)
  have k2 : decide ((allS G S : Int) ≤ (T : Int)) = true := decide_eq_true (by omega)
  have ks1 : intBin .sub .u64 (T : Int) (allS G S : Int) = some (.int .u64 (T - allS G S : Nat)) := by
    rw [ib_subu64 (by omega) (by omega)]
    congr 2
    omega
  have k3 : decide (((T - allS G S : Nat) : Int) ≤ (rewS A : Int)) = true := decide_eq_true (by omega)
  repeat (first | with_reducible refine zg ?_ | (with_reducible refine zo ?_; (conv => { arg 1; simp (disch := (first | omega | (with_unfolding_all exact byrfl rfl))) only [evOp, loadI, evX, ofValue, ofValue1, binD, pairsD, evCall, builtinD, D.mem, D.cells, Int.reduceToNat, reduceCtorEq, Nat.reduceBEq, bs1, bs2, bs3, mx1, mx2, splice_one, mx3, ptCc, prAllR, rT, rN, dE0, k1, k2, k3, ks1, ib_geu, rW] }); with_reducible refine s1 ?_))
  exact ⟨trivial, _, rfl, rfl⟩
theorem standMay (x y : D) (h0 : ArgIs Tryz.prog 88 x) (h1 : ArgIs Tryz.prog 26 y) : ∃ n st', evFn Tryz.prog rzM n ⟨0, 0⟩ 9 [x, y] st0 = some (.bool true, st') := by
  obtain ⟨l, rfl, hl⟩ := coins_arg h0
  obtain ⟨A, P, V, rfl, hA, hP, hV⟩ := roll_arg h1
  obtain ⟨n, hn⟩ := run_iff.1 (r_standMay ⟨0, 0⟩ l .cut A P V .cut .cut .cut st0 hA hP hV)
  exact ⟨n, _, hn⟩
end Go.Ab.Sd
