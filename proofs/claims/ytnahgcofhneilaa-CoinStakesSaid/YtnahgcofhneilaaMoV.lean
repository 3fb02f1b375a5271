/-
  Pays in their order; a list of pays is sorted.
-/
import Derived.Test.YtnahgcofhneilaaMoT
import Derived.Test.YtnahgcofhneilaaAbGrow
namespace Go.Ab.Cn
open Go Go.Proofs Go.Ab Go.Ab.G
set_option maxRecDepth 100000
def insP (p : PayM) : List PayM → List PayM
  | [] => [p]
  | q :: l => if lessB q.1.b p.1.b then q :: insP p l else p :: q :: l
def sortP : List PayM → List PayM
  | [] => []
  | p :: l => insP p (sortP l)
theorem ins_perm (p : PayM) : ∀ l : List PayM, (insP p l).Perm (p :: l)
  | [] => .refl _
  | q :: l => by
    unfold insP
    split
    · exact ((ins_perm p l).cons q).trans (.swap _ _ _)
    · exact .refl _
theorem sort_perm : ∀ l : List PayM, (sortP l).Perm l
  | [] => .refl _
  | p :: l => (ins_perm p _).trans ((sort_perm l).cons p)
/-- None comes before one that is less. -/
def SrtP (l : List PayM) : Prop := l.Pairwise fun x y => lessB y.1.b x.1.b = false
theorem ins_srt (p : PayM) : ∀ {l : List PayM}, SrtP l → SrtP (insP p l)
  | [], _ => by simp [insP, SrtP]
  | q :: l, h => by
    obtain ⟨h1, h2⟩ := List.pairwise_cons.1 h
    unfold insP
    split
    · rename_i hq
      refine List.pairwise_cons.2 ⟨fun x hx => ?_, ins_srt p h2⟩
      rcases List.mem_cons.1 ((ins_perm p l).mem_iff.1 hx) with rfl | hx
      · exact less_asymm hq
      · exact h1 x hx
    · rename_i hq
      have hq : lessB q.1.b p.1.b = false := by simpa using hq
      refine List.pairwise_cons.2 ⟨fun x hx => ?_, h⟩
      rcases List.mem_cons.1 hx with rfl | hx
      · exact hq
      · have := swoP.ntrans x q p (by rw [ltP]; exact h1 x hx) (by rw [ltP]; exact hq)
        rw [ltP] at this; exact this
theorem sort_srt : ∀ l : List PayM, SrtP (sortP l)
  | [] => .nil
  | p :: l => ins_srt p (sort_srt l)
theorem h32_ext {a b : H32} (h : a.b = b.b) : a = b := by cases a; cases b; cases h; rfl
theorem key_inj {l : List PayM} (hn : (l.map (·.1)).Nodup) {x y : PayM} (hx : x ∈ l) (hy : y ∈ l) (h : x.1 = y.1) : x = y := by
  induction l with
  | nil => cases hx
  | cons p l ih =>
    simp only [List.map_cons, List.nodup_cons] at hn
    rcases List.mem_cons.1 hx with ex | hx'
    · rcases List.mem_cons.1 hy with ey | hy'
      · rw [ex, ey]
      · have := List.mem_map_of_mem (f := fun q : PayM => q.1) hy'
        rw [← h, ex] at this; exact absurd this hn.1
    · rcases List.mem_cons.1 hy with ey | hy'
      · have := List.mem_map_of_mem (f := fun q : PayM => q.1) hx'
        rw [h, ey] at this; exact absurd this hn.1
      · exact ih hn.2 hx' hy'
/-- Where keys are unlike there is one order. -/
theorem sort_one {l o : List PayM} (hp : o.Perm l) (hs : SrtP o) (hn : (l.map (·.1)).Nodup) : o = sortP l := by
  refine List.Perm.eq_of_pairwise (le := fun (x y : PayM) => lessB y.1.b x.1.b = false) ?_ hs (sort_srt l) (hp.trans (sort_perm l).symm)
  intro x y hx hy h1 h2
  refine key_inj hn (hp.mem_iff.1 hx) ((sort_perm l).mem_iff.1 hy) (h32_ext ?_)
  cases Classical.em (x.1.b = y.1.b) with
  | inl h => exact h
  | inr h => rw [less_total h2 h] at h1; cases h1
theorem agPay : ∀ w, (isAgg (Try.sortPay_ren.t 24)).run Try.prog w = .ok true w := Try.isAgg69
theorem szPay : ∀ w, (Go.sizeOf (Try.sortPay_ren.t 24)).run Try.prog w = .ok 33 w := Try.sizeOf69
instance : Inhabited PayM := ⟨(zH, 0)⟩
theorem dI_pays (l : List PayM) : rowD (fun x => dI (payI x)) l = rowD payD l := by simp only [dI_pay]
/-- A list of pays is sorted. -/
theorem calls_sort {base : Base} {g : FuncId} (hb : HasBody Try.prog g) (hlay : ∀ blk off size w, CmpLays Try.prog g #[] (fun x => vI (payI x)) 33 cmpP blk off size w) {st : St} {pre bs : List Blk} {ts : List (Nat × Nat)} {o : List PayM} {x : D} (hx : LstX st pre.length bs ts 33 o.length (rowD payD o) x) (ho : o.length < 1000000000)
    {E : Env} {w : World} {vs : List Value} (Hh : Here base (flAll st) E (st.ext (pre ++ bs) ts) w) (hr : RelL E (st.ext (pre ++ bs) ts) w [x, .clos g [] []] vs) :
    Calls Try.prog 65 vs.toArray w (CallN base (flAll st) E (st.ext (pre ++ bs) ts) w fun r st' => r = .tuple [] ∧ ∃ (o' : List PayM) (bs' : List Blk), o'.Perm o ∧ SrtP o' ∧ st' = st.ext (pre ++ bs') ts ∧ LstX st pre.length bs' ts 33 o'.length (rowD payD o') x) := by
  obtain ⟨h0, ⟨h1, h2, rfl⟩ | ⟨j, r, rfl, h2, h3, h4, h5⟩⟩ := hx
  · have he : o = [] := List.length_eq_zero_iff.1 h1
    subst he
    obtain ⟨v1, us, rfl, r1, hr⟩ := hr.cons_inv
    obtain ⟨v2, us, rfl, r2, hr⟩ := hr.cons_inv
    cases hr.nil_inv
    cases r1 with
    | list _ _ _ a cap _ hl hn ha ht h =>
    refine Calls.mono (AnyF.slices_SortFunc_none Try.sortPay a cap v2 w) ?_
    rintro e w' ⟨rfl, rfl⟩
    exact ⟨_, _, ⟨rfl, [], bs, .refl _, .nil, rfl, h0, .inl ⟨rfl, rfl, rfl⟩⟩, _, E, rfl, Ext.refl _ _ _ _ _ Hh.fb Hh.ft, Hh.sim, .tuple [] [] rfl (fun i p => by simp at p)⟩
  · have hget : (st.ext (pre ++ bs) ts).blk[st.blk.length + (pre.length + j)]? = some (.cells (rowD (fun x => dI (payI x)) o)) := by
      rw [lay_get, List.getElem?_append_right (by omega), Nat.add_sub_cancel_left, h2, dI_pays]
    have hc := sort_calls Try.sortPay 33 (by decide) agPay szPay payI_length swoP hb hlay Hh hget (by show st.blk.length ≤ _; omega) (by rintro rfl; simp at h5) (by omega) hr
    refine Calls.mono hc ?_
    rintro e w' ⟨d, st', ⟨rfl, o', hp, hs, rfl⟩, hq⟩
    have hj := (List.getElem?_eq_some_iff.1 h2).1
    have e1 : (pre ++ bs).set (pre.length + j) (.cells (rowD (fun x => dI (payI x)) o')) = pre ++ bs.set j (.cells (rowD payD o')) := by
      rw [List.set_append, if_neg (by omega), Nat.add_sub_cancel_left, dI_pays]
    rw [lay_set, e1] at hq
    refine ⟨_, _, ⟨rfl, o', bs.set j (.cells (rowD payD o')), hp, ?_, rfl, h0, .inr ⟨j, r, ?_, by simp [hj], ?_, h4, ?_⟩⟩, hq⟩
    · exact hs.imp fun h => by rw [ltP] at h; exact h
    · rw [hp.length_eq]
    · rw [hp.length_eq]; exact h3
    · rw [hp.length_eq]; exact h5
/-- A list as it is handed back. -/
def listD (o : List PayM) : D := if o = [] then .list 0 [] .full else .list o.length (rowD payD o) .cut
theorem out_list {st : St} {pre bs : List Blk} {ts : List (Nat × Nat)} {o : List PayM} {x : D} (hx : LstX st pre.length bs ts 33 o.length (rowD payD o) x) : Go.Ab.outD (flAll st) (st.ext (pre ++ bs) ts) x = some (listD o) := by
  obtain ⟨h0, ⟨h1, h2, rfl⟩ | ⟨j, r, rfl, h2, h3, h4, h5⟩⟩ := hx
  · have he : o = [] := List.length_eq_zero_iff.1 h1
    subst he
    rfl
  · have hne : o ≠ [] := by rintro rfl; simp at h5
    have hget : (st.ext (pre ++ bs) ts).blk[st.blk.length + (pre.length + j)]? = some (.cells (rowD payD o)) := by
      rw [lay_get, List.getElem?_append_right (by omega), Nat.add_sub_cancel_left, h2]
    have hl := rowD_length payD_length o
    have hf := rowD_flat payD_flat o
    simp only [Go.Ab.outD, out2, out1]
    rw [if_neg (by show ¬ _ < st.blk.length; omega), hget]
    simp only [List.drop_zero]
    rw [List.take_of_length_le (by rw [hl]; exact Nat.le_refl _), hf]
    rw [if_pos (by simp [hl])]
    rw [listD, if_neg hne]
end Go.Ab.Cn
