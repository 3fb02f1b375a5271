/-
  DiskPlays.
-/
import Derived.Test.YtnfmjphidahppaaDsG
import Derived.Test.YtnfmjphidahppaaDsD
namespace Go.Ab.Ds
open Go Go.Proofs Go.Ab
set_option maxRecDepth 100000
set_option maxHeartbeats 4000000
section
variable {st : St} {b : Nat} {w : RW} {m : DM} {tip t2 : Tip} {fl : Fl}
/-- The program's disk and the reference's, side by side, of the same. -/
structure Both (fl : Fl) (st : St) (b : Nat) (w : RW) (m : DM) (tip t2 : Tip) : Prop where
  d : At fl st b m tip
  r : RAt fl st w m t2
  sb : b ≠ w.b
  sn : b ≠ w.n
  ss : b ≠ w.s
  ap : Apart tip t2
theorem Apart.symm {t u : Tip} (h : Apart t u) : Apart u t := fun r e e' => h r e' e
/-- The reference's stays when the program's changes. -/
theorem RAt.other {b : Nat} {m' : DM} {tip' : Tip} {st' : St} (h : RAt fl st w m t2) (k : Aft fl.ft st b tip m' tip' st') (sb : b ≠ w.b) (sn : b ≠ w.n) (ss : b ≠ w.s) (ha : Apart tip t2) : RAt fl st' w m t2 ∧ Apart tip' t2 := by
  obtain ⟨h1, h2⟩ := k.row.other h.row ha
  exact ⟨⟨⟨Nat.lt_of_lt_of_le h.l3.lb k.len, Nat.lt_of_lt_of_le h.l3.ln k.len, Nat.lt_of_lt_of_le h.l3.ls k.len, h.l3.bn, h.l3.bs, h.l3.ns⟩, by rw [k.keep _ h.l3.lb (Ne.symm sb)]; exact h.b, by rw [k.keep _ h.l3.ln (Ne.symm sn)]; exact h.n, by rw [k.keep _ h.l3.ls (Ne.symm ss)]; exact h.s,
    h.fb, Nat.le_trans h.ft k.row.len, h1, h.fit⟩, h2⟩
/-- The program's stays when the reference's changes. -/
theorem At.ref {m' m2 : DM} {t2' : Tip} {w' : RW} {st' : St} (h : At fl st b m2 tip) (k : RAft fl.ft st w t2 m' w' t2' st') (sb : b ≠ w.b) (sn : b ≠ w.n) (ss : b ≠ w.s) (ha : Apart t2 tip) : At fl st' b m2 tip ∧ Apart t2' tip := by
  obtain ⟨h1, h2⟩ := k.row.other h.row ha
  exact ⟨⟨by rw [k.keep b h.lt sb sn ss]; exact h.blk, h.fb, Nat.le_trans h.ft k.row.len, h1, h.fit⟩, h2⟩
theorem RAft.apart {m' : DM} {t2' : Tip} {w' : RW} {st' : St} (k : RAft fl.ft st w t2 m' w' t2' st') (h : b < st.blk.length) (sb : b ≠ w.b) (sn : b ≠ w.n) (ss : b ≠ w.s) : b ≠ w'.b ∧ b ≠ w'.n ∧ b ≠ w'.s := by
  refine ⟨by rw [k.wb]; exact sb, ?_, by rw [k.ws]; exact ss⟩
  rcases k.wn with e | e
  · rw [e]; exact sn
  · omega
/-- One call on both. -/
theorem Both.step {m' : DM} {tip' t2' : Tip} {w' : RW} {st1 st2 : St} (h : Both fl st b w m tip t2) (F : Aft fl.ft st b tip m' tip' st1) (G : RAft fl.ft st1 w t2 m' w' t2' st2) (hf : Fit m') : Both fl st2 b w' m' tip' t2' := by
  have A1 := h.d.aft F hf
  obtain ⟨R1, a1⟩ := h.r.other F h.sb h.sn h.ss h.ap
  obtain ⟨A2, a2⟩ := A1.ref G h.sb h.sn h.ss a1.symm
  obtain ⟨s1', s2', s3'⟩ := G.apart A1.lt h.sb h.sn h.ss
  exact ⟨A2, R1.aft G hf, s1', s2', s3', a2.symm⟩
theorem Both.step' {m' : DM} {tip' t2' : Tip} {w' : RW} {st1 st2 : St} (h : Both fl st b w m tip t2) (G : RAft fl.ft st w t2 m' w' t2' st1) (F : Aft fl.ft st1 b tip m' tip' st2) (hf : Fit m') : Both fl st2 b w' m' tip' t2' := by
  obtain ⟨A1, a1⟩ := h.d.ref G h.sb h.sn h.ss h.ap.symm
  have R1 := h.r.aft G hf
  obtain ⟨s1', s2', s3'⟩ := G.apart h.d.lt h.sb h.sn h.ss
  obtain ⟨R2, a2⟩ := R1.other F s1' s2' s3' a1.symm
  exact ⟨A1.aft F hf, R2, s1', s2', s3', a2⟩
/-- What a script's call does. -/
def playM (m : DM) (x : OpM) : DM :=
  if x.kind = 0 then (m.append x.file x.s).1 else if x.kind = 1 then (m.cutF x.file x.n).1 else if x.kind = 2 then (m.sync x.file).1
  else if x.kind = 4 then (m.power x.n).1 else if x.kind = 5 then m.crash x.keep else m
theorem nei (x : Int) : decide (x ≠ x) = false := by simp
theorem nes (x : List UInt8) : decide (x ≠ x) = false := by simp
end
end Go.Ab.Ds

/-
  DiskPlays, the law.
-/
namespace Go.Ab.Ds
open Go Go.Proofs Go.Ab
set_option maxRecDepth 100000
set_option maxHeartbeats 4000000
section
def plays : DM → List OpM → DM
  | m, [] => m
  | m, x :: l => plays (playM m x) l
variable {st : St} {b : Nat} {w : RW} {m : DM} {tip t2 : Tip} {fl : Fl}
theorem Both.dead (h : Both fl st b w m tip t2) : Both fl (st.new .dead) b w m tip t2 :=
  ⟨at_newblk h.d, ⟨⟨by rw [new_len']; have := h.r.l3.lb; omega, by rw [new_len']; have := h.r.l3.ln; omega, by rw [new_len']; have := h.r.l3.ls; omega, h.r.l3.bn, h.r.l3.bs, h.r.l3.ns⟩, by rw [new_old _ _ h.r.l3.lb]; exact h.r.b, by rw [new_old _ _ h.r.l3.ln]; exact h.r.n, by rw [new_old _ _ h.r.l3.ls]; exact h.r.s, h.r.fb, h.r.ft, h.r.row, h.r.fit⟩, h.sb, h.sn, h.ss, h.ap⟩
end
end Go.Ab.Ds

/-
  Reels: what memory a call changes; a reel's block; its calls that look.
-/
namespace Go.Ab.Ds
open Go Go.Proofs Go.Ab
set_option maxRecDepth 100000
set_option maxHeartbeats 4000000
/-! ### What is changed -/
/-- The blocks and the rows of something. -/
structure Own where
  bs : List Nat
  ts : List Nat
def rowsOf : Tip → List Nat | .own r => [r] | _ => []
theorem mem_rows {t : Tip} {r : Nat} : r ∈ rowsOf t ↔ t = .own r := by
  cases t <;> simp [rowsOf, eq_comm]
/-- Only this was changed; what is its own then was so, or is new. -/
structure Chg (st st' : St) (o o' : Own) : Prop where
  keep : ∀ i, i < st.blk.length → i ∉ o.bs → st'.blk[i]? = st.blk[i]?
  len : st.blk.length ≤ st'.blk.length
  tkeep : ∀ k, k < st.tips.length → k ∉ o.ts → st'.tips[k]? = st.tips[k]?
  tlen : st.tips.length ≤ st'.tips.length
  nb : ∀ x, x ∈ o'.bs → x ∈ o.bs ∨ st.blk.length ≤ x
  nt : ∀ x, x ∈ o'.ts → x ∈ o.ts ∨ st.tips.length ≤ x
theorem Chg.refl (st : St) (o : Own) : Chg st st o o := ⟨fun _ _ _ => rfl, Nat.le_refl _, fun _ _ _ => rfl, Nat.le_refl _, fun _ h => .inl h, fun _ h => .inl h⟩
theorem Chg.trans {st s1 s2 : St} {o o1 o2 : Own} (h : Chg st s1 o o1) (k : Chg s1 s2 o1 o2) : Chg st s2 o o2 := by
  refine ⟨fun i hi hn => ?_, Nat.le_trans h.len k.len, fun i hi hn => ?_, Nat.le_trans h.tlen k.tlen, fun x hx => ?_, fun x hx => ?_⟩
  · rw [k.keep i (Nat.lt_of_lt_of_le hi h.len) (fun e => by rcases h.nb i e with e | e; exact hn e; omega), h.keep i hi hn]
  · rw [k.tkeep i (Nat.lt_of_lt_of_le hi h.tlen) (fun e => by rcases h.nt i e with e | e; exact hn e; omega), h.tkeep i hi hn]
  · rcases k.nb x hx with e | e
    · exact h.nb x e
    · exact .inr (Nat.le_trans h.len e)
  · rcases k.nt x hx with e | e
    · exact h.nt x e
    · exact .inr (Nat.le_trans h.tlen e)
/-- Two things that have nothing in common. -/
structure Apt (o p : Own) : Prop where
  bs : ∀ x, x ∈ o.bs → x ∉ p.bs
  ts : ∀ x, x ∈ o.ts → x ∉ p.ts
theorem Apt.symm {o p : Own} (h : Apt o p) : Apt p o := ⟨fun x a b => h.bs x b a, fun x a b => h.ts x b a⟩
structure In (st : St) (o : Own) : Prop where
  bs : ∀ x, x ∈ o.bs → x < st.blk.length
  ts : ∀ x, x ∈ o.ts → x < st.tips.length
theorem Chg.apt {st st' : St} {o o' p : Own} (h : Chg st st' o o') (a : Apt o p) (hp : In st p) : Apt o' p :=
  ⟨fun x hx hy => by rcases h.nb x hx with e | e; exact a.bs x e hy; have := hp.bs x hy; omega, fun x hx hy => by rcases h.nt x hx with e | e; exact a.ts x e hy; have := hp.ts x hy; omega⟩
theorem Chg.inn {st st' : St} {o o' p : Own} (h : Chg st st' o o') (hp : In st p) : In st' p := ⟨fun x hx => Nat.lt_of_lt_of_le (hp.bs x hx) h.len, fun x hx => Nat.lt_of_lt_of_le (hp.ts x hx) h.tlen⟩
/-- More of the same. -/
theorem Chg.more {st st' : St} {o o' : Own} (h : Chg st st' o o') (p : Own) : Chg st st' ⟨o.bs ++ p.bs, o.ts ++ p.ts⟩ ⟨o'.bs ++ p.bs, o'.ts ++ p.ts⟩ :=
  ⟨fun i hi hn => h.keep i hi (fun e => hn (List.mem_append_left _ e)), h.len, fun i hi hn => h.tkeep i hi (fun e => hn (List.mem_append_left _ e)), h.tlen,
    fun x hx => by rcases List.mem_append.1 hx with e | e; (rcases h.nb x e with e | e; exact .inl (List.mem_append_left _ e); exact .inr e); exact .inl (List.mem_append_right _ e),
    fun x hx => by rcases List.mem_append.1 hx with e | e; (rcases h.nt x e with e | e; exact .inl (List.mem_append_left _ e); exact .inr e); exact .inl (List.mem_append_right _ e)⟩
theorem Chg.sub {st st' : St} {o o' p p' : Own} (h : Chg st st' o o') (h1 : ∀ x, x ∈ o.bs → x ∈ p.bs) (h2 : ∀ x, x ∈ o.ts → x ∈ p.ts) (h3 : ∀ x, x ∈ p'.bs → x ∈ o'.bs ∨ x ∈ p.bs ∨ st.blk.length ≤ x) (h4 : ∀ x, x ∈ p'.ts → x ∈ o'.ts ∨ x ∈ p.ts ∨ st.tips.length ≤ x) : Chg st st' p p' :=
  ⟨fun i hi hn => h.keep i hi (fun e => hn (h1 i e)), h.len, fun i hi hn => h.tkeep i hi (fun e => hn (h2 i e)), h.tlen,
    fun x hx => by rcases h3 x hx with e | e | e; (rcases h.nb x e with e | e; exact .inl (h1 x e); exact .inr e); exact .inl e; exact .inr e,
    fun x hx => by rcases h4 x hx with e | e | e; (rcases h.nt x e with e | e; exact .inl (h2 x e); exact .inr e); exact .inl e; exact .inr e⟩
theorem TG.nt {ft : Nat} {ts ts' : List (Nat × Nat)} {t t' : Tip} {n s : Nat} (h : TG ft ts t ts' t' n s) : ∀ x, x ∈ rowsOf t' → x ∈ rowsOf t ∨ ts.length ≤ x := fun x hx => by
  rcases h.own x (mem_rows.1 hx) with e | e
  · exact .inl (mem_rows.2 e)
  · exact .inr e
theorem TG.tkeep {ft : Nat} {ts ts' : List (Nat × Nat)} {t t' : Tip} {n s : Nat} (h : TG ft ts t ts' t' n s) : ∀ k, k < ts.length → k ∉ rowsOf t → ts'[k]? = ts[k]? := fun k hk hn => h.keep k hk (fun e => hn (mem_rows.2 e))
theorem Aft.chg {ft : Nat} {st st' : St} {b : Nat} {tip tip' : Tip} {m' : DM} (h : Aft ft st b tip m' tip' st') : Chg st st' ⟨[b], rowsOf tip⟩ ⟨[b], rowsOf tip'⟩ :=
  ⟨fun i hi hn => h.keep i hi (by simpa using hn), h.len, h.row.tkeep, h.row.len, fun x hx => .inl hx, h.row.nt⟩
theorem RAft.chg {ft : Nat} {st st' : St} {w w' : RW} {tip tip' : Tip} {m' : DM} (h : RAft ft st w tip m' w' tip' st') : Chg st st' ⟨[w.b, w.n, w.s], rowsOf tip⟩ ⟨[w'.b, w'.n, w'.s], rowsOf tip'⟩ :=
  ⟨fun i hi hn => by simp at hn; exact h.keep i hi hn.1 hn.2.1 hn.2.2, h.len, h.row.tkeep, h.row.len, fun x hx => by
    simp at hx ⊢
    rcases hx with e | e | e
    · rw [e, h.wb]; simp
    · rcases h.wn with e' | e'
      · rw [e, e']; simp
      · exact .inr (by rw [e]; exact e')
    · rw [e, h.ws]; simp, h.row.nt⟩
theorem TipR.kept {ft : Nat} {ts ts' : List (Nat × Nat)} {t : Tip} {n s : Nat} (h : TipR ft ts t n s) (hk : ∀ k, k ∈ rowsOf t → ts'[k]? = ts[k]?) : TipR ft ts' t n s := by
  rcases h with h | ⟨r, e, h1, h2⟩
  · exact .inl h
  · exact .inr ⟨r, e, h1, by rw [hk r (mem_rows.2 e)]; exact h2⟩
theorem At.kept {fl : Fl} {st st' : St} {b : Nat} {m : DM} {tip : Tip} {o o' : Own} (h : At fl st b m tip) (k : Chg st st' o o') (a : Apt o ⟨[b], rowsOf tip⟩) : At fl st' b m tip :=
  ⟨by rw [k.keep b h.lt (fun e => a.bs b e (by simp))]; exact h.blk, h.fb, Nat.le_trans h.ft k.tlen, h.row.kept (fun r hr => k.tkeep r (h.row.lt (mem_rows.1 hr)) (fun e => a.ts r e hr)), h.fit⟩
theorem At.inn {fl : Fl} {st : St} {b : Nat} {m : DM} {tip : Tip} (h : At fl st b m tip) : In st ⟨[b], rowsOf tip⟩ := ⟨fun x hx => by simp at hx; subst hx; exact h.lt, fun x hx => h.row.lt (mem_rows.1 hx)⟩
/-! ### Reels -/
structure RlM where
  pl : List (Nat × Nat)
  sure : Nat
def plD (p : Nat × Nat) : List D := [.int .i64 p.1, .int .i64 p.2]
theorem plD_length (p : Nat × Nat) : (plD p).length = 2 := rfl
def relD (b : Nat) (r : RlM) (tr : Tip) : List D := [.ref b 0, .list r.pl.length (rowD plD r.pl) tr, .int .i64 r.sure]
/-- A disk, and a reel on it. -/
structure PS (fl : Fl) (st : St) (b : Nat) (m : DM) (tip : Tip) (q : Nat) (r : RlM) (tr : Tip) : Prop where
  d : At fl st b m tip
  blk : st.blk[q]? = some (.cells (relD b r tr))
  fb : fl.fb ≤ q
  row : TipR fl.ft st.tips tr r.pl.length 2
  ne : q ≠ b
  ap : Apart tip tr
  few : r.pl.length ≤ 512
  sure : r.sure ≤ r.pl.length
def psO (b q : Nat) (tip tr : Tip) : Own := ⟨[b, q], rowsOf tip ++ rowsOf tr⟩
section
variable {fl : Fl} {st : St} {b q : Nat} {m : DM} {r : RlM} {tip tr : Tip}
theorem PS.lt (h : PS fl st b m tip q r tr) : q < st.blk.length := (List.getElem?_eq_some_iff.1 h.blk).1
theorem PS.inn (h : PS fl st b m tip q r tr) : In st (psO b q tip tr) := ⟨fun x hx => by
    simp [psO] at hx
    rcases hx with e | e
    · rw [e]; exact h.d.lt
    · rw [e]; exact h.lt, fun x hx => by
    rcases List.mem_append.1 hx with e | e
    · exact h.d.row.lt (mem_rows.1 e)
    · exact h.row.lt (mem_rows.1 e)⟩
theorem PS.kept {st' : St} {o o' : Own} (h : PS fl st b m tip q r tr) (k : Chg st st' o o') (a : Apt o (psO b q tip tr)) : PS fl st' b m tip q r tr :=
  ⟨h.d.kept k ⟨fun x hx hy => a.bs x hx (by simp at hy; simp [psO, hy]), fun x hx hy => a.ts x hx (List.mem_append_left _ hy)⟩, by rw [k.keep q h.lt (fun e => a.bs q e (by simp [psO]))]; exact h.blk, h.fb,
    h.row.kept (fun x hx => k.tkeep x (h.row.lt (mem_rows.1 hx)) (fun e => a.ts x e (List.mem_append_right _ hx))), h.ne, h.ap, h.few, h.sure⟩
/-- The disk was changed. -/
theorem PS.aft {m' : DM} {tip' : Tip} {st' : St} (h : PS fl st b m tip q r tr) (F : Aft fl.ft st b tip m' tip' st') (hf : Fit m') : PS fl st' b m' tip' q r tr ∧ Chg st st' (psO b q tip tr) (psO b q tip' tr) := by
  obtain ⟨h1, h2⟩ := F.row.other h.row h.ap
  refine ⟨⟨h.d.aft F hf, by rw [F.keep q h.lt h.ne]; exact h.blk, h.fb, h1, h.ne, h2, h.few, h.sure⟩, ?_⟩
  refine F.chg.sub (fun x hx => by simp at hx; simp [psO, hx]) (fun x hx => List.mem_append_left _ hx) (fun x hx => .inr (.inl hx)) (fun x hx => ?_)
  rcases List.mem_append.1 hx with e | e
  · exact .inl e
  · exact .inr (.inl (List.mem_append_right _ e))
/-- The reel was changed. -/
theorem PS.put {r' : RlM} {tr' : Tip} {ts' : List (Nat × Nat)} (h : PS fl st b m tip q r tr) (hT : TG fl.ft st.tips tr ts' tr' r'.pl.length 2) (hf : r'.pl.length ≤ 512) (hs : r'.sure ≤ r'.pl.length) :
    PS fl ⟨st.blk.set q (.cells (relD b r' tr')), ts'⟩ b m tip q r' tr' ∧ Chg st ⟨st.blk.set q (.cells (relD b r' tr')), ts'⟩ (psO b q tip tr) (psO b q tip tr') := by
  obtain ⟨h1, h2⟩ := hT.other h.d.row (fun x e e' => h.ap x e' e)
  refine ⟨⟨⟨?_, h.d.fb, Nat.le_trans h.d.ft hT.len, h1, h.d.fit⟩, ?_, h.fb, hT.good, h.ne, fun x e e' => h2 x e' e, hf, hs⟩, ⟨fun i hi hn => ?_, ?_, fun k hk hn => ?_, hT.len, fun x hx => .inl hx, fun x hx => ?_⟩⟩
  · show (st.blk.set q _)[b]? = _
    rw [List.getElem?_set_ne h.ne]; exact h.d.blk
  · show (st.blk.set q _)[q]? = _
    rw [List.getElem?_set_self h.lt]
  · show (st.blk.set q _)[i]? = _
    simp [psO] at hn
    rw [List.getElem?_set_ne (fun e => hn.2 e.symm)]
  · show _ ≤ (st.blk.set q _).length
    rw [List.length_set]; exact Nat.le_refl _
  · exact hT.tkeep k hk (fun e => hn (List.mem_append_right _ e))
  · rcases List.mem_append.1 hx with e | e
    · exact .inl (List.mem_append_left _ e)
    · rcases hT.nt x e with e | e
      · exact .inl (List.mem_append_right _ e)
      · exact .inr e
/-! ### What is loaded and stored -/
theorem ag23 : tyAgg Try.prog 23 = some false := by kernel_rfl
theorem z23 : tySize Try.prog 23 = some 1 := by kernel_rfl
theorem ag84 : tyAgg Try.prog 84 = some false := by kernel_rfl
theorem z84 : tySize Try.prog 84 = some 1 := by kernel_rfl
theorem rq_d (h : PS fl st b m tip q r tr) : loadD Try.prog st 23 (.ref q 0) = some (.ref b 0) := by simp only [loadD, h.blk, partD, ag23, z23]; rfl
theorem rq_pl (h : PS fl st b m tip q r tr) : loadD Try.prog st 84 (.ref q 1) = some (.list r.pl.length (rowD plD r.pl) tr) := by simp only [loadD, h.blk, partD, ag84, z84]; rfl
theorem rq_sure (h : PS fl st b m tip q r tr) : loadD Try.prog st 3 (.ref q 2) = some (.int .i64 r.sure) := by simp only [loadD, h.blk, partD, ag_3', z3]; rfl
theorem sq_pl {ts : List (Nat × Nat)} (h : PS fl st b m tip q r tr) (l : List (Nat × Nat)) (tr' : Tip) : storeD Try.prog fl ⟨st.blk, ts⟩ 84 (.ref q 1) (.list l.length (rowD plD l) tr') = some ⟨st.blk.set q (.cells (relD b { r with pl := l } tr')), ts⟩ := by
  simp only [storeD, h.blk, D.mem, D.cells, Bool.and_true, decide_eq_true h.fb, if_true, z84, List.length_cons, List.length_nil, Nat.zero_add, beq_self_eq_true, Bool.true_and]
  rfl
theorem sq_sure (h : PS fl st b m tip q r tr) (n : Nat) : storeD Try.prog fl st 3 (.ref q 2) (.int .i64 n) = some ⟨st.blk.set q (.cells (relD b { r with sure := n } tr)), st.tips⟩ := by
  simp only [storeD, h.blk, D.mem, D.cells, Bool.and_true, decide_eq_true h.fb, if_true, z3, List.length_cons, List.length_nil, Nat.zero_add, beq_self_eq_true, Bool.true_and]
  rfl
theorem eqn25 (b o : Nat) : eqD Try.prog 25 (.ref b o) .nilp = some false := by kernel_rfl
theorem un84' : Program.underlying Try.prog 84 = some (.slice 94) := by kernel_rfl
theorem s94 : tySize Try.prog 94 = some 2 := by kernel_rfl
theorem ag94 : tyAgg Try.prog 94 = some true := by kernel_rfl
theorem ia_pl {l : List (Nat × Nat)} {tip : Tip} {i : Nat} (h : i < l.length) : indexAddrD Try.prog 84 (.list l.length (rowD plD l) tip) (.int .i64 i) = some (.box (i * 2) (rowD plD l)) := row_ia un84' s94 (by decide) plD_length h
theorem ld_pl {l : List (Nat × Nat)} {i : Nat} (h : i < l.length) (st : St) : loadD Try.prog st 94 (.box (i * 2) (rowD plD l)) = some (.agg (plD l[i])) := row_ld ag94 s94 plD_length h
/-! ### Calls that look -/
theorem r_len (h : PS fl st b m tip q r tr) (fl' : Fl) : run Try.prog drH fl' 17 [.ref q 0] st = some (.int .i64 r.pl.length, st) := by
  refine run_sim (fi := ⟨true, [], []⟩) rfl rfl rfl Try.func17 rfl rfl ?_
  simp only [argsFr]
  have l1 := rq_pl h
  repeat (first | with_reducible refine zg ?_ | (with_reducible refine zo ?_; (conv => { arg 1; simp (disch := (first | omega | (with_unfolding_all exact byrfl rfl))) only [evOp, loadI, evX, ofValue, ofValue1, binD, pairsD, evCall, builtinD, D.mem, D.cells, Int.reduceToNat, reduceCtorEq, Nat.reduceBEq, bs1, bs2, bs3, fa_86_1, fr_86_1, lb_84, ln_84, lns_84, pt_84, eqn25, ofv_nilp, ofv_nilp', Nat.zero_add, l1] }); with_reducible refine s1 ?_))
  exact ⟨trivial, _, rfl, rfl⟩
theorem r_rsure (h : PS fl st b m tip q r tr) (fl' : Fl) : run Try.prog drH fl' 39 [.ref q 0] st = some (.int .i64 r.sure, st) := by
  refine run_sim (fi := ⟨true, [], []⟩) rfl rfl rfl Try.func39 rfl rfl ?_
  simp only [argsFr]
  have l1 := rq_sure h
  repeat (first | with_reducible refine zg ?_ | (with_reducible refine zo ?_; (conv => { arg 1; simp (disch := (first | omega | (with_unfolding_all exact byrfl rfl))) only [evOp, loadI, evX, ofValue, ofValue1, binD, pairsD, evCall, builtinD, D.mem, D.cells, Int.reduceToNat, reduceCtorEq, Nat.reduceBEq, bs1, bs2, bs3, fa_86_2, fr_86_2, lb_3, pt_3, eqn25, ofv_nilp, ofv_nilp', Nat.zero_add, l1] }); with_reducible refine s1 ?_))
  exact ⟨trivial, _, rfl, rfl⟩
end
end Go.Ab.Ds

/-
  Reels: Get, Append, Sync, gone through.
-/
namespace Go.Ab.Ds
open Go Go.Proofs Go.Ab
set_option maxRecDepth 100000
set_option maxHeartbeats 4000000
section
variable {fl : Fl} {st : St} {b q : Nat} {m : DM} {r : RlM} {tip tr : Tip}
theorem chg_new (st : St) (x : Blk) (o : Own) : Chg st (st.new x) o o := ⟨fun i hi _ => new_old _ _ hi, by rw [new_len']; omega, fun _ _ _ => rfl, Nat.le_refl _, fun _ h => .inl h, fun _ h => .inl h⟩
def noO : Own := ⟨[], []⟩
theorem apt_no (o : Own) : Apt noO o := ⟨fun _ h => by simp [noO] at h, fun _ h => by simp [noO] at h⟩
theorem PS.new (h : PS fl st b m tip q r tr) (x : Blk) : PS fl (st.new x) b m tip q r tr := h.kept (chg_new st x noO) (apt_no _)
theorem quoi8 (n : Nat) (h : n < 4000000000000) : intBin .quo .i64 (n : Int) 8 = some (.int .i64 ((n / 8 : Nat) : Int)) := by
  unfold intBin
  simp only
  rw [if_neg (by omega), show (Int.tdiv (n : Int) 8) = ((n / 8 : Nat) : Int) from rfl, wrap_i64 (by omega) (by omega)]
theorem read_len (hk : m.Ok) (f a n : Int) : (m.read f a n).1.length ≤ 1048576 := by
  unfold DM.read
  split; · simp
  split; · simp
  split; · simp
  rename_i h2 _
  have hf := DM.isF_lt h2
  have := hk.nowLe hf.1
  unfold DM.mostF at this
  simp only [List.length_take, List.length_drop]
  omega
def rlGet (m : DM) (r : RlM) (i : Int) : List UInt8 × Nat :=
  if i < 0 ∨ (r.pl.length : Int) ≤ i then ([], 5)
  else if (m.read ((i.toNat / 8 : Nat) : Int) ((r.pl.getD i.toNat (0, 0)).1 : Nat) ((r.pl.getD i.toNat (0, 0)).2 : Nat)).2 = 0 then ((takeOf (m.read ((i.toNat / 8 : Nat) : Int) ((r.pl.getD i.toNat (0, 0)).1 : Nat) ((r.pl.getD i.toNat (0, 0)).2 : Nat)).1).1, (takeOf (m.read ((i.toNat / 8 : Nat) : Int) ((r.pl.getD i.toNat (0, 0)).1 : Nat) ((r.pl.getD i.toNat (0, 0)).2 : Nat)).1).2.2)
  else ([], (m.read ((i.toNat / 8 : Nat) : Int) ((r.pl.getD i.toNat (0, 0)).1 : Nat) ((r.pl.getD i.toNat (0, 0)).2 : Nat)).2)
set_option maxHeartbeats 8000000 in
theorem r_get (h : PS fl st b m tip q r tr) (fl' : Fl) (i : Int) : run Try.prog drH fl' 40 [.ref q 0, .int .i64 i] st = some (.tuple [.str (rlGet m r i).1, .int .i64 ((rlGet m r i).2 : Nat)], st) := by
  refine run_sim (fi := ⟨true, [], []⟩) rfl rfl rfl Try.func40 rfl rfl ?_
  simp only [argsFr]
  have l1 := rq_pl h
  unfold rlGet
  by_cases h0 : i < 0
  · have d0 : decide (i < 0) = true := decide_eq_true h0
    repeat (first | with_reducible refine zg ?_ | (with_reducible refine zo ?_; (conv => { arg 1; simp (disch := (first | omega | (with_unfolding_all exact byrfl rfl))) only [evOp, loadI, evX, ofValue, ofValue1, binD, pairsD, evCall, builtinD, D.mem, D.cells, Int.reduceToNat, reduceCtorEq, Nat.reduceBEq, bs1, bs2, bs3, fa_86_0, fa_86_1, fa_94_0, fa_94_1, fr_86_0, fr_86_1, fr_94_0, fr_94_1, lb_23, lb_3, lb_84, ln_84, lns_84, pt_23, pt_3, pt_84, ts_94, tz_94, eqn25, ofv_nilp, ofv_nilp', Nat.zero_add, d0] }); with_reducible refine s1 ?_))
    rw [if_pos (.inl h0)]
    exact ⟨trivial, _, rfl, rfl⟩
  have d0 : decide (i < 0) = false := decide_eq_false h0
  by_cases h1 : (r.pl.length : Int) ≤ i
  · have d1 : decide ((r.pl.length : Int) ≤ i) = true := decide_eq_true h1
    repeat (first | with_reducible refine zg ?_ | (with_reducible refine zo ?_; (conv => { arg 1; simp (disch := (first | omega | (with_unfolding_all exact byrfl rfl))) only [evOp, loadI, evX, ofValue, ofValue1, binD, pairsD, evCall, builtinD, D.mem, D.cells, Int.reduceToNat, reduceCtorEq, Nat.reduceBEq, bs1, bs2, bs3, fa_86_0, fa_86_1, fa_94_0, fa_94_1, fr_86_0, fr_86_1, fr_94_0, fr_94_1, lb_23, lb_3, lb_84, ln_84, lns_84, pt_23, pt_3, pt_84, ts_94, tz_94, eqn25, ofv_nilp, ofv_nilp', Nat.zero_add, d0, l1, d1] }); with_reducible refine s1 ?_))
    rw [if_pos (.inr h1)]
    exact ⟨trivial, _, rfl, rfl⟩
  have d1 : decide ((r.pl.length : Int) ≤ i) = false := decide_eq_false h1
  rw [if_neg (by omega)]
  obtain ⟨k, rfl⟩ : ∃ k : Nat, i = k := ⟨i.toNat, by omega⟩
  have hk : k < r.pl.length := by omega
  have hfew := h.few
  rw [Int.toNat_natCast]
  have e1 := ia_pl (tip := tr) hk
  have e2 := ld_pl hk
  have ep : r.pl.getD k (0, 0) = r.pl[k] := by simp [hk]
  rw [ep]
  generalize r.pl[k] = p at *
  have s1' := st_new (st := st) (fl := flAll st) (t := 94) (n := 2) (z := [.int .i64 0, .int .i64 0]) (cs := plD p) (Nat.le_refl _) s94 rfl rfl
  have h' := h.new (.cells (plD p))
  have l2 := rq_d h'
  have l3 : loadD Try.prog (st.new (.cells (plD p))) 3 (.ref st.blk.length 0) = some (.int .i64 p.1) := by simp only [loadD, new_get, partD, ag_3', z3]; rfl
  have l4 : loadD Try.prog (st.new (.cells (plD p))) 3 (.ref st.blk.length 1) = some (.int .i64 p.2) := by simp only [loadD, new_get, partD, ag_3', z3]; rfl
  have q8 := quoi8 k (by omega)
  have hrl := read_len h'.d.fit.ok ((k / 8 : Nat) : Int) (p.1 : Nat) (p.2 : Nat)
  have rr := fun fl => r_read (tip := tip) (ts := (st.new (.cells (plD p))).tips) fl h'.d.fit.ok h'.d.lt ((k / 8 : Nat) : Int) (p.1 : Nat) (p.2 : Nat)
  rw [h'.d.eq] at rr
  generalize m.read ((k / 8 : Nat) : Int) (p.1 : Nat) (p.2 : Nat) = x at *
  by_cases hx : x.2 = 0
  · rw [if_pos hx]
    rw [hx] at rr
    have rt := fun fl st => fs69 fl x.1 (by omega) st
    unfold takeD at rt
    repeat (first | with_reducible refine zg ?_ | (with_reducible refine zo ?_; (conv => { arg 1; simp (disch := (first | omega | (with_unfolding_all exact byrfl rfl))) only [evOp, loadI, evX, ofValue, ofValue1, binD, pairsD, evCall, builtinD, D.mem, D.cells, Int.reduceToNat, reduceCtorEq, Nat.reduceBEq, bs1, bs2, bs3, fa_86_0, fa_86_1, fa_94_0, fa_94_1, fr_86_0, fr_86_1, fr_94_0, fr_94_1, lb_23, lb_3, lb_84, ln_84, lns_84, pt_23, pt_3, pt_84, ts_94, tz_94, eqn25, ofv_nilp, ofv_nilp', Nat.zero_add, d0, l1, d1, e1, e2, s1', l2, l3, l4, q8, rr, ne0, rt] }); with_reducible refine s1 ?_))
    exact ⟨trivial, _, rfl, rfl⟩
  · rw [if_neg hx]
    have dx : decide (((x.2 : Nat) : Int) ≠ 0) = true := decide_eq_true (by omega)
    repeat (first | with_reducible refine zg ?_ | (with_reducible refine zo ?_; (conv => { arg 1; simp (disch := (first | omega | (with_unfolding_all exact byrfl rfl))) only [evOp, loadI, evX, ofValue, ofValue1, binD, pairsD, evCall, builtinD, D.mem, D.cells, Int.reduceToNat, reduceCtorEq, Nat.reduceBEq, bs1, bs2, bs3, fa_86_0, fa_86_1, fa_94_0, fa_94_1, fr_86_0, fr_86_1, fr_94_0, fr_94_1, lb_23, lb_3, lb_84, ln_84, lns_84, pt_23, pt_3, pt_84, ts_94, tz_94, eqn25, ofv_nilp, ofv_nilp', Nat.zero_add, d0, l1, d1, e1, e2, s1', l2, l3, l4, q8, rr, dx] }); with_reducible refine s1 ?_))
    exact ⟨trivial, _, rfl, rfl⟩
theorem fs55L (fl : Fl) (s : List UInt8) (hs : 65536 < s.length) (st : St) : run Try.prog drH fl 55 [.str s] st = some (.tuple [.str [], .int .i64 3], st) := by
  refine run_sim (fi := ⟨true, [], []⟩) rfl rfl rfl Try.func55 rfl rfl ?_
  simp only [argsFr]
  have d1 : decide ((65536 : Int) < (s.length : Nat)) = true := decide_eq_true (by omega)
  repeat (first | with_reducible refine zg ?_ | (with_reducible refine zo ?_; (conv => { arg 1; simp (disch := (first | omega | (with_unfolding_all exact byrfl rfl))) only [evOp, loadI, evX, ofValue, ofValue1, binD, pairsD, evCall, builtinD, D.mem, D.cells, Int.reduceToNat, reduceCtorEq, Nat.reduceBEq, bs1, bs2, bs3, ln9, d1] }); with_reducible refine s1 ?_))
  exact ⟨trivial, _, rfl, rfl⟩
def rlAppend (m : DM) (r : RlM) (s : List UInt8) : (DM × RlM) × Nat :=
  if 65536 < s.length then ((m, r), 3)
  else if r.pl.length = 512 then ((m, r), 7)
  else if (m.append ((r.pl.length / 8 : Nat) : Int) (putOf s)).2 = 0 then (((m.append ((r.pl.length / 8 : Nat) : Int) (putOf s)).1, { r with pl := r.pl ++ [(m.size ((r.pl.length / 8 : Nat) : Int), (putOf s).length)] }), 0)
  else (((m.append ((r.pl.length / 8 : Nat) : Int) (putOf s)).1, r), (m.append ((r.pl.length / 8 : Nat) : Int) (putOf s)).2)
theorem el84 : tyElem Try.prog 84 = some 94 := by kernel_rfl
theorem by94 : tyBytes Try.prog 94 = some 16 := by kernel_rfl
theorem int84 : tyInt Try.prog 84 = some none := by kernel_rfl
theorem bs84 (p : Nat × Nat) : buildSliceD Try.prog 84 1 [(0, .agg (plD p))] = some (.list 1 (plD p) .full) := by
  obtain ⟨a, c⟩ := p; kernel_rfl
theorem bd94 (a c : Int) : buildD Try.prog 94 [(0, .int .i64 a), (1, .int .i64 c)] = some (.agg [.int .i64 a, .int .i64 c]) := by kernel_rfl
theorem papp (fl : Fl) (st : St) (l : List (Nat × Nat)) (c : Nat × Nat) (tip : Tip) (hl : l.length < 2000000000) (hft : fl.ft ≤ st.tips.length) (hg : TipR fl.ft st.tips tip l.length 2) :
    ∃ tip' ts', TG fl.ft st.tips tip ts' tip' (l ++ [c]).length 2 ∧ appendD Try.prog fl false st 84 (.list l.length (rowD plD l) tip) (.list 1 (plD c) .full) = some (.list (l ++ [c]).length (rowD plD (l ++ [c])) tip', ⟨st.blk, ts'⟩) := by
  have hlen : (rowD plD l).length = l.length * 2 := rowD_length plD_length l
  have := app_one (fl := fl) (st := st) (tip := tip) (cs := rowD plD l) (ds := plD c) el84 s94 by94 tz_94 ⟨rfl, by decide, by decide⟩ hlen rfl (by unfold mostRow; omega) hft hg
  have e : rowD plD (l ++ [c]) = rowD plD l ++ plD c := by simp [rowD]
  rw [e, List.length_append]
  exact this
set_option maxHeartbeats 16000000 in
theorem p_append {k : Nat} (h : PS fl st b m tip q r tr) (hk : Small k m) (hk1 : k < 1000000) (s : List UInt8) : ∃ d st', (d = .int .i64 ((rlAppend m r s).2 : Nat) ∧ ∃ tip' tr', PS fl st' b (rlAppend m r s).1.1 tip' q (rlAppend m r s).1.2 tr' ∧ Chg st st' (psO b q tip tr) (psO b q tip' tr')) ∧ run Try.prog drH fl 16 [.ref q 0, .str s] st = some (d, st') := by
  refine run_simwx (fi := ⟨false, [], []⟩) (rs := [.tmp 4]) rfl rfl rfl Try.func16 rfl rfl ?_
  simp only [argsFr]
  have l1 := rq_pl h
  have l2 := rq_d h
  have hfew := h.few
  unfold rlAppend
  by_cases hs : 65536 < s.length
  · have r1 := fun fl st => fs55L fl s hs st
    have n3 : decide ((3 : Int) ≠ 0) = true := rfl
    repeat (first | with_reducible refine zg ?_ | (with_reducible refine zo ?_; (conv => { arg 1; simp (disch := (first | omega | (with_unfolding_all exact byrfl rfl))) only [evOp, loadI, evX, ofValue, ofValue1, binD, pairsD, evCall, builtinD, D.mem, D.cells, Int.reduceToNat, reduceCtorEq, Nat.reduceBEq, bs1, bs2, bs3, bd_94_0_1, fa_86_0, fa_86_1, fr_86_0, fr_86_1, lb_23, lb_84, ln_84, ln_9, lns_84, pt_23, pt_84, ts_84, eqn25, ofv_nilp, ofv_nilp', r1, n3] }); with_reducible refine s1 ?_))
    rw [if_pos hs]
    exact ⟨_, _, ⟨rfl, tip, tr, h, Chg.refl _ _⟩, trivial, rfl, _, rfl, rfl⟩
  rw [if_neg hs]
  have r1 := fun fl st => fs55 fl s (by omega) st
  have n0 : decide ((0 : Int) ≠ 0) = false := rfl
  by_cases hl : r.pl.length = 512
  · have d1 : decide ((r.pl.length : Int) = 512) = true := decide_eq_true (by omega)
    repeat (first | with_reducible refine zg ?_ | (with_reducible refine zo ?_; (conv => { arg 1; simp (disch := (first | omega | (with_unfolding_all exact byrfl rfl))) only [evOp, loadI, evX, ofValue, ofValue1, binD, pairsD, evCall, builtinD, D.mem, D.cells, Int.reduceToNat, reduceCtorEq, Nat.reduceBEq, bs1, bs2, bs3, bd_94_0_1, fa_86_0, fa_86_1, fr_86_0, fr_86_1, lb_23, lb_84, ln_84, ln_9, lns_84, pt_23, pt_84, ts_84, eqn25, ofv_nilp, ofv_nilp', r1, n0, Nat.zero_add, l1, d1] }); with_reducible refine s1 ?_))
    rw [if_pos hl]
    exact ⟨_, _, ⟨rfl, tip, tr, h, Chg.refl _ _⟩, trivial, rfl, _, rfl, rfl⟩
  have d1 : decide ((r.pl.length : Int) = 512) = false := decide_eq_false (by omega)
  rw [if_neg hl]
  have q8 := quoi8 r.pl.length (by omega)
  have rz := fun fl => r_size (tip := tip) (ts := st.tips) fl h.d.fit.ok h.d.lt ((r.pl.length / 8 : Nat) : Int)
  rw [h.d.eq] at rz
  obtain ⟨_, st1, ⟨rfl, tip', F⟩, R⟩ := r_append h.d ((r.pl.length / 8 : Nat) : Int) (putOf s) (by rw [putOf_length]; omega)
  obtain ⟨h1, c1⟩ := h.aft F ((small_append hk _ _).fit (by omega))
  by_cases he : (m.append ((r.pl.length / 8 : Nat) : Int) (putOf s)).2 = 0
  · rw [if_pos he]
    rw [he] at R
    have l3 := rq_pl h1
    obtain ⟨tr', ts', hT, ap⟩ := papp fl st1 r.pl (m.size ((r.pl.length / 8 : Nat) : Int), (putOf s).length) tr (by omega) h1.d.ft h1.row
    have bd : buildD Try.prog 94 [(0, .int .i64 ((m.size ((r.pl.length / 8 : Nat) : Int) : Nat))), (1, .int .i64 ((putOf s).length : Nat))] = some (.agg (plD (m.size ((r.pl.length / 8 : Nat) : Int), (putOf s).length))) := bd94 _ _
    have bs := bs84 (m.size ((r.pl.length / 8 : Nat) : Int), (putOf s).length)
    have s3' := sq_pl (ts := ts') h1 (r.pl ++ [(m.size ((r.pl.length / 8 : Nat) : Int), (putOf s).length)]) tr'
    obtain ⟨h2, c2⟩ := h1.put (r' := { r with pl := r.pl ++ [(m.size ((r.pl.length / 8 : Nat) : Int), (putOf s).length)] }) hT (by simp; omega) (by have := h.sure; simp; omega)
    repeat (first | with_reducible refine zg ?_ | (with_reducible refine zo ?_; (conv => { arg 1; simp (disch := (first | omega | (with_unfolding_all exact byrfl rfl))) only [evOp, loadI, evX, ofValue, ofValue1, binD, pairsD, evCall, builtinD, D.mem, D.cells, Int.reduceToNat, reduceCtorEq, Nat.reduceBEq, bs1, bs2, bs3, fr_86_0, fr_86_1, ln_84, eqn25, ofv_nilp, ofv_nilp', r1, n0, Nat.zero_add, l1, l2, d1, q8, rz, R, ne0, l3, ln9, bd, bs, int84, ap, s3'] }); with_reducible refine s1 ?_))
    exact ⟨_, _, ⟨rfl, tip', tr', h2, c1.trans c2⟩, trivial, rfl, _, rfl, rfl⟩
  · rw [if_neg he]
    have dx : decide ((((m.append ((r.pl.length / 8 : Nat) : Int) (putOf s)).2 : Nat) : Int) ≠ 0) = true := decide_eq_true (by omega)
    repeat (first | with_reducible refine zg ?_ | (with_reducible refine zo ?_; (conv => { arg 1; simp (disch := (first | omega | (with_unfolding_all exact byrfl rfl))) only [evOp, loadI, evX, ofValue, ofValue1, binD, pairsD, evCall, builtinD, D.mem, D.cells, Int.reduceToNat, reduceCtorEq, Nat.reduceBEq, bs1, bs2, bs3, bd_94_0_1, fa_86_0, fa_86_1, fr_86_0, fr_86_1, lb_23, lb_84, ln_84, ln_9, lns_84, pt_23, pt_84, ts_84, eqn25, ofv_nilp, ofv_nilp', r1, n0, Nat.zero_add, l1, l2, d1, q8, rz, R, dx] }); with_reducible refine s1 ?_))
    exact ⟨_, _, ⟨rfl, tip', tr, h1, c1⟩, trivial, rfl, _, rfl, rfl⟩
def rlSyncGo : Nat → DM → RlM → (DM × RlM) × Nat
  | 0, m, r => ((m, r), 0)
  | n + 1, m, r =>
    if r.sure < r.pl.length then
      if (m.sync ((r.sure / 8 : Nat) : Int)).2 = 0 then rlSyncGo n (m.sync ((r.sure / 8 : Nat) : Int)).1 { r with sure := min ((r.sure / 8 + 1) * 8) r.pl.length }
      else (((m.sync ((r.sure / 8 : Nat) : Int)).1, r), (m.sync ((r.sure / 8 : Nat) : Int)).2)
    else ((m, r), 0)
def rlSync (m : DM) (r : RlM) : (DM × RlM) × Nat := rlSyncGo (r.pl.length + 1) m r
set_option maxHeartbeats 16000000 in
theorem p_sync {k : Nat} (h : PS fl st b m tip q r tr) (hk : Small k m) (hk1 : k < 1000000) : ∃ d st', (d = .int .i64 ((rlSync m r).2 : Nat) ∧ ∃ tip', PS fl st' b (rlSync m r).1.1 tip' q (rlSync m r).1.2 tr ∧ Chg st st' (psO b q tip tr) (psO b q tip' tr)) ∧ run Try.prog drH fl 41 [.ref q 0] st = some (d, st') := by
  refine run_simwx (fi := ⟨false, [], [(3, [0])]⟩) (rs := [.tmp 2]) rfl rfl rfl Try.func41 rfl rfl ?_
  simp only [argsFr]
  have hfew0 := h.few
  repeat (first | with_reducible refine zg ?_ | (with_reducible refine zo ?_; (conv => { arg 1; simp (disch := (first | omega | (with_unfolding_all exact byrfl rfl))) only [evOp, loadI, evX, ofValue, ofValue1, binD, pairsD, evCall, builtinD, D.mem, D.cells, Int.reduceToNat, reduceCtorEq, Nat.reduceBEq, bs1, bs2, bs3, eqn25, ofv_nilp, ofv_nilp'] }); with_reducible refine s1 ?_))
  refine sk_while ⟨false, [], [(3, [0])]⟩ rfl [0] rfl (fun μ fr st' => ∃ (n : Nat) (m' : DM) (r' : RlM) (tip' : Tip), μ = r'.pl.length - r'.sure ∧ rlSyncGo n m' r' = rlSync m r ∧ n ≤ r.pl.length + 1 ∧ r'.pl.length < r'.sure + n ∧ r'.pl.length = r.pl.length ∧ Small (k + (r.pl.length + 1 - n)) m' ∧
    PS fl st' b m' tip' q r' tr ∧ Chg st st' (psO b q tip tr) (psO b q tip' tr) ∧ fr = [(0, .ref q 0)]) (r.pl.length - r.sure) ?_ ?_
  · refine ⟨r.pl.length + 1, m, r, tip, rfl, rfl, Nat.le_refl _, by omega, rfl, hk.mono (by omega), h, Chg.refl _ _, ?_⟩
    repeat (first | with_reducible refine zg ?_ | (with_reducible refine zo ?_; (conv => { arg 1; simp (disch := (first | omega | (with_unfolding_all exact byrfl rfl))) only [evOp, loadI, evX, ofValue, ofValue1, binD, pairsD, evCall, builtinD, D.mem, D.cells, Int.reduceToNat, reduceCtorEq, Nat.reduceBEq, bs1, bs2, bs3] }); with_reducible refine s1 ?_))
    rfl
  rintro μ fr st' ⟨n, m', r', tip', rfl, hgo, hn, hlt0, hlen, hsm, h', c', rfl⟩
  have l1 := rq_pl h'
  have l2 := rq_sure h'
  have l3 := rq_d h'
  have hfew := h'.few
  have hsu := h'.sure
  repeat (first | with_reducible refine zg ?_ | (with_reducible refine zo ?_; (conv => { arg 1; simp (disch := (first | omega | (with_unfolding_all exact byrfl rfl))) only [evOp, loadI, evX, ofValue, ofValue1, binD, pairsD, evCall, builtinD, D.mem, D.cells, Int.reduceToNat, reduceCtorEq, Nat.reduceBEq, bs1, bs2, bs3, fa_86_0, fa_86_1, fa_86_2, fr_86_0, fr_86_1, fr_86_2, lb_23, lb_3, lb_84, ln_84, lns_84, pt_23, pt_3, pt_84, ts_3, Nat.zero_add, l1, l2] }); with_reducible refine s1 ?_))
  refine sc_dec (fun hlt => ?_) (fun hge => ?_)
  · have hlt : r'.sure < r'.pl.length := by omega
    obtain ⟨n, rfl⟩ : ∃ j, n = j + 1 := ⟨n - 1, by omega⟩
    rw [rlSyncGo, if_pos hlt] at hgo
    have q8 := quoi8 r'.sure (by omega)
    obtain ⟨_, st1, ⟨rfl, tip2, F⟩, R⟩ := r_sync h'.d ((r'.sure / 8 : Nat) : Int)
    obtain ⟨h1, c1⟩ := h'.aft F ((small_sync hsm _).fit (by omega))
    by_cases he : (m'.sync ((r'.sure / 8 : Nat) : Int)).2 = 0
    · rw [if_pos he] at hgo
      rw [he] at R
      have l4 := rq_pl h1
      have e1 : ((r'.sure / 8 : Nat) : Int) + 1 = ((r'.sure / 8 + 1 : Nat) : Int) := by omega
      have em : intBin .mul .i64 ((r'.sure / 8 + 1 : Nat) : Int) 8 = some (.int .i64 (((r'.sure / 8 + 1) * 8 : Nat) : Int)) := by
        rw [ib_mul64 (by omega) (by omega)]; congr 2
      have mn := minI (((r'.sure / 8 + 1) * 8 : Nat) : Int) ((r'.pl.length : Nat) : Int)
      have e2 : min (((r'.sure / 8 + 1) * 8 : Nat) : Int) ((r'.pl.length : Nat) : Int) = ((min ((r'.sure / 8 + 1) * 8) r'.pl.length : Nat) : Int) := by omega
      rw [e2] at mn
      have s3' := sq_sure h1 (min ((r'.sure / 8 + 1) * 8) r'.pl.length)
      obtain ⟨h2, c2⟩ := h1.put (r' := { r' with sure := min ((r'.sure / 8 + 1) * 8) r'.pl.length }) (TG.refl h1.row) hfew (by simp; omega)
      repeat (first | with_reducible refine zg ?_ | (with_reducible refine zo ?_; (conv => { arg 1; simp (disch := (first | omega | (with_unfolding_all exact byrfl rfl))) only [evOp, loadI, evX, ofValue, ofValue1, binD, pairsD, evCall, builtinD, D.mem, D.cells, Int.reduceToNat, reduceCtorEq, Nat.reduceBEq, bs1, bs2, bs3, fa_86_0, fa_86_1, fa_86_2, fr_86_0, fr_86_1, fr_86_2, lb_23, lb_3, lb_84, ln_84, lns_84, pt_23, pt_3, pt_84, ts_3, Nat.zero_add, l1, l2, l3, q8, R, ne0, e1, em, l4, mn, s3'] }); with_reducible refine s1 ?_))
      refine turn_go (r'.pl.length - min ((r'.sure / 8 + 1) * 8) r'.pl.length) (by omega) ?_
      repeat (first | with_reducible refine zg ?_ | (with_reducible refine zo ?_; (conv => { arg 1; simp (disch := (first | omega | (with_unfolding_all exact byrfl rfl))) only [evOp, loadI, evX, ofValue, ofValue1, binD, pairsD, evCall, builtinD, D.mem, D.cells, Int.reduceToNat, reduceCtorEq, Nat.reduceBEq, bs1, bs2, bs3] }); with_reducible refine s1 ?_))
      exact ⟨n, _, _, tip2, rfl, hgo, by omega, by simp; omega, hlen, (small_sync hsm _).mono (by omega), h2, (c'.trans c1).trans c2, rfl⟩
    · rw [if_neg he] at hgo
      have dx : decide ((((m'.sync ((r'.sure / 8 : Nat) : Int)).2 : Nat) : Int) ≠ 0) = true := decide_eq_true (by omega)
      repeat (first | with_reducible refine zg ?_ | (with_reducible refine zo ?_; (conv => { arg 1; simp (disch := (first | omega | (with_unfolding_all exact byrfl rfl))) only [evOp, loadI, evX, ofValue, ofValue1, binD, pairsD, evCall, builtinD, D.mem, D.cells, Int.reduceToNat, reduceCtorEq, Nat.reduceBEq, bs1, bs2, bs3, fa_86_0, fa_86_1, fa_86_2, fr_86_0, fr_86_1, fr_86_2, lb_23, lb_3, lb_84, ln_84, lns_84, pt_23, pt_3, pt_84, ts_3, Nat.zero_add, l1, l2, l3, q8, R, dx] }); with_reducible refine s1 ?_))
      rw [← hgo]
      exact ⟨_, _, ⟨rfl, tip2, h1, c'.trans c1⟩, trivial, rfl, _, rfl, rfl⟩
  · have hge : ¬ r'.sure < r'.pl.length := by omega
    have hgo' : ((m', r'), 0) = rlSync m r := by
      rw [← hgo]
      cases n with
      | zero => rfl
      | succ n => rw [rlSyncGo, if_neg hge]
    repeat (first | with_reducible refine zg ?_ | (with_reducible refine zo ?_; (conv => { arg 1; simp (disch := (first | omega | (with_unfolding_all exact byrfl rfl))) only [evOp, loadI, evX, ofValue, ofValue1, binD, pairsD, evCall, builtinD, D.mem, D.cells, Int.reduceToNat, reduceCtorEq, Nat.reduceBEq, bs1, bs2, bs3] }); with_reducible refine s1 ?_))
    rw [← hgo']
    exact ⟨_, _, ⟨rfl, tip', h', c'⟩, trivial, rfl, _, rfl, rfl⟩
end
end Go.Ab.Ds

/-
  Reels: places of records are noted; steps are done until one fails.
-/
namespace Go.Ab.Ds
open Go Go.Proofs Go.Ab
set_option maxRecDepth 100000
set_option maxHeartbeats 4000000
section
variable {fl : Fl} {st : St} {b q : Nat} {m : DM} {r : RlM} {tip tr : Tip}
def placesFrom : Nat → List (List UInt8) → List (Nat × Nat)
  | _, [] => []
  | a, s :: l => (a, (putOf s).length) :: placesFrom (a + (putOf s).length) l
theorem placesFrom_length : ∀ (l : List (List UInt8)) (a : Nat), (placesFrom a l).length = l.length
  | [], _ => rfl
  | s :: l, a => by rw [placesFrom, List.length_cons, List.length_cons, placesFrom_length l]
/-- Only the reel was changed. -/
theorem PS.put2 {r' : RlM} {tr' : Tip} {ts' : List (Nat × Nat)} (h : PS fl st b m tip q r tr) (hT : TG fl.ft st.tips tr ts' tr' r'.pl.length 2) : Chg st ⟨st.blk.set q (.cells (relD b r' tr')), ts'⟩ ⟨[q], rowsOf tr⟩ ⟨[q], rowsOf tr'⟩ := by
  refine ⟨fun i hi hn => ?_, ?_, hT.tkeep, hT.len, fun x hx => .inl hx, hT.nt⟩
  · show (st.blk.set q _)[i]? = _
    simp at hn
    rw [List.getElem?_set_ne (fun e => hn e.symm)]
  · show _ ≤ (st.blk.set q _).length
    rw [List.length_set]; exact Nat.le_refl _
theorem ld_strs {l : List (List UInt8)} {i : Nat} (h : i < l.length) (st : St) : loadD Try.prog st 9 (.box i (strs l)) = some (.str l[i]) := by
  simp only [loadD, partD, ag_9', z9]
  simp [strs, h]
theorem ia_strs {l : List (List UInt8)} {tip : Tip} {i : Nat} (h : i < l.length) : indexAddrD Try.prog 36 (.list l.length (strs l) tip) (.int .i64 i) = some (.box i (strs l)) := by
  have : indexAddrD Try.prog 36 (.list l.length (strs l) tip) (.int .i64 i) = if (i : Int) < 0 then none else if ((i : Int) < l.length && (strs l).length == l.length * 1 && decide (0 < 1)) = true then some (.box ((i : Int).toNat * 1) (strs l)) else none := by kernel_rfl
  rw [this, if_neg (by omega), if_pos (by simp [strs_length]; omega)]
  simp
set_option maxHeartbeats 16000000 in
theorem r_add (h : PS fl st b m tip q r tr) (l : List (List UInt8)) (tl : Tip) (hl : ∀ s ∈ l, s.length ≤ 65536) (hf : r.pl.length + l.length ≤ 512) :
    ∃ d st', (d = .tuple [] ∧ ∃ tr', PS fl st' b m tip q { r with pl := r.pl ++ placesFrom 0 l } tr' ∧ Chg st st' ⟨[q], rowsOf tr⟩ ⟨[q], rowsOf tr'⟩) ∧ run Try.prog drH fl 51 [.ref q 0, .list l.length (strs l) tl] st = some (d, st') := by
  refine run_simwx (fi := ⟨false, [], [(2, [0, 4, 9, 10, 11])]⟩) (rs := []) rfl rfl rfl Try.func51 rfl rfl ?_
  simp only [argsFr]
  repeat (first | with_reducible refine zg ?_ | (with_reducible refine zo ?_; (conv => { arg 1; simp (disch := (first | omega | (with_unfolding_all exact byrfl rfl))) only [evOp, loadI, evX, ofValue, ofValue1, binD, pairsD, evCall, builtinD, D.mem, D.cells, Int.reduceToNat, reduceCtorEq, Nat.reduceBEq, bs1, bs2, bs3, ln_36] }); with_reducible refine s1 ?_))
  refine sk_while ⟨false, [], [(2, [0, 4, 9, 10, 11])]⟩ rfl [0, 4, 9, 10, 11] rfl (fun μ fr st' => ∃ (i a : Nat) (pl : List (Nat × Nat)) (tr' : Tip), μ = l.length - i ∧ i ≤ l.length ∧ pl ++ placesFrom a (l.drop i) = r.pl ++ placesFrom 0 l ∧ a ≤ i * 70000 ∧ PS fl st' b m tip q { r with pl := pl } tr' ∧ Chg st st' ⟨[q], rowsOf tr⟩ ⟨[q], rowsOf tr'⟩ ∧
    fr = [(0, .ref q 0), (4, .int .i64 a), (9, .list l.length (strs l) tl), (10, .int .i64 l.length), (11, .int .i64 i)]) l.length ?_ ?_
  · refine ⟨0, 0, r.pl, tr, rfl, by omega, rfl, by omega, h, Chg.refl _ _, ?_⟩
    repeat (first | with_reducible refine zg ?_ | (with_reducible refine zo ?_; (conv => { arg 1; simp (disch := (first | omega | (with_unfolding_all exact byrfl rfl))) only [evOp, loadI, evX, ofValue, ofValue1, binD, pairsD, evCall, builtinD, D.mem, D.cells, Int.reduceToNat, reduceCtorEq, Nat.reduceBEq, bs1, bs2, bs3] }); with_reducible refine s1 ?_))
    rfl
  rintro μ fr st' ⟨i, a, pl, tr', rfl, hi, hpl, ha, h', c', rfl⟩
  have hlenp := congrArg List.length hpl
  simp only [List.length_append, placesFrom_length, List.length_drop] at hlenp
  repeat (first | with_reducible refine zg ?_ | (with_reducible refine zo ?_; (conv => { arg 1; simp (disch := (first | omega | (with_unfolding_all exact byrfl rfl))) only [evOp, loadI, evX, ofValue, ofValue1, binD, pairsD, evCall, builtinD, D.mem, D.cells, Int.reduceToNat, reduceCtorEq, Nat.reduceBEq, bs1, bs2, bs3] }); with_reducible refine s1 ?_))
  refine sc_dec (fun hlt => ?_) (fun hge => ?_)
  · have hlt : i < l.length := by omega
    have hs := hl _ (List.getElem_mem hlt)
    rw [List.drop_eq_getElem_cons hlt, placesFrom] at hpl
    have e1 := ia_strs (tip := tl) hlt
    have e2 := ld_strs hlt
    have r1 := fun fl st => fs55 fl l[i] hs st
    have hpo := putOf_length l[i]
    have l1 := rq_pl h'
    have bd : buildD Try.prog 94 [(0, .int .i64 (a : Nat)), (1, .int .i64 ((putOf l[i]).length : Nat))] = some (.agg (plD (a, (putOf l[i]).length))) := bd94 _ _
    have bs := bs84 (a, (putOf l[i]).length)
    obtain ⟨tr2, ts', hT, ap⟩ := papp fl st' pl (a, (putOf l[i]).length) tr' (by omega) h'.d.ft h'.row
    have s3' := sq_pl (ts := ts') h' (pl ++ [(a, (putOf l[i]).length)]) tr2
    obtain ⟨h2, _⟩ := h'.put (r' := { r with pl := pl ++ [(a, (putOf l[i]).length)] }) hT (by simp; omega) (by have := h'.sure; simp only at this; simp; omega)
    have c2 := h'.put2 (r' := { r with pl := pl ++ [(a, (putOf l[i]).length)] }) hT
    repeat (first | with_reducible refine zg ?_ | (with_reducible refine zo ?_; (conv => { arg 1; simp (disch := (first | omega | (with_unfolding_all exact byrfl rfl))) only [evOp, loadI, evX, ofValue, ofValue1, binD, pairsD, evCall, builtinD, D.mem, D.cells, Int.reduceToNat, reduceCtorEq, Nat.reduceBEq, bs1, bs2, bs3, e1, e2, r1, fr_86_1, Nat.zero_add, l1, ln9, bd, bs, int84, ap, s3'] }); with_reducible refine s1 ?_))
    refine turn_go (l.length - (i + 1)) (by omega) ?_
    repeat (first | with_reducible refine zg ?_ | (with_reducible refine zo ?_; (conv => { arg 1; simp (disch := (first | omega | (with_unfolding_all exact byrfl rfl))) only [evOp, loadI, evX, ofValue, ofValue1, binD, pairsD, evCall, builtinD, D.mem, D.cells, Int.reduceToNat, reduceCtorEq, Nat.reduceBEq, bs1, bs2, bs3] }); with_reducible refine s1 ?_))
    exact ⟨i + 1, a + (putOf l[i]).length, pl ++ [(a, (putOf l[i]).length)], tr2, rfl, by omega, by rw [List.append_assoc]; exact hpl, by omega, h2, c'.trans c2, rfl⟩
  · have he : i = l.length := by omega
    subst he
    rw [List.drop_length] at hpl
    simp only [placesFrom, List.append_nil] at hpl
    rw [hpl] at h'
    repeat (first | with_reducible refine zg ?_ | (with_reducible refine zo ?_; (conv => { arg 1; simp (disch := (first | omega | (with_unfolding_all exact byrfl rfl))) only [evOp, loadI, evX, ofValue, ofValue1, binD, pairsD, evCall, builtinD, D.mem, D.cells, Int.reduceToNat, reduceCtorEq, Nat.reduceBEq, bs1, bs2, bs3] }); with_reducible refine s1 ?_))
    exact ⟨_, _, ⟨rfl, tr', h', c'⟩, trivial, rfl, _, rfl, rfl⟩
/-! ### Steps -/
inductive StpM where
  | cut (f n : Nat)
  | syn (f : Nat)
def oneM (m : DM) : StpM → DM × Nat
  | .cut f n => m.cutF (f : Int) (n : Int)
  | .syn f => m.sync (f : Int)
def stepsM : DM → List StpM → DM × Nat
  | m, [] => (m, 0)
  | m, s :: l => if (oneM m s).2 = 0 then stepsM (oneM m s).1 l else oneM m s
theorem small_oneM {k : Nat} {m : DM} (h : Small k m) (s : StpM) : Small (k + 1) (oneM m s).1 := by
  cases s with
  | cut f n => exact small_cut h _ _
  | syn f => exact small_sync h _
/-- A step's closure. -/
def CloOk (st : St) (b : Nat) (c : StpM × D) : Prop :=
  match c.1 with
  | .cut f n => ∃ z x y, c.2 = .clos 52 [] [.ref z 0, .ref x 0, .ref y 0] ∧ st.blk[z]? = some (.cells [.ref b 0]) ∧ st.blk[x]? = some (.cells [.int .i64 f]) ∧ st.blk[y]? = some (.cells [.int .i64 n]) ∧ z ≠ b ∧ x ≠ b ∧ y ≠ b
  | .syn f => ∃ z x, c.2 = .clos 53 [] [.ref z 0, .ref x 0] ∧ st.blk[z]? = some (.cells [.ref b 0]) ∧ st.blk[x]? = some (.cells [.int .i64 f]) ∧ z ≠ b ∧ x ≠ b
theorem CloOk.keep {st' : St} {c : StpM × D} (h : CloOk st b c) (k : ∀ i, i < st.blk.length → i ≠ b → st'.blk[i]? = st.blk[i]?) : CloOk st' b c := by
  have lt : ∀ {i : Nat} {x : Blk}, st.blk[i]? = some x → i < st.blk.length := fun e => (List.getElem?_eq_some_iff.1 e).1
  unfold CloOk at h ⊢
  split at h
  · obtain ⟨z, x, y, h1, h2, h3, h4, n1, n2, n3⟩ := h
    exact ⟨z, x, y, h1, by rw [k z (lt h2) n1]; exact h2, by rw [k x (lt h3) n2]; exact h3, by rw [k y (lt h4) n3]; exact h4, n1, n2, n3⟩
  · obtain ⟨z, x, h1, h2, h3, n1, n2⟩ := h
    exact ⟨z, x, h1, by rw [k z (lt h2) n1]; exact h2, by rw [k x (lt h3) n2]; exact h3, n1, n2⟩
theorem ld_b23 {z : Nat} (h : st.blk[z]? = some (.cells [.ref b 0])) : loadD Try.prog st 23 (.ref z 0) = some (.ref b 0) := by simp only [loadD, h, partD, ag23, z23]; rfl
theorem ld_b3 {z : Nat} {n : Int} (h : st.blk[z]? = some (.cells [.int .i64 n])) : loadD Try.prog st 3 (.ref z 0) = some (.int .i64 n) := by simp only [loadD, h, partD, ag_3', z3]; rfl
theorem r_52 {z x y f n : Nat} (h : At fl st b m tip) (h1 : st.blk[z]? = some (.cells [.ref b 0])) (h2 : st.blk[x]? = some (.cells [.int .i64 f])) (h3 : st.blk[y]? = some (.cells [.int .i64 n])) :
    ∃ d st', (d = .int .i64 ((m.cutF f n).2 : Nat) ∧ ∃ tip', Aft fl.ft st b tip (m.cutF f n).1 tip' st') ∧ run Try.prog drH fl 52 [.ref z 0, .ref x 0, .ref y 0] st = some (d, st') := by
  refine run_simwx (fi := ⟨false, [], []⟩) (rs := [.tmp 3]) rfl rfl rfl Try.func52 rfl rfl ?_
  simp only [argsFr]
  have l1 := ld_b23 h1
  have l2 := ld_b3 h2
  have l3 := ld_b3 h3
  obtain ⟨_, st1, ⟨rfl, tip', F⟩, R⟩ := r_cut h f n
  repeat (first | with_reducible refine zg ?_ | (with_reducible refine zo ?_; (conv => { arg 1; simp (disch := (first | omega | (with_unfolding_all exact byrfl rfl))) only [evOp, loadI, evX, ofValue, ofValue1, binD, pairsD, evCall, builtinD, D.mem, D.cells, Int.reduceToNat, reduceCtorEq, Nat.reduceBEq, bs1, bs2, bs3, l1, l2, l3, R] }); with_reducible refine s1 ?_))
  exact ⟨_, _, ⟨rfl, tip', F⟩, trivial, rfl, _, rfl, rfl⟩
theorem r_53 {z x f : Nat} (h : At fl st b m tip) (h1 : st.blk[z]? = some (.cells [.ref b 0])) (h2 : st.blk[x]? = some (.cells [.int .i64 f])) :
    ∃ d st', (d = .int .i64 ((m.sync f).2 : Nat) ∧ ∃ tip', Aft fl.ft st b tip (m.sync f).1 tip' st') ∧ run Try.prog drH fl 53 [.ref z 0, .ref x 0] st = some (d, st') := by
  refine run_simwx (fi := ⟨false, [], []⟩) (rs := [.tmp 2]) rfl rfl rfl Try.func53 rfl rfl ?_
  simp only [argsFr]
  have l1 := ld_b23 h1
  have l2 := ld_b3 h2
  obtain ⟨_, st1, ⟨rfl, tip', F⟩, R⟩ := r_sync h f
  repeat (first | with_reducible refine zg ?_ | (with_reducible refine zo ?_; (conv => { arg 1; simp (disch := (first | omega | (with_unfolding_all exact byrfl rfl))) only [evOp, loadI, evX, ofValue, ofValue1, binD, pairsD, evCall, builtinD, D.mem, D.cells, Int.reduceToNat, reduceCtorEq, Nat.reduceBEq, bs1, bs2, bs3, l1, l2, R] }); with_reducible refine s1 ?_))
  exact ⟨_, _, ⟨rfl, tip', F⟩, trivial, rfl, _, rfl, rfl⟩
/-- A closure that is called. -/
theorem r_clo {c : StpM × D} (h : At fl st b m tip) (hc : CloOk st b c) : ∃ k f a, c.2 = .clos k [] a ∧ k ≠ 0 ∧ ∃ d st', (d = .int .i64 ((oneM m c.1).2 : Nat) ∧ ∃ tip', Aft fl.ft st b tip (oneM m c.1).1 tip' st') ∧ run Try.prog drH fl k a st = some (d, st') ∧ f = k := by
  unfold CloOk at hc
  obtain ⟨s, d⟩ := c
  cases s with
  | cut f n =>
    obtain ⟨z, x, y, h1, h2, h3, h4, _⟩ := hc
    obtain ⟨d', st', hR, hr⟩ := r_52 h h2 h3 h4
    exact ⟨52, 52, _, h1, by decide, d', st', hR, hr, rfl⟩
  | syn f =>
    obtain ⟨z, x, h1, h2, h3, _⟩ := hc
    obtain ⟨d', st', hR, hr⟩ := r_53 h h2 h3
    exact ⟨53, 53, _, h1, by decide, d', st', hR, hr, rfl⟩
def cloD (c : StpM × D) : List D := [c.2]
theorem cloD_length (c : StpM × D) : (cloD c).length = 1 := rfl
theorem un87' : Program.underlying Try.prog 87 = some (.slice 65) := by kernel_rfl
theorem z65 : tySize Try.prog 65 = some 1 := by kernel_rfl
theorem ag65 : tyAgg Try.prog 65 = some false := by kernel_rfl
theorem ln_87' (n : Nat) (cs : List D) (tip : Tip) : lenD Try.prog 87 (.list n cs tip) = some (.int .i64 n) := by kernel_rfl
theorem ia_clo {l : List (StpM × D)} {tip : Tip} {i : Nat} (h : i < l.length) : indexAddrD Try.prog 87 (.list l.length (rowD cloD l) tip) (.int .i64 i) = some (.box i (rowD cloD l)) := by
  have := row_ia (tip := tip) un87' z65 (by decide) cloD_length h
  rwa [Nat.mul_one] at this
theorem ld_clo {l : List (StpM × D)} {i : Nat} (h : i < l.length) (st : St) : loadD Try.prog st 65 (.box i (rowD cloD l)) = some l[i].2 := by
  have := part_row (P := Try.prog) (j := 0) ag65 z65 cloD_length h (by decide) (by decide)
  rw [Nat.mul_one, Nat.add_zero] at this
  simp only [loadD, this]
  simp only [partD, ag65, z65, cloD]
  rfl
set_option maxHeartbeats 16000000 in
theorem r_steps {k : Nat} (h : At fl st b m tip) (hk : Small k m) (l : List (StpM × D)) (hl : k + l.length < 1000000) (tl : Tip) (hc : ∀ c ∈ l, CloOk st b c) :
    ∃ d st', (d = .int .i64 ((stepsM m (l.map (·.1))).2 : Nat) ∧ ∃ tip', Aft fl.ft st b tip (stepsM m (l.map (·.1))).1 tip' st') ∧ run Try.prog drH fl 54 [.list l.length (rowD cloD l) tl] st = some (d, st') := by
  refine run_simwx (fi := ⟨false, [], [(2, [6, 7, 8])]⟩) (rs := [.tmp 2]) rfl rfl rfl Try.func54 rfl rfl ?_
  simp only [argsFr]
  repeat (first | with_reducible refine zg ?_ | (with_reducible refine zo ?_; (conv => { arg 1; simp (disch := (first | omega | (with_unfolding_all exact byrfl rfl))) only [evOp, loadI, evX, ofValue, ofValue1, binD, pairsD, evCall, builtinD, D.mem, D.cells, Int.reduceToNat, reduceCtorEq, Nat.reduceBEq, bs1, bs2, bs3, ln_87'] }); with_reducible refine s1 ?_))
  refine sk_while ⟨false, [], [(2, [6, 7, 8])]⟩ rfl [6, 7, 8] rfl (fun μ fr st' => ∃ (i : Nat) (m' : DM) (tip' : Tip), μ = l.length - i ∧ i ≤ l.length ∧ stepsM m' ((l.drop i).map (·.1)) = stepsM m (l.map (·.1)) ∧ Small (k + i) m' ∧ Aft fl.ft st b tip m' tip' st' ∧
    fr = [(6, .list l.length (rowD cloD l) tl), (7, .int .i64 l.length), (8, .int .i64 i)]) l.length ?_ ?_
  · refine ⟨0, m, tip, rfl, by omega, rfl, hk, aft_refl h, ?_⟩
    repeat (first | with_reducible refine zg ?_ | (with_reducible refine zo ?_; (conv => { arg 1; simp (disch := (first | omega | (with_unfolding_all exact byrfl rfl))) only [evOp, loadI, evX, ofValue, ofValue1, binD, pairsD, evCall, builtinD, D.mem, D.cells, Int.reduceToNat, reduceCtorEq, Nat.reduceBEq, bs1, bs2, bs3] }); with_reducible refine s1 ?_))
    rfl
  rintro μ fr st' ⟨i, m', tip', rfl, hi, hst, hsm, haft, rfl⟩
  repeat (first | with_reducible refine zg ?_ | (with_reducible refine zo ?_; (conv => { arg 1; simp (disch := (first | omega | (with_unfolding_all exact byrfl rfl))) only [evOp, loadI, evX, ofValue, ofValue1, binD, pairsD, evCall, builtinD, D.mem, D.cells, Int.reduceToNat, reduceCtorEq, Nat.reduceBEq, bs1, bs2, bs3] }); with_reducible refine s1 ?_))
  refine sc_dec (fun hlt => ?_) (fun hge => ?_)
  · have hlt : i < l.length := by omega
    have hA := h.aft haft (hsm.fit (by omega))
    have hci := (hc _ (List.getElem_mem hlt)).keep haft.keep
    have e1 := ia_clo (tip := tl) hlt
    have e2 := ld_clo hlt
    rw [List.drop_eq_getElem_cons hlt, List.map_cons, stepsM] at hst
    obtain ⟨kf, _, a, hcl, _, _, st1, ⟨rfl, tip2, F⟩, R, _⟩ := r_clo hA hci
    rw [hcl] at e2
    have R' : run Try.prog drH fl kf ([] ++ [] ++ a) st' = some (.int .i64 ((oneM m' l[i].1).2 : Nat), st1) := R
    by_cases he : (oneM m' l[i].1).2 = 0
    · rw [if_pos he] at hst
      rw [he] at R
      repeat (first | with_reducible refine zg ?_ | (with_reducible refine zo ?_; (conv => { arg 1; simp (disch := (first | omega | (with_unfolding_all exact byrfl rfl))) only [evOp, loadI, evX, ofValue, ofValue1, binD, pairsD, evCall, builtinD, D.mem, D.cells, Int.reduceToNat, reduceCtorEq, Nat.reduceBEq, bs1, bs2, bs3, e1, e2, List.nil_append, R, ne0, Bool.false_and] }); with_reducible refine s1 ?_))
      refine turn_go (l.length - (i + 1)) (by omega) ?_
      repeat (first | with_reducible refine zg ?_ | (with_reducible refine zo ?_; (conv => { arg 1; simp (disch := (first | omega | (with_unfolding_all exact byrfl rfl))) only [evOp, loadI, evX, ofValue, ofValue1, binD, pairsD, evCall, builtinD, D.mem, D.cells, Int.reduceToNat, reduceCtorEq, Nat.reduceBEq, bs1, bs2, bs3] }); with_reducible refine s1 ?_))
      exact ⟨i + 1, _, tip2, rfl, by omega, hst, small_oneM hsm _, haft.trans F, rfl⟩
    · rw [if_neg he] at hst
      have dx : decide ((((oneM m' l[i].1).2 : Nat) : Int) ≠ 0) = true := decide_eq_true (by omega)
      repeat (first | with_reducible refine zg ?_ | (with_reducible refine zo ?_; (conv => { arg 1; simp (disch := (first | omega | (with_unfolding_all exact byrfl rfl))) only [evOp, loadI, evX, ofValue, ofValue1, binD, pairsD, evCall, builtinD, D.mem, D.cells, Int.reduceToNat, reduceCtorEq, Nat.reduceBEq, bs1, bs2, bs3, e1, e2, List.nil_append, R, dx, Bool.false_and] }); with_reducible refine s1 ?_))
      rw [← hst]
      exact ⟨_, _, ⟨rfl, tip2, haft.trans F⟩, trivial, rfl, _, rfl, rfl⟩
  · have he : i = l.length := by omega
    subst he
    rw [List.drop_length] at hst
    repeat (first | with_reducible refine zg ?_ | (with_reducible refine zo ?_; (conv => { arg 1; simp (disch := (first | omega | (with_unfolding_all exact byrfl rfl))) only [evOp, loadI, evX, ofValue, ofValue1, binD, pairsD, evCall, builtinD, D.mem, D.cells, Int.reduceToNat, reduceCtorEq, Nat.reduceBEq, bs1, bs2, bs3] }); with_reducible refine s1 ?_))
    rw [← hst]
    exact ⟨_, _, ⟨rfl, tip', haft⟩, trivial, rfl, _, rfl, rfl⟩
end
end Go.Ab.Ds

/-
  Reels: Open, gone through.
-/
namespace Go.Ab.Ds
open Go Go.Proofs Go.Ab
set_option maxRecDepth 100000
set_option maxHeartbeats 4000000
structure OpS where
  over : Bool
  pl : List (Nat × Nat)
  cu : List (Nat × Nat)
def opStep (m : DM) (o : OpS) (f : Nat) : OpS :=
  { over := o.over || (decide ((scanOf (m.nowAt f) 8).1.length < 8) || decide ((scanOf (m.nowAt f) 8).2 < (m.nowAt f).length)),
    pl := if o.over = true then o.pl else o.pl ++ placesFrom 0 (scanOf (m.nowAt f) 8).1,
    cu := if (if o.over = true then 0 else (scanOf (m.nowAt f) 8).2) < (m.nowAt f).length then o.cu ++ [(f, if o.over = true then 0 else (scanOf (m.nowAt f) 8).2)] else o.cu }
def opScan (m : DM) (i : Nat) : OpS := (List.range i).foldl (opStep m) ⟨false, [], []⟩
theorem opScan_next (m : DM) (i : Nat) : opScan m (i + 1) = opStep m (opScan m i) i := by
  unfold opScan; rw [List.range_succ, List.foldl_append]; rfl
def opSteps (o : OpS) : List StpM := o.cu.map (fun c => .cut c.1 c.2) ++ o.cu.map (fun c => .syn c.1)
def rlOpen (m : DM) : DM × Option RlM × Nat :=
  if m.off = true then (m, none, 100)
  else if (stepsM m (opSteps (opScan m 64))).2 = 0 then ((stepsM m (opSteps (opScan m 64))).1, some ⟨(opScan m 64).pl, (opScan m 64).pl.length⟩, 0)
  else ((stepsM m (opSteps (opScan m 64))).1, none, (stepsM m (opSteps (opScan m 64))).2)
theorem opScan_few (m : DM) : ∀ i, (opScan m i).pl.length ≤ 8 * i ∧ (opScan m i).cu.length ≤ i
  | 0 => ⟨Nat.le_refl _, Nat.le_refl _⟩
  | i + 1 => by
    obtain ⟨h1, h2⟩ := opScan_few m i
    have h3 := (scanOf_is (m.nowAt i) 8 (by decide)).2.2.2
    rw [opScan_next]
    unfold opStep
    constructor
    · show (if (opScan m i).over = true then (opScan m i).pl else (opScan m i).pl ++ placesFrom 0 (scanOf (m.nowAt i) 8).1).length ≤ _
      split
      · omega
      · rw [List.length_append, placesFrom_length]; omega
    · show (if (if (opScan m i).over = true then 0 else (scanOf (m.nowAt i) 8).2) < (m.nowAt i).length then (opScan m i).cu ++ [(i, if (opScan m i).over = true then 0 else (scanOf (m.nowAt i) 8).2)] else (opScan m i).cu).length ≤ _
      generalize (if (opScan m i).over = true then 0 else (scanOf (m.nowAt i) 8).2) = z
      split
      · simp; omega
      · omega
structure Cl where
  f : Nat
  n : Nat
  x : Nat
  y : Nat
def cutC (z : Nat) (c : Cl) : StpM × D := (.cut c.f c.n, .clos 52 [] [.ref z 0, .ref c.x 0, .ref c.y 0])
def synC (z : Nat) (c : Cl) : StpM × D := (.syn c.f, .clos 53 [] [.ref z 0, .ref c.x 0])
/-- A row that was not there before. -/
def NewT (st : St) (t : Tip) : Prop := ∀ r, t = .own r → st.tips.length ≤ r
/-- In the midst of Open. -/
structure OL (fl : Fl) (st st' : St) (b : Nat) (m : DM) (tip : Tip) (pl : List (Nat × Nat)) (cl : List Cl) (tr tc ts : Tip) : Prop where
  all : Chg st st' noO noO
  box : st'.blk[st.blk.length]? = some (.cells [.ref b 0])
  ps : PS fl st' b m tip (st.blk.length + 1) ⟨pl, 0⟩ tr
  cls : ∀ c ∈ cl, st'.blk[c.x]? = some (.cells [.int .i64 c.f]) ∧ st'.blk[c.y]? = some (.cells [.int .i64 c.n]) ∧ st.blk.length + 2 ≤ c.x ∧ st.blk.length + 2 ≤ c.y
  rc : TipR fl.ft st'.tips tc cl.length 1
  rs : TipR fl.ft st'.tips ts cl.length 1
  nr : NewT st tr
  nc : NewT st tc
  ns : NewT st ts
  a1 : Apart tc ts
  a2 : Apart tc tr
  a3 : Apart ts tr
section
variable {fl : Fl} {st st' : St} {b : Nat} {m : DM} {tip : Tip} {pl : List (Nat × Nat)} {cl : List Cl} {tr tc ts : Tip}
theorem OL.new (h : OL fl st st' b m tip pl cl tr tc ts) (x : Blk) : OL fl st (st'.new x) b m tip pl cl tr tc ts := by
  have lt : ∀ {i : Nat} {y : Blk}, st'.blk[i]? = some y → i < st'.blk.length := fun e => (List.getElem?_eq_some_iff.1 e).1
  exact ⟨h.all.trans (chg_new _ _ _), by rw [new_old _ _ (lt h.box)]; exact h.box, h.ps.new x, fun c hc => by
    obtain ⟨h1, h2, h3, h4⟩ := h.cls c hc
    exact ⟨by rw [new_old _ _ (lt h1)]; exact h1, by rw [new_old _ _ (lt h2)]; exact h2, h3, h4⟩, h.rc, h.rs, h.nr, h.nc, h.ns, h.a1, h.a2, h.a3⟩
theorem NewT.of {t t' : Tip} {o o' : Own} {s1 s2 : St} (hN : NewT st t) (hl : st.tips.length ≤ s1.tips.length) (k : ∀ x, x ∈ rowsOf t' → x ∈ rowsOf t ∨ s1.tips.length ≤ x) : NewT st t' := fun r e => by
  rcases k r (mem_rows.2 e) with e | e
  · exact hN r (mem_rows.1 e)
  · omega
/-- The reel's places were noted. -/
theorem OL.add {s3 : St} {pl' : List (Nat × Nat)} {tr' : Tip} (h : OL fl st st' b m tip pl cl tr tc ts) (hb : b < st.blk.length) (p : PS fl s3 b m tip (st.blk.length + 1) ⟨pl', 0⟩ tr') (c : Chg st' s3 ⟨[st.blk.length + 1], rowsOf tr⟩ ⟨[st.blk.length + 1], rowsOf tr'⟩) : OL fl st s3 b m tip pl' cl tr' tc ts := by
  have lt : ∀ {i : Nat} {y : Blk}, st'.blk[i]? = some y → i < st'.blk.length := fun e => (List.getElem?_eq_some_iff.1 e).1
  have ap : ∀ {t : Tip}, (∀ r, t = .own r → r < st'.tips.length) → Apart t tr → Apart t tr' := fun hl ha r e e' => by
    rcases c.nt r (mem_rows.2 e') with x | x
    · exact ha r e (mem_rows.1 x)
    · have := hl r e; omega
  have kp : ∀ {t : Tip} {n : Nat}, TipR fl.ft st'.tips t n 1 → Apart t tr → TipR fl.ft s3.tips t n 1 := fun ht ha => ht.kept fun k hk => c.tkeep k (ht.lt (mem_rows.1 hk)) (fun e => ha k (mem_rows.1 hk) (mem_rows.1 e))
  refine ⟨⟨fun i hi hn => ?_, Nat.le_trans h.all.len c.len, fun k hk hn => ?_, Nat.le_trans h.all.tlen c.tlen, fun x hx => by simp [noO] at hx, fun x hx => by simp [noO] at hx⟩, ?_, p, fun y hy => ?_, kp h.rc h.a2, kp h.rs h.a3, ?_, h.nc, h.ns, h.a1, ap (fun r e => h.rc.lt e) h.a2, ap (fun r e => h.rs.lt e) h.a3⟩
  · rw [c.keep i (Nat.lt_of_lt_of_le hi h.all.len) (by simp; omega)]
    exact h.all.keep i hi hn
  · rw [c.tkeep k (Nat.lt_of_lt_of_le hk h.all.tlen) (fun e => by have := h.nr k (mem_rows.1 e); omega)]
    exact h.all.tkeep k hk hn
  · rw [c.keep _ (lt h.box) (by simp)]; exact h.box
  · obtain ⟨h1, h2, h3, h4⟩ := h.cls y hy
    exact ⟨by rw [c.keep _ (lt h1) (by simp; omega)]; exact h1, by rw [c.keep _ (lt h2) (by simp; omega)]; exact h2, h3, h4⟩
  · exact NewT.of (o := noO) (o' := noO) (s2 := s3) h.nr h.all.tlen c.nt
/-- A cut is noted. -/
theorem OL.cut {c : Cl} {tc' ts' : Tip} {t1 t2 : List (Nat × Nat)} (h : OL fl st st' b m tip pl cl tr tc ts) (hb : b < st.blk.length) (ht : NewT st tip → False ∨ True) (hc : st'.blk[c.x]? = some (.cells [.int .i64 c.f]) ∧ st'.blk[c.y]? = some (.cells [.int .i64 c.n]) ∧ st.blk.length + 2 ≤ c.x ∧ st.blk.length + 2 ≤ c.y)
    (htl : ∀ r, tip = .own r → r < st.tips.length) (T1 : TG fl.ft st'.tips tc t1 tc' (cl.length + 1) 1) (T2 : TG fl.ft t1 ts t2 ts' (cl.length + 1) 1) : OL fl st ⟨st'.blk, t2⟩ b m tip pl (cl ++ [c]) tr tc' ts' := by
  have hll : st.tips.length ≤ st'.tips.length := h.all.tlen
  have aT : ∀ {t : Tip}, NewT st t → Apart tip t := fun hN r e e' => by have := htl r e; have := hN r e'; omega
  have nc' : NewT st tc' := NewT.of (o := noO) (o' := noO) (s2 := st') h.nc hll T1.nt
  have ns' : NewT st ts' := fun r e => by
    rcases T2.nt r (mem_rows.2 e) with x | x
    · exact h.ns r (mem_rows.1 x)
    · have := T1.len; omega
  obtain ⟨rs1, as1⟩ := T1.other h.rs h.a1
  obtain ⟨rr1, ar1⟩ := T1.other h.ps.row h.a2
  obtain ⟨rd1, _⟩ := T1.other h.ps.d.row (fun r e e' => aT h.nc r e' e)
  obtain ⟨rr2, ar2⟩ := T2.other rr1 h.a3
  obtain ⟨rd2, _⟩ := T2.other rd1 (fun r e e' => aT h.ns r e' e)
  obtain ⟨rc2, ac2⟩ := T2.other T1.good (fun r e e' => as1 r e' e)
  have len2 := T2.len
  have len1 := T1.len
  refine ⟨⟨fun i hi hn => h.all.keep i hi hn, h.all.len, fun k hk hn => ?_, by show _ ≤ t2.length; omega, fun x hx => by simp [noO] at hx, fun x hx => by simp [noO] at hx⟩, h.box, ⟨⟨h.ps.d.blk, h.ps.d.fb, by show fl.ft ≤ t2.length; have := h.ps.d.ft; omega, rd2, h.ps.d.fit⟩, h.ps.blk, h.ps.fb, rr2, h.ps.ne, h.ps.ap, h.ps.few, h.ps.sure⟩, fun y hy => ?_, by rw [List.length_append]; exact rc2, by rw [List.length_append]; exact T2.good, h.nr, nc', ns', fun r e e' => ac2 r e' e, ar1, ar2⟩
  · show t2[k]? = _
    rw [T2.keep k (by omega) (fun e => by have := h.ns k e; omega), T1.keep k (by omega) (fun e => by have := h.nc k e; omega)]
    exact h.all.tkeep k hk hn
  · rcases List.mem_append.1 hy with e | e
    · exact h.cls y e
    · simp at e; subst e; exact hc
theorem el87 : tyElem Try.prog 87 = some 65 := by kernel_rfl
theorem by65 : tyBytes Try.prog 65 = some 8 := by kernel_rfl
theorem tz65 : tyZero Try.prog 65 = some [.nilf] := by kernel_rfl
theorem int87 : tyInt Try.prog 87 = some none := by kernel_rfl
theorem bs87 (k : Nat) (a : List D) : buildSliceD Try.prog 87 1 [(0, .clos k [] a)] = some (.list 1 [.clos k [] a] .full) := by kernel_rfl
theorem capp (fl : Fl) (st : St) (l : List (StpM × D)) (c : StpM × D) (tip : Tip) (hl : l.length < 2000000000) (hft : fl.ft ≤ st.tips.length) (hg : TipR fl.ft st.tips tip l.length 1) :
    ∃ tip' ts', TG fl.ft st.tips tip ts' tip' (l.length + 1) 1 ∧ appendD Try.prog fl false st 87 (.list l.length (rowD cloD l) tip) (.list 1 [c.2] .full) = some (.list (l.length + 1) (rowD cloD (l ++ [c])) tip', ⟨st.blk, ts'⟩) := by
  have hlen : (rowD cloD l).length = l.length * 1 := rowD_length cloD_length l
  have := app_one (fl := fl) (st := st) (tip := tip) (cs := rowD cloD l) (ds := cloD c) el87 z65 by65 tz65 ⟨rfl, by decide, by decide⟩ hlen rfl (by unfold mostRow; omega) hft hg
  have e : rowD cloD (l ++ [c]) = rowD cloD l ++ cloD c := by simp [rowD]
  rw [e]
  exact this
/-- Many more at the end of a list. -/
theorem app_many {P : Program} {fl : Fl} {st : St} {ty e : TypeId} {s bytes : Nat} {z : List D} {n k : Nat} {cs ds : List D} {tip t0 : Tip}
    (he : tyElem P ty = some e) (hs : tySize P e = some s) (hb : tyBytes P e = some bytes) (hz : tyZero P e = some z) (hok : z.length = s ∧ 0 < s ∧ 0 < bytes)
    (hcs : cs.length = n * s) (hds : ds.length = k * s) (hroom : (n + k + 256) * bytes ≤ mostRow) (hft : fl.ft ≤ st.tips.length) (hg : TipR fl.ft st.tips tip n s) :
    ∃ tip' ts', TG fl.ft st.tips tip ts' tip' (n + k) s ∧ appendD P fl false st ty (.list n cs tip) (.list k ds t0) = some (.list (n + k) (cs ++ ds) tip', ⟨st.blk, ts'⟩) := by
  unfold appendD
  simp only [he, hs, hb, hz, srcOf, rowOf]
  rw [if_neg (by simp [hds, hok.1, hok.2.1, hok.2.2])]
  by_cases hk : k = 0
  · subst hk
    have : ds = [] := List.length_eq_zero_iff.1 (by rw [hds]; simp)
    subst this
    rw [if_pos rfl, List.append_nil]
    exact ⟨tip, st.tips, TG.refl hg, rfl⟩
  rw [if_neg hk, if_neg (by simp [hroom, hcs])]
  rcases hg with rfl | ⟨r, rfl, hr, ht⟩
  · refine ⟨.own st.tips.length, st.tips ++ [(n + k, s)], ⟨.inr ⟨_, rfl, hft, by simp⟩, by simp, fun q hq _ => by rw [List.getElem?_append_left hq], fun q hq => by cases hq; right; exact Nat.le_refl _⟩, ?_⟩
    simp only [Bool.false_eq_true, if_false]
  · have hr' := (List.getElem?_eq_some_iff.1 ht).1
    refine ⟨.own r, st.tips.set r (n + k, s), ⟨.inr ⟨r, rfl, hr, by simp [hr']⟩, by simp, fun q hq hn => ?_, fun q hq => .inl (by cases hq; rfl)⟩, ?_⟩
    · rw [List.getElem?_set, if_neg (fun e => hn (by rw [e]))]
    · simp only [hr, decide_true, ht, beq_self_eq_true, Bool.not_false, Bool.and_self, if_true]
theorem read_all {m : DM} (ho : m.off = false) {f : Nat} (hf : f < 64) : m.read f 0 ((m.nowAt f).length : Nat) = (m.nowAt f, 0) := by
  unfold DM.read
  rw [if_neg (by simp [ho]), if_neg (by rw [isF_true (by omega)]; decide), Int.toNat_natCast, if_neg (by omega)]
  simp
theorem st_newI {n z : Int} (hf : fl.fb ≤ st.blk.length) : storeD Try.prog fl (st.new (.cells [.int .i64 z])) 3 (.ref st.blk.length 0) (.int .i64 n) = some (st.new (.cells [.int .i64 n])) := by
  simp only [storeD, D.mem, D.cells, Bool.and_true, decide_eq_true hf, if_true, new_get, z3, List.length_cons, List.length_nil, Nat.zero_add, beq_self_eq_true, Bool.true_and]
  rw [if_pos (by decide), new_set]
  rfl
theorem bd86 (b : Nat) : buildD Try.prog 86 [(0, .ref b 0)] = some (.agg (relD b ⟨[], 0⟩ .full)) := by kernel_rfl
end
end Go.Ab.Ds

/-
  Reels: Open, gone through, the code.
-/
namespace Go.Ab.Ds
open Go Go.Proofs Go.Ab
set_option maxRecDepth 100000
set_option maxHeartbeats 4000000
section
variable {fl : Fl} {st st' : St} {b : Nat} {m : DM} {tip : Tip} {pl : List (Nat × Nat)} {cl : List Cl} {tr tc ts : Tip}
theorem OL.rows {t2 : List (Nat × Nat)} {tc2 : Tip} {n : Nat} (h : OL fl st st' b m tip pl cl tr tc ts) (htl : ∀ r, tip = .own r → r < st.tips.length) (T : TG fl.ft st'.tips tc t2 tc2 n 1) : PS fl ⟨st'.blk, t2⟩ b m tip (st.blk.length + 1) ⟨pl, 0⟩ tr ∧ Chg st ⟨st'.blk, t2⟩ noO noO := by
  obtain ⟨rr1, _⟩ := T.other h.ps.row h.a2
  obtain ⟨rd1, _⟩ := T.other h.ps.d.row (fun r e e' => by have := htl r e'; have := h.nc r e; omega)
  have len := T.len
  have hll := h.all.tlen
  refine ⟨⟨⟨h.ps.d.blk, h.ps.d.fb, by show fl.ft ≤ t2.length; have := h.ps.d.ft; omega, rd1, h.ps.d.fit⟩, h.ps.blk, h.ps.fb, rr1, h.ps.ne, h.ps.ap, h.ps.few, h.ps.sure⟩, ⟨fun i hi hn => h.all.keep i hi hn, h.all.len, fun k hk hn => ?_, by show _ ≤ t2.length; omega, fun x hx => by simp [noO] at hx, fun x hx => by simp [noO] at hx⟩⟩
  show t2[k]? = _
  rw [T.keep k (by omega) (fun e => by have := h.nc k e; omega)]
  exact h.all.tkeep k hk hn
theorem OL.clo (h : OL fl st st' b m tip pl cl tr tc ts) (hb : b < st.blk.length) {t2 : List (Nat × Nat)} : ∀ c ∈ cl.map (cutC st.blk.length) ++ cl.map (synC st.blk.length), CloOk ⟨st'.blk, t2⟩ b c := by
  intro c hc
  rcases List.mem_append.1 hc with e | e
  · obtain ⟨y, hy, rfl⟩ := List.mem_map.1 e
    obtain ⟨h1, h2, h3, h4⟩ := h.cls y hy
    exact ⟨st.blk.length, y.x, y.y, rfl, h.box, h1, h2, by omega, by omega, by omega⟩
  · obtain ⟨y, hy, rfl⟩ := List.mem_map.1 e
    obtain ⟨h1, h2, h3, h4⟩ := h.cls y hy
    exact ⟨st.blk.length, y.x, rfl, h.box, h1, by omega, by omega⟩
theorem cap (fl : Fl) (st : St) (l k : List (StpM × D)) (tip t0 : Tip) (hl : l.length + k.length < 2000000000) (hft : fl.ft ≤ st.tips.length) (hg : TipR fl.ft st.tips tip l.length 1) :
    ∃ tip' ts', TG fl.ft st.tips tip ts' tip' (l.length + k.length) 1 ∧ appendD Try.prog fl false st 87 (.list l.length (rowD cloD l) tip) (.list k.length (rowD cloD k) t0) = some (.list (l ++ k).length (rowD cloD (l ++ k)) tip', ⟨st.blk, ts'⟩) := by
  have h1 : (rowD cloD l).length = l.length * 1 := rowD_length cloD_length l
  have h2 : (rowD cloD k).length = k.length * 1 := rowD_length cloD_length k
  have := app_many (fl := fl) (st := st) (tip := tip) (t0 := t0) (cs := rowD cloD l) (ds := rowD cloD k) el87 z65 by65 tz65 ⟨rfl, by decide, by decide⟩ h1 h2 (by unfold mostRow; omega) hft hg
  rw [rowD_append, List.length_append]
  exact this
def OpenR (fl : Fl) (st : St) (b : Nat) (m : DM) (tip : Tip) (d : D) (st' : St) : Prop :=
  (∃ q tr tip' r', (rlOpen m).2.1 = some r' ∧ (rlOpen m).2.2 = 0 ∧ d = .tuple [.ref q 0, .int .i64 0] ∧ PS fl st' b (rlOpen m).1 tip' q r' tr ∧ st.blk.length ≤ q ∧ NewT st tr ∧ Chg st st' ⟨[b], rowsOf tip⟩ (psO b q tip' tr)) ∨
  ((rlOpen m).2.1 = none ∧ (rlOpen m).2.2 ≠ 0 ∧ d = .tuple [.nilp, .int .i64 ((rlOpen m).2.2 : Nat)] ∧ ∃ tip', At fl st' b (rlOpen m).1 tip' ∧ Chg st st' ⟨[b], rowsOf tip⟩ ⟨[b], rowsOf tip'⟩)
set_option maxHeartbeats 64000000 in
theorem p_open {k : Nat} (h : At fl st b m tip) (hk : Small k m) (hk1 : k < 900000) : ∃ d st', OpenR fl st b m tip d st' ∧ run Try.prog drH fl 15 [.ref b 0] st = some (d, st') := by
  refine run_simwx (fi := ⟨false, [], [(9, [1, 4, 5, 6, 7, 24])]⟩) (rs := [.tmp 2, .tmp 3]) rfl rfl rfl Try.func15 rfl rfl ?_
  simp only [argsFr]
  have hb := h.lt
  have hfb := h.fb
  have hft := h.ft
  have A0 : At fl (st.new (.cells [.ref b 0])) b m tip := at_newblk h
  have l1 : loadD Try.prog (st.new (.cells [.ref b 0])) 23 (.ref st.blk.length 0) = some (.ref b 0) := ld_b23 (new_get _ _)
  have ron := fun fl => r_on (tip := tip) (ts := (st.new (.cells [.ref b 0])).tips) fl A0.fit.ok A0.lt
  rw [A0.eq] at ron
  unfold OpenR
  by_cases ho : m.off = true
  · rw [ho] at ron
    have e1 : rlOpen m = (m, none, 100) := by unfold rlOpen; rw [if_pos ho]
    rw [e1]
    repeat (first | with_reducible refine zg ?_ | (with_reducible refine zo ?_; (conv => { arg 1; simp (disch := (first | omega | (with_unfolding_all exact byrfl rfl))) only [evOp, loadI, evX, ofValue, ofValue1, binD, pairsD, evCall, builtinD, D.mem, D.cells, Int.reduceToNat, reduceCtorEq, Nat.reduceBEq, bs1, bs2, bs3, ofv_nilp, ofv_nilp', l1, eqn, ron, Bool.not_true, Bool.not_false] }); with_reducible refine s1 ?_))
    exact ⟨_, _, .inr ⟨rfl, (by simp), rfl, tip, A0, chg_new _ _ _⟩, trivial, rfl, _, rfl, rfl⟩
  have ho : m.off = false := by simpa using ho
  rw [ho] at ron
  have bd := bd86 b
  have htl : ∀ r, tip = .own r → r < st.tips.length := fun r e => h.row.lt e
  have hO0 : OL fl st ((st.new (.cells [.ref b 0])).new (.cells (relD b ⟨[], 0⟩ .full))) b m tip [] [] .full .full .full := by
    refine ⟨(chg_new _ _ _).trans (chg_new _ _ _), ?_, ⟨at_newblk A0, ?_, by omega, .inl rfl, by omega, apart_full _, by simp, by simp⟩, fun c hc => (by simp at hc), .inl rfl, .inl rfl, fun r e => (by cases e), fun r e => (by cases e), fun r e => (by cases e), apart_full _, apart_full _, apart_full _⟩
    · rw [new_old _ _ (by rw [new_len']; omega)]; exact new_get _ _
    · have := new_get (st.new (.cells [.ref b 0])) (.cells (relD b ⟨[], 0⟩ .full))
      rwa [new_len'] at this
  repeat (first | with_reducible refine zg ?_ | (with_reducible refine zo ?_; (conv => { arg 1; simp (disch := (first | omega | (with_unfolding_all exact byrfl rfl))) only [evOp, loadI, evX, ofValue, ofValue1, binD, pairsD, evCall, builtinD, D.mem, D.cells, Int.reduceToNat, reduceCtorEq, Nat.reduceBEq, bs1, bs2, bs3, ofv_nilp, ofv_nilp', l1, eqn, ron, Bool.not_true, Bool.not_false, bd, ofv_nilsl, ofv_nilsl', new_len'] }); with_reducible refine s1 ?_))
  refine sk_while ⟨false, [], [(9, [1, 4, 5, 6, 7, 24])]⟩ rfl [1, 4, 5, 6, 7, 24] rfl (fun μ fr st' => ∃ (i : Nat) (cl : List Cl) (tr tc ts : Tip), μ = 64 - i ∧ i ≤ 64 ∧ OL fl st st' b m tip (opScan m i).pl cl tr tc ts ∧ cl.map (fun c => (c.f, c.n)) = (opScan m i).cu ∧
    fr = [(1, .ref st.blk.length 0), (4, .ref (st.blk.length + 1) 0), (5, .list (cl.map (cutC st.blk.length)).length (rowD cloD (cl.map (cutC st.blk.length))) tc), (6, .list (cl.map (synC st.blk.length)).length (rowD cloD (cl.map (synC st.blk.length))) ts), (7, .bool (opScan m i).over), (24, .int .i64 i)]) 64 ?_ ?_
  · refine ⟨0, [], .full, .full, .full, rfl, by omega, hO0, rfl, ?_⟩
    repeat (first | with_reducible refine zg ?_ | (with_reducible refine zo ?_; (conv => { arg 1; simp (disch := (first | omega | (with_unfolding_all exact byrfl rfl))) only [evOp, loadI, evX, ofValue, ofValue1, binD, pairsD, evCall, builtinD, D.mem, D.cells, Int.reduceToNat, reduceCtorEq, Nat.reduceBEq, bs1, bs2, bs3] }); with_reducible refine s1 ?_))
    rfl
  rintro μ fr st' ⟨i, cl, tr, tc, ts, rfl, hi, hO, hcu, rfl⟩
  repeat (first | with_reducible refine zg ?_ | (with_reducible refine zo ?_; (conv => { arg 1; simp (disch := (first | omega | (with_unfolding_all exact byrfl rfl))) only [evOp, loadI, evX, ofValue, ofValue1, binD, pairsD, evCall, builtinD, D.mem, D.cells, Int.reduceToNat, reduceCtorEq, Nat.reduceBEq, bs1, bs2, bs3] }); with_reducible refine s1 ?_))
  refine sc_dec (fun hlt => ?_) (fun hge => ?_)
  · have hlt : i < 64 := by omega
    have hnx := opScan_next m i
    have hfew := opScan_few m i
    have hlc := congrArg List.length hcu
    rw [List.length_map] at hlc
    have hll := hO.all.len
    have hql := (List.getElem?_eq_some_iff.1 hO.ps.blk).1
    have f1 : fl.fb ≤ st'.blk.length := by omega
    have s1' := st_newI (st := st') (fl := fl) (n := (i : Int)) (z := 0) f1
    have O1 := hO.new (.cells [.int .i64 i])
    have g1 := new_get st' (.cells [.int .i64 i])
    have l2 := ld_b23 O1.box
    have l3 := ld_b3 g1
    have rz := fun fl => r_size (tip := tip) (ts := (st'.new (.cells [.int .i64 i])).tips) fl O1.ps.d.fit.ok O1.ps.d.lt (i : Int)
    rw [O1.ps.d.eq, size_now hlt] at rz
    have s2' := st_newI (st := st'.new (.cells [.int .i64 i])) (fl := fl) (n := 0) (z := 0) (by rw [new_len']; omega)
    have hnl := h.fit.ok.nowLe hlt
    unfold DM.mostF at hnl
    repeat (first | with_reducible refine zg ?_ | (with_reducible refine zo ?_; (conv => { arg 1; simp (disch := (first | omega | (with_unfolding_all exact byrfl rfl))) only [evOp, loadI, evX, ofValue, ofValue1, binD, pairsD, evCall, builtinD, D.mem, D.cells, Int.reduceToNat, reduceCtorEq, Nat.reduceBEq, bs1, bs2, bs3, z3z, s1', l2, l3, rz, s2'] }); with_reducible refine s1 ?_))
    refine if_wp (fun e fr1 s3 => e = .normal ∧ fr1.get 1 = .ref st.blk.length 0 ∧ fr1.get 4 = .ref (st.blk.length + 1) 0 ∧ fr1.get 5 = .list (cl.map (cutC st.blk.length)).length (rowD cloD (cl.map (cutC st.blk.length))) tc ∧ fr1.get 6 = .list (cl.map (synC st.blk.length)).length (rowD cloD (cl.map (synC st.blk.length))) ts ∧ fr1.get 7 = .bool (opScan m (i + 1)).over ∧ fr1.get 24 = .int .i64 i ∧
      fr1.get 8 = .ref st'.blk.length 0 ∧ fr1.get 9 = .ref (st'.blk.length + 1) 0 ∧ fr1.get 10 = .int .i64 ((m.nowAt i).length : Nat) ∧ ∃ tr', OL fl st s3 b m tip (opScan m (i + 1)).pl cl tr' tc ts ∧ s3.blk[st'.blk.length]? = some (.cells [.int .i64 i]) ∧ s3.blk[st'.blk.length + 1]? = some (.cells [.int .i64 ((if (opScan m i).over = true then 0 else (scanOf (m.nowAt i) 8).2 : Nat) : Int)])) (fun hov => ?_) (fun hov => ?_) ?_
    · have hov : (opScan m i).over = false := by simpa using hov
      have e0 : (opScan m (i + 1)).over = (decide ((scanOf (m.nowAt i) 8).1.length < 8) || decide ((scanOf (m.nowAt i) 8).2 < (m.nowAt i).length)) := by rw [hnx]; unfold opStep; simp only [hov, Bool.false_or]
      have e1 : (opScan m (i + 1)).pl = (opScan m i).pl ++ placesFrom 0 (scanOf (m.nowAt i) 8).1 := by rw [hnx]; unfold opStep; simp only [hov]; rfl
      rw [if_neg (by rw [hov]; decide), e0, e1]
      have his := scanOf_is (m.nowAt i) 8 (by decide)
      have O2 := O1.new (.cells [.int .i64 0])
      have l4 := ld_b23 O2.box
      have g2 : ((st'.new (.cells [.int .i64 i])).new (.cells [.int .i64 0])).blk[st'.blk.length]? = some (.cells [.int .i64 i]) := by rw [new_old _ _ (by rw [new_len']; omega)]; exact g1
      have l5 := ld_b3 g2
      have rr := fun fl => r_read (tip := tip) (ts := ((st'.new (.cells [.int .i64 i])).new (.cells [.int .i64 0])).tips) fl O2.ps.d.fit.ok O2.ps.d.lt (i : Int) 0 ((m.nowAt i).length : Nat)
      rw [O2.ps.d.eq, read_all ho hlt] at rr
      have rs1 := fun fl st => fs50 fl (m.nowAt i) (by omega) 8 st
      generalize scanOf (m.nowAt i) 8 = x at *
      obtain ⟨tx, n⟩ := x
      simp only at his hO hnx e0 e1 rs1 ⊢
      unfold listD at rs1
      have s3' := st_newI (st := st'.new (.cells [.int .i64 i])) (fl := fl) (n := (n : Int)) (z := 0) (by rw [new_len']; omega)
      have O3 := O1.new (.cells [.int .i64 n])
      have g3 : ((st'.new (.cells [.int .i64 i])).new (.cells [.int .i64 n])).blk[st'.blk.length]? = some (.cells [.int .i64 i]) := by rw [new_old _ _ (by rw [new_len']; omega)]; exact g1
      have g4 : ((st'.new (.cells [.int .i64 i])).new (.cells [.int .i64 n])).blk[st'.blk.length + 1]? = some (.cells [.int .i64 n]) := by
        have := new_get (st'.new (.cells [.int .i64 i])) (.cells [.int .i64 n])
        rwa [new_len'] at this
      rw [new_len'] at s3'
      obtain ⟨_, s5, ⟨rfl, tr', p5, c5⟩, R5⟩ := r_add O3.ps tx (if tx = [] then .full else .cut) his.2.2.1 (by have := his.2.2.2; simp only; omega)
      have O5 := O3.add hb p5 c5
      have hx1 : s5.blk[st'.blk.length]? = some (.cells [.int .i64 i]) := by rw [c5.keep _ (by rw [new_len', new_len']; omega) (by simp; omega)]; exact g3
      have hx2 : s5.blk[st'.blk.length + 1]? = some (.cells [.int .i64 n]) := by rw [c5.keep _ (by rw [new_len', new_len']; omega) (by simp; omega)]; exact g4
      by_cases h8 : tx.length < 8
      · have d8 : decide ((tx.length : Int) < 8) = true := decide_eq_true (by omega)
        rw [decide_eq_true h8]
        repeat (first | with_reducible refine zg ?_ | (with_reducible refine zo ?_; (conv => { arg 1; simp (disch := (first | omega | (with_unfolding_all exact byrfl rfl))) only [evOp, loadI, evX, ofValue, ofValue1, binD, pairsD, evCall, builtinD, D.mem, D.cells, Int.reduceToNat, reduceCtorEq, Nat.reduceBEq, bs1, bs2, bs3, new_len', l4, l5, rr, ne0, rs1, ln_36, d8, s3', R5] }); with_reducible refine s1 ?_))
        exact ⟨rfl, rfl, rfl, rfl, rfl, rfl, rfl, rfl, by rw [← new_len' st' (.cells [.int .i64 i])]; rfl, rfl, tr', O5, hx1, hx2⟩
      · have d8 : decide ((tx.length : Int) < 8) = false := decide_eq_false (by omega)
        have d9 : decide ((n : Int) < ((m.nowAt i).length : Nat)) = decide (n < (m.nowAt i).length) := by
          by_cases hh : n < (m.nowAt i).length
          · rw [decide_eq_true hh, decide_eq_true (by omega)]
          · rw [decide_eq_false hh, decide_eq_false (by omega)]
        rw [decide_eq_false h8]
        repeat (first | with_reducible refine zg ?_ | (with_reducible refine zo ?_; (conv => { arg 1; simp (disch := (first | omega | (with_unfolding_all exact byrfl rfl))) only [evOp, loadI, evX, ofValue, ofValue1, binD, pairsD, evCall, builtinD, D.mem, D.cells, Int.reduceToNat, reduceCtorEq, Nat.reduceBEq, bs1, bs2, bs3, new_len', l4, l5, rr, ne0, rs1, ln_36, d8, d9, s3', R5] }); with_reducible refine s1 ?_))
        exact ⟨rfl, rfl, rfl, rfl, rfl, rfl, rfl, rfl, by rw [← new_len' st' (.cells [.int .i64 i])]; rfl, rfl, tr', O5, hx1, hx2⟩
    · have hov : (opScan m i).over = true := by simpa using hov
      have e0 : (opScan m (i + 1)).over = true := by rw [hnx]; unfold opStep; simp only [hov, Bool.true_or]
      have e1 : (opScan m (i + 1)).pl = (opScan m i).pl := by rw [hnx]; unfold opStep; simp only [hov]; rfl
      rw [if_pos hov, e0, e1]
      have O2 := O1.new (.cells [.int .i64 0])
      repeat (first | with_reducible refine zg ?_ | (with_reducible refine zo ?_; (conv => { arg 1; simp (disch := (first | omega | (with_unfolding_all exact byrfl rfl))) only [evOp, loadI, evX, ofValue, ofValue1, binD, pairsD, evCall, builtinD, D.mem, D.cells, Int.reduceToNat, reduceCtorEq, Nat.reduceBEq, bs1, bs2, bs3] }); with_reducible refine s1 ?_))
      refine ⟨rfl, rfl, rfl, rfl, rfl, by rw [← hov]; rfl, rfl, rfl, by rw [← new_len' st' (.cells [.int .i64 i])]; rfl, rfl, tr, O2, ?_, ?_⟩
      · rw [new_old _ _ (by rw [new_len']; omega)]; exact g1
      · have := new_get (st'.new (.cells [.int .i64 i])) (.cells [.int .i64 0])
        rwa [new_len'] at this
    rintro e fr1 s3 ⟨rfl, k1, k4, k5, k6, k7, k24, k8, k9, k10, tr', O3, x1, x2⟩
    refine sk_on ?_
    have e2 : (opScan m (i + 1)).cu = if (if (opScan m i).over = true then 0 else (scanOf (m.nowAt i) 8).2) < (m.nowAt i).length then (opScan m i).cu ++ [(i, if (opScan m i).over = true then 0 else (scanOf (m.nowAt i) 8).2)] else (opScan m i).cu := by rw [hnx]; rfl
    generalize (if (opScan m i).over = true then 0 else (scanOf (m.nowAt i) 8).2 : Nat) = sz at *
    have l6 := ld_b3 x2
    by_cases hsz : sz < (m.nowAt i).length
    · have d1 : decide ((sz : Int) < ((m.nowAt i).length : Nat)) = true := decide_eq_true (by omega)
      rw [if_pos hsz] at e2
      have hc := capp fl s3 (cl.map (cutC st.blk.length)) (cutC st.blk.length ⟨i, sz, st'.blk.length, st'.blk.length + 1⟩) tc (by rw [List.length_map]; omega) (Nat.le_trans hft O3.all.tlen) (by rw [List.length_map]; exact O3.rc)
      obtain ⟨tc', t1, T1, ap1⟩ := hc
      have rs1 : TipR fl.ft t1 ts cl.length 1 := (T1.other O3.rs O3.a1).1
      have hc2 := capp fl ⟨s3.blk, t1⟩ (cl.map (synC st.blk.length)) (synC st.blk.length ⟨i, sz, st'.blk.length, st'.blk.length + 1⟩) ts (by rw [List.length_map]; omega) (Nat.le_trans hft (Nat.le_trans O3.all.tlen T1.len)) (by rw [List.length_map]; exact rs1)
      obtain ⟨ts', t2, T2, ap2⟩ := hc2
      have b1 := bs87 52 [.ref st.blk.length 0, .ref st'.blk.length 0, .ref (st'.blk.length + 1) 0]
      have b2 := bs87 53 [.ref st.blk.length 0, .ref st'.blk.length 0]
      have a1 : appendD Try.prog fl false s3 87 (.list (cl.map (cutC st.blk.length)).length (rowD cloD (cl.map (cutC st.blk.length))) tc) (.list 1 [.clos 52 [] [.ref st.blk.length 0, .ref st'.blk.length 0, .ref (st'.blk.length + 1) 0]] .full) = _ := ap1
      have a2 : appendD Try.prog fl false ⟨s3.blk, t1⟩ 87 (.list (cl.map (synC st.blk.length)).length (rowD cloD (cl.map (synC st.blk.length))) ts) (.list 1 [.clos 53 [] [.ref st.blk.length 0, .ref st'.blk.length 0]] .full) = _ := ap2
      rw [List.length_map] at T1 T2
      have O4 := O3.cut (c := ⟨i, sz, st'.blk.length, st'.blk.length + 1⟩) hb (fun _ => .inr trivial) ⟨x1, x2, (show st.blk.length + 2 ≤ st'.blk.length by omega), (show st.blk.length + 2 ≤ st'.blk.length + 1 by omega)⟩ htl T1 T2
      repeat (first | with_reducible refine zg ?_ | (with_reducible refine zo ?_; (conv => { arg 1; simp (disch := (first | omega | (with_unfolding_all exact byrfl rfl))) only [evOp, loadI, evX, ofValue, ofValue1, binD, pairsD, evCall, builtinD, D.mem, D.cells, Int.reduceToNat, reduceCtorEq, Nat.reduceBEq, bs1, bs2, bs3, k1, k4, k5, k6, k7, k24, k8, k9, k10, l6, d1, b1, b2, int87, a1, a2] }); with_reducible refine s1 ?_))
      refine turn_go (64 - (i + 1)) (by omega) ?_
      refine ⟨i + 1, cl ++ [⟨i, sz, st'.blk.length, st'.blk.length + 1⟩], tr', tc', ts', rfl, by omega, O4, by rw [e2, List.map_append, hcu]; rfl, ?_⟩
      simp (disch := (first | omega | (with_unfolding_all exact byrfl rfl))) only [keepOnly, List.map_cons, List.map_nil, get_here, get_there, k1, k4, k5, k6, k7, k24, List.map_append, List.length_append, List.length_map, List.length_cons, List.length_nil]
      rfl
    · have d1 : decide ((sz : Int) < ((m.nowAt i).length : Nat)) = false := decide_eq_false (by omega)
      rw [if_neg hsz] at e2
      repeat (first | with_reducible refine zg ?_ | (with_reducible refine zo ?_; (conv => { arg 1; simp (disch := (first | omega | (with_unfolding_all exact byrfl rfl))) only [evOp, loadI, evX, ofValue, ofValue1, binD, pairsD, evCall, builtinD, D.mem, D.cells, Int.reduceToNat, reduceCtorEq, Nat.reduceBEq, bs1, bs2, bs3, k1, k4, k5, k6, k7, k24, k8, k9, k10, l6, d1] }); with_reducible refine s1 ?_))
      refine turn_go (64 - (i + 1)) (by omega) ?_
      refine ⟨i + 1, cl, tr', tc, ts, rfl, by omega, O3, by rw [e2, hcu], ?_⟩
      simp (disch := (first | omega | (with_unfolding_all exact byrfl rfl))) only [keepOnly, List.map_cons, List.map_nil, get_here, get_there, k1, k4, k5, k6, k7, k24]
      rfl
  have he : i = 64 := by omega
  subst he
  have hfew := opScan_few m 64
  have hlc := congrArg List.length hcu
  rw [List.length_map] at hlc
  have hcl : (cl.map (cutC st.blk.length)).length = cl.length := List.length_map _
  have hsl : (cl.map (synC st.blk.length)).length = cl.length := List.length_map _
  obtain ⟨tc2, t2, T, ap⟩ := cap fl st' (cl.map (cutC st.blk.length)) (cl.map (synC st.blk.length)) tc ts (by omega) (Nat.le_trans hft hO.all.tlen) (by rw [hcl]; exact hO.rc)
  obtain ⟨P2, c2⟩ := hO.rows htl T
  have hmap : (cl.map (cutC st.blk.length) ++ cl.map (synC st.blk.length)).map (·.1) = opSteps (opScan m 64) := by
    unfold opSteps
    rw [← hcu]
    simp only [List.map_append, List.map_map]
    rfl
  obtain ⟨_, s5, ⟨rfl, tip5, F5⟩, R5⟩ := r_steps P2.d hk (cl.map (cutC st.blk.length) ++ cl.map (synC st.blk.length)) (by rw [List.length_append]; omega) tc2 (hO.clo hb)
  rw [hmap] at F5 R5
  have hsm : Small (k + 128) (stepsM m (opSteps (opScan m 64))).1 := by
    have key : ∀ (l : List StpM) (k : Nat) (m : DM), Small k m → Small (k + l.length) (stepsM m l).1 := by
      intro l
      induction l with
      | nil => intro k m h; exact h
      | cons s l ih =>
        intro k m h
        rw [stepsM]
        split
        · exact (ih _ _ (small_oneM h s)).mono (by rw [List.length_cons]; omega)
        · exact (small_oneM h s).mono (by rw [List.length_cons]; omega)
    refine (key _ _ _ hk).mono ?_
    rw [← hmap, List.length_map, List.length_append]
    omega
  obtain ⟨P5, c5⟩ := P2.aft F5 (hsm.fit (by omega))
  have c02 : Chg st ⟨st'.blk, t2⟩ ⟨[b], rowsOf tip⟩ ⟨[b], rowsOf tip⟩ := c2.sub (fun x hx => by simp [noO] at hx) (fun x hx => by simp [noO] at hx) (fun x hx => .inr (.inl hx)) (fun x hx => .inr (.inl hx))
  by_cases he : (stepsM m (opSteps (opScan m 64))).2 = 0
  · have e1 : rlOpen m = ((stepsM m (opSteps (opScan m 64))).1, some ⟨(opScan m 64).pl, (opScan m 64).pl.length⟩, 0) := by unfold rlOpen; rw [if_neg (by rw [ho]; decide), if_pos he]
    rw [e1]
    rw [he] at R5
    have l7 := rq_pl P5
    have s7 := sq_sure P5 (opScan m 64).pl.length
    obtain ⟨P7, c7⟩ := P5.put (r' := ⟨(opScan m 64).pl, (opScan m 64).pl.length⟩) (TG.refl P5.row) P5.few (Nat.le_refl _)
    repeat (first | with_reducible refine zg ?_ | (with_reducible refine zo ?_; (conv => { arg 1; simp (disch := (first | omega | (with_unfolding_all exact byrfl rfl))) only [evOp, loadI, evX, ofValue, ofValue1, binD, pairsD, evCall, builtinD, D.mem, D.cells, Int.reduceToNat, reduceCtorEq, Nat.reduceBEq, bs1, bs2, bs3, int87, ap, R5, ne0, fr_86_1, fr_86_2, Nat.zero_add, l7, ln_84, s7] }); with_reducible refine s1 ?_))
    refine ⟨_, _, .inl ⟨st.blk.length + 1, tr, tip5, _, rfl, rfl, rfl, P7, by omega, hO.nr, ?_⟩, trivial, rfl, _, rfl, rfl⟩
    have cc := (c5.trans c7)
    refine ⟨fun i hi hn => ?_, Nat.le_trans c02.len cc.len, fun i hi hn => ?_, Nat.le_trans c02.tlen cc.tlen, fun x hx => ?_, fun x hx => ?_⟩
    · rw [cc.keep i (Nat.lt_of_lt_of_le hi c02.len) (fun e => by simp [psO] at e; simp at hn; omega)]
      exact c02.keep i hi hn
    · rw [cc.tkeep i (Nat.lt_of_lt_of_le hi c02.tlen) (fun e => by
        rcases List.mem_append.1 e with e | e
        · exact hn e
        · have := hO.nr i (mem_rows.1 e); omega)]
      exact c02.tkeep i hi hn
    · simp [psO] at hx
      rcases hx with e | e
      · exact .inl (by simp [e])
      · exact .inr (by omega)
    · rcases cc.nt x hx with e | e
      · rcases List.mem_append.1 e with e | e
        · exact .inl e
        · exact .inr (hO.nr x (mem_rows.1 e))
      · exact .inr (Nat.le_trans c02.tlen e)
  · have e1 : rlOpen m = ((stepsM m (opSteps (opScan m 64))).1, none, (stepsM m (opSteps (opScan m 64))).2) := by unfold rlOpen; rw [if_neg (by rw [ho]; decide), if_neg he]
    rw [e1]
    have dx : decide ((((stepsM m (opSteps (opScan m 64))).2 : Nat) : Int) ≠ 0) = true := decide_eq_true (by omega)
    repeat (first | with_reducible refine zg ?_ | (with_reducible refine zo ?_; (conv => { arg 1; simp (disch := (first | omega | (with_unfolding_all exact byrfl rfl))) only [evOp, loadI, evX, ofValue, ofValue1, binD, pairsD, evCall, builtinD, D.mem, D.cells, Int.reduceToNat, reduceCtorEq, Nat.reduceBEq, bs1, bs2, bs3, ofv_nilp, ofv_nilp', int87, ap, R5, dx] }); with_reducible refine s1 ?_))
    exact ⟨_, _, .inr ⟨rfl, he, rfl, tip5, P5.d, c02.trans F5.chg⟩, trivial, rfl, _, rfl, rfl⟩
end
end Go.Ab.Ds

/-
  Plain laws of reels: records stand in their files, eight in each; what is told of them; one more.
-/
namespace Go.Ab.Ds
open Go.Ab
set_option maxRecDepth 100000
theorem allOf_cons (s : List UInt8) (l : List (List UInt8)) : allOf (s :: l) = putOf s ++ allOf l := rfl
theorem allOf_nil : allOf [] = [] := rfl
def off8 (L : List (List UInt8)) (i : Nat) : Nat := (allOf ((L.drop (8 * (i / 8))).take (i % 8))).length
/-- A reel has just these records. -/
structure RG (m : DM) (r : RlM) (L : List (List UInt8)) : Prop where
  ok : m.Ok
  few : L.length ≤ 512
  sz : ∀ s ∈ L, s.length ≤ 65536
  now : ∀ f, f < 64 → m.nowAt f = allOf ((L.drop (8 * f)).take 8)
  len : r.pl.length = L.length
  pl : ∀ i, i < L.length → r.pl.getD i (0, 0) = (off8 L i, (putOf (L.getD i [])).length)
theorem take_at (L : List (List UInt8)) {i : Nat} (h : i < L.length) : (L.drop (8 * (i / 8))).take 8 = (L.drop (8 * (i / 8))).take (i % 8) ++ (L.getD i [] :: (L.drop (i + 1)).take (7 - i % 8)) := by
  have h1 : ∀ X : List (List UInt8), X.take 8 = X.take (i % 8) ++ (X.drop (i % 8)).take ((7 - i % 8) + 1) := fun X => by
    rw [← List.take_add, show i % 8 + ((7 - i % 8) + 1) = 8 by omega]
  have h2 : (L.drop (8 * (i / 8))).drop (i % 8) = L.getD i [] :: L.drop (i + 1) := by
    rw [List.drop_drop, show 8 * (i / 8) + i % 8 = i by omega, List.drop_eq_getElem_cons h]
    simp [h]
  rw [h1, h2, List.take_succ_cons]
theorem putOf_take (s : List UInt8) (h : s.length ≤ 65536) : takeOf (putOf s) = (s, 9 + s.length, 0) := by
  have := take_put s [] h
  rwa [List.append_nil] at this
theorem rg_get {m : DM} {r : RlM} {L : List (List UInt8)} (h : RG m r L) (ho : m.off = false) {i : Nat} (hi : i < L.length) : rlGet m r i = (L.getD i [], 0) := by
  have hs : (L.getD i []).length ≤ 65536 := h.sz _ (by rw [List.getD_eq_getElem?_getD, List.getElem?_eq_getElem hi]; exact List.getElem_mem hi)
  have hf : i / 8 < 64 := by have := h.few; omega
  have hnow := h.now (i / 8) hf
  rw [take_at L hi, allOf_app, allOf_cons] at hnow
  have hrd : m.read ((i / 8 : Nat) : Int) ((off8 L i : Nat) : Int) (((putOf (L.getD i [])).length : Nat) : Int) = (putOf (L.getD i []), 0) := by
    unfold DM.read
    rw [if_neg (by simp [ho]), if_neg (by rw [isF_true (by omega)]; decide)]
    simp only [Int.toNat_natCast]
    rw [hnow, if_neg (by unfold off8; simp; omega)]
    unfold off8
    rw [List.drop_left' rfl, List.take_left' rfl]
  unfold rlGet
  rw [if_neg (by rw [h.len]; omega), Int.toNat_natCast, h.pl i hi]
  simp only
  rw [hrd]
  simp only [if_true]
  rw [putOf_take _ hs]
theorem rg_get_off {m : DM} {r : RlM} {L : List (List UInt8)} (h : RG m r L) (ho : m.off = true) {i : Nat} (hi : i < L.length) : rlGet m r i = ([], 100) := by
  have hrd : ∀ f a n, m.read f a n = ([], 100) := fun f a n => by unfold DM.read; rw [if_pos ho]
  unfold rlGet
  rw [if_neg (by rw [h.len]; omega)]
  simp only [hrd]
  rfl
theorem rg_now {m m' : DM} {r r' : RlM} {L : List (List UInt8)} (h : RG m r L) (hk : m'.Ok) (hn : m'.now = m.now) (hp : r'.pl = r.pl) : RG m' r' L :=
  ⟨hk, h.few, h.sz, fun f hf => by show m'.now.getD f [] = _; rw [hn]; exact h.now f hf, by rw [hp]; exact h.len, by rw [hp]; exact h.pl⟩
def refAppend (m : DM) (L : List (List UInt8)) (s : List UInt8) : (DM × List (List UInt8)) × Nat :=
  if 65536 < s.length then ((m, L), 3)
  else if 512 ≤ L.length then ((m, L), 7)
  else if (m.append ((L.length / 8 : Nat) : Int) (putOf s)).2 = 0 then (((m.append ((L.length / 8 : Nat) : Int) (putOf s)).1, L ++ [s]), 0)
  else (((m.append ((L.length / 8 : Nat) : Int) (putOf s)).1, L), (m.append ((L.length / 8 : Nat) : Int) (putOf s)).2)
theorem append_ok {m : DM} {f : Nat} {s : List UInt8} (h : (m.append (f : Int) s).2 = 0) : m.off = false ∧ f < 64 ∧ (m.nowAt f).length + s.length ≤ DM.mostF ∧ ¬ ((m.ops : Int) = m.goes) ∧ (m.append (f : Int) s).1 = { m with ops := m.ops + 1, now := m.now.set f (m.nowAt f ++ s), loose := m.loose ++ [⟨f, (m.nowAt f).length, s, false⟩] } := by
  unfold DM.append at h ⊢
  split at h; · simp at h
  rename_i h1
  split at h; · simp at h
  rename_i h2
  split at h; · simp at h
  rename_i h3
  split at h; · simp at h
  rename_i h4
  have := DM.isF_lt h2
  rw [Int.toNat_natCast] at this h3
  refine ⟨by simpa using h1, this.1, by omega, h4, ?_⟩
  rw [if_neg h1, if_neg h2, if_neg (by rw [Int.toNat_natCast]; exact h3), if_neg h4, Int.toNat_natCast]
theorem append_no {m : DM} {f : Nat} {s : List UInt8} (h : (m.append (f : Int) s).2 ≠ 0) : (m.append (f : Int) s).1.now = m.now ∧ (m.append (f : Int) s).1.sure = m.sure ∧ (m.append (f : Int) s).1.loose = m.loose := by
  unfold DM.append at h ⊢
  split; · exact ⟨rfl, rfl, rfl⟩
  rename_i h1
  split; · exact ⟨rfl, rfl, rfl⟩
  rename_i h2
  split; · exact ⟨rfl, rfl, rfl⟩
  rename_i h3
  split; · exact ⟨rfl, rfl, rfl⟩
  rename_i h4
  rw [if_neg h1, if_neg h2, if_neg h3, if_neg h4] at h
  exact absurd rfl h
theorem rg_append {m : DM} {r : RlM} {L : List (List UInt8)} (h : RG m r L) (s : List UInt8) :
    (rlAppend m r s).2 = (refAppend m L s).2 ∧ (rlAppend m r s).1.1 = (refAppend m L s).1.1 ∧ RG (rlAppend m r s).1.1 (rlAppend m r s).1.2 (refAppend m L s).1.2 ∧ (rlAppend m r s).1.2.sure = r.sure := by
  unfold rlAppend refAppend
  rw [h.len]
  have hfew := h.few
  by_cases h1 : 65536 < s.length
  · rw [if_pos h1, if_pos h1]; exact ⟨rfl, rfl, h, rfl⟩
  rw [if_neg h1, if_neg h1]
  by_cases h2 : L.length = 512
  · rw [if_pos h2, if_pos (show 512 ≤ L.length by omega)]; exact ⟨rfl, rfl, h, rfl⟩
  rw [if_neg h2, if_neg (show ¬ 512 ≤ L.length by omega)]
  by_cases h3 : (m.append ((L.length / 8 : Nat) : Int) (putOf s)).2 = 0
  · rw [if_pos h3, if_pos h3]
    refine ⟨rfl, rfl, ?_, rfl⟩
    obtain ⟨ho, hf, hle, hg, em⟩ := append_ok h3
    have hk := DM.ok_append h.ok ((L.length / 8 : Nat) : Int) (putOf s)
    show RG (m.append ((L.length / 8 : Nat) : Int) (putOf s)).1 _ _
    have hn := h.now (L.length / 8) hf
    have hdl : (L.drop (8 * (L.length / 8))).length = L.length % 8 := by rw [List.length_drop]; omega
    have htk : (L.drop (8 * (L.length / 8))).take 8 = L.drop (8 * (L.length / 8)) := List.take_of_length_le (by omega)
    rw [htk] at hn
    refine ⟨hk, by simp; omega, fun x hx => ?_, fun g hg' => ?_, ?_, fun i hi => ?_⟩
    · rcases List.mem_append.1 hx with e | e
      · exact h.sz x e
      · simp at e; subst e; omega
    · rw [em]
      show (m.now.set (L.length / 8) _).getD g [] = _
      rw [DM.getD_set (by rw [h.ok.now]; exact hf)]
      by_cases e : L.length / 8 = g
      · subst e
        rw [if_pos rfl, hn, List.drop_append_of_le_length (by omega), List.take_of_length_le (by rw [List.length_append, hdl]; simp; omega), allOf_app, allOf_cons, allOf_nil, List.append_nil]
      · rw [if_neg e]
        show m.nowAt g = _
        rw [h.now g hg']
        by_cases hlt : g < L.length / 8
        · rw [List.drop_append_of_le_length (by omega), List.take_append_of_le_length (by rw [List.length_drop]; omega)]
        · rw [List.drop_of_length_le (by omega), List.drop_of_length_le (by simp; omega)]
    · simp [h.len]
    · rw [List.length_append] at hi
      simp only [List.length_cons, List.length_nil] at hi
      by_cases hlt : i < L.length
      · have e1 : (r.pl ++ [(m.size ((L.length / 8 : Nat) : Int), (putOf s).length)]).getD i (0, 0) = r.pl.getD i (0, 0) := by
          simp only [List.getD_eq_getElem?_getD]
          rw [List.getElem?_append_left (by rw [h.len]; exact hlt)]
        have e2 : (L ++ [s]).getD i [] = L.getD i [] := by
          simp only [List.getD_eq_getElem?_getD]
          rw [List.getElem?_append_left hlt]
        have e3 : off8 (L ++ [s]) i = off8 L i := by
          unfold off8
          rw [List.drop_append_of_le_length (by omega), List.take_append_of_le_length (by rw [List.length_drop]; omega)]
        rw [e2, e3, ← h.pl i hlt]
        exact e1
      · have he : i = L.length := by omega
        subst he
        have e1 : (r.pl ++ [(m.size ((L.length / 8 : Nat) : Int), (putOf s).length)]).getD L.length (0, 0) = (m.size ((L.length / 8 : Nat) : Int), (putOf s).length) := by
          simp only [List.getD_eq_getElem?_getD]
          rw [List.getElem?_append_right (by rw [h.len]; exact Nat.le_refl _), h.len, Nat.sub_self]; rfl
        have e2 : (L ++ [s]).getD L.length [] = s := by
          simp only [List.getD_eq_getElem?_getD]
          rw [List.getElem?_append_right (Nat.le_refl _), Nat.sub_self]; rfl
        have e3 : off8 (L ++ [s]) L.length = m.size ((L.length / 8 : Nat) : Int) := by
          rw [size_now hf, hn]
          unfold off8
          rw [List.drop_append_of_le_length (by omega), List.take_append_of_le_length (by rw [hdl]; exact Nat.le_refl _), List.take_of_length_le (by rw [hdl]; exact Nat.le_refl _)]
        rw [e2, e3]
        exact e1
  · rw [if_neg h3, if_neg h3]
    obtain ⟨e1, e2, e3⟩ := append_no h3
    exact ⟨rfl, rfl, rg_now h (DM.ok_append h.ok _ _) e1 rfl, rfl⟩
theorem rg_new : RG DM.new ⟨[], 0⟩ [] := ⟨DM.ok_new, by simp, by simp, fun f hf => by rw [new_now]; simp [allOf], rfl, fun i hi => by simp at hi⟩
end Go.Ab.Ds
