/-
  Deeds as plain data: how one is read from bytes, in the program's way and in the document's; both come to the same.
-/
import Derived.Test.YtpchdmndbocedaaGreatCnA
import Derived.Test.YtpchdmndbocedaaGreatNaL
set_option linter.unusedSimpArgs false
set_option linter.unusedVariables false
namespace Go.Ab.Ak
open Go Go.Ab Go.Ab.Cn
abbrev U64:={ n : Nat // n < 18446744073709551616 }
abbrev U8:={ n : Nat // n < 256 }
def z64 : U64:=⟨0,by decide⟩
def takeT : Nat → Nat → Nat → List UInt8 → Nat × Nat × Nat
  | 0, _, _, _ => (0, 0, 6)
  | _ + 1, _, _, [] => (0, 0, 10)
  | k + 1, i, n, c :: r =>
    if k = 0 ∧ 1 < c.toNat then (0, 0, 6)
    else if c.toNat < 128 then (if c.toNat = 0 ∧ 0 < i then (0, 0, 6) else (n + c.toNat * 128 ^ i, i + 1, 0))
    else takeT k (i + 1) (n + (c.toNat - 128) * 128 ^ i) r
def takeN (s : List UInt8) : Nat × Nat × Nat:=takeT 10 0 0 s
theorem pow9 : (128 : Nat) ^ 9 = 9223372036854775808:=by decide
theorem step_lt {i n c : Nat} (hn : n < 128 ^ i) (hc : c < 128) : n + c * 128 ^ i < 128 ^ (i + 1):=by
 have h : c * 128 ^ i ≤ 127 * 128 ^ i:=Nat.mul_le_mul_right _ (by omega)
 have e : 128 ^ (i + 1) = 127 * 128 ^ i + 128 ^ i:=by rw [Nat.pow_succ]; omega
 omega
theorem pow_le9 {i : Nat} (h : i ≤ 9) : (128 : Nat) ^ i ≤ 9223372036854775808:=by
 rw [← pow9]; exact Nat.pow_le_pow_right (by decide) h
theorem last_lt {i n c : Nat} (hi : i ≤ 9) (hn : n < 128 ^ i) (hc : c < 128) (h9 : i = 9 → c ≤ 1) : n + c * 128 ^ i < 18446744073709551616:=by
 by_cases h : i = 9
 ·subst h
  rw [pow9] at hn ⊢
  have:=h9 rfl
  omega
 ·have h1:=step_lt hn hc
  have h2:=pow_le9 (i:=i + 1) (by omega)
  omega
theorem takeT_ok : ∀ (k i n : Nat) (s : List UInt8), k + i = 10 → n < 128 ^ i → (takeT k i n s).2.2 = 0 → (takeT k i n s).1 < 18446744073709551616 ∧ (takeT k i n s).2.1 ≤ i + s.length ∧ 1 ≤ (takeT k i n s).2.1
  | 0, _, _, _, _, _, h => by simp [takeT] at h
  | _ + 1, _, _, [], _, _, h => by simp [takeT] at h
  | k + 1, i, n, c :: r, hk, hn, h => by
    rw [takeT] at h ⊢
    split at h
    · simp at h
    rename_i h0
    rw [if_neg h0]
    split at h
    · rename_i h1
      rw [if_pos h1]
      split at h
      · simp at h
      · rename_i h2
        rw [if_neg h2]
        refine ⟨last_lt (by omega) hn h1 (fun e => ?_), by simp, by simp⟩
        have : k = 0 := by omega
        omega
    · rename_i h1
      rw [if_neg h1]
      have hc := c.toNat_lt
      have := takeT_ok k (i + 1) (n + (c.toNat - 128) * 128 ^ i) r (by omega) (step_lt hn (by omega)) h
      simp only [List.length_cons]
      omega
theorem takeN_ok {s : List UInt8} (h : (takeN s).2.2 = 0) : (takeN s).1 < 18446744073709551616 ∧ (takeN s).2.1 ≤ s.length ∧ 1 ≤ (takeN s).2.1:=by
 have:=takeT_ok 10 0 0 s rfl (by decide) h
 unfold takeN
 omega
def val : List UInt8 → Nat
 | [] => 0
 | c :: r => c.toNat % 128 + 128 * val r
theorem val_snoc : ∀ (l : List UInt8) (c : UInt8), val (l ++ [c]) = val l + (c.toNat % 128) * 128 ^ l.length
  | [], c => by simp [val]
  | d :: l, c => by
    simp only [List.cons_append, val, val_snoc l c, List.length_cons]
    rw [Nat.mul_add, Nat.pow_succ, show 128 * (c.toNat % 128 * 128 ^ l.length) = c.toNat % 128 * (128 ^ l.length * 128) by
      rw [Nat.mul_comm 128, Nat.mul_assoc]]
    omega
theorem val_lt : ∀ l : List UInt8, val l < 128 ^ l.length
  | [] => by simp [val]
  | c :: r => by
    have := val_lt r
    simp only [val, List.length_cons, Nat.pow_succ]
    omega
theorem val_pos : ∀ (l : List UInt8) (c : UInt8), c.toNat % 128 ≠ 0 → 1 ≤ val (l ++ [c])
  | [], c, h => by simp [val]; omega
  | d :: l, c, h => by
    have := val_pos l c h
    simp only [List.cons_append, val]; omega
abbrev R:=List UInt8 × Bool
section
def numR (r : R) : U64 × R :=
 if r.2 ∨ (takeN r.1).2.2 ≠ 0 then (z64,(r.1,true)) else (⟨(takeN r.1).1 % 18446744073709551616,Nat.mod_lt _ (by decide)⟩,(r.1.drop (takeN r.1).2.1,false))
def textR (n : Nat) (r : R) : List UInt8 × R :=
 if r.2 ∨ r.1.length < n then (List.replicate n 0,(r.1,true)) else (r.1.take n,(r.1.drop n,false))
theorem textR_len (n : Nat) (r : R) : (textR n r).1.length = n:=by
 unfold textR
 split
 ·simp
 ·rename_i h
  simp only [List.length_take]
  omega
def hashR (r : R) : H32 × R:=(⟨(textR 32 r).1,textR_len 32 r⟩,(textR 32 r).2)
variable {α : Type}
def manyR (one : R → α × R) : Nat → R → List α × R
 | 0,r => ([],r)
 | k + 1,r => ((manyR one k r).1 ++ [(one (manyR one k r).2).1],(one (manyR one k r).2).2)
def takenR (most : Nat) (one : R → α × R) (r : R) : List α × R :=
 if most < (numR r).1.1 then ([],((numR r).2.1,true)) else manyR one (numR r).1.1 (numR r).2
def numF (r : R) : U64 × R :=
 if (takeN r.1).2.2 ≠ 0 then (z64,(r.1,true)) else (⟨(takeN r.1).1 % 18446744073709551616,Nat.mod_lt _ (by decide)⟩,(r.1.drop (takeN r.1).2.1,r.2))
def textF (n : Nat) (r : R) : List UInt8 × R :=
 if r.1.length < n then (List.replicate n 0,(r.1,true)) else (r.1.take n,(r.1.drop n,r.2))
theorem textF_len (n : Nat) (r : R) : (textF n r).1.length = n:=by
 unfold textF
 split
 ·simp
 ·rename_i h
  simp only [List.length_take]
  omega
def hashF (r : R) : H32 × R:=(⟨(textF 32 r).1,textF_len 32 r⟩,(textF 32 r).2)
def countF (most : Nat) (r : R) : U64 × R :=
 if most < (numF r).1.1 then (z64,((numF r).2.1,true)) else numF r
def manyF (one : R → α × R) : Nat → List α → R → List α × R
 | 0,l,r => (l,r)
 | k + 1,l,r => if r.2 then (l,r) else manyF one k (l ++ [(one r).1]) (one r).2
def takenF (most : Nat) (one : R → α × R) (r : R) : List α × R:=manyF one (countF most r).1.1 [] (countF most r).2
def Sim (x y : α × R) : Prop:=(x.2.2 = true ∧ y.2.2 = true) ∨ (x = y ∧ x.2.2 = false)
structure Alk (f g : R → α × R) : Prop where
 same : ∀ r,r.2 = false → Sim (f r) (g r)
 left : ∀ r,r.2 = true → (f r).2.2 = true
 right : ∀ r,r.2 = true → (g r).2.2 = true
theorem Alk.all {f g : R → α × R} (h : Alk f g) {r q : R} (hr : (r.2 = true ∧ q.2 = true) ∨ (r = q ∧ r.2 = false)) : Sim (f r) (g q):=by
 rcases hr with ⟨a,b⟩ | ⟨rfl,b⟩
 ·exact .inl ⟨h.left r a,h.right q b⟩
 ·exact h.same r b
variable {β : Type}
theorem Alk.bind {f g : R → α × R} {f' g' : α → R → β × R} (h : Alk f g) (h' : ∀ a,Alk (f' a) (g' a)) : Alk (fun r => f' (f r).1 (f r).2) (fun r => g' (g r).1 (g r).2) where
 same r hr:=by
  rcases h.same r hr with ⟨a,b⟩ | ⟨e,b⟩
  ·exact .inl ⟨(h' _).left _ a,(h' _).right _ b⟩
  ·simp only [← e]
   exact (h' _).same _ b
 left r hr:=(h' _).left _ (h.left r hr)
 right r hr:=(h' _).right _ (h.right r hr)
theorem Alk.pure (a : α) : Alk (fun r => (a,r)) (fun r => (a,r)) where
 same r hr:=.inr ⟨rfl,hr⟩
 left r hr:=hr
 right r hr:=hr
theorem al_num : Alk numR numF where
  same r hr := by
    unfold numR numF
    by_cases h : (takeN r.1).2.2 ≠ 0
    · rw [if_pos (.inr h), if_pos h]; exact .inl ⟨rfl, rfl⟩
    · rw [if_neg (by rw [hr]; rintro (h' | h'); · cases h'
                     · exact h h'), if_neg h, hr]
      exact .inr ⟨rfl, rfl⟩
  left r hr := by unfold numR; rw [if_pos (.inl hr)]
  right r hr := by
    unfold numF
    split
    · rfl
    · exact hr
theorem al_text (n : Nat) : Alk (textR n) (textF n) where
  same r hr := by
    unfold textR textF
    by_cases h : r.1.length < n
    · rw [if_pos (.inr h), if_pos h]; exact .inl ⟨rfl, rfl⟩
    · rw [if_neg (by rw [hr]; rintro (h' | h'); · cases h'
                     · exact h h'), if_neg h, hr]
      exact .inr ⟨rfl, rfl⟩
  left r hr := by unfold textR; rw [if_pos (.inl hr)]
  right r hr := by
    unfold textF
    split
    · rfl
    · exact hr
theorem al_hash : Alk hashR hashF where
 same r hr:=by
  rcases (al_text 32).same r hr with h | ⟨h,h'⟩
  ·exact .inl h
  ·refine .inr ⟨?_,h'⟩
   unfold hashR hashF
   simp only [h]
 left r hr:=(al_text 32).left r hr
 right r hr:=(al_text 32).right r hr
theorem manyR_bad {f : R → α × R} (hf : ∀ r,r.2 = true → (f r).2.2 = true) : ∀ (k : Nat) (r : R),r.2 = true → (manyR f k r).2.2 = true
 | 0,_,h => h
 | k + 1,r,h => hf _ (manyR_bad hf k r h)
theorem manyF_bad {g : R → α × R} : ∀ (k : Nat) (l : List α) (r : R),r.2 = true → (manyF g k l r).2.2 = true
 | 0,_,_,h => h
 | k + 1,l,r,h => by rw [manyF,if_pos h]; exact h
def manyL (one : R → α × R) : Nat → List α → R → List α × R
 | 0,l,r => (l,r)
 | k + 1,l,r => manyL one k (l ++ [(one r).1]) (one r).2
theorem manyL_snoc (f : R → α × R) : ∀ (k : Nat) (l : List α) (r : R), manyL f (k + 1) l r = ((manyL f k l r).1 ++ [(f (manyL f k l r).2).1], (f (manyL f k l r).2).2)
  | 0, _, _ => rfl
  | k + 1, l, r => by
    rw [manyL, manyL_snoc f k]
    rfl
theorem manyL_eq (f : R → α × R) : ∀ (k : Nat) (r : R),manyL f k [] r = manyR f k r
 | 0,_ => rfl
 | k + 1,r => by rw [manyL_snoc,manyL_eq f k r]; rfl
theorem manyL_bad {f : R → α × R} (hf : ∀ r,r.2 = true → (f r).2.2 = true) : ∀ (k : Nat) (l : List α) (r : R),r.2 = true → (manyL f k l r).2.2 = true
 | 0,_,_,h => h
 | k + 1,_,r,h => manyL_bad hf k _ _ (hf r h)
theorem al_manyL {f g : R → α × R} (h : Alk f g) : ∀ (k : Nat) (l : List α) (r : R), r.2 = false → Sim (manyL f k l r) (manyF g k l r)
  | 0, l, r, hr => .inr ⟨rfl, hr⟩
  | k + 1, l, r, hr => by
    rw [manyL, manyF, if_neg (by rw [hr]; decide)]
    rcases h.same r hr with ⟨a, b⟩ | ⟨e, b⟩
    · exact .inl ⟨manyL_bad h.left k _ _ a, manyF_bad k _ _ b⟩
    · rw [← e]
      exact al_manyL h k _ _ b
theorem al_taken {f g : R → α × R} (h : Alk f g) (most : Nat) : Alk (takenR most f) (takenF most g) where
 same r hr:=by
  unfold takenR takenF countF
  rcases al_num.same r hr with ⟨a,b⟩ | ⟨e,b⟩
  ·refine .inl ⟨?_,?_⟩
   ·split
    ·rfl
    ·exact manyR_bad h.left _ _ a
   ·refine manyF_bad _ _ _ ?_
    split
    ·rfl
    ·exact b
  ·rw [← e]
   by_cases hm : most < (numR r).1.1
   ·rw [if_pos hm,if_pos hm]
    exact .inl ⟨rfl,rfl⟩
   ·rw [if_neg hm,if_neg hm,← manyL_eq]
    exact al_manyL h _ _ _ b
 left r hr:=by
  unfold takenR
  split
  ·rfl
  ·exact manyR_bad h.left _ _ (al_num.left r hr)
 right r hr:=by
  unfold takenF countF
  refine manyF_bad _ _ _ ?_
  split
  ·rfl
  ·exact al_num.right r hr
end
structure CertM where
 kind : Nat
 key : H32
 pool : H32
 a : Nat
 b : Nat
 c : Nat
 hk : kind < 256
 ha : a < 18446744073709551616
 hb : b < 18446744073709551616
 hc : c < 18446744073709551616
deriving DecidableEq
structure PayM where
 key : H32
 am : Nat
 ham : am < 18446744073709551616
deriving DecidableEq
structure WitM where
 key : H32
 sig : List UInt8
deriving DecidableEq
structure DeedM where
 ins : List InM
 outs : List OutM
 fee : U64
 fro : U64
 til : U64
 certs : List CertM
 pays : List PayM
 wits : List WitM
def firstB (l : List UInt8) : U8:=⟨(l.head?.getD 0).toNat,(l.head?.getD 0).toNat_lt⟩
section
variable (num : R → U64 × R) (hash : R → H32 × R) (text : Nat → R → List UInt8 × R)
def inW (r : R) : InM × R:=(fun (h : H32) r => (fun (n : U64) r => ((⟨h,n.1,n.2⟩ : InM),r)) (num r).1 (num r).2) (hash r).1 (hash r).2
def outW (r : R) : OutM × R:=(fun (h : H32) r => (fun (g : H32) r => (fun (n : U64) r => ((⟨h,g,n.1,n.2⟩ : OutM),r)) (num r).1 (num r).2) (hash r).1 (hash r).2) (hash r).1 (hash r).2
def certW (r : R) : CertM × R:=(fun (t : List UInt8) r => (fun (h : H32) r => (fun (g : H32) r => (fun (a : U64) r => (fun (b : U64) r => (fun (c : U64) r =>
 ((⟨(firstB t).1,h,g,a.1,b.1,c.1,(firstB t).2,a.2,b.2,c.2⟩ : CertM),r)) (num r).1 (num r).2) (num r).1 (num r).2) (num r).1 (num r).2) (hash r).1 (hash r).2) (hash r).1 (hash r).2) (text 1 r).1 (text 1 r).2
def payW (r : R) : PayM × R:=(fun (h : H32) r => (fun (n : U64) r => ((⟨h,n.1,n.2⟩ : PayM),r)) (num r).1 (num r).2) (hash r).1 (hash r).2
def witW (r : R) : WitM × R:=(fun (h : H32) r => (fun (t : List UInt8) r => ((⟨h,t⟩ : WitM),r)) (text 1024 r).1 (text 1024 r).2) (hash r).1 (hash r).2
def deedW (taken : {α : Type} → Nat → (R → α × R) → R → List α × R) (r : R) : DeedM × R :=
  (fun (ins : List InM) r => (fun (outs : List OutM) r => (fun (fee : U64) r => (fun (fro : U64) r => (fun (til : U64) r => (fun (certs : List CertM) r => (fun (pays : List PayM) r => (fun (wits : List WitM) r =>
    ((⟨ins, outs, fee, fro, til, certs, pays, wits⟩ : DeedM), r)) (taken 8 (witW hash text) r).1 (taken 8 (witW hash text) r).2) (taken 4 (payW num hash) r).1 (taken 4 (payW num hash) r).2) (taken 4 (certW num hash text) r).1 (taken 4 (certW num hash text) r).2)
      (num r).1 (num r).2) (num r).1 (num r).2) (num r).1 (num r).2) (taken 8 (outW num hash) r).1 (taken 8 (outW num hash) r).2) (taken 8 (inW num hash) r).1 (taken 8 (inW num hash) r).2
end
theorem al_in : Alk (inW numR hashR) (inW numF hashF):=al_hash.bind fun h => al_num.bind fun n => .pure (⟨h,n.1,n.2⟩ : InM)
theorem al_out : Alk (outW numR hashR) (outW numF hashF):=al_hash.bind fun h => al_hash.bind fun g => al_num.bind fun n => .pure (⟨h,g,n.1,n.2⟩ : OutM)
theorem al_cert : Alk (certW numR hashR textR) (certW numF hashF textF) :=
 (al_text 1).bind fun t => al_hash.bind fun h => al_hash.bind fun g => al_num.bind fun a => al_num.bind fun b => al_num.bind fun c => .pure (⟨(firstB t).1,h,g,a.1,b.1,c.1,(firstB t).2,a.2,b.2,c.2⟩ : CertM)
theorem al_pay : Alk (payW numR hashR) (payW numF hashF):=al_hash.bind fun h => al_num.bind fun n => .pure (⟨h,n.1,n.2⟩ : PayM)
theorem al_wit : Alk (witW hashR textR) (witW hashF textF):=al_hash.bind fun h => (al_text 1024).bind fun t => .pure (⟨h,t⟩ : WitM)
theorem al_deed : Alk (deedW numR hashR textR @takenR) (deedW numF hashF textF @takenF) :=
 (al_taken al_in 8).bind fun ins => (al_taken al_out 8).bind fun outs => al_num.bind fun fee => al_num.bind fun fro => al_num.bind fun til =>
  (al_taken al_cert 4).bind fun certs => (al_taken al_pay 4).bind fun pays => (al_taken al_wit 8).bind fun wits => .pure (⟨ins,outs,fee,fro,til,certs,pays,wits⟩ : DeedM)
def zH' : H32:=zH
def certB (x : CertM) : Bool :=
 if x.kind = 1 then decide (x.pool = zH ∧ x.a = 0 ∧ x.b = 0 ∧ x.c = 0)
 else if x.kind = 2 then decide (x.pool = zH ∧ x.a = 0 ∧ x.b = 0 ∧ x.c = 0)
 else if x.kind = 3 then decide (x.a = 0 ∧ x.b = 0 ∧ x.c = 0)
 else if x.kind = 4 then decide (x.a < 9223372036854775808 ∧ x.b < 9223372036854775808 ∧ x.c ≤ 1000)
 else if x.kind = 5 then decide (x.key = zH ∧ x.b = 0 ∧ x.c = 0)
 else if x.kind = 6 then decide (x.key = zH ∧ x.c = 0)
 else false
def amountB (n : Nat) : Bool:=decide (1 ≤ n ∧ n ≤ 9223372036854775807)
def risB {α : Type} (key : α → List UInt8) : Option α → List α → Bool
 | _,[] => true
 | none,y :: l => risB key (some y) l
 | some x,y :: l => lessB (key x) (key y) && risB key (some y) l
def rispB {α : Type} (key : α → List UInt8) (p : α → Bool) : Option α → List α → Bool
 | _,[] => true
 | none,y :: l => p y && rispB key p (some y) l
 | some x,y :: l => p y && (lessB (key x) (key y) && rispB key p (some y) l)
theorem rispB_eq {α : Type} (key : α → List UInt8) (p : α → Bool) : ∀ (o : Option α) (l : List α), rispB key p o l = (risB key o l && l.all p)
  | _, [] => by simp [rispB, risB]
  | none, y :: l => by
    rw [rispB, risB, rispB_eq key p, List.all_cons]
    cases p y <;> simp
  | some x, y :: l => by
    rw [rispB, risB, rispB_eq key p, List.all_cons]
    cases p y <;> simp [Bool.and_assoc]
def prevAt {α : Type} (l : List α) (i : Nat) : Option α:=if i = 0 then none else l[i - 1]?
theorem prevAt_succ {α : Type} (l : List α) (i : Nat) (h : i < l.length) : prevAt l (i + 1) = some l[i]:=by
 simp [prevAt,h]
end Go.Ab.Ak
namespace Go.Ab.Ak
open Go Go.Ab Go.Ab.Cn Go.Ab.Sha
theorem or128n (x : UInt8) : (x ||| 128).toNat = x.toNat % 128 + 128:=by
 have h : ∀ i : Fin 256,((UInt8.ofNat i.1) ||| 128).toNat = i.1 % 128 + 128:=by decide +kernel
 have:=h ⟨x.toNat,x.toNat_lt⟩
 simpa using this
theorem varB_le : ∀ (k v j : Nat), v < 128 ^ j → 1 ≤ j → (varB k v).length ≤ j
  | 0, _, _, _, h => by simpa [varB] using h
  | k + 1, v, j, hv, hj => by
    rw [varB]
    by_cases h : v < 128
    · rw [if_pos h]; simpa using hj
    · rw [if_neg h]
      obtain ⟨i, rfl⟩ : ∃ i, j = i + 1 := ⟨j - 1, by omega⟩
      have hi : 1 ≤ i := by
        rcases Nat.eq_zero_or_pos i with e | e
        · subst e; simp at hv; omega
        · exact e
      have h2 : v / 128 < 128 ^ i := by
        rw [Nat.pow_succ] at hv
        exact Nat.div_lt_of_lt_mul (by rw [Nat.mul_comm]; exact hv)
      have := varB_le k (v / 128) i h2 hi
      simp only [List.length_cons]; omega
theorem canon1 : ∀ (l : List UInt8) (c : UInt8) (k : Nat), (∀ x ∈ l, 128 ≤ x.toNat) → c.toNat < 128 → (l = [] ∨ c.toNat ≠ 0) → l.length ≤ k → varB k (val (l ++ [c])) = l ++ [c]
  | [], c, k, _, hc, _, _ => by
    have e : val ([] ++ [c]) = c.toNat := by simp [val]; omega
    rw [e, varB_end k _ hc]
    simp
  | d :: l, c, 0, _, _, _, hk => by simp at hk
  | d :: l, c, k + 1, hl, hc, h0, hk => by
    have hc0 : c.toNat ≠ 0 := by rcases h0 with h | h; · cases h
                                 · exact h
    have hp := val_pos l c (by omega)
    have hd := hl d (by simp)
    have hd' := d.toNat_lt
    have ih := canon1 l c k (fun x hx => hl x (by simp [hx])) hc (.inr hc0) (by simpa using hk)
    rw [List.cons_append, val]
    rw [varB_pos _ _ (by omega)]
    have e1 : (d.toNat % 128 + 128 * val (l ++ [c])) / 128 = val (l ++ [c]) := by omega
    have e2 : (UInt8.ofNat (d.toNat % 128 + 128 * val (l ++ [c])) ||| 128) = d := by
      apply UInt8.toNat_inj.1
      rw [or128n, UInt8.toNat_ofNat']
      omega
    rw [e1, e2, ih]
theorem canon0 (l : List UInt8) (c : UInt8) (k : Nat) (hc : c.toNat = 0) (hl : l ≠ []) : (varB k (val (l ++ [c]))).length ≠ l.length + 1:=by
 have h1 : val (l ++ [c]) = val l:=by rw [val_snoc,hc]; simp
 have h2:=varB_le k _ l.length (val_lt l) (by
  have:=List.length_pos_iff.2 hl
  omega)
 rw [h1]; omega
theorem canon (s l r : List UInt8) (c : UInt8) (hs : s = l ++ c :: r) (hl : ∀ x ∈ l,128 ≤ x.toNat) (hc : c.toNat < 128) (h9 : l.length ≤ 9) :
  ((varB 9 (val (l ++ [c]))).length ≤ s.length ∧ s.take (varB 9 (val (l ++ [c]))).length = varB 9 (val (l ++ [c])) ∧ (varB 9 (val (l ++ [c]))).length = l.length + 1) ↔ ¬ (c.toNat = 0 ∧ 0 < l.length):=by
 constructor
 ·rintro ⟨_,_,h⟩ ⟨h0,h1⟩
  exact canon0 l c 9 h0 (List.length_pos_iff.1 h1) h
 ·intro h
  have h1 : l = [] ∨ c.toNat ≠ 0:=by
   by_cases e : l = []
   ·exact .inl e
   ·refine .inr fun h0 => h ⟨h0,List.length_pos_iff.2 e⟩
  rw [canon1 l c 9 hl hc h1 h9,hs]
  refine ⟨by simp,?_,by simp⟩
  rw [show l ++ c :: r = (l ++ [c]) ++ r by simp,List.take_left]
theorem part_room {i p : Nat} (hi : i ≤ 9) (hp : p < 128) : (p * 128 ^ i % 18446744073709551616 / 128 ^ i = p) ↔ (i = 9 → p ≤ 1):=by
 by_cases h : i = 9
 ·subst h
  rw [pow9]
  omega
 ·have h1:=step_lt (n:=0) (i:=i) (c:=p) (Nat.pow_pos (by decide)) hp
  have h2:=pow_le9 (i:=i + 1) (by omega)
  rw [Nat.mod_eq_of_lt (by omega),Nat.mul_div_cancel _ (Nat.pow_pos (by decide))]
  simp [h]
theorem or_add {n c i : Nat} (hn : n < 128 ^ i) : n ||| (c * 128 ^ i) = n + c * 128 ^ i:=by
 have e : (128 : Nat) ^ i = 2 ^ (7 * i):=by rw [Nat.pow_mul]
 rw [e] at hn ⊢
 rw [Nat.or_comm,Nat.mul_comm c,← Nat.two_pow_add_eq_or_of_lt hn,Nat.add_comm]
def numB (n : Nat) : List UInt8:=varB 9 n
def inB (x : InM) : List UInt8:=x.tx.b ++ numB x.ix
def outBy (x : OutM) : List UInt8:=x.to.b ++ (x.stake.b ++ numB x.am)
def certBy (x : CertM) : List UInt8:=UInt8.ofNat x.kind :: (x.key.b ++ (x.pool.b ++ (numB x.a ++ (numB x.b ++ numB x.c))))
def payB (x : PayM) : List UInt8:=x.key.b ++ numB x.am
def witB (x : WitM) : List UInt8:=x.key.b ++ x.sig
def rowB {α : Type} (f : α → List UInt8) (l : List α) : List UInt8:=numB l.length ++ (l.map f).flatten
def bodyB (t : DeedM) : List UInt8:=rowB inB t.ins ++ (rowB outBy t.outs ++ (numB t.fee.1 ++ (numB t.fro.1 ++ (numB t.til.1 ++ (rowB certBy t.certs ++ rowB payB t.pays)))))
def bytesB (t : DeedM) : List UInt8:=bodyB t ++ rowB witB t.wits
def spotB (x : InM) : List UInt8:=x.tx.b ++ be8 x.ix
def mayB (t : DeedM) : Bool :=
 decide (1 ≤ t.ins.length) && (risB spotB none t.ins && decide (t.ins.length ≤ 8)) && t.ins.all (fun x => decide (x.ix < 8)) && decide (t.outs.length ≤ 8) && t.outs.all (fun x => amountB x.am)
  && decide (t.fee.1 ≤ 9223372036854775807) && decide (t.fro.1 ≤ t.til.1) && decide (t.certs.length ≤ 4) && t.certs.all certB
  && (risB (fun x : PayM => x.key.b) none t.pays && decide (t.pays.length ≤ 4)) && t.pays.all (fun x => amountB x.am)
  && (risB (fun x : WitM => x.key.b) none t.wits && decide (t.wits.length ≤ 8)) && t.wits.all (fun x => decide (x.sig.length = 1024))
def idB (t : DeedM) : List UInt8:=ofB [100,101,101,100] [bodyB t]
def fullB (t : DeedM) : List UInt8:=ofB [102,117,108,108] [bytesB t]
def deedB (s : List UInt8) : Option DeedM :=
 let x:=deedW numR hashR textR @takenR (s,false)
 if x.2.2 = true ∨ x.2.1 ≠ [] ∨ mayB x.1 = false then none else some x.1
def deedF (s : List UInt8) : Option DeedM :=
 let x:=deedW numF hashF textF @takenF (s,false)
 if x.2.2 = true ∨ x.2.1 ≠ [] ∨ mayB x.1 = false then none else some x.1
theorem deed_same (s : List UInt8) : deedF s = deedB s:=by
 unfold deedF deedB
 rcases al_deed.same (s,false) rfl with ⟨h,h'⟩ | ⟨h,_⟩
 ·simp only [h,h',true_or,if_true]
 ·rw [h]
def idxB {α : Type} (p : α → Bool) : List α → Nat → Int
 | [],_ => -1
 | x :: l,j => if p x then j else idxB p l (j + 1)
theorem idxB_any {α : Type} (p : α → Bool) : ∀ (l : List α) (j : Nat), decide (0 ≤ idxB p l j) = l.any p
  | [], _ => rfl
  | x :: l, j => by
    rw [idxB, List.any_cons]
    cases h : p x with
    | true => rw [if_pos rfl, decide_eq_true (by omega), Bool.true_or]
    | false => rw [if_neg (by decide), idxB_any p l, Bool.false_or]
end Go.Ab.Ak
namespace Go.Ab.Ak
open Go Go.Ab Go.Ab.Cn Go.Ab.Sha
theorem ch_eq (e f g : W) : (e &&& f) ||| ((e ^^^ 0xffffffff#32) &&& g) = (e &&& f) ^^^ (~~~e &&& g):=by
 have h : (0xffffffff#32) = BitVec.allOnes 32:=by decide
 rw [h,BitVec.xor_allOnes]
 apply BitVec.eq_of_getLsbD_eq
 intro i hi
 simp only [BitVec.getLsbD_or,BitVec.getLsbD_and,BitVec.getLsbD_xor,BitVec.getLsbD_not,hi,decide_true,Bool.true_and]
 cases e.getLsbD i <;> cases f.getLsbD i <;> cases g.getLsbD i <;> rfl
theorem maj_eq (a b c : W) : ((a &&& b) ||| (a &&& c)) ||| (b &&& c) = ((a &&& b) ^^^ (a &&& c)) ^^^ (b &&& c):=by
 apply BitVec.eq_of_getLsbD_eq
 intro i hi
 simp only [BitVec.getLsbD_or,BitVec.getLsbD_and,BitVec.getLsbD_xor]
 cases a.getLsbD i <;> cases b.getLsbD i <;> cases c.getLsbD i <;> rfl
theorem rot_eq (x : W) (n : Nat) : (x >>> n) ||| (x <<< (32 - n)) = rotB x n:=by
 unfold rotB; exact BitVec.or_comm _ _
theorem part4 (s : List UInt8) (t : Nat) (h : 4 * t + 3 < s.length) :
  (((BitVec.ofNat 32 (s[4 * t]).toNat <<< 24) ||| (BitVec.ofNat 32 (s[4 * t + 1]).toNat <<< 16)) ||| (BitVec.ofNat 32 (s[4 * t + 2]).toNat <<< 8)) ||| BitVec.ofNat 32 (s[4 * t + 3]).toNat = Sha.part s t 4:=by
 have h0:=Sha.part_more s t 0 (by omega)
 have h1:=Sha.part_more s t 1 (by omega)
 have h2:=Sha.part_more s t 2 (by omega)
 have h3:=Sha.part_more s t 3 (by omega)
 have e0 : Sha.part s t 0 = 0#32:=rfl
 rw [h3,h2,h1,h0,e0]
 simp only [Nat.add_zero,BitVec.shiftLeft_or_distrib,← BitVec.shiftLeft_add,Nat.reduceAdd,BitVec.zero_shiftLeft,BitVec.zero_or]
theorem step_eq (a b c d : W) : (((b + c) + a) + d) = ((d + c) + a) + b:=by ac_rfl
theorem ofNat_or128 (n : Nat) : UInt8.ofNat (n % 128 + 128) = (UInt8.ofNat n ||| 128):=by
 apply UInt8.toNat_inj.1
 rw [or128n,UInt8.toNat_ofNat',UInt8.toNat_ofNat']
 omega
end Go.Ab.Ak
namespace Go.Ab.Sha
open Go Go.Proofs Go.Ab Go.Ab.Cn Go.Ab.Ak
set_option maxRecDepth 100000
set_option maxHeartbeats 4000000
def treeGo : Nat → Nat → Nat → List UInt8 → List (List UInt8) → Option (List UInt8 × List (List UInt8))
  | 0, _, _, h, ps => some (h, ps)
  | k + 1, w, i, h, ps =>
    if w ≤ 1 then some (h, ps)
    else if i ^^^ 1 < w then (match ps with
      | [] => none
      | p :: ps => treeGo k ((w + 1) / 2) (i / 2) (if i % 2 = 0 then pairB h p else pairB p h) ps)
    else treeGo k ((w + 1) / 2) (i / 2) h ps
def treeIs (root : List UInt8) (n i : Nat) (h : List UInt8) (ps : List (List UInt8)) : Bool :=
 match treeGo n n i (leafB h) ps with
 | some (h',[]) => decide (rootB n h' = root)
 | _ => false
theorem xor1 (i : Nat) (h : i < 1099511627776) : intBin .xor .i64 i 1 = some (.int .i64 ((i ^^^ 1 : Nat) : Int)):=by
 have hx : i ^^^ 1 < 1099511627776:=Nat.xor_lt_two_pow (n:=40) h (by decide)
 have e : (BitVec.ofInt 64 (i : Int) ^^^ BitVec.ofInt 64 1).toNat = i ^^^ 1:=by
  rw [BitVec.toNat_xor]
  have h1 : (BitVec.ofInt 64 (i : Int)).toNat = i:=by rw [BitVec.toNat_ofInt]; omega
  rw [h1]; rfl
 show (bitsD .xor .i64 (i : Int) 1).map (D.int .i64) = _
 show some (D.int .i64 (IntKind.wrap .i64 ((BitVec.ofInt 64 (i : Int) ^^^ BitVec.ofInt 64 1).toNat : Nat))) = _
 rw [e,wrap_i64 (by omega) (by omega)]
theorem rem2 (i : Nat) : intBin .rem .i64 i 2 = some (.int .i64 ((i % 2 : Nat) : Int)):=rfl
theorem quo2 (i : Nat) (h : i < 1099511627776) : intBin .quo .i64 i 2 = some (.int .i64 ((i / 2 : Nat) : Int)):=by
 unfold intBin
 simp only
 rw [if_neg (by decide),show ((i : Int).tdiv 2) = ((i / 2 : Nat) : Int) from rfl,wrap_i64 (by omega) (by omega)]
theorem cls32 (l : List UInt8) (h : l.length = 32) : (bytesD l).map clsD = List.replicate 32 1:=by
 rw [bytesD,List.map_map]
 exact List.eq_replicate_iff.2 ⟨by simp [h],by intro b hb; simp at hb; obtain ⟨_,_,rfl⟩:=hb; rfl⟩
theorem eq24 (a b : List UInt8) (ha : a.length = 32) (hb : b.length = 32) : eqD Tryz.prog 24 (.agg (bytesD a)) (.agg (bytesD b)) = some (decide (a = b)):=by
 simp only [eqD]
 rw [if_pos ⟨by rw [cls32 a ha]; kernel_rfl,by kernel_rfl,by kernel_rfl⟩]
 simp only [bytesD]
 rw [eqRow_u8 (by rw [ha,hb])]
theorem un_29' : Tryz.prog.underlying 29 = some (.slice 24):=by kernel_rfl
theorem ln_29' (n : Nat) (cs : List D) (tip : Tip) : lenD Tryz.prog 29 (.list n cs tip) = some (.int .i64 n):=by kernel_rfl
theorem treeGo_succ (k w i : Nat) (h : List UInt8) (ps : List (List UInt8)) : treeGo (k + 1) w i h ps = if w ≤ 1 then some (h,ps)
  else if i ^^^ 1 < w then (match ps with
   | [] => none
   | p :: ps => treeGo k ((w + 1) / 2) (i / 2) (if i % 2 = 0 then pairB h p else pairB p h) ps)
  else treeGo k ((w + 1) / 2) (i / 2) h ps:=by
 cases ps <;> rfl
theorem treeGo_end {k w i : Nat} {h : List UInt8} {ps : List (List UInt8)} (hw : w ≤ 1) : treeGo k w i h ps = some (h,ps):=by
 cases k with
 | zero => rfl
 | succ k => rw [treeGo_succ,if_pos hw]
theorem r_treeCheck (fl : Fl) (root h : H32) (n i : Nat) (ps : List H32) (tip : Tip) (hn : n ≤ 1048576) (hi : i < n) (hp : ps.length ≤ 1000000) (st : St) :
    run Tryz.prog nlH fl 35 [.agg (bytesD root.b), .int .i64 n, .int .i64 i, .agg (bytesD h.b), .list ps.length (rowD hD ps) tip] st = some (.bool (treeIs root.b n i h.b (ps.map H32.b)), st) := by
  refine run_sime (fi := ⟨true, [5, 8, 63], [(5, [1, 2, 4, 5, 11, 12])]⟩) (rs := [.tmp 10]) rfl rfl rfl Tryz.func35 rfl rfl ?_
  simp only [argsFr]
  have d1 : decide ((i : Int) < 0) = false := decide_eq_false (by omega)
  have d2 : decide ((n : Int) ≤ (i : Int)) = false := decide_eq_false (by omega)
  have d3 : decide ((1048576 : Int) < (n : Int)) = false := decide_eq_false (by omega)
  have ldh : ∀ st', loadD Tryz.prog st' 24 (.box 0 (bytesD h.b)) = some (.agg (bytesD h.b)) := fun _ => pt24 h.b h.hb
  have hll : (leafB h.b).length = 32 := ofB_len _ _
  have hlb : (bytesD (leafB h.b)).length = 32 := by rw [bytesD_len, hll]
  repeat (first | with_reducible refine zg ?_ | (with_reducible refine zo ?_; (conv => { arg 1; simp (disch := (first | omega | (with_unfolding_all exact byrfl rfl))) only [evOp, wantSh, Nat.reduceAdd, loadI, evX, ofValue, ofValue1, binD, pairsD, evCall, builtinD, D.mem, D.cells, Int.reduceToNat, reduceCtorEq, Nat.reduceBEq, bs1, bs2, bs3, mx1, mx2, splice_one, d1, d2, d3, tz_24, ldh, r_leaf _ h.b h.hb, sp24 _ hll, ts_24, hlb, List.length_replicate, Nat.reduceLeDiff] }); with_reducible refine s1 ?_))
  have hxor : i < 1099511627776 := by omega
  refine sk_while ⟨true, [5, 8, 63], [(5, [1, 2, 4, 5, 11, 12])]⟩ rfl [1, 2, 4, 5, 11, 12] rfl (fun m fr st' => ∃ (k w j : Nat) (g : H32) (qs : List H32) (tip' : Tip), w = m ∧ w ≤ k ∧ w ≤ n ∧ j ≤ i ∧ qs.length ≤ 1000000 ∧
    treeGo k w j g.b (qs.map H32.b) = treeGo n n i (leafB h.b) (ps.map H32.b) ∧ st' = st.ext [.cells (bytesD g.b)] st.ts ∧
    fr = [(1, .int .i64 n), (2, .int .i64 j), (4, .list qs.length (rowD hD qs) tip'), (5, .box 0 (bytesD root.b)), (11, .ref (st.blk.length + 0) 0), (12, .int .i64 w)]) n ?_ ?_
  · refine ⟨n, n, i, ⟨leafB h.b, hll⟩, ps, tip, rfl, by omega, by omega, by omega, hp, rfl, rfl, ?_⟩
    simp (disch := omega) only [keepOnly, List.map_cons, List.map_nil, get_here, get_there]
  · rintro m fr st' ⟨k, w, j, g, qs, tip', rfl, hk, hw, hj, hq, hgo, rfl, rfl⟩
    repeat (first | with_reducible refine zg ?_ | (with_reducible refine zo ?_; (conv => { arg 1; simp (disch := (first | omega | (with_unfolding_all exact byrfl rfl))) only [evOp, wantSh, Nat.reduceAdd, loadI, evX, ofValue, ofValue1, binD, pairsD, evCall, builtinD, D.mem, D.cells, Int.reduceToNat, reduceCtorEq, Nat.reduceBEq, bs1, bs2, bs3] }); with_reducible refine s1 ?_))
    refine sc_dec (fun hlt => ?_) (fun hge => ?_)
    · have hw2 : ¬ w ≤ 1 := by omega
      obtain ⟨k', rfl⟩ : ∃ k', k = k' + 1 := ⟨k - 1, by omega⟩
      rw [treeGo_succ, if_neg hw2] at hgo
      have hx1 := xor1 j (by omega)
      have hq2 := quo2 j (by omega)
      have hq3 : intBin .quo .i64 ((w : Int) + 1) 2 = some (.int .i64 (((w + 1) / 2 : Nat) : Int)) := quo2 (w + 1) (by omega)
      have ldg := (load_ext (P := Tryz.prog) (st := st) (bs := [.cells (bytesD g.b)]) (ts := st.ts) (t := 24) (i := 0) (off := 0)).trans (pt24 g.b g.hb)
      have hlg : (bytesD g.b).length = 32 := by rw [bytesD_len, g.hb]
      by_cases hx : j ^^^ 1 < w
      · have e1 : decide (((j ^^^ 1 : Nat) : Int) < (w : Int)) = true := decide_eq_true (by omega)
        rw [if_pos hx] at hgo
        cases qs with
        | nil =>
          have hf : treeIs root.b n i h.b (ps.map H32.b) = false := by
            unfold treeIs; rw [← hgo]; rfl
          rw [hf]
          repeat (first | with_reducible refine zg ?_ | (with_reducible refine zo ?_; (conv => { arg 1; simp (disch := (first | omega | (with_unfolding_all exact byrfl rfl))) only [evOp, wantSh, Nat.reduceAdd, loadI, evX, ofValue, ofValue1, binD, pairsD, evCall, builtinD, D.mem, D.cells, Int.reduceToNat, reduceCtorEq, Nat.reduceBEq, bs1, bs2, bs3, mx1, mx2, splice_one, hx1, e1, ln_29'] }); with_reducible refine s1 ?_))
          exact ⟨trivial, _, rfl, rfl⟩
        | cons q qs =>
          have d5 : decide (((q :: qs).length : Int) = 0) = false := decide_eq_false (by simp; omega)
          simp only [List.map_cons] at hgo
          have ia0 : indexAddrD Tryz.prog 29 (.list (q :: qs).length (rowD hD (q :: qs)) tip') (.int .i64 0) = some (.box 0 (rowD hD (q :: qs))) := by
            have := row_ia (P := Tryz.prog) (t := 29) (e := 24) (w := 32) (tip := tip') (f := hD) un_29' ts_24 (by decide) hD_length (l := q :: qs) (i := 0) (by simp)
            simpa using this
          have ld0 : ∀ st', loadD Tryz.prog st' 24 (.box 0 (rowD hD (q :: qs))) = some (.agg (bytesD q.b)) := by
            intro st'
            have := row_ld (P := Tryz.prog) (e := 24) (w := 32) (st := st') (f := hD) (by kernel_rfl) ts_24 hD_length (l := q :: qs) (i := 0) (by simp)
            rw [Nat.zero_mul] at this
            exact this
          have hq' : qs.length ≤ 1000000 := by simp only [List.length_cons] at hq; omega
          have pd0 : partD Tryz.prog 24 (rowD hD (q :: qs)) 0 = some (.agg (bytesD q.b)) := ld0 st
          obtain ⟨tip2, sl⟩ := row_from (P := Tryz.prog) (t := 29) (e := 24) (w := 32) (f := hD) un_29' ts_24 hD_length (q :: qs) tip' 1 (by simp)
          simp only [List.drop_succ_cons, List.drop_zero] at sl
          rw [show ((1 : Nat) : Int) = 1 from rfl] at sl
          clear hq
          generalize q :: qs = Q at ia0 ld0 pd0 sl d5 ⊢
          by_cases he : j % 2 = 0
          · have e2 : decide (((j % 2 : Nat) : Int) = 0) = true := decide_eq_true (by omega)
            rw [if_pos he] at hgo
            have hpl : (pairB g.b q.b).length = 32 := ofB_len _ _
            have hpb : (bytesD (pairB g.b q.b)).length = 32 := by rw [bytesD_len, hpl]
            have spl : splice (bytesD g.b) 0 (bytesD (pairB g.b q.b)) = bytesD (pairB g.b q.b) := splice_all (by rw [hlg, hpb])
            repeat (first | with_reducible refine zg ?_ | (with_reducible refine zo ?_; (conv => { arg 1; simp (disch := (first | omega | (with_unfolding_all exact byrfl rfl))) only [evOp, wantSh, Nat.reduceAdd, loadI, evX, ofValue, ofValue1, binD, pairsD, evCall, builtinD, D.mem, D.cells, Int.reduceToNat, reduceCtorEq, Nat.reduceBEq, bs1, bs2, bs3, mx1, mx2, splice_one, hx1, e1, ln_29', d5, rem2, e2, ldg, ia0, ld0, pd0, r_pair _ g.b q.b g.hb q.hb, spl, ts_24, hpb, hlg, Nat.reduceLeDiff, sl, hq2, hq3] }); with_reducible refine s1 ?_))
            refine turn_go ((w + 1) / 2) (by omega) ?_
            repeat (first | with_reducible refine zg ?_ | (with_reducible refine zo ?_; (conv => { arg 1; simp (disch := (first | omega | (with_unfolding_all exact byrfl rfl))) only [evOp, wantSh, Nat.reduceAdd, loadI, evX, ofValue, ofValue1, binD, pairsD, evCall, builtinD, D.mem, D.cells, Int.reduceToNat, reduceCtorEq, Nat.reduceBEq, bs1, bs2, bs3] }); with_reducible refine s1 ?_))
            refine ⟨k', (w + 1) / 2, j / 2, (⟨pairB g.b q.b, hpl⟩ : H32), qs, tip2, rfl, ?_, ?_, ?_, hq', hgo, rfl, rfl⟩ <;> omega
          · have e2 : decide (((j % 2 : Nat) : Int) = 0) = false := decide_eq_false (by omega)
            rw [if_neg he] at hgo
            have hpl : (pairB q.b g.b).length = 32 := ofB_len _ _
            have hpb : (bytesD (pairB q.b g.b)).length = 32 := by rw [bytesD_len, hpl]
            have spl : splice (bytesD g.b) 0 (bytesD (pairB q.b g.b)) = bytesD (pairB q.b g.b) := splice_all (by rw [hlg, hpb])
            repeat (first | with_reducible refine zg ?_ | (with_reducible refine zo ?_; (conv => { arg 1; simp (disch := (first | omega | (with_unfolding_all exact byrfl rfl))) only [evOp, wantSh, Nat.reduceAdd, loadI, evX, ofValue, ofValue1, binD, pairsD, evCall, builtinD, D.mem, D.cells, Int.reduceToNat, reduceCtorEq, Nat.reduceBEq, bs1, bs2, bs3, mx1, mx2, splice_one, hx1, e1, ln_29', d5, rem2, e2, ldg, ia0, ld0, pd0, r_pair _ q.b g.b q.hb g.hb, spl, ts_24, hpb, hlg, Nat.reduceLeDiff, sl, hq2, hq3] }); with_reducible refine s1 ?_))
            refine turn_go ((w + 1) / 2) (by omega) ?_
            repeat (first | with_reducible refine zg ?_ | (with_reducible refine zo ?_; (conv => { arg 1; simp (disch := (first | omega | (with_unfolding_all exact byrfl rfl))) only [evOp, wantSh, Nat.reduceAdd, loadI, evX, ofValue, ofValue1, binD, pairsD, evCall, builtinD, D.mem, D.cells, Int.reduceToNat, reduceCtorEq, Nat.reduceBEq, bs1, bs2, bs3] }); with_reducible refine s1 ?_))
            refine ⟨k', (w + 1) / 2, j / 2, (⟨pairB q.b g.b, hpl⟩ : H32), qs, tip2, rfl, ?_, ?_, ?_, hq', hgo, rfl, rfl⟩ <;> omega
      · have e1 : decide (((j ^^^ 1 : Nat) : Int) < (w : Int)) = false := decide_eq_false (by omega)
        rw [if_neg hx] at hgo
        repeat (first | with_reducible refine zg ?_ | (with_reducible refine zo ?_; (conv => { arg 1; simp (disch := (first | omega | (with_unfolding_all exact byrfl rfl))) only [evOp, wantSh, Nat.reduceAdd, loadI, evX, ofValue, ofValue1, binD, pairsD, evCall, builtinD, D.mem, D.cells, Int.reduceToNat, reduceCtorEq, Nat.reduceBEq, bs1, bs2, bs3, mx1, mx2, splice_one, hx1, e1, hq2, hq3] }); with_reducible refine s1 ?_))
        refine turn_go ((w + 1) / 2) (by omega) ?_
        repeat (first | with_reducible refine zg ?_ | (with_reducible refine zo ?_; (conv => { arg 1; simp (disch := (first | omega | (with_unfolding_all exact byrfl rfl))) only [evOp, wantSh, Nat.reduceAdd, loadI, evX, ofValue, ofValue1, binD, pairsD, evCall, builtinD, D.mem, D.cells, Int.reduceToNat, reduceCtorEq, Nat.reduceBEq, bs1, bs2, bs3] }); with_reducible refine s1 ?_))
        exact ⟨k', (w + 1) / 2, j / 2, g, qs, tip', rfl, by omega, by omega, by omega, hq, hgo, rfl, rfl⟩
    · have hw1 : w ≤ 1 := by omega
      rw [treeGo_end hw1] at hgo
      have ti : treeIs root.b n i h.b (ps.map H32.b) = (match (some (g.b, qs.map H32.b) : Option (List UInt8 × List (List UInt8))) with | some (h', []) => decide (rootB n h' = root.b) | _ => false) := by unfold treeIs; rw [← hgo]
      rw [ti]
      have hrl : (rootB n g.b).length = 32 := ofB_len _ _
      have ldg := (load_ext (P := Tryz.prog) (st := st) (bs := [.cells (bytesD g.b)]) (ts := st.ts) (t := 24) (i := 0) (off := 0)).trans (pt24 g.b g.hb)
      have ldr : ∀ st', loadD Tryz.prog st' 24 (.box 0 (bytesD root.b)) = some (.agg (bytesD root.b)) := fun _ => pt24 root.b root.hb
      cases qs with
      | nil =>
        repeat (first | with_reducible refine zg ?_ | (with_reducible refine zo ?_; (conv => { arg 1; simp (disch := (first | omega | (with_unfolding_all exact byrfl rfl))) only [evOp, wantSh, Nat.reduceAdd, loadI, evX, ofValue, ofValue1, binD, pairsD, evCall, builtinD, D.mem, D.cells, Int.reduceToNat, reduceCtorEq, Nat.reduceBEq, bs1, bs2, bs3, mx1, mx2, splice_one, ln_29', ldg, ldr, pt24 root.b root.hb, r_root _ n g.b (by omega) g.hb, eq24 _ _ hrl root.hb] }); with_reducible refine s1 ?_))
        exact ⟨trivial, _, rfl, rfl⟩
      | cons q qs =>
        have d5 : decide (((q :: qs).length : Int) = 0) = false := decide_eq_false (by simp; omega)
        repeat (first | with_reducible refine zg ?_ | (with_reducible refine zo ?_; (conv => { arg 1; simp (disch := (first | omega | (with_unfolding_all exact byrfl rfl))) only [evOp, wantSh, Nat.reduceAdd, loadI, evX, ofValue, ofValue1, binD, pairsD, evCall, builtinD, D.mem, D.cells, Int.reduceToNat, reduceCtorEq, Nat.reduceBEq, bs1, bs2, bs3, mx1, mx2, splice_one, ln_29', d5] }); with_reducible refine s1 ?_))
        exact ⟨trivial, _, rfl, rfl⟩
end Go.Ab.Sha
namespace Go.Ab.Sha
open Go Go.Proofs Go.Ab Go.Ab.Cn Go.Ab.Ak
set_option maxRecDepth 100000
set_option maxHeartbeats 4000000
theorem and7 (c : UInt8) : intBin .andNot .u8 c.toNat 128 = some (.int .u8 ((c.toNat % 128 : Nat) : Int)):=by
 have h : ∀ i : Fin 256,bitsD .andNot .u8 (i.1 : Int) 128 = some ((i.1 % 128 : Nat) : Int):=by decide +kernel
 have:=h ⟨c.toNat,c.toNat_lt⟩
 show (bitsD .andNot .u8 c.toNat 128).map (D.int .u8) = _
 rw [this]; rfl
theorem cv5_22 (imm : Bool) (st : St) (n : Nat) (h : n < 256) : convertD Tryz.prog imm st 5 22 (.int .u8 n) = some (.int .u64 n,st):=by
 have : convertD Tryz.prog imm st 5 22 (.int .u8 n) = some (.int .u64 (IntKind.wrap .u64 n),st):=by kernel_rfl
 rw [this,wrap_u64 (by omega) (by omega)]
theorem shlV (p i : Nat) (hi : i ≤ 9) (h : p * 128 ^ i < 18446744073709551616) : shiftD .shl .u64 p (7 * (i : Int)) = some (.int .u64 ((p * 128 ^ i : Nat) : Int)):=by
 unfold shiftD
 rw [if_neg (by omega)]
 simp only [show (7 * (i : Int)).toNat = 7 * i by omega,IntKind.bits,Nat.min_eq_left (show 7 * i ≤ 64 by omega)]
 have e : ((p : Int) * 2 ^ (7 * i)) = ((p * 128 ^ i : Nat) : Int):=by
  have e0 : (2 : Nat) ^ (7 * i) = 128 ^ i:=Nat.pow_mul 2 7 i
  rw [← e0]; push_cast; rfl
 rw [e,wrap_u64 (by omega) (by omega)]
theorem oru64 {a b : Nat} (ha : a < 18446744073709551616) (hb : b < 18446744073709551616) : intBin .or .u64 a b = some (.int .u64 ((a ||| b : Nat) : Int)):=by
 have h1 : (BitVec.ofInt 64 (a : Int)).toNat = a:=by rw [BitVec.toNat_ofInt]; omega
 have h2 : (BitVec.ofInt 64 (b : Int)).toNat = b:=by rw [BitVec.toNat_ofInt]; omega
 have h3 : a ||| b < 18446744073709551616:=Nat.or_lt_two_pow (n:=64) ha hb
 show (bitsD .or .u64 (a : Int) b).map (D.int .u64) = _
 show some (D.int .u64 (IntKind.wrap .u64 ((BitVec.ofInt 64 (a : Int) ||| BitVec.ofInt 64 (b : Int)).toNat : Nat))) = _
 rw [BitVec.toNat_or,h1,h2,wrap_u64 (by omega) (by omega)]
def n3D (t : Nat × Nat × Nat) : D:=.tuple [.int .u64 t.1,.int .i64 t.2.1,.int .i64 t.2.2]
set_option maxHeartbeats 8000000 in
theorem r_take (fl : Fl) (s : List UInt8) (st : St) : run Tryz.prog nlH fl 160 [.str s] st = some (n3D (takeN s),st):=by
 refine run_sim (fi:=⟨true,[],[(3,[0,5,8])]⟩) rfl rfl rfl Tryz.func160 rfl rfl ?_
 simp only [argsFr]
 refine zw True.intro ?_
 refine sk_count ⟨true,[],[(3,[0,5,8])]⟩ rfl [0,5,8] rfl (fun m fr => ∃ (i n : Nat),m + i = 10 ∧ i ≤ s.length ∧ n < 128 ^ i ∧ takeT m i n (s.drop i) = takeN s ∧ fr = [(0,.str s),(5,.int .u64 n),(8,.int .i64 i)]) 10 ?_ ?_
 ·refine zw True.intro ?_
  exact ⟨0,0,rfl,by omega,by decide,rfl,rfl⟩
 rintro m fr ⟨i,n,hk,hi,hn,hT,rfl⟩
 refine zw True.intro ?_
 refine sc_dec (fun hlt => ?_) (fun hge => ?_)
 ·obtain ⟨k,rfl⟩ : ∃ k,m = k + 1:=⟨m - 1,by omega⟩
  by_cases hend : i = s.length
  ·have hT' : takeN s = (0,0,10):=by
    rw [← hT,List.drop_of_length_le (by omega)]; rfl
   have e1 : decide ((i : Int) = (s.length : Int)) = true:=decide_eq_true (by omega)
   rw [hT']
   refine zw (nx @ln_9 <| @e1) ?_
   exact ⟨trivial,_,rfl,rfl⟩
  have e1 : decide ((i : Int) = (s.length : Int)) = false:=decide_eq_false (by omega)
  have hi' : i < s.length:=by omega
  have hd : s.drop i = s[i] :: s.drop (i + 1):=List.drop_eq_getElem_cons hi'
  have hix:=idx9 s (i : Int) i rfl hi'
  generalize s[i] = c at hd hix
  have hc:=c.toNat_lt
  rw [hd,takeT] at hT
  by_cases hbad : k = 0 ∧ 1 < c.toNat
  ·rw [if_pos hbad] at hT
   have e9 : decide ((i : Int) = 9) = true:=decide_eq_true (by omega)
   have e2 : decide ((1 : Int) < (c.toNat : Int)) = true:=decide_eq_true (by omega)
   rw [← hT]
   refine zw (nx @ln_9 <| nx @e1 <| nx @hix <| nx @e9 <| @e2) ?_
   exact ⟨trivial,_,rfl,rfl⟩
  rw [if_neg hbad] at hT
  have h9 : i = 9 → c.toNat ≤ 1:=fun e => by
   rcases Nat.lt_or_ge 1 c.toNat with h | h
   ·exact absurd ⟨by omega,h⟩ hbad
   ·exact h
  have hlast : n + (c.toNat % 128) * 128 ^ i < 18446744073709551616:=last_lt (by omega) hn (by omega) (fun e => by have:=h9 e; omega)
  have hp9:=pow_le9 (i:=i) (by omega)
  have hsh:=shlV (c.toNat % 128) i (by omega) (by omega)
  have hor : intBin .or .u64 n ((c.toNat % 128 * 128 ^ i : Nat) : Int) = some (.int .u64 ((n + c.toNat % 128 * 128 ^ i : Nat) : Int)):=by
   rw [oru64 (by omega) (by omega),or_add hn]
  have hcv:=fun imm st => cv5_22 imm st (c.toNat % 128) (by omega)
  by_cases hlow : c.toNat < 128
  ·have e3 : decide ((c.toNat : Int) < 128) = true:=decide_eq_true (by omega)
   rw [if_pos hlow] at hT
   by_cases h0 : c.toNat = 0
   ·have e4 : decide ((c.toNat : Int) = 0) = true:=decide_eq_true (by omega)
    by_cases hi0 : 0 < i
    ·rw [if_pos ⟨h0,hi0⟩] at hT
     have e5 : decide ((0 : Int) < (i : Int)) = true:=decide_eq_true (by omega)
     rw [← hT]
     by_cases e : i = 9
     ·have e9 : decide ((i : Int) = 9) = true:=decide_eq_true (by omega)
      have e2 : decide ((1 : Int) < (c.toNat : Int)) = false:=decide_eq_false (by omega)
      refine zw (nx @ln_9 <| nx @e1 <| nx @hix <| nx @e9 <| nx @e2 <| nx @and7 <| nx @hcv <| nx @ib_mul64 <| nx @hsh <| nx @hor <| nx @e3 <| nx @e4 <| @e5) ?_
      exact ⟨trivial,_,rfl,rfl⟩
     ·have e9 : decide ((i : Int) = 9) = false:=decide_eq_false (by omega)
      refine zw (nx @ln_9 <| nx @e1 <| nx @hix <| nx @e9 <| nx @and7 <| nx @hcv <| nx @ib_mul64 <| nx @hsh <| nx @hor <| nx @e3 <| nx @e4 <| @e5) ?_
      exact ⟨trivial,_,rfl,rfl⟩
    ·rw [if_neg (fun h => hi0 h.2)] at hT
     have e5 : decide ((0 : Int) < (i : Int)) = false:=decide_eq_false (by omega)
     have e9 : decide ((i : Int) = 9) = false:=decide_eq_false (by omega)
     rw [← hT,show c.toNat * 128 ^ i = c.toNat % 128 * 128 ^ i by rw [Nat.mod_eq_of_lt hlow]]
     refine zw (nx @ln_9 <| nx @e1 <| nx @hix <| nx @e9 <| nx @and7 <| nx @hcv <| nx @ib_mul64 <| nx @hsh <| nx @hor <| nx @e3 <| nx @e4 <| @e5) ?_
     exact ⟨trivial,_,rfl,rfl⟩
   ·have e4 : decide ((c.toNat : Int) = 0) = false:=decide_eq_false (by omega)
    rw [if_neg (fun h => h0 h.1)] at hT
    rw [← hT,show c.toNat * 128 ^ i = c.toNat % 128 * 128 ^ i by rw [Nat.mod_eq_of_lt hlow]]
    by_cases e : i = 9
    ·have e9 : decide ((i : Int) = 9) = true:=decide_eq_true (by omega)
     have e2 : decide ((1 : Int) < (c.toNat : Int)) = false:=decide_eq_false (by have:=h9 e; omega)
     refine zw (nx @ln_9 <| nx @e1 <| nx @hix <| nx @e9 <| nx @e2 <| nx @and7 <| nx @hcv <| nx @ib_mul64 <| nx @hsh <| nx @hor <| nx @e3 <| @e4) ?_
     exact ⟨trivial,_,rfl,rfl⟩
    ·have e9 : decide ((i : Int) = 9) = false:=decide_eq_false (by omega)
     refine zw (nx @ln_9 <| nx @e1 <| nx @hix <| nx @e9 <| nx @and7 <| nx @hcv <| nx @ib_mul64 <| nx @hsh <| nx @hor <| nx @e3 <| @e4) ?_
     exact ⟨trivial,_,rfl,rfl⟩
  ·have e3 : decide ((c.toNat : Int) < 128) = false:=decide_eq_false (by omega)
   rw [if_neg hlow] at hT
   have em : c.toNat - 128 = c.toNat % 128:=by omega
   rw [em] at hT
   have hn9 : i ≠ 9:=fun e => by have:=h9 e; omega
   have e9 : decide ((i : Int) = 9) = false:=decide_eq_false (by omega)
   refine zw (nx @ln_9 <| nx @e1 <| nx @hix <| nx @e9 <| nx @and7 <| nx @hcv <| nx @ib_mul64 <| nx @hsh <| nx @hor <| @e3) ?_
   refine turn_go0 k (by omega) ?_
   refine zw True.intro ?_
   exact ⟨i + 1,n + c.toNat % 128 * 128 ^ i,by omega,by omega,step_lt hn (by omega),hT,rfl⟩
 ·obtain rfl : m = 0:=by omega
  have hT' : takeN s = (0,0,6):=hT.symm
  rw [hT']
  refine zw True.intro ?_
  exact ⟨trivial,_,rfl,rfl⟩
end Go.Ab.Sha
namespace Go.Ab.Sha
open Go Go.Proofs Go.Ab Go.Ab.Cn Go.Ab.Ak
set_option maxRecDepth 100000
set_option maxHeartbeats 4000000
def rdC (r : R) : Blk:=.cells [.str r.1,.bool r.2]
theorem sl9lo (s : List UInt8) (z : Nat) (h : z ≤ s.length) : sliceD Tryz.prog 9 (.str s) (some (.int .i64 z)) none none = some (.str (s.drop z)):=by
 have hb : boundsD s.length (some (.int .i64 (z : Int))) none none = some (z,s.length,none):=by
  simp only [boundsD,bnd,idx,Option.bind_some,lowD]
  rw [if_pos (by omega)]; simp
 simp only [sliceD,un_9,hb]
 simp [List.take_of_length_le]
theorem sl9hi (s : List UInt8) (z : Nat) (h : z ≤ s.length) : sliceD Tryz.prog 9 (.str s) none (some (.int .i64 z)) none = some (.str (s.take z)):=by
 have hb : boundsD s.length none (some (.int .i64 (z : Int))) none = some (0,z,none):=by
  simp only [boundsD,bnd,idx,Option.bind_some,lowD]
  rw [if_pos (by omega)]; simp
 simp only [sliceD,un_9,hb]
 simp
section
variable {fl : Fl} {st : St} {b : Nat} {s : List UInt8} {x : Bool}
theorem ldS (hb : st.blk[b]? = some (.cells [.str s,.bool x])) : loadD Tryz.prog st 9 (.ref b 0) = some (.str s):=(load_at hb).trans rfl
theorem ldB (hb : st.blk[b]? = some (.cells [.str s,.bool x])) : loadD Tryz.prog st 4 (.ref b 1) = some (.bool x):=(load_at hb).trans rfl
theorem stB (y : Bool) (hf : fl.fb ≤ b) (hb : st.blk[b]? = some (.cells [.str s,.bool x])) : storeD Tryz.prog fl st 4 (.ref b 1) (.bool y) = some (st.set b (.cells [.str s,.bool y])):=store_at hf hb rfl (by kernel_rfl) (by simp [D.cells])
theorem stS (t : List UInt8) (hf : fl.fb ≤ b) (hb : st.blk[b]? = some (.cells [.str s,.bool x])) : storeD Tryz.prog fl st 9 (.ref b 0) (.str t) = some (st.set b (.cells [.str t,.bool x])):=store_at hf hb rfl (by kernel_rfl) (by simp [D.cells])
end
theorem fr193_0 (b o : Nat) : fieldAddrD Tryz.prog 193 (.ref b o) 0 = some (.ref b o):=by kernel_rfl
theorem fr193_1 (b o : Nat) : fieldAddrD Tryz.prog 193 (.ref b o) 1 = some (.ref b (o + 1)):=by kernel_rfl
theorem r_number_bad (fl : Fl) (st : St) (b : Nat) (r : R) (h : r.2 = true ∨ (takeN r.1).2.2 ≠ 0) (hf : fl.fb ≤ b) (hb : st.blk[b]? = some (rdC r)) :
    run Tryz.prog nlH fl 82 [.ref b 0] st = some (.int .u64 0, st.set b (.cells [.str r.1, .bool true])) := by
  obtain ⟨s, x⟩ := r
  refine run_simw (fi := ⟨false, [], []⟩) (rs := [.tmp 2]) rfl rfl rfl Tryz.func82 rfl rfl ?_
  simp only [argsFr]
  have hb : st.blk[b]? = some (.cells [.str s, .bool x]) := hb
  have l0 := ldS hb
  have l1 := ldB hb
  have rt := fun fl => r_take fl s st
  simp only [n3D] at rt
  have s1' := stB true hf hb
  have b1 := set_at (y := .cells [.str s, .bool true]) hb
  have l2 := ldB b1
  cases x with
  | true =>
    refine zw (nx @fr193_0 <| nx @fr193_1 <| nx @l0 <| nx @l1 <| nx @rt <| nx @s1' <| @l2) ?_
    exact ⟨trivial, rfl, _, rfl, rfl⟩
  | false =>
    have he : (takeN s).2.2 ≠ 0 := by rcases h with h | h; · cases h
                                      · exact h
    have e1 : decide (((takeN s).2.2 : Int) ≠ 0) = true := decide_eq_true (by omega)
    refine zw (nx @fr193_0 <| nx @fr193_1 <| nx @l0 <| nx @l1 <| nx @rt <| nx @e1 <| nx @s1' <| @l2) ?_
    exact ⟨trivial, rfl, _, rfl, rfl⟩
theorem r_number_ok (fl : Fl) (st : St) (b : Nat) (s : List UInt8) (h : (takeN s).2.2 = 0) (hf : fl.fb ≤ b) (hb : st.blk[b]? = some (.cells [.str s,.bool false])) :
  run Tryz.prog nlH fl 82 [.ref b 0] st = some (.int .u64 (takeN s).1,st.set b (.cells [.str (s.drop (takeN s).2.1),.bool false])):=by
 refine run_simw (fi:=⟨false,[],[]⟩) (rs:=[.tmp 2]) rfl rfl rfl Tryz.func82 rfl rfl ?_
 simp only [argsFr]
 have l0:=ldS hb
 have l1:=ldB hb
 have rt:=fun fl => r_take fl s st
 simp only [n3D] at rt
 have s1':=stB false hf hb
 have b1:=set_at (y:=.cells [.str s,.bool false]) hb
 have l2:=ldB b1
 have l3:=ldS b1
 have e1 : decide (((takeN s).2.2 : Int) ≠ 0) = false:=decide_eq_false (by omega)
 have hz:=(takeN_ok h).2.1
 have sl:=sl9lo s (takeN s).2.1 hz
 have s2':=stS (s.drop (takeN s).2.1) hf b1
 rw [set_set] at s2'
 refine zw (nx @fr193_0 <| nx @fr193_1 <| nx @l0 <| nx @l1 <| nx @rt <| nx @e1 <| nx @s1' <| nx @l2 <| nx @l3 <| nx @sl <| @s2') ?_
 exact ⟨trivial,rfl,_,rfl,rfl⟩
theorem r_number (fl : Fl) (st : St) (b : Nat) (r : R) (hf : fl.fb ≤ b) (hb : st.blk[b]? = some (rdC r)) :
    run Tryz.prog nlH fl 82 [.ref b 0] st = some (.int .u64 (numR r).1.1, st.set b (rdC (numR r).2)) := by
  by_cases h : r.2 = true ∨ (takeN r.1).2.2 ≠ 0
  · rw [r_number_bad fl st b r h hf hb, numR, if_pos h]
    rfl
  · obtain ⟨s, x⟩ := r
    obtain rfl : x = false := by cases x; · rfl
                                 · exact absurd (.inl rfl) h
    have h0 : (takeN s).2.2 = 0 := by
      rcases Nat.eq_zero_or_pos (takeN s).2.2 with e | e
      · exact e
      · exact absurd (.inr (by show (takeN s).2.2 ≠ 0; omega)) h
    rw [r_number_ok fl st b s h0 hf hb, numR, if_neg h]
    simp only [rdC]
    rw [Nat.mod_eq_of_lt (takeN_ok h0).1]
theorem rep_zeros : ∀ n,repB [0] n = List.replicate n 0
 | 0 => rfl
 | n + 1 => by rw [repB,rep_zeros n]; rfl
theorem r_rep2 (fl : Fl) (k : Nat) (hk : k ≤ 1000000) (st : St) : run Tryz.prog nlH fl 161 [.str [0],.int .i64 k] st = some (.str (List.replicate k 0),st):=by
 refine run_prim rfl ?_
 simp only [repPrim]
 rw [if_pos ⟨by omega,by omega,by simp; omega⟩,Int.toNat_natCast,rep_zeros]
theorem r_text (fl : Fl) (st : St) (b : Nat) (r : R) (n : Nat) (hn : n ≤ 1000000) (hf : fl.fb ≤ b) (hb : st.blk[b]? = some (rdC r)) :
    run Tryz.prog nlH fl 87 [.ref b 0, .int .i64 n] st = some (.str (textR n r).1, st.set b (rdC (textR n r).2)) := by
  obtain ⟨s, x⟩ := r
  have hb : st.blk[b]? = some (.cells [.str s, .bool x]) := hb
  have l0 := ldS hb
  have l1 := ldB hb
  have rr := fun fl st => r_rep2 fl n hn st
  by_cases h : x = true ∨ s.length < n
  · rw [show textR n (s, x) = (List.replicate n 0, (s, true)) by unfold textR; rw [if_pos h]]
    simp only [rdC]
    refine run_simw (fi := ⟨false, [], []⟩) (rs := [.tmp 4]) rfl rfl rfl Tryz.func87 rfl rfl ?_
    simp only [argsFr]
    have s1' := stB true hf hb
    have l2 := ldB (set_at (y := .cells [.str s, .bool true]) hb)
    cases x with
    | true =>
      refine zw (nx @fr193_0 <| nx @fr193_1 <| nx @l0 <| nx @l1 <| nx @s1' <| nx @l2 <| @rr) ?_
      exact ⟨trivial, rfl, _, rfl, rfl⟩
    | false =>
      have he : s.length < n := by rcases h with h | h; · cases h
                                   · exact h
      have e1 : decide ((s.length : Int) < (n : Int)) = true := decide_eq_true (by omega)
      refine zw (nx @fr193_0 <| nx @fr193_1 <| nx @l0 <| nx @l1 <| nx @ln_9 <| nx @e1 <| nx @s1' <| nx @l2 <| @rr) ?_
      exact ⟨trivial, rfl, _, rfl, rfl⟩
  · obtain rfl : x = false := by cases x; · rfl
                                 · exact absurd (.inl rfl) h
    have hl : ¬ s.length < n := fun h' => h (.inr h')
    rw [show textR n (s, false) = (s.take n, (s.drop n, false)) by unfold textR; rw [if_neg h]]
    simp only [rdC]
    refine run_simw (fi := ⟨false, [], []⟩) (rs := [.tmp 4]) rfl rfl rfl Tryz.func87 rfl rfl ?_
    simp only [argsFr]
    have s1' := stB false hf hb
    have b1 := set_at (y := .cells [.str s, .bool false]) hb
    have l2 := ldB b1
    have l3 := ldS b1
    have e1 : decide ((s.length : Int) < (n : Int)) = false := decide_eq_false (by omega)
    have hi := sl9hi s n (by omega)
    have lo := sl9lo s n (by omega)
    have s2' := stS (s.drop n) hf b1
    rw [set_set] at s2'
    refine zw (nx @fr193_0 <| nx @fr193_1 <| nx @l0 <| nx @l1 <| nx @ln_9 <| nx @e1 <| nx @s1' <| nx @l2 <| nx @l3 <| nx @hi <| nx @lo <| @s2') ?_
    exact ⟨trivial, rfl, _, rfl, rfl⟩
end Go.Ab.Sha
