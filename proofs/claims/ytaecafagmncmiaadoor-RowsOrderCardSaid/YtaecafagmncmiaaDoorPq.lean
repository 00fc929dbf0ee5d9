/-
  Plain laws: the order of two timers' keys.
-/
import Derived.Test.YtaecafagmncmiaaDoorPo
namespace Go.Proofs.YtaecafagmncmiaaDoor.Pu

theorem cmpB_cons (c : UInt8) (a b : Bs) : Lib.compareBytes (c :: a) (c :: b) = Lib.compareBytes a b := by
  rw [Lib.compareBytes]
  have : ¬ c < c := UInt8.lt_irrefl c
  rw [if_neg this, if_neg this]
theorem ltB_cons (c : UInt8) (a b : Bs) : ltB (c :: a) (c :: b) = ltB a b := by unfold ltB; rw [cmpB_cons]
theorem ltB_lt {c d : UInt8} (h : c < d) (a b : Bs) : ltB (c :: a) (d :: b) = true := by
  unfold ltB; rw [Lib.compareBytes, if_pos h]; rfl
theorem ltB_gt {c d : UInt8} (h : d < c) (a b : Bs) : ltB (c :: a) (d :: b) = false := by
  unfold ltB
  rw [Lib.compareBytes, if_neg (by rw [UInt8.lt_iff_toNat_lt] at h ⊢; omega), if_pos h]; rfl
/-- numbers, the greatest byte first, are ordered as they are -/
theorem ltB_beL : ∀ (k m n : Nat) (a b : Bs), m < 256 ^ k → n < 256 ^ k → ltB (beL k m ++ a) (beL k n ++ b) = (decide (m < n) || (decide (m = n) && ltB a b)) := by
  intro k
  induction k with
  | zero =>
    intro m n a b hm hn
    have h1 : m = 0 := by simp at hm; omega
    have h2 : n = 0 := by simp at hn; omega
    subst h1 h2
    have e : ∀ n, beL 0 n = [] := fun n => List.eq_nil_of_length_eq_zero (beL_length 0 n)
    rw [e, List.nil_append, List.nil_append]; simp
  | succ k ih =>
    intro m n a b hm hn
    have hp : 0 < 256 ^ k := Nat.pow_pos (by omega)
    rw [Nat.pow_succ] at hm hn
    have hm1 : m / 256 ^ k < 256 := Nat.div_lt_of_lt_mul (by rw [Nat.mul_comm] at hm; rw [Nat.mul_comm]; omega)
    have hn1 : n / 256 ^ k < 256 := Nat.div_lt_of_lt_mul (by rw [Nat.mul_comm] at hn; rw [Nat.mul_comm]; omega)
    have em := Nat.div_add_mod m (256 ^ k)
    have en := Nat.div_add_mod n (256 ^ k)
    have lm := Nat.mod_lt m hp
    have ln := Nat.mod_lt n hp
    have tm : (UInt8.ofNat (m / 256 ^ k)).toNat = m / 256 ^ k := by rw [UInt8.toNat_ofNat']; exact Nat.mod_eq_of_lt hm1
    have tn : (UInt8.ofNat (n / 256 ^ k)).toNat = n / 256 ^ k := by rw [UInt8.toNat_ofNat']; exact Nat.mod_eq_of_lt hn1
    rw [beL_cons, beL_cons, List.cons_append, List.cons_append]
    have hmod : ∀ j q, j ≤ k → beL j (q % 256 ^ k) = beL j q := beL_mod k
    rw [← hmod k m (Nat.le_refl _), ← hmod k n (Nat.le_refl _)]
    generalize m / 256 ^ k = p at *
    generalize n / 256 ^ k = q at *
    generalize m % 256 ^ k = r at *
    generalize n % 256 ^ k = s at *
    rcases Nat.lt_trichotomy p q with h | h | h
    · rw [ltB_lt (by rw [UInt8.lt_iff_toNat_lt, tm, tn]; exact h)]
      have : m < n := by
        have := Nat.mul_le_mul_left (256 ^ k) (show p + 1 ≤ q from h)
        rw [Nat.mul_add] at this; omega
      simp [this]
    · subst h
      rw [ltB_cons, ih r s a b lm ln]
      have h1 : (r < s) ↔ (m < n) := by omega
      have h2 : (r = s) ↔ (m = n) := by omega
      simp [h1, h2]
    · rw [ltB_gt (by rw [UInt8.lt_iff_toNat_lt, tm, tn]; exact h)]
      have : n < m := by
        have := Nat.mul_le_mul_left (256 ^ k) (show q + 1 ≤ p from h)
        rw [Nat.mul_add] at this; omega
      have h1 : ¬ m < n := by omega
      have h2 : ¬ m = n := by omega
      simp [h1, h2]
where
  beL_mod (k : Nat) : ∀ j q, j ≤ k → beL j (q % 256 ^ k) = beL j q := by
    intro j
    induction j with
    | zero => intro q _; rw [List.eq_nil_of_length_eq_zero (beL_length 0 _), List.eq_nil_of_length_eq_zero (beL_length 0 _)]
    | succ j ih =>
      intro q hj
      rw [beL_cons, beL_cons, ih q (by omega)]
      congr 1
      apply UInt8.toNat.inj
      rw [UInt8.toNat_ofNat', UInt8.toNat_ofNat']
      have e : 256 ^ k = 256 ^ (j + 1) * 256 ^ (k - (j + 1)) := by rw [← Nat.pow_add]; congr 1; omega
      rw [e, Nat.pow_succ, Nat.mul_assoc, Nat.mod_mul_right_div_self, ← Nat.mul_comm (256 ^ (k - (j + 1))) 256, Nat.mod_mul_left_mod]
/-- texts without a 0, with a 0 behind, are ordered as they are -/
theorem ltB_stop : ∀ (a b r : Bs), (∀ c ∈ a, c ≠ 0) → (∀ c ∈ b, c ≠ 0) → ltB (a ++ 0 :: r) (b ++ 0 :: r) = ltB a b := by
  intro a
  induction a with
  | nil =>
    intro b r _ hb
    cases b with
    | nil => rw [List.nil_append, ltB_irrefl, ltB_irrefl]
    | cons d b =>
      have hd : (0 : UInt8) < d := by
        have := hb d (by simp)
        rw [UInt8.lt_iff_toNat_lt]
        have h0 : d.toNat ≠ 0 := fun e => this (UInt8.toNat.inj e)
        show (0 : UInt8).toNat < d.toNat
        simp; omega
      rw [List.nil_append, List.cons_append, ltB_lt hd]
      unfold ltB; simp [Lib.compareBytes]
  | cons c a ih =>
    intro b r ha hb
    cases b with
    | nil =>
      have hc : (0 : UInt8) < c := by
        have := ha c (by simp)
        rw [UInt8.lt_iff_toNat_lt]
        have h0 : c.toNat ≠ 0 := fun e => this (UInt8.toNat.inj e)
        show (0 : UInt8).toNat < c.toNat
        simp; omega
      rw [List.nil_append, List.cons_append, ltB_gt hc]
      unfold ltB; simp [Lib.compareBytes]
    | cons d b =>
      rw [List.cons_append, List.cons_append]
      rcases Nat.lt_trichotomy c.toNat d.toNat with h | h | h
      · rw [ltB_lt (by rw [UInt8.lt_iff_toNat_lt]; exact h), ltB_lt (by rw [UInt8.lt_iff_toNat_lt]; exact h)]
      · have : c = d := UInt8.toNat.inj h
        subst this
        rw [ltB_cons, ltB_cons, ih b r (fun x hx => ha x (by simp [hx])) (fun x hx => hb x (by simp [hx]))]
      · rw [ltB_gt (by rw [UInt8.lt_iff_toNat_lt]; exact h), ltB_gt (by rw [UInt8.lt_iff_toNat_lt]; exact h)]
theorem name_nonzero {s : Bs} (h : nameB s = true) : ∀ c ∈ s, c ≠ 0 := by
  intro c hc e
  have hall : s.all okC = true := by unfold nameB at h; simp only [Bool.and_eq_true] at h; exact h.1
  have := okC_yes (List.all_eq_true.1 hall c hc)
  rw [e] at this
  simp at this
/-- of two timers that which is due first stands first -/
theorem kT_order {x y : Inst} (hx : okI x = true) (hy : okI y = true) : ltB (kT x) (kT y) = (decide (x.due < y.due) || (decide (x.due = y.due) && ltB x.id y.id)) := by
  unfold kT
  rw [row_num hx (by decide) (okI_due hx), row_num hy (by decide) (okI_due hy)]
  obtain ⟨a0, a1⟩ := okI_due hx
  obtain ⟨b0, b1⟩ := okI_due hy
  show ltB (2 :: 116 :: 0 :: 0 :: 1 :: (beL 7 x.due.toNat ++ 2 :: (x.id ++ [0, 0]))) (2 :: 116 :: 0 :: 0 :: 1 :: (beL 7 y.due.toNat ++ 2 :: (y.id ++ [0, 0]))) = _
  rw [ltB_cons, ltB_cons, ltB_cons, ltB_cons, ltB_cons, ltB_beL 7 _ _ _ _ (by simp; omega) (by simp; omega), ltB_cons]
  rw [show x.id ++ [0, 0] = x.id ++ 0 :: [0] from rfl, show y.id ++ [0, 0] = y.id ++ 0 :: [0] from rfl, ltB_stop _ _ _ (name_nonzero (okI_names hx).1) (name_nonzero (okI_names hy).1)]
  have h1 : (x.due.toNat < y.due.toNat) ↔ (x.due < y.due) := by omega
  have h2 : (x.due.toNat = y.due.toNat) ↔ (x.due = y.due) := by omega
  simp [h1, h2]
end Go.Proofs.YtaecafagmncmiaaDoor.Pu
