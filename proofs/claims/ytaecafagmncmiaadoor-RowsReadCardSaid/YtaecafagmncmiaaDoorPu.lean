/-
  Plain laws on bytes and numbers for the rows of chapters 1, 2, 18 and 20: no program in sight.
-/
namespace Go.Proofs.YtaecafagmncmiaaDoor.Pu

abbrev Bs := List UInt8

/-- how many bytes a number takes -/
def psize (n : Nat) : Nat := if n = 0 then 0 else psize (n / 256) + 1
decreasing_by omega

theorem psize_zero : psize 0 = 0 := by unfold psize; simp
theorem psize_pos {n : Nat} (h : 0 < n) : psize n = psize (n / 256) + 1 := by
  rw [psize]; rw [if_neg (by omega)]
theorem psize_le : ∀ (k n : Nat), n < 256 ^ k → psize n ≤ k := by
  intro k
  induction k with
  | zero => intro n h; have : n = 0 := by simpa using h
            subst this; simp [psize_zero]
  | succ k ih =>
    intro n h
    rcases Nat.eq_zero_or_pos n with h0 | h0
    · subst h0; simp [psize_zero]
    · rw [psize_pos h0]
      have : n / 256 < 256 ^ k := by rw [Nat.pow_succ] at h; omega
      have := ih _ this
      omega
theorem psize_ge : ∀ (k n : Nat), 256 ^ k ≤ n → k < psize n := by
  intro k
  induction k with
  | zero => intro n h; have h1 : 256 ^ 0 = 1 := rfl
            rw [psize_pos (by omega)]; omega
  | succ k ih =>
    intro n h
    have h0 : 0 < 256 ^ k := Nat.pow_pos (by omega)
    have : 256 ^ k ≤ n / 256 := by rw [Nat.pow_succ] at h; omega
    rw [psize_pos (by rw [Nat.pow_succ] at h; omega)]
    have := ih _ this
    omega
theorem psize_eq {k n : Nat} (h1 : 256 ^ k ≤ n) (h2 : n < 256 ^ (k + 1)) : psize n = k + 1 := by
  have := psize_ge k n h1
  have := psize_le (k + 1) n h2
  omega

/-- k bytes, the greatest first -/
def beL : Nat → Nat → Bs
  | 0, _ => []
  | k + 1, n => beL k (n / 256) ++ [UInt8.ofNat n]
theorem beL_length : ∀ k n, (beL k n).length = k
  | 0, _ => rfl
  | k + 1, n => by simp [beL, beL_length k]
/-- the number of some bytes -/
def beN (l : Bs) : Nat := l.foldl (fun a c => a * 256 + c.toNat) 0
theorem beN_snoc (l : Bs) (c : UInt8) : beN (l ++ [c]) = beN l * 256 + c.toNat := by simp [beN]
theorem beN_nil : beN [] = 0 := rfl
theorem beN_lt (l : Bs) : beN l < 256 ^ l.length := by
  rw [← List.reverse_reverse l]
  generalize l.reverse = r
  induction r with
  | nil => simp [beN]
  | cons c r ih =>
    rw [List.reverse_cons, beN_snoc, List.length_append, List.length_singleton, Nat.pow_succ]
    have := c.toNat_lt
    omega
theorem beL_beN : ∀ (l : Bs), beL l.length (beN l) = l := by
  intro l
  rw [← List.reverse_reverse l]
  generalize l.reverse = r
  induction r with
  | nil => rfl
  | cons c r ih =>
    rw [List.reverse_cons, beN_snoc, List.length_append, List.length_singleton]
    have hc := c.toNat_lt
    have h1 : (beN r.reverse * 256 + c.toNat) / 256 = beN r.reverse := by omega
    have h2 : UInt8.ofNat (beN r.reverse * 256 + c.toNat) = c := by
      apply UInt8.toNat.inj
      simp
    rw [beL, h1, ih, h2]
theorem beN_beL : ∀ (k n : Nat), n < 256 ^ k → beN (beL k n) = n := by
  intro k
  induction k with
  | zero => intro n h; have : n = 0 := by simpa using h
            subst this; rfl
  | succ k ih =>
    intro n h
    have h1 : n / 256 < 256 ^ k := by rw [Nat.pow_succ] at h; omega
    rw [beL, beN_snoc, ih _ h1, UInt8.toNat_ofNat']
    omega

/-- the greatest number -/
def maxN : Nat := 9007199254740991
theorem psize_le7 {n : Nat} (h : n ≤ maxN) : psize n ≤ 7 := psize_le 7 n (by unfold maxN at h; simp; omega)

def num (n : Nat) : Bs := UInt8.ofNat (psize n) :: beL (psize n) n
theorem num_length {n : Nat} : (num n).length = psize n + 1 := by simp [num, beL_length]

/-- a number, and what is behind: the error (0: none), the number, the rest -/
def readNum : Bs → Nat × Nat × Bs
  | [] => (2, 0, [])
  | k :: r =>
    if 7 < k.toNat then (3, 0, [])
    else if r.length < k.toNat then (2, 0, [])
    else if psize (beN (r.take k.toNat)) ≠ k.toNat ∨ maxN < beN (r.take k.toNat) then (3, 0, [])
    else (0, beN (r.take k.toNat), r.drop k.toNat)

theorem readNum_num {n : Nat} (h : n ≤ maxN) (r : Bs) : readNum (num n ++ r) = (0, n, r) := by
  have h7 := psize_le7 h
  have hk : (UInt8.ofNat (psize n)).toNat = psize n := by rw [UInt8.toNat_ofNat']; omega
  have hlt : n < 256 ^ psize n := by
    rcases Nat.lt_or_ge n (256 ^ psize n) with h1 | h1
    · exact h1
    · have := psize_ge _ _ h1; omega
  have ht : (beL (psize n) n ++ r).take (psize n) = beL (psize n) n := by
    rw [List.take_append_of_le_length (by rw [beL_length]; omega), List.take_of_length_le (by rw [beL_length]; omega)]
  have hd : (beL (psize n) n ++ r).drop (psize n) = r := by
    rw [List.drop_append_of_le_length (by rw [beL_length]; omega), List.drop_of_length_le (by rw [beL_length]; omega), List.nil_append]
  simp only [num, List.cons_append, readNum, hk, List.length_append, beL_length, ht, hd, beN_beL _ _ hlt]
  rw [if_neg (by omega), if_neg (by omega), if_neg (by omega)]

theorem num_of_readNum {b r : Bs} {n : Nat} (h : readNum b = (0, n, r)) : n ≤ maxN ∧ b = num n ++ r := by
  cases b with
  | nil => simp [readNum] at h
  | cons k b =>
    simp only [readNum] at h
    split at h
    · simp at h
    · split at h
      · simp at h
      · split at h
        · simp at h
        · rename_i h1 h2 h3
          simp only [Prod.mk.injEq, true_and] at h
          obtain ⟨hn, hr⟩ := h
          have hk : psize n = k.toNat := by rw [← hn]; omega
          have hl : (b.take k.toNat).length = k.toNat := by rw [List.length_take]; omega
          have hb := beL_beN (b.take k.toNat)
          rw [hl, hn] at hb
          refine ⟨by rw [← hn]; omega, ?_⟩
          have e : UInt8.ofNat (k.toNat) = k := by simp
          rw [num, hk, e, hb, ← hr, List.cons_append, List.take_append_drop]

attribute [irreducible] num readNum

end Go.Proofs.YtaecafagmncmiaaDoor.Pu
