/-
  Plain laws: texts and rows of texts.
-/
import Derived.Test.YtaecafagmncmiaaDoorPu
namespace Go.Proofs.YtaecafagmncmiaaDoor.Pu

def maxT : Nat := 1048576
/-- a text, and what is behind: the error, the text, the rest -/
def readText (b : Bs) : Nat × Bs × Bs :=
  let r := readNum b
  if r.1 ≠ 0 then (r.1, [], [])
  else if maxT < r.2.1 then (5, [], [])
  else if r.2.2.length < r.2.1 then (2, [], [])
  else (0, r.2.2.take r.2.1, r.2.2.drop r.2.1)
def textB (s : Bs) : Bs := num s.length ++ s
def rowB (l : List Bs) : Bs := num l.length ++ l.flatMap textB

theorem readNum_rest (b : Bs) : (readNum b).2.2.length ≤ b.length := by
  cases b with
  | nil => simp [readNum]
  | cons k r =>
    simp only [readNum]
    split
    · simp
    · split
      · simp
      · split
        · simp
        · simp; omega
theorem readNum_val (b : Bs) : (readNum b).2.1 ≤ maxN := by
  cases b with
  | nil => simp [readNum]
  | cons k r =>
    simp only [readNum]
    split
    · simp
    · split
      · simp
      · split
        · simp
        · simp; omega
theorem readNum_err (b : Bs) : (readNum b).1 = 0 ∨ (readNum b).1 = 2 ∨ (readNum b).1 = 3 := by
  cases b with
  | nil => simp [readNum]
  | cons k r =>
    simp only [readNum]
    split
    · simp
    · split
      · simp
      · split <;> simp
theorem readNum_bad (b : Bs) (h : (readNum b).1 ≠ 0) : (readNum b).2 = (0, []) := by
  cases b with
  | nil => simp [readNum]
  | cons k r =>
    simp only [readNum] at h ⊢
    split
    · rfl
    · rename_i h1
      rw [if_neg h1] at h
      split
      · rfl
      · rename_i h2
        rw [if_neg h2] at h
        split
        · rfl
        · rename_i h3
          rw [if_neg h3] at h
          exact absurd rfl h
theorem readText_rest (b : Bs) : (readText b).2.2.length ≤ b.length := by
  have := readNum_rest b
  simp only [readText]
  split
  · simp
  · split
    · simp
    · split
      · simp
      · simp; omega
theorem readText_len (b : Bs) : (readText b).2.1.length ≤ maxT := by
  simp only [readText]
  split
  · simp
  · split
    · simp
    · split
      · simp
      · simp; omega
theorem readText_err (b : Bs) : (readText b).1 = 0 ∨ (readText b).1 = 2 ∨ (readText b).1 = 3 ∨ (readText b).1 = 5 := by
  have := readNum_err b
  simp only [readText]
  split
  · simp; omega
  · split
    · simp
    · split <;> simp
theorem readText_text {s : Bs} (h : s.length ≤ maxT) (r : Bs) : readText (textB s ++ r) = (0, s, r) := by
  unfold textB
  rw [List.append_assoc, readText]
  rw [readNum_num (by unfold maxT at h; unfold maxN; omega)]
  simp only [ne_eq, not_true_eq_false, if_false]
  rw [if_neg (by omega), if_neg (by simp)]
  simp
theorem text_of_readText {b s r : Bs} (h : readText b = (0, s, r)) : s.length ≤ maxT ∧ b = textB s ++ r := by
  have he := readText_len b
  rw [h] at he
  refine ⟨he, ?_⟩
  simp only [readText] at h
  split at h
  · rename_i h1; simp at h; exact absurd h.1 h1
  · rename_i h1
    split at h
    · simp at h
    · split at h
      · simp at h
      · rename_i h2 h3
        simp only [Prod.mk.injEq, true_and] at h
        have hn := num_of_readNum (b := b) (n := (readNum b).2.1) (r := (readNum b).2.2) (by
          have : (readNum b).1 = 0 := by omega
          rw [← this])
        have hl : s.length = (readNum b).2.1 := by rw [← h.1, List.length_take]; omega
        unfold textB
        rw [hl, List.append_assoc, ← h.1, ← h.2, List.take_append_drop]
        exact hn.2

/-- of k bytes: k is the size of their number just if the first one is not 0 -/
theorem psize_beN (q : Bs) : psize (beN q) = q.length ↔ q.head? ≠ some 0 := by
  cases q with
  | nil => simp [beN_nil, psize_zero]
  | cons c q =>
    have hfold : ∀ (l : Bs) (a : Nat), l.foldl (fun a c => a * 256 + c.toNat) a = a * 256 ^ l.length + beN l := by
      intro l
      induction l with
      | nil => intro a; simp [beN]
      | cons d l ih =>
        intro a
        rw [List.foldl_cons, ih]
        have : beN (d :: l) = d.toNat * 256 ^ l.length + beN l := by
          show (d :: l).foldl _ 0 = _
          rw [List.foldl_cons, ih]; simp
        rw [this, List.length_cons, Nat.pow_succ]
        have : (a * 256 + d.toNat) * 256 ^ l.length = a * (256 ^ l.length * 256) + d.toNat * 256 ^ l.length := by
          rw [Nat.add_mul, Nat.mul_assoc, Nat.mul_comm 256]
        omega
    have hb : beN (c :: q) = c.toNat * 256 ^ q.length + beN q := by
      show (c :: q).foldl _ 0 = _
      rw [List.foldl_cons, hfold]; simp
    have hlt := beN_lt q
    rw [List.length_cons, hb]
    by_cases h0 : c = 0
    · subst h0
      simp only [List.head?_cons, ne_eq, not_true_eq_false, iff_false]
      have := psize_le q.length (beN q) hlt
      simp; omega
    · have hpos : 0 < c.toNat := by
        rcases Nat.eq_zero_or_pos c.toNat with h | h
        · exact absurd (UInt8.toNat.inj (by simpa using h)) h0
        · exact h
      have hc := c.toNat_lt
      simp only [List.head?_cons, ne_eq, Option.some.injEq, h0, not_false_eq_true, iff_true]
      refine psize_eq ?_ ?_
      · have := Nat.mul_le_mul_right (256 ^ q.length) hpos; omega
      · rw [Nat.pow_succ]
        have : (c.toNat + 1) * 256 ^ q.length ≤ 256 * 256 ^ q.length := Nat.mul_le_mul_right _ (by omega)
        rw [Nat.add_mul] at this
        omega

theorem beL_cons : ∀ (k n : Nat), beL (k + 1) n = UInt8.ofNat (n / 256 ^ k) :: beL k n := by
  intro k
  induction k with
  | zero => intro n; simp [beL]
  | succ k ih =>
    intro n
    rw [beL, ih, beL, Nat.div_div_eq_div_mul, List.cons_append, Nat.pow_succ, Nat.mul_comm 256]
theorem rev_succ (k n : Nat) : (beL (k + 1) n).reverse = (beL k n).reverse ++ [UInt8.ofNat (n / 256 ^ k)] := by rw [beL_cons, List.reverse_cons]
attribute [irreducible] textB rowB readText
end Go.Proofs.YtaecafagmncmiaaDoor.Pu
