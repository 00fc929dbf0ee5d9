/-
  Plain laws: a key's parts.
-/
import Derived.Test.YtaecafagmncmiaaDoorPu4
namespace Go.Proofs.YtaecafagmncmiaaDoor.Pu

theorem beL_get : ∀ (k n i : Nat), i < k → (beL k n)[i]? = some (UInt8.ofNat (n / 256 ^ (k - 1 - i))) := by
  intro k
  induction k with
  | zero => intro n i h; omega
  | succ k ih =>
    intro n i h
    rw [beL_cons]
    cases i with
    | zero => simp
    | succ i =>
      rw [List.getElem?_cons_succ, ih n i (by omega)]
      congr 4
      omega

/-- the text that stands in some bytes: the error, the text, the rest -/
def unesc : Bs → Bs → Nat × Bs × Bs
  | _, [] => (2, [], [])
  | acc, c :: r => if c = 0 then (match r with | [] => (2, [], []) | d :: r' => if d = 0 then (0, acc, r') else if d = 255 then unesc (acc ++ [0]) r' else (3, [], [])) else unesc (acc ++ [c]) r
theorem unesc_nil (acc : Bs) : unesc acc [] = (2, [], []) := by unfold unesc; rfl
theorem unesc_char (acc : Bs) {c : UInt8} (r : Bs) (h : c ≠ 0) : unesc acc (c :: r) = unesc (acc ++ [c]) r := by rw [unesc.eq_def]; simp [h]
theorem unesc_end (acc : Bs) : unesc acc [0] = (2, [], []) := by rw [unesc]; rfl
theorem unesc_stop (acc r : Bs) : unesc acc (0 :: 0 :: r) = (0, acc, r) := by rw [unesc]; rfl
theorem unesc_zero (acc r : Bs) : unesc acc (0 :: 255 :: r) = unesc (acc ++ [0]) r := by rw [unesc]; rfl
theorem unesc_bad (acc r : Bs) {d : UInt8} (h0 : d ≠ 0) (h1 : d ≠ 255) : unesc acc (0 :: d :: r) = (3, [], []) := by rw [unesc]; simp [h0, h1]
theorem unesc_skip : ∀ (k : Nat) (acc l : Bs), k ≤ l.length → (∀ j, j < k → l[j]? ≠ some 0) → unesc acc l = unesc (acc ++ l.take k) (l.drop k) := by
  intro k
  induction k with
  | zero => intro acc l _ _; simp
  | succ k ih =>
    intro acc l hk h
    cases l with
    | nil => simp at hk
    | cons c l =>
      have hc : c ≠ 0 := fun e => h 0 (by omega) (by simp [e])
      rw [unesc_char acc l hc, ih _ _ (by simpa using hk) (fun j hj => by have := h (j + 1) (by omega); simpa using this)]
      simp
theorem unesc_none {l : Bs} (acc : Bs) (h : ∀ k : Nat, l[k]? ≠ some 0) : unesc acc l = (2, [], []) := by
  rw [unesc_skip l.length acc l (Nat.le_refl _) (fun j _ => h j), List.drop_length, unesc_nil]
theorem unesc_len : ∀ (n : Nat) (acc l : Bs), l.length ≤ n → (unesc acc l).2.2.length ≤ l.length ∧ (unesc acc l).2.1.length ≤ acc.length + l.length ∧ ((unesc acc l).1 ≠ 0 → (unesc acc l).2 = ([], [])) := by
  intro n
  induction n with
  | zero =>
    intro acc l h
    have : l = [] := List.eq_nil_of_length_eq_zero (by omega)
    subst this
    simp [unesc_nil]
  | succ n ih =>
    intro acc l h
    cases l with
    | nil => simp [unesc_nil]
    | cons c r =>
      by_cases hc : c = 0
      · subst hc
        cases r with
        | nil => simp [unesc_end]
        | cons d r =>
          by_cases h0 : d = 0
          · subst h0; simp [unesc_stop]; omega
          · by_cases h1 : d = 255
            · subst h1
              rw [unesc_zero]
              have := ih (acc ++ [0]) r (by simp at h; omega)
              simp at this ⊢
              refine ⟨by omega, by omega, this.2.2⟩
            · rw [unesc_bad acc r h0 h1]; simp
      · rw [unesc_char acc r hc]
        have := ih (acc ++ [c]) r (by simp at h; omega)
        simp at this ⊢
        refine ⟨by omega, by omega, this.2.2⟩

def noPart : Part := ⟨false, 0, []⟩
/-- the part at the begin of a key: the error, the part, the rest -/
def partR : Bs → Nat × Part × Bs
  | [] => (3, noPart, [])
  | c :: r =>
    if c = 1 then (if r.length < 7 then (2, noPart, []) else if maxN < beN (r.take 7) then (3, noPart, []) else (0, ⟨false, beN (r.take 7), []⟩, r.drop 7))
    else if c = 2 then (if (unesc [] r).1 ≠ 0 then ((unesc [] r).1, noPart, []) else (0, ⟨true, 0, (unesc [] r).2.1⟩, (unesc [] r).2.2))
    else (3, noPart, [])
theorem partR_rest (c : UInt8) (r : Bs) : (partR (c :: r)).2.2.length ≤ r.length := by
  have := (unesc_len r.length [] r (Nat.le_refl _)).1
  simp only [partR]
  split
  · split
    · simp
    · split <;> simp
  · split
    · split
      · simp
      · exact this
    · simp
theorem partR_len (c : UInt8) (r : Bs) : (partR (c :: r)).2.1.s.length ≤ r.length := by
  have := (unesc_len r.length [] r (Nat.le_refl _)).2.1
  simp only [partR]
  split
  · split
    · simp [noPart]
    · split <;> simp [noPart]
  · split
    · split
      · simp [noPart]
      · simpa using this
    · simp [noPart]
def splitF : Nat → List Part → Bs → Nat × List Part
  | 0, acc, _ => (0, acc)
  | f + 1, acc, l => if l = [] then (0, acc) else if (partR l).1 ≠ 0 then ((partR l).1, []) else splitF f (acc ++ [(partR l).2.1]) (partR l).2.2
def splitB (l : Bs) : Nat × List Part := if 80 < l.length then (5, []) else splitF (l.length + 1) [] l
theorem splitF_nil (f : Nat) (acc : List Part) : splitF f acc [] = (0, acc) := by cases f <;> simp [splitF]
theorem splitF_err {f : Nat} {acc : List Part} {l : Bs} (h : l ≠ []) (he : (partR l).1 ≠ 0) : splitF (f + 1) acc l = ((partR l).1, []) := by rw [splitF, if_neg h, if_pos he]
theorem splitF_go {f : Nat} {acc : List Part} {l : Bs} (h : l ≠ []) (he : (partR l).1 = 0) : splitF (f + 1) acc l = splitF f (acc ++ [(partR l).2.1]) (partR l).2.2 := by rw [splitF, if_neg h, if_neg (by simp [he])]
attribute [irreducible] unesc partR splitF splitB
end Go.Proofs.YtaecafagmncmiaaDoor.Pu
