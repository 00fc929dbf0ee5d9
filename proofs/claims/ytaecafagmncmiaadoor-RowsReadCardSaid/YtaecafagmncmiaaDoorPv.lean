/-
  Plain laws: the instance of a value.
-/
import Derived.Test.YtaecafagmncmiaaDoorPu9
namespace Go.Proofs.YtaecafagmncmiaaDoor.Pu

def restT (m : Bs) : Nat → Bs
  | 0 => m
  | j + 1 => (readText (restT m j)).2.2
def txt (m : Bs) (j : Nat) : Bs := (readText (restT m j)).2.1
def restN (m : Bs) : Nat → Bs
  | 0 => m
  | j + 1 => (readNum (restN m j)).2.2
def nm (m : Bs) (j : Nat) : Nat := (readNum (restN m j)).2.1
def okT (m : Bs) (j : Nat) : Prop := ∀ i, i < j → (readText (restT m i)).1 = 0
def okN (m : Bs) (j : Nat) : Prop := ∀ i, i < j → (readNum (restN m i)).1 = 0
instance (m : Bs) (j : Nat) : Decidable (okT m j) := inferInstanceAs (Decidable (∀ i, i < j → (readText (restT m i)).1 = 0))
instance (m : Bs) (j : Nat) : Decidable (okN m j) := inferInstanceAs (Decidable (∀ i, i < j → (readNum (restN m i)).1 = 0))
theorem restT_len (m : Bs) : ∀ j, (restT m j).length ≤ m.length := by
  intro j
  induction j with
  | zero => exact Nat.le_refl _
  | succ j ih => have := readText_rest (restT m j); rw [restT]; omega
theorem restN_len (m : Bs) : ∀ j, (restN m j).length ≤ m.length := by
  intro j
  induction j with
  | zero => exact Nat.le_refl _
  | succ j ih => have := readNum_rest (restN m j); rw [restN]; omega
theorem txt_len (m : Bs) (j : Nat) : (txt m j).length ≤ 1048576 := by
  have := readText_len (restT m j)
  unfold txt; unfold maxT at this; omega
theorem nm_le (m : Bs) (j : Nat) : nm m j ≤ 9007199254740991 := by
  have := readNum_val (restN m j)
  unfold nm; unfold maxN at this; omega
theorem okT_zero (m : Bs) : okT m 0 := fun i hi => absurd hi (by omega)
theorem okN_zero (m : Bs) : okN m 0 := fun i hi => absurd hi (by omega)
theorem okT_succ {m : Bs} {j : Nat} (h : okT m j) (h1 : (readText (restT m j)).1 = 0) : okT m (j + 1) := fun i hi => by
  rcases Nat.lt_or_ge i j with h2 | h2
  · exact h i h2
  · obtain rfl : i = j := by omega
    exact h1
theorem okN_succ {m : Bs} {j : Nat} (h : okN m j) (h1 : (readNum (restN m j)).1 = 0) : okN m (j + 1) := fun i hi => by
  rcases Nat.lt_or_ge i j with h2 | h2
  · exact h i h2
  · obtain rfl : i = j := by omega
    exact h1
def noI : Inst := ⟨[], [], 0, 0, 0, 0, false⟩
def instN (a b q : Bs) : Inst := ⟨a, b, nm q 0, nm q 1, nm q 2, nm q 3, nm q 4 == 1⟩
def instR (v : Bs) : Nat × Inst :=
  if (readNum v).1 ≠ 0 ∨ (readNum v).2.1 ≠ 2 then (3, noI)
  else if ¬ okT (readNum v).2.2 2 then (3, noI)
  else if ¬ okN (restT (readNum v).2.2 2) 5 then (3, noI)
  else
    let x := instN (txt (readNum v).2.2 0) (txt (readNum v).2.2 1) (restT (readNum v).2.2 2)
    if okI x = true ∧ instB x = v then (0, x) else (3, noI)
theorem instR_head {v : Bs} (h : (readNum v).1 ≠ 0 ∨ (readNum v).2.1 ≠ 2) : instR v = (3, noI) := by unfold instR; rw [if_pos h]
theorem instR_text {v : Bs} (h0 : (readNum v).1 = 0) (h1 : (readNum v).2.1 = 2) {j : Nat} (hj : j < 2) (h : (readText (restT (readNum v).2.2 j)).1 ≠ 0) : instR v = (3, noI) := by
  unfold instR; rw [if_neg (by simp [h0, h1]), if_pos (fun h2 => h (h2 j hj))]
theorem instR_num {v : Bs} (h0 : (readNum v).1 = 0) (h1 : (readNum v).2.1 = 2) (ht : okT (readNum v).2.2 2) {j : Nat} (hj : j < 5) (h : (readNum (restN (restT (readNum v).2.2 2) j)).1 ≠ 0) : instR v = (3, noI) := by
  unfold instR; rw [if_neg (by simp [h0, h1]), if_neg (fun h2 => h2 ht), if_pos (fun h2 => h (h2 j hj))]
theorem instR_end {v : Bs} (h0 : (readNum v).1 = 0) (h1 : (readNum v).2.1 = 2) (ht : okT (readNum v).2.2 2) (hn : okN (restT (readNum v).2.2 2) 5) :
    instR v = if okI (instN (txt (readNum v).2.2 0) (txt (readNum v).2.2 1) (restT (readNum v).2.2 2)) = true ∧ instB (instN (txt (readNum v).2.2 0) (txt (readNum v).2.2 1) (restT (readNum v).2.2 2)) = v then (0, instN (txt (readNum v).2.2 0) (txt (readNum v).2.2 1) (restT (readNum v).2.2 2)) else (3, noI) := by
  unfold instR; rw [if_neg (by simp [h0, h1]), if_neg (fun h2 => h2 ht), if_neg (fun h2 => h2 hn)]
attribute [irreducible] restT txt restN nm okT okN instN instR
end Go.Proofs.YtaecafagmncmiaaDoor.Pu
