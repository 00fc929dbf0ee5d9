/-
  Plain laws: a key's ID.
-/
import Derived.Test.YtaecafagmncmiaaDoorPu8
namespace Go.Proofs.YtaecafagmncmiaaDoor.Pu

theorem splitF_parts : ∀ (f : Nat) (acc : List Part) (l : Bs), (∀ p ∈ acc, p.s.length ≤ 80) → l.length ≤ 80 → ∀ p ∈ (splitF f acc l).2, p.s.length ≤ 80 := by
  intro f
  induction f with
  | zero => intro acc l ha _ p hp; unfold splitF at hp; exact ha p hp
  | succ f ih =>
    intro acc l ha hl p hp
    cases l with
    | nil => rw [splitF_nil] at hp; exact ha p hp
    | cons c r =>
      by_cases he : (partR (c :: r)).1 = 0
      · rw [splitF_go (by simp) he] at hp
        have h1 := partR_rest c r
        have h2 := partR_len c r
        simp at hl
        refine ih _ _ ?_ (by omega) p hp
        intro q hq
        rcases List.mem_append.1 hq with hq | hq
        · exact ha q hq
        · simp at hq; subst hq; omega
      · rw [splitF_err (by simp) he] at hp; cases hp
theorem splitB_parts (l : Bs) : ∀ p ∈ (splitB l).2, p.s.length ≤ 80 := by
  unfold splitB
  split
  · intro p hp; cases hp
  · exact splitF_parts _ [] l (by simp) (by omega)
/-- the last part's text, if the first and the last are texts and the last is a name -/
def idL (l : List Part) : Nat × Bs :=
  match l[0]?, l[l.length - 1]? with
  | some a, some b => if a.text = true ∧ b.text = true ∧ nameB b.s = true then (0, b.s) else (3, [])
  | _, _ => (3, [])
def idR (key : Bs) : Nat × Bs := if (splitB key).1 ≠ 0 ∨ (splitB key).2.length < 2 then (3, []) else idL (splitB key).2
theorem idR_err {key : Bs} (h : (splitB key).1 ≠ 0) : idR key = (3, []) := by unfold idR; rw [if_pos (.inl h)]
theorem idR_few {key : Bs} (h : (splitB key).2.length < 2) : idR key = (3, []) := by unfold idR; rw [if_pos (.inr h)]
theorem idR_ok {key : Bs} (h1 : (splitB key).1 = 0) (h2 : ¬ (splitB key).2.length < 2) : idR key = idL (splitB key).2 := by unfold idR; rw [if_neg (by simp [h1]; omega)]
theorem idL_at {l : List Part} {a b : Part} (ha : l[0]? = some a) (hb : l[l.length - 1]? = some b) : idL l = if a.text = true ∧ b.text = true ∧ nameB b.s = true then (0, b.s) else (3, []) := by unfold idL; rw [ha, hb]
attribute [irreducible] idR idL
end Go.Proofs.YtaecafagmncmiaaDoor.Pu
