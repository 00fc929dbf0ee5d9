/-
  Plain laws: names and definitions.
-/
import Derived.Test.YtaecafagmncmiaaDoorPu2
namespace Go.Proofs.YtaecafagmncmiaaDoor.Pu

def okC (c : UInt8) : Bool := decide ((97 ≤ c.toNat ∧ c.toNat ≤ 122) ∨ (48 ≤ c.toNat ∧ c.toNat ≤ 57) ∨ c.toNat = 45)
theorem okC_yes {c : UInt8} (h : okC c = true) : (97 ≤ c.toNat ∧ c.toNat ≤ 122) ∨ (48 ≤ c.toNat ∧ c.toNat ≤ 57) ∨ c.toNat = 45 := by unfold okC at h; simpa using h
theorem okC_no {c : UInt8} (h : okC c = false) : (c.toNat < 97 ∨ 122 < c.toNat) ∧ (c.toNat < 48 ∨ 57 < c.toNat) ∧ c.toNat ≠ 45 := by unfold okC at h; simp at h; omega
def nameB (l : Bs) : Bool := l.all okC && decide (1 ≤ l.length ∧ l.length ≤ 20)
theorem nameB_len {l : Bs} (h : nameB l = true) : 1 ≤ l.length ∧ l.length ≤ 20 := by unfold nameB at h; simp at h; omega
theorem nameB_all {l : Bs} (h : l.all okC = true) : nameB l = decide (1 ≤ l.length ∧ l.length ≤ 20) := by unfold nameB; rw [h]; rfl
theorem nameB_bad {l : Bs} {j : Nat} {c : UInt8} (h : l[j]? = some c) (hc : okC c = false) : nameB l = false := by
  unfold nameB
  have : l.all okC = false := by
    rw [List.all_eq_false]
    exact ⟨c, List.mem_of_getElem? h, by simp [hc]⟩
  rw [this]; rfl
theorem all_snoc {l : Bs} {j : Nat} {c : UInt8} (h : l[j]? = some c) (ha : (l.take j).all okC = true) (hc : okC c = true) : (l.take (j + 1)).all okC = true := by
  rw [List.take_add_one, h, List.all_append, ha]; simp [hc]
attribute [irreducible] okC nameB
end Go.Proofs.YtaecafagmncmiaaDoor.Pu
