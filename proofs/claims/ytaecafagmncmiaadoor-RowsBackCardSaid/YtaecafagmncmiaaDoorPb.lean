/-
  Plain laws: which of an instance's rows has its value.
-/
import Derived.Test.YtaecafagmncmiaaDoorPm
namespace Go.Proofs.YtaecafagmncmiaaDoor.Pu

def nVal (l : List Chg) : Nat := (l.filter fun c => c.value != []).length
theorem nVal_snoc {l : List Chg} {j : Nat} {x : Chg} (h : l[j]? = some x) : nVal (l.take (j + 1)) = nVal (l.take j) + if x.value = [] then 0 else 1 := by
  unfold nVal
  rw [List.take_add_one, h, Option.toList_some, List.filter_append, List.length_append]
  by_cases hh : x.value = [] <;> simp [hh]
theorem nVal_le (l : List Chg) : nVal l ≤ l.length := List.length_filter_le _ _
theorem nVal_rows (x : Inst) : nVal (rowsI x) = 1 := by
  unfold nVal rowsI
  have h1 : ∀ k ps, ((rowC k ps []).value != []) = false := fun k ps => by rw [rowC_value]; rfl
  have h2 : ((rowC 115 [textP x.id] (instB x)).value != []) = true := by rw [rowC_value]; simpa using instB_ne x
  cases x.out <;> by_cases h0 : x.due = 0 <;> simp [h0, h1, h2]
theorem rows_value {x : Inst} {c : Chg} (hc : c ∈ rowsI x) : c.value = [] ∨ c.value = instB x := by
  rcases rowsI_mem.1 hc with rfl | rfl | ⟨_, rfl⟩ | rfl | ⟨_, rfl⟩
  · exact .inl (rowC_value _ _ _)
  · exact .inl (rowC_value _ _ _)
  · exact .inl (rowC_value _ _ _)
  · exact .inr (rowC_value _ _ _)
  · exact .inl (rowC_value _ _ _)
/-- is a value among them? -/
def hasV (l : List Chg) (v : Bs) : Bool := l.any fun c => c.value == v
theorem hasV_snoc {l : List Chg} {j : Nat} {x : Chg} {v : Bs} (h : l[j]? = some x) : hasV (l.take (j + 1)) v = (hasV (l.take j) v || x.value == v) := by
  unfold hasV
  rw [List.take_add_one, h, Option.toList_some, List.any_append]
  simp
theorem hasV_rows (x : Inst) : hasV (rowsI x) (instB x) = true := by
  unfold hasV
  rw [List.any_eq_true]
  exact ⟨_, rowsI_mem.2 (.inr (.inr (.inr (.inl rfl)))), by rw [rowC_value]; simp⟩
theorem sorted_at' {l : List Chg} (h : Sorted l) {j : Nat} {x y : Chg} (hx : l[j]? = some x) (hy : l[j + 1]? = some y) : ltB x.key y.key = true := by
  unfold Sorted at h
  obtain ⟨h1, e1⟩ := List.getElem?_eq_some_iff.1 hx
  obtain ⟨h2, e2⟩ := List.getElem?_eq_some_iff.1 hy
  have := List.pairwise_iff_getElem.1 h j (j + 1) h1 h2 (by omega)
  rw [e1, e2] at this
  exact this
attribute [irreducible] nVal hasV
end Go.Proofs.YtaecafagmncmiaaDoor.Pu
