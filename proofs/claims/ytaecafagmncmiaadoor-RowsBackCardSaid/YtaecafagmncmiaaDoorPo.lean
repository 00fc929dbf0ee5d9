/-
  Plain laws: which rows an instance has.
-/
import Derived.Test.YtaecafagmncmiaaDoorPm
namespace Go.Proofs.YtaecafagmncmiaaDoor.Pu

def kO (x : Inst) : Bs := (rowC 111 [textP x.id] []).key
def kI (x : Inst) : Bs := (rowC 105 [numP x.status, textP x.id] []).key
def kD (x : Inst) : Bs := (rowC 100 [textP x.dfn, textP x.id] []).key
def kS (x : Inst) : Bs := (rowC 115 [textP x.id] []).key
def kT (x : Inst) : Bs := (rowC 116 [numP x.due, textP x.id] []).key
theorem rowC_key (k : UInt8) (ps : List Part) (v v' : Bs) : (rowC k ps v).key = (rowC k ps v').key := by unfold rowC; rfl
theorem rowC_keyB (k : UInt8) (ps : List Part) (v : Bs) : (rowC k ps v).key = (keyB (textP [k] :: ps)).2 := by unfold rowC; rfl
theorem kI_has (x : Inst) : hasK (rowsI x) (kI x) = true := hasK_iff.2 ⟨_, rowsI_mem.2 (.inr (.inl rfl)), rfl⟩
theorem kD_has (x : Inst) : hasK (rowsI x) (kD x) = true := hasK_iff.2 ⟨_, rowsI_mem.2 (.inl rfl), rfl⟩
theorem kS_has (x : Inst) : hasK (rowsI x) (kS x) = true := hasK_iff.2 ⟨_, rowsI_mem.2 (.inr (.inr (.inr (.inl rfl)))), rowC_key _ _ _ _⟩
theorem kT_has {x : Inst} (h : x.due ≠ 0) : hasK (rowsI x) (kT x) = true := hasK_iff.2 ⟨_, rowsI_mem.2 (.inr (.inr (.inr (.inr ⟨h, rfl⟩)))), rfl⟩
theorem kO_has {x : Inst} (h : okI x = true) : hasK (rowsI x) (kO x) = x.out := by
  cases ho : x.out with
  | true => exact hasK_iff.2 ⟨_, rowsI_mem.2 (.inr (.inr (.inl ⟨ho, rfl⟩))), rfl⟩
  | false =>
    rw [hasK_no]
    intro c hc e
    unfold kO at e
    rw [row_one h (by decide)] at e
    rcases rowsI_mem.1 hc with rfl | rfl | ⟨h1, rfl⟩ | rfl | ⟨_, rfl⟩
    · rw [row_def h (by decide)] at e; simp at e
    · rw [row_num h (by decide) (okI_status h)] at e; simp at e
    · rw [ho] at h1; cases h1
    · rw [row_one h (by decide)] at e; simp at e
    · rw [row_num h (by decide) (okI_due h)] at e; simp at e
theorem rowsI_len (x : Inst) : (rowsI x).length = 3 + (if x.out then 1 else 0) + (if x.due = 0 then 0 else 1) := by
  unfold rowsI
  cases x.out <;> by_cases h : x.due = 0 <;> simp [h]
theorem key_ok {k : UInt8} {ps : List Part} (h0 : k ≠ 0) (hb : ∀ p ∈ ps, partBad p = false) (hl : ∀ p ∈ ps, p.text = true → p.s.length ≤ 80) (hs : (ps.flatMap partB).length ≤ 70) : (keyB (textP [k] :: ps)).1 = 0 := by rw [keyB_one h0 hb hl hs]
theorem key_one {x : Inst} (h : okI x = true) {k : UInt8} (h0 : k ≠ 0) : (keyB (textP [k] :: [textP x.id])).1 = 0 := by
  have hn := (okI_names h).1
  have hl := nameB_len hn
  exact key_ok h0 (by intro p hp; simp at hp; subst hp; exact bad_text _) (by intro p hp _; simp at hp; subst hp; simp [textP]; omega) (by simp [partB_name hn]; omega)
theorem key_num {x : Inst} (h : okI x = true) {k : UInt8} (h0 : k ≠ 0) {n : Int} (hn : 0 ≤ n ∧ n ≤ 9007199254740991) : (keyB (textP [k] :: [numP n, textP x.id])).1 = 0 := by
  have hn1 := (okI_names h).1
  have hl := nameB_len hn1
  exact key_ok h0 (by intro p hp; simp at hp; rcases hp with rfl | rfl; exact bad_num hn; exact bad_text _) (by intro p hp ht; simp at hp; rcases hp with rfl | rfl; cases ht; simp [textP]; omega) (by simp [partB_name hn1, partB_numP, beL_length]; omega)
theorem key_def {x : Inst} (h : okI x = true) {k : UInt8} (h0 : k ≠ 0) : (keyB (textP [k] :: [textP x.dfn, textP x.id])).1 = 0 := by
  have hn1 := (okI_names h).1
  have hn2 := (okI_names h).2
  have hl1 := nameB_len hn1
  have hl2 := nameB_len hn2
  exact key_ok h0 (by intro p hp; simp at hp; rcases hp with rfl | rfl <;> exact bad_text _) (by intro p hp _; simp at hp; rcases hp with rfl | rfl <;> (simp [textP]; omega)) (by simp [partB_name hn1, partB_name hn2]; omega)
theorem findI_has {l : List Chg} {k : Bs} (h : hasK l k = true) : 0 ≤ findI l k := by
  rcases findI_case l k with ⟨h1, _⟩ | ⟨j, c, _, _, _, h4⟩
  · rw [h] at h1; cases h1
  · rw [h4]; omega
theorem findI_neg {l : List Chg} {k : Bs} (h : hasK l k = false) : findI l k = -1 := findI_none h
theorem findI_ge (l : List Chg) (k : Bs) : decide (0 ≤ findI l k) = hasK l k := by
  cases h : hasK l k with
  | true => simpa using findI_has h
  | false => rw [findI_none h]; rfl
attribute [irreducible] kO kI kD kS kT
end Go.Proofs.YtaecafagmncmiaaDoor.Pu
