/-
  Plain laws: an instance's rows are sorted by their keys.
-/
import Derived.Test.YtaecafagmncmiaaDoorPu7
namespace Go.Proofs.YtaecafagmncmiaaDoor.Pu

theorem keyGo_all : ∀ (ps : List Part) (acc : Bs), (∀ p ∈ ps, p.text = true → p.s.length ≤ 80) → (acc ++ ps.flatMap partB).length ≤ 80 → keyGo acc ps = (0, acc ++ ps.flatMap partB) := by
  intro ps
  induction ps with
  | nil => intro acc _ _; unfold keyGo; simp
  | cons p ps ih =>
    intro acc h1 h2
    have h3 : (acc ++ partB p).length ≤ 80 := by simp at h2 ⊢; omega
    rw [keyGo, if_neg (fun h => by have := h1 p (by simp) h.1; omega), if_neg (by omega), ih _ (fun q hq => h1 q (by simp [hq])) (by simpa using h2)]
    simp
theorem esc_name {s : Bs} (h : nameB s = true) : esc s = s := by
  refine esc_none fun k hk => ?_
  have hall : s.all okC = true := by unfold nameB at h; simp only [Bool.and_eq_true] at h; exact h.1
  have := List.all_eq_true.1 hall 0 (List.mem_of_getElem? hk)
  have := okC_yes this
  simp at this
theorem partB_name {s : Bs} (h : nameB s = true) : partB (textP s) = 2 :: (s ++ [0, 0]) := by
  unfold partB textP; rw [if_pos rfl, esc_name h]
theorem partB_kind (k : UInt8) (h : k ≠ 0) : partB (textP [k]) = [2, k, 0, 0] := by
  unfold partB textP; rw [if_pos rfl, esc_cons, if_neg h, esc_none (by simp)]; rfl
theorem partB_numP (n : Int) : partB (numP n) = 1 :: beL 7 n.toNat := by unfold partB numP; rw [if_neg (by simp)]
theorem keyB_one {k : UInt8} {ps : List Part} (h0 : k ≠ 0) (hb : ∀ p ∈ ps, partBad p = false) (hl : ∀ p ∈ ps, p.text = true → p.s.length ≤ 80) (hs : (ps.flatMap partB).length ≤ 70) :
    keyB (textP [k] :: ps) = (0, 2 :: k :: 0 :: 0 :: ps.flatMap partB) := by
  have h1 : (textP [k] :: ps).any partBad = false := by
    rw [List.any_eq_false]
    intro p hp
    rcases List.mem_cons.1 hp with rfl | hp
    · unfold partBad textP; simp
    · simp [hb p hp]
  rw [keyB, if_neg (by simp [h1]), keyGo_all]
  · rw [List.flatMap_cons, partB_kind k h0]; simp
  · intro p hp ht
    rcases List.mem_cons.1 hp with rfl | hp
    · simp [textP]
    · exact hl p hp ht
  · rw [List.flatMap_cons, partB_kind k h0, List.nil_append, List.length_append]; simp only [List.length_cons, List.length_nil]; omega
theorem bad_text (s : Bs) : partBad (textP s) = false := by unfold partBad textP; simp
theorem bad_num {n : Int} (h : 0 ≤ n ∧ n ≤ 9007199254740991) : partBad (numP n) = false := by unfold partBad numP; simp; omega
theorem okI_status {x : Inst} (h : okI x = true) : 0 ≤ x.status ∧ x.status ≤ 9007199254740991 := okI_at h (j := 0) (by unfold fieldsI; rfl)
theorem okI_due {x : Inst} (h : okI x = true) : 0 ≤ x.due ∧ x.due ≤ 9007199254740991 := okI_at h (j := 3) (by unfold fieldsI; rfl)
/-- the keys of an instance's rows -/
theorem row_one {x : Inst} (h : okI x = true) {k : UInt8} (h0 : k ≠ 0) (v : Bs) : rowC k [textP x.id] v = ⟨2 :: k :: 0 :: 0 :: 2 :: (x.id ++ [0, 0]), false, v⟩ := by
  have hn := (okI_names h).1
  have hl := nameB_len hn
  unfold rowC
  rw [keyB_one h0 (by intro p hp; simp at hp; subst hp; exact bad_text _) (by intro p hp _; simp at hp; subst hp; simp [textP]; omega) (by simp [partB_name hn]; omega)]
  simp [partB_name hn]
theorem row_num {x : Inst} (h : okI x = true) {k : UInt8} (h0 : k ≠ 0) {n : Int} (hn : 0 ≤ n ∧ n ≤ 9007199254740991) (v : Bs) : rowC k [numP n, textP x.id] v = ⟨2 :: k :: 0 :: 0 :: 1 :: (beL 7 n.toNat ++ 2 :: (x.id ++ [0, 0])), false, v⟩ := by
  have hn1 := (okI_names h).1
  have hl := nameB_len hn1
  unfold rowC
  rw [keyB_one h0 (by intro p hp; simp at hp; rcases hp with rfl | rfl; exact bad_num hn; exact bad_text _) (by intro p hp ht; simp at hp; rcases hp with rfl | rfl; cases ht; simp [textP]; omega) (by simp [partB_name hn1, partB_numP, beL_length]; omega)]
  simp [partB_name hn1, partB_numP]
theorem row_def {x : Inst} (h : okI x = true) {k : UInt8} (h0 : k ≠ 0) (v : Bs) : rowC k [textP x.dfn, textP x.id] v = ⟨2 :: k :: 0 :: 0 :: 2 :: (x.dfn ++ 0 :: 0 :: 2 :: (x.id ++ [0, 0])), false, v⟩ := by
  have hn1 := (okI_names h).1
  have hn2 := (okI_names h).2
  have hl1 := nameB_len hn1
  have hl2 := nameB_len hn2
  unfold rowC
  rw [keyB_one h0 (by intro p hp; simp at hp; rcases hp with rfl | rfl <;> exact bad_text _) (by intro p hp _; simp at hp; rcases hp with rfl | rfl <;> (simp [textP]; omega)) (by simp [partB_name hn1, partB_name hn2]; omega)]
  simp [partB_name hn1, partB_name hn2]
theorem ltB_head {k m : UInt8} {a b : Bs} (h : k < m) : ltB (2 :: k :: a) (2 :: m :: b) = true := by
  unfold ltB
  simp [Lib.compareBytes, h]
theorem rowsI_sorted {x : Inst} (h : okI x = true) : Sorted (rowsI x) := by
  have hs := okI_status h
  have hd := okI_due h
  unfold rowsI
  rw [row_def h (by decide), row_num h (by decide) hs, row_one h (by decide), row_one h (by decide), row_num h (by decide) hd]
  cases x.out <;> by_cases h0 : x.due = 0 <;> simp [h0, Sorted, ltB_head] <;> refine ⟨?_, ?_⟩ <;> simp [ltB_head]
theorem made_perm (x : Inst) : (madeI x).Perm (rowsI x) := by
  unfold madeI rowsI
  generalize rowC 115 [textP x.id] (instB x) = S
  generalize rowC 105 [numP x.status, textP x.id] [] = I
  generalize rowC 100 [textP x.dfn, textP x.id] [] = D
  generalize (if x.out then [rowC 111 [textP x.id] []] else []) = O
  generalize (if x.due != 0 then [rowC 116 [numP x.due, textP x.id] []] else []) = T
  simp only [List.cons_append, List.nil_append, List.append_assoc]
  refine List.Perm.trans (l₂ := S :: D :: I :: (O ++ T)) ?_ ?_
  · exact List.Perm.cons _ (List.Perm.swap _ _ _)
  · have : (S :: D :: I :: (O ++ T)).Perm ((D :: I :: O) ++ S :: T) := (List.perm_middle (l₁ := D :: I :: O) (l₂ := T)).symm
    simpa using this
end Go.Proofs.YtaecafagmncmiaaDoor.Pu
