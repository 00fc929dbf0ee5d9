/-
  Plain laws: an instance of its value, an ID of its rows' keys.
-/
import Derived.Test.YtaecafagmncmiaaDoorPv
import Derived.Test.YtaecafagmncmiaaDoorPd
namespace Go.Proofs.YtaecafagmncmiaaDoor.Pu

theorem unesc_esc : ∀ (s acc r : Bs), unesc acc (esc s ++ 0 :: 0 :: r) = (0, acc ++ s, r) := by
  intro s
  induction s with
  | nil => intro acc r; have : esc [] = [] := by unfold esc; rfl
           rw [this, List.nil_append, unesc_stop, List.append_nil]
  | cons c s ih =>
    intro acc r
    rw [esc_cons]
    by_cases hc : c = 0
    · subst hc
      rw [if_pos rfl]
      show unesc acc (0 :: 255 :: (esc s ++ 0 :: 0 :: r)) = _
      rw [unesc_zero, ih]; simp
    · rw [if_neg hc]
      show unesc acc (c :: (esc s ++ 0 :: 0 :: r)) = _
      rw [unesc_char _ _ hc, ih]; simp
theorem partR_textP (s r : Bs) : partR (partB (textP s) ++ r) = (0, textP s, r) := by
  have h : partB (textP s) ++ r = 2 :: (esc s ++ 0 :: 0 :: r) := by unfold partB textP; rw [if_pos rfl]; simp
  rw [h, partR, if_neg (by decide), if_pos rfl, unesc_esc]
  simp [textP]
theorem partR_numP {n : Int} (h : 0 ≤ n ∧ n ≤ 9007199254740991) (r : Bs) : partR (partB (numP n) ++ r) = (0, numP n, r) := by
  rw [partB_numP, List.cons_append, partR, if_pos rfl]
  have h7 : (beL 7 n.toNat).length = 7 := beL_length 7 _
  have hn : n.toNat < 256 ^ 7 := by simp; omega
  rw [if_neg (by rw [List.length_append, h7]; omega), List.take_left' h7, List.drop_left' h7, beN_beL 7 _ hn, if_neg (by unfold maxN; omega)]
  have : ((n.toNat : Nat) : Int) = n := Int.toNat_of_nonneg h.1
  rw [this]; rfl
/-- a part as it is read -/
def Plain (p : Part) : Prop := (∃ s, p = textP s) ∨ ∃ n, p = numP n ∧ 0 ≤ n ∧ n ≤ 9007199254740991
theorem Plain.read {p : Part} (h : Plain p) (r : Bs) : partR (partB p ++ r) = (0, p, r) := by
  rcases h with ⟨s, rfl⟩ | ⟨n, rfl, h⟩
  · exact partR_textP s r
  · exact partR_numP h r
theorem partB_ne (p : Part) : partB p ≠ [] := by unfold partB; split <;> simp
theorem splitF_flat : ∀ (ps : List Part), (∀ p ∈ ps, Plain p) → ∀ (f : Nat) (acc : List Part), (ps.flatMap partB).length < f → splitF f acc (ps.flatMap partB) = (0, acc ++ ps) := by
  intro ps
  induction ps with
  | nil => intro _ f acc _; rw [List.flatMap_nil, splitF_nil, List.append_nil]
  | cons p ps ih =>
    intro hp f acc hf
    have h1 := (hp p (by simp)).read (ps.flatMap partB)
    rw [List.flatMap_cons] at hf ⊢
    have hl : 0 < (partB p).length := List.length_pos_iff.2 (partB_ne p)
    obtain ⟨f, rfl⟩ : ∃ g, f = g + 1 := ⟨f - 1, by omega⟩
    rw [splitF_go (by simp [partB_ne]) (by rw [h1]), h1, ih (fun q hq => hp q (by simp [hq])) f _ (by simp at hf ⊢; omega)]
    simp
theorem splitB_flat {ps : List Part} (h : ∀ p ∈ ps, Plain p) (hl : (ps.flatMap partB).length ≤ 80) : splitB (ps.flatMap partB) = (0, ps) := by
  rw [splitB, if_neg (by omega), splitF_flat ps h _ _ (by omega)]; rfl
/-- the ID of a row's key -/
theorem idR_key {k : UInt8} {ps : List Part} {id : Bs} (h0 : k ≠ 0) (hid : nameB id = true) (hp : ∀ p ∈ ps, Plain p) (hl : ((ps ++ [textP id]).flatMap partB).length ≤ 70) :
    idR (2 :: k :: 0 :: 0 :: (ps ++ [textP id]).flatMap partB) = (0, id) := by
  have he : 2 :: k :: 0 :: 0 :: (ps ++ [textP id]).flatMap partB = (textP [k] :: (ps ++ [textP id])).flatMap partB := by
    rw [List.flatMap_cons, partB_kind k h0]; rfl
  have hpl : ∀ p ∈ textP [k] :: (ps ++ [textP id]), Plain p := by
    intro p h
    rcases List.mem_cons.1 h with rfl | h
    · exact .inl ⟨_, rfl⟩
    · rcases List.mem_append.1 h with h | h
      · exact hp p h
      · simp at h; subst h; exact .inl ⟨_, rfl⟩
  have hsp := splitB_flat hpl (by rw [← he]; simp only [List.length_cons]; omega)
  rw [he, idR_ok (by rw [hsp]) (by rw [hsp]; simp), hsp]
  rw [idL_at (a := textP [k]) (b := textP id) (by simp) (by simp), if_pos ⟨rfl, rfl, hid⟩]
  rfl
theorem flat_one (id : Bs) : ([] ++ [textP id]).flatMap partB = partB (textP id) := by simp
theorem idR_one {x : Inst} (h : okI x = true) {k : UInt8} (h0 : k ≠ 0) (v : Bs) : idR (rowC k [textP x.id] v).key = (0, x.id) := by
  have hn := (okI_names h).1
  have hl := nameB_len hn
  rw [row_one h h0]
  have := idR_key (ps := []) h0 hn (by simp) (by simp [partB_name hn]; omega)
  simpa [partB_name hn] using this
theorem idR_num {x : Inst} (h : okI x = true) {k : UInt8} (h0 : k ≠ 0) {n : Int} (hb : 0 ≤ n ∧ n ≤ 9007199254740991) (v : Bs) : idR (rowC k [numP n, textP x.id] v).key = (0, x.id) := by
  have hn := (okI_names h).1
  have hl := nameB_len hn
  rw [row_num h h0 hb]
  have := idR_key (ps := [numP n]) h0 hn (by intro p hp; simp at hp; subst hp; exact .inr ⟨n, rfl, hb⟩) (by simp [partB_name hn, partB_numP, beL_length]; omega)
  simpa [partB_name hn, partB_numP] using this
theorem idR_def {x : Inst} (h : okI x = true) {k : UInt8} (h0 : k ≠ 0) (v : Bs) : idR (rowC k [textP x.dfn, textP x.id] v).key = (0, x.id) := by
  have hn := (okI_names h).1
  have hd := (okI_names h).2
  have hl := nameB_len hn
  have hl2 := nameB_len hd
  rw [row_def h h0]
  have := idR_key (ps := [textP x.dfn]) h0 hn (by intro p hp; simp at hp; subst hp; exact .inl ⟨_, rfl⟩) (by simp [partB_name hn, partB_name hd]; omega)
  simpa [partB_name hn, partB_name hd] using this
theorem rowC_drop (k : UInt8) (ps : List Part) (v : Bs) : (rowC k ps v).drop = false := by unfold rowC; rfl
theorem rowC_value (k : UInt8) (ps : List Part) (v : Bs) : (rowC k ps v).value = v := by unfold rowC; rfl
/-- each row: its kind, its value -/
theorem rowsI_mem {x : Inst} {c : Chg} : c ∈ rowsI x ↔ c = rowC 100 [textP x.dfn, textP x.id] [] ∨ c = rowC 105 [numP x.status, textP x.id] [] ∨ (x.out = true ∧ c = rowC 111 [textP x.id] []) ∨ c = rowC 115 [textP x.id] (instB x) ∨ (x.due ≠ 0 ∧ c = rowC 116 [numP x.due, textP x.id] []) := by
  unfold rowsI
  cases x.out <;> by_cases h0 : x.due = 0 <;> simp [h0]
theorem rows_id {x : Inst} (h : okI x = true) {c : Chg} (hc : c ∈ rowsI x) : idR c.key = (0, x.id) ∧ c.drop = false := by
  rcases rowsI_mem.1 hc with rfl | rfl | ⟨_, rfl⟩ | rfl | ⟨_, rfl⟩
  · exact ⟨idR_def h (by decide) _, rowC_drop _ _ _⟩
  · exact ⟨idR_num h (by decide) (okI_status h) _, rowC_drop _ _ _⟩
  · exact ⟨idR_one h (by decide) _, rowC_drop _ _ _⟩
  · exact ⟨idR_one h (by decide) _, rowC_drop _ _ _⟩
  · exact ⟨idR_num h (by decide) (okI_due h) _, rowC_drop _ _ _⟩

/-! ### an instance's value -/
theorem num_ne (n : Nat) : num n ≠ [] := by intro h; have := congrArg List.length h; rw [num_length] at this; simp at this
theorem instB_flat (x : Inst) : instB x = num 2 ++ (textB x.id ++ (textB x.dfn ++ (num x.status.toNat ++ (num x.at_.toNat ++ (num x.tries.toNat ++ (num x.due.toNat ++ (num (outN x.out).toNat ++ []))))))) := by
  unfold instB instTo rowB
  have : fieldsI x = [x.status, x.at_, x.tries, x.due, outN x.out] := by unfold fieldsI; rfl
  rw [this]
  simp
theorem instB_ne (x : Inst) : instB x ≠ [] := by rw [instB_flat]; simp [num_ne]
theorem okI_field {x : Inst} (h : okI x = true) : (0 ≤ x.status ∧ x.status ≤ 9007199254740991) ∧ (0 ≤ x.at_ ∧ x.at_ ≤ 9007199254740991) ∧ (0 ≤ x.tries ∧ x.tries ≤ 9007199254740991) ∧ (0 ≤ x.due ∧ x.due ≤ 9007199254740991) := by
  have hf : fieldsI x = [x.status, x.at_, x.tries, x.due, outN x.out] := by unfold fieldsI; rfl
  exact ⟨okI_at h (j := 0) (by rw [hf]; rfl), okI_at h (j := 1) (by rw [hf]; rfl), okI_at h (j := 2) (by rw [hf]; rfl), okI_at h (j := 3) (by rw [hf]; rfl)⟩
theorem instR_instB {x : Inst} (h : okI x = true) : instR (instB x) = (0, x) := by
  obtain ⟨⟨s0, s1⟩, ⟨a0, a1⟩, ⟨t0, t1⟩, ⟨d0, d1⟩⟩ := okI_field h
  have hn1 := nameB_len (okI_names h).1
  have hn2 := nameB_len (okI_names h).2
  obtain ⟨id, dfn, st, at_, tr, du, out⟩ := x
  simp only at s0 s1 a0 a1 t0 t1 d0 d1 hn1 hn2
  obtain ⟨st, rfl⟩ := Int.eq_ofNat_of_zero_le s0
  obtain ⟨at_, rfl⟩ := Int.eq_ofNat_of_zero_le a0
  obtain ⟨tr, rfl⟩ := Int.eq_ofNat_of_zero_le t0
  obtain ⟨du, rfl⟩ := Int.eq_ofNat_of_zero_le d0
  have hb := instB_flat ⟨id, dfn, st, at_, tr, du, out⟩
  simp only [Int.toNat_natCast] at hb
  generalize hv : instB ⟨id, dfn, st, at_, tr, du, out⟩ = v at hb ⊢
  have ho : (outN out).toNat ≤ maxN := by cases out <;> simp [outN, maxN]
  have e0 := readNum_num (n := 2) (by unfold maxN; omega) (textB id ++ (textB dfn ++ (num st ++ (num at_ ++ (num tr ++ (num du ++ (num (outN out).toNat ++ [])))))))
  have e1 := readText_text (s := id) (by unfold maxT; omega) (textB dfn ++ (num st ++ (num at_ ++ (num tr ++ (num du ++ (num (outN out).toNat ++ []))))))
  have e2 := readText_text (s := dfn) (by unfold maxT; omega) (num st ++ (num at_ ++ (num tr ++ (num du ++ (num (outN out).toNat ++ [])))))
  have e3 := readNum_num (n := st) (by unfold maxN; omega) (num at_ ++ (num tr ++ (num du ++ (num (outN out).toNat ++ []))))
  have e4 := readNum_num (n := at_) (by unfold maxN; omega) (num tr ++ (num du ++ (num (outN out).toNat ++ [])))
  have e5 := readNum_num (n := tr) (by unfold maxN; omega) (num du ++ (num (outN out).toNat ++ []))
  have e6 := readNum_num (n := du) (by unfold maxN; omega) (num (outN out).toNat ++ [])
  have e7 := readNum_num ho []
  rw [← hb] at e0
  generalize hq1 : textB id ++ (textB dfn ++ (num st ++ (num at_ ++ (num tr ++ (num du ++ (num (outN out).toNat ++ [])))))) = q1 at e0 e1
  generalize hq2 : textB dfn ++ (num st ++ (num at_ ++ (num tr ++ (num du ++ (num (outN out).toNat ++ []))))) = q2 at e1 e2
  generalize hq3 : num st ++ (num at_ ++ (num tr ++ (num du ++ (num (outN out).toNat ++ [])))) = q3 at e2 e3
  generalize hq4 : num at_ ++ (num tr ++ (num du ++ (num (outN out).toNat ++ []))) = q4 at e3 e4
  generalize hq5 : num tr ++ (num du ++ (num (outN out).toNat ++ [])) = q5 at e4 e5
  generalize hq6 : num du ++ (num (outN out).toNat ++ []) = q6 at e5 e6
  generalize hq7 : num (outN out).toNat ++ [] = q7 at e6 e7
  clear hq1 hq2 hq3 hq4 hq5 hq6 hq7
  have r0 : restT q1 0 = q1 := by unfold restT; rfl
  have r1 : restT q1 1 = q2 := by rw [restT, r0, e1]
  have r2 : restT q1 2 = q3 := by rw [restT, r1, e2]
  have n0 : restN q3 0 = q3 := by unfold restN; rfl
  have n1 : restN q3 1 = q4 := by rw [restN, n0, e3]
  have n2 : restN q3 2 = q5 := by rw [restN, n1, e4]
  have n3 : restN q3 3 = q6 := by rw [restN, n2, e5]
  have n4 : restN q3 4 = q7 := by rw [restN, n3, e6]
  have hT : okT q1 2 := okT_succ (okT_succ (okT_zero q1) (by rw [r0, e1])) (by rw [r1, e2])
  have hN : okN q3 5 := okN_succ (okN_succ (okN_succ (okN_succ (okN_succ (okN_zero q3) (by rw [n0, e3])) (by rw [n1, e4])) (by rw [n2, e5])) (by rw [n3, e6])) (by rw [n4, e7])
  have hx : instN (txt q1 0) (txt q1 1) q3 = ⟨id, dfn, st, at_, tr, du, out⟩ := by
    unfold instN txt nm
    rw [r0, r1, n0, n1, n2, n3, n4, e1, e2, e3, e4, e5, e6, e7]
    cases out <;> simp [outN]
  have hR1 : (readNum v).1 = 0 := by rw [e0]
  have hR2 : (readNum v).2.1 = 2 := by rw [e0]
  have hR3 : (readNum v).2.2 = q1 := by rw [e0]
  rw [instR_end hR1 hR2 (by rw [hR3]; exact hT) (by rw [hR3, r2]; exact hN), hR3, r2, hx, if_pos ⟨h, hv⟩]
/-- what an instance is read of is its value -/
theorem instB_instR {v : Bs} {x : Inst} (h : instR v = (0, x)) : okI x = true ∧ instB x = v := by
  unfold instR at h
  split at h
  · cases h
  · split at h
    · cases h
    · split at h
      · cases h
      · simp only at h
        split at h
        · rename_i h1
          cases h; exact h1
        · cases h
theorem instR_err (v : Bs) : (instR v).1 = 0 ∨ instR v = (3, noI) := by
  unfold instR
  split
  · exact .inr rfl
  · split
    · exact .inr rfl
    · split
      · exact .inr rfl
      · simp only
        split
        · exact .inl rfl
        · exact .inr rfl
end Go.Proofs.YtaecafagmncmiaaDoor.Pu
