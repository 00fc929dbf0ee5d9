/-
  Plain laws: what makes rows other ones.
-/
import Derived.Test.YtaecafagmncmiaaDoorPu7
namespace Go.Proofs.YtaecafagmncmiaaDoor.Pu

def hasK (l : List Chg) (k : Bs) : Bool := l.any fun c => c.key == k
def valK (l : List Chg) (k : Bs) : Option Bs := (l.find? fun c => c.key == k).map (·.value)
/-- keys are apart -/
def apartK (l : List Chg) : Prop := l.Pairwise fun a b => a.key ≠ b.key
instance (l : List Chg) : Decidable (apartK l) := inferInstanceAs (Decidable (l.Pairwise fun a b => a.key ≠ b.key))
/-- may a list be one of Diff's? -/
def rowsB (l : List Chg) : Bool := decide (apartK l) && l.all fun c => !c.drop

theorem hasK_iff {l : List Chg} {k : Bs} : hasK l k = true ↔ ∃ c ∈ l, c.key = k := by simp [hasK]
theorem hasK_no {l : List Chg} {k : Bs} : hasK l k = false ↔ ∀ c ∈ l, c.key ≠ k := by simp [hasK]
theorem hasK_snoc (l : List Chg) (c : Chg) (k : Bs) : hasK (l ++ [c]) k = (hasK l k || c.key == k) := by simp [hasK]
theorem valK_snoc (l : List Chg) (c : Chg) (k : Bs) : valK (l ++ [c]) k = (valK l k).or (if c.key = k then some c.value else none) := by
  unfold valK
  rw [List.find?_append]
  cases h : List.find? (fun c => c.key == k) l with
  | some x => simp
  | none =>
    by_cases hk : c.key = k <;> simp [hk]
theorem valK_none {l : List Chg} {k : Bs} : valK l k = none ↔ hasK l k = false := by
  unfold valK hasK
  simp
theorem valK_some {l : List Chg} {k v : Bs} (h : valK l k = some v) : ∃ c ∈ l, c.key = k ∧ c.value = v := by
  unfold valK at h
  cases hf : l.find? (fun c => c.key == k) with
  | none => rw [hf] at h; cases h
  | some c =>
    rw [hf] at h
    simp only [Option.map_some, Option.some.injEq] at h
    have h1 := List.find?_some hf
    exact ⟨c, List.mem_of_find?_eq_some hf, by simpa using h1, h⟩
theorem valK_mem {l : List Chg} (hl : apartK l) {c : Chg} (hc : c ∈ l) : valK l c.key = some c.value := by
  unfold valK apartK at *
  induction l with
  | nil => cases hc
  | cons x r ih =>
    obtain ⟨h1, h2⟩ := List.pairwise_cons.1 hl
    rcases List.mem_cons.1 hc with e | hr
    · subst e; simp
    · have := h1 c hr
      rw [List.find?_cons_of_neg (by simpa using this)]
      exact ih h2 hr
theorem apartK_snoc {l : List Chg} {c : Chg} : apartK (l ++ [c]) ↔ apartK l ∧ hasK l c.key = false := by
  unfold apartK
  rw [List.pairwise_append, hasK_no]
  simp
theorem rowsB_snoc (l : List Chg) (c : Chg) : rowsB (l ++ [c]) = (rowsB l && !hasK l c.key && !c.drop) := by
  unfold rowsB
  rw [Bool.eq_iff_iff]
  simp only [Bool.and_eq_true, decide_eq_true_eq, apartK_snoc, List.all_append, Bool.not_eq_true', List.all_cons, List.all_nil, Bool.and_true]
  constructor
  · rintro ⟨⟨a, b⟩, c, d⟩; exact ⟨⟨⟨a, c⟩, b⟩, d⟩
  · rintro ⟨⟨⟨a, c⟩, b⟩, d⟩; exact ⟨⟨a, b⟩, c, d⟩
theorem rowsB_apart {l : List Chg} (h : rowsB l = true) : apartK l := by unfold rowsB at h; simp at h; exact h.1
theorem rowsB_drop {l : List Chg} (h : rowsB l = true) {c : Chg} (hc : c ∈ l) : c.drop = false := by unfold rowsB at h; simp at h; exact h.2 c hc
theorem rowsB_take {l : List Chg} {j : Nat} {c : Chg} (h : l[j]? = some c) : rowsB (l.take (j + 1)) = (rowsB (l.take j) && !hasK (l.take j) c.key && !c.drop) := by
  rw [List.take_add_one, h]
  exact rowsB_snoc _ _
theorem rowsB_pre {l r : List Chg} (h : rowsB (l ++ r) = true) : rowsB l = true := by
  unfold rowsB at *
  simp only [Bool.and_eq_true, decide_eq_true_eq, List.all_append] at h ⊢
  refine ⟨?_, h.2.1⟩
  have h1 := h.1
  unfold apartK at h1 ⊢
  exact (List.pairwise_append.1 h1).1
theorem rowsB_bad {l : List Chg} {j : Nat} {c : Chg} (h : l[j]? = some c) (hb : hasK (l.take j) c.key = true ∨ c.drop = true) : rowsB l = false := by
  cases h1 : rowsB l
  · rfl
  · have h2 : rowsB (l.take (j + 1)) = true := rowsB_pre (r := l.drop (j + 1)) (by rw [List.take_append_drop]; exact h1)
    rw [rowsB_take h] at h2
    rcases hb with hb | hb <;> simp [hb] at h2

/-- the rows that go, and those that come -/
def delP (now : List Chg) (c : Chg) : Bool := !hasK now c.key
def addP (old : List Chg) (c : Chg) : Bool := decide (valK old c.key ≠ some c.value)
def gone (c : Chg) : Chg := ⟨c.key, true, []⟩
def dels (old now : List Chg) : List Chg := (old.filter (delP now)).map gone
def adds (old now : List Chg) : List Chg := now.filter (addP old)
/-- a change stands where its key belongs -/
def putC (l : List Chg) (c : Chg) : List Chg := l.takeWhile (fun x => ltB x.key c.key) ++ c :: l.dropWhile (fun x => ltB x.key c.key)
def diffL (old now : List Chg) : List Chg := (dels old now ++ adds old now).foldl putC []
def diffB (old now : List Chg) : Nat × List Chg := if rowsB old = true ∧ rowsB now = true then (0, diffL old now) else (1, [])

theorem putC_perm (l : List Chg) (c : Chg) : (l ++ [c]).Perm (putC l c) := by
  unfold putC
  have h1 : (l ++ [c]).Perm (c :: l) := List.perm_append_comm
  refine h1.trans ?_
  have h2 : (l.takeWhile (fun x => ltB x.key c.key) ++ c :: l.dropWhile (fun x => ltB x.key c.key)).Perm (c :: (l.takeWhile (fun x => ltB x.key c.key) ++ l.dropWhile (fun x => ltB x.key c.key))) := List.perm_middle
  rw [List.takeWhile_append_dropWhile] at h2
  exact h2.symm
theorem putC_sorted {l : List Chg} {c : Chg} (hl : Sorted l) (hc : ∀ x ∈ l, x.key ≠ c.key) : Sorted (putC l c) := by
  unfold Sorted putC at *
  induction l with
  | nil => simp
  | cons x r ih =>
    obtain ⟨h1, h2⟩ := List.pairwise_cons.1 hl
    by_cases hx : ltB x.key c.key = true
    · rw [List.takeWhile_cons_of_pos (by simpa using hx), List.dropWhile_cons_of_pos (by simpa using hx), List.cons_append]
      refine List.pairwise_cons.2 ⟨fun y hy => ?_, ih h2 (fun y hy => hc y (by simp [hy]))⟩
      have hy2 : y ∈ r ++ [c] := (putC_perm r c).mem_iff.2 hy
      rcases List.mem_append.1 hy2 with h | h
      · exact h1 y h
      · simp at h; subst h; exact hx
    · have hx' : ltB x.key c.key = false := by simpa using hx
      rw [List.takeWhile_cons_of_neg (by simp [hx']), List.dropWhile_cons_of_neg (by simp [hx']), List.nil_append]
      have hcx : ltB c.key x.key = true := by
        cases h : ltB c.key x.key
        · exact absurd (ltB_total hx' h) (hc x (by simp))
        · rfl
      refine List.pairwise_cons.2 ⟨fun y hy => ?_, hl⟩
      rcases List.mem_cons.1 hy with e | hr
      · subst e; exact hcx
      · exact ltB_trans hcx (h1 y hr)
theorem putC_len (l : List Chg) (c : Chg) : (putC l c).length = l.length + 1 := by have := (putC_perm l c).length_eq; simpa using this.symm
theorem fold_putC : ∀ (xs acc : List Chg), Sorted acc → apartK (acc ++ xs) → Sorted (xs.foldl putC acc) ∧ (acc ++ xs).Perm (xs.foldl putC acc)
  | [], acc, h, _ => ⟨h, by simp⟩
  | x :: xs, acc, h, ha => by
    have hx : apartK (acc ++ [x]) := by
      have : acc ++ x :: xs = (acc ++ [x]) ++ xs := by simp
      rw [this] at ha
      unfold apartK at ha ⊢
      exact (List.pairwise_append.1 ha).1
    have hno := hasK_no.1 (apartK_snoc.1 hx).2
    have hperm := putC_perm acc x
    have hp2 : (acc ++ x :: xs).Perm (putC acc x ++ xs) := by
      have : acc ++ x :: xs = (acc ++ [x]) ++ xs := by simp
      rw [this]
      exact hperm.append_right xs
    have hap : apartK (putC acc x ++ xs) := by
      unfold apartK at ha ⊢
      exact (hp2.pairwise_iff (fun {_ _} hne => Ne.symm hne)).1 ha
    obtain ⟨h1, h2⟩ := fold_putC xs (putC acc x) (putC_sorted h hno) hap
    exact ⟨h1, hp2.trans h2⟩

theorem apart_diff {old now : List Chg} (h1 : apartK old) (h2 : apartK now) : apartK (dels old now ++ adds old now) := by
  unfold apartK dels adds at *
  refine List.pairwise_append.2 ⟨?_, h2.sublist List.filter_sublist, ?_⟩
  · rw [List.pairwise_map]
    exact h1.sublist List.filter_sublist
  · intro a ha b hb
    obtain ⟨c, hc, rfl⟩ := List.mem_map.1 ha
    have hp := (List.mem_filter.1 hc).2
    have hb2 := (List.mem_filter.1 hb).1
    unfold delP at hp
    simp only [Bool.not_eq_true'] at hp
    exact fun e => hasK_no.1 hp b hb2 e.symm
theorem diffL_sorted {old now : List Chg} (h1 : apartK old) (h2 : apartK now) : Sorted (diffL old now) := (fold_putC _ [] List.Pairwise.nil (by simpa using apart_diff h1 h2)).1
theorem diffL_perm {old now : List Chg} (h1 : apartK old) (h2 : apartK now) : (dels old now ++ adds old now).Perm (diffL old now) := by
  exact (fold_putC (dels old now ++ adds old now) [] List.Pairwise.nil (by simpa using apart_diff h1 h2)).2
theorem diffB_ok {old now : List Chg} (h1 : rowsB old = true) (h2 : rowsB now = true) : diffB old now = (0, diffL old now) := by unfold diffB; rw [if_pos ⟨h1, h2⟩]
theorem diffB_no {old now : List Chg} (h : rowsB old = false ∨ rowsB now = false) : diffB old now = (1, []) := by unfold diffB; rw [if_neg]; rintro ⟨a, b⟩; rcases h with h | h <;> simp_all

/-- what is made of the rows that were met -/
def partL (l : List Chg) (P : Chg → Bool) (f : Chg → Chg) (left : Bs → Bool) : List Chg := (l.filter fun c => !left c.key && P c).map f
theorem partL_step {P : Chg → Bool} {f : Chg → Chg} {left left' : Bs → Bool} {c : Chg} (hleft : left c.key = true) (h' : ∀ k, left' k = (left k && !(k == c.key))) :
    ∀ {l : List Chg}, apartK l → c ∈ l → (partL l P f left').Perm (partL l P f left ++ if P c then [f c] else []) := by
  intro l
  unfold partL apartK
  induction l with
  | nil => intro _ hc; cases hc
  | cons x r ih =>
    intro hl hc
    obtain ⟨h1, h2⟩ := List.pairwise_cons.1 hl
    by_cases hxc : x.key = c.key
    · have hxe : x = c := by
        rcases List.mem_cons.1 hc with e | hr
        · exact e.symm
        · exact absurd hxc (h1 c hr)
      subst hxe
      have hr : r.filter (fun c => !left' c.key && P c) = r.filter (fun c => !left c.key && P c) := by
        apply List.filter_congr
        intro y hy
        have hne : (y.key == x.key) = false := by simpa using fun e : y.key = x.key => h1 y hy e.symm
        rw [h' y.key, hne]
        simp
      rw [List.filter_cons, List.filter_cons, hr, hleft, h' x.key]
      cases hp : P x
      · simp
      · simp only [hleft, beq_self_eq_true, Bool.not_true, Bool.and_false, Bool.not_false, Bool.and_true, if_true, List.map_cons, Bool.false_eq_true, if_false]
        exact (List.perm_append_comm (l₁ := [f x]))
    · have hcr : c ∈ r := by
        rcases List.mem_cons.1 hc with e | hr
        · exact absurd (by rw [e]) hxc
        · exact hr
      have hne : (x.key == c.key) = false := by simpa using hxc
      rw [List.filter_cons, List.filter_cons, h' x.key, hne]
      simp only [Bool.not_false, Bool.and_true]
      cases h : (!left x.key && P x)
      · exact ih h2 hcr
      · simp only [if_true, List.map_cons, List.cons_append]
        exact (ih h2 hcr).cons _
theorem partL_none {l : List Chg} {P : Chg → Bool} {f : Chg → Chg} {left : Bs → Bool} (h : ∀ k, left k = false) : partL l P f left = (l.filter P).map f := by
  unfold partL
  congr 1
  apply List.filter_congr
  intro c _
  rw [h c.key]; rfl
theorem partL_all {l : List Chg} {P : Chg → Bool} {f : Chg → Chg} {left : Bs → Bool} (h : ∀ k, left k = hasK l k) : partL l P f left = [] := by
  unfold partL
  rw [List.map_eq_nil_iff, List.filter_eq_nil_iff]
  intro c hc
  have : hasK l c.key = true := hasK_iff.2 ⟨c, hc, rfl⟩
  rw [h c.key, this]; simp
theorem partL_len {l : List Chg} {P : Chg → Bool} {f : Chg → Chg} {left : Bs → Bool} : (partL l P f left).length ≤ l.length := by
  unfold partL
  rw [List.length_map]
  exact List.length_filter_le _ _
theorem dels_len (old now : List Chg) : (dels old now).length ≤ old.length := by unfold dels; rw [List.length_map]; exact List.length_filter_le _ _
theorem adds_len (old now : List Chg) : (adds old now).length ≤ now.length := List.length_filter_le _ _
theorem diffL_len {old now : List Chg} (h1 : apartK old) (h2 : apartK now) : (diffL old now).length ≤ old.length + now.length := by
  have h := (diffL_perm h1 h2).length_eq
  have := dels_len old now
  have := adds_len old now
  rw [List.length_append] at h
  omega
/-- where a key stands first; below 0: nowhere -/
def findI (l : List Chg) (k : Bs) : Int := match l.findIdx? (fun c => c.key == k) with | some i => (i : Int) | none => -1
theorem findI_none {l : List Chg} {k : Bs} (h : hasK l k = false) : findI l k = -1 := by
  unfold findI
  rw [List.findIdx?_eq_none_iff.2 (fun c hc => by simpa using hasK_no.1 h c hc)]
theorem findI_at {l : List Chg} {k : Bs} {j : Nat} {c : Chg} (hj : l[j]? = some c) (hk : c.key = k) (hn : hasK (l.take j) k = false) : findI l k = j := by
  unfold findI
  have : l.findIdx? (fun c => c.key == k) = some j := by
    rw [List.findIdx?_eq_some_iff_getElem]
    obtain ⟨hlt, he⟩ := List.getElem?_eq_some_iff.1 hj
    refine ⟨hlt, by rw [he]; simpa using hk, fun i hi => ?_⟩
    have := hasK_no.1 hn l[i] (by rw [List.mem_take_iff_getElem]; exact ⟨i, by omega, rfl⟩)
    simpa using this
  rw [this]
theorem findI_case (l : List Chg) (k : Bs) : (hasK l k = false ∧ findI l k = -1) ∨ ∃ j c, l[j]? = some c ∧ c.key = k ∧ hasK (l.take j) k = false ∧ findI l k = (j : Int) := by
  cases h : l.findIdx? (fun c => c.key == k) with
  | none =>
    left
    have h0 : hasK l k = false := by
      rw [hasK_no]
      intro c hc
      have := List.findIdx?_eq_none_iff.1 h c hc
      simpa using this
    exact ⟨h0, findI_none h0⟩
  | some j =>
    right
    obtain ⟨hlt, h1, h2⟩ := List.findIdx?_eq_some_iff_getElem.1 h
    refine ⟨j, l[j], List.getElem?_eq_getElem hlt, by simpa using h1, ?_, by unfold findI; rw [h]⟩
    rw [hasK_no]
    intro c hc
    obtain ⟨i, hi, rfl⟩ := List.mem_take_iff_getElem.1 hc
    have := h2 i (by omega)
    simpa using this
theorem hasK_take {l : List Chg} {k : Bs} (h : hasK l k = false) (j : Nat) : hasK (l.take j) k = false := hasK_no.2 fun c hc => hasK_no.1 h c (List.mem_of_mem_take hc)
theorem hasK_of_at {l : List Chg} {j : Nat} {c : Chg} (h : l[j]? = some c) : hasK l c.key = true := hasK_iff.2 ⟨c, List.mem_of_getElem? h, rfl⟩
theorem valK_first {l : List Chg} {k : Bs} {j : Nat} {c : Chg} (hj : l[j]? = some c) (hk : c.key = k) (hn : hasK (l.take j) k = false) : valK l k = some c.value := by
  unfold valK
  have h0 : l = l.take j ++ c :: l.drop (j + 1) := by rw [← drop_at hj, List.take_append_drop]
  rw [h0, List.find?_append]
  have : (l.take j).find? (fun c => c.key == k) = none := by
    rw [List.find?_eq_none]
    intro x hx
    simpa using hasK_no.1 hn x hx
  rw [this]
  simp [hk]
attribute [irreducible] hasK valK apartK rowsB delP addP dels adds putC diffL diffB partL findI
end Go.Proofs.YtaecafagmncmiaaDoor.Pu
