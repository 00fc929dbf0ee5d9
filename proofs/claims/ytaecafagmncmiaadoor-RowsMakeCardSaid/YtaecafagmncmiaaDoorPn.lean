/-
  Plain laws: what makes rows other ones does so.
-/
import Derived.Test.YtaecafagmncmiaaDoorPm
namespace Go.Proofs.YtaecafagmncmiaaDoor.Pu

/-- l makes rows those that are wanted -/
structure MadeOk (rows l want : List Chg) : Prop where
  keep : ∀ c ∈ rows, hasK l c.key = false → ∃ n : Nat, want[n]? = some c ∧ findI want c.key = n
  sorted : Sorted l
  drop : ∀ c ∈ l, c.drop = true → hasK want c.key = false ∧ hasK rows c.key = true
  put : ∀ c ∈ l, c.drop = false → ∃ n : Nat, want[n]? = some c ∧ findI want c.key = n
  count : (rows.filter fun c => !hasK l c.key).length + (l.filter fun c => !c.drop).length = want.length
theorem apart_one {l : List Chg} (h : apartK l) {c d : Chg} (hc : c ∈ l) (hd : d ∈ l) (e : c.key = d.key) : c = d := by
  unfold apartK at h
  induction l with
  | nil => cases hc
  | cons x r ih =>
    obtain ⟨h1, h2⟩ := List.pairwise_cons.1 h
    rcases List.mem_cons.1 hc with ec | hc'
    · rcases List.mem_cons.1 hd with ed | hd'
      · rw [ec, ed]
      · exact absurd (by rw [← ec]; exact e) (h1 d hd')
    · rcases List.mem_cons.1 hd with ed | hd'
      · exact absurd (by rw [← ed]; exact e.symm) (h1 c hc')
      · exact ih h2 hc' hd'
theorem find_one {l : List Chg} (h : apartK l) {c : Chg} (hc : c ∈ l) : ∃ n : Nat, l[n]? = some c ∧ findI l c.key = n := by
  rcases findI_case l c.key with ⟨h1, _⟩ | ⟨j, d, h1, h2, _, h4⟩
  · exact absurd rfl (hasK_no.1 h1 c hc)
  · have := apart_one h (List.mem_of_getElem? h1) hc h2
    subst this
    exact ⟨j, h1, h4⟩
theorem mem_dels {old now : List Chg} {c : Chg} : c ∈ dels old now ↔ ∃ o ∈ old, hasK now o.key = false ∧ c = gone o := by
  unfold dels
  rw [List.mem_map]
  constructor
  · rintro ⟨o, ho, rfl⟩
    obtain ⟨h1, h2⟩ := List.mem_filter.1 ho
    unfold delP at h2
    exact ⟨o, h1, by simpa using h2, rfl⟩
  · rintro ⟨o, h1, h2, rfl⟩
    exact ⟨o, List.mem_filter.2 ⟨h1, by unfold delP; simp [h2]⟩, rfl⟩
theorem mem_adds {old now : List Chg} {c : Chg} : c ∈ adds old now ↔ c ∈ now ∧ valK old c.key ≠ some c.value := by
  unfold adds
  rw [List.mem_filter]
  unfold addP
  simp
theorem mem_diff {old now : List Chg} (h1 : apartK old) (h2 : apartK now) {c : Chg} : c ∈ diffL old now ↔ c ∈ dels old now ∨ c ∈ adds old now := by
  rw [← (diffL_perm h1 h2).mem_iff, List.mem_append]
theorem chg_ext {c d : Chg} (h1 : c.key = d.key) (h2 : c.drop = d.drop) (h3 : c.value = d.value) : c = d := by
  obtain ⟨a, b, e⟩ := c
  obtain ⟨a', b', e'⟩ := d
  simp only at h1 h2 h3
  rw [h1, h2, h3]
/-- a row that is not touched is there before and behind -/
theorem same_iff {old now : List Chg} (h1 : rowsB old = true) (h2 : rowsB now = true) {c : Chg} : (c ∈ old ∧ hasK (diffL old now) c.key = false) ↔ (c ∈ now ∧ valK old c.key = some c.value) := by
  have a1 := rowsB_apart h1
  have a2 := rowsB_apart h2
  constructor
  · rintro ⟨hc, hk⟩
    have hv := valK_mem a1 hc
    refine ⟨?_, hv⟩
    have hn : hasK now c.key = true := by
      cases h : hasK now c.key
      · exact absurd rfl (hasK_no.1 hk (gone c) ((mem_diff a1 a2).2 (.inl (mem_dels.2 ⟨c, hc, h, rfl⟩))))
      · rfl
    obtain ⟨d, hd, hdk⟩ := hasK_iff.1 hn
    have hna : ¬ d ∈ adds old now := fun h => absurd hdk (hasK_no.1 hk d ((mem_diff a1 a2).2 (.inr h)))
    have hdv : valK old d.key = some d.value := Classical.byContradiction fun h => hna (mem_adds.2 ⟨hd, h⟩)
    rw [hdk, hv] at hdv
    have : d = c := chg_ext hdk (by rw [rowsB_drop h2 hd, rowsB_drop h1 hc]) (Option.some.inj hdv).symm
    rw [← this]; exact hd
  · rintro ⟨hc, hv⟩
    obtain ⟨o, ho, hk, hov⟩ := valK_some hv
    have hoc : o = c := chg_ext hk (by rw [rowsB_drop h1 ho, rowsB_drop h2 hc]) hov
    subst hoc
    refine ⟨ho, hasK_no.2 fun e he hek => ?_⟩
    rcases (mem_diff a1 a2).1 he with h | h
    · obtain ⟨p, _, hp2, rfl⟩ := mem_dels.1 h
      exact absurd (show o.key = p.key from hek.symm) (hasK_no.1 hp2 o hc)
    · obtain ⟨h3, h4⟩ := mem_adds.1 h
      have := apart_one a2 h3 hc hek
      subst this
      exact h4 hv
theorem nodup_apart {l : List Chg} (h : apartK l) : l.Nodup := by
  unfold apartK at h
  exact h.imp fun hne e => hne (by rw [e])
theorem filter_gone {l : List Chg} : (l.map gone).filter (fun c => !c.drop) = [] := by
  rw [List.filter_eq_nil_iff]
  intro c hc
  obtain ⟨d, _, rfl⟩ := List.mem_map.1 hc
  simp [gone]
theorem made_ok {old now : List Chg} (h1 : rowsB old = true) (h2 : rowsB now = true) : MadeOk old (diffL old now) now := by
  have a1 := rowsB_apart h1
  have a2 := rowsB_apart h2
  have drops : ∀ c ∈ dels old now, c.drop = true := fun c hc => by obtain ⟨o, _, _, rfl⟩ := mem_dels.1 hc; rfl
  have puts : ∀ c ∈ adds old now, c.drop = false := fun c hc => rowsB_drop h2 (mem_adds.1 hc).1
  refine ⟨fun c hc hk => find_one a2 ((same_iff h1 h2).1 ⟨hc, hk⟩).1, diffL_sorted a1 a2, fun c hc hd => ?_, fun c hc hd => ?_, ?_⟩
  · rcases (mem_diff a1 a2).1 hc with h | h
    · obtain ⟨o, ho, hn, rfl⟩ := mem_dels.1 h
      exact ⟨hn, hasK_iff.2 ⟨o, ho, rfl⟩⟩
    · rw [puts c h] at hd; cases hd
  · rcases (mem_diff a1 a2).1 hc with h | h
    · rw [drops c h] at hd; cases hd
    · exact find_one a2 (mem_adds.1 h).1
  · have e1 : ((diffL old now).filter fun c => !c.drop).length = (adds old now).length := by
      have hp := (diffL_perm a1 a2).filter (fun c => !c.drop)
      rw [← hp.length_eq, List.filter_append]
      have g1 : (dels old now).filter (fun c => !c.drop) = [] := by unfold dels; exact filter_gone
      have g2 : (adds old now).filter (fun c => !c.drop) = adds old now := by
        rw [List.filter_eq_self]
        intro c hc
        rw [puts c hc]; rfl
      rw [g1, g2]; rfl
    have e2 : (old.filter fun c => !hasK (diffL old now) c.key).Perm (now.filter fun c => !addP old c) := by
      refine (List.perm_ext_iff_of_nodup ((nodup_apart a1).filter _) ((nodup_apart a2).filter _)).2 fun c => ?_
      rw [List.mem_filter, List.mem_filter]
      have := same_iff h1 h2 (c := c)
      unfold addP
      simp only [Bool.not_eq_true', decide_eq_false_iff_not, ne_eq, Decidable.not_not]
      exact this
    rw [e1, e2.length_eq]
    unfold adds
    have : ∀ (p : Chg → Bool) (l : List Chg), (l.filter fun c => !p c).length + (l.filter p).length = l.length := by
      intro p l
      induction l with
      | nil => rfl
      | cons x r ih => cases h : p x <;> simp [h] <;> omega
    exact this _ _
/-- how many are left as they are; how many are put -/
def nKeep (rows l : List Chg) : Nat := (rows.filter fun c => !hasK l c.key).length
def nPut (l : List Chg) : Nat := (l.filter fun c => !c.drop).length
theorem nKeep_snoc {rows l : List Chg} {j : Nat} {x : Chg} (h : rows[j]? = some x) : nKeep (rows.take (j + 1)) l = nKeep (rows.take j) l + if hasK l x.key then 0 else 1 := by
  unfold nKeep
  rw [List.take_add_one, h, Option.toList_some, List.filter_append, List.length_append]
  cases hh : hasK l x.key <;> simp [hh]
theorem nPut_snoc {l : List Chg} {j : Nat} {x : Chg} (h : l[j]? = some x) : nPut (l.take (j + 1)) = nPut (l.take j) + if x.drop then 0 else 1 := by
  unfold nPut
  rw [List.take_add_one, h, Option.toList_some, List.filter_append, List.length_append]
  cases hh : x.drop <;> simp [hh]
theorem nKeep_le (rows l : List Chg) : nKeep rows l ≤ rows.length := List.length_filter_le _ _
theorem nPut_le (l : List Chg) : nPut l ≤ l.length := List.length_filter_le _ _
theorem made_count {rows l want : List Chg} (h : MadeOk rows l want) : nKeep rows l + nPut l = want.length := h.count
theorem sorted_at {l : List Chg} (h : Sorted l) {j : Nat} {x y : Chg} (hx : l[j]? = some x) (hy : l[j + 1]? = some y) : ltB x.key y.key = true := by
  unfold Sorted at h
  obtain ⟨h1, e1⟩ := List.getElem?_eq_some_iff.1 hx
  obtain ⟨h2, e2⟩ := List.getElem?_eq_some_iff.1 hy
  have := List.pairwise_iff_getElem.1 h j (j + 1) h1 h2 (by omega)
  rw [e1, e2] at this
  exact this
attribute [irreducible] nKeep nPut
end Go.Proofs.YtaecafagmncmiaaDoor.Pu
