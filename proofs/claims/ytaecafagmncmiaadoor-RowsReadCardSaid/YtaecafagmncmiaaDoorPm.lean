/-
  Plain laws: the chapter's examples; what makes rows other ones.
-/
import Derived.Test.YtaecafagmncmiaaDoorPl
namespace Go.Proofs.YtaecafagmncmiaaDoor.Pu

theorem diffL_nil {l : List Chg} (h : Sorted l) (ha : apartK l) : diffL [] l = l := by
  have h0 : apartK ([] : List Chg) := by unfold apartK; exact List.Pairwise.nil
  have h1 := diffL_perm h0 ha
  have h2 := diffL_sorted h0 ha
  have h3 : dels [] l ++ adds [] l = l := by
    unfold dels adds
    have : l.filter (addP []) = l := by
      rw [List.filter_eq_self]
      intro c _
      unfold addP valK
      simp
    rw [this]; rfl
  rw [h3] at h1
  have hns : l.Pairwise fun x y => ltB y.key x.key = false := h.imp fun hxy => ltB_asymm hxy
  exact (sorted_one hns h2 h1).symm
theorem sorted_apart {l : List Chg} (h : Sorted l) : apartK l := by
  unfold apartK
  refine h.imp fun hxy e => ?_
  rw [e, ltB_irrefl] at hxy
  cases hxy
theorem rowsB_sorted {l : List Chg} (h : Sorted l) (hd : ∀ c ∈ l, c.drop = false) : rowsB l = true := by
  unfold rowsB
  have := sorted_apart h
  simp only [Bool.and_eq_true, decide_eq_true_eq, List.all_eq_true, Bool.not_eq_true']
  exact ⟨this, hd⟩
theorem rowsB_rowsI {x : Inst} (h : okI x = true) : rowsB (rowsI x) = true := rowsB_sorted (rowsI_sorted h) fun _ hc => (rows_id h hc).2
theorem rowsB_nil : rowsB [] = true := by unfold rowsB apartK; simp
theorem diffB_nil {x : Inst} (h : okI x = true) : diffB [] (rowsI x) = (0, rowsI x) := by
  rw [diffB_ok rowsB_nil (rowsB_rowsI h), diffL_nil (rowsI_sorted h) (sorted_apart (rowsI_sorted h))]

/-- the chapter's instance -/
def exI : Inst := ⟨[97], [112], 3, 2, 0, 0, false⟩
theorem exI_ok : okI exI = true := by unfold okI nameB okC fieldsI badN outN exI; decide
theorem exI_rows : rowsI exI = [rowC 100 [textP [112], textP [97]] [], rowC 105 [numP 3, textP [97]] [], rowC 115 [textP [97]] (instB exI)] := by unfold rowsI exI; rfl
theorem instR_nil : instR [] = (3, noI) := by
  apply instR_head
  left
  unfold readNum
  simp

/-- of two lists of rows that are sorted nothing is to be done just if they are one -/
theorem diffL_none {a b : List Chg} (ha : Sorted a) (hb : Sorted b) (hda : ∀ c ∈ a, c.drop = false) (hdb : ∀ c ∈ b, c.drop = false) : diffL a b = [] ↔ a = b := by
  have hA := sorted_apart ha
  have hB := sorted_apart hb
  have hp := diffL_perm hA hB
  constructor
  · intro h
    rw [h] at hp
    have h0 : dels a b ++ adds a b = [] := hp.eq_nil
    rw [List.append_eq_nil_iff] at h0
    obtain ⟨h1, h2⟩ := h0
    unfold dels at h1
    unfold adds at h2
    rw [List.map_eq_nil_iff, List.filter_eq_nil_iff] at h1
    rw [List.filter_eq_nil_iff] at h2
    have hbin : ∀ c ∈ b, c ∈ a := by
      intro c hc
      have := h2 c hc
      unfold addP at this
      simp only [ne_eq, decide_not, Bool.not_eq_true', decide_eq_false_iff_not, Decidable.not_not] at this
      obtain ⟨d, hd, hk, hv⟩ := valK_some this
      have : d = c := by
        obtain ⟨dk, dd, dv⟩ := d
        obtain ⟨ck, cd, cv⟩ := c
        have e1 := hda _ hd
        have e2 := hdb _ hc
        simp only at hk hv e1 e2
        rw [hk, hv, e1, e2]
      rw [← this]; exact hd
    have hain : ∀ c ∈ a, c ∈ b := by
      intro c hc
      have := h1 c hc
      unfold delP at this
      simp only [Bool.not_eq_true', Bool.not_eq_false] at this
      obtain ⟨d, hd, hk⟩ := hasK_iff.1 this
      have hd2 := hbin d hd
      rwa [← keys_one a ha d c hd2 hc hk]
    have hnb : a.Pairwise fun x y => ltB y.key x.key = false := ha.imp fun hxy => ltB_asymm hxy
    have hnda : a.Nodup := ha.imp fun hxy e => by rw [e, ltB_irrefl] at hxy; cases hxy
    have hndb : b.Nodup := hb.imp fun hxy e => by rw [e, ltB_irrefl] at hxy; cases hxy
    refine sorted_one hnb hb ?_
    exact (List.perm_ext_iff_of_nodup hnda hndb).2 fun c => ⟨hain c, hbin c⟩
  · rintro rfl
    have h1 : dels a a = [] := by
      unfold dels
      rw [List.map_eq_nil_iff, List.filter_eq_nil_iff]
      intro c hc
      unfold delP
      rw [hasK_iff.2 ⟨c, hc, rfl⟩]; simp
    have h2 : adds a a = [] := by
      unfold adds
      rw [List.filter_eq_nil_iff]
      intro c hc
      unfold addP
      rw [valK_mem hA hc]; simp
    rw [h1, h2] at hp
    exact (hp.symm.eq_nil)
/-- an instance's rows tell it -/
theorem rowsI_inj {x y : Inst} (hx : okI x = true) (hy : okI y = true) (h : rowsI x = rowsI y) : x = y := by
  have h1 : rowC 115 [textP x.id] (instB x) ∈ rowsI y := by rw [← h]; exact rowsI_mem.2 (.inr (.inr (.inr (.inl rfl))))
  have hv : ∀ c ∈ rowsI y, c.value = [] ∨ c.value = instB y := by
    intro c hc
    rcases rowsI_mem.1 hc with rfl | rfl | ⟨_, rfl⟩ | rfl | ⟨_, rfl⟩
    · exact .inl (rowC_value _ _ _)
    · exact .inl (rowC_value _ _ _)
    · exact .inl (rowC_value _ _ _)
    · exact .inr (rowC_value _ _ _)
    · exact .inl (rowC_value _ _ _)
  have h2 := hv _ h1
  rw [rowC_value] at h2
  have h3 : instB x = instB y := by
    rcases h2 with h2 | h2
    · exact absurd h2 (instB_ne x)
    · exact h2
  have := instR_instB hx
  rw [h3, instR_instB hy] at this
  exact (congrArg Prod.snd this).symm
end Go.Proofs.YtaecafagmncmiaaDoor.Pu
