/-
  Plain laws: the order of texts; lists that are sorted by their keys.
-/
import Derived.Lib.Bytealg
import Derived.Sort.LotA
import Derived.Test.YtaecafagmncmiaaDoorPu6
namespace Go.Proofs.YtaecafagmncmiaaDoor.Pu
open Go.Sort

theorem cmp_swap : ∀ a b : Bs, Lib.compareBytes b a = - Lib.compareBytes a b := by
  intro a
  induction a with
  | nil => intro b; cases b <;> simp [Lib.compareBytes]
  | cons x a ih =>
    intro b
    cases b with
    | nil => simp [Lib.compareBytes]
    | cons y b =>
      simp only [Lib.compareBytes]
      by_cases h1 : x < y
      · have h2 : ¬ y < x := fun h => by have := UInt8.lt_iff_toNat_lt.1 h; have := UInt8.lt_iff_toNat_lt.1 h1; omega
        simp [h1, h2]
      · by_cases h2 : y < x
        · simp [h1, h2]
        · simp [h1, h2, ih]
theorem cmp_zero : ∀ a b : Bs, Lib.compareBytes a b = 0 ↔ a = b := by
  intro a
  induction a with
  | nil => intro b; cases b <;> simp [Lib.compareBytes]
  | cons x a ih =>
    intro b
    cases b with
    | nil => simp [Lib.compareBytes]
    | cons y b =>
      simp only [Lib.compareBytes]
      by_cases h1 : x < y
      · have h2 : x ≠ y := fun h => by have := UInt8.lt_iff_toNat_lt.1 h1; rw [h] at this; omega
        simp [h1, h2]
      · by_cases h2 : y < x
        · have h3 : x ≠ y := fun h => by have := UInt8.lt_iff_toNat_lt.1 h2; rw [h] at this; omega
          simp [h1, h2, h3]
        · have h3 : x = y := UInt8.toNat.inj (by have a1 := Nat.not_lt.1 fun h => h1 (UInt8.lt_iff_toNat_lt.2 h); have a2 := Nat.not_lt.1 fun h => h2 (UInt8.lt_iff_toNat_lt.2 h); omega)
          simp [h3, ih]
theorem cmp_trans : ∀ a b c : Bs, Lib.compareBytes a b < 0 → Lib.compareBytes b c < 0 → Lib.compareBytes a c < 0 := by
  intro a
  induction a with
  | nil =>
    intro b c h1 h2
    cases c with
    | nil => cases b <;> simp [Lib.compareBytes] at h1 h2
    | cons z c => simp [Lib.compareBytes]
  | cons x a ih =>
    intro b c h1 h2
    cases b with
    | nil => simp [Lib.compareBytes] at h1
    | cons y b =>
      cases c with
      | nil => simp [Lib.compareBytes] at h2
      | cons z c =>
        simp only [Lib.compareBytes, UInt8.lt_iff_toNat_lt] at *
        by_cases h3 : x.toNat < y.toNat
        · by_cases h4 : y.toNat < z.toNat
          · rw [if_pos (by omega)]; omega
          · by_cases h5 : z.toNat < y.toNat
            · simp [h4, h5] at h2
            · rw [if_pos (by omega)]; omega
        · by_cases h6 : y.toNat < x.toNat
          · simp [h3, h6] at h1
          · by_cases h4 : y.toNat < z.toNat
            · rw [if_pos (by omega)]; omega
            · by_cases h5 : z.toNat < y.toNat
              · simp [h4, h5] at h2
              · rw [if_neg h3, if_neg h6] at h1
                rw [if_neg h4, if_neg h5] at h2
                rw [if_neg (by omega), if_neg (by omega)]
                exact ih b c h1 h2
def ltB (a b : Bs) : Bool := decide (Lib.compareBytes a b < 0)
theorem ltB_irrefl (a : Bs) : ltB a a = false := by unfold ltB; rw [(cmp_zero a a).2 rfl]; decide
theorem ltB_trans {a b c : Bs} (h1 : ltB a b = true) (h2 : ltB b c = true) : ltB a c = true := by
  unfold ltB at *
  simp only [decide_eq_true_eq] at *
  exact cmp_trans a b c h1 h2
theorem ltB_total {a b : Bs} (h1 : ltB a b = false) (h2 : ltB b a = false) : a = b := by
  unfold ltB at *
  simp only [decide_eq_false_iff_not] at *
  have := cmp_swap a b
  exact (cmp_zero a b).1 (by omega)
theorem ltB_asymm {a b : Bs} (h1 : ltB a b = true) : ltB b a = false := by
  unfold ltB at *
  simp only [decide_eq_true_eq, decide_eq_false_iff_not] at *
  have := cmp_swap a b
  omega
theorem ltB_ntrans {a b c : Bs} (h1 : ltB a b = false) (h2 : ltB b c = false) : ltB a c = false := by
  cases hac : ltB a c with
  | false => rfl
  | true =>
    cases hba : ltB b a with
    | true => have := ltB_trans hba hac; rw [h2] at this; cases this
    | false =>
      have := ltB_total h1 hba
      subst this
      rw [h2] at hac; cases hac
def cmpC (x y : Chg) : Int := Lib.compareBytes x.key y.key
def Sorted (l : List Chg) : Prop := l.Pairwise fun x y => ltB x.key y.key = true
theorem keys_one : ∀ (r : List Chg), Sorted r → ∀ a b, a ∈ r → b ∈ r → a.key = b.key → a = b := by
  intro r
  induction r with
  | nil => intro _ a b ha; cases ha
  | cons c r ih =>
    intro hs a b ha hb hk
    obtain ⟨h1, h2⟩ := List.pairwise_cons.1 hs
    rcases List.mem_cons.1 ha with ea | ha2
    · rcases List.mem_cons.1 hb with eb | hb2
      · rw [ea, eb]
      · have := h1 b hb2; rw [← ea, hk, ltB_irrefl] at this; cases this
    · rcases List.mem_cons.1 hb with eb | hb2
      · have := h1 a ha2; rw [← eb, hk, ltB_irrefl] at this; cases this
      · exact ih h2 a b ha2 hb2 hk
/-- lists that are sorted by their keys, and have the same elements, are one -/
theorem sorted_one {l r : List Chg} (hl : l.Pairwise fun x y => ltB y.key x.key = false) (hr : Sorted r) (hp : l.Perm r) : l = r := by
  refine List.Perm.eq_of_pairwise (le := fun x y => ltB y.key x.key = false) ?_ hl (hr.imp fun h => ltB_asymm h) hp
  intro a b ha hb h1 h2
  exact keys_one r hr a b (hp.subset ha) hb (ltB_total h2 h1)
theorem swoC : SWO (fun x y : Chg => ltB x.key y.key) where
  irrefl _ := ltB_irrefl _
  trans _ _ _ h1 h2 := ltB_trans h1 h2
  ntrans _ _ _ h1 h2 := ltB_ntrans h1 h2
instance : Inhabited Chg := ⟨⟨[], false, []⟩⟩
/-- what a sort leaves -/
theorem sort_one {d d' : Array Chg} {r : List Chg} (hp : PermIn 0 d.size d d') (hs : SortedIn (fun x y : Chg => ltB x.key y.key) 0 d.size d') (hr : Sorted r) (hrp : d.toList.Perm r) : d'.toList = r := by
  obtain ⟨hz, _, hpp⟩ := hp
  have h1 : d'.toList.Perm d.toList := by
    rw [← hz] at hpp
    have e1 : d'.extract 0 d'.size = d' := by simp
    have e2 : d.extract 0 d'.size = d := by rw [hz]; simp
    rwa [e1, e2] at hpp
  refine sorted_one ?_ hr (h1.trans hrp)
  rw [List.pairwise_iff_getElem]
  intro i j hi hj hij
  have := hs i j (Nat.zero_le _) hij (by rw [← hz]; simpa using hj)
  simp at hi hj
  rw [getElem!_pos d' i hi, getElem!_pos d' j hj] at this
  simpa using this
attribute [irreducible] ltB
end Go.Proofs.YtaecafagmncmiaaDoor.Pu
