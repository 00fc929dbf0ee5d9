/-
  Words for rows of three cells: parts.
-/
import Derived.Test.YtaecafagmncmiaaDoorDn
import Derived.Test.YtaecafagmncmiaaDoorPu4
import Derived.Test.YtaecafagmncmiaaDoorShelf
namespace Go.Proofs.YtaecafagmncmiaaDoor
open Go.RowKit Pu

theorem flat_at {α : Type} (f : α → List Value) (k : Nat) (hk : ∀ x, (f x).length = k) : ∀ (l : List α) (j : Nat) (x : α), l[j]? = some x → ∀ i, i < k → (l.flatMap f)[j * k + i]? = (f x)[i]?
  | [], j, x, h, i, hi => by simp at h
  | y :: l, 0, x, h, i, hi => by
    simp only [List.getElem?_cons_zero, Option.some.injEq] at h
    subst h
    rw [List.flatMap_cons, Nat.zero_mul, Nat.zero_add, List.getElem?_append_left (by rw [hk]; exact hi)]
  | y :: l, j + 1, x, h, i, hi => by
    rw [List.flatMap_cons, List.getElem?_append_right (by rw [hk, Nat.succ_mul]; omega), hk, Nat.succ_mul, show j * k + k + i - k = j * k + i from by omega]
    exact flat_at f k hk l j x (by simpa using h) i hi
theorem flat_len {α : Type} (f : α → List Value) (k : Nat) (hk : ∀ x, (f x).length = k) (l : List α) : (l.flatMap f).length = l.length * k := by
  induction l with
  | nil => simp
  | cons y l ih => rw [List.flatMap_cons, List.length_append, hk, ih, List.length_cons, Nat.succ_mul]; omega
theorem Rd.three {α : Type} {w : World} {n : Nat} {A : Option Addr} {l : List α} (f : α → List Value) (hk : ∀ x, (f x).length = 3) (h : Rd w 3 A n (l.flatMap f)) {j : Nat} {x : α} (hx : l[j]? = some x) {u0 u1 u2 : Value} (hf : f x = [u0, u1, u2]) :
    ∃ b off, A = some ⟨b, off, none⟩ ∧ b < w.heap.size ∧ w.cell? ⟨b, off + j * 3, none⟩ = some u0 ∧ w.cell? ⟨b, off + j * 3 + 1, none⟩ = some u1 ∧ w.cell? ⟨b, off + j * 3 + 2, none⟩ = some u2 := by
  have hlt : j < n := by
    have h1 := flat_len f 3 hk l
    have h2 := h.1
    have h3 : j < l.length := (List.getElem?_eq_some_iff.1 hx).1
    omega
  obtain ⟨b, off, hA, hb, hc⟩ := h.at_ hlt
  have h0 := flat_at f 3 hk l j x hx 0 (by omega)
  have h1 := flat_at f 3 hk l j x hx 1 (by omega)
  have h2 := flat_at f 3 hk l j x hx 2 (by omega)
  rw [hf] at h0 h1 h2
  exact ⟨b, off, hA, hb, hc _ _ h0, hc _ _ h1, hc _ _ h2⟩

/-- a part's cells -/
def parC (p : Part) : List Value := [.bool p.text, .int .i64 p.n, .string (bs p.s)]
theorem parC_len (p : Part) : (parC p).length = 3 := rfl
theorem parC_one (p : Part) : ∀ u ∈ parC p, u.oneCell' = true := by
  intro u hu
  simp [parC] at hu
  rcases hu with rfl | rfl | rfl <;> rfl
theorem parCs_one (l : List Part) : ∀ u ∈ l.flatMap parC, u.oneCell' = true := by
  intro u hu
  obtain ⟨p, _, hp⟩ := List.mem_flatMap.1 hu
  exact parC_one p u hp
theorem tPart : ElT Tryd.prog 22 54 (.agg #[.bool false, .int .i64 0, .string ⟨#[]⟩]) 3 32 := ⟨Tryd.underlying22, by kernel_rfl, rfl, by decide⟩

/-- the library's one variable holds some number -/
def Glob (w : World) : Prop := ∃ m, w.cell? ⟨0, 0, none⟩ = some (.int .i64 m)
theorem Glob.below {w w' : World} (h : Glob w) (hb : Below w.heap.size w w') : Glob w' := by
  obtain ⟨m, hm⟩ := h
  exact ⟨m, (hb.cell (p := ⟨0, 0, none⟩) (World.block_lt_of_cell? w _ hm)).trans hm⟩

theorem replaceAll_any (s : Bs) (w : World) (hs : s.length ≤ 80) (hg : Glob w) :
    Calls Tryd.prog 64 #[.string (bs s), .string ⟨#[0]⟩, .string ⟨#[0, 255]⟩] w fun e w' => e = .returned (.string (bs (esc s))) ∧ Below w.heap.size w w' := by
  obtain ⟨m, hm⟩ := hg
  have hc : Lib.countB (bs s) ⟨#[0]⟩ ≤ 81 := by
    show Lib.count _ _ ≤ 81
    have := countFrom_le [0] ((bs s).data.toList.length + 1) (bs s).data.toList
    rw [bs_data] at this
    unfold Lib.count
    rw [bs_data]
    exact Nat.le_trans this (by omega)
  have h := Tryd.strings_ReplaceAll (bs s) ⟨#[0]⟩ ⟨#[0, 255]⟩ m w (by rw [bs_size]; omega) hm (by decide) (by
    rw [bs_size]
    have : (ByteArray.mk #[0, 255]).size = 2 := rfl
    rw [this]; omega)
  refine h.mono fun e w' ⟨h1, h2⟩ => ⟨?_, h2⟩
  rw [h1, bs_data]
  show Ending.returned (.string ⟨(Lib.replaceAll s [0] [0, 255]).toArray⟩) = _
  rw [replaceAll_esc]
  rfl
end Go.Proofs.YtaecafagmncmiaaDoor
