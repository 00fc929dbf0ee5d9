/-
  A world for the witnesses of the laws' rows.
-/
import Derived.Test.YtaecafagmncmiaaDoorRows
import Derived.Test.YtaecafagmncmiaaDoorLw
namespace Go.Proofs.YtaecafagmncmiaaDoor
open Go.RowKit Go.ChangeShapes Go.WideShapes Go.ChangeAt Go.Deep Go.Joins Pu

/-- a block's cells are these -/
def cellsBe (cs : Array Value) : Obj → Obj
  | .cells _ t frozen => .cells cs t frozen
  | o => o
/-- the listed tables hold what the program's text lays -/
noncomputable def laidW (os : Os) (args : Array Value) : World :=
  { World.holding Tryd.prog os ⟨#[], args, []⟩ with
    heap := ((World.holding Tryd.prog os ⟨#[], args, []⟩).heap.modify 1 (cellsBe (Go.Pinned.utf8FirstZ.map fun n : Nat => Value.int .u8 (n : Int)).toArray)).modify 2
      (cellsBe (([128, 191, 160, 191, 128, 159, 144, 191, 128, 143, 0, 0, 0, 0, 0, 0, 0, 0, 0, 0, 0, 0, 0, 0, 0, 0, 0, 0, 0, 0, 0, 0] : List Nat).map fun n : Nat => Value.int .u8 (n : Int)).toArray) }
set_option maxRecDepth 100000 in
theorem open_str {H : Type} {enc : TypeId × Value → H} {w : World} {base : Nat} {sp : Nat → Bool} {held : Bool} {r : Reach} {b0 : Nat} {v : Value} {d : DataW H} {p : List MemPlace} (hv : Value.okWide Tryd.prog w r b0 9 v) (h : DataW.Trod enc Tryd.prog w base sp held 9 v d p) :
    ∃ s : Bs, v = .string (bs s) ∧ s.length ≤ 9223372036854775807 := by
  obtain ⟨s, rfl⟩ := okWide_string Tryd.underlying9 hv
  obtain ⟨fuel, hf⟩ := h
  obtain ⟨s', h, hx, hs⟩ := DataW.trod_string Tryd.underlying9 hf
  simp [Value.cells] at h
  subst h
  exact ⟨s.toList, by rw [← eq_bs], by rw [toList_size]; unfold maxLen at hs; exact hs⟩
end Go.Proofs.YtaecafagmncmiaaDoor
