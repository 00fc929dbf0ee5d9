/-
  Words for results that lie in memory, for arrays, and for the builtin copy of a string.
-/
import Derived.Test.YtaecafagmncmiaaDoorKy
import Derived.Test.YtaecafagmncmiaaDoorPu5
namespace Go.Proofs.YtaecafagmncmiaaDoor
open Go.RowKit Pu

section
variable {P : Program}
theorem results_ctt {fn : Func} {p t u : Tmp} {ty : TypeId} (h : fn.results = #[.cell p ty, .tmp t, .tmp u]) (tmps : Array Value) (w : World) (g : Nat) (t' : TypeId) (cs : Array Value) (fr : Nat × Nat) (d : TypeDesc)
    (hp : tmps.getD p undef = .pointer (some ⟨g, 0, none⟩)) (hg : w.heap[g]? = some (.cells cs t' fr))
    (hu : P.underlying ty = some d) (hd : (match d with | .struct _ | .array _ _ => true | _ => false) = true) (hi : (P.info? ty).map (·.size) = some cs.size) :
    (results fn tmps).run P w = .ok (.tuple #[.agg cs, tmps.getD t undef, tmps.getD u undef]) w := by
  have hp' : tmps[p]?.getD undef = .pointer (some ⟨g, 0, none⟩) := by simpa using hp
  simp [results, h, hp', asAddr, run_loadVar_row w g t' ty cs fr d hg hu hd hi]
theorem results_ct {fn : Func} {p t : Tmp} {ty : TypeId} (h : fn.results = #[.cell p ty, .tmp t]) (tmps : Array Value) (w : World) (g : Nat) (t' : TypeId) (cs : Array Value) (fr : Nat × Nat) (d : TypeDesc)
    (hp : tmps.getD p undef = .pointer (some ⟨g, 0, none⟩)) (hg : w.heap[g]? = some (.cells cs t' fr))
    (hu : P.underlying ty = some d) (hd : (match d with | .struct _ | .array _ _ => true | _ => false) = true) (hi : (P.info? ty).map (·.size) = some cs.size) :
    (results fn tmps).run P w = .ok (.tuple #[.agg cs, tmps.getD t undef]) w := by
  have hp' : tmps[p]?.getD undef = .pointer (some ⟨g, 0, none⟩) := by simpa using hp
  simp [results, h, hp', asAddr, run_loadVar_row w g t' ty cs fr d hg hu hd hi]

/-- an element of an array that is held as a value -/
theorem run_index_agg {t e : TypeId} {n : Nat} (ht : P.underlying t = some (.array n e)) (cs : Array Value) (w : World) (j : Nat) (v : Value) (hj : j < n) (hv : cs[j]? = some v) (he : (P.info? e).map (·.size) = some 1) (ha : (isAgg e).run P w = .ok false w) :
    (Instr.index t (.agg cs) (.int .i64 (j : Int))).run P w = .ok v w := by
  obtain ⟨i, hi, hs⟩ := Option.map_eq_some_iff.1 he
  have h1 : (0 : Int) ≤ (j : Int) ∧ (j : Int) < (n : Int) := by omega
  simp [Instr.index, asIntOf, run_underlying ht, h1, sizeOf, typeInfo, hi, hs, part, ha, hv]
  intro h
  omega
theorem setRow_alloc (w : World) (cs cs' : Array Value) (t : TypeId) : (w.alloc (.cells cs t)).setRow w.heap.size cs' = w.alloc (.cells cs' t) := by
  have h : ∀ f : Obj → Obj, (w.heap.push (.cells cs t)).modify w.heap.size f = w.heap.push (f (.cells cs t)) := by
    intro f
    apply Array.ext
    · simp
    · intro i h1 h2
      rw [Array.getElem_modify, Array.getElem_push, Array.getElem_push]
      by_cases hi : i = w.heap.size
      · subst hi; simp
      · have : i < w.heap.size := by simp at h1; omega
        simp [this, Ne.symm hi]
  unfold World.setRow World.alloc
  simp only [h]
/-- copy(x, s): a string's bytes over the head of a block -/
theorem run_copy_str {w : World} {t u ty e : TypeId} (ht : P.underlying t = some (.slice e)) (he : (P.info? e).map (·.size) = some 1) (g dLen dCap : Nat) (cur : Array Value) (tt : TypeId) (hg : w.heap[g]? = some (.cells cur tt (0, 0)))
    (s l : Bs) (hl : s.take (Nat.min s.length dLen) = l) (hfit : l.length ≤ cur.size) :
    (Builtin.copy_ #[t, u] ty #[.slice (some ⟨g, 0, none⟩) dLen dCap, .string (bs s)]).run P w = .ok (goInt (Nat.min s.length dLen)) (w.setRow g (u8s l ++ cur.toList.drop l.length).toArray) := by
  obtain ⟨i, hi, hs⟩ := Option.map_eq_some_iff.1 he
  have hst := run_storeCells_fr (P := P) g 0 tt (0, 0) (u8s l) 0 cur w hg (by rw [u8s_length]; omega) (u8s_one l) (by simp)
  have hx : ((bs s).data.toList.map fun b => Value.int .u8 (b.toNat : Int)).take (s.length.min dLen) = u8s l := by
    rw [bs_data, ← List.map_take, hl]; rfl
  simp only [Nat.add_zero, Nat.zero_add, u8s_length, List.take_zero, List.nil_append] at hst
  simp [Builtin.copy_, run_underlying ht, Builtin.lenOf, sizeOf, typeInfo, hi, Builtin.firstCells, bs_size, hx, hst]
end
theorem setCell_self {w : World} {g i : Nat} {cs : Array Value} {t : TypeId} {fr : Nat × Nat} {v : Value} (hg : w.heap[g]? = some (.cells cs t fr)) (hv : cs[i]? = some v) : w.setCell ⟨g, i, none⟩ v = w := by
  rw [setCell_eq_setRow w g i cs t fr v hg]
  have : cs.setIfInBounds i v = cs := by
    apply Array.ext_getElem?
    intro j
    rw [Array.getElem?_setIfInBounds]
    split
    · rename_i h
      subst h
      have := (Array.getElem?_eq_some_iff.1 hv).1
      rw [if_pos this, hv]
    · rfl
  rw [this]
  exact setRow_self w g cs t fr hg
end Go.Proofs.YtaecafagmncmiaaDoor
