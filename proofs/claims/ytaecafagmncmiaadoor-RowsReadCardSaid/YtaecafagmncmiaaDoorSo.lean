/-
  The walk of rows.sorted.
-/
import Derived.Test.YtaecafagmncmiaaDoorRo
import Derived.Test.YtaecafagmncmiaaDoorPu7
import Derived.Test.YtaecafagmncmiaaDoorSf
import Derived.Shelf.SlSortCmp.NoneTotal
namespace Go.Proofs.YtaecafagmncmiaaDoor
open Go.RowKit Pu Go.Sort

theorem ltOf_cmp : ltOf cmpC = fun x y : Chg => ltB x.key y.key := by funext x y; unfold ltOf cmpC ltB; rfl

set_option maxRecDepth 100000 in
set_option maxHeartbeats 1000000 in
theorem sortcmp_any (x y : Chg) (W : World) : Calls Tryd.prog 67 #[.agg #[.string (bs x.key), .bool x.drop, .string (bs x.value)], .agg #[.string (bs y.key), .bool y.drop, .string (bs y.value)]] W fun e w' => e = .returned (.int .i64 (cmpC x y)) ∧ ∃ q os', w' = grow (W.drewN q) os' := by
  have hcon := fun W' => Tryd.strings_Compare (bs x.key) (bs y.key) W'
  rw [bs_data, bs_data] at hcon
  have hc : cmpC x y = Lib.compareBytes x.key y.key := rfl
  rw [hc]
  generalize Lib.compareBytes x.key y.key = r at hcon ⊢
  clear hc
  have HCON := Lib.hid hcon
  clear hcon
  go_enter Tryd.func67, Tryd.ntmps67
  go_wp2_with (go_at_call 68; refine (HCON.out _).mono ?_; rintro e w' ⟨rfl, rfl⟩)
  go_ret
  exact ⟨rfl, 0, _, by rw [alloc_eq_grow, alloc_eq_grow, grow_grow]; rfl⟩

theorem flatK_at (l : List Chg) (t : Nat) (h : t < l.length * 3) : (l.flatMap chgC)[t]? = some ((flatK chgC 3 l.toArray)[t]!) := by
  rw [get_flatK chgC 3 l.toArray t (by simpa using h)]
  have hlt : t / 3 < l.length := by omega
  have h1 := flat_at chgC 3 chgC_len l (t / 3) l[t / 3] (List.getElem?_eq_getElem hlt) (t % 3) (by omega)
  rw [show t / 3 * 3 + t % 3 = t from by omega] at h1
  rw [h1]
  have h2 : l.toArray[t / 3]! = l[t / 3] := by rw [getElem!_pos _ _ (by simpa using hlt)]; simp
  rw [h2, getElem!_pos _ _ (by rw [chgC_len]; omega)]
  exact List.getElem?_eq_getElem _

/-- the row of an own slice, as the sort wants it -/
theorem Ow.holds {w : World} {base n : Nat} {t : TypeId} {v : Value} {l : List Chg} (h : Ow w base t 3 v n (l.flatMap chgC)) (hn : l.length = n) (h0 : 0 < n) :
    ∃ g off cap, v = .slice (some ⟨g, off, none⟩) n cap ∧ base ≤ g ∧ g < w.heap.size ∧ HoldsK chgC 3 w g off l.toArray := by
  rcases h.2 with ⟨_, h1⟩ | ⟨g, off, cap, cur, fr, hv, hg, hh, hfr, hnc, hm, hsz, hc⟩
  · omega
  · refine ⟨g, off, cap, hv, hg, (Array.getElem?_eq_some_iff.1 hh).1, fun j hj => ?_⟩
    rw [size_flatK] at hj
    simp at hj
    refine ⟨?_, ?_⟩
    · rw [cell_of_row w g _ _ _ _ hh]
      exact hc j _ (flatK_at l j hj)
    · have hf := hfr (off + j) (by omega) (by omega)
      simp [World.frozen?, hh]
      intro h1
      omega

theorem heap_sortK (w : World) (g off m : Nat) (d : Array Chg) (os : Array Obj) (k : Nat) (hk : k < w.heap.size) :
    (sortWorldK chgC 3 w g off m d os).heap[k]? = if g = k then w.heap[k]?.map (onCells (putCells id off (flatK chgC 3 d))) else w.heap[k]? := by
  unfold sortWorldK grow putRowK putRow mapBlock Go.Sort.ahead
  simp only
  rw [Array.getElem?_append_left (by simpa using hk), Array.getElem?_modify]

theorem putCells_at (off : Nat) (d c : Array Value) (j : Nat) (h1 : j < d.size) (h2 : off + j < c.size) : (putCells id off d c)[off + j]? = some d[j]! := by
  unfold putCells
  rw [Array.getElem?_mapIdx, Array.getElem?_eq_getElem h2, Option.map_some, if_pos ⟨by omega, by omega⟩, Nat.add_sub_cancel_left]
  rfl

/-- what the sort leaves is a slice of the call's own -/
theorem Ow.sorted {w : World} {base n m : Nat} {t : TypeId} {g off cap : Nat} {l r : List Chg} {d : Array Chg} {os : Array Obj} (h : Ow w base t 3 (.slice (some ⟨g, off, none⟩) n cap) n (l.flatMap chgC)) (hd : d.toList = r) (hr : r.length = n) :
    Ow (sortWorldK chgC 3 w g off m d os) base t 3 (.slice (some ⟨g, off, none⟩) n cap) n (r.flatMap chgC) ∧ Below base w (sortWorldK chgC 3 w g off m d os) := by
  have hl2 := flat_len chgC 3 chgC_len r
  rcases h.2 with ⟨h0, _⟩ | ⟨g', off', cap', cur, fr, hv, hg, hh, hfr, hnc, hm, hsz, hc⟩
  · cases h0
  · simp only [Value.slice.injEq, Option.some.injEq, Addr.mk.injEq] at hv
    obtain ⟨⟨rfl, rfl, _⟩, _, rfl⟩ := hv
    have hlt : g < w.heap.size := (Array.getElem?_eq_some_iff.1 hh).1
    refine ⟨⟨by rw [hl2, hr], .inr ⟨g, off, cap, putCells id off (flatK chgC 3 d) cur, fr, rfl, hg, ?_, hfr, hnc, hm, ?_, ?_⟩⟩, rfl, rfl, rfl, ?_, ?_⟩
    · rw [heap_sortK w g off m d os g hlt, if_pos rfl, hh]; rfl
    · simpa [putCells] using hsz
    · intro j u hu
      have hj : j < r.length * 3 := by rw [← hl2]; exact (List.getElem?_eq_some_iff.1 hu).1
      have hle : r.length * 3 ≤ cap * 3 := Nat.mul_le_mul_right 3 (by omega)
      have hdr : d = r.toArray := by rw [← hd]
      rw [putCells_at off _ cur j (by rw [size_flatK, hdr]; simpa using hj) (by omega), ← hu, hdr, flatK_at r j hj]
    · exact size_sortWorldK_c chgC 3 w g off m d os
    · intro k hk
      rcases Nat.lt_or_ge k w.heap.size with h1 | h1
      · rw [heap_sortK w g off m d os k h1, if_neg (by omega)]
      · omega

def SoPost (base : Nat) (r : List Chg) (e : Ending) (w : World) : Prop := ∃ v, e = .returned v ∧ Ow w base 49 3 v r.length (r.flatMap chgC)

theorem isAggC : ∀ w, (isAgg 49).run Tryd.prog w = .ok true w := Tryd.isAgg49
theorem sizeOfC : ∀ w, (Go.sizeOf 49).run Tryd.prog w = .ok 3 w := Tryd.sizeOf49

theorem sortfunc_any (v : Value) (base : Nat) (l r : List Chg) (w : World) (how : Ow w base 49 3 v l.length (l.flatMap chgC)) (hr : Sorted r) (hp : l.Perm r) (hn : l.length ≤ 1099511627776) :
    Calls Tryd.prog 66 #[v, .func (.func 67) #[] #[]] w fun e w' => e = .returned (.tuple #[]) ∧ Ow w' base 49 3 v r.length (r.flatMap chgC) ∧ Below base w w' := by
  have hlen := hp.length_eq
  rcases Nat.eq_zero_or_pos l.length with h0 | h0
  · obtain rfl : l = [] := List.eq_nil_of_length_eq_zero h0
    obtain rfl : r = [] := List.eq_nil_of_length_eq_zero (by simpa using hlen.symm)
    obtain ⟨A, c, rfl, _⟩ := how.rd
    have hcon := AnyF.slices_SortFunc_none (P := Tryd.prog) Tryd.sortChg A c (.func (.func 67) #[] #[]) w
    exact hcon.mono fun e w' ⟨h1, h2⟩ => by subst h2; exact ⟨h1, how, Below.refl _ _⟩
  · obtain ⟨g, off, cap, rfl, hg, hlt, hH⟩ := how.holds rfl h0
    have eg : ∀ args w, (callFunc 67 args).run Tryd.prog w = .ok (.enter 67 args) w := enters_of Tryd.func67 (by kernel_rfl) rfl
    have hcl : CmpLays Tryd.prog 67 #[] chgC 3 cmpC g off l.toArray.size w := fun m os dk _ x y => sortcmp_any x y _
    have hcon := AnyQ.slices_SortFunc (P := Tryd.prog) Tryd.sortChg 3 isAggC sizeOfC chgC chgC_len chgC_one cmpC (by rw [ltOf_cmp]; exact swoC) 67 #[] g off cap l.toArray w eg hcl hH hlt (by simp; omega)
    rw [ltOf_cmp] at hcon
    refine Calls.mono (show Calls Tryd.prog 66 #[.slice (some ⟨g, off, none⟩) l.length cap, .func (.func 67) #[] #[]] w _ from hcon) ?_
    rintro e w' ⟨h1, d', n, os, hpm, hst, hw⟩
    have hfin := how.sorted (m := n) (os := os) (sort_one hpm hst hr (by simpa using hp)) hlen.symm
    rw [← hw, hlen] at hfin
    exact ⟨h1, by rw [hlen]; exact hfin.1, hfin.2⟩

set_option maxRecDepth 100000 in
set_option maxHeartbeats 1000000 in
theorem rsorted_any (v : Value) (base : Nat) (l r : List Chg) (w : World) (how : Ow w base 49 3 v l.length (l.flatMap chgC)) (hr : Sorted r) (hp : l.Perm r) (hn : l.length ≤ 1099511627776) :
    Calls Tryd.prog 43 #[v] w fun e w' => SoPost base r e w' ∧ Below base w w' := by
  have hcon := sortfunc_any v base l r w how hr hp hn
  obtain ⟨A, c, rfl, _⟩ := how.rd
  have HCON := Lib.hid hcon
  clear hcon how hr hp hn
  go_enter Tryd.func43, Tryd.ntmps43
  go_wp2_with (go_at_call 66; refine HCON.out.mono ?_; rintro e w' ⟨rfl, ho, hb⟩)
  go_ret
  exact ⟨⟨_, rfl, ho⟩, hb⟩
end Go.Proofs.YtaecafagmncmiaaDoor
