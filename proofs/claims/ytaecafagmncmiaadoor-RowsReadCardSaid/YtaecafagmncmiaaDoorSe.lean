/-
  The walk of rows.seen.
-/
import Derived.Maps.StringElems
import Derived.Maps.OwnOps
import Derived.Test.YtaecafagmncmiaaDoorRv
import Derived.Test.YtaecafagmncmiaaDoorPd
namespace Go.Proofs.YtaecafagmncmiaaDoor
open Go.RowKit Go.WideMaps Pu

theorem kStr : Maps.Keyed Tryd.prog 9 := Maps.string_keyed Tryd.underlying9
theorem zeroStr (w : World) : (zeroValue 9).run Tryd.prog w = .ok (.string ⟨#[]⟩) w := by kernel_rfl
/-- block b is a map, of rows by their keys -/
def MapOf (w : World) (b n : Nat) (l : List Chg) : Prop := ∃ D : DataW Unit, w.ownsMap Tryd.prog 9 (plainElem Tryd.prog 9) b n D ∧ Maps.IsMap D ∧ (∀ k, Maps.has D (.string k) = hasK l k) ∧ ∀ k zd, D.atKey (.string k) zd = match valK l k with | some v => .lit (.string v) | none => zd
theorem plain_str (s : Bs) (h : s.length ≤ 9223372036854775807) : plainElem (H := Unit) Tryd.prog 9 (.string (bs s)) = some (.lit (.string s), []) := by
  have := plainElem_string (H := Unit) (P := Tryd.prog) (e := 9) Tryd.underlying9 (s := bs s) (by rw [bs_size]; unfold maxLen; exact h)
  rw [bs_data] at this
  exact this
theorem key_str (s : Bs) (h : s.length ≤ 9223372036854775807) : keyOf Tryd.prog 9 (.string (bs s)) = some (.string s) := by
  have := keyOf_string_mk (P := Tryd.prog) (k := 9) Tryd.underlying9 (s := bs s) (by rw [bs_size]; unfold maxLen; exact h)
  rw [bs_data] at this
  exact this
theorem MapOf.made (w : World) : MapOf (w.alloc (.map #[] 0)) w.heap.size 0 [] :=
  ⟨_, World.ownsMap_made _ _ _ _, Maps.isMap_empty, fun k => by unfold hasK; rfl, fun k zd => by unfold valK; rfl⟩
theorem MapOf.kept {w w' : World} {b n : Nat} {l : List Chg} {row : Option Nat} (h : MapOf w b n l) (hg : w.grownBy w' row) (hne : some b ≠ row) : MapOf w' b n l := by
  obtain ⟨D, h1, h2, h3, h4⟩ := h
  exact ⟨D, h1.kept hg hne, h2, h3, h4⟩
theorem MapOf.below {w w' : World} {b n : Nat} {l : List Chg} (h : MapOf w b n l) (hb : Below w.heap.size w w') : MapOf w' b n l :=
  h.kept (row := none) ⟨hb.os, hb.tape, hb.output, hb.size, fun i hi _ => hb.block i hi⟩ (by simp)
theorem MapOf.lt {w : World} {b n : Nat} {l : List Chg} (h : MapOf w b n l) : b < w.heap.size := by
  obtain ⟨D, h1, _⟩ := h
  exact h1.lt
/-- what was laid into it -/
theorem MapOf.put {w : World} {b n : Nat} {l : List Chg} {c : Chg} {D : DataW Unit} (h1 : w.ownsMap Tryd.prog 9 (plainElem Tryd.prog 9) b (n + 1) (D.put (.string c.key) (.lit (.string c.value)))) (h2 : Maps.IsMap D) (h3 : ∀ k, Maps.has D (.string k) = hasK l k)
    (h4 : ∀ k zd, D.atKey (.string k) zd = match valK l k with | some v => .lit (.string v) | none => zd) (hn : hasK l c.key = false) : MapOf w b (n + 1) (l ++ [c]) := by
  have hne : ∀ k, k ≠ c.key → (Lit.string k) ≠ .string c.key := fun k h e => h (by cases e; rfl)
  refine ⟨_, h1, h2.put _ _, fun k => ?_, fun k zd => ?_⟩
  · rw [hasK_snoc]
    by_cases hk : k = c.key
    · rw [hk, Maps.has_put_same h2 (by trivial)]; simp
    · rw [Maps.has_put_other (hne k hk), h3 k]
      have : (c.key == k) = false := by simpa using fun e : c.key = k => hk e.symm
      rw [this]; simp
  · rw [valK_snoc]
    by_cases hk : k = c.key
    · rw [hk, Maps.atKey_put_same h2 (by trivial), valK_none.2 hn]; simp
    · rw [Maps.atKey_put_other (hne k hk), h4 k zd, if_neg (fun e => hk e.symm), Option.or_none]

def SeenPost (base : Nat) (l : List Chg) (e : Ending) (w : World) : Prop :=
  if rowsB l = true then ∃ b, e = .returned (.tuple #[.map (some b), .bool true]) ∧ base ≤ b ∧ MapOf w b l.length l else e = .returned (.tuple #[.map none, .bool false])

set_option maxRecDepth 100000 in
set_option maxHeartbeats 2000000 in
theorem seen_any (A : Option Addr) (c : Nat) (l : List Chg) (w : World) (hr : Rd w 3 A l.length (l.flatMap chgC)) (hs : ∀ x ∈ l, x.key.length ≤ 9223372036854775807 ∧ x.value.length ≤ 9223372036854775807) :
    Calls Tryd.prog 42 #[.slice A l.length c] w fun e w' => SeenPost w.heap.size l e w' ∧ Below w.heap.size w w' := by
  have hmm := @run_makeMap Tryd.prog
  have hmx := hr.max
  go_enter Tryd.func42, Tryd.ntmps42
  go_wp2
  go_loopw [12] (fun i wr => ∃ j : Nat, j ≤ l.length ∧ i = .int .i64 j ∧ rowsB (l.take j) = true ∧ MapOf wr w.heap.size j (l.take j) ∧ Below w.heap.size w wr) (fun i _ => l.length - (intOf i).toNat)
  case atStart =>
    refine ⟨0, Nat.zero_le _, rfl, ?_, MapOf.made w, below_al (Below.refl _ _) _⟩
    unfold rowsB apartK; simp
  case round =>
    obtain ⟨j, hj, rfl, hok, hmap, hbw⟩ := hrel
    by_cases hlt : j < l.length
    · obtain ⟨x, hx⟩ : ∃ x, l[j]? = some x := ⟨_, List.getElem?_eq_getElem hlt⟩
      obtain ⟨hxk, hxv⟩ := hs x (List.mem_of_getElem? hx)
      obtain ⟨b, off, rfl, hblt, hc0, hc1, hc2⟩ := (hr.below hbw).three chgC chgC_len hx (u0 := .string (bs x.key)) (u1 := .bool x.drop) (u2 := .string (bs x.value)) rfl
      have hkey := key_str x.key hxk
      have hval := plain_str x.value hxv
      have hmlt := hmap.lt
      obtain ⟨D, hown, him, hhas, hat⟩ := hmap
      have HAS := Lib.hid hhas
      have HAT := Lib.hid hat
      have HIM := Lib.hid him
      clear hhas hat him
      have hal := below_al hbw (.cells #[.string (bs x.key), .bool x.drop, .string (bs x.value)] 49)
      have hbad := fun h => rowsB_bad (l := l) hx h
      have htake := rowsB_take (l := l) hx
      rw [hok] at htake
      have ht1 : l.take (j + 1) = l.take j ++ [x] := by rw [List.take_add_one, hx]; rfl
      have HT1 := Lib.hid ht1
      have HTK := Lib.hid htake
      have HBAD := Lib.hid hbad
      clear ht1 htake hbad hok hs hx
      cases hh : hasK (l.take j) x.key with
      | true =>
        have HX : Hid (Maps.has D (.string x.key) = true) := (HAS.out x.key).trans hh
        have HP : Hid (rowsB l = false) := HBAD.out (.inl hh)
        clear hh
        go_wp2_with (first | (at_lookup; refine wpList_lookup_own_ok _ rfl _ _ 90 rfl 9 9 kStr Tryd.underlying90 _ (zeroStr _) (.lit (.string [])) [] (plain_str [] (by simp)) w.heap.size j D rfl (hown.alloc _) _ _ rfl hkey ?_; intro v ps _; rw [HX.out]))
        go_ret2
        exact ⟨by unfold SeenPost; rw [if_neg (by simp [HP.out])]; rfl, hal⟩
      | false =>
        have HX : Hid (Maps.has D (.string x.key) = false) := (HAS.out x.key).trans hh
        have HH := Lib.hid hh
        clear hh
        cases hd : x.drop with
        | true =>
          have HP : Hid (rowsB l = false) := HBAD.out (.inr hd)
          rw [hd] at hc1 hal
          clear hd
          go_wp2_with (first | (at_lookup; refine wpList_lookup_own_ok _ rfl _ _ 90 rfl 9 9 kStr Tryd.underlying90 _ (zeroStr _) (.lit (.string [])) [] (plain_str [] (by simp)) w.heap.size j D rfl (hown.alloc _) _ _ rfl hkey ?_; intro v ps _; rw [HX.out]))
          go_ret2
          exact ⟨by unfold SeenPost; rw [if_neg (by simp [HP.out])]; rfl, hal⟩
        | false =>
          have HP : Hid (rowsB (l.take (j + 1)) = true) := by have := HTK.out; rw [HH.out, hd] at this; exact this
          rw [hd] at hc1 hal
          clear hd
          go_wp2_with (first | (at_lookup; refine wpList_lookup_own_ok _ rfl _ _ 90 rfl 9 9 kStr Tryd.underlying90 _ (zeroStr _) (.lit (.string [])) [] (plain_str [] (by simp)) w.heap.size j D rfl (hown.alloc _) _ _ rfl hkey ?_; intro v ps _; rw [HX.out]) | (at_mapUpdate; refine wpList_mapUpdate_own _ rfl _ _ _ 90 rfl 9 9 kStr Tryd.underlying90 _ w.heap.size j D rfl (hown.alloc _) (by unfold maxLen; omega) _ _ _ rfl rfl hkey _ [] hval ?_; intro w1 hown1 hgrow1))
          have hm1 : Hid (MapOf w1 w.heap.size (j + 1) (l.take (j + 1))) := by rw [HT1.out]; exact MapOf.put hown1 HIM.out HAS.out HAT.out HH.out
          have hb1 := hal.grown hgrow1 hal.size (fun k hk => by cases hk; exact Nat.le_refl _)
          clear hown1 hgrow1 hown
          go_roundw
          case rel => exact ⟨j + 1, by omega, by go_num, HP.out, hm1.out, hb1⟩
          case measure => simp [intOf]; omega
    · obtain rfl : j = l.length := by omega
      go_wp2
      go_ret2
      refine ⟨?_, hbw⟩
      rw [List.take_length] at hok hmap
      unfold SeenPost
      rw [if_pos hok]
      exact ⟨_, rfl, Nat.le_refl _, hmap⟩
end Go.Proofs.YtaecafagmncmiaaDoor
