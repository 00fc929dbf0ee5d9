/-
  The walks of rows.Of's first closure, slices.IndexFunc, slices.ContainsFunc.
-/
import Derived.Test.YtaecafagmncmiaaDoorRv
namespace Go.Proofs.YtaecafagmncmiaaDoor
open Go.RowKit Pu

theorem anyBad_snoc {l : List Int} {j : Nat} {n : Int} (h : l[j]? = some n) (ha : (l.take j).any badN = false) (hp : badN n = false) : (l.take (j + 1)).any badN = false := by
  rw [List.take_add_one, h, List.any_append, ha]; simp [hp]

set_option maxRecDepth 100000 in
set_option maxHeartbeats 1000000 in
theorem bad_any (n : Int) (w : World) : Calls Tryd.prog 47 #[.int .i64 n] w fun e w' => e = .returned (.bool (badN n)) ∧ w = w' := by
  by_cases h1 : n < 0
  · have hb : badN n = true := by unfold badN; simp [h1]
    rw [hb]
    go_enter Tryd.func47, Tryd.ntmps47
    go_wp2
    go_ret
    exact ⟨rfl, rfl⟩
  · by_cases h2 : 9007199254740991 < n
    · have hb : badN n = true := by unfold badN; simp [h2]
      rw [hb]
      go_enter Tryd.func47, Tryd.ntmps47
      go_wp2
      go_ret
      exact ⟨rfl, rfl⟩
    · have hb : badN n = false := by unfold badN; simp [h1, h2]
      rw [hb]
      clear hb
      go_enter Tryd.func47, Tryd.ntmps47
      go_wp2
      go_ret
      exact ⟨rfl, rfl⟩

set_option maxRecDepth 100000 in
set_option maxHeartbeats 1000000 in
theorem idxf_any (A : Option Addr) (c : Nat) (l : List Int) (w : World) (hr : Rd w 1 A l.length (ints l)) :
    Calls Tryd.prog 69 #[.slice A l.length c, .func (.func 47) #[] #[]] w fun e w' => (∃ r : Int, e = .returned (.int .i64 r) ∧ decide (0 ≤ r) = l.any badN) ∧ w = w' := by
  have hmax := hr.max
  have HR := Lib.hid hr
  clear hr
  go_enter Tryd.func69, Tryd.ntmps69
  go_wp2
  go_loopw [8] (fun i wr => ∃ j : Nat, j ≤ l.length ∧ i = .int .i64 j ∧ (l.take j).any badN = false ∧ wr = w) (fun i _ => l.length - (intOf i).toNat)
  case atStart => exact ⟨0, Nat.zero_le _, rfl, by simp, rfl⟩
  case round =>
    obtain ⟨j, hj, rfl, hall, rfl⟩ := hrel
    by_cases hlt : j < l.length
    · obtain ⟨n, hn⟩ : ∃ n, l[j]? = some n := ⟨_, List.getElem?_eq_getElem hlt⟩
      obtain ⟨b, off, rfl, hb, hcell⟩ := HR.out.at_ hlt
      have hc := hcell j _ (ints_at hn)
      have HN := Lib.hid hn
      have HA := Lib.hid hall
      cases hbn : badN n with
      | true =>
        have hany : l.any badN = true := List.any_eq_true.2 ⟨n, List.mem_of_getElem? hn, hbn⟩
        have HANY := Lib.hid hany
        have HB := Lib.hid hbn
        have hcon := bad_any n
        rw [hbn] at hcon
        have HCON := Lib.hid hcon
        clear hany hcell hn hall hbn hcon
        go_wp2_with (first
          | (go_at_call 47; refine (HCON.out _).mono ?_; rintro e w3 ⟨rfl, rfl⟩))
        go_ret
        exact ⟨⟨_, rfl, by rw [HANY.out]; simp⟩, rfl⟩
      | false =>
        have HB := Lib.hid hbn
        have hcon := bad_any n
        rw [hbn] at hcon
        have HCON := Lib.hid hcon
        clear hcell hn hall hbn hcon
        go_wp2_with (first
          | (go_at_call 47; refine (HCON.out _).mono ?_; rintro e w3 ⟨rfl, rfl⟩))
        go_roundw
        case rel => exact ⟨j + 1, by omega, by go_num, anyBad_snoc HN.out HA.out HB.out, trivial⟩
        case measure => simp [intOf]; omega
    · obtain rfl : j = l.length := by omega
      rw [List.take_length] at hall
      have HA := Lib.hid hall
      clear hall
      go_wp2
      go_ret
      exact ⟨⟨_, rfl, by rw [HA.out]; simp⟩, rfl⟩

set_option maxRecDepth 100000 in
set_option maxHeartbeats 1000000 in
theorem contf_any (A : Option Addr) (c : Nat) (l : List Int) (w : World) (hr : Rd w 1 A l.length (ints l)) :
    Calls Tryd.prog 48 #[.slice A l.length c, .func (.func 47) #[] #[]] w fun e w' => e = .returned (.bool (l.any badN)) ∧ w = w' := by
  have hcon := idxf_any A c l w hr
  have HCON := Lib.hid hcon
  clear hr hcon
  generalize l.any badN = b at HCON ⊢
  go_enter Tryd.func48, Tryd.ntmps48
  go_wp2_with (first
    | (go_at_call 69; refine HCON.out.mono ?_; rintro e w3 ⟨⟨r, rfl, hr⟩, rfl⟩))
  go_ret
  exact ⟨rfl, rfl⟩
end Go.Proofs.YtaecafagmncmiaaDoor
