/-
  The walks of define.Name and palinoderef18.Name.
-/
import Derived.Test.YtaecafagmncmiaaDoorQ1
import Derived.Test.YtaecafagmncmiaaDoorPu3
namespace Go.Proofs.YtaecafagmncmiaaDoor
open Go.RowKit Pu

set_option maxRecDepth 100000 in
set_option maxHeartbeats 1000000 in
theorem name_any (l : Bs) (w : World) (hl : l.length ≤ 9223372036854775807) :
    Calls Tryd.prog 36 #[.string (bs l)] w fun e w' => e = .returned (.bool (nameB l)) ∧ Below w.heap.size w w' := by
  have hsz : (bs l).size ≤ maxLen := by rw [bs_size]; unfold maxLen; omega
  go_enter Tryd.func36, Tryd.ntmps36
  go_wp2_with (first
    | (refine wpList_bytes rfl _ (src := 9) (dst := 104) rfl Tryd.underlying9 Tryd.underlying104 Tryd.underlying5 (bs l) rfl hsz ?_; intro c1 W1 hg1 how1))
  obtain ⟨A, c, hAc, hrd⟩ := (how1 0 (Nat.zero_le _)).rd
  obtain ⟨rfl, rfl⟩ : A = some ⟨w.heap.size, 0, none⟩ ∧ c = c1 := by injection hAc with h1 _ h2; exact ⟨h1.symm, h2.symm⟩
  have hb1 : Below w.heap.size w W1 := below_g (Below.refl _ _) hg1
  rw [bs_toList] at hrd
  have HRD := Lib.hid hrd
  clear hAc how1 hg1 hrd
  go_loop [8] (fun i => ∃ j : Nat, j ≤ l.length ∧ i = .int .i64 j ∧ (l.take j).all okC = true) (fun i => l.length - (intOf i).toNat)
  case atStart => exact ⟨0, by omega, rfl, by simp⟩
  case round =>
    obtain ⟨j, hj, rfl, hall⟩ := hrel
    by_cases hlt : j < l.length
    · obtain ⟨x, hx⟩ : ∃ x, l[j]? = some x := ⟨_, List.getElem?_eq_getElem hlt⟩
      have hcell : W1.cell? ⟨w.heap.size, j, none⟩ = some (.int .u8 (x.toNat : Int)) := by
        obtain ⟨b, off, hA, _, hc⟩ := HRD.out.2.2 (by rw [bs_size]; omega)
        obtain ⟨rfl, rfl⟩ : b = w.heap.size ∧ off = 0 := by injection hA with hA; injection hA with h1 h2; exact ⟨h1.symm, h2.symm⟩
        simpa using hc j (.int .u8 (x.toNat : Int)) (by unfold u8s; rw [List.getElem?_map, hx]; rfl)
      have HA := Lib.hid hall
      have HX := Lib.hid hx
      clear hall hx
      cases hok : okC x with
      | true =>
        have hy := okC_yes hok
        have HK := Lib.hid hok
        clear hok
        go_wp2
        all_goals (
          go_round
          case rel => exact ⟨j + 1, by omega, by go_num, all_snoc HX.out HA.out HK.out⟩
          case measure => simp [intOf]; omega)
      | false =>
        have hy := okC_no hok
        have hf := nameB_bad HX.out hok
        clear hok
        obtain ⟨hy1, hy2, hy3⟩ := hy
        have h45 : ((x.toNat : Int) != 45) = true := by rw [bne_iff_ne]; omega
        clear hy3
        go_wp2
        all_goals (go_ret; exact ⟨rfl, hb1⟩)
    · obtain rfl : j = l.length := by omega
      rw [List.take_length] at hall
      have hn := nameB_all hall
      have HN := Lib.hid hn
      clear hall hn HRD hsz
      cases l with
      | nil =>
        go_wp2
        go_ret
        exact ⟨by rw [HN.out]; rfl, hb1⟩
      | cons c r =>
        go_wp2
        go_ret
        refine ⟨?_, hb1⟩
        rw [HN.out]
        refine congrArg (fun b => Ending.returned (.bool b)) ?_
        rw [decide_eq_decide]
        simp
        omega

set_option maxRecDepth 100000 in
set_option maxHeartbeats 1000000 in
theorem qname_any (l : Bs) (w : World) (hl : l.length ≤ 9223372036854775807) :
    Calls Tryd.prog 38 #[.string (bs l)] w fun e w' => e = .returned (.bool (nameB l)) ∧ w = w' := by
  go_enter Tryd.func38, Tryd.ntmps38
  go_wp2
  go_loop [3] (fun i => ∃ j : Nat, j ≤ l.length ∧ i = .int .i64 j ∧ (l.take j).all okC = true) (fun i => l.length - (intOf i).toNat)
  case atStart => exact ⟨0, by omega, rfl, by simp⟩
  case round =>
    obtain ⟨j, hj, rfl, hall⟩ := hrel
    by_cases hlt : j < l.length
    · obtain ⟨x, hx⟩ : ∃ x, l[j]? = some x := ⟨_, List.getElem?_eq_getElem hlt⟩
      have hget : ∀ h, l[j]'h = x := fun h => Option.some.inj ((List.getElem?_eq_getElem h).symm.trans hx)
      have HA := Lib.hid hall
      have HX := Lib.hid hx
      clear hall hx
      cases hok : okC x with
      | true =>
        have hy := okC_yes hok
        have HK := Lib.hid hok
        clear hok
        go_wp2
        all_goals (
          go_round
          case rel => exact ⟨j + 1, by omega, by go_num, all_snoc HX.out HA.out HK.out⟩
          case measure => simp [intOf]; omega)
      | false =>
        have hy := okC_no hok
        have hf := nameB_bad HX.out hok
        clear hok
        obtain ⟨hy1, hy2, hy3⟩ := hy
        have h45 : ((x.toNat : Int) != 45) = true := by rw [bne_iff_ne]; omega
        clear hy3
        go_wp2
        all_goals (go_ret; exact ⟨rfl, rfl⟩)
    · obtain rfl : j = l.length := by omega
      rw [List.take_length] at hall
      have hn := nameB_all hall
      have HN := Lib.hid hn
      clear hall hn
      by_cases h1 : 1 ≤ l.length
      · go_wp2
        go_ret
        refine ⟨?_, rfl⟩
        rw [HN.out]
        refine congrArg (fun b => Ending.returned (.bool b)) ?_
        simp [h1]
        omega
      · go_wp2
        go_ret
        refine ⟨?_, rfl⟩
        rw [HN.out]
        refine congrArg (fun b => Ending.returned (.bool b)) ?_
        simp [h1]
end Go.Proofs.YtaecafagmncmiaaDoor
