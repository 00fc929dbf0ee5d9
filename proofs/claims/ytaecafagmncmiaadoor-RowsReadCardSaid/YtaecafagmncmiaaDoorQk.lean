/-
  The walk of palinoderef02.Key.
-/
import Derived.Test.YtaecafagmncmiaaDoorQp
namespace Go.Proofs.YtaecafagmncmiaaDoor
open Go.RowKit Pu

set_option maxRecDepth 100000 in
set_option maxHeartbeats 2000000 in
theorem qkey_any (A : Option Addr) (c : Nat) (ps : List Part) (w : World) (hr : Rd w 3 A ps.length (ps.flatMap parC)) :
    Calls Tryd.prog 41 #[.slice A ps.length c] w fun e w' => e = .returned (.tuple #[.string (bs (keyB ps).2), .int .i64 ((keyB ps).1 : Nat)]) ∧ Below w.heap.size w w' := by
  have hmax := hr.max
  have HR := Lib.hid hr
  clear hr
  go_enter Tryd.func41, Tryd.ntmps41
  go_wp2
  go_loopw [4] (fun i wr => ∃ j : Nat, j ≤ ps.length ∧ i = .int .i64 j ∧ (ps.take j).any partBad = false ∧ Below w.heap.size w wr) (fun i _ => ps.length - (intOf i).toNat)
  case atStart => exact ⟨0, Nat.zero_le _, rfl, by simp, Below.refl _ _⟩
  case round =>
    obtain ⟨j, hj, rfl, hall, hbw⟩ := hrel
    by_cases hlt : j < ps.length
    · obtain ⟨p, hp⟩ : ∃ p, ps[j]? = some p := ⟨_, List.getElem?_eq_getElem hlt⟩
      obtain ⟨b, off, rfl, hb, c0, c1, c2⟩ := Rd.three parC parC_len (HR.out.below hbw) hp rfl
      have HP := Lib.hid hp
      have HA := Lib.hid hall
      clear hp hall
      cases ht : p.text with
      | true =>
        have hpb := partBad_text ht
        have HB := Lib.hid hpb
        clear hpb
        rw [ht] at c0
        have HT := Lib.hid ht
        clear ht
        go_wp2
        go_roundw
        case rel => exact ⟨j + 1, by omega, by go_num, any_snoc HP.out HA.out HB.out, hbw⟩
        case measure => simp [intOf]; omega
      | false =>
        rw [ht] at c0
        have hpb := partBad_num ht
        by_cases hbad : p.n < 0 ∨ 9007199254740991 < p.n
        · have hk := keyB_bad HP.out (by rw [hpb]; simpa using hbad)
          have HK := Lib.hid hk
          have HT := Lib.hid ht
          clear ht hpb hk
          rcases hbad with hbad | hbad
          all_goals
            go_wp2
            go_ret2
            rw [HK.out]
            exact ⟨rfl, hbw⟩
        · have hn0 : 0 ≤ p.n := by omega
          have hn1 : p.n ≤ 9007199254740991 := by omega
          have HB : Hid (partBad p = false) := by show partBad p = false; rw [hpb]; simp; omega
          have HT := Lib.hid ht
          clear ht hpb hbad
          go_wp2
          go_roundw
          case rel => exact ⟨j + 1, by omega, by go_num, any_snoc HP.out HA.out HB.out, hbw⟩
          case measure => simp [intOf]; omega
    · obtain rfl : j = ps.length := by omega
      rw [List.take_length] at hall
      have hk := keyB_ok hall
      have HK := Lib.hid hk
      obtain ⟨wo, rfl⟩ : ∃ wo : World, wo = wr := ⟨_, rfl⟩
      have HA := Lib.hid hall
      clear hall hk
      go_wp2
      go_loopw [5, 6] (fun v i wr => ∃ (j : Nat) (acc : Bs), j ≤ ps.length ∧ i = .int .i64 j ∧ Ow wr w.heap.size 5 1 v acc.length (u8s acc) ∧ acc.length ≤ 80 ∧ keyGo acc (ps.drop j) = keyGo [] ps ∧ Below w.heap.size w wr) (fun _ i _ => ps.length - (intOf i).toNat)
      case atStart => exact ⟨0, [], Nat.zero_le _, rfl, Ow.nil _ _ _ _, by simp, rfl, hbw⟩
      case round =>
        obtain ⟨j, acc, hj, rfl, how, hal, hgo, hbw⟩ := hrel
        obtain ⟨A6, c6, rfl, _⟩ := how.rd
        by_cases hlt : j < ps.length
        · obtain ⟨p, hp⟩ : ∃ p, ps[j]? = some p := ⟨_, List.getElem?_eq_getElem hlt⟩
          obtain ⟨b, off, rfl, hb, c0, c1, c2⟩ := Rd.three parC parC_len (HR.out.below hbw) hp rfl
          rw [drop_at hp] at hgo
          have hnb : partBad p = false := by
            have h1 := HA.out
            rw [List.any_eq_false] at h1
            simpa using h1 p (List.mem_of_getElem? hp)
          have HO := Lib.hid how
          have HGO := Lib.hid hgo
          have HNB := Lib.hid hnb
          clear hp how hgo hnb
          by_cases hlong : p.text = true ∧ 80 < p.s.length
          · have hk5 : keyB ps = (5, []) := by rw [HK.out, ← HGO.out]; exact keyGo_long hlong.1 hlong.2
            have HK5 := Lib.hid hk5
            obtain ⟨ht, hl⟩ := hlong
            rw [ht] at c0
            clear hk5 ht
            go_wp2
            go_ret2
            rw [HK5.out]
            exact ⟨rfl, hbw⟩
          have hpart := qpart_any p (hs := fun h => Nat.not_lt.1 fun h2 => hlong ⟨h, h2⟩) (hn := fun h => by have h1 := HNB.out; rw [partBad_num h] at h1; simp at h1; omega)
          have hpl : (partB p).length ≤ 163 := by
            cases ht : p.text with
            | true => have := esc_length p.s; have := Nat.not_lt.1 fun h2 => hlong ⟨ht, h2⟩; rw [partB_text ht]; simp; omega
            | false => rw [partB_num ht]; simp [beL_length]
          have HPART := Lib.hid hpart
          have hlen : (acc ++ partB p).length = acc.length + (partB p).length := List.length_append
          have HLONG := Lib.hid hlong
          clear hpart
          by_cases h80 : 80 < p.s.length
          · have ht : p.text = false := by
              cases ht : p.text with
              | true => exact absurd ⟨ht, h80⟩ hlong
              | false => rfl
            rw [ht] at c0 HPART
            clear hlong ht
            by_cases hfull : 80 < (acc ++ partB p).length
            · have hk5 : keyB ps = (5, []) := by rw [HK.out, ← HGO.out]; exact keyGo_full HLONG.out hfull
              have HK5 := Lib.hid hk5
              have hfl : 80 < acc.length + (partB p).length := by rw [List.length_append] at hfull; omega
              clear hk5 hfull
              go_wp2_with (first
                | (go_at_call 65; refine (HPART.out _).mono ?_; rintro e w1 ⟨⟨v1, rfl, ho1⟩, hb1⟩; obtain ⟨A7, c7, rfl, hr1⟩ := ho1.rd; have hbw1 := below_tr hbw hb1; have HR1 := Lib.hid hr1; have HO1 := Lib.hid (HO.out.below hb1); clear hr1 ho1)
                | (refine wpList_pushes tU8 rfl _ _ rfl w.heap.size (.slice A6 acc.length c6) acc.length _ A7 (partB p).length c7 (u8s (partB p)) rfl rfl HO1.out HR1.out (u8s_one _) (by omega) (by omega) hbw1.size ?_; intro v4 w4 ho4 hg4 hw4 hb4; obtain ⟨A9, c9, rfl, _⟩ := ho4.rd; have hbw4 := hbw1.trans hb4))
              go_ret2
              rw [HK5.out]
              exact ⟨rfl, hbw4⟩
            · have HF : Hid ((acc ++ partB p).length ≤ 80) := by show (acc ++ partB p).length ≤ 80; omega
              have hfl : acc.length + (partB p).length ≤ 80 := by rw [List.length_append] at hfull; omega
              clear hfull
              go_wp2_with (first
                | (go_at_call 65; refine (HPART.out _).mono ?_; rintro e w1 ⟨⟨v1, rfl, ho1⟩, hb1⟩; obtain ⟨A7, c7, rfl, hr1⟩ := ho1.rd; have hbw1 := below_tr hbw hb1; have HR1 := Lib.hid hr1; have HO1 := Lib.hid (HO.out.below hb1); clear hr1 ho1)
                | (refine wpList_pushes tU8 rfl _ _ rfl w.heap.size (.slice A6 acc.length c6) acc.length _ A7 (partB p).length c7 (u8s (partB p)) rfl rfl HO1.out HR1.out (u8s_one _) (by omega) (by omega) hbw1.size ?_; intro v4 w4 ho4 hg4 hw4 hb4; obtain ⟨A9, c9, rfl, _⟩ := ho4.rd; have hbw4 := hbw1.trans hb4))
              go_roundw
              case rel => exact ⟨j + 1, acc ++ partB p, by omega, by go_num, ho4.cast (by rw [List.length_append]) (by rw [← u8s_append]), HF.out, by rw [← keyGo_step HLONG.out HF.out]; exact HGO.out, hbw4⟩
              case measure => simp [intOf]; omega
          · clear hlong
            by_cases hfull : 80 < (acc ++ partB p).length
            · have hk5 : keyB ps = (5, []) := by rw [HK.out, ← HGO.out]; exact keyGo_full HLONG.out hfull
              have HK5 := Lib.hid hk5
              have hfl : 80 < acc.length + (partB p).length := by rw [List.length_append] at hfull; omega
              clear hk5 hfull
              go_wp2_with (first
                | (go_at_call 65; refine (HPART.out _).mono ?_; rintro e w1 ⟨⟨v1, rfl, ho1⟩, hb1⟩; obtain ⟨A7, c7, rfl, hr1⟩ := ho1.rd; have hbw1 := below_tr hbw hb1; have HR1 := Lib.hid hr1; have HO1 := Lib.hid (HO.out.below hb1); clear hr1 ho1)
                | (refine wpList_pushes tU8 rfl _ _ rfl w.heap.size (.slice A6 acc.length c6) acc.length _ A7 (partB p).length c7 (u8s (partB p)) rfl rfl HO1.out HR1.out (u8s_one _) (by omega) (by omega) hbw1.size ?_; intro v4 w4 ho4 hg4 hw4 hb4; obtain ⟨A9, c9, rfl, _⟩ := ho4.rd; have hbw4 := hbw1.trans hb4))
              go_ret2
              rw [HK5.out]
              exact ⟨rfl, hbw4⟩
            · have HF : Hid ((acc ++ partB p).length ≤ 80) := by show (acc ++ partB p).length ≤ 80; omega
              have hfl : acc.length + (partB p).length ≤ 80 := by rw [List.length_append] at hfull; omega
              clear hfull
              go_wp2_with (first
                | (go_at_call 65; refine (HPART.out _).mono ?_; rintro e w1 ⟨⟨v1, rfl, ho1⟩, hb1⟩; obtain ⟨A7, c7, rfl, hr1⟩ := ho1.rd; have hbw1 := below_tr hbw hb1; have HR1 := Lib.hid hr1; have HO1 := Lib.hid (HO.out.below hb1); clear hr1 ho1)
                | (refine wpList_pushes tU8 rfl _ _ rfl w.heap.size (.slice A6 acc.length c6) acc.length _ A7 (partB p).length c7 (u8s (partB p)) rfl rfl HO1.out HR1.out (u8s_one _) (by omega) (by omega) hbw1.size ?_; intro v4 w4 ho4 hg4 hw4 hb4; obtain ⟨A9, c9, rfl, _⟩ := ho4.rd; have hbw4 := hbw1.trans hb4))
              go_roundw
              case rel => exact ⟨j + 1, acc ++ partB p, by omega, by go_num, ho4.cast (by rw [List.length_append]) (by rw [← u8s_append]), HF.out, by rw [← keyGo_step HLONG.out HF.out]; exact HGO.out, hbw4⟩
              case measure => simp [intOf]; omega
        · obtain rfl : j = ps.length := by omega
          rw [List.drop_of_length_le (Nat.le_refl _), keyGo_nil] at hgo
          have hst := ow_str Tryd.underlying104 Tryd.underlying5 Tryd.underlying9 how
          have hk0 : keyB ps = (0, acc) := by rw [HK.out, ← hgo]
          have HK0 := Lib.hid hk0
          clear hk0 hgo how
          go_wp2
          go_ret2
          rw [HK0.out]
          exact ⟨rfl, hbw⟩
end Go.Proofs.YtaecafagmncmiaaDoor
