/-
  The walk of rows.ID.
-/
import Derived.Test.YtaecafagmncmiaaDoorRv
import Derived.Test.YtaecafagmncmiaaDoorPu9
namespace Go.Proofs.YtaecafagmncmiaaDoor
open Go.RowKit Pu

set_option maxRecDepth 100000 in
set_option maxHeartbeats 2000000 in
theorem rid_any (key : Bs) (w : World) (hl : key.length ≤ 9223372036854775807) :
    Calls Tryd.prog 14 #[.string (bs key)] w fun e w' => e = .returned (.tuple #[.string (bs (idR key).2), errv (idR key).1]) ∧ Below w.heap.size w w' := by
  have hsp := split_any key w hl
  have hparts := splitB_parts key
  have h3 := fun h => idR_err (key := key) h
  have h4 := fun h => idR_few (key := key) h
  have h5 := fun h1 h2 => idR_ok (key := key) h1 h2
  have e3 : errv 3 = .iface 68 (.int .i64 3) := errv_pos (by omega)
  have e0 : errv 0 = .nilIface := rfl
  have HE := Lib.hid e3
  generalize idR key = I at h3 h4 h5 ⊢
  generalize splitB key = S at hsp hparts h3 h4 h5
  obtain ⟨er, l⟩ := S
  simp only at h3 h4 h5 hparts
  have HSP := Lib.hid hsp
  have HPARTS := Lib.hid hparts
  clear hsp hparts e3 hl
  by_cases he : er = 0
  · by_cases hn : l.length < 2
    · have HI := Lib.hid (h4 hn)
      clear h3 h4 h5
      subst he
      go_enter Tryd.func14, Tryd.ntmps14
      go_wp2_with (first | (go_at_call 35; refine HSP.out.mono ?_; rintro e w1 ⟨⟨v1, rfl, ho1⟩, hb1⟩; obtain ⟨A1, k1, rfl, hr1⟩ := ho1.rd; have HR1 := Lib.hid hr1; clear ho1 hr1))
      go_ret2
      exact ⟨by rw [HI.out, HE.out]; rfl, hb1⟩
    · have hi := h5 he hn
      subst he
      obtain ⟨a, ha⟩ : ∃ a, l[0]? = some a := ⟨_, List.getElem?_eq_getElem (by omega)⟩
      obtain ⟨b, hb⟩ : ∃ b, l[l.length - 1]? = some b := ⟨_, List.getElem?_eq_getElem (by omega)⟩
      rw [idL_at ha hb] at hi
      have hbl := HPARTS.out b (List.mem_of_getElem? hb)
      have hname := fun w => name_any b.s w (by omega)
      have HA := Lib.hid ha
      have HB := Lib.hid hb
      have hln : 2 ≤ l.length := by omega
      obtain ⟨m, hm⟩ : ∃ m, l.length = m + 2 := ⟨l.length - 2, by omega⟩
      have hbm : l.length - 1 = m + 1 := by omega
      rw [hbm] at HB
      have HI := Lib.hid hi
      clear hi hb ha h3 h4 h5 hbm hln hn
      have HA0 := Lib.hid (show (l.flatMap parC)[0]? = some (.bool a.text) from by have := flat_at parC 3 parC_len l 0 a HA.out 0 (by omega); simpa [parC] using this)
      have HB0 := Lib.hid (show (l.flatMap parC)[(m + 1) * 3]? = some (.bool b.text) from by have := flat_at parC 3 parC_len l (m + 1) b HB.out 0 (by omega); simpa [parC] using this)
      have HB1 := Lib.hid (show (l.flatMap parC)[(m + 1) * 3 + 1]? = some (.int .i64 b.n) from by have := flat_at parC 3 parC_len l (m + 1) b HB.out 1 (by omega); simpa [parC] using this)
      have HB2 := Lib.hid (show (l.flatMap parC)[(m + 1) * 3 + 2]? = some (.string (bs b.s)) from by have := flat_at parC 3 parC_len l (m + 1) b HB.out 2 (by omega); simpa [parC] using this)
      have hwrap : m + 2 ≤ 9223372036854775807 → wrap64 ((m : Int) + 2 - 1) = (m : Int) + 1 := fun h => by unfold wrap64; omega
      clear HA HB
      cases hat : a.text with
      | false =>
        rw [hat] at HA0 HI
        have HI2 : Hid (I = (3, [])) := HI.out.trans (if_neg (by simp))
        clear HI hname hat
        go_enter Tryd.func14, Tryd.ntmps14
        go_wp2_with (first | (go_at_call 35; refine HSP.out.mono ?_; rintro e w1 ⟨⟨v1, rfl, ho1⟩, hb1⟩; simp only [hm] at ho1; obtain ⟨A1, k1, rfl, hr1⟩ := ho1.rd; have hmx := hr1.max; have hw := hwrap hmx; obtain ⟨g, off, rfl, hg, hcell⟩ := hr1.at_ (k := 0) (by omega); have a0 := hcell 0 _ (HA0.out); have d0 := hcell ((m + 1) * 3) _ (HB0.out); have d1 := hcell ((m + 1) * 3 + 1) _ (HB1.out); have d2 := hcell ((m + 1) * 3 + 2) _ (HB2.out); rw [Nat.add_zero] at a0; rw [← Nat.add_assoc] at d1 d2; have hbw1 := below_al hb1 (.cells #[.bool b.text, .int .i64 b.n, .string (bs b.s)] 54); clear ho1 hr1 hcell hmx))
        go_ret2
        exact ⟨by rw [HI2.out, HE.out]; rfl, hbw1⟩
      | true =>
        cases hbt : b.text with
        | false =>
          rw [hbt] at HB0 HI
          have HI2 : Hid (I = (3, [])) := HI.out.trans (if_neg (by simp))
          clear HI hname
          rw [hat] at HA0
          have hbv := hbt
          clear hat hbv
          go_enter Tryd.func14, Tryd.ntmps14
          go_wp2_with (first | (go_at_call 35; refine HSP.out.mono ?_; rintro e w1 ⟨⟨v1, rfl, ho1⟩, hb1⟩; simp only [hm] at ho1; obtain ⟨A1, k1, rfl, hr1⟩ := ho1.rd; have hmx := hr1.max; have hw := hwrap hmx; obtain ⟨g, off, rfl, hg, hcell⟩ := hr1.at_ (k := 0) (by omega); have a0 := hcell 0 _ (HA0.out); have d0 := hcell ((m + 1) * 3) _ (HB0.out); have d1 := hcell ((m + 1) * 3 + 1) _ (HB1.out); have d2 := hcell ((m + 1) * 3 + 2) _ (HB2.out); rw [Nat.add_zero] at a0; rw [← Nat.add_assoc] at d1 d2; have hbw1 := below_al hb1 (.cells #[.bool false, .int .i64 b.n, .string (bs b.s)] 54); clear ho1 hr1 hcell hmx))
          go_ret2
          exact ⟨by rw [HI2.out, HE.out]; rfl, hbw1⟩
        | true =>
          rw [hbt, hat] at HI
          rw [hat] at HA0
          rw [hbt] at HB0
          cases hnb : nameB b.s with
          | false =>
            rw [hnb] at HI hname
            have HI2 : Hid (I = (3, [])) := HI.out.trans (if_neg (by simp))
            have HN := Lib.hid hname
            clear HI hname hat hnb
            go_enter Tryd.func14, Tryd.ntmps14
            go_wp2_with (first | (go_at_call 35; refine HSP.out.mono ?_; rintro e w1 ⟨⟨v1, rfl, ho1⟩, hb1⟩; simp only [hm] at ho1; obtain ⟨A1, k1, rfl, hr1⟩ := ho1.rd; have hmx := hr1.max; have hw := hwrap hmx; obtain ⟨g, off, rfl, hg, hcell⟩ := hr1.at_ (k := 0) (by omega); have a0 := hcell 0 _ (HA0.out); have d0 := hcell ((m + 1) * 3) _ (HB0.out); have d1 := hcell ((m + 1) * 3 + 1) _ (HB1.out); have d2 := hcell ((m + 1) * 3 + 2) _ (HB2.out); rw [Nat.add_zero] at a0; rw [← Nat.add_assoc] at d1 d2; have hbw1 := below_al hb1 (.cells #[.bool true, .int .i64 b.n, .string (bs b.s)] 54); clear ho1 hr1 hcell hmx) | (go_at_call 36; refine (HN.out _).mono ?_; rintro e w2 ⟨rfl, hb2⟩; have hbw2 := below_tr hbw1 hb2; have q2 := (cell_of_row w2 w1.heap.size 2 _ _ _ ((hb2.block w1.heap.size (by simp)).trans (heap_alloc_new w1 _))).trans (show _ = some (Value.string (bs b.s)) from rfl)))
            go_ret2
            exact ⟨by rw [HI2.out, HE.out]; rfl, hbw2⟩
          | true =>
            rw [hnb] at HI hname
            have HI2 : Hid (I = (0, b.s)) := HI.out.trans (if_pos (by simp))
            have HN := Lib.hid hname
            clear HI hname hat hnb
            go_enter Tryd.func14, Tryd.ntmps14
            go_wp2_with (first | (go_at_call 35; refine HSP.out.mono ?_; rintro e w1 ⟨⟨v1, rfl, ho1⟩, hb1⟩; simp only [hm] at ho1; obtain ⟨A1, k1, rfl, hr1⟩ := ho1.rd; have hmx := hr1.max; have hw := hwrap hmx; obtain ⟨g, off, rfl, hg, hcell⟩ := hr1.at_ (k := 0) (by omega); have a0 := hcell 0 _ (HA0.out); have d0 := hcell ((m + 1) * 3) _ (HB0.out); have d1 := hcell ((m + 1) * 3 + 1) _ (HB1.out); have d2 := hcell ((m + 1) * 3 + 2) _ (HB2.out); rw [Nat.add_zero] at a0; rw [← Nat.add_assoc] at d1 d2; have hbw1 := below_al hb1 (.cells #[.bool true, .int .i64 b.n, .string (bs b.s)] 54); clear ho1 hr1 hcell hmx) | (go_at_call 36; refine (HN.out _).mono ?_; rintro e w2 ⟨rfl, hb2⟩; have hbw2 := below_tr hbw1 hb2; have q2 := (cell_of_row w2 w1.heap.size 2 _ _ _ ((hb2.block w1.heap.size (by simp)).trans (heap_alloc_new w1 _))).trans (show _ = some (Value.string (bs b.s)) from rfl)))
            go_ret2
            exact ⟨by rw [HI2.out]; rfl, hbw2⟩
  · have HI := Lib.hid (h3 he)
    have he0 := errv_pos he
    clear h3 h4 h5 he
    go_enter Tryd.func14, Tryd.ntmps14
    go_wp2_with (first | (go_at_call 35; refine HSP.out.mono ?_; rintro e w1 ⟨⟨v1, rfl, ho1⟩, hb1⟩; obtain ⟨A1, k1, rfl, hr1⟩ := ho1.rd; have HR1 := Lib.hid hr1; clear ho1 hr1))
    go_ret2
    exact ⟨by rw [HI.out, HE.out]; rfl, hb1⟩
end Go.Proofs.YtaecafagmncmiaaDoor
