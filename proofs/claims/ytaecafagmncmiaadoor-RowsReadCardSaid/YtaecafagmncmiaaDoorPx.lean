/-
  The walk of order.part at a text.
-/
import Derived.Test.YtaecafagmncmiaaDoorPt
namespace Go.Proofs.YtaecafagmncmiaaDoor
open Go.RowKit Pu

theorem idx_any (m : Bs) (c : UInt8) (w : World) :
    Calls Tryd.prog 75 #[.string (bs m), .int .u8 (c.toNat : Int)] w fun e w' => e = .returned (.int .i64 (Lib.indexByte m c)) ∧ w = w' := by
  refine (Tryd.strings_IndexByte (bs m) (c.toNat : Int) w).mono fun e w' ⟨h1, h2⟩ => ⟨?_, h2.symm⟩
  rw [h1, bs_data, Lib.byte_back]

set_option maxRecDepth 100000 in
set_option maxHeartbeats 2000000 in
theorem part_text (l : Bs) (w : World) (h0 : l[0]? = some 2) (hl : l.length ≤ 80) :
    Calls Tryd.prog 62 #[.string (bs l)] w fun e w' => PtPost (unesc [] (l.drop 1)).1 ⟨true, 0, (unesc [] (l.drop 1)).2.1⟩ (unesc [] (l.drop 1)).2.2 e ∧ Below w.heap.size w w' := by
  have hpos : 0 < l.length := (List.getElem?_eq_some_iff.1 h0).1
  have hget0 : ∀ h, l[0]'h = 2 := fun h => Option.some.inj ((List.getElem?_eq_getElem h).symm.trans h0)
  have hc1 : (((2 : UInt8).toNat : Int) == 1) = false := rfl
  have hc2 : (((2 : UInt8).toNat : Int) == 2) = true := rfl
  generalize hc : (2 : UInt8) = c at hc1 hc2 hget0
  clear hc h0
  generalize hU : unesc [] (l.drop 1) = U
  have HU := Lib.hid hU
  clear hU
  go_enter Tryd.func62, Tryd.ntmps62
  go_wp2
  clear hget0 hc1 hc2
  go_loopw [8] (fun a wr => ∃ (i : Nat) (acc : Bs), 1 ≤ i ∧ i ≤ l.length ∧ a = .int .i64 i ∧ acc.length ≤ i ∧ unesc acc (l.drop i) = U ∧ wr.heap[w.heap.size]? = some (.cells #[.bool true, .int .i64 0, .string (bs acc)] 54 (0, 0)) ∧ Below w.heap.size w wr) (fun a _ => l.length + 1 - (intOf a).toNat)
  case atStart => exact ⟨1, [], Nat.le_refl _, hpos, rfl, by simp, HU.out, heap_alloc_new w _, below_al (Below.refl _ _) _⟩
  case round =>
    obtain ⟨i, acc, hi1, hi2, rfl, hacc, hun, hblk, hbw⟩ := hrel
    have c0 := (cell_of_row wr w.heap.size 0 _ _ _ hblk).trans (show _ = some (Value.bool true) from rfl)
    have c1 := (cell_of_row wr w.heap.size 1 _ _ _ hblk).trans (show _ = some (Value.int .i64 0) from rfl)
    have c2 := (cell_of_row wr w.heap.size 2 _ _ _ hblk).trans (show _ = some (Value.string (bs acc)) from rfl)
    have f0 := frozen_of_row wr w.heap.size 0 _ _ hblk
    have f1 := frozen_of_row wr w.heap.size 1 _ _ hblk
    have f2 := frozen_of_row wr w.heap.size 2 _ _ hblk
    have s0 := setCell_self (i := 0) hblk (show _ = some (Value.bool true) from rfl)
    have s1 := setCell_self (i := 1) hblk (show _ = some (Value.int .i64 0) from rfl)
    have s2 := setCell_self (i := 2) hblk (show _ = some (Value.string (bs acc)) from rfl)
    have ex1 := bs_from l i
    generalize hm : l.drop i = m at hun ex1
    have hml : m.length = l.length - i := by rw [← hm, List.length_drop]
    have HB := Lib.hid hblk
    have HM := Lib.hid hm
    have HUN := Lib.hid hun
    have HACC := Lib.hid hacc
    have hacc80 : acc.length ≤ 80 := by omega
    clear hblk hm hun hacc
    have hidx := idx_any m 0
    have hge := Lib.indexByte_ge m 0
    by_cases hneg : Lib.indexByte m 0 = -1
    · have hno := Lib.indexByte_none hneg
      have hU : U = (2, [], []) := by rw [← HUN.out]; exact unesc_none acc hno
      have HF : Hid (PtPost U.1 ⟨true, 0, U.2.1⟩ U.2.2 (.returned (.tuple #[.agg #[.bool true, .int .i64 0, .string (bs acc)], .string ⟨#[]⟩, .iface 68 (.int .i64 2)]))) := by
        rw [hU]; exact ⟨⟨true, 0, acc⟩, fun h => absurd h (by decide), rfl⟩
      rw [hneg] at hidx
      clear hno hU hneg hge
      go_wp2_with (go_at_call 75; first | (refine (hidx _).mono ?_; rintro e w' ⟨rfl, rfl⟩) | (rw [ex1]; refine (hidx _).mono ?_; rintro e w' ⟨rfl, rfl⟩))
      refine bodyPost_ret (results_ctt rfl _ _ w.heap.size _ _ _ _ rfl HB.out Tryd.underlying54 rfl (by kernel_rfl)) rfl ?_
      exact ⟨HF.out, hbw⟩
    · obtain ⟨k, hk⟩ := Int.eq_ofNat_of_zero_le (a := Lib.indexByte m 0) (by omega)
      obtain ⟨hmk, hbefore⟩ := Lib.indexByte_some hk
      have hkl : k < m.length := (List.getElem?_eq_some_iff.1 hmk).1
      rw [hk] at hidx
      have hsk := unesc_skip k acc m (by omega) hbefore
      rw [HUN.out] at hsk
      have hdk : m.drop k = 0 :: m.drop (k + 1) := drop_at hmk
      rw [hdk] at hsk
      clear hneg hge hk hbefore hmk
      by_cases hend : i + k + 1 = l.length
      · have hU : U = (2, [], []) := by rw [hsk, List.drop_of_length_le (by omega)]; exact unesc_end _
        have HF : Hid (PtPost U.1 ⟨true, 0, U.2.1⟩ U.2.2 (.returned (.tuple #[.agg #[.bool true, .int .i64 0, .string (bs acc)], .string ⟨#[]⟩, .iface 68 (.int .i64 2)]))) := by
          rw [hU]; exact ⟨⟨true, 0, acc⟩, fun h => absurd h (by decide), rfl⟩
        have hendb : ((i : Int) + (k : Int) + 1 == (l.length : Int)) = true := by rw [beq_iff_eq]; omega
        clear hU hsk hdk hend
        go_wp2_with (go_at_call 75; first | (refine (hidx _).mono ?_; rintro e w' ⟨rfl, rfl⟩) | (rw [ex1]; refine (hidx _).mono ?_; rintro e w' ⟨rfl, rfl⟩))
        refine bodyPost_ret (results_ctt rfl _ _ w.heap.size _ _ _ _ rfl HB.out Tryd.underlying54 rfl (by kernel_rfl)) rfl ?_
        exact ⟨HF.out, hbw⟩
      · have hendb : ((i : Int) + (k : Int) + 1 == (l.length : Int)) = false := by rw [beq_eq_false_iff_ne]; omega
        obtain ⟨d, hd⟩ : ∃ d, m[k + 1]? = some d := ⟨_, List.getElem?_eq_getElem (by omega)⟩
        have hd2 : m.drop (k + 1) = d :: m.drop (k + 2) := drop_at hd
        rw [hd2] at hsk
        have hld : l[i + (k + 1)]? = some d := by rw [← HM.out, List.getElem?_drop] at hd; exact hd
        have hget : ∀ h, l[i + (k + 1)]'h = d := fun h => Option.some.inj ((List.getElem?_eq_getElem h).symm.trans hld)
        have hpiece : (bs l).extract i (i + k) = bs (m.take k) := by rw [bs_extract, HM.out]; congr 2; omega
        have hcat := bs_app acc (m.take k)
        have hdrop : l.drop (i + (k + 2)) = m.drop (k + 2) := by rw [← HM.out, List.drop_drop]
        have hst := heap_setCell_same wr _ 2 _ _ (.string (bs (acc ++ m.take k))) HB.out
        have HSK := Lib.hid hsk
        have HST := Lib.hid hst
        have HDR := Lib.hid hdrop
        have hi79 : i + k + 2 ≤ l.length := by omega
        clear hsk hdk hd hd2 hld hend hst hdrop
        go_wp2_with (go_at_call 75; first | (refine (hidx _).mono ?_; rintro e w' ⟨rfl, rfl⟩) | (rw [ex1]; refine (hidx _).mono ?_; rintro e w' ⟨rfl, rfl⟩))
        go_region
        obtain ⟨W, hW⟩ : ∃ W, W = (wr.setCell ⟨w.heap.size, 2, none⟩ (.string (bs (acc ++ m.take k)))).drew := ⟨_, rfl⟩
        rw [← hW]
        have hblk : W.heap[w.heap.size]? = some (.cells #[.bool true, .int .i64 0, .string (bs (acc ++ m.take k))] 54 (0, 0)) := by rw [hW]; exact HST.out
        have hbW : Below w.heap.size w W := by rw [hW]; exact (hbw.setCell (Nat.le_refl _) _).drew
        clear hW c0 c1 c2 f0 f1 f2 s0 s1 s2 hcat hbw hpiece hidx ex1
        have hal : (acc ++ m.take k).length ≤ i + k := by have := HACC.out; rw [List.length_append, List.length_take]; omega
        generalize acc ++ m.take k = acc2 at hblk HSK hal
        have c0 := (cell_of_row W w.heap.size 0 _ _ _ hblk).trans (show _ = some (Value.bool true) from rfl)
        have c1 := (cell_of_row W w.heap.size 1 _ _ _ hblk).trans (show _ = some (Value.int .i64 0) from rfl)
        have c2 := (cell_of_row W w.heap.size 2 _ _ _ hblk).trans (show _ = some (Value.string (bs acc2)) from rfl)
        have f0 := frozen_of_row W w.heap.size 0 _ _ hblk
        have f1 := frozen_of_row W w.heap.size 1 _ _ hblk
        have f2 := frozen_of_row W w.heap.size 2 _ _ hblk
        have s0 := setCell_self (i := 0) hblk (show _ = some (Value.bool true) from rfl)
        have s1 := setCell_self (i := 1) hblk (show _ = some (Value.int .i64 0) from rfl)
        have s2 := setCell_self (i := 2) hblk (show _ = some (Value.string (bs acc2)) from rfl)
        have hcat := bs_app acc2 [0]
        have hst := heap_setCell_same W _ 2 _ _ (.string (bs (acc2 ++ [0]))) hblk
        have HB2 := Lib.hid hblk
        have HST2 := Lib.hid hst
        have HAL := Lib.hid hal
        have hal80 : acc2.length ≤ 80 := by omega
        have ext : (bs l).extract (i + (k + 2)) l.length = bs (m.drop (k + 2)) := by rw [bs_from, HDR.out]
        clear hblk hst hal
        by_cases hd0 : d = 0
        · have hU : U = (0, acc2, m.drop (k + 2)) := by rw [HSK.out, hd0]; exact unesc_stop _ _
          have HF : Hid (PtPost U.1 ⟨true, 0, U.2.1⟩ U.2.2 (.returned (.tuple #[.agg #[.bool true, .int .i64 0, .string (bs acc2)], .string ((bs l).extract (i + (k + 2)) l.length), .nilIface]))) := by
            rw [hU, ext]; exact ⟨⟨true, 0, acc2⟩, fun _ => rfl, rfl⟩
          have hb0 : ((d.toNat : Int) == 0) = true := by rw [hd0]; rfl
          clear hU hd0 ext
          go_wp2
          go_region
          all_goals (try go_wp2)
          all_goals
            refine bodyPost_ret (results_ctt rfl _ W.drew w.heap.size _ _ _ _ rfl HB2.out Tryd.underlying54 rfl (by kernel_rfl)) rfl ?_
          exact ⟨HF.out, hbW.drew⟩
        by_cases hd1 : d = 255
        · have hU := HSK.out
          rw [hd1, unesc_zero] at hU
          have HU2 := Lib.hid hU
          have hb0 : ((d.toNat : Int) == 0) = false := by rw [hd1]; rfl
          have hb1 : ((d.toNat : Int) == 255) = true := by rw [hd1]; rfl
          clear hU hd0 hd1
          go_wp2
          go_roundw
          case rel => exact ⟨i + k + 2, acc2 ++ [0], by omega, by omega, by go_num, by have := HAL.out; simp; omega, by rw [HU2.out, ← HDR.out, Nat.add_assoc], HST2.out, hbW.setCell (Nat.le_refl _) _⟩
          case measure => simp [intOf]; omega
        · have hU : U = (3, [], []) := by rw [HSK.out]; exact unesc_bad _ _ hd0 hd1
          have HF : Hid (PtPost U.1 ⟨true, 0, U.2.1⟩ U.2.2 (.returned (.tuple #[.agg #[.bool true, .int .i64 0, .string (bs acc2)], .string ⟨#[]⟩, .iface 68 (.int .i64 3)]))) := by
            rw [hU]; exact ⟨⟨true, 0, acc2⟩, fun h => absurd h (by decide), rfl⟩
          have hb0 : ((d.toNat : Int) == 0) = false := by rw [beq_eq_false_iff_ne]; intro h; exact hd0 (UInt8.toNat.inj (by simpa using (by omega : d.toNat = 0)))
          have hb1 : ((d.toNat : Int) == 255) = false := by rw [beq_eq_false_iff_ne]; intro h; exact hd1 (UInt8.toNat.inj (by simpa using (by omega : d.toNat = 255)))
          clear hU hd0 hd1
          go_wp2
          refine bodyPost_ret (results_ctt rfl _ _ w.heap.size _ _ _ _ rfl HB2.out Tryd.underlying54 rfl (by kernel_rfl)) rfl ?_
          exact ⟨HF.out, hbW⟩

theorem part_any (l : Bs) (w : World) (hne : l ≠ []) (hl : l.length ≤ 80) :
    Calls Tryd.prog 62 #[.string (bs l)] w fun e w' => PtPost (partR l).1 (partR l).2.1 (partR l).2.2 e ∧ Below w.heap.size w w' := by
  cases l with
  | nil => exact absurd rfl hne
  | cons c r =>
    by_cases h1 : c = 1
    · subst h1
      by_cases h7 : r.length < 7
      · rw [partR_short h7]; exact part_short r w h7
      · rw [partR_num (by omega)]
        have h := part_num (r.take 7) (r.drop 7) w (by rw [List.length_take]; omega) (by rw [List.length_drop]; simp at hl; omega)
        rw [List.take_append_drop] at h
        refine h.mono fun e w' ⟨h1, h2⟩ => ⟨?_, h2⟩
        split
        · rename_i hm
          rw [if_pos hm, if_pos hm] at h1
          obtain ⟨q, _, hq⟩ := h1
          exact ⟨q, fun h => absurd h (by decide), hq⟩
        · rename_i hm
          rw [if_neg hm, if_neg hm] at h1
          exact h1
    by_cases h2 : c = 2
    · subst h2
      refine (part_text (2 :: r) w rfl hl).mono fun e w' ⟨h1, h3⟩ => ⟨?_, h3⟩
      rw [List.drop_one, List.tail_cons] at h1
      rw [partR, if_neg (by decide), if_pos rfl]
      have hb := (unesc_len r.length [] r (Nat.le_refl _)).2.2
      split
      · rename_i he
        rw [hb he] at h1
        obtain ⟨q, _, hq⟩ := h1
        exact ⟨q, fun h => absurd h he, hq⟩
      · rename_i he
        rw [show (unesc [] r).1 = 0 from by omega] at h1
        exact h1
    · rw [partR_other h1 h2]; exact part_other c r w h1 h2
end Go.Proofs.YtaecafagmncmiaaDoor
