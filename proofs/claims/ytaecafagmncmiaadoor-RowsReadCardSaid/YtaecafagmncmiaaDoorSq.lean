/-
  The walks of palinoderef02.one.
-/
import Derived.Test.YtaecafagmncmiaaDoorSp
namespace Go.Proofs.YtaecafagmncmiaaDoor
open Go.RowKit Pu

def QtPost (er : Nat) (p : Part) (rest : Bs) (e : Ending) : Prop :=
  ∃ q : Part, (er = 0 → q = p) ∧ e = .returned (.tuple #[.agg #[.bool q.text, .int .i64 q.n, .string (bs q.s)], .string (bs rest), .int .i64 (er : Int)])

set_option maxRecDepth 100000 in
set_option maxHeartbeats 1000000 in
theorem one_short (r : Bs) (w : World) (h7 : r.length < 7) :
    Calls Tryd.prog 63 #[.string (bs (1 :: r))] w fun e w' => QtPost 2 noPart [] e ∧ Below w.heap.size w w' := by
  have hc1 : (((1 : UInt8).toNat : Int) == 1) = true := rfl
  have hfin : QtPost 2 noPart [] (.returned (.tuple #[.agg #[.bool false, .int .i64 0, .string ⟨#[]⟩], .string ⟨#[]⟩, .int .i64 2])) := ⟨noPart, fun _ => rfl, rfl⟩
  have HF := Lib.hid hfin
  clear hfin
  generalize hc : (1 : UInt8) = c at hc1 ⊢
  clear hc
  go_enter Tryd.func63, Tryd.ntmps63
  go_wp2
  refine bodyPost_ret (results_ctt rfl _ _ w.heap.size _ _ _ _ rfl (heap_alloc2_old w _ _) Tryd.underlying54 rfl (by kernel_rfl)) rfl ?_
  exact ⟨HF.out, below_al (below_al (Below.refl _ _) _) _⟩

set_option maxRecDepth 100000 in
set_option maxHeartbeats 1000000 in
theorem one_other (c : UInt8) (r : Bs) (w : World) (h1 : c ≠ 1) (h2 : c ≠ 2) :
    Calls Tryd.prog 63 #[.string (bs (c :: r))] w fun e w' => QtPost 3 noPart [] e ∧ Below w.heap.size w w' := by
  have hc1 : ((c.toNat : Int) == 1) = false := by rw [beq_eq_false_iff_ne]; intro h; exact h1 (UInt8.toNat.inj (by simpa using (by omega : c.toNat = 1)))
  have hc2 : ((c.toNat : Int) == 2) = false := by rw [beq_eq_false_iff_ne]; intro h; exact h2 (UInt8.toNat.inj (by simpa using (by omega : c.toNat = 2)))
  have hfin : QtPost 3 noPart [] (.returned (.tuple #[.agg #[.bool false, .int .i64 0, .string ⟨#[]⟩], .string ⟨#[]⟩, .int .i64 3])) := ⟨noPart, fun _ => rfl, rfl⟩
  have HF := Lib.hid hfin
  clear hfin h1 h2
  go_enter Tryd.func63, Tryd.ntmps63
  go_wp2
  refine bodyPost_ret (results_ctt rfl _ _ w.heap.size _ _ _ _ rfl (heap_alloc2_old w _ _) Tryd.underlying54 rfl (by kernel_rfl)) rfl ?_
  exact ⟨HF.out, below_al (below_al (Below.refl _ _) _) _⟩

set_option maxRecDepth 100000 in
set_option maxHeartbeats 1000000 in
theorem one_num (q t : Bs) (w : World) (hq : q.length = 7) (ht : t.length ≤ 80) :
    Calls Tryd.prog 63 #[.string (bs (1 :: (q ++ t)))] w fun e w' => (QtPost (if maxN < beN q then 3 else 0) ⟨false, beN q, []⟩ (if maxN < beN q then [] else t) e) ∧ Below w.heap.size w w' := by
  have hc1 : (((1 : UInt8).toNat : Int) == 1) = true := rfl
  have e2 : (bs (1 :: (q ++ t))).extract 8 (7 + t.length + 1) = bs t := by
    rw [bs_extract, show (1 : UInt8) :: (q ++ t) = (1 :: q) ++ t from rfl, show (8 : Nat) = ((1 : UInt8) :: q).length from by simp [hq], List.drop_left, List.take_of_length_le (by simp; omega)]
  generalize hc : (1 : UInt8) = c at hc1 e2 ⊢
  clear hc
  go_enter Tryd.func63, Tryd.ntmps63
  go_wp2
  go_loopw [6] (fun i wr => ∃ j : Nat, j ≤ 7 ∧ i = .int .i64 ((j + 1 : Nat) : Int) ∧ wr.heap[w.heap.size]? = some (.cells #[.bool false, .int .i64 0, .string ⟨#[]⟩] 54 (0, 0)) ∧ wr.heap[w.heap.size + 1]? = some (.cells #[.bool false, .int .i64 (beN (q.take j) : Nat), .string ⟨#[]⟩] 54 (0, 0)) ∧ Below w.heap.size w wr) (fun i _ => 8 - (intOf i).toNat)
  case atStart => exact ⟨0, by omega, rfl, heap_alloc2_old w _ _, by rw [List.take_zero, beN_nil]; exact heap_alloc2_new w _ _, below_al (below_al (Below.refl _ _) _) _⟩
  case round =>
    obtain ⟨j, hj, rfl, hblk0, hblk, hbw⟩ := hrel
    have hc0 := (cell_of_row wr (w.heap.size + 1) 1 _ _ _ hblk).trans (show _ = some (Value.int .i64 (beN (q.take j) : Nat)) from rfl)
    by_cases hlt : j < 7
    · obtain ⟨x, hx⟩ : ∃ x, q[j]? = some x := ⟨_, List.getElem?_eq_getElem (by omega)⟩
      have hget : ∀ h, (c :: (q ++ t))[j + 1]'h = x := fun h => by
        have : (c :: (q ++ t))[j + 1]? = some x := by rw [List.getElem?_cons_succ, List.getElem?_append_left (by omega), hx]
        exact Option.some.inj ((List.getElem?_eq_getElem h).symm.trans this)
      have hfz := frozen_of_row wr (w.heap.size + 1) 1 _ _ hblk
      have hn1 : beN (q.take j) < 281474976710656 := by
        have h1 := beN_lt (q.take j)
        have h2 : (q.take j).length ≤ 6 := by rw [List.length_take]; omega
        have h3 : 256 ^ (q.take j).length ≤ 256 ^ 6 := Nat.pow_le_pow_right (by omega) h2
        omega
      have hor : (256 : Int) * (beN (q.take j) : Int) + (x.toNat : Int) = (beN (q.take (j + 1)) : Int) := by
        rw [List.take_add_one, hx, Option.toList_some, beN_snoc]; omega
      have hxb := x.toNat_lt
      have hst := heap_setCell_same wr _ 1 _ _ (.int .i64 (beN (q.take (j + 1)) : Nat)) hblk
      have hst0 := (heap_setCell_other wr ⟨w.heap.size + 1, 1, none⟩ w.heap.size (.int .i64 (beN (q.take (j + 1)) : Nat)) (by simp)).trans hblk0
      have HST := Lib.hid hst
      have HST0 := Lib.hid hst0
      have HOR := Lib.hid hor
      clear hst hblk hx hst0 hblk0 hor
      go_wp2
      go_region
      go_wp2
      rw [HOR.out]
      refine ⟨⟨j + 1, by omega, by go_num, HST0.out, HST.out, (hbw.setCell (Nat.le_succ _) _).drew⟩, ?_⟩
      simp [intOf]; omega
    · obtain rfl : j = 7 := by omega
      rw [List.take_of_length_le (by omega)] at hblk hc0
      have c0 := (cell_of_row wr (w.heap.size + 1) 0 _ _ _ hblk).trans (show _ = some (Value.bool false) from rfl)
      have c2 := (cell_of_row wr (w.heap.size + 1) 2 _ _ _ hblk).trans (show _ = some (Value.string ⟨#[]⟩) from rfl)
      have g0 := frozen_of_row wr w.heap.size 0 _ _ hblk0
      have g1 := frozen_of_row wr w.heap.size 1 _ _ hblk0
      have g2 := frozen_of_row wr w.heap.size 2 _ _ hblk0
      have d0 := (cell_of_row wr w.heap.size 0 _ _ _ hblk0).trans (show _ = some (Value.bool false) from rfl)
      have d1 := (cell_of_row wr w.heap.size 1 _ _ _ hblk0).trans (show _ = some (Value.int .i64 0) from rfl)
      have d2 := (cell_of_row wr w.heap.size 2 _ _ _ hblk0).trans (show _ = some (Value.string ⟨#[]⟩) from rfl)
      have s0 := setCell_self (i := 0) hblk0 (show _ = some (Value.bool false) from rfl)
      have hst := heap_setCell_same wr _ 1 _ _ (.int .i64 (beN q : Nat)) hblk0
      have s2 := setCell_self (i := 2) hst (show _ = some (Value.string ⟨#[]⟩) from rfl)
      have HST := Lib.hid hst
      clear hst hblk hblk0
      by_cases hm : 9007199254740991 < beN q
      · have hfin : QtPost 3 ⟨false, beN q, []⟩ [] (.returned (.tuple #[.agg #[.bool false, .int .i64 (beN q : Nat), .string ⟨#[]⟩], .string ⟨#[]⟩, .int .i64 3])) := ⟨⟨false, beN q, []⟩, fun _ => rfl, rfl⟩
        have HF := Lib.hid hfin
        clear hfin
        go_wp2
        refine bodyPost_ret (results_ctt rfl _ _ w.heap.size _ _ _ _ rfl HST.out Tryd.underlying54 rfl (by kernel_rfl)) rfl ?_
        exact ⟨HF.out, hbw.setCell (Nat.le_refl _) _⟩
      · have hfin : QtPost 0 ⟨false, beN q, []⟩ t (.returned (.tuple #[.agg #[.bool false, .int .i64 (beN q : Nat), .string ⟨#[]⟩], .string (bs t), .int .i64 0])) := ⟨⟨false, beN q, []⟩, fun _ => rfl, rfl⟩
        have HF := Lib.hid hfin
        clear hfin
        go_wp2
        go_region
        all_goals (try go_wp2)
        all_goals
          refine bodyPost_ret (results_ctt rfl _ ((wr.setCell ⟨w.heap.size, 1, none⟩ (.int .i64 (beN q : Nat))).drew) w.heap.size _ _ _ _ rfl HST.out Tryd.underlying54 rfl (by kernel_rfl)) rfl ?_
        exact ⟨HF.out, (hbw.setCell (Nat.le_refl _) _).drew⟩

set_option maxRecDepth 100000 in
set_option maxHeartbeats 2000000 in
theorem one_text (l : Bs) (w : World) (h0 : l[0]? = some 2) (hl : l.length ≤ 80) :
    Calls Tryd.prog 63 #[.string (bs l)] w fun e w' => QtPost (unesc [] (l.drop 1)).1 ⟨true, 0, (unesc [] (l.drop 1)).2.1⟩ (unesc [] (l.drop 1)).2.2 e ∧ Below w.heap.size w w' := by
  have hpos : 0 < l.length := (List.getElem?_eq_some_iff.1 h0).1
  have hget0 : ∀ h, l[0]'h = 2 := fun h => Option.some.inj ((List.getElem?_eq_getElem h).symm.trans h0)
  have hc1 : (((2 : UInt8).toNat : Int) == 1) = false := rfl
  have hc2 : (((2 : UInt8).toNat : Int) == 2) = true := rfl
  generalize hc : (2 : UInt8) = c at hc1 hc2 hget0
  clear hc h0
  generalize hU : unesc [] (l.drop 1) = U
  have HU := Lib.hid hU
  clear hU
  have HP := Lib.hid (heap_alloc2_new w (.cells #[.bool false, .int .i64 0, .string ⟨#[]⟩] 54) (.cells #[.bool true, .int .i64 0, .string ⟨#[]⟩] 54))
  have HR := Lib.hid (heap_alloc2_old w (.cells #[.bool false, .int .i64 0, .string ⟨#[]⟩] 54) (.cells #[.bool true, .int .i64 0, .string ⟨#[]⟩] 54))
  have HBB := Lib.hid (below_al (below_al (Below.refl _ w) (.cells #[.bool false, .int .i64 0, .string ⟨#[]⟩] 54)) (.cells #[.bool true, .int .i64 0, .string ⟨#[]⟩] 54))
  have HSZ : Hid (((w.alloc (.cells #[.bool false, .int .i64 0, .string ⟨#[]⟩] 54)).alloc (.cells #[.bool true, .int .i64 0, .string ⟨#[]⟩] 54)).heap.size = w.heap.size + 2) := Lib.hid (by simp only [World.alloc, Array.size_push])
  go_enter Tryd.func63, Tryd.ntmps63
  go_wp2
  obtain ⟨wb, hwb⟩ : ∃ W, W = ((w.alloc (.cells #[.bool false, .int .i64 0, .string ⟨#[]⟩] 54)).alloc (.cells #[.bool true, .int .i64 0, .string ⟨#[]⟩] 54)) := ⟨_, rfl⟩
  rw [← hwb]
  rw [← hwb] at HR HP HBB HSZ
  clear hwb hget0 hc1 hc2
  go_loopw [7, 8] (fun v a wr => ∃ (i : Nat) (acc : Bs), 1 ≤ i ∧ i ≤ l.length ∧ a = .int .i64 i ∧ acc.length ≤ i ∧ unesc acc (l.drop i) = U ∧ Ow wr wb.heap.size 5 1 v acc.length (u8s acc) ∧ Below wb.heap.size wb wr) (fun _ a _ => l.length + 1 - (intOf a).toNat)
  case atStart => exact ⟨1, [], Nat.le_refl _, hpos, rfl, by simp, HU.out, Ow.nil _ _ _ _, Below.refl _ _⟩
  case round =>
    obtain ⟨i, acc, hi1, hi2, rfl, hacc, hun, how, hbw⟩ := hrel
    obtain ⟨A7, c7, rfl, _⟩ := how.rd
    have HRw := Lib.hid ((hbw.block w.heap.size (by rw [HSZ.out]; omega)).trans HR.out)
    have HPw := Lib.hid ((hbw.block (w.heap.size + 1) (by rw [HSZ.out]; omega)).trans HP.out)
    have hbo : Below w.heap.size w wr := HBB.out.trans (hbw.mono (by rw [HSZ.out]; omega))
    have hacc80 : acc.length ≤ 80 := by omega
    have HO := Lib.hid how
    have HACC := Lib.hid hacc
    clear how hacc
    by_cases hend : i = l.length
    · have hU : U = (2, [], []) := by rw [← hun, hend, List.drop_length]; exact unesc_nil _
      subst hend
      clear hun
      have c0 := (cell_of_row wr (w.heap.size + 1) 0 _ _ _ HPw.out).trans (show _ = some (Value.bool true) from rfl)
      have c1 := (cell_of_row wr (w.heap.size + 1) 1 _ _ _ HPw.out).trans (show _ = some (Value.int .i64 0) from rfl)
      have c2 := (cell_of_row wr (w.heap.size + 1) 2 _ _ _ HPw.out).trans (show _ = some (Value.string ⟨#[]⟩) from rfl)
      have d1 := (cell_of_row wr w.heap.size 1 _ _ _ HRw.out).trans (show _ = some (Value.int .i64 0) from rfl)
      have d0 := (cell_of_row wr w.heap.size 0 _ _ _ HRw.out).trans (show _ = some (Value.bool false) from rfl)
      have d2 := (cell_of_row wr w.heap.size 2 _ _ _ HRw.out).trans (show _ = some (Value.string ⟨#[]⟩) from rfl)
      have g0 := frozen_of_row wr w.heap.size 0 _ _ HRw.out
      have g1 := frozen_of_row wr w.heap.size 1 _ _ HRw.out
      have g2 := frozen_of_row wr w.heap.size 2 _ _ HRw.out
      have hst := heap_setCell_same wr _ 0 _ _ (.bool true) HRw.out
      have s1 := setCell_self (i := 1) hst (show _ = some (Value.int .i64 0) from rfl)
      have s2 := setCell_self (i := 2) hst (show _ = some (Value.string ⟨#[]⟩) from rfl)
      have HST := Lib.hid hst
      clear hst
      have HF : Hid (QtPost U.1 ⟨true, 0, U.2.1⟩ U.2.2 (.returned (.tuple #[.agg #[.bool true, .int .i64 0, .string ⟨#[]⟩], .string ⟨#[]⟩, .int .i64 2]))) := by
        rw [hU]; exact ⟨⟨true, 0, []⟩, fun h => absurd h (by decide), rfl⟩
      clear hU
      go_wp2
      refine bodyPost_ret (results_ctt rfl _ _ w.heap.size _ _ _ _ rfl HST.out Tryd.underlying54 rfl (by kernel_rfl)) rfl ?_
      exact ⟨HF.out, hbo.setCell (Nat.le_refl _) _⟩
    · obtain ⟨c, hc⟩ : ∃ c, l[i]? = some c := ⟨_, List.getElem?_eq_getElem (by omega)⟩
      have hget : ∀ h, l[i]'h = c := fun h => Option.some.inj ((List.getElem?_eq_getElem h).symm.trans hc)
      rw [drop_at hc] at hun
      have hlt : i < l.length := by omega
      by_cases hz : c = 0
      · have hcz : ((c.toNat : Int) != 0) = false := by rw [hz]; rfl
        rw [hz] at hun
        by_cases he2 : i + 1 = l.length
        · have hU : U = (2, [], []) := by rw [← hun, he2, List.drop_length]; exact unesc_end _
          have hib : ((i : Int) + 1 == (l.length : Int)) = true := by rw [beq_iff_eq]; omega
          clear hun hz hc
          have c0 := (cell_of_row wr (w.heap.size + 1) 0 _ _ _ HPw.out).trans (show _ = some (Value.bool true) from rfl)
          have c1 := (cell_of_row wr (w.heap.size + 1) 1 _ _ _ HPw.out).trans (show _ = some (Value.int .i64 0) from rfl)
          have c2 := (cell_of_row wr (w.heap.size + 1) 2 _ _ _ HPw.out).trans (show _ = some (Value.string ⟨#[]⟩) from rfl)
          have d1 := (cell_of_row wr w.heap.size 1 _ _ _ HRw.out).trans (show _ = some (Value.int .i64 0) from rfl)
          have d0 := (cell_of_row wr w.heap.size 0 _ _ _ HRw.out).trans (show _ = some (Value.bool false) from rfl)
          have d2 := (cell_of_row wr w.heap.size 2 _ _ _ HRw.out).trans (show _ = some (Value.string ⟨#[]⟩) from rfl)
          have g0 := frozen_of_row wr w.heap.size 0 _ _ HRw.out
          have g1 := frozen_of_row wr w.heap.size 1 _ _ HRw.out
          have g2 := frozen_of_row wr w.heap.size 2 _ _ HRw.out
          have hst := heap_setCell_same wr _ 0 _ _ (.bool true) HRw.out
          have s1 := setCell_self (i := 1) hst (show _ = some (Value.int .i64 0) from rfl)
          have s2 := setCell_self (i := 2) hst (show _ = some (Value.string ⟨#[]⟩) from rfl)
          have HST := Lib.hid hst
          clear hst
          have HF : Hid (QtPost U.1 ⟨true, 0, U.2.1⟩ U.2.2 (.returned (.tuple #[.agg #[.bool true, .int .i64 0, .string ⟨#[]⟩], .string ⟨#[]⟩, .int .i64 2]))) := by
            rw [hU]; exact ⟨⟨true, 0, []⟩, fun h => absurd h (by decide), rfl⟩
          clear hU
          go_wp2
          refine bodyPost_ret (results_ctt rfl _ _ w.heap.size _ _ _ _ rfl HST.out Tryd.underlying54 rfl (by kernel_rfl)) rfl ?_
          exact ⟨HF.out, hbo.setCell (Nat.le_refl _) _⟩
        · have hib : ((i : Int) + 1 == (l.length : Int)) = false := by rw [beq_eq_false_iff_ne]; omega
          obtain ⟨d, hd⟩ : ∃ d, l[i + 1]? = some d := ⟨_, List.getElem?_eq_getElem (by omega)⟩
          have hgetd : ∀ h, l[i + 1]'h = d := fun h => Option.some.inj ((List.getElem?_eq_getElem h).symm.trans hd)
          rw [drop_at hd] at hun
          by_cases hd0 : d = 0
          · rw [hd0, unesc_stop] at hun
            have hb0 : ((d.toNat : Int) == 0) = true := by rw [hd0]; rfl
            have HF : Hid (QtPost U.1 ⟨true, 0, U.2.1⟩ U.2.2 (.returned (.tuple #[.agg #[.bool true, .int .i64 0, .string (bs acc)], .string ((bs l).extract (i + 1 + 1) l.length), .int .i64 0]))) := by
              rw [← hun, bs_from]; exact ⟨⟨true, 0, acc⟩, fun _ => rfl, rfl⟩
            have hst := ow_str Tryd.underlying104 Tryd.underlying5 Tryd.underlying9 HO.out
            have ex1 := bs_from l (i + 2)
            have f2 := frozen_of_row wr (w.heap.size + 1) 2 _ _ HPw.out
            have c0 := (cell_of_row wr (w.heap.size + 1) 0 _ _ _ HPw.out).trans (show _ = some (Value.bool true) from rfl)
            have c1 := (cell_of_row wr (w.heap.size + 1) 1 _ _ _ HPw.out).trans (show _ = some (Value.int .i64 0) from rfl)
            have c2 := (cell_of_row wr (w.heap.size + 1) 2 _ _ _ HPw.out).trans (show _ = some (Value.string ⟨#[]⟩) from rfl)
            have hwo := (heap_setCell_other wr ⟨w.heap.size + 1, 2, none⟩ w.heap.size (.string (bs acc)) (by simp)).trans HRw.out
            have hwp := heap_setCell_same wr _ 2 _ _ (.string (bs acc)) HPw.out
            have HWO := Lib.hid hwo
            have HWP := Lib.hid hwp
            clear hwo hwp hun hd0 hd hc hz
            go_wp2
            obtain ⟨W, hW⟩ : ∃ W, W = wr.setCell ⟨w.heap.size + 1, 2, none⟩ (.string (bs acc)) := ⟨_, rfl⟩
            rw [← hW]
            rw [← hW] at HWO HWP
            have hbW : Below w.heap.size w W := by rw [hW]; exact hbo.setCell (Nat.le_succ _) _
            clear hW c0 c1 c2 f2 hst
            have c0 := (cell_of_row W (w.heap.size + 1) 0 _ _ _ HWP.out).trans (show _ = some (Value.bool true) from rfl)
            have c1 := (cell_of_row W (w.heap.size + 1) 1 _ _ _ HWP.out).trans (show _ = some (Value.int .i64 0) from rfl)
            have c2 := (cell_of_row W (w.heap.size + 1) 2 _ _ _ HWP.out).trans (show _ = some (Value.string (bs acc)) from rfl)
            have d0 := (cell_of_row W w.heap.size 0 _ _ _ HWO.out).trans (show _ = some (Value.bool false) from rfl)
            have d1 := (cell_of_row W w.heap.size 1 _ _ _ HWO.out).trans (show _ = some (Value.int .i64 0) from rfl)
            have d2 := (cell_of_row W w.heap.size 2 _ _ _ HWO.out).trans (show _ = some (Value.string ⟨#[]⟩) from rfl)
            have g0 := frozen_of_row W w.heap.size 0 _ _ HWO.out
            have g1 := frozen_of_row W w.heap.size 1 _ _ HWO.out
            have g2 := frozen_of_row W w.heap.size 2 _ _ HWO.out
            have hst := heap_setCell_same W _ 0 _ _ (.bool true) HWO.out
            have s1 := setCell_self (i := 1) hst (show _ = some (Value.int .i64 0) from rfl)
            have hst2 := heap_setCell_same _ _ 2 _ _ (.string (bs acc)) hst
            have HST := Lib.hid hst2
            clear hst hst2
            go_wp2
            go_region
            all_goals (try go_wp2)
            all_goals
              refine bodyPost_ret (results_ctt rfl _ ((W.setCell ⟨w.heap.size, 0, none⟩ (.bool true)).setCell ⟨w.heap.size, 2, none⟩ (.string (bs acc))).drew w.heap.size _ _ _ _ rfl HST.out Tryd.underlying54 rfl (by kernel_rfl)) rfl ?_
            exact ⟨HF.out, ((hbW.setCell (Nat.le_refl _) _).setCell (Nat.le_refl _) _).drew⟩
          · have hb0 : ((d.toNat : Int) == 0) = false := by rw [beq_eq_false_iff_ne]; intro h; exact hd0 (UInt8.toNat.inj (by simpa using (by omega : d.toNat = 0)))
            by_cases hd1 : d = 255
            · have hb1 : ((d.toNat : Int) != 255) = false := by rw [hd1]; rfl
              rw [hd1, unesc_zero] at hun
              have HUN := Lib.hid hun
              clear hun hz hc hd hd0 hd1
              go_wp2_with (first
                | (at_builtin; refine wpList_lits tU8 rfl _ _ rfl wb.heap.size (.slice A7 acc.length c7) acc.length 1 _ (u8s acc) #[.int .u8 0] rfl rfl (by simp) HO.out rfl (by simp [Value.oneCell']) (by omega) (by omega) hbw.size ?_; intro v2 w2 ho2 hg2 hw2 hb2))
              go_roundw
              case rel => exact ⟨i + 2, acc ++ [0], by omega, by omega, by go_num, by have := HACC.out; simp; omega, HUN.out, (ho2.cast (by simp) (by simp [u8s])), hbw.trans hb2⟩
              case measure => simp [intOf]; omega
            · have hb1 : ((d.toNat : Int) != 255) = true := by rw [bne_iff_ne]; intro h; exact hd1 (UInt8.toNat.inj (by simpa using (by omega : d.toNat = 255)))
              have hU : U = (3, [], []) := by rw [← hun]; exact unesc_bad _ _ hd0 hd1
              clear hun hz hc hd hd0 hd1
              have c0 := (cell_of_row wr (w.heap.size + 1) 0 _ _ _ HPw.out).trans (show _ = some (Value.bool true) from rfl)
              have c1 := (cell_of_row wr (w.heap.size + 1) 1 _ _ _ HPw.out).trans (show _ = some (Value.int .i64 0) from rfl)
              have c2 := (cell_of_row wr (w.heap.size + 1) 2 _ _ _ HPw.out).trans (show _ = some (Value.string ⟨#[]⟩) from rfl)
              have d1 := (cell_of_row wr w.heap.size 1 _ _ _ HRw.out).trans (show _ = some (Value.int .i64 0) from rfl)
              have d0 := (cell_of_row wr w.heap.size 0 _ _ _ HRw.out).trans (show _ = some (Value.bool false) from rfl)
              have d2 := (cell_of_row wr w.heap.size 2 _ _ _ HRw.out).trans (show _ = some (Value.string ⟨#[]⟩) from rfl)
              have g0 := frozen_of_row wr w.heap.size 0 _ _ HRw.out
              have g1 := frozen_of_row wr w.heap.size 1 _ _ HRw.out
              have g2 := frozen_of_row wr w.heap.size 2 _ _ HRw.out
              have hst := heap_setCell_same wr _ 0 _ _ (.bool true) HRw.out
              have s1 := setCell_self (i := 1) hst (show _ = some (Value.int .i64 0) from rfl)
              have s2 := setCell_self (i := 2) hst (show _ = some (Value.string ⟨#[]⟩) from rfl)
              have HST := Lib.hid hst
              clear hst
              have HF : Hid (QtPost U.1 ⟨true, 0, U.2.1⟩ U.2.2 (.returned (.tuple #[.agg #[.bool true, .int .i64 0, .string ⟨#[]⟩], .string ⟨#[]⟩, .int .i64 3]))) := by
                rw [hU]; exact ⟨⟨true, 0, []⟩, fun h => absurd h (by decide), rfl⟩
              clear hU
              go_wp2
              refine bodyPost_ret (results_ctt rfl _ _ w.heap.size _ _ _ _ rfl HST.out Tryd.underlying54 rfl (by kernel_rfl)) rfl ?_
              exact ⟨HF.out, hbo.setCell (Nat.le_refl _) _⟩
      · have hcz : ((c.toNat : Int) != 0) = true := by rw [bne_iff_ne]; intro h; exact hz (UInt8.toNat.inj (by simpa using (by omega : c.toNat = 0)))
        rw [unesc_char _ _ hz] at hun
        have HUN := Lib.hid hun
        clear hun hz hc
        go_wp2_with (first
          | (at_builtin; refine wpList_lits tU8 rfl _ _ rfl wb.heap.size (.slice A7 acc.length c7) acc.length 1 _ (u8s acc) #[.int .u8 (c.toNat : Int)] rfl rfl (by simp) HO.out rfl (by simp [Value.oneCell']) (by omega) (by omega) hbw.size ?_; intro v2 w2 ho2 hg2 hw2 hb2))
        go_roundw
        case rel => exact ⟨i + 1, acc ++ [c], by omega, by omega, by go_num, by have := HACC.out; simp; omega, HUN.out, (ho2.cast (by simp) (by simp [u8s])), hbw.trans hb2⟩
        case measure => simp [intOf]; omega

theorem one_any (l : Bs) (w : World) (hne : l ≠ []) (hl : l.length ≤ 80) :
    Calls Tryd.prog 63 #[.string (bs l)] w fun e w' => QtPost (partR l).1 (partR l).2.1 (partR l).2.2 e ∧ Below w.heap.size w w' := by
  cases l with
  | nil => exact absurd rfl hne
  | cons c r =>
    by_cases h1 : c = 1
    · subst h1
      by_cases h7 : r.length < 7
      · rw [partR_short h7]; exact one_short r w h7
      · rw [partR_num (by omega)]
        have h := one_num (r.take 7) (r.drop 7) w (by rw [List.length_take]; omega) (by rw [List.length_drop]; simp at hl; omega)
        rw [List.take_append_drop] at h
        refine h.mono fun e w' ⟨h1, h2⟩ => ⟨?_, h2⟩
        split
        · rename_i hm
          rw [if_pos hm, if_pos hm] at h1
          obtain ⟨q, _, hq⟩ := h1
          exact ⟨q, fun h => absurd h (by decide), hq⟩
        · rename_i hm
          rw [if_neg hm, if_neg hm] at h1
          exact h1
    by_cases h2 : c = 2
    · subst h2
      refine (one_text (2 :: r) w rfl hl).mono fun e w' ⟨h1, h3⟩ => ⟨?_, h3⟩
      rw [List.drop_one, List.tail_cons] at h1
      rw [partR, if_neg (by decide), if_pos rfl]
      have hb := (unesc_len r.length [] r (Nat.le_refl _)).2.2
      split
      · rename_i he
        rw [hb he] at h1
        obtain ⟨q, _, hq⟩ := h1
        exact ⟨q, fun h => absurd h he, hq⟩
      · rename_i he
        rw [show (unesc [] r).1 = 0 from by omega] at h1
        exact h1
    · rw [partR_other h1 h2]; exact one_other c r w h1 h2
end Go.Proofs.YtaecafagmncmiaaDoor
