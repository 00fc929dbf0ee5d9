/-
  The walk of made.
-/
import Derived.Deep.QuietTactic
import Derived.BigQuiet
import Derived.IntWalk
import Derived.Test.YtaecafagmncmiaaDoorEa
import Derived.Test.YtaecafagmncmiaaDoorPn
namespace Go.Proofs.YtaecafagmncmiaaDoor
open Go.RowKit Pu

set_option maxRecDepth 100000 in
set_option maxHeartbeats 4000000 in
theorem made_any (A1 A2 A3 : Option Addr) (c1 c2 c3 : Nat) (rows l want : List Chg) (w : World) (hr1 : Rd w 3 A1 rows.length (rows.flatMap chgC)) (hr2 : Rd w 3 A2 l.length (l.flatMap chgC)) (hr3 : Rd w 3 A3 want.length (want.flatMap chgC)) (hm : MadeOk rows l want) (hn : rows.length + l.length ≤ 1000000) :
    Calls Tryd.prog 23 #[.slice A1 rows.length c1, .slice A2 l.length c2, .slice A3 want.length c3] w fun e w' => e = .returned (.bool true) ∧ Below w.heap.size w w' := by
  have HR1 := Lib.hid hr1
  have HR2 := Lib.hid hr2
  have HR3 := Lib.hid hr3
  have HM := Lib.hid hm
  have hgd : ∀ (op : BinOp) (x y : Operand) (xs ys : Array Value) (w : World), (eqGuard op 49 x y (.agg xs) (.agg ys)).run Tryd.prog w = .ok () w := fun op x y xs ys w => run_eqGuard_agg w op 49 x y xs ys (by kernel_rfl)
  have HF1 := Lib.hid (fun k W h => lfind_any A1 c1 rows k W h)
  have HF2 := Lib.hid (fun k W h => lfind_any A2 c2 l k W h)
  have HF3 := Lib.hid (fun k W h => lfind_any A3 c3 want k W h)
  clear hr1 hr2 hr3 hm
  go_enter Tryd.func23, Tryd.ntmps23
  go_wp2_with fail
  go_loopw [7, 8] (fun m i wr => ∃ (j n : Nat), j ≤ rows.length ∧ i = .int .i64 j ∧ m = .int .i64 n ∧ n = nKeep (rows.take j) l ∧ Below w.heap.size w wr) (fun _ i _ => rows.length - (intOf i).toNat)
  case atStart => exact ⟨0, 0, Nat.zero_le _, rfl, rfl, by unfold nKeep; rfl, Below.refl _ _⟩
  case round =>
    obtain ⟨j, n, hj, rfl, rfl, hnk, hbr⟩ := hrel
    have hnl : n ≤ rows.length := by
      rw [hnk]; exact Nat.le_trans (nKeep_le _ _) (List.length_take_le' _ _)
    have HNK := Lib.hid hnk
    have HBR := Lib.hid hbr
    clear hnk
    by_cases hlt : j < rows.length
    · obtain ⟨x, hx⟩ : ∃ x, rows[j]? = some x := ⟨_, List.getElem?_eq_getElem hlt⟩
      obtain ⟨g1, o1, rfl, hg1, p0, p1, p2⟩ := (HR1.out.below hbr).three chgC chgC_len hx (u0 := .string (bs x.key)) (u1 := .bool x.drop) (u2 := .string (bs x.value)) rfl
      have HSN := Lib.hid (nKeep_snoc (l := l) hx)
      cases hh : hasK l x.key with
      | true =>
        have hge : 0 ≤ findI l x.key := by
          rcases findI_case l x.key with ⟨h1, _⟩ | ⟨i, c, _, _, _, h4⟩
          · rw [hh] at h1; cases h1
          · rw [h4]; omega
        have HN : Hid (n = nKeep (rows.take (j + 1)) l) := by unfold Hid; rw [HSN.out, hh, if_pos rfl, ← HNK.out]; rfl
        clear hh hx HSN hbr
        go_wp2_with (first
          | (go_at_call 24; go_fit (HF2.out x.key _ (HR2.out.below HBR.out)); rintro e w1 ⟨rfl, rfl⟩))
        go_roundw
        case rel => exact ⟨j + 1, n, by omega, by go_num, rfl, HN.out, HBR.out⟩
        case measure => simp [intOf]; omega
      | false =>
        obtain ⟨q, hq, hfq⟩ := HM.out.keep x (List.mem_of_getElem? hx) hh
        have hql : q < want.length := (List.getElem?_eq_some_iff.1 hq).1
        obtain ⟨g3, o3, rfl, hg3, r0, r1, r2⟩ := (HR3.out.below hbr).three chgC chgC_len hq (u0 := .string (bs x.key)) (u1 := .bool x.drop) (u2 := .string (bs x.value)) rfl
        have HN : Hid (n + 1 = nKeep (rows.take (j + 1)) l) := by unfold Hid; rw [HSN.out, hh, if_neg (by simp), ← HNK.out]
        have HFN := Lib.hid (findI_none hh)
        have HFQ := Lib.hid hfq
        have heq := eqC x x
        simp only [decide_true] at heq
        have hneg : decide ((q : Int) < 0) = false := by simp
        clear hh hx HSN hbr hq hfq
        go_wp2_with (first
          | (go_at_call 24; go_fit (HF2.out x.key _ (HR2.out.below HBR.out)); rintro e w1 ⟨rfl, rfl⟩; rw [HFN.out])
          | (go_at_call 24; go_fit (HF3.out x.key _ (HR3.out.below HBR.out)); rintro e w1 ⟨rfl, rfl⟩; rw [HFQ.out]))
        go_quiet (fail)
        go_wp2_with fail
        go_roundw
        case rel => exact ⟨j + 1, n + 1, by omega, by go_num, by go_num, HN.out, below_n HBR.out _⟩
        case measure => simp [intOf]; omega
    · obtain rfl : j = rows.length := by omega
      have HNR : Hid (n = nKeep rows l) := by unfold Hid; rw [HNK.out, List.take_length]
      have hml := HR2.out.max
      obtain ⟨wo, rfl⟩ : ∃ W, W = wr := ⟨_, rfl⟩
      clear HNK hbr
      go_wp2_with fail
      go_loopw [7, 11] (fun m i wr => ∃ (k n : Nat), k ≤ l.length ∧ i = .int .i64 k ∧ m = .int .i64 n ∧ n = nKeep rows l + nPut (l.take k) ∧ Below w.heap.size w wr) (fun _ i _ => l.length - (intOf i).toNat)
      case atStart => exact ⟨0, n, Nat.zero_le _, rfl, rfl, by rw [← HNR.out]; unfold nPut; rfl, HBR.out⟩
      case round =>
        clear HBR HNR hnl
        obtain ⟨k, n, hk, rfl, rfl, hnk, hbr⟩ := hrel
        have hnl : n ≤ rows.length + l.length := by
          have e1 := nKeep_le rows l
          have e2 := nPut_le (l.take k)
          have e3 := List.length_take_le' k l
          rw [hnk]; omega
        have HNK := Lib.hid hnk
        have HBR := Lib.hid hbr
        clear hnk
        by_cases hlt : k < l.length
        · obtain ⟨x, hx⟩ : ∃ x, l[k]? = some x := ⟨_, List.getElem?_eq_getElem hlt⟩
          have HSN := Lib.hid (nPut_snoc hx)
          cases k with
          | zero =>
            have hxm := List.mem_of_getElem? hx
            obtain ⟨g2, o2, rfl, hg2, p0, p1, p2⟩ := (HR2.out.below hbr).three chgC chgC_len hx (u0 := .string (bs x.key)) (u1 := .bool x.drop) (u2 := .string (bs x.value)) rfl
            rw [Nat.zero_mul, Nat.add_zero] at p0 p1 p2
            cases hd : x.drop with
            | true =>
              obtain ⟨hw1, hw2⟩ := HM.out.drop x hxm hd
              have HFW := Lib.hid (findI_none hw1)
              have hge : 0 ≤ findI rows x.key := by
                rcases findI_case rows x.key with ⟨h1, _⟩ | ⟨i, c, _, _, _, h4⟩
                · rw [hw2] at h1; cases h1
                · rw [h4]; omega
              have hge2 : decide (findI rows x.key < 0) = false := by simpa using hge
              have HN : Hid (n = nKeep rows l + nPut (l.take (0 + 1))) := by unfold Hid; rw [HSN.out, hd, if_pos rfl, HNK.out]; rfl
              rw [hd] at p1
              clear hw1 hw2 hxm hd HSN hx hbr
              go_wp2_with fail
              go_quiet (fail)
              go_wp2_with (first
                | (go_at_call 24; go_fit (HF3.out x.key _ (HR3.out.below (below_n HBR.out _))); rintro e w1 ⟨rfl, rfl⟩; rw [HFW.out])
                | (go_at_call 24; go_fit (HF1.out x.key _ (HR1.out.below (below_n HBR.out _))); rintro e w1 ⟨rfl, rfl⟩))
              go_roundw
              case rel => exact ⟨0 + 1, n, by omega, by go_num, rfl, HN.out, below_n HBR.out _⟩
              case measure => simp [intOf]; omega
            | false =>
              obtain ⟨q, hq, hfq⟩ := HM.out.put x hxm hd
              have hql : q < want.length := (List.getElem?_eq_some_iff.1 hq).1
              obtain ⟨g3, o3, rfl, hg3, r0, r1, r2⟩ := (HR3.out.below hbr).three chgC chgC_len hq (u0 := .string (bs x.key)) (u1 := .bool x.drop) (u2 := .string (bs x.value)) rfl
              have HFQ := Lib.hid hfq
              have HN : Hid (n + 1 = nKeep rows l + nPut (l.take (0 + 1))) := by unfold Hid; rw [HSN.out, hd, if_neg (by simp), HNK.out]; omega
              have heq := eqC x x
              simp only [decide_true] at heq
              rw [hd] at heq p1 r1
              have hneg : decide ((q : Int) < 0) = false := by simp
              clear hxm hd HSN hx hbr hq hfq
              go_wp2_with fail
              go_quiet (fail)
              go_wp2_with (first
                | (go_at_call 24; go_fit (HF3.out x.key _ (HR3.out.below (below_n HBR.out _))); rintro e w1 ⟨rfl, rfl⟩; rw [HFQ.out]))
              go_quiet (fail)
              go_wp2_with fail
              go_roundw
              case rel => exact ⟨0 + 1, n + 1, by omega, by go_num, by go_num, HN.out, below_n HBR.out _⟩
              case measure => simp [intOf]; omega
          | succ k =>
            have hxm := List.mem_of_getElem? hx
            obtain ⟨g2, o2, rfl, hg2, p0, p1, p2⟩ := (HR2.out.below hbr).three chgC chgC_len hx (u0 := .string (bs x.key)) (u1 := .bool x.drop) (u2 := .string (bs x.value)) rfl
            obtain ⟨y, hy⟩ : ∃ y, l[k]? = some y := ⟨_, List.getElem?_eq_getElem (by omega)⟩
            have hlt2 := sorted_at HM.out.sorted hy hx
            obtain ⟨g2', o2', hA', hg2', s0, s1, s2⟩ := (HR2.out.below hbr).three chgC chgC_len hy (u0 := .string (bs y.key)) (u1 := .bool y.drop) (u2 := .string (bs y.value)) rfl
            cases hA'
            have hl1 : Op.bytesLess x.key y.key = false := by rw [bytesLess_ltB]; exact ltB_asymm hlt2
            have hl2 : (x.key == y.key) = false := by
              rw [beq_eq_false_iff_ne]
              intro e
              rw [e, ltB_irrefl] at hlt2
              cases hlt2
            have hwr : IntKind.i64.wrap ((k : Int) + 1 - 1) = (k : Int) := by rw [Int.add_sub_cancel]; exact IntWalk.i64_in _ (by omega)
            clear hy hlt2 s1 s2
            cases hd : x.drop with
            | true =>
              obtain ⟨hw1, hw2⟩ := HM.out.drop x hxm hd
              have HFW := Lib.hid (findI_none hw1)
              have hge : 0 ≤ findI rows x.key := by
                rcases findI_case rows x.key with ⟨h1, _⟩ | ⟨i, c, _, _, _, h4⟩
                · rw [hw2] at h1; cases h1
                · rw [h4]; omega
              have hge2 : decide (findI rows x.key < 0) = false := by simpa using hge
              have HN : Hid (n = nKeep rows l + nPut (l.take (k + 1 + 1))) := by unfold Hid; rw [HSN.out, hd, if_pos rfl, HNK.out]; rfl
              rw [hd] at p1
              clear hw1 hw2 hxm hd HSN hx hbr
              go_wp2_with fail
              go_quiet (fail)
              go_wp2_with (first
                | (go_at_call 24; go_fit (HF3.out x.key _ (HR3.out.below (below_n HBR.out _))); rintro e w1 ⟨rfl, rfl⟩; rw [HFW.out])
                | (go_at_call 24; go_fit (HF1.out x.key _ (HR1.out.below (below_n HBR.out _))); rintro e w1 ⟨rfl, rfl⟩))
              go_roundw
              case rel => exact ⟨k + 1 + 1, n, by omega, by go_num, rfl, HN.out, below_n HBR.out _⟩
              case measure => simp [intOf]; omega
            | false =>
              obtain ⟨q, hq, hfq⟩ := HM.out.put x hxm hd
              have hql : q < want.length := (List.getElem?_eq_some_iff.1 hq).1
              obtain ⟨g3, o3, rfl, hg3, r0, r1, r2⟩ := (HR3.out.below hbr).three chgC chgC_len hq (u0 := .string (bs x.key)) (u1 := .bool x.drop) (u2 := .string (bs x.value)) rfl
              have HFQ := Lib.hid hfq
              have HN : Hid (n + 1 = nKeep rows l + nPut (l.take (k + 1 + 1))) := by unfold Hid; rw [HSN.out, hd, if_neg (by simp), HNK.out]; omega
              have heq := eqC x x
              simp only [decide_true] at heq
              rw [hd] at heq p1 r1
              have hneg : decide ((q : Int) < 0) = false := by simp
              clear hxm hd HSN hx hbr hq hfq
              go_wp2_with fail
              go_quiet (fail)
              go_wp2_with (first
                | (go_at_call 24; go_fit (HF3.out x.key _ (HR3.out.below (below_n HBR.out _))); rintro e w1 ⟨rfl, rfl⟩; rw [HFQ.out]))
              go_quiet (fail)
              go_wp2_with fail
              go_roundw
              case rel => exact ⟨k + 1 + 1, n + 1, by omega, by go_num, by go_num, HN.out, below_n HBR.out _⟩
              case measure => simp [intOf]; omega
        · obtain rfl : k = l.length := by omega
          have HC : Hid (n = want.length) := by
            have := made_count HM.out
            unfold Hid
            rw [HNK.out, List.take_length]; exact this
          obtain rfl := HC.out
          go_wp2_with fail
          go_ret
          exact ⟨rfl, HBR.out⟩
end Go.Proofs.YtaecafagmncmiaaDoor
