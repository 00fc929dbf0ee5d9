/-
  The walk of RowsApart.
-/
import Derived.Test.YtaecafagmncmiaaDoorEa
import Derived.Test.YtaecafagmncmiaaDoorPo
namespace Go.Proofs.YtaecafagmncmiaaDoor
open Go.RowKit Pu

theorem apart_keys {x y : Inst} (hx : okI x = true) (hy : okI y = true) (hne : x.id ≠ y.id) {c d : Chg} (hc : c ∈ rowsI x) (hd : d ∈ rowsI y) : c.key ≠ d.key := by
  intro e
  have h1 := (rows_id hx hc).1
  have h2 := (rows_id hy hd).1
  rw [e, h2] at h1
  exact hne (congrArg Prod.snd h1).symm
theorem diff_rows {x y : Inst} (hx : okI x = true) (hy : okI y = true) : diffB (rowsI x) (rowsI y) = (0, diffL (rowsI x) (rowsI y)) ∧ (diffL (rowsI x) (rowsI y) = [] ↔ x = y) := by
  refine ⟨diffB_ok (rowsB_rowsI hx) (rowsB_rowsI hy), ?_⟩
  rw [diffL_none (rowsI_sorted hx) (rowsI_sorted hy) (fun c hc => (rows_id hx hc).2) (fun c hc => (rows_id hy hc).2)]
  exact ⟨fun h => rowsI_inj hx hy h, fun h => by rw [h]⟩
theorem rows_max {x : Inst} (h : okI x = true) : ∀ c ∈ rowsI x, c.key.length ≤ 9223372036854775807 ∧ c.value.length ≤ 9223372036854775807 := by
  intro c hc
  have hb := instTo_len h 5 (by omega)
  rw [show instTo x 5 = instB x from by unfold instB; rfl] at hb
  have hk : ∀ k ps v, (rowC k ps v).key.length ≤ 80 := fun k ps v => by rw [rowC_keyB]; exact keyB_len _
  rcases rowsI_mem.1 hc with rfl | rfl | ⟨_, rfl⟩ | rfl | ⟨_, rfl⟩
  all_goals
    rw [rowC_value]
    exact ⟨Nat.le_trans (hk _ _ _) (by omega), by first | omega | simp⟩
theorem rows_few (x : Inst) : (rowsI x).length ≤ 5 := by rw [rowsI_len]; cases x.out <;> by_cases h : x.due = 0 <;> simp [h]
/-- rows.Of of a good instance -/
theorem of_good (x : Inst) (W : World) (hok : okI x = true) (hg : Glob W) : Calls Tryd.prog 22 #[.agg #[.string (bs x.id), .string (bs x.dfn), .int .i64 x.status, .int .i64 x.at_, .int .i64 x.tries, .int .i64 x.due, .bool x.out]] W fun e w' => (∃ v, e = .returned (.tuple #[v, .nilIface]) ∧ Ow w' W.heap.size 49 3 v (rowsI x).length ((rowsI x).flatMap chgC)) ∧ Below W.heap.size W w' := by
  have h1 := nameB_len (okI_names hok).1
  have h2 := nameB_len (okI_names hok).2
  refine (of_any x W (by omega) (by omega) hg).mono fun e w' ⟨⟨v, he, ho⟩, hb⟩ => ?_
  rw [ofB, if_pos hok] at he ho
  exact ⟨⟨v, he, ho⟩, hb⟩
theorem of_poor (x : Inst) (W : World) (hl1 : x.id.length ≤ 9223372036854775807) (hl2 : x.dfn.length ≤ 9223372036854775807) (hok : okI x = false) (hg : Glob W) : Calls Tryd.prog 22 #[.agg #[.string (bs x.id), .string (bs x.dfn), .int .i64 x.status, .int .i64 x.at_, .int .i64 x.tries, .int .i64 x.due, .bool x.out]] W fun e w' => (∃ v, e = .returned (.tuple #[v, .iface 68 (.int .i64 1)]) ∧ Ow w' W.heap.size 49 3 v 0 []) ∧ Below W.heap.size W w' := by
  refine (of_any x W hl1 hl2 hg).mono fun e w' ⟨⟨v, he, ho⟩, hb⟩ => ?_
  rw [ofB, if_neg (by simp [hok])] at he ho
  have e1 : errv 1 = .iface 68 (.int .i64 1) := errv_pos (by omega)
  exact ⟨⟨v, by rw [he, ← e1], ho⟩, hb⟩
set_option maxRecDepth 100000 in
set_option maxHeartbeats 2000000 in
theorem rowsApart_bx (x y : Inst) (w : World) (hl1 : x.id.length ≤ 9223372036854775807) (hd1 : x.dfn.length ≤ 9223372036854775807) (hl2 : y.id.length ≤ 9223372036854775807) (hd2 : y.dfn.length ≤ 9223372036854775807) (hg : Glob w) (hx : okI x = false) :
    Calls Tryd.prog 6 #[instV x, instV y] w fun e w' => e = .returned (.bool true) ∧ Below w.heap.size w w' := by
  have HEX := Lib.hid (fun W h => examples_any W h)
  have HG := Lib.hid hg
  have HB0 := Lib.hid (below_al (below_al (Below.refl _ w) (.cells #[.string (bs x.id), .string (bs x.dfn), .int .i64 x.status, .int .i64 x.at_, .int .i64 x.tries, .int .i64 x.due, .bool x.out] 25)) (.cells #[.string (bs y.id), .string (bs y.dfn), .int .i64 y.status, .int .i64 y.at_, .int .i64 y.tries, .int .i64 y.due, .bool y.out] 25))
  have HX0 := Lib.hid (heap_alloc2_old w (.cells #[.string (bs x.id), .string (bs x.dfn), .int .i64 x.status, .int .i64 x.at_, .int .i64 x.tries, .int .i64 x.due, .bool x.out] 25) (.cells #[.string (bs y.id), .string (bs y.dfn), .int .i64 y.status, .int .i64 y.at_, .int .i64 y.tries, .int .i64 y.due, .bool y.out] 25))
  have HY0 := Lib.hid (heap_alloc2_new w (.cells #[.string (bs x.id), .string (bs x.dfn), .int .i64 x.status, .int .i64 x.at_, .int .i64 x.tries, .int .i64 x.due, .bool x.out] 25) (.cells #[.string (bs y.id), .string (bs y.dfn), .int .i64 y.status, .int .i64 y.at_, .int .i64 y.tries, .int .i64 y.due, .bool y.out] 25))
  have HOX := Lib.hid (fun W h => of_poor x W hl1 hd1 hx h)
  cases hy : okI y with
  | false =>
    have HOY := Lib.hid (fun W h => of_poor y W hl2 hd2 hy h)
    clear hg hx hy
    unfold instV
    go_enter Tryd.func6, Tryd.ntmps6
    go_wp2_with (first
      | (go_at_call 11; go_fit (HEX.out _ (HG.out.below HB0.out)); rintro e w1 ⟨rfl, hb1⟩; have hx1 := (hb1.block w.heap.size (by simp; omega)).trans HX0.out; have hy1 := (hb1.block (w.heap.size + 1) (by simp)).trans HY0.out; have hlx1 := (Array.getElem?_eq_some_iff.1 hx1).1; have hly1 := (Array.getElem?_eq_some_iff.1 hy1).1; obtain ⟨c0, c1, c2, c3, c4, c5, c6⟩ := cells7 hx1; have HX1 := Lib.hid hx1; have HY1 := Lib.hid hy1; have hbw1 := below_tr HB0.out hb1; clear hx1 hy1)
      | (go_at_call 22; go_fit (HOX.out w1 (HG.out.below hbw1)); rintro e w2 ⟨⟨v2, rfl, ho2⟩, hb2⟩; obtain ⟨A2, k2, rfl, hr2⟩ := ho2.rd; have HR2 := Lib.hid hr2; have hy2 := (hb2.block (w.heap.size + 1) hly1).trans HY1.out; have HX2 := Lib.hid ((hb2.block w.heap.size hlx1).trans HX1.out); have hly2 := (Array.getElem?_eq_some_iff.1 hy2).1; clear c0 c1 c2 c3 c4 c5 c6; obtain ⟨c0, c1, c2, c3, c4, c5, c6⟩ := cells7 hy2; have HY2 := Lib.hid hy2; have hbw2 := below_tr hbw1 hb2; clear hy2 ho2 hr2)
      | (go_at_call 22; go_fit (HOY.out w2 (HG.out.below hbw2)); rintro e w3 ⟨⟨v3, rfl, ho3⟩, hb3⟩; obtain ⟨A3, k3, rfl, hr3⟩ := ho3.rd; have HR3 := Lib.hid hr3; have hlx2 := (Array.getElem?_eq_some_iff.1 HX2.out).1; have HX3 := Lib.hid ((hb3.block w.heap.size hlx2).trans HX2.out); have HY3 := Lib.hid ((hb3.block (w.heap.size + 1) hly2).trans HY2.out); have HR2b := Lib.hid (HR2.out.below hb3); have hbw3 := below_tr hbw2 hb3; clear ho3 hr3 c0 c1 c2 c3 c4 c5 c6))
    go_ret
    exact ⟨rfl, hbw3⟩
  | true =>
    have HOY := Lib.hid (fun W h => of_good y W hy h)
    clear hg hx hy
    unfold instV
    go_enter Tryd.func6, Tryd.ntmps6
    go_wp2_with (first
      | (go_at_call 11; go_fit (HEX.out _ (HG.out.below HB0.out)); rintro e w1 ⟨rfl, hb1⟩; have hx1 := (hb1.block w.heap.size (by simp; omega)).trans HX0.out; have hy1 := (hb1.block (w.heap.size + 1) (by simp)).trans HY0.out; have hlx1 := (Array.getElem?_eq_some_iff.1 hx1).1; have hly1 := (Array.getElem?_eq_some_iff.1 hy1).1; obtain ⟨c0, c1, c2, c3, c4, c5, c6⟩ := cells7 hx1; have HX1 := Lib.hid hx1; have HY1 := Lib.hid hy1; have hbw1 := below_tr HB0.out hb1; clear hx1 hy1)
      | (go_at_call 22; go_fit (HOX.out w1 (HG.out.below hbw1)); rintro e w2 ⟨⟨v2, rfl, ho2⟩, hb2⟩; obtain ⟨A2, k2, rfl, hr2⟩ := ho2.rd; have HR2 := Lib.hid hr2; have hy2 := (hb2.block (w.heap.size + 1) hly1).trans HY1.out; have HX2 := Lib.hid ((hb2.block w.heap.size hlx1).trans HX1.out); have hly2 := (Array.getElem?_eq_some_iff.1 hy2).1; clear c0 c1 c2 c3 c4 c5 c6; obtain ⟨c0, c1, c2, c3, c4, c5, c6⟩ := cells7 hy2; have HY2 := Lib.hid hy2; have hbw2 := below_tr hbw1 hb2; clear hy2 ho2 hr2)
      | (go_at_call 22; go_fit (HOY.out w2 (HG.out.below hbw2)); rintro e w3 ⟨⟨v3, rfl, ho3⟩, hb3⟩; obtain ⟨A3, k3, rfl, hr3⟩ := ho3.rd; have HR3 := Lib.hid hr3; have hlx2 := (Array.getElem?_eq_some_iff.1 HX2.out).1; have HX3 := Lib.hid ((hb3.block w.heap.size hlx2).trans HX2.out); have HY3 := Lib.hid ((hb3.block (w.heap.size + 1) hly2).trans HY2.out); have HR2b := Lib.hid (HR2.out.below hb3); have hbw3 := below_tr hbw2 hb3; clear ho3 hr3 c0 c1 c2 c3 c4 c5 c6))
    go_ret
    exact ⟨rfl, hbw3⟩
set_option maxRecDepth 100000 in
set_option maxHeartbeats 2000000 in
theorem rowsApart_by (x y : Inst) (w : World) (_hl1 : x.id.length ≤ 9223372036854775807) (_hd1 : x.dfn.length ≤ 9223372036854775807) (hl2 : y.id.length ≤ 9223372036854775807) (hd2 : y.dfn.length ≤ 9223372036854775807) (hg : Glob w) (hx : okI x = true) (hy : okI y = false) :
    Calls Tryd.prog 6 #[instV x, instV y] w fun e w' => e = .returned (.bool true) ∧ Below w.heap.size w w' := by
  have HEX := Lib.hid (fun W h => examples_any W h)
  have HG := Lib.hid hg
  have HB0 := Lib.hid (below_al (below_al (Below.refl _ w) (.cells #[.string (bs x.id), .string (bs x.dfn), .int .i64 x.status, .int .i64 x.at_, .int .i64 x.tries, .int .i64 x.due, .bool x.out] 25)) (.cells #[.string (bs y.id), .string (bs y.dfn), .int .i64 y.status, .int .i64 y.at_, .int .i64 y.tries, .int .i64 y.due, .bool y.out] 25))
  have HX0 := Lib.hid (heap_alloc2_old w (.cells #[.string (bs x.id), .string (bs x.dfn), .int .i64 x.status, .int .i64 x.at_, .int .i64 x.tries, .int .i64 x.due, .bool x.out] 25) (.cells #[.string (bs y.id), .string (bs y.dfn), .int .i64 y.status, .int .i64 y.at_, .int .i64 y.tries, .int .i64 y.due, .bool y.out] 25))
  have HY0 := Lib.hid (heap_alloc2_new w (.cells #[.string (bs x.id), .string (bs x.dfn), .int .i64 x.status, .int .i64 x.at_, .int .i64 x.tries, .int .i64 x.due, .bool x.out] 25) (.cells #[.string (bs y.id), .string (bs y.dfn), .int .i64 y.status, .int .i64 y.at_, .int .i64 y.tries, .int .i64 y.due, .bool y.out] 25))
  have HOX := Lib.hid (fun W h => of_good x W hx h)
  have HOY := Lib.hid (fun W h => of_poor y W hl2 hd2 hy h)
  clear hg hx hy
  unfold instV
  go_enter Tryd.func6, Tryd.ntmps6
  go_wp2_with (first
    | (go_at_call 11; go_fit (HEX.out _ (HG.out.below HB0.out)); rintro e w1 ⟨rfl, hb1⟩; have hx1 := (hb1.block w.heap.size (by simp; omega)).trans HX0.out; have hy1 := (hb1.block (w.heap.size + 1) (by simp)).trans HY0.out; have hlx1 := (Array.getElem?_eq_some_iff.1 hx1).1; have hly1 := (Array.getElem?_eq_some_iff.1 hy1).1; obtain ⟨c0, c1, c2, c3, c4, c5, c6⟩ := cells7 hx1; have HX1 := Lib.hid hx1; have HY1 := Lib.hid hy1; have hbw1 := below_tr HB0.out hb1; clear hx1 hy1)
    | (go_at_call 22; go_fit (HOX.out w1 (HG.out.below hbw1)); rintro e w2 ⟨⟨v2, rfl, ho2⟩, hb2⟩; obtain ⟨A2, k2, rfl, hr2⟩ := ho2.rd; have HR2 := Lib.hid hr2; have hy2 := (hb2.block (w.heap.size + 1) hly1).trans HY1.out; have HX2 := Lib.hid ((hb2.block w.heap.size hlx1).trans HX1.out); have hly2 := (Array.getElem?_eq_some_iff.1 hy2).1; clear c0 c1 c2 c3 c4 c5 c6; obtain ⟨c0, c1, c2, c3, c4, c5, c6⟩ := cells7 hy2; have HY2 := Lib.hid hy2; have hbw2 := below_tr hbw1 hb2; clear hy2 ho2 hr2)
    | (go_at_call 22; go_fit (HOY.out w2 (HG.out.below hbw2)); rintro e w3 ⟨⟨v3, rfl, ho3⟩, hb3⟩; obtain ⟨A3, k3, rfl, hr3⟩ := ho3.rd; have HR3 := Lib.hid hr3; have hlx2 := (Array.getElem?_eq_some_iff.1 HX2.out).1; have HX3 := Lib.hid ((hb3.block w.heap.size hlx2).trans HX2.out); have HY3 := Lib.hid ((hb3.block (w.heap.size + 1) hly2).trans HY2.out); have HR2b := Lib.hid (HR2.out.below hb3); have hbw3 := below_tr hbw2 hb3; clear ho3 hr3 c0 c1 c2 c3 c4 c5 c6))
  go_ret
  exact ⟨rfl, hbw3⟩
set_option maxRecDepth 100000 in
set_option maxHeartbeats 2000000 in
theorem rowsApart_ok (x y : Inst) (w : World) (_hl1 : x.id.length ≤ 9223372036854775807) (_hd1 : x.dfn.length ≤ 9223372036854775807) (_hl2 : y.id.length ≤ 9223372036854775807) (_hd2 : y.dfn.length ≤ 9223372036854775807) (hg : Glob w) (hx : okI x = true) (hy : okI y = true) :
    Calls Tryd.prog 6 #[instV x, instV y] w fun e w' => e = .returned (.bool true) ∧ Below w.heap.size w w' := by
  have HEX := Lib.hid (fun W h => examples_any W h)
  have HG := Lib.hid hg
  have HB0 := Lib.hid (below_al (below_al (Below.refl _ w) (.cells #[.string (bs x.id), .string (bs x.dfn), .int .i64 x.status, .int .i64 x.at_, .int .i64 x.tries, .int .i64 x.due, .bool x.out] 25)) (.cells #[.string (bs y.id), .string (bs y.dfn), .int .i64 y.status, .int .i64 y.at_, .int .i64 y.tries, .int .i64 y.due, .bool y.out] 25))
  have HX0 := Lib.hid (heap_alloc2_old w (.cells #[.string (bs x.id), .string (bs x.dfn), .int .i64 x.status, .int .i64 x.at_, .int .i64 x.tries, .int .i64 x.due, .bool x.out] 25) (.cells #[.string (bs y.id), .string (bs y.dfn), .int .i64 y.status, .int .i64 y.at_, .int .i64 y.tries, .int .i64 y.due, .bool y.out] 25))
  have HY0 := Lib.hid (heap_alloc2_new w (.cells #[.string (bs x.id), .string (bs x.dfn), .int .i64 x.status, .int .i64 x.at_, .int .i64 x.tries, .int .i64 x.due, .bool x.out] 25) (.cells #[.string (bs y.id), .string (bs y.dfn), .int .i64 y.status, .int .i64 y.at_, .int .i64 y.tries, .int .i64 y.due, .bool y.out] 25))
  have HOX := Lib.hid (fun W h => of_good x W hx h)
  have HOY := Lib.hid (fun W h => of_good y W hy h)
  obtain ⟨hdb, hdn⟩ := diff_rows hx hy
  have hf1 := rows_few x
  have hf2 := rows_few y
  have hdi : ∀ A c A' c' W, Rd W 3 A (rowsI x).length ((rowsI x).flatMap chgC) → Rd W 3 A' (rowsI y).length ((rowsI y).flatMap chgC) → Calls Tryd.prog 19 #[.slice A (rowsI x).length c, .slice A' (rowsI y).length c'] W fun e w' => (∃ v, e = .returned (.tuple #[v, .nilIface]) ∧ Ow w' W.heap.size 49 3 v (diffL (rowsI x) (rowsI y)).length ((diffL (rowsI x) (rowsI y)).flatMap chgC)) ∧ Below W.heap.size W w' := fun A c A' c' W h1 h2 =>
    (diff_any A A' c c' (rowsI x) (rowsI y) W h1 h2 (rows_max hx) (rows_max hy) (by omega)).mono fun e w' ⟨⟨v, he, ho⟩, hb⟩ => by
      rw [hdb] at he ho
      exact ⟨⟨v, he, ho⟩, hb⟩
  have HDI := Lib.hid hdi
  have HKEY : Hid (x.id ≠ y.id → ∀ c ∈ rowsI x, ∀ d ∈ rowsI y, c.key ≠ d.key) := fun hne c hc d hd => apart_keys hx hy hne hc hd
  have HDN := Lib.hid hdn
  clear hg hx hy hdi hdb hdn
  generalize rowsI x = L1 at HOX HDI HKEY HDN hf1
  generalize rowsI y = L2 at HOY HDI HKEY HDN hf2
  generalize diffL L1 L2 = D at HDI HDN
  have heq := eqI x y
  have hgd : ∀ (op : BinOp) (a b : Operand) (xs ys : Array Value) (w : World), (eqGuard op 25 a b (.agg xs) (.agg ys)).run Tryd.prog w = .ok () w := fun op a b xs ys w => run_eqGuard_agg w op 25 a b xs ys (by kernel_rfl)
  have HEQ := Lib.hid heq
  clear heq
  unfold instV
  go_enter Tryd.func6, Tryd.ntmps6
  go_wp2_with (first
    | (go_at_call 11; go_fit (HEX.out _ (HG.out.below HB0.out)); rintro e w1 ⟨rfl, hb1⟩; have hx1 := (hb1.block w.heap.size (by simp; omega)).trans HX0.out; have hy1 := (hb1.block (w.heap.size + 1) (by simp)).trans HY0.out; have hlx1 := (Array.getElem?_eq_some_iff.1 hx1).1; have hly1 := (Array.getElem?_eq_some_iff.1 hy1).1; obtain ⟨c0, c1, c2, c3, c4, c5, c6⟩ := cells7 hx1; have HX1 := Lib.hid hx1; have HY1 := Lib.hid hy1; have hbw1 := below_tr HB0.out hb1; clear hx1 hy1)
    | (go_at_call 22; go_fit (HOX.out w1 (HG.out.below hbw1)); rintro e w2 ⟨⟨v2, rfl, ho2⟩, hb2⟩; obtain ⟨A2, k2, rfl, hr2⟩ := ho2.rd; have HR2 := Lib.hid hr2; have hy2 := (hb2.block (w.heap.size + 1) hly1).trans HY1.out; have HX2 := Lib.hid ((hb2.block w.heap.size hlx1).trans HX1.out); have hly2 := (Array.getElem?_eq_some_iff.1 hy2).1; clear c0 c1 c2 c3 c4 c5 c6; obtain ⟨c0, c1, c2, c3, c4, c5, c6⟩ := cells7 hy2; have HY2 := Lib.hid hy2; have hbw2 := below_tr hbw1 hb2; clear hy2 ho2 hr2)
    | (go_at_call 22; go_fit (HOY.out w2 (HG.out.below hbw2)); rintro e w3 ⟨⟨v3, rfl, ho3⟩, hb3⟩; obtain ⟨A3, k3, rfl, hr3⟩ := ho3.rd; have HR3 := Lib.hid hr3; have hlx2 := (Array.getElem?_eq_some_iff.1 HX2.out).1; have HX3 := Lib.hid ((hb3.block w.heap.size hlx2).trans HX2.out); have HY3 := Lib.hid ((hb3.block (w.heap.size + 1) hly2).trans HY2.out); have HR2b := Lib.hid (HR2.out.below hb3); have hbw3 := below_tr hbw2 hb3; clear ho3 hr3 c0 c1 c2 c3 c4 c5 c6))
  have hlx3 := (Array.getElem?_eq_some_iff.1 HX3.out).1
  have hly3 := (Array.getElem?_eq_some_iff.1 HY3.out).1
  go_loopw [10] (fun i wr => ∃ j : Nat, j ≤ L1.length ∧ i = .int .i64 j ∧ Below w3.heap.size w3 wr) (fun i _ => L1.length - (intOf i).toNat)
  case atStart => exact ⟨0, Nat.zero_le _, rfl, Below.refl _ _⟩
  case round =>
    obtain ⟨j, hj, rfl, hbr⟩ := hrel
    by_cases hlt : j < L1.length
    · obtain ⟨c, hc⟩ : ∃ c, L1[j]? = some c := ⟨_, List.getElem?_eq_getElem hlt⟩
      have HC := Lib.hid hc
      have HBR := Lib.hid hbr
      obtain ⟨wo, rfl⟩ : ∃ W, W = wr := ⟨_, rfl⟩
      clear hc hbr
      go_wp2_with fail
      go_loopw [11] (fun i wr => ∃ k : Nat, k ≤ L2.length ∧ i = .int .i64 k ∧ Below w3.heap.size w3 wr) (fun i _ => L2.length - (intOf i).toNat)
      case atStart => exact ⟨0, Nat.zero_le _, rfl, HBR.out⟩
      case round =>
        obtain ⟨k, hk, rfl, hbr⟩ := hrel
        by_cases hlk : k < L2.length
        · obtain ⟨d, hd⟩ : ∃ d, L2[k]? = some d := ⟨_, List.getElem?_eq_getElem hlk⟩
          obtain ⟨g1, o1, rfl, hg1, p0, p1, p2⟩ := (HR2b.out.below hbr).three chgC chgC_len HC.out (u0 := .string (bs c.key)) (u1 := .bool c.drop) (u2 := .string (bs c.value)) rfl
          obtain ⟨g2, o2, rfl, hg2, q0, q1, q2⟩ := (HR3.out.below hbr).three chgC chgC_len hd (u0 := .string (bs d.key)) (u1 := .bool d.drop) (u2 := .string (bs d.value)) rfl
          have hxx := (hbr.block w.heap.size hlx3).trans HX3.out
          have hyy := (hbr.block (w.heap.size + 1) hly3).trans HY3.out
          obtain ⟨c0, c1, c2, c3, c4, c5, c6⟩ := cells7 hxx
          obtain ⟨d0, d1, d2, d3, d4, d5, d6⟩ := cells7 hyy
          have hmc := List.mem_of_getElem? HC.out
          have hmd := List.mem_of_getElem? hd
          clear hxx hyy hd
          by_cases hid : x.id = y.id
          · have he1 : (x.id == y.id) = true := by simpa using hid
            have he2 : (x.id != y.id) = false := by simpa using hid
            clear hid hmc hmd
            go_wp2_with fail
            go_quiet (fail)
            go_wp2_with fail
            go_roundw
            case rel => exact ⟨k + 1, by omega, by go_num, below_n hbr _⟩
            case measure => simp [intOf]; omega
          · have hke := HKEY.out hid c hmc d hmd
            have he1 : (x.id == y.id) = false := by simpa using hid
            have he2 : (x.id != y.id) = true := by simpa using hid
            have he3 : (c.key == d.key) = false := by simpa using hke
            clear hid hmc hmd hke
            go_wp2_with fail
            go_quiet (fail)
            go_wp2_with fail
            go_roundw
            case rel => exact ⟨k + 1, by omega, by go_num, below_n hbr _⟩
            case measure => simp [intOf]; omega
        · obtain rfl : k = L2.length := by omega
          go_wp2_with fail
          go_roundw
          case rel => exact ⟨j + 1, by omega, by go_num, hbr⟩
          case measure => simp [intOf]; omega
    · obtain rfl : j = L1.length := by omega
      have HBR := Lib.hid hbr
      clear hbr
      by_cases hxy : x = y
      · have hde : decide (x = y) = true := by simpa using hxy
        have hz : D.length = 0 := by rw [HDN.out.2 hxy]; rfl
        have heq := HEQ.out
        rw [hde] at heq
        have HZ := Lib.hid hz
        clear hde hxy hz
        go_wp2_with (first
          | (go_at_call 19; go_fit (HDI.out A2 k2 A3 k3 _ (HR2b.out.below HBR.out) (HR3.out.below HBR.out)); rintro e w5 ⟨⟨v5, rfl, ho5⟩, hb5⟩; rw [HZ.out] at ho5; obtain ⟨A5, k5, rfl, _⟩ := ho5.rd; have hb35 := below_tr HBR.out hb5; have hxx := (hb35.block w.heap.size hlx3).trans HX3.out; have hyy := (hb35.block (w.heap.size + 1) hly3).trans HY3.out; obtain ⟨c0, c1, c2, c3, c4, c5, c6⟩ := cells7 hxx; obtain ⟨d0, d1, d2, d3, d4, d5, d6⟩ := cells7 hyy; clear hxx hyy ho5))
        go_ret
        exact ⟨rfl, below_tr hbw3 hb35⟩
      · have hde : decide (x = y) = false := by simpa using hxy
        have hz : 0 < D.length := by
          apply List.length_pos_iff.2
          exact fun h => hxy (HDN.out.1 h)
        have heq := HEQ.out
        rw [hde] at heq
        clear hde hxy
        go_wp2_with (first
          | (go_at_call 19; go_fit (HDI.out A2 k2 A3 k3 _ (HR2b.out.below HBR.out) (HR3.out.below HBR.out)); rintro e w5 ⟨⟨v5, rfl, ho5⟩, hb5⟩; obtain ⟨A5, k5, rfl, _⟩ := ho5.rd; have hb35 := below_tr HBR.out hb5; have hxx := (hb35.block w.heap.size hlx3).trans HX3.out; have hyy := (hb35.block (w.heap.size + 1) hly3).trans HY3.out; obtain ⟨c0, c1, c2, c3, c4, c5, c6⟩ := cells7 hxx; obtain ⟨d0, d1, d2, d3, d4, d5, d6⟩ := cells7 hyy; clear hxx hyy ho5))
        go_ret
        exact ⟨rfl, below_tr hbw3 hb35⟩
theorem rowsApart_walk (x y : Inst) (w : World) (hl1 : x.id.length ≤ 9223372036854775807) (hd1 : x.dfn.length ≤ 9223372036854775807) (hl2 : y.id.length ≤ 9223372036854775807) (hd2 : y.dfn.length ≤ 9223372036854775807) (hg : Glob w) :
    Calls Tryd.prog 6 #[instV x, instV y] w fun e w' => e = .returned (.bool true) ∧ Below w.heap.size w w' := by
  cases hx : okI x with
  | false => exact rowsApart_bx x y w hl1 hd1 hl2 hd2 hg hx
  | true =>
    cases hy : okI y with
    | false => exact rowsApart_by x y w hl1 hd1 hl2 hd2 hg hx hy
    | true => exact rowsApart_ok x y w hl1 hd1 hl2 hd2 hg hx hy
end Go.Proofs.YtaecafagmncmiaaDoor
