/-
  The walk of RowsBack.
-/
import Derived.Deep.QuietTactic
import Derived.BigQuiet
import Derived.IntWalk
import Derived.Test.YtaecafagmncmiaaDoorLa
import Derived.Test.YtaecafagmncmiaaDoorPb
namespace Go.Proofs.YtaecafagmncmiaaDoor
open Go.RowKit Pu

/-- the instance of a text, or none -/
theorem inst_cases (v : Bs) : (∃ z, instR v = (0, z) ∧ okI z = true ∧ instB z = v) ∨ instR v = (3, noI) := by
  rcases instR_err v with h | h
  · left
    refine ⟨(instR v).2, ?_, ?_⟩
    · rw [← h]
    · exact instB_instR (v := v) (x := (instR v).2) (by rw [← h])
  · exact .inr h
theorem inst_bad (v : Bs) (W : World) (hl : v.length ≤ 9223372036854775807) (h : instR v = (3, noI)) (hg : Glob W) : Calls Tryd.prog 12 #[.string (bs v)] W fun e w' => e = .returned (.tuple #[.agg #[.string ⟨#[]⟩, .string ⟨#[]⟩, .int .i64 0, .int .i64 0, .int .i64 0, .int .i64 0, .bool false], .iface 68 (.int .i64 3)]) ∧ Below W.heap.size W w' :=
  (inst_any v W hl hg).mono fun e w' ⟨he, hb⟩ => by
    have e3 : errv 3 = .iface 68 (.int .i64 3) := errv_pos (by omega)
    unfold InPost at he
    rw [h, e3] at he
    exact ⟨he, hb⟩
theorem inst_good (v : Bs) (z : Inst) (W : World) (hl : v.length ≤ 9223372036854775807) (h : instR v = (0, z)) (hg : Glob W) : Calls Tryd.prog 12 #[.string (bs v)] W fun e w' => e = .returned (.tuple #[.agg #[.string (bs z.id), .string (bs z.dfn), .int .i64 z.status, .int .i64 z.at_, .int .i64 z.tries, .int .i64 z.due, .bool z.out], .nilIface]) ∧ Below W.heap.size W w' :=
  (inst_any v W hl hg).mono fun e w' ⟨he, hb⟩ => by
    unfold InPost at he
    rw [h] at he
    exact ⟨he, hb⟩

set_option maxRecDepth 100000 in
set_option maxHeartbeats 4000000 in
theorem rowsBack_bx (x : Inst) (v : Bs) (w : World) (hl1 : x.id.length ≤ 9223372036854775807) (hd1 : x.dfn.length ≤ 9223372036854775807) (hl : v.length ≤ 9223372036854775807) (hg : Glob w) (hx : okI x = false) :
    Calls Tryd.prog 5 #[instV x, .string (bs v)] w fun e w' => e = .returned (.bool true) ∧ Below w.heap.size w w' := by
  have HEX := Lib.hid (fun W h => examples_any W h)
  have HG := Lib.hid hg
  have HB0 := Lib.hid (below_al (Below.refl _ w) (.cells #[.string (bs x.id), .string (bs x.dfn), .int .i64 x.status, .int .i64 x.at_, .int .i64 x.tries, .int .i64 x.due, .bool x.out] 25))
  have HX0 := Lib.hid (heap_alloc_new w (.cells #[.string (bs x.id), .string (bs x.dfn), .int .i64 x.status, .int .i64 x.at_, .int .i64 x.tries, .int .i64 x.due, .bool x.out] 25))
  have HOX := Lib.hid (fun W h => of_poor x W hl1 hd1 hx h)
  clear hx hg
  rcases inst_cases v with ⟨z, hz, hzo, hzv⟩ | hz
  · have HIG := Lib.hid (fun W h => inst_good v z W hl hz h)
    have HOZ := Lib.hid (fun W h => of_good z W hzo h)
    have HAV : Hid (hasV (rowsI z) v = true) := by unfold Hid; rw [← hzv]; exact hasV_rows z
    generalize rowsI z = LZ at HOZ HAV
    clear hz hzo hzv
    unfold instV
    go_enter Tryd.func5, Tryd.ntmps5
    go_wp2_with (first
      | (go_at_call 11; go_fit (HEX.out _ (HG.out.below HB0.out)); rintro e w1 ⟨rfl, hb1⟩; have hx1 := (hb1.block w.heap.size (by simp)).trans HX0.out; have hlx1 := (Array.getElem?_eq_some_iff.1 hx1).1; obtain ⟨c0, c1, c2, c3, c4, c5, c6⟩ := cells7 hx1; have HX1 := Lib.hid hx1; have hbw1 := below_tr HB0.out hb1; clear hx1)
      | (go_at_call 22; go_fit (HOX.out w1 (HG.out.below hbw1)); rintro e w2 ⟨⟨v2, rfl, ho2⟩, hb2⟩; obtain ⟨A2, k2, rfl, hr2⟩ := ho2.rd; have HR2 := Lib.hid hr2; have HX2 := Lib.hid ((hb2.block w.heap.size hlx1).trans HX1.out); have hlx2 := (Array.getElem?_eq_some_iff.1 HX2.out).1; have hbw2 := below_tr hbw1 hb2; clear ho2 hr2 c0 c1 c2 c3 c4 c5 c6))
    refine wp_loop_rounds 1 ?_
    rw [rounds_succ]
    go_wp2_with (first
      | (go_at_call 12; go_fit (HIG.out _ (HG.out.below hbw2)); rintro e w7 ⟨rfl, hb7⟩; have hbw7 := below_al (below_tr hbw2 hb7) (.cells #[.string (bs z.id), .string (bs z.dfn), .int .i64 z.status, .int .i64 z.at_, .int .i64 z.tries, .int .i64 z.due, .bool z.out] 25))
      | (go_at_call 22; go_fit (HOZ.out _ (HG.out.below hbw7)); rintro e w8 ⟨⟨v8, rfl, ho8⟩, hb8⟩; obtain ⟨A8, k8, rfl, hr8⟩ := ho8.rd; have HR8 := Lib.hid hr8; have hbw8 := below_tr hbw7 hb8; clear ho8 hr8))
    have hml := HR8.out.max
    go_loopw [18, 19] (fun t i wr => ∃ j : Nat, j ≤ LZ.length ∧ i = .int .i64 j ∧ t = .bool (hasV (LZ.take j) v) ∧ Below w8.heap.size w8 wr) (fun _ i _ => LZ.length - (intOf i).toNat)
    case atStart => exact ⟨0, Nat.zero_le _, rfl, by unfold hasV; rfl, Below.refl _ _⟩
    case round =>
      obtain ⟨j, hj, rfl, rfl, hbr⟩ := hrel
      by_cases hlt : j < LZ.length
      · obtain ⟨c, hc⟩ : ∃ c, LZ[j]? = some c := ⟨_, List.getElem?_eq_getElem hlt⟩
        obtain ⟨g1, o1, rfl, hg1, p0, p1, p2⟩ := (HR8.out.below hbr).three chgC chgC_len hc (u0 := .string (bs c.key)) (u1 := .bool c.drop) (u2 := .string (bs c.value)) rfl
        have hsn := hasV_snoc (v := v) hc
        cases hh : hasV (LZ.take j) v with
        | true =>
          rw [hh, Bool.true_or] at hsn
          have HSN := Lib.hid hsn
          clear hsn hh hc
          go_wp2_with fail
          go_roundw
          case rel => exact ⟨j + 1, by omega, by go_num, by rw [HSN.out], hbr⟩
          case measure => simp [intOf]; omega
        | false =>
          rw [hh, Bool.false_or] at hsn
          have HSN := Lib.hid hsn
          obtain ⟨b, hb⟩ : ∃ b, b = (c.value == v) := ⟨_, rfl⟩
          rw [← hb] at HSN
          have hb' := hb.symm
          clear hsn hh hc hb
          go_wp2_with fail
          go_roundw
          case rel => exact ⟨j + 1, by omega, by go_num, by rw [HSN.out], hbr⟩
          case measure => simp [intOf]; omega
      · obtain rfl : j = LZ.length := by omega
        rw [List.take_length, HAV.out]
        go_wp2_with fail
        go_ret
        exact ⟨rfl, below_tr hbw8 hbr⟩
  · have HIB := Lib.hid (fun W h => inst_bad v W hl hz h)
    clear hz
    unfold instV
    go_enter Tryd.func5, Tryd.ntmps5
    go_wp2_with (first
      | (go_at_call 11; go_fit (HEX.out _ (HG.out.below HB0.out)); rintro e w1 ⟨rfl, hb1⟩; have hx1 := (hb1.block w.heap.size (by simp)).trans HX0.out; have hlx1 := (Array.getElem?_eq_some_iff.1 hx1).1; obtain ⟨c0, c1, c2, c3, c4, c5, c6⟩ := cells7 hx1; have HX1 := Lib.hid hx1; have hbw1 := below_tr HB0.out hb1; clear hx1)
      | (go_at_call 22; go_fit (HOX.out w1 (HG.out.below hbw1)); rintro e w2 ⟨⟨v2, rfl, ho2⟩, hb2⟩; obtain ⟨A2, k2, rfl, hr2⟩ := ho2.rd; have HR2 := Lib.hid hr2; have HX2 := Lib.hid ((hb2.block w.heap.size hlx1).trans HX1.out); have hlx2 := (Array.getElem?_eq_some_iff.1 HX2.out).1; have hbw2 := below_tr hbw1 hb2; clear ho2 hr2 c0 c1 c2 c3 c4 c5 c6))
    refine wp_loop_rounds 1 ?_
    rw [rounds_succ]
    go_wp2_with (first
      | (go_at_call 12; go_fit (HIB.out _ (HG.out.below hbw2)); rintro e w7 ⟨rfl, hb7⟩; have hbw7 := below_al (below_tr hbw2 hb7) (.cells #[.string ⟨#[]⟩, .string ⟨#[]⟩, .int .i64 0, .int .i64 0, .int .i64 0, .int .i64 0, .bool false] 25)))
    go_ret
    exact ⟨rfl, hbw7⟩

set_option maxRecDepth 100000 in
set_option maxHeartbeats 4000000 in
theorem rowsBack_gg (x : Inst) (v : Bs) (w : World) (hl : v.length ≤ 9223372036854775807) (hg : Glob w) (hx : okI x = true) (z : Inst) (hz : instR v = (0, z)) :
    Calls Tryd.prog 5 #[instV x, .string (bs v)] w fun e w' => e = .returned (.bool true) ∧ Below w.heap.size w w' := by
  have HEX := Lib.hid (fun W h => examples_any W h)
  have HG := Lib.hid hg
  have HB0 := Lib.hid (below_al (Below.refl _ w) (.cells #[.string (bs x.id), .string (bs x.dfn), .int .i64 x.status, .int .i64 x.at_, .int .i64 x.tries, .int .i64 x.due, .bool x.out] 25))
  have HX0 := Lib.hid (heap_alloc_new w (.cells #[.string (bs x.id), .string (bs x.dfn), .int .i64 x.status, .int .i64 x.at_, .int .i64 x.tries, .int .i64 x.due, .bool x.out] 25))
  have HOX := Lib.hid (fun W h => of_good x W hx h)
  have HEI := instTo_len hx 5 (by omega)
  rw [show instTo x 5 = instB x from by unfold instB; rfl] at HEI
  have HIX := Lib.hid (fun W h => inst_good (instB x) x W (by omega) (instR_instB hx) h)
  have HDR := Lib.hid (fun c (hc : c ∈ rowsI x) => (rows_id hx hc).2)
  have HIDS : Hid (∀ c ∈ rowsI x, ∀ W, Calls Tryd.prog 14 #[.string (bs c.key)] W fun e w' => e = .returned (.tuple #[.string (bs x.id), .nilIface]) ∧ Below W.heap.size W w') := fun c hc W =>
    (rid_any c.key W ((rows_max hx c hc).1)).mono fun e w' ⟨he, hb⟩ => ⟨by rw [he, (rows_id hx hc).1]; rfl, hb⟩
  have HVAL := Lib.hid (fun c (hc : c ∈ rowsI x) => rows_value hc)
  have HN := Lib.hid (nVal_rows x)
  have HSO := Lib.hid (rowsI_sorted hx)
  have HNE := Lib.hid (instB_ne x)
  have hfew := rows_few x
  generalize rowsI x = L at HOX HDR HIDS HVAL HN HSO hfew
  generalize instB x = V at HIX HVAL HNE
  have heq := eqI x x
  simp only [decide_true] at heq
  have hgd : ∀ (op : BinOp) (a b : Operand) (xs ys : Array Value) (w : World), (eqGuard op 25 a b (.agg xs) (.agg ys)).run Tryd.prog w = .ok () w := fun op a b xs ys w => run_eqGuard_agg w op 25 a b xs ys (by kernel_rfl)
  obtain ⟨hzo, hzv⟩ := instB_instR hz
  have HIG := Lib.hid (fun W h => inst_good v z W hl hz h)
  have HOZ := Lib.hid (fun W h => of_good z W hzo h)
  have HAV : Hid (hasV (rowsI z) v = true) := by unfold Hid; rw [← hzv]; exact hasV_rows z
  generalize rowsI z = LZ at HOZ HAV
  clear hz hzo hzv hx hg HEI
  unfold instV
  go_enter Tryd.func5, Tryd.ntmps5
  go_wp2_with (first
    | (go_at_call 11; go_fit (HEX.out _ (HG.out.below HB0.out)); rintro e w1 ⟨rfl, hb1⟩; have hx1 := (hb1.block w.heap.size (by simp)).trans HX0.out; have hlx1 := (Array.getElem?_eq_some_iff.1 hx1).1; obtain ⟨c0, c1, c2, c3, c4, c5, c6⟩ := cells7 hx1; have HX1 := Lib.hid hx1; have hbw1 := below_tr HB0.out hb1; clear hx1)
    | (go_at_call 22; go_fit (HOX.out w1 (HG.out.below hbw1)); rintro e w2 ⟨⟨v2, rfl, ho2⟩, hb2⟩; obtain ⟨A2, k2, rfl, hr2⟩ := ho2.rd; have HR2 := Lib.hid hr2; have HX2 := Lib.hid ((hb2.block w.heap.size hlx1).trans HX1.out); have hlx2 := (Array.getElem?_eq_some_iff.1 HX2.out).1; have hbw2 := below_tr hbw1 hb2; clear ho2 hr2 c0 c1 c2 c3 c4 c5 c6))
  go_loopw [8, 9] (fun m i wr => ∃ (j n : Nat), j ≤ L.length ∧ i = .int .i64 j ∧ m = .int .i64 n ∧ n = nVal (L.take j) ∧ Below w2.heap.size w2 wr) (fun _ i _ => L.length - (intOf i).toNat)
  case atStart => exact ⟨0, 0, Nat.zero_le _, rfl, rfl, by unfold nVal; rfl, Below.refl _ _⟩
  case round =>
    obtain ⟨j, n, hj, rfl, rfl, hnv, hbr⟩ := hrel
    have hnl : n ≤ 5 := by
      have e1 := nVal_le (L.take j)
      have e2 := List.length_take_le' j L
      rw [hnv]; omega
    have HNV := Lib.hid hnv
    have HBR := Lib.hid hbr
    clear hnv
    by_cases hlt : j < L.length
    · obtain ⟨c, hc⟩ : ∃ c, L[j]? = some c := ⟨_, List.getElem?_eq_getElem hlt⟩
      have hm := List.mem_of_getElem? hc
      obtain ⟨g1, o1, rfl, hg1, p0, p1, p2⟩ := (HR2.out.below hbr).three chgC chgC_len hc (u0 := .string (bs c.key)) (u1 := .bool c.drop) (u2 := .string (bs c.value)) rfl
      have HSN := Lib.hid (nVal_snoc hc)
      have HID := Lib.hid (HIDS.out c hm)
      rw [HDR.out c hm] at p1
      have hval := HVAL.out c hm
      have hself : (x.id == x.id) = true := by simp
      have HXr := Lib.hid ((hbr.block w.heap.size hlx2).trans HX2.out)
      have hlxr := (Array.getElem?_eq_some_iff.1 HXr.out).1
      cases j with
      | zero =>
        rw [Nat.zero_mul, Nat.add_zero] at p0 p1 p2
        rcases hval with hv | hv
        · rw [hv] at p2
          change wr.cell? _ = some (.string ⟨#[]⟩) at p2
          have HNN : Hid (n = nVal (L.take (0 + 1))) := by unfold Hid; rw [HSN.out, hv, if_pos rfl, HNV.out]; rfl
          have HP0 := Lib.hid p0
          have HP1 := Lib.hid p1
          have HP2 := Lib.hid p2
          clear hv hc hm HSN p1 p2
          go_wp2_with (first
            | (go_at_call 14; go_fit (HID.out _); rintro e w4 ⟨rfl, hb4⟩; have p0 := (hb4.cell (p := ⟨g1, o1, none⟩) hg1).trans HP0.out; have p1 := (hb4.cell (p := ⟨g1, o1 + 1, none⟩) hg1).trans HP1.out; have p2 := (hb4.cell (p := ⟨g1, o1 + 2, none⟩) hg1).trans HP2.out; have hxx := (hb4.block w.heap.size hlxr).trans HXr.out; obtain ⟨c0, c1, c2, c3, c4, c5, c6⟩ := cells7 hxx; have HBR4 := Lib.hid (below_tr HBR.out hb4); clear hxx))
          go_quiet (fail)
          go_wp2_with fail
          go_roundw
          case rel => exact ⟨0 + 1, n, by omega, by go_num, rfl, HNN.out, below_n HBR4.out _⟩
          case measure => simp [intOf]; omega
        · have HNN : Hid (n + 1 = nVal (L.take (0 + 1))) := by unfold Hid; rw [HSN.out, hv, if_neg HNE.out, HNV.out]
          rw [hv] at p2
          have HP0 := Lib.hid p0
          have HP1 := Lib.hid p1
          have HP2 := Lib.hid p2
          have hvne := HNE.out
          have hvn2 : (V == []) = false := by simpa using hvne
          have hvn3 : V.isEmpty = false := by simpa using hvne
          clear hv hc hm HSN p1 p2
          go_wp2_with (first
            | (go_at_call 14; go_fit (HID.out _); rintro e w4 ⟨rfl, hb4⟩; have p0 := (hb4.cell (p := ⟨g1, o1, none⟩) hg1).trans HP0.out; have p1 := (hb4.cell (p := ⟨g1, o1 + 1, none⟩) hg1).trans HP1.out; have p2 := (hb4.cell (p := ⟨g1, o1 + 2, none⟩) hg1).trans HP2.out; have hxx := (hb4.block w.heap.size hlxr).trans HXr.out; obtain ⟨c0, c1, c2, c3, c4, c5, c6⟩ := cells7 hxx; have HX4 := Lib.hid hxx; have hlx4 := (Array.getElem?_eq_some_iff.1 hxx).1; have HBR4 := Lib.hid (below_tr HBR.out hb4); clear hxx))
          go_quiet (fail)
          go_wp2_with (first
            | (go_at_call 12; go_fit (HIX.out _ (HG.out.below (below_n (below_tr hbw2 HBR4.out) _))); rintro e w5 ⟨rfl, hb5⟩; have hxx := (hb5.block w.heap.size hlx4).trans HX4.out; have hlx5 := (Array.getElem?_eq_some_iff.1 hxx).1; clear c0 c1 c2 c3 c4 c5 c6; obtain ⟨c0, c1, c2, c3, c4, c5, c6⟩ := cells7 hxx; have HBR5 := Lib.hid (below_al (below_tr (below_n HBR4.out _) hb5) (.cells #[.string (bs x.id), .string (bs x.dfn), .int .i64 x.status, .int .i64 x.at_, .int .i64 x.tries, .int .i64 x.due, .bool x.out] 25)); clear hxx))
          go_roundw
          case rel => exact ⟨0 + 1, n + 1, by omega, by go_num, by go_num, HNN.out, HBR5.out⟩
          case measure => simp [intOf]; omega
      | succ k =>
        obtain ⟨y, hy⟩ : ∃ y, L[k]? = some y := ⟨_, List.getElem?_eq_getElem (by omega)⟩
        have hlt2 := sorted_at' HSO.out hy hc
        obtain ⟨g2', o2', hA', hg2', s0, s1, s2⟩ := (HR2.out.below hbr).three chgC chgC_len hy (u0 := .string (bs y.key)) (u1 := .bool y.drop) (u2 := .string (bs y.value)) rfl
        cases hA'
        have hl1 : Op.bytesLess c.key y.key = false := by rw [bytesLess_ltB]; exact ltB_asymm hlt2
        have hl2 : (c.key == y.key) = false := by
          rw [beq_eq_false_iff_ne]
          intro e
          rw [e, ltB_irrefl] at hlt2
          cases hlt2
        have hwr : IntKind.i64.wrap ((k : Int) + 1 - 1) = (k : Int) := by rw [Int.add_sub_cancel]; exact IntWalk.i64_in _ (by omega)
        have hpos : decide (0 < (k : Int) + 1) = true := by simp
        have HS := Lib.hid s0
        have hgs : g1 < wr.heap.size := hg1
        clear hy hlt2 s1 s2
        rcases hval with hv | hv
        · rw [hv] at p2
          change wr.cell? _ = some (.string ⟨#[]⟩) at p2
          have HNN : Hid (n = nVal (L.take (k + 1 + 1))) := by unfold Hid; rw [HSN.out, hv, if_pos rfl, HNV.out]; rfl
          have HP0 := Lib.hid p0
          have HP1 := Lib.hid p1
          have HP2 := Lib.hid p2
          clear hv hc hm HSN s0 p1 p2
          go_wp2_with (first
            | (go_at_call 14; go_fit (HID.out _); rintro e w4 ⟨rfl, hb4⟩; have p0 := (hb4.cell (p := ⟨g1, o1 + (k + 1) * 3, none⟩) hg1).trans HP0.out; have p1 := (hb4.cell (p := ⟨g1, o1 + (k + 1) * 3 + 1, none⟩) hg1).trans HP1.out; have p2 := (hb4.cell (p := ⟨g1, o1 + (k + 1) * 3 + 2, none⟩) hg1).trans HP2.out; have s0 := (hb4.cell (p := ⟨g1, o1 + k * 3, none⟩) hg1).trans HS.out; have hxx := (hb4.block w.heap.size hlxr).trans HXr.out; obtain ⟨c0, c1, c2, c3, c4, c5, c6⟩ := cells7 hxx; have HBR4 := Lib.hid (below_tr HBR.out hb4); clear hxx))
          go_quiet (fail)
          go_wp2_with fail
          go_roundw
          case rel => exact ⟨k + 1 + 1, n, by omega, by go_num, rfl, HNN.out, below_n HBR4.out _⟩
          case measure => simp [intOf]; omega
        · have HNN : Hid (n + 1 = nVal (L.take (k + 1 + 1))) := by unfold Hid; rw [HSN.out, hv, if_neg HNE.out, HNV.out]
          rw [hv] at p2
          have HP0 := Lib.hid p0
          have HP1 := Lib.hid p1
          have HP2 := Lib.hid p2
          have hvne := HNE.out
          have hvn2 : (V == []) = false := by simpa using hvne
          have hvn3 : V.isEmpty = false := by simpa using hvne
          clear hv hc hm HSN s0 p1 p2
          go_wp2_with (first
            | (go_at_call 14; go_fit (HID.out _); rintro e w4 ⟨rfl, hb4⟩; have p0 := (hb4.cell (p := ⟨g1, o1 + (k + 1) * 3, none⟩) hg1).trans HP0.out; have p1 := (hb4.cell (p := ⟨g1, o1 + (k + 1) * 3 + 1, none⟩) hg1).trans HP1.out; have p2 := (hb4.cell (p := ⟨g1, o1 + (k + 1) * 3 + 2, none⟩) hg1).trans HP2.out; have s0 := (hb4.cell (p := ⟨g1, o1 + k * 3, none⟩) hg1).trans HS.out; have hxx := (hb4.block w.heap.size hlxr).trans HXr.out; obtain ⟨c0, c1, c2, c3, c4, c5, c6⟩ := cells7 hxx; have HX4 := Lib.hid hxx; have hlx4 := (Array.getElem?_eq_some_iff.1 hxx).1; have HBR4 := Lib.hid (below_tr HBR.out hb4); clear hxx))
          go_quiet (fail)
          go_wp2_with (first
            | (go_at_call 12; go_fit (HIX.out _ (HG.out.below (below_n (below_tr hbw2 HBR4.out) _))); rintro e w5 ⟨rfl, hb5⟩; have hxx := (hb5.block w.heap.size hlx4).trans HX4.out; have hlx5 := (Array.getElem?_eq_some_iff.1 hxx).1; clear c0 c1 c2 c3 c4 c5 c6; obtain ⟨c0, c1, c2, c3, c4, c5, c6⟩ := cells7 hxx; have HBR5 := Lib.hid (below_al (below_tr (below_n HBR4.out _) hb5) (.cells #[.string (bs x.id), .string (bs x.dfn), .int .i64 x.status, .int .i64 x.at_, .int .i64 x.tries, .int .i64 x.due, .bool x.out] 25)); clear hxx))
          go_roundw
          case rel => exact ⟨k + 1 + 1, n + 1, by omega, by go_num, by go_num, HNN.out, HBR5.out⟩
          case measure => simp [intOf]; omega
    · obtain rfl : j = L.length := by omega
      have HN1 : Hid (n = 1) := by unfold Hid; rw [HNV.out, List.take_length]; exact HN.out
      obtain rfl := HN1.out
      clear hbr
      have hbr0 : Below w.heap.size w wr := below_tr hbw2 HBR.out
      go_wp2_with (first
        | (go_at_call 12; go_fit (HIG.out _ (HG.out.below hbr0)); rintro e w7 ⟨rfl, hb7⟩; have hbw7 := below_al (below_tr hbr0 hb7) (.cells #[.string (bs z.id), .string (bs z.dfn), .int .i64 z.status, .int .i64 z.at_, .int .i64 z.tries, .int .i64 z.due, .bool z.out] 25))
        | (go_at_call 22; go_fit (HOZ.out _ (HG.out.below hbw7)); rintro e w8 ⟨⟨v8, rfl, ho8⟩, hb8⟩; obtain ⟨A8, k8, rfl, hr8⟩ := ho8.rd; have HR8 := Lib.hid hr8; have hbw8 := below_tr hbw7 hb8; clear ho8 hr8))
      have hml := HR8.out.max
      go_loopw [18, 19] (fun t i wr => ∃ j : Nat, j ≤ LZ.length ∧ i = .int .i64 j ∧ t = .bool (hasV (LZ.take j) v) ∧ Below w8.heap.size w8 wr) (fun _ i _ => LZ.length - (intOf i).toNat)
      case atStart => exact ⟨0, Nat.zero_le _, rfl, by unfold hasV; rfl, Below.refl _ _⟩
      case round =>
        obtain ⟨j, hj, rfl, rfl, hbr⟩ := hrel
        by_cases hlt : j < LZ.length
        · obtain ⟨c, hc⟩ : ∃ c, LZ[j]? = some c := ⟨_, List.getElem?_eq_getElem hlt⟩
          obtain ⟨g1, o1, rfl, hg1, p0, p1, p2⟩ := (HR8.out.below hbr).three chgC chgC_len hc (u0 := .string (bs c.key)) (u1 := .bool c.drop) (u2 := .string (bs c.value)) rfl
          have hsn := hasV_snoc (v := v) hc
          cases hh : hasV (LZ.take j) v with
          | true =>
            rw [hh, Bool.true_or] at hsn
            have HSN := Lib.hid hsn
            clear hsn hh hc
            go_wp2_with fail
            go_roundw
            case rel => exact ⟨j + 1, by omega, by go_num, by rw [HSN.out], hbr⟩
            case measure => simp [intOf]; omega
          | false =>
            rw [hh, Bool.false_or] at hsn
            have HSN := Lib.hid hsn
            obtain ⟨b, hb⟩ : ∃ b, b = (c.value == v) := ⟨_, rfl⟩
            rw [← hb] at HSN
            have hb' := hb.symm
            clear hsn hh hc hb
            go_wp2_with fail
            go_roundw
            case rel => exact ⟨j + 1, by omega, by go_num, by rw [HSN.out], hbr⟩
            case measure => simp [intOf]; omega
        · obtain rfl : j = LZ.length := by omega
          rw [List.take_length, HAV.out]
          go_wp2_with fail
          go_ret
          exact ⟨rfl, below_tr hbw8 hbr⟩

set_option maxRecDepth 100000 in
set_option maxHeartbeats 4000000 in
theorem rowsBack_gb (x : Inst) (v : Bs) (w : World) (hl : v.length ≤ 9223372036854775807) (hg : Glob w) (hx : okI x = true) (hz : instR v = (3, noI)) :
    Calls Tryd.prog 5 #[instV x, .string (bs v)] w fun e w' => e = .returned (.bool true) ∧ Below w.heap.size w w' := by
  have HEX := Lib.hid (fun W h => examples_any W h)
  have HG := Lib.hid hg
  have HB0 := Lib.hid (below_al (Below.refl _ w) (.cells #[.string (bs x.id), .string (bs x.dfn), .int .i64 x.status, .int .i64 x.at_, .int .i64 x.tries, .int .i64 x.due, .bool x.out] 25))
  have HX0 := Lib.hid (heap_alloc_new w (.cells #[.string (bs x.id), .string (bs x.dfn), .int .i64 x.status, .int .i64 x.at_, .int .i64 x.tries, .int .i64 x.due, .bool x.out] 25))
  have HOX := Lib.hid (fun W h => of_good x W hx h)
  have HEI := instTo_len hx 5 (by omega)
  rw [show instTo x 5 = instB x from by unfold instB; rfl] at HEI
  have HIX := Lib.hid (fun W h => inst_good (instB x) x W (by omega) (instR_instB hx) h)
  have HDR := Lib.hid (fun c (hc : c ∈ rowsI x) => (rows_id hx hc).2)
  have HIDS : Hid (∀ c ∈ rowsI x, ∀ W, Calls Tryd.prog 14 #[.string (bs c.key)] W fun e w' => e = .returned (.tuple #[.string (bs x.id), .nilIface]) ∧ Below W.heap.size W w') := fun c hc W =>
    (rid_any c.key W ((rows_max hx c hc).1)).mono fun e w' ⟨he, hb⟩ => ⟨by rw [he, (rows_id hx hc).1]; rfl, hb⟩
  have HVAL := Lib.hid (fun c (hc : c ∈ rowsI x) => rows_value hc)
  have HN := Lib.hid (nVal_rows x)
  have HSO := Lib.hid (rowsI_sorted hx)
  have HNE := Lib.hid (instB_ne x)
  have hfew := rows_few x
  generalize rowsI x = L at HOX HDR HIDS HVAL HN HSO hfew
  generalize instB x = V at HIX HVAL HNE
  have heq := eqI x x
  simp only [decide_true] at heq
  have hgd : ∀ (op : BinOp) (a b : Operand) (xs ys : Array Value) (w : World), (eqGuard op 25 a b (.agg xs) (.agg ys)).run Tryd.prog w = .ok () w := fun op a b xs ys w => run_eqGuard_agg w op 25 a b xs ys (by kernel_rfl)
  have HIB := Lib.hid (fun W h => inst_bad v W hl hz h)
  clear hz hx hg HEI
  unfold instV
  go_enter Tryd.func5, Tryd.ntmps5
  go_wp2_with (first
    | (go_at_call 11; go_fit (HEX.out _ (HG.out.below HB0.out)); rintro e w1 ⟨rfl, hb1⟩; have hx1 := (hb1.block w.heap.size (by simp)).trans HX0.out; have hlx1 := (Array.getElem?_eq_some_iff.1 hx1).1; obtain ⟨c0, c1, c2, c3, c4, c5, c6⟩ := cells7 hx1; have HX1 := Lib.hid hx1; have hbw1 := below_tr HB0.out hb1; clear hx1)
    | (go_at_call 22; go_fit (HOX.out w1 (HG.out.below hbw1)); rintro e w2 ⟨⟨v2, rfl, ho2⟩, hb2⟩; obtain ⟨A2, k2, rfl, hr2⟩ := ho2.rd; have HR2 := Lib.hid hr2; have HX2 := Lib.hid ((hb2.block w.heap.size hlx1).trans HX1.out); have hlx2 := (Array.getElem?_eq_some_iff.1 HX2.out).1; have hbw2 := below_tr hbw1 hb2; clear ho2 hr2 c0 c1 c2 c3 c4 c5 c6))
  go_loopw [8, 9] (fun m i wr => ∃ (j n : Nat), j ≤ L.length ∧ i = .int .i64 j ∧ m = .int .i64 n ∧ n = nVal (L.take j) ∧ Below w2.heap.size w2 wr) (fun _ i _ => L.length - (intOf i).toNat)
  case atStart => exact ⟨0, 0, Nat.zero_le _, rfl, rfl, by unfold nVal; rfl, Below.refl _ _⟩
  case round =>
    obtain ⟨j, n, hj, rfl, rfl, hnv, hbr⟩ := hrel
    have hnl : n ≤ 5 := by
      have e1 := nVal_le (L.take j)
      have e2 := List.length_take_le' j L
      rw [hnv]; omega
    have HNV := Lib.hid hnv
    have HBR := Lib.hid hbr
    clear hnv
    by_cases hlt : j < L.length
    · obtain ⟨c, hc⟩ : ∃ c, L[j]? = some c := ⟨_, List.getElem?_eq_getElem hlt⟩
      have hm := List.mem_of_getElem? hc
      obtain ⟨g1, o1, rfl, hg1, p0, p1, p2⟩ := (HR2.out.below hbr).three chgC chgC_len hc (u0 := .string (bs c.key)) (u1 := .bool c.drop) (u2 := .string (bs c.value)) rfl
      have HSN := Lib.hid (nVal_snoc hc)
      have HID := Lib.hid (HIDS.out c hm)
      rw [HDR.out c hm] at p1
      have hval := HVAL.out c hm
      have hself : (x.id == x.id) = true := by simp
      have HXr := Lib.hid ((hbr.block w.heap.size hlx2).trans HX2.out)
      have hlxr := (Array.getElem?_eq_some_iff.1 HXr.out).1
      cases j with
      | zero =>
        rw [Nat.zero_mul, Nat.add_zero] at p0 p1 p2
        rcases hval with hv | hv
        · rw [hv] at p2
          change wr.cell? _ = some (.string ⟨#[]⟩) at p2
          have HNN : Hid (n = nVal (L.take (0 + 1))) := by unfold Hid; rw [HSN.out, hv, if_pos rfl, HNV.out]; rfl
          have HP0 := Lib.hid p0
          have HP1 := Lib.hid p1
          have HP2 := Lib.hid p2
          clear hv hc hm HSN p1 p2
          go_wp2_with (first
            | (go_at_call 14; go_fit (HID.out _); rintro e w4 ⟨rfl, hb4⟩; have p0 := (hb4.cell (p := ⟨g1, o1, none⟩) hg1).trans HP0.out; have p1 := (hb4.cell (p := ⟨g1, o1 + 1, none⟩) hg1).trans HP1.out; have p2 := (hb4.cell (p := ⟨g1, o1 + 2, none⟩) hg1).trans HP2.out; have hxx := (hb4.block w.heap.size hlxr).trans HXr.out; obtain ⟨c0, c1, c2, c3, c4, c5, c6⟩ := cells7 hxx; have HBR4 := Lib.hid (below_tr HBR.out hb4); clear hxx))
          go_quiet (fail)
          go_wp2_with fail
          go_roundw
          case rel => exact ⟨0 + 1, n, by omega, by go_num, rfl, HNN.out, below_n HBR4.out _⟩
          case measure => simp [intOf]; omega
        · have HNN : Hid (n + 1 = nVal (L.take (0 + 1))) := by unfold Hid; rw [HSN.out, hv, if_neg HNE.out, HNV.out]
          rw [hv] at p2
          have HP0 := Lib.hid p0
          have HP1 := Lib.hid p1
          have HP2 := Lib.hid p2
          have hvne := HNE.out
          have hvn2 : (V == []) = false := by simpa using hvne
          have hvn3 : V.isEmpty = false := by simpa using hvne
          clear hv hc hm HSN p1 p2
          go_wp2_with (first
            | (go_at_call 14; go_fit (HID.out _); rintro e w4 ⟨rfl, hb4⟩; have p0 := (hb4.cell (p := ⟨g1, o1, none⟩) hg1).trans HP0.out; have p1 := (hb4.cell (p := ⟨g1, o1 + 1, none⟩) hg1).trans HP1.out; have p2 := (hb4.cell (p := ⟨g1, o1 + 2, none⟩) hg1).trans HP2.out; have hxx := (hb4.block w.heap.size hlxr).trans HXr.out; obtain ⟨c0, c1, c2, c3, c4, c5, c6⟩ := cells7 hxx; have HX4 := Lib.hid hxx; have hlx4 := (Array.getElem?_eq_some_iff.1 hxx).1; have HBR4 := Lib.hid (below_tr HBR.out hb4); clear hxx))
          go_quiet (fail)
          go_wp2_with (first
            | (go_at_call 12; go_fit (HIX.out _ (HG.out.below (below_n (below_tr hbw2 HBR4.out) _))); rintro e w5 ⟨rfl, hb5⟩; have hxx := (hb5.block w.heap.size hlx4).trans HX4.out; have hlx5 := (Array.getElem?_eq_some_iff.1 hxx).1; clear c0 c1 c2 c3 c4 c5 c6; obtain ⟨c0, c1, c2, c3, c4, c5, c6⟩ := cells7 hxx; have HBR5 := Lib.hid (below_al (below_tr (below_n HBR4.out _) hb5) (.cells #[.string (bs x.id), .string (bs x.dfn), .int .i64 x.status, .int .i64 x.at_, .int .i64 x.tries, .int .i64 x.due, .bool x.out] 25)); clear hxx))
          go_roundw
          case rel => exact ⟨0 + 1, n + 1, by omega, by go_num, by go_num, HNN.out, HBR5.out⟩
          case measure => simp [intOf]; omega
      | succ k =>
        obtain ⟨y, hy⟩ : ∃ y, L[k]? = some y := ⟨_, List.getElem?_eq_getElem (by omega)⟩
        have hlt2 := sorted_at' HSO.out hy hc
        obtain ⟨g2', o2', hA', hg2', s0, s1, s2⟩ := (HR2.out.below hbr).three chgC chgC_len hy (u0 := .string (bs y.key)) (u1 := .bool y.drop) (u2 := .string (bs y.value)) rfl
        cases hA'
        have hl1 : Op.bytesLess c.key y.key = false := by rw [bytesLess_ltB]; exact ltB_asymm hlt2
        have hl2 : (c.key == y.key) = false := by
          rw [beq_eq_false_iff_ne]
          intro e
          rw [e, ltB_irrefl] at hlt2
          cases hlt2
        have hwr : IntKind.i64.wrap ((k : Int) + 1 - 1) = (k : Int) := by rw [Int.add_sub_cancel]; exact IntWalk.i64_in _ (by omega)
        have hpos : decide (0 < (k : Int) + 1) = true := by simp
        have HS := Lib.hid s0
        have hgs : g1 < wr.heap.size := hg1
        clear hy hlt2 s1 s2
        rcases hval with hv | hv
        · rw [hv] at p2
          change wr.cell? _ = some (.string ⟨#[]⟩) at p2
          have HNN : Hid (n = nVal (L.take (k + 1 + 1))) := by unfold Hid; rw [HSN.out, hv, if_pos rfl, HNV.out]; rfl
          have HP0 := Lib.hid p0
          have HP1 := Lib.hid p1
          have HP2 := Lib.hid p2
          clear hv hc hm HSN s0 p1 p2
          go_wp2_with (first
            | (go_at_call 14; go_fit (HID.out _); rintro e w4 ⟨rfl, hb4⟩; have p0 := (hb4.cell (p := ⟨g1, o1 + (k + 1) * 3, none⟩) hg1).trans HP0.out; have p1 := (hb4.cell (p := ⟨g1, o1 + (k + 1) * 3 + 1, none⟩) hg1).trans HP1.out; have p2 := (hb4.cell (p := ⟨g1, o1 + (k + 1) * 3 + 2, none⟩) hg1).trans HP2.out; have s0 := (hb4.cell (p := ⟨g1, o1 + k * 3, none⟩) hg1).trans HS.out; have hxx := (hb4.block w.heap.size hlxr).trans HXr.out; obtain ⟨c0, c1, c2, c3, c4, c5, c6⟩ := cells7 hxx; have HBR4 := Lib.hid (below_tr HBR.out hb4); clear hxx))
          go_quiet (fail)
          go_wp2_with fail
          go_roundw
          case rel => exact ⟨k + 1 + 1, n, by omega, by go_num, rfl, HNN.out, below_n HBR4.out _⟩
          case measure => simp [intOf]; omega
        · have HNN : Hid (n + 1 = nVal (L.take (k + 1 + 1))) := by unfold Hid; rw [HSN.out, hv, if_neg HNE.out, HNV.out]
          rw [hv] at p2
          have HP0 := Lib.hid p0
          have HP1 := Lib.hid p1
          have HP2 := Lib.hid p2
          have hvne := HNE.out
          have hvn2 : (V == []) = false := by simpa using hvne
          have hvn3 : V.isEmpty = false := by simpa using hvne
          clear hv hc hm HSN s0 p1 p2
          go_wp2_with (first
            | (go_at_call 14; go_fit (HID.out _); rintro e w4 ⟨rfl, hb4⟩; have p0 := (hb4.cell (p := ⟨g1, o1 + (k + 1) * 3, none⟩) hg1).trans HP0.out; have p1 := (hb4.cell (p := ⟨g1, o1 + (k + 1) * 3 + 1, none⟩) hg1).trans HP1.out; have p2 := (hb4.cell (p := ⟨g1, o1 + (k + 1) * 3 + 2, none⟩) hg1).trans HP2.out; have s0 := (hb4.cell (p := ⟨g1, o1 + k * 3, none⟩) hg1).trans HS.out; have hxx := (hb4.block w.heap.size hlxr).trans HXr.out; obtain ⟨c0, c1, c2, c3, c4, c5, c6⟩ := cells7 hxx; have HX4 := Lib.hid hxx; have hlx4 := (Array.getElem?_eq_some_iff.1 hxx).1; have HBR4 := Lib.hid (below_tr HBR.out hb4); clear hxx))
          go_quiet (fail)
          go_wp2_with (first
            | (go_at_call 12; go_fit (HIX.out _ (HG.out.below (below_n (below_tr hbw2 HBR4.out) _))); rintro e w5 ⟨rfl, hb5⟩; have hxx := (hb5.block w.heap.size hlx4).trans HX4.out; have hlx5 := (Array.getElem?_eq_some_iff.1 hxx).1; clear c0 c1 c2 c3 c4 c5 c6; obtain ⟨c0, c1, c2, c3, c4, c5, c6⟩ := cells7 hxx; have HBR5 := Lib.hid (below_al (below_tr (below_n HBR4.out _) hb5) (.cells #[.string (bs x.id), .string (bs x.dfn), .int .i64 x.status, .int .i64 x.at_, .int .i64 x.tries, .int .i64 x.due, .bool x.out] 25)); clear hxx))
          go_roundw
          case rel => exact ⟨k + 1 + 1, n + 1, by omega, by go_num, by go_num, HNN.out, HBR5.out⟩
          case measure => simp [intOf]; omega
    · obtain rfl : j = L.length := by omega
      have HN1 : Hid (n = 1) := by unfold Hid; rw [HNV.out, List.take_length]; exact HN.out
      obtain rfl := HN1.out
      clear hbr
      have hbr0 : Below w.heap.size w wr := below_tr hbw2 HBR.out
      go_wp2_with (first
        | (go_at_call 12; go_fit (HIB.out _ (HG.out.below hbr0)); rintro e w7 ⟨rfl, hb7⟩; have hbw7 := below_al (below_tr hbr0 hb7) (.cells #[.string ⟨#[]⟩, .string ⟨#[]⟩, .int .i64 0, .int .i64 0, .int .i64 0, .int .i64 0, .bool false] 25)))
      go_ret
      exact ⟨rfl, hbw7⟩

theorem rowsBack_walk (x : Inst) (v : Bs) (w : World) (hl1 : x.id.length ≤ 9223372036854775807) (hd1 : x.dfn.length ≤ 9223372036854775807) (hl : v.length ≤ 9223372036854775807) (hg : Glob w) :
    Calls Tryd.prog 5 #[instV x, .string (bs v)] w fun e w' => e = .returned (.bool true) ∧ Below w.heap.size w w' := by
  cases hx : okI x with
  | false => exact rowsBack_bx x v w hl1 hd1 hl hg hx
  | true =>
    rcases inst_cases v with ⟨z, hz, _, _⟩ | hz
    · exact rowsBack_gg x v w hl hg hx z hz
    · exact rowsBack_gb x v w hl hg hx hz
end Go.Proofs.YtaecafagmncmiaaDoor
