/-
  The walk of the document's Diff.
-/
import Derived.Test.YtaecafagmncmiaaDoorFi
namespace Go.Proofs.YtaecafagmncmiaaDoor
open Go.RowKit Pu

theorem foldC_len : ∀ (xs acc : List Chg), (xs.foldl putC acc).length = acc.length + xs.length
  | [], acc => by simp
  | x :: xs, acc => by rw [List.foldl_cons, foldC_len xs, putC_len, List.length_cons]; omega
theorem dels_snoc {old now : List Chg} {j : Nat} {x : Chg} (h : old[j]? = some x) : dels (old.take (j + 1)) now = dels (old.take j) now ++ if hasK now x.key then [] else [gone x] := by
  unfold dels
  rw [List.take_add_one, h, Option.toList_some, List.filter_append, List.map_append]
  congr 1
  have : delP now x = !hasK now x.key := by unfold delP; rfl
  cases hh : hasK now x.key <;> simp [this, hh]
theorem adds_snoc {old now : List Chg} {j : Nat} {x : Chg} (h : now[j]? = some x) : adds old (now.take (j + 1)) = adds old (now.take j) ++ if valK old x.key = some x.value then [] else [x] := by
  unfold adds
  rw [List.take_add_one, h, Option.toList_some, List.filter_append]
  congr 1
  have : addP old x = decide (valK old x.key ≠ some x.value) := by unfold addP; rfl
  by_cases hh : valK old x.key = some x.value <;> simp [this, hh]
/-- a list of rows of the call's own, beside whether it is one -/
def QdPost (base : Nat) (S : Nat × List Chg) (e : Ending) (w : World) : Prop :=
  ∃ v, e = .returned (.tuple #[v, .bool (decide (S.1 = 0))]) ∧ Ow w base 49 3 v S.2.length (S.2.flatMap chgC)

set_option maxRecDepth 100000 in
set_option maxHeartbeats 2000000 in
theorem qdiff_any (A1 A2 : Option Addr) (c1 c2 : Nat) (old now : List Chg) (w : World) (hr1 : Rd w 3 A1 old.length (old.flatMap chgC)) (hr2 : Rd w 3 A2 now.length (now.flatMap chgC)) (hn : old.length + now.length ≤ 1000000) :
    Calls Tryd.prog 20 #[.slice A1 old.length c1, .slice A2 now.length c2] w fun e w' => QdPost w.heap.size (diffB old now) e w' ∧ Below w.heap.size w w' := by
  have HR1 := Lib.hid hr1
  have HR2 := Lib.hid hr2
  have hq1 := qrows_any A1 c1 old w hr1
  have hq2 := qrows_any A2 c2 now w hr2
  have hd1 := fun h => diffB_no (old := old) (now := now) h
  have hd2 := fun h1 h2 => diffB_ok (old := old) (now := now) h1 h2
  have HD1 := Lib.hid hd1
  have HD2 := Lib.hid hd2
  generalize rowsB old = o1 at hq1 HD1 HD2
  generalize rowsB now = o2 at hq2 HD1 HD2
  have HQ1 := Lib.hid hq1
  have HQ2 := Lib.hid hq2
  clear hr1 hr2 hq1 hq2 hd1 hd2
  cases o1 with
  | false =>
    have HD : Hid (diffB old now = (1, [])) := HD1.out (.inl rfl)
    clear HD1 HD2
    go_enter Tryd.func20, Tryd.ntmps20
    go_wp2_with (first
      | (go_at_call 44; go_fit HQ1.out; rintro e w1 ⟨rfl, rfl⟩)
      | (go_at_call 44; go_fit HQ2.out; rintro e w1 ⟨rfl, rfl⟩))
    go_ret2
    exact ⟨⟨_, by rw [HD.out]; rfl, by rw [HD.out]; exact Ow.nil _ _ _ _⟩, Below.refl _ _⟩
  | true =>
    cases o2 with
    | false =>
      have HD : Hid (diffB old now = (1, [])) := HD1.out (.inr rfl)
      clear HD1 HD2
      go_enter Tryd.func20, Tryd.ntmps20
      go_wp2_with (first
        | (go_at_call 44; go_fit HQ1.out; rintro e w1 ⟨rfl, rfl⟩)
        | (go_at_call 44; go_fit HQ2.out; rintro e w1 ⟨rfl, rfl⟩))
      go_ret2
      exact ⟨⟨_, by rw [HD.out]; rfl, by rw [HD.out]; exact Ow.nil _ _ _ _⟩, Below.refl _ _⟩
    | true =>
      have HD : Hid (diffB old now = (0, diffL old now)) := HD2.out rfl rfl
      clear HD1 HD2
      have hf1 := fun k W h => qfind_any A1 c1 old k W h
      have hf2 := fun k W h => qfind_any A2 c2 now k W h
      have HF1 := Lib.hid hf1
      have HF2 := Lib.hid hf2
      clear hf1 hf2
      have hmx1 := HR1.out.max
      have hmx2 := HR2.out.max
      go_enter Tryd.func20, Tryd.ntmps20
      go_wp2_with (first
        | (go_at_call 44; go_fit HQ1.out; rintro e w1 ⟨rfl, rfl⟩)
        | (go_at_call 44; go_fit HQ2.out; rintro e w1 ⟨rfl, rfl⟩))
      go_loopw [8, 9] (fun v i wr => ∃ (j : Nat) (acc : List Chg), j ≤ old.length ∧ i = .int .i64 j ∧ acc = (dels (old.take j) now).foldl putC [] ∧ Ow wr w.heap.size 49 3 v acc.length (acc.flatMap chgC) ∧ Below w.heap.size w wr) (fun _ i _ => old.length - (intOf i).toNat)
      case atStart => exact ⟨0, [], Nat.zero_le _, rfl, by unfold dels; rfl, Ow.nil _ _ _ _, Below.refl _ _⟩
      case round =>
        obtain ⟨j, acc, hj, rfl, hacc, how, hbr⟩ := hrel
        have hal : acc.length ≤ old.length := by
          rw [hacc, foldC_len]
          have := dels_len (old.take j) now
          have := List.length_take_le j old
          simp only [List.length_nil]; omega
        obtain ⟨A5, c5, rfl, _⟩ := how.rd
        have HACC := Lib.hid hacc
        have HBR := Lib.hid hbr
        have HOW := Lib.hid how
        clear hacc
        by_cases hlt : j < old.length
        · obtain ⟨x, hx⟩ : ∃ x, old[j]? = some x := ⟨_, List.getElem?_eq_getElem hlt⟩
          obtain ⟨b, off, rfl, hblt, hc0, hc1, hc2⟩ := (HR1.out.below hbr).three chgC chgC_len hx (u0 := .string (bs x.key)) (u1 := .bool x.drop) (u2 := .string (bs x.value)) rfl
          have hsn := dels_snoc (now := now) hx
          have hput := fun W h => (qput_any w.heap.size (.slice A5 acc.length c5) acc (gone x) W h (by omega) : Calls Tryd.prog 46 #[.slice A5 acc.length c5, .agg #[.string (bs x.key), .bool true, .string ⟨#[]⟩]] W _)
          have HPUT := Lib.hid hput
          have hfc := findI_case now x.key
          have HSN := Lib.hid hsn
          clear hsn hput how hbr
          rcases hfc with ⟨hh, hfi⟩ | ⟨i2, c, hi2, hck, _, hfi⟩
          · have HFI := Lib.hid hfi
            have HN : Hid ((dels (old.take (j + 1)) now).foldl putC [] = putC acc (gone x)) := by
              unfold Hid
              rw [HSN.out, hh, if_neg (by simp), List.foldl_append, ← HACC.out]; rfl
            clear hh hfi hx HSN
            go_wp2_with (first
              | (go_at_call 45; refine (HF2.out x.key _ (HR2.out.below HBR.out)).mono ?_; rintro e w1 ⟨rfl, rfl⟩; rw [HFI.out])
              | (go_at_call 46; refine (HPUT.out _ HOW.out).mono ?_; rintro e w4 ⟨⟨v4, rfl, ho4⟩, hb4⟩; have HO4 := Lib.hid ho4; have hbw4 := below_tr HBR.out hb4; clear ho4))
            go_roundw
            case rel => exact ⟨j + 1, putC acc (gone x), by omega, by go_num, HN.out.symm, HO4.out.mono HBR.out.size, hbw4⟩
            case measure => simp [intOf]; omega
          · have hlt2 : (0 : Int) ≤ findI now x.key := by rw [hfi]; omega
            have hh : hasK now x.key = true := by rw [← hck]; exact hasK_of_at hi2
            have HN : Hid ((dels (old.take (j + 1)) now).foldl putC [] = acc) := by
              unfold Hid
              rw [HSN.out, hh, if_pos rfl, List.append_nil, ← HACC.out]
            have HFI := Lib.hid hfi
            clear hh hfi hx HSN hi2 hck hlt2
            go_wp2_with (first
              | (go_at_call 45; refine (HF2.out x.key _ (HR2.out.below HBR.out)).mono ?_; rintro e w1 ⟨rfl, rfl⟩; rw [HFI.out]))
            go_roundw
            case rel => exact ⟨j + 1, acc, by omega, by go_num, HN.out.symm, HOW.out, HBR.out⟩
            case measure => simp [intOf]; omega
        · obtain rfl : j = old.length := by omega
          have HA : Hid (acc = (dels old now).foldl putC []) := by unfold Hid; rw [HACC.out, List.take_length]
          clear how hbr HACC
          obtain ⟨wo, rfl⟩ : ∃ W, W = wr := ⟨_, rfl⟩
          go_wp2_with fail
          go_loopw [8, 10] (fun v i wr => ∃ (j : Nat) (acc : List Chg), j ≤ now.length ∧ i = .int .i64 j ∧ acc = (dels old now ++ adds old (now.take j)).foldl putC [] ∧ Ow wr w.heap.size 49 3 v acc.length (acc.flatMap chgC) ∧ Below w.heap.size w wr) (fun _ i _ => now.length - (intOf i).toNat)
          case atStart => exact ⟨0, acc, Nat.zero_le _, rfl, by rw [HA.out]; unfold adds; simp, HOW.out, HBR.out⟩
          case round =>
            clear HA HOW HBR
            obtain ⟨j, acc', hj, rfl, hacc, how, hbr⟩ := hrel
            have hal2 : acc'.length ≤ old.length + now.length := by
              rw [hacc, foldC_len]
              have := dels_len old now
              have := adds_len old (now.take j)
              have := List.length_take_le j now
              simp only [List.length_nil, List.length_append]; omega
            obtain ⟨A6, c6, rfl, _⟩ := how.rd
            have HACC := Lib.hid hacc
            have HBR := Lib.hid hbr
            have HOW := Lib.hid how
            clear hacc
            by_cases hlt : j < now.length
            · obtain ⟨x, hx⟩ : ∃ x, now[j]? = some x := ⟨_, List.getElem?_eq_getElem hlt⟩
              obtain ⟨b, off, rfl, hblt, hc0, hc1, hc2⟩ := (HR2.out.below hbr).three chgC chgC_len hx (u0 := .string (bs x.key)) (u1 := .bool x.drop) (u2 := .string (bs x.value)) rfl
              have hsn := adds_snoc (old := old) hx
              have hput := fun W h => qput_any w.heap.size (.slice A6 acc'.length c6) acc' x W h (by omega)
              have HPUT := Lib.hid hput
              have hfc := findI_case old x.key
              have hyes : valK old x.key ≠ some x.value → (dels old now ++ adds old (now.take (j + 1))).foldl putC [] = putC acc' x := fun h => by
                rw [hsn, if_neg h, ← List.append_assoc, List.foldl_append, ← HACC.out]; rfl
              have hno : valK old x.key = some x.value → (dels old now ++ adds old (now.take (j + 1))).foldl putC [] = acc' := fun h => by
                rw [hsn, if_pos h, List.append_nil, ← HACC.out]
              have HYES := Lib.hid hyes
              have HNO := Lib.hid hno
              clear hsn hput how hyes hno
              rcases hfc with ⟨hh, hfi⟩ | ⟨i2, c, hi2, hck, hck0, hfi⟩
              · have HFI := Lib.hid hfi
                have HN := Lib.hid (HYES.out (by rw [valK_none.2 hh]; simp))
                clear hh hfi hx HYES HNO hbr
                go_wp2_with (first
                  | (go_at_call 45; refine (HF1.out x.key _ (HR1.out.below HBR.out)).mono ?_; rintro e w1 ⟨rfl, rfl⟩; rw [HFI.out]))
                go_quiet (fail)
                go_wp2_with (first
                  | (go_at_call 46; refine (HPUT.out _ (HOW.out.drewN _)).mono ?_; rintro e w4 ⟨⟨v4, rfl, ho4⟩, hb4⟩; have HO4 := Lib.hid ho4; have hbw4 := below_tr (below_n HBR.out _) hb4; clear ho4))
                go_roundw
                case rel => exact ⟨j + 1, putC acc' x, by omega, by go_num, HN.out.symm, HO4.out.mono HBR.out.size, hbw4⟩
                case measure => simp [intOf]; omega
              · obtain ⟨b1, off1, rfl, hblt1, hd0, hd1, hd2⟩ := (HR1.out.below hbr).three chgC chgC_len hi2 (u0 := .string (bs c.key)) (u1 := .bool c.drop) (u2 := .string (bs c.value)) rfl
                have hvk : valK old x.key = some c.value := valK_first hi2 hck hck0
                have hilt : i2 < old.length := (List.getElem?_eq_some_iff.1 hi2).1
                have hneg : decide ((i2 : Int) < 0) = false := by simp
                have HFI := Lib.hid hfi
                by_cases huv : c.value = x.value
                · have HN := Lib.hid (HNO.out (by rw [hvk, huv]))
                  have hne : (c.value == x.value) = true := by simpa using huv
                  have hne2 : (c.value != x.value) = false := by simpa using huv
                  clear hfi hx HYES HNO hbr hi2 hck hck0 hvk huv
                  go_wp2_with (first
                    | (go_at_call 45; refine (HF1.out x.key _ (HR1.out.below HBR.out)).mono ?_; rintro e w1 ⟨rfl, rfl⟩; rw [HFI.out]))
                  go_quiet (fail)
                  go_wp2_with fail
                  go_roundw
                  case rel => exact ⟨j + 1, acc', by omega, by go_num, HN.out.symm, HOW.out.drewN _, below_n HBR.out _⟩
                  case measure => simp [intOf]; omega
                · have HN := Lib.hid (HYES.out (by rw [hvk]; intro e; exact huv (Option.some.inj e)))
                  have hne : (c.value == x.value) = false := by simpa using huv
                  have hne2 : (c.value != x.value) = true := by simpa using huv
                  clear hfi hx HYES HNO hbr hi2 hck hck0 hvk huv
                  go_wp2_with (first
                    | (go_at_call 45; refine (HF1.out x.key _ (HR1.out.below HBR.out)).mono ?_; rintro e w1 ⟨rfl, rfl⟩; rw [HFI.out]))
                  go_quiet (fail)
                  go_wp2_with (first
                    | (go_at_call 46; refine (HPUT.out _ (HOW.out.drewN _)).mono ?_; rintro e w4 ⟨⟨v4, rfl, ho4⟩, hb4⟩; have HO4 := Lib.hid ho4; have hbw4 := below_tr (below_n HBR.out _) hb4; clear ho4))
                  go_roundw
                  case rel => exact ⟨j + 1, putC acc' x, by omega, by go_num, HN.out.symm, HO4.out.mono HBR.out.size, hbw4⟩
                  case measure => simp [intOf]; omega
            · obtain rfl : j = now.length := by omega
              have HA : Hid (diffL old now = acc') := by unfold Hid; rw [HACC.out, List.take_length]; unfold diffL; rfl
              go_wp2_with fail
              go_ret2
              rw [HD.out, HA.out]
              exact ⟨⟨_, rfl, HOW.out⟩, HBR.out⟩
end Go.Proofs.YtaecafagmncmiaaDoor
