/-
  The walks of the document's fine, value, Key; of rows.Key at any number of parts.
-/
import Derived.Test.YtaecafagmncmiaaDoorRv
import Derived.Test.YtaecafagmncmiaaDoorQ1
import Derived.Test.YtaecafagmncmiaaDoorDn
import Derived.Test.YtaecafagmncmiaaDoorQk
namespace Go.Proofs.YtaecafagmncmiaaDoor
open Go.RowKit Pu

theorem cells7' {W : World} {g : Nat} {t : TypeId} {fr : Nat × Nat} {v0 v1 v2 v3 v4 v5 v6 : Value} (h : W.heap[g]? = some (.cells #[v0, v1, v2, v3, v4, v5, v6] t fr)) : W.cell? ⟨g, 0, none⟩ = some v0 ∧ W.cell? ⟨g, 1, none⟩ = some v1 ∧ W.cell? ⟨g, 2, none⟩ = some v2 ∧ W.cell? ⟨g, 3, none⟩ = some v3 ∧ W.cell? ⟨g, 4, none⟩ = some v4 ∧ W.cell? ⟨g, 5, none⟩ = some v5 ∧ W.cell? ⟨g, 6, none⟩ = some v6 :=
  ⟨cell_of_row W g 0 _ _ _ h, cell_of_row W g 1 _ _ _ h, cell_of_row W g 2 _ _ _ h, cell_of_row W g 3 _ _ _ h, cell_of_row W g 4 _ _ _ h, cell_of_row W g 5 _ _ _ h, cell_of_row W g 6 _ _ _ h⟩
theorem fields4 (x : Inst) : (fieldsI x).take 4 = [x.status, x.at_, x.tries, x.due] := by unfold fieldsI; rfl
theorem okI_fine (x : Inst) : okI x = (nameB x.id && nameB x.dfn && !((fieldsI x).take 4).any badN) := by
  have h : (fieldsI x).any badN = ((fieldsI x).take 4).any badN := by
    have h1 : fieldsI x = (fieldsI x).take 4 ++ [outN x.out] := by rw [fields4]; unfold fieldsI; rfl
    have h2 : badN (outN x.out) = false := by unfold badN outN; cases x.out <;> simp
    rw [h1, List.any_append, ← h1]
    simp [h2]
  unfold okI
  rw [h]
theorem any_bad {l : List Int} {j : Nat} {n : Int} (h : l[j]? = some n) (hb : badN n = true) : l.any badN = true := List.any_eq_true.2 ⟨n, List.mem_of_getElem? h, hb⟩

set_option maxRecDepth 100000 in
set_option maxHeartbeats 1000000 in
theorem qfine_any (x : Inst) (w : World) (hl1 : x.id.length ≤ 9223372036854775807) (hl2 : x.dfn.length ≤ 9223372036854775807) :
    Calls Tryd.prog 33 #[instV x] w fun e w' => e = .returned (.bool (okI x)) ∧ Below w.heap.size w w' := by
  have hok := okI_fine x
  have hn1 := fun w => qname_any x.id w hl1
  have hn2 := fun w => qname_any x.dfn w hl2
  have hf := fields4 x
  have h4 : ((fieldsI x).take 4).length = 4 := by rw [hf]; rfl
  generalize (fieldsI x).take 4 = l at hok hf h4
  generalize nameB x.id = b1 at hok hn1
  generalize nameB x.dfn = b2 at hok hn2
  have HOK := Lib.hid hok
  have HN1 := Lib.hid hn1
  have HN2 := Lib.hid hn2
  have hints : (#[Value.int .i64 x.status, .int .i64 x.at_, .int .i64 x.tries, .int .i64 x.due] : Array Value).toList = ints l := by rw [hf]; rfl
  have HI := Lib.hid hints
  have H4 := Lib.hid h4
  have HB := Lib.hid (below_al (below_al (Below.refl _ w) (.cells #[.string (bs x.id), .string (bs x.dfn), .int .i64 x.status, .int .i64 x.at_, .int .i64 x.tries, .int .i64 x.due, .bool x.out] 25)) (.cells #[Value.int .i64 x.status, .int .i64 x.at_, .int .i64 x.tries, .int .i64 x.due] 3))
  have HRD := Lib.hid (Rd.lit (size := 1) (w.alloc (.cells #[.string (bs x.id), .string (bs x.dfn), .int .i64 x.status, .int .i64 x.at_, .int .i64 x.tries, .int .i64 x.due, .bool x.out] 25)) #[Value.int .i64 x.status, .int .i64 x.at_, .int .i64 x.tries, .int .i64 x.due] 3 4 rfl (by simp [maxLen]))
  have hsz : (w.alloc (.cells #[.string (bs x.id), .string (bs x.dfn), .int .i64 x.status, .int .i64 x.at_, .int .i64 x.tries, .int .i64 x.due, .bool x.out] 25)).heap.size = w.heap.size + 1 := by simp
  have HSZ := Lib.hid hsz
  clear hok hn1 hn2 hf h4 hl1 hl2 hints hsz
  unfold instV
  go_enter Tryd.func33, Tryd.ntmps33
  go_wp2_with (first
    | (go_at_call 38; go_fit (HN1.out _); rintro e w1 ⟨rfl, rfl⟩)
    | (go_at_call 38; go_fit (HN2.out _); rintro e w1 ⟨rfl, rfl⟩))
  obtain ⟨W, hW⟩ : ∃ W, W = (w.alloc (.cells #[.string (bs x.id), .string (bs x.dfn), .int .i64 x.status, .int .i64 x.at_, .int .i64 x.tries, .int .i64 x.due, .bool x.out] 25)).alloc (.cells #[Value.int .i64 x.status, .int .i64 x.at_, .int .i64 x.tries, .int .i64 x.due] 3) := ⟨_, rfl⟩
  rw [← hW]
  rw [← hW] at HRD HB
  clear hW
  go_loop [6] (fun i => ∃ j : Nat, j ≤ 4 ∧ i = .int .i64 j ∧ (l.take j).any badN = false) (fun i => 4 - (intOf i).toNat)
  case atStart => exact ⟨0, Nat.zero_le _, rfl, by simp⟩
  case round =>
    obtain ⟨j, hj, rfl, hno⟩ := hrel
    by_cases hlt : j < 4
    · obtain ⟨n, hn⟩ : ∃ n, l[j]? = some n := ⟨_, List.getElem?_eq_getElem (by rw [H4.out]; omega)⟩
      obtain ⟨b, off, hA, hb, hcell⟩ := HRD.out.at_ hlt
      rw [HSZ.out] at hA
      cases hA
      have hc := hcell j _ (by rw [HI.out]; exact ints_at hn)
      rw [Nat.zero_add] at hc
      have hbn : badN n = (decide (n < 0) || decide (9007199254740991 < n)) := by unfold badN; rfl
      have htk : (l.take (j + 1)).any badN = ((l.take j).any badN || badN n) := by rw [List.take_add_one, hn, Option.toList_some, List.any_append]; simp
      rw [hno, Bool.false_or, hbn] at htk
      have hbad := fun h => any_bad (l := l) hn h
      rw [hbn] at hbad
      have HTK := Lib.hid htk
      have HBAD := Lib.hid hbad
      clear htk hbad hbn hn hno hcell
      by_cases hn0 : n < 0
      · have HO : Hid (okI x = false) := by unfold Hid; rw [HOK.out, HBAD.out (by simp [hn0])]; simp
        go_wp2_with fail
        go_ret
        exact ⟨by rw [HO.out]; rfl, HB.out⟩
      · by_cases hn1 : 9007199254740991 < n
        · have HO : Hid (okI x = false) := by unfold Hid; rw [HOK.out, HBAD.out (by simp [hn1])]; simp
          go_wp2_with fail
          go_ret
          exact ⟨by rw [HO.out]; rfl, HB.out⟩
        · go_wp2_with fail
          go_round
          case rel => exact ⟨j + 1, by omega, by go_num, by rw [HTK.out]; simp [hn0, hn1]⟩
          case measure => simp [intOf]; omega
    · obtain rfl : j = 4 := by omega
      have HO : Hid (okI x = (b1 && b2)) := by
        unfold Hid
        rw [HOK.out]
        have : l.take 4 = l := List.take_of_length_le (by rw [H4.out]; omega)
        rw [this] at hno
        rw [hno]; simp
      clear hno
      cases b1 with
      | false =>
        go_wp2_with fail
        go_ret
        exact ⟨by rw [HO.out]; rfl, HB.out⟩
      | true =>
        go_wp2_with fail
        go_ret
        exact ⟨by rw [HO.out]; cases b2 <;> rfl, HB.out⟩

set_option maxRecDepth 100000 in
set_option maxHeartbeats 1000000 in
theorem qvalue_any (x : Inst) (w : World) (hok : okI x = true) : Calls Tryd.prog 34 #[instV x] w fun e w' => e = .returned (.string (bs (instB x))) ∧ Below w.heap.size w w' := by
  have hna := nameB_len (okI_names hok).1
  have hnd := nameB_len (okI_names hok).2
  have hrow := fun c => qrow_any (some ⟨w.heap.size + 1, 0, none⟩) c [x.id, x.dfn] ((w.alloc (.cells #[.string (bs x.id), .string (bs x.dfn), .int .i64 x.status, .int .i64 x.at_, .int .i64 x.tries, .int .i64 x.due, .bool x.out] 25)).alloc (.cells #[.string (bs x.id), .string (bs x.dfn)] 9)) (by
    have := Rd.lit (size := 1) (w.alloc (.cells #[.string (bs x.id), .string (bs x.dfn), .int .i64 x.status, .int .i64 x.at_, .int .i64 x.tries, .int .i64 x.due, .bool x.out] 25)) #[.string (bs x.id), .string (bs x.dfn)] 9 2 rfl (by simp [maxLen])
    simpa [strs] using this) (by simp) (by intro s hs; simp at hs; rcases hs with rfl | rfl <;> omega) (by have := rowB_two hna.2 hnd.2; omega)
  change ∀ c, Calls _ _ #[.slice _ 2 c] _ _ at hrow
  have HROW := Lib.hid hrow
  have HOK := Lib.hid hok
  have h5 : instB x = instTo x 5 := by unfold instB; rfl
  rw [h5]
  have HB0 := Lib.hid (below_al (Below.refl _ w) (.cells #[.string (bs x.id), .string (bs x.dfn), .int .i64 x.status, .int .i64 x.at_, .int .i64 x.tries, .int .i64 x.due, .bool x.out] 25))
  have h0 := instTo_zero x
  have hrl := instTo_len hok 0 (by omega)
  rw [h0] at hrl
  have HT0 := Lib.hid h0
  generalize rowB [x.id, x.dfn] = R at hrl HT0 HROW
  clear hok hrow h5 h0 hna hnd
  have hfi : ∀ b, x.out = b → (#[Value.int .i64 x.status, .int .i64 x.at_, .int .i64 x.tries, .int .i64 x.due, .int .i64 (if b then 1 else 0)] : Array Value).toList = ints (fieldsI x) := fun b h => by rw [fieldsI_out h]
  have HFI := Lib.hid hfi
  clear hfi
  cases ho : x.out with
  | true =>
    have HF := Lib.hid (HFI.out true ho)
    rw [ho] at HB0 HROW
    unfold instV
    rw [ho]
    clear ho HFI
    go_enter Tryd.func34, Tryd.ntmps34
    go_wp2_with (first
      | (go_at_call 60; refine (HROW.out _).mono ?_; rintro e w1 ⟨rfl, hb1⟩; have hx1 := (hb1.block w.heap.size (by simp; omega)).trans ((heap_alloc2_old w _ _).trans rfl); obtain ⟨c0, c1, c2, c3, c4, c5, c6⟩ := cells7' hx1; have hbw1 := below_tr (below_al (HB0.out) _) hb1; have hlt1 : w.heap.size < w1.heap.size := (Array.getElem?_eq_some_iff.1 hx1).1; clear hx1))
    obtain ⟨W, hW⟩ : ∃ W, W = w1.alloc (.cells #[.int .i64 x.status, .int .i64 x.at_, .int .i64 x.tries, .int .i64 x.due, .int .i64 1] 3) := ⟨_, rfl⟩
    rw [← hW]
    have hblk : W.heap[w1.heap.size]? = some (.cells #[.int .i64 x.status, .int .i64 x.at_, .int .i64 x.tries, .int .i64 x.due, .int .i64 1] 3 (0, 0)) := by rw [hW]; exact heap_alloc_new w1 _
    have hbW : Below w.heap.size w W := by rw [hW]; exact below_al hbw1 _
    have hrd : Rd W 1 (some ⟨w1.heap.size, 0, none⟩) 5 (ints (fieldsI x)) := by
      have := rd_block hblk rfl (by simp [maxLen])
      rw [← HF.out]; exact this
    have HRD := Lib.hid hrd
    clear hW hblk hrd c0 c1 c2 c3 c4 c5 c6
    go_loopw [3, 6] (fun s i wr => ∃ j : Nat, j ≤ 5 ∧ i = .int .i64 j ∧ s = .string (bs (instTo x j)) ∧ Below W.heap.size W wr) (fun _ i _ => 5 - (intOf i).toNat)
    case atStart => exact ⟨0, by omega, rfl, by rw [HT0.out], Below.refl _ _⟩
    case round =>
      obtain ⟨j, hj, rfl, rfl, hbr⟩ := hrel
      by_cases hlt : j < 5
      · obtain ⟨n, hn⟩ : ∃ n, (fieldsI x)[j]? = some n := ⟨_, List.getElem?_eq_getElem (by rw [fieldsI_len]; omega)⟩
        have hrng := okI_at HOK.out hn
        have hsucc := instTo_succ hn
        have hln := instTo_len HOK.out j hj
        obtain ⟨b, off, hA, hb, hcell⟩ := (HRD.out.below hbr).at_ hlt
        cases hA
        have hc := hcell j _ (ints_at hn)
        rw [Nat.zero_add] at hc
        obtain ⟨m, rfl⟩ := Int.eq_ofNat_of_zero_le hrng.1
        rw [Int.toNat_natCast] at hsucc
        have hnum := fun w => qnum_any m w (by unfold maxN; omega)
        have hnl := num_short hrng
        rw [Int.toNat_natCast] at hnl
        have hcat := bs_app (instTo x j) (num m)
        have HSUCC := Lib.hid hsucc
        have HNUM := Lib.hid hnum
        have hm := hrng.2
        clear hcell hn hsucc hnum hrng
        go_wp2_with (first
          | (go_at_call 61; refine (HNUM.out _).mono ?_; rintro e w3 ⟨rfl, hb3⟩; have hbr3 := below_tr hbr hb3))
        go_roundw
        case rel => exact ⟨j + 1, by omega, by go_num, by rw [HSUCC.out], hbr3⟩
        case measure => simp [intOf]; omega
      · obtain rfl : j = 5 := by omega
        go_wp2
        go_ret
        exact ⟨rfl, below_tr hbW hbr⟩
  | false =>
    have HF := Lib.hid (HFI.out false ho)
    rw [ho] at HB0 HROW
    unfold instV
    rw [ho]
    clear ho HFI
    go_enter Tryd.func34, Tryd.ntmps34
    go_wp2_with (first
      | (go_at_call 60; refine (HROW.out _).mono ?_; rintro e w1 ⟨rfl, hb1⟩; have hx1 := (hb1.block w.heap.size (by simp; omega)).trans ((heap_alloc2_old w _ _).trans rfl); obtain ⟨c0, c1, c2, c3, c4, c5, c6⟩ := cells7' hx1; have hbw1 := below_tr (below_al (HB0.out) _) hb1; have hlt1 : w.heap.size < w1.heap.size := (Array.getElem?_eq_some_iff.1 hx1).1; clear hx1))
    obtain ⟨W, hW⟩ : ∃ W, W = w1.alloc (.cells #[.int .i64 x.status, .int .i64 x.at_, .int .i64 x.tries, .int .i64 x.due, .int .i64 0] 3) := ⟨_, rfl⟩
    rw [← hW]
    have hblk : W.heap[w1.heap.size]? = some (.cells #[.int .i64 x.status, .int .i64 x.at_, .int .i64 x.tries, .int .i64 x.due, .int .i64 0] 3 (0, 0)) := by rw [hW]; exact heap_alloc_new w1 _
    have hbW : Below w.heap.size w W := by rw [hW]; exact below_al hbw1 _
    have hrd : Rd W 1 (some ⟨w1.heap.size, 0, none⟩) 5 (ints (fieldsI x)) := by
      have := rd_block hblk rfl (by simp [maxLen])
      rw [← HF.out]; exact this
    have HRD := Lib.hid hrd
    clear hW hblk hrd c0 c1 c2 c3 c4 c5 c6
    go_loopw [3, 6] (fun s i wr => ∃ j : Nat, j ≤ 5 ∧ i = .int .i64 j ∧ s = .string (bs (instTo x j)) ∧ Below W.heap.size W wr) (fun _ i _ => 5 - (intOf i).toNat)
    case atStart => exact ⟨0, by omega, rfl, by rw [HT0.out], Below.refl _ _⟩
    case round =>
      obtain ⟨j, hj, rfl, rfl, hbr⟩ := hrel
      by_cases hlt : j < 5
      · obtain ⟨n, hn⟩ : ∃ n, (fieldsI x)[j]? = some n := ⟨_, List.getElem?_eq_getElem (by rw [fieldsI_len]; omega)⟩
        have hrng := okI_at HOK.out hn
        have hsucc := instTo_succ hn
        have hln := instTo_len HOK.out j hj
        obtain ⟨b, off, hA, hb, hcell⟩ := (HRD.out.below hbr).at_ hlt
        cases hA
        have hc := hcell j _ (ints_at hn)
        rw [Nat.zero_add] at hc
        obtain ⟨m, rfl⟩ := Int.eq_ofNat_of_zero_le hrng.1
        rw [Int.toNat_natCast] at hsucc
        have hnum := fun w => qnum_any m w (by unfold maxN; omega)
        have hnl := num_short hrng
        rw [Int.toNat_natCast] at hnl
        have hcat := bs_app (instTo x j) (num m)
        have HSUCC := Lib.hid hsucc
        have HNUM := Lib.hid hnum
        have hm := hrng.2
        clear hcell hn hsucc hnum hrng
        go_wp2_with (first
          | (go_at_call 61; refine (HNUM.out _).mono ?_; rintro e w3 ⟨rfl, hb3⟩; have hbr3 := below_tr hbr hb3))
        go_roundw
        case rel => exact ⟨j + 1, by omega, by go_num, by rw [HSUCC.out], hbr3⟩
        case measure => simp [intOf]; omega
      · obtain rfl : j = 5 := by omega
        go_wp2
        go_ret
        exact ⟨rfl, below_tr hbW hbr⟩
end Go.Proofs.YtaecafagmncmiaaDoor
