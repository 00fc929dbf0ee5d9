/-
  The walks of find, of the document's rows and put.
-/
import Derived.Deep.QuietTactic
import Derived.BigQuiet
import Derived.Test.YtaecafagmncmiaaDoorRv
import Derived.Test.YtaecafagmncmiaaDoorPd
namespace Go.Proofs.YtaecafagmncmiaaDoor
open Go.RowKit Pu

set_option maxRecDepth 100000 in
set_option maxHeartbeats 1000000 in
theorem qfind_any (A : Option Addr) (c : Nat) (l : List Chg) (k : Bs) (w : World) (hr : Rd w 3 A l.length (l.flatMap chgC)) :
    Calls Tryd.prog 45 #[.slice A l.length c, .string (bs k)] w fun e w' => e = .returned (.int .i64 (findI l k)) ∧ w = w' := by
  have hmx := hr.max
  go_enter Tryd.func45, Tryd.ntmps45
  go_wp2
  go_loop [5] (fun i => ∃ j : Nat, j ≤ l.length ∧ i = .int .i64 j ∧ hasK (l.take j) k = false) (fun i => l.length - (intOf i).toNat)
  case atStart => exact ⟨0, Nat.zero_le _, rfl, by unfold hasK; rfl⟩
  case round =>
    obtain ⟨j, hj, rfl, hno⟩ := hrel
    by_cases hlt : j < l.length
    · obtain ⟨x, hx⟩ : ∃ x, l[j]? = some x := ⟨_, List.getElem?_eq_getElem hlt⟩
      obtain ⟨b, off, rfl, hblt, hc0, hc1, hc2⟩ := hr.three chgC chgC_len hx (u0 := .string (bs x.key)) (u1 := .bool x.drop) (u2 := .string (bs x.value)) rfl
      have hat := fun h => findI_at (l := l) (k := k) hx h hno
      have hsn : x.key ≠ k → hasK (l.take (j + 1)) k = false := fun h => by
        rw [List.take_add_one, hx, Option.toList_some, hasK_snoc, hno]; simpa using h
      have HAT := Lib.hid hat
      have HSN := Lib.hid hsn
      clear hat hsn hno hx
      by_cases hk : x.key = k
      · have HF := Lib.hid (HAT.out hk)
        have hb : (x.key == k) = true := by simpa using hk
        clear hk
        go_wp2
        go_ret
        exact ⟨by rw [HF.out]; rfl, rfl⟩
      · have HF := Lib.hid (HSN.out hk)
        have hb : (x.key == k) = false := by simpa using hk
        clear hk
        go_wp2
        go_round
        case rel => exact ⟨j + 1, by omega, by go_num, HF.out⟩
        case measure => simp [intOf]; omega
    · obtain rfl : j = l.length := by omega
      rw [List.take_length] at hno
      have HF := Lib.hid (findI_none hno)
      clear hno
      go_wp2
      go_ret
      exact ⟨by rw [HF.out]; rfl, rfl⟩

set_option maxRecDepth 100000 in
set_option maxHeartbeats 1000000 in
theorem lfind_any (A : Option Addr) (c : Nat) (l : List Chg) (k : Bs) (w : World) (hr : Rd w 3 A l.length (l.flatMap chgC)) :
    Calls Tryd.prog 24 #[.slice A l.length c, .string (bs k)] w fun e w' => e = .returned (.int .i64 (findI l k)) ∧ w = w' := by
  have hmx := hr.max
  go_enter Tryd.func24, Tryd.ntmps24
  go_wp2
  go_loop [5] (fun i => ∃ j : Nat, j ≤ l.length ∧ i = .int .i64 j ∧ hasK (l.take j) k = false) (fun i => l.length - (intOf i).toNat)
  case atStart => exact ⟨0, Nat.zero_le _, rfl, by unfold hasK; rfl⟩
  case round =>
    obtain ⟨j, hj, rfl, hno⟩ := hrel
    by_cases hlt : j < l.length
    · obtain ⟨x, hx⟩ : ∃ x, l[j]? = some x := ⟨_, List.getElem?_eq_getElem hlt⟩
      obtain ⟨b, off, rfl, hblt, hc0, hc1, hc2⟩ := hr.three chgC chgC_len hx (u0 := .string (bs x.key)) (u1 := .bool x.drop) (u2 := .string (bs x.value)) rfl
      have hat := fun h => findI_at (l := l) (k := k) hx h hno
      have hsn : x.key ≠ k → hasK (l.take (j + 1)) k = false := fun h => by
        rw [List.take_add_one, hx, Option.toList_some, hasK_snoc, hno]; simpa using h
      have HAT := Lib.hid hat
      have HSN := Lib.hid hsn
      clear hat hsn hno hx
      by_cases hk : x.key = k
      · have HF := Lib.hid (HAT.out hk)
        have hb : (x.key == k) = true := by simpa using hk
        clear hk
        go_wp2
        go_ret
        exact ⟨by rw [HF.out]; rfl, rfl⟩
      · have HF := Lib.hid (HSN.out hk)
        have hb : (x.key == k) = false := by simpa using hk
        clear hk
        go_wp2
        go_round
        case rel => exact ⟨j + 1, by omega, by go_num, HF.out⟩
        case measure => simp [intOf]; omega
    · obtain rfl : j = l.length := by omega
      rw [List.take_length] at hno
      have HF := Lib.hid (findI_none hno)
      clear hno
      go_wp2
      go_ret
      exact ⟨by rw [HF.out]; rfl, rfl⟩

set_option maxRecDepth 100000 in
set_option maxHeartbeats 1000000 in
theorem qrows_any (A : Option Addr) (c : Nat) (l : List Chg) (w : World) (hr : Rd w 3 A l.length (l.flatMap chgC)) :
    Calls Tryd.prog 44 #[.slice A l.length c] w fun e w' => e = .returned (.bool (rowsB l)) ∧ w = w' := by
  have hmx := hr.max
  have hfi := fun k w h => qfind_any A c l k w h
  have HFI := Lib.hid hfi
  have HR := Lib.hid hr
  clear hfi
  go_enter Tryd.func44, Tryd.ntmps44
  go_wp2
  go_loop [3] (fun i => ∃ j : Nat, j ≤ l.length ∧ i = .int .i64 j ∧ rowsB (l.take j) = true) (fun i => l.length - (intOf i).toNat)
  case atStart => exact ⟨0, Nat.zero_le _, rfl, by unfold rowsB apartK; simp⟩
  case round =>
    obtain ⟨j, hj, rfl, hok⟩ := hrel
    by_cases hlt : j < l.length
    · obtain ⟨x, hx⟩ : ∃ x, l[j]? = some x := ⟨_, List.getElem?_eq_getElem hlt⟩
      obtain ⟨b, off, rfl, hblt, hc0, hc1, hc2⟩ := hr.three chgC chgC_len hx (u0 := .string (bs x.key)) (u1 := .bool x.drop) (u2 := .string (bs x.value)) rfl
      have htk := rowsB_take (l := l) hx
      have hbad := fun h => rowsB_bad (l := l) hx h
      have hsame : hasK (l.take j) x.key = false → findI l x.key = j := fun h => findI_at hx rfl h
      have hother : hasK (l.take j) x.key = true → findI l x.key < j := fun h => by
        rcases findI_case (l.take j) x.key with ⟨h1, _⟩ | ⟨i, y, h1, h2, h3, h4⟩
        · rw [h] at h1; cases h1
        · have h5 : i < (l.take j).length := (List.getElem?_eq_some_iff.1 h1).1
          have h6 : i < j := by rw [List.length_take] at h5; omega
          have h7 : l[i]? = some y := by rw [List.getElem?_take_of_lt h6] at h1; exact h1
          have h8 : hasK (l.take i) x.key = false := by
            rw [List.take_take, Nat.min_eq_left (by omega)] at h3; exact h3
          rw [findI_at h7 h2 h8]; omega
      rw [hok] at htk
      cases hd : x.drop with
      | true =>
        have HF := Lib.hid (hbad (.inr hd))
        rw [hd] at hc1
        clear htk hbad hsame hother hd hok hx
        go_wp2
        go_ret
        exact ⟨by rw [HF.out]; rfl, rfl⟩
      | false =>
        rw [hd] at hc1 htk
        cases hh : hasK (l.take j) x.key with
        | true =>
          have HF := Lib.hid (hbad (.inl hh))
          have hlt2 := hother hh
          clear htk hbad hsame hother hh hd hok hx
          obtain ⟨q, hq⟩ : ∃ q, q = findI l x.key := ⟨_, rfl⟩
          rw [← hq] at hlt2
          have HQ := Lib.hid hq.symm
          clear hq
          have hne : (q != (j : Int)) = true := by rw [bne_iff_ne]; omega
          go_wp2_with (go_at_call 45; refine (HFI.out x.key _ HR.out).mono ?_; rintro e w1 ⟨rfl, rfl⟩; rw [HQ.out])
          go_ret
          exact ⟨by rw [HF.out]; rfl, rfl⟩
        | false =>
          have HQ := Lib.hid (hsame hh)
          rw [hh] at htk
          have HTK := Lib.hid htk
          clear htk hbad hsame hother hh hd hok hx
          go_wp2_with (go_at_call 45; refine (HFI.out x.key _ HR.out).mono ?_; rintro e w1 ⟨rfl, rfl⟩; rw [HQ.out])
          go_round
          case rel => exact ⟨j + 1, by omega, by go_num, HTK.out⟩
          case measure => simp [intOf]; omega
    · obtain rfl : j = l.length := by omega
      rw [List.take_length] at hok
      have HF := Lib.hid hok
      clear hok
      go_wp2
      go_ret
      exact ⟨by rw [HF.out]; rfl, rfl⟩

theorem bytesLess_ltB : ∀ a b : Bs, Op.bytesLess a b = ltB a b := by
  unfold ltB
  intro a
  induction a with
  | nil => intro b; cases b <;> simp [Op.bytesLess, Lib.compareBytes]
  | cons x a ih =>
    intro b
    cases b with
    | nil => simp [Op.bytesLess, Lib.compareBytes]
    | cons y b =>
      rw [Op.bytesLess, Lib.compareBytes, ih b]
      by_cases h : x < y
      · simp [h]
      · by_cases h2 : y < x
        · have : (x == y) = false := by
            rw [beq_eq_false_iff_ne]; intro e; subst e; exact h h2
          simp [h, h2, this]
        · have : x = y := by
            rw [UInt8.lt_iff_toNat_lt] at h h2
            exact UInt8.toNat.inj (by omega)
          subst this
          simp [h]
theorem chgCs_one (l : List Chg) : ∀ u ∈ l.flatMap chgC, u.oneCell' = true := by
  intro u hu
  obtain ⟨c, _, hc⟩ := List.mem_flatMap.1 hu
  exact chgC_one c u hc
theorem flatC_take (l : List Chg) (j : Nat) : (l.flatMap chgC).take (j * 3) = (l.take j).flatMap chgC := by
  induction l generalizing j with
  | nil => simp
  | cons x r ih =>
    cases j with
    | zero => simp
    | succ j =>
      rw [List.flatMap_cons, List.take_succ_cons, List.flatMap_cons, ← ih j, List.take_append, chgC_len, List.take_of_length_le (by rw [chgC_len]; omega)]
      congr 2
      omega
theorem flatC_drop (l : List Chg) (j : Nat) : (l.flatMap chgC).drop (j * 3) = (l.drop j).flatMap chgC := by
  induction l generalizing j with
  | nil => simp
  | cons x r ih =>
    cases j with
    | zero => simp
    | succ j =>
      rw [List.flatMap_cons, List.drop_succ_cons, ← ih j, List.drop_append, chgC_len, List.drop_of_length_le (by rw [chgC_len]; omega), List.nil_append]
      congr 1
      omega
theorem Rd.pre {w : World} {A : Option Addr} {n j : Nat} {l : List Chg} (h : Rd w 3 A n (l.flatMap chgC)) (hn : l.length = n) (hj : j ≤ n) : Rd w 3 A j ((l.take j).flatMap chgC) := by
  refine ⟨?_, Nat.le_trans hj h.2.1, fun h0 => ?_⟩
  · rw [← flatC_take, List.length_take, h.1]
    have : j * 3 ≤ n * 3 := Nat.mul_le_mul_right 3 hj
    omega
  · obtain ⟨b, off, hA, hb, hc⟩ := h.2.2 (by omega)
    refine ⟨b, off, hA, hb, fun i u hu => hc i u ?_⟩
    rw [← flatC_take] at hu
    have hlt := (List.getElem?_eq_some_iff.1 hu).1
    rw [List.length_take] at hlt
    rw [List.getElem?_take_of_lt (by omega)] at hu
    exact hu
theorem Rd.suf {w : World} {b off n j : Nat} {l : List Chg} (h : Rd w 3 (some ⟨b, off, none⟩) n (l.flatMap chgC)) (hn : l.length = n) (hj : j ≤ n) : Rd w 3 (some ⟨b, off + j * 3, none⟩) (n - j) ((l.drop j).flatMap chgC) := by
  refine ⟨?_, by have := h.2.1; omega, fun h0 => ?_⟩
  · rw [← flatC_drop, List.length_drop, h.1, Nat.sub_mul]
  · obtain ⟨b', off', hA, hb, hc⟩ := h.2.2 (by omega)
    cases hA
    refine ⟨b, off + j * 3, rfl, hb, fun i u hu => ?_⟩
    rw [← flatC_drop, List.getElem?_drop] at hu
    rw [Nat.add_assoc]
    exact hc _ u hu
theorem putC_split {l : List Chg} {x : Chg} {j : Nat} (h : ∀ y ∈ l.take j, ltB y.key x.key = true) (hj : j = l.length ∨ ∃ y, l[j]? = some y ∧ ltB y.key x.key = false) : putC l x = l.take j ++ x :: l.drop j := by
  have h0 : l = l.take j ++ l.drop j := (List.take_append_drop j l).symm
  have ht : l.takeWhile (fun y => ltB y.key x.key) = l.take j := by
    have : (l.take j ++ l.drop j).takeWhile (fun y => ltB y.key x.key) = l.take j ++ (l.drop j).takeWhile (fun y => ltB y.key x.key) := List.takeWhile_append_of_pos h
    rw [← h0] at this
    rw [this]
    rcases hj with rfl | ⟨y, hy, hl⟩
    · simp
    · rw [drop_at hy, List.takeWhile_cons_of_neg (by simp [hl]), List.append_nil]
  have hd : l.dropWhile (fun y => ltB y.key x.key) = l.drop j := by
    have h1 := List.takeWhile_append_dropWhile (p := fun y : Chg => ltB y.key x.key) (l := l)
    rw [ht] at h1
    exact List.append_cancel_left (h1.trans h0)
  unfold putC
  rw [ht, hd]
def PuPost (base : Nat) (r : List Chg) (e : Ending) (w : World) : Prop := ∃ v, e = .returned v ∧ Ow w base 49 3 v r.length (r.flatMap chgC)
theorem put_fin {w : World} {base n : Nat} {t : TypeId} {v : Value} {l r : List Chg} {x : Chg} {xs : List Value} (h : putC l x = r) (ho : Ow w base t 3 v n xs) (hn : n = r.length) (hc : xs = r.flatMap chgC) : Ow w base t 3 v (putC l x).length ((putC l x).flatMap chgC) := by
  rw [h]; exact ho.cast hn hc

set_option maxRecDepth 100000 in
set_option maxHeartbeats 2000000 in
theorem qput_any (base0 : Nat) (v : Value) (l : List Chg) (x : Chg) (w : World) (how : Ow w base0 49 3 v l.length (l.flatMap chgC)) (hn : l.length ≤ 1000000) :
    Calls Tryd.prog 46 #[v, .agg #[.string (bs x.key), .bool x.drop, .string (bs x.value)]] w fun e w' => PuPost w.heap.size (putC l x) e w' ∧ Below w.heap.size w w' := by
  rcases how.2 with ⟨rfl, h0⟩ | ⟨g, off, cap, cur, fr, rfl, hbg, hg, hfr, hncap, hcm, hcs, hx⟩
  · obtain rfl : l = [] := List.eq_nil_of_length_eq_zero h0
    have HPUT : Hid (putC [] x = [x]) := by unfold Hid; unfold putC; rfl
    clear how h0 hn
    go_enter Tryd.func46, Tryd.ntmps46
    go_wp2
    refine wp_loop_rounds 1 ?_
    rw [rounds_succ]
    have d0 := (cell_of_row (w.alloc (.cells #[.string (bs x.key), .bool x.drop, .string (bs x.value)] 49)) w.heap.size 0 _ _ _ (heap_alloc_new w _)).trans (show _ = some (Value.string (bs x.key)) from rfl)
    have HSZ : Hid (w.heap.size < (w.alloc (.cells #[.string (bs x.key), .bool x.drop, .string (bs x.value)] 49)).heap.size) := by simp [Hid]
    have HBW := Lib.hid (below_al (Below.refl _ w) (.cells #[.string (bs x.key), .bool x.drop, .string (bs x.value)] 49))
    have HBOX := Lib.hid (heap_alloc_new w (.cells #[.string (bs x.key), .bool x.drop, .string (bs x.value)] 49))
    go_wp2_with fail
    go_quiet (fail)
    go_wp2_with (first
      | (refine wpList_pushes tChg rfl (.tmp 23) (.tmp 26) rfl (w.heap.size + 1) (.slice none 0 0) 0 [] none 0 0 [] rfl rfl (Ow.nil _ _ _ _) (Rd.nil _ _ _) (by simp) (by omega) (by omega) HSZ.out ?_; intro v1 w1 ho1 hg1 hd1 hb1; have hbox1 := (hg1.block w.heap.size HSZ.out (by simp [Value.ownBlock])).trans HBOX.out; have e0 := (cell_of_row w1 w.heap.size 0 _ _ _ hbox1).trans (show _ = some (Value.string (bs x.key)) from rfl); have e1 := (cell_of_row w1 w.heap.size 1 _ _ _ hbox1).trans (show _ = some (Value.bool x.drop) from rfl); have e2 := (cell_of_row w1 w.heap.size 2 _ _ _ hbox1).trans (show _ = some (Value.string (bs x.value)) from rfl); have ho1 := ho1.cast (Nat.zero_add 0) (List.nil_append _); obtain ⟨A1, c1, rfl, _⟩ := ho1.rd; have hbw1 := (below_n HBW.out _).trans (hb1.mono (Nat.le_succ _)); have hsz1 := Nat.le_trans HSZ.out hg1.size; have HO1 := Lib.hid ho1; clear ho1 hg1 hd1 hb1 hbox1)
      | (refine wpList_push tChg rfl (.tmp 28) (.tmp 30) rfl (w.heap.size + 1) (.slice A1 0 c1) 0 _ #[.string (bs x.key), .bool x.drop, .string (bs x.value)] rfl rfl HO1.out rfl (chgC_one x) (by omega) (by omega) hsz1 ?_; intro v2 w2 ho2 hg2 hd2 hb2; have ho2 := ho2.cast (show _ = 1 from rfl) rfl; obtain ⟨A2, c2, rfl, _⟩ := ho2.rd; have hbw2 := hbw1.trans (hb2.mono (Nat.le_succ _)); have hsz2 := Nat.le_trans hsz1 hg2.size; have HO2 := Lib.hid ho2; clear ho2 hg2 hd2 hb2)
      | (refine wpList_pushes tChg rfl (.tmp 32) (.tmp 35) rfl (w.heap.size + 1) (.slice A2 1 c2) 1 _ none 0 0 [] rfl rfl HO2.out (Rd.nil _ _ _) (by simp) (by omega) (by omega) hsz2 ?_; intro v3 w3 ho3 hg3 hd3 hb3; have hbw3 := hbw2.trans (hb3.mono (Nat.le_succ _)); have HO3 := Lib.hid ho3; clear ho3 hg3 hd3 hb3))
    go_ret
    exact ⟨⟨v3, rfl, (put_fin HPUT.out HO3.out (by simp; try omega) (by simp [chgC])).mono (Nat.le_succ _)⟩, hbw3⟩
  · obtain ⟨A, c, hv, hr⟩ := how.rd
    cases hv
    have HHR := Lib.hid hr
    clear hg hfr hcs hx how
    have hmx := hr.max
    unfold maxLen at hcm
    go_enter Tryd.func46, Tryd.ntmps46
    go_wp2
    go_loopw [5] (fun i wr => ∃ j : Nat, j ≤ l.length ∧ i = .int .i64 j ∧ (∀ y ∈ l.take j, ltB y.key x.key = true) ∧ wr.heap[w.heap.size]? = some (.cells #[.string (bs x.key), .bool x.drop, .string (bs x.value)] 49 (0, 0)) ∧ Below w.heap.size w wr) (fun i _ => l.length - (intOf i).toNat)
    case atStart => exact ⟨0, Nat.zero_le _, rfl, by simp, heap_alloc_new w _, below_al (Below.refl _ _) _⟩
    case round =>
      obtain ⟨j, hj, rfl, hok, hbox, hbw⟩ := hrel
      have d0 := (cell_of_row wr w.heap.size 0 _ _ _ hbox).trans (show _ = some (Value.string (bs x.key)) from rfl)
      by_cases hlt : j < l.length
      · obtain ⟨y, hy⟩ : ∃ x, l[j]? = some x := ⟨_, List.getElem?_eq_getElem hlt⟩
        obtain ⟨b, off', hA, hblt, hc0, hc1, hc2⟩ := (hr.below hbw).three chgC chgC_len hy (u0 := .string (bs y.key)) (u1 := .bool y.drop) (u2 := .string (bs y.value)) rfl
        cases hA
        have htk : l.take (j + 1) = l.take j ++ [y] := by rw [List.take_add_one, hy]; rfl
        cases hlx : ltB y.key x.key with
        | true =>
          have HOK : Hid (∀ y ∈ l.take (j + 1), ltB y.key x.key = true) := by
            intro z hz; rw [htk] at hz
            rcases List.mem_append.1 hz with h | h
            · exact hok z h
            · simp at h; subst h; exact hlx
          have hbl : Op.bytesLess y.key x.key = true := by rw [bytesLess_ltB]; exact hlx
          have HBOX := Lib.hid hbox
          clear hlx hok htk hy hbox
          go_wp2_with fail
          go_quiet (fail)
          go_wp2
          go_roundw
          case rel => exact ⟨j + 1, by omega, by go_num, HOK.out, HBOX.out, below_tr hbw (below_n (Below.refl _ _) _)⟩
          case measure => simp [intOf]; omega
        | false =>
          have HPUT := Lib.hid (putC_split hok (.inr ⟨y, hy, hlx⟩))
          have hbl : Op.bytesLess y.key x.key = false := by rw [bytesLess_ltB]; exact hlx
          have hsz : w.heap.size < wr.heap.size := (Array.getElem?_eq_some_iff.1 hbox).1
          have HSZ := Lib.hid hsz
          have HBW := Lib.hid hbw
          have HBOX := Lib.hid hbox
          have hcj : ¬ cap = j := by omega
          clear hlx hok htk hy hbox hbw
          go_wp2_with fail
          go_quiet (fail)
          go_wp2_with (first
            | (refine wpList_pushes tChg rfl (.tmp 23) (.tmp 26) rfl (w.heap.size + 1) (.slice none 0 0) 0 [] (some ⟨g, off, none⟩) j cap ((l.take j).flatMap chgC) rfl rfl (Ow.nil _ _ _ _) ((HHR.out.below (below_n HBW.out _)).pre rfl hj) (chgCs_one _) (by omega) (by omega) HSZ.out ?_; intro v1 w1 ho1 hg1 hd1 hb1; have hbox1 := (hg1.block w.heap.size HSZ.out (by simp [Value.ownBlock])).trans HBOX.out; have e0 := (cell_of_row w1 w.heap.size 0 _ _ _ hbox1).trans (show _ = some (Value.string (bs x.key)) from rfl); have e1 := (cell_of_row w1 w.heap.size 1 _ _ _ hbox1).trans (show _ = some (Value.bool x.drop) from rfl); have e2 := (cell_of_row w1 w.heap.size 2 _ _ _ hbox1).trans (show _ = some (Value.string (bs x.value)) from rfl); have ho1 := ho1.cast (Nat.zero_add j) (List.nil_append _); obtain ⟨A1, c1, rfl, _⟩ := ho1.rd; have hbw1 := (below_n HBW.out _).trans (hb1.mono (Nat.le_succ _)); have hsz1 := Nat.le_trans HSZ.out hg1.size; have HO1 := Lib.hid ho1; clear ho1 hg1 hd1 hb1 hbox1)
            | (refine wpList_push tChg rfl (.tmp 28) (.tmp 30) rfl (w.heap.size + 1) (.slice A1 j c1) j _ #[.string (bs x.key), .bool x.drop, .string (bs x.value)] rfl rfl HO1.out rfl (chgC_one x) (by omega) (by omega) hsz1 ?_; intro v2 w2 ho2 hg2 hd2 hb2; have ho2 := ho2.cast (show _ = (j + 1) from rfl) rfl; obtain ⟨A2, c2, rfl, _⟩ := ho2.rd; have hbw2 := hbw1.trans (hb2.mono (Nat.le_succ _)); have hsz2 := Nat.le_trans hsz1 hg2.size; have HO2 := Lib.hid ho2; clear ho2 hg2 hd2 hb2)
            | (refine wpList_pushes tChg rfl (.tmp 32) (.tmp 35) rfl (w.heap.size + 1) (.slice A2 (j + 1) c2) (j + 1) _ (some ⟨g, off + j * 3, none⟩) (l.length - j) (cap - j) ((l.drop j).flatMap chgC) rfl rfl HO2.out ((HHR.out.below hbw2).suf rfl hj) (chgCs_one _) (by omega) (by omega) hsz2 ?_; intro v3 w3 ho3 hg3 hd3 hb3; have hbw3 := hbw2.trans (hb3.mono (Nat.le_succ _)); have HO3 := Lib.hid ho3; clear ho3 hg3 hd3 hb3))
          go_ret
          exact ⟨⟨v3, rfl, (put_fin HPUT.out HO3.out (by simp; try omega) (by simp [chgC])).mono (Nat.le_succ _)⟩, hbw3⟩
      · have hjl : j = l.length := by omega
        have HPUT := Lib.hid (putC_split hok (.inl hjl))
        clear hjl
        have hsz : w.heap.size < wr.heap.size := (Array.getElem?_eq_some_iff.1 hbox).1
        have HSZ := Lib.hid hsz
        have HBW := Lib.hid hbw
        have HBOX := Lib.hid hbox
        clear hok hbox hbw
        by_cases hcj : cap = j
        · obtain rfl : j = l.length := by omega
          subst hcj
          go_wp2_with fail
          go_quiet (fail)
          go_wp2_with (first
            | (refine wpList_pushes tChg rfl (.tmp 23) (.tmp 26) rfl (w.heap.size + 1) (.slice none 0 0) 0 [] (some ⟨g, off, none⟩) l.length l.length ((l.take l.length).flatMap chgC) rfl rfl (Ow.nil _ _ _ _) ((HHR.out.below (below_n HBW.out _)).pre rfl hj) (chgCs_one _) (by omega) (by omega) HSZ.out ?_; intro v1 w1 ho1 hg1 hd1 hb1; have hbox1 := (hg1.block w.heap.size HSZ.out (by simp [Value.ownBlock])).trans HBOX.out; have e0 := (cell_of_row w1 w.heap.size 0 _ _ _ hbox1).trans (show _ = some (Value.string (bs x.key)) from rfl); have e1 := (cell_of_row w1 w.heap.size 1 _ _ _ hbox1).trans (show _ = some (Value.bool x.drop) from rfl); have e2 := (cell_of_row w1 w.heap.size 2 _ _ _ hbox1).trans (show _ = some (Value.string (bs x.value)) from rfl); have ho1 := ho1.cast (Nat.zero_add l.length) (List.nil_append _); obtain ⟨A1, c1, rfl, _⟩ := ho1.rd; have hbw1 := (below_n HBW.out _).trans (hb1.mono (Nat.le_succ _)); have hsz1 := Nat.le_trans HSZ.out hg1.size; have HO1 := Lib.hid ho1; clear ho1 hg1 hd1 hb1 hbox1)
            | (refine wpList_push tChg rfl (.tmp 28) (.tmp 30) rfl (w.heap.size + 1) (.slice A1 l.length c1) l.length _ #[.string (bs x.key), .bool x.drop, .string (bs x.value)] rfl rfl HO1.out rfl (chgC_one x) (by omega) (by omega) hsz1 ?_; intro v2 w2 ho2 hg2 hd2 hb2; have ho2 := ho2.cast (show _ = (l.length + 1) from rfl) rfl; obtain ⟨A2, c2, rfl, _⟩ := ho2.rd; have hbw2 := hbw1.trans (hb2.mono (Nat.le_succ _)); have hsz2 := Nat.le_trans hsz1 hg2.size; have HO2 := Lib.hid ho2; clear ho2 hg2 hd2 hb2)
            | (refine wpList_pushes tChg rfl (.tmp 32) (.tmp 35) rfl (w.heap.size + 1) (.slice A2 (l.length + 1) c2) (l.length + 1) _ (some ⟨g, off, none⟩) 0 0 [] rfl rfl HO2.out (Rd.nil _ _ _) (by simp) (by omega) (by omega) hsz2 ?_; intro v3 w3 ho3 hg3 hd3 hb3; have hbw3 := hbw2.trans (hb3.mono (Nat.le_succ _)); have HO3 := Lib.hid ho3; clear ho3 hg3 hd3 hb3))
          go_ret
          exact ⟨⟨v3, rfl, (put_fin HPUT.out HO3.out (by simp; try omega) (by simp [chgC])).mono (Nat.le_succ _)⟩, hbw3⟩
        · go_wp2_with fail
          go_quiet (fail)
          go_wp2_with (first
            | (refine wpList_pushes tChg rfl (.tmp 23) (.tmp 26) rfl (w.heap.size + 1) (.slice none 0 0) 0 [] (some ⟨g, off, none⟩) j cap ((l.take j).flatMap chgC) rfl rfl (Ow.nil _ _ _ _) ((HHR.out.below (below_n HBW.out _)).pre rfl hj) (chgCs_one _) (by omega) (by omega) HSZ.out ?_; intro v1 w1 ho1 hg1 hd1 hb1; have hbox1 := (hg1.block w.heap.size HSZ.out (by simp [Value.ownBlock])).trans HBOX.out; have e0 := (cell_of_row w1 w.heap.size 0 _ _ _ hbox1).trans (show _ = some (Value.string (bs x.key)) from rfl); have e1 := (cell_of_row w1 w.heap.size 1 _ _ _ hbox1).trans (show _ = some (Value.bool x.drop) from rfl); have e2 := (cell_of_row w1 w.heap.size 2 _ _ _ hbox1).trans (show _ = some (Value.string (bs x.value)) from rfl); have ho1 := ho1.cast (Nat.zero_add j) (List.nil_append _); obtain ⟨A1, c1, rfl, _⟩ := ho1.rd; have hbw1 := (below_n HBW.out _).trans (hb1.mono (Nat.le_succ _)); have hsz1 := Nat.le_trans HSZ.out hg1.size; have HO1 := Lib.hid ho1; clear ho1 hg1 hd1 hb1 hbox1)
            | (refine wpList_push tChg rfl (.tmp 28) (.tmp 30) rfl (w.heap.size + 1) (.slice A1 j c1) j _ #[.string (bs x.key), .bool x.drop, .string (bs x.value)] rfl rfl HO1.out rfl (chgC_one x) (by omega) (by omega) hsz1 ?_; intro v2 w2 ho2 hg2 hd2 hb2; have ho2 := ho2.cast (show _ = (j + 1) from rfl) rfl; obtain ⟨A2, c2, rfl, _⟩ := ho2.rd; have hbw2 := hbw1.trans (hb2.mono (Nat.le_succ _)); have hsz2 := Nat.le_trans hsz1 hg2.size; have HO2 := Lib.hid ho2; clear ho2 hg2 hd2 hb2)
            | (refine wpList_pushes tChg rfl (.tmp 32) (.tmp 35) rfl (w.heap.size + 1) (.slice A2 (j + 1) c2) (j + 1) _ (some ⟨g, off + j * 3, none⟩) (l.length - j) (cap - j) ((l.drop j).flatMap chgC) rfl rfl HO2.out ((HHR.out.below hbw2).suf rfl hj) (chgCs_one _) (by omega) (by omega) hsz2 ?_; intro v3 w3 ho3 hg3 hd3 hb3; have hbw3 := hbw2.trans (hb3.mono (Nat.le_succ _)); have HO3 := Lib.hid ho3; clear ho3 hg3 hd3 hb3))
          go_ret
          exact ⟨⟨v3, rfl, (put_fin HPUT.out HO3.out (by simp; try omega) (by simp [chgC])).mono (Nat.le_succ _)⟩, hbw3⟩
end Go.Proofs.YtaecafagmncmiaaDoor
