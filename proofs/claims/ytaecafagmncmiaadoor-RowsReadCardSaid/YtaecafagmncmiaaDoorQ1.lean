/-
  The walks of package palinoderef01.
-/
import Derived.Test.YtaecafagmncmiaaDoorPs
namespace Go.Proofs.YtaecafagmncmiaaDoor
open Go.RowKit Pu

set_option maxRecDepth 100000 in
set_option maxHeartbeats 1000000 in
theorem qnum_any (n : Nat) (w : World) (hn : n ≤ maxN) :
    Calls Tryd.prog 61 #[.int .i64 n] w fun e w' => e = .returned (.tuple #[.string (bs (num n)), .bool true]) ∧ Below w.heap.size w w' := by
  have h7 := psize_le7 hn
  unfold maxN at hn
  go_enter Tryd.func61, Tryd.ntmps61
  go_wp2
  go_loopw [0, 4] (fun a v wr => ∃ j : Nat, a = .int .i64 ((n / 256 ^ j : Nat) : Int) ∧ psize (n / 256 ^ j) + j = psize n ∧ Ow wr w.heap.size 5 1 v j (u8s (beL j n).reverse) ∧ Below w.heap.size w wr) (fun a _ _ => (intOf a).toNat)
  case atStart => exact ⟨0, by simp, by simp, Ow.nil _ _ _ _, Below.refl _ _⟩
  case round =>
    obtain ⟨j, rfl, hj, how, hbw⟩ := hrel
    obtain ⟨A4, c4, rfl, hrd⟩ := how.rd
    have hm : n / 256 ^ j ≤ 9007199254740991 := Nat.le_trans (Nat.div_le_self _ _) hn
    have hdd : n / 256 ^ j / 256 = n / 256 ^ (j + 1) := by rw [Nat.div_div_eq_div_mul, Nat.pow_succ]
    have hv : u8s [UInt8.ofNat (n / 256 ^ j)] = [.int .u8 (((n / 256 ^ j : Nat) : Int) % 256)] := by simp [u8s]
    have hrs := rev_succ j n
    have HRS := Lib.hid hrs
    have HV := Lib.hid hv
    have HO := Lib.hid how
    have HD := Lib.hid hdd
    have hj7 : j ≤ 7 := by omega
    clear hrs how hv hdd
    generalize n / 256 ^ j = m at hm hj HRS HV HD
    by_cases h0 : m = 0
    · subst h0
      rw [psize_zero, Nat.zero_add] at hj
      subst hj
      have hnum : num n = UInt8.ofNat (psize n) :: beL (psize n) n := by unfold num; rfl
      have HN := Lib.hid hnum
      have HRD := Lib.hid hrd
      clear hnum hrd HRS HV HD hm
      generalize psize n = k at HO HN HRD h7 hj7
      obtain ⟨wo, rfl⟩ : ∃ wo : World, wo = wr := ⟨_, rfl⟩
      have hlit := Ow.lit (e := 5) (size := 1) (base := wo.heap.size) wo #[.int .u8 (k : Int)] 1 (Nat.le_refl _) (by simp [maxLen]) rfl
      have hbl := beL_length k n
      generalize beL k n = b at HO HN HRD hbl
      have hu : u8s [UInt8.ofNat k] = [.int .u8 (k : Int)] := by simp [u8s]; omega
      generalize UInt8.ofNat k = x0 at HN hu
      have HL := Lib.hid hlit
      have HU := Lib.hid hu
      clear hlit HO hu
      go_wp2
      go_loopw [5, 6] (fun v i wr => ∃ d : Nat, d ≤ k ∧ i = .int .i64 ((k : Int) - 1 - d) ∧ Ow wr wo.heap.size 5 1 v (d + 1) (u8s (x0 :: b.take d)) ∧ Below wo.heap.size wo wr) (fun _ i _ => (intOf i + 1).toNat)
      case atStart => exact ⟨0, Nat.zero_le _, by simp, by rw [List.take_zero, HU.out]; exact HL.out, below_al (Below.refl _ _) _⟩
      case round =>
        obtain ⟨d, hd, rfl, how, hbs⟩ := hrel
        obtain ⟨A5, c5, rfl, _⟩ := how.rd
        by_cases hlt : d < k
        · obtain ⟨m, hm⟩ : ∃ m, k = d + 1 + m := ⟨k - d - 1, by omega⟩
          obtain ⟨x, hx⟩ : ∃ x, b[d]? = some x := ⟨_, List.getElem?_eq_getElem (by omega)⟩
          have hbd : b.reverse[m]? = some x := by
            rw [List.getElem?_reverse (by omega), show b.length - 1 - m = d from by omega, hx]
          have hts : b.take (d + 1) = b.take d ++ [x] := by rw [List.take_add_one, hx]; rfl
          obtain ⟨g, off, rfl, _, hc⟩ := (HRD.out.below hbs).at_ (k := m) (by omega)
          have hcell := hc m (.int .u8 (x.toNat : Int)) (by unfold u8s; rw [List.getElem?_map, hbd]; rfl)
          have hi : (k : Int) - 1 - d = m := by omega
          rw [hi]
          have HTS := Lib.hid hts
          have HOW := Lib.hid how
          have hmk : m < k := by omega
          have HI := Lib.hid hi
          clear hc hbd hts how hi HL HRD HU hm hx
          go_wp2_with (first
            | (at_builtin; refine wpList_push tU8 rfl _ _ rfl wo.heap.size (.slice A5 (d + 1) c5) (d + 1) _ _ rfl rfl HOW.out rfl (by simp [Value.oneCell']) (by omega) (by omega) hbs.size ?_; intro v4 w4 ho4 hg4 hw4 hb4))
          go_roundw
          case rel =>
            refine ⟨d + 1, by omega, ?_, ?_, hbs.trans hb4⟩
            · have := HI.out; congr 1; omega
            · rw [HTS.out, ← List.cons_append, u8s_append]; exact ho4
          case measure => simp [intOf]
        · obtain rfl : d = k := by omega
          have hst := ow_str Tryd.underlying104 Tryd.underlying5 Tryd.underlying9 how
          rw [List.take_of_length_le (by omega), ← HN.out] at hst
          clear how HRD HL
          go_wp2
          go_ret2
          exact ⟨rfl, below_tr hbw hbs⟩
    · have hpos : 0 < m := by omega
      have HJ := Lib.hid hj
      clear hj
      go_wp2_with (first
        | (at_builtin; refine wpList_push tU8 rfl _ _ rfl w.heap.size (.slice A4 j c4) j _ _ rfl rfl HO.out rfl (by simp [Value.oneCell']) (by omega) (by omega) hbw.size ?_; intro v4 w4 ho4 hg4 hw4 hb4))
      go_roundw
      case rel => 
        refine ⟨j + 1, ?_, ?_, ?_, hbw.trans hb4⟩
        · rw [← HD.out]; go_num
        · rw [← HD.out]; have := HJ.out; have := psize_pos hpos; omega
        · rw [HRS.out, u8s_append, HV.out]; exact ho4
      case measure => simp [intOf]; omega

set_option maxRecDepth 100000 in
set_option maxHeartbeats 1000000 in
theorem qtext_any (l : Bs) (w : World) (hl : l.length ≤ 1048576) :
    Calls Tryd.prog 73 #[.string (bs l)] w fun e w' => e = .returned (.tuple #[.string (bs (textB l)), .bool true]) ∧ Below w.heap.size w w' := by
  have hn := num_length (n := l.length)
  have h7 := psize_le7 (n := l.length) (by unfold maxN; omega)
  have ha := bs_app (num l.length) l
  rw [show textB l = num l.length ++ l from by unfold textB; rfl]
  go_enter Tryd.func73, Tryd.ntmps73
  go_wp2_with (go_at_call 61; refine (qnum_any _ _ (by unfold maxN; omega)).mono ?_; rintro e w' ⟨rfl, hb⟩)
  go_ret2
  exact ⟨rfl, hb⟩

set_option maxRecDepth 100000 in
set_option maxHeartbeats 1000000 in
theorem qreadNum_short (w : World) :
    Calls Tryd.prog 31 #[.string (bs [])] w fun e w' => e = .returned (.tuple #[.int .i64 0, .string (bs []), .int .i64 2]) ∧ w = w' := by
  go_enter Tryd.func31, Tryd.ntmps31
  go_wp2
  go_ret3
  exact ⟨rfl, rfl⟩
set_option maxRecDepth 100000 in
set_option maxHeartbeats 1000000 in
theorem qreadNum_long (k : UInt8) (r : Bs) (w : World) (h : 7 < k.toNat) :
    Calls Tryd.prog 31 #[.string (bs (k :: r))] w fun e w' => e = .returned (.tuple #[.int .i64 0, .string (bs []), .int .i64 3]) ∧ w = w' := by
  go_enter Tryd.func31, Tryd.ntmps31
  go_wp2
  go_ret3
  exact ⟨rfl, rfl⟩
set_option maxRecDepth 100000 in
set_option maxHeartbeats 1000000 in
theorem qreadNum_few (k : UInt8) (r : Bs) (w : World) (h : k.toNat ≤ 7) (hl : r.length < k.toNat) :
    Calls Tryd.prog 31 #[.string (bs (k :: r))] w fun e w' => e = .returned (.tuple #[.int .i64 0, .string (bs []), .int .i64 2]) ∧ w = w' := by
  go_enter Tryd.func31, Tryd.ntmps31
  go_wp2
  go_ret3
  exact ⟨rfl, rfl⟩
set_option maxRecDepth 100000 in
set_option maxHeartbeats 1000000 in
theorem qreadNum_zero (k : UInt8) (r : Bs) (w : World) (h : k.toNat ≤ 7) (h0 : 0 < k.toNat) (hl : k.toNat ≤ r.length + 1) (hr : r.length + 1 ≤ 9223372036854775807) :
    Calls Tryd.prog 31 #[.string (bs (k :: 0 :: r))] w fun e w' => e = .returned (.tuple #[.int .i64 0, .string (bs []), .int .i64 3]) ∧ w = w' := by
  go_enter Tryd.func31, Tryd.ntmps31
  go_wp2
  go_ret3
  exact ⟨rfl, rfl⟩
/-- where the first of k bytes is not 0 -/
def QnPost (q t : Bs) (e : Ending) : Prop :=
  (9007199254740991 < beN q → e = .returned (.tuple #[.int .i64 0, .string (bs []), .int .i64 3])) ∧
  (beN q ≤ 9007199254740991 → e = .returned (.tuple #[.int .i64 (beN q), .string (bs t), .int .i64 0]))
set_option maxRecDepth 100000 in
set_option maxHeartbeats 1000000 in
theorem qreadNum_nil (k : UInt8) (t : Bs) (w : World) (h : k.toNat = 0) (hr : t.length + 1 ≤ 9223372036854775807) :
    Calls Tryd.prog 31 #[.string (bs (k :: t))] w fun e w' => e = .returned (.tuple #[.int .i64 0, .string (bs t), .int .i64 0]) ∧ Below w.heap.size w w' := by
  have e2 : (bs (k :: t)).extract 1 (t.length + 1) = bs t := by rw [bs_extract, List.drop_one, List.tail_cons, List.take_of_length_le (by omega)]
  have hf : Ending.returned (.tuple #[.int .i64 0, .string ((bs (k :: t)).extract 1 (t.length + 1)), .int .i64 0]) = .returned (.tuple #[.int .i64 0, .string (bs t), .int .i64 0]) := by rw [e2]
  have HF := Lib.hid hf
  clear hf e2
  go_enter Tryd.func31, Tryd.ntmps31
  go_wp2
  refine wp_loop_rounds 1 ?_
  rw [rounds_succ]
  go_wp2
  go_quiet (fail)
  go_wp2
  go_ret3
  exact ⟨HF.out, below_n (Below.refl _ _) _⟩

set_option maxRecDepth 100000 in
set_option maxHeartbeats 1000000 in
theorem qreadNum_walk (k : UInt8) (q t : Bs) (w : World) (h : k.toNat ≤ 7) (hq : q.length = k.toNat) (h0 : 0 < q.length) (hz : (((q[0]'h0).toNat : Int) == 0) = false) (hr : t.length + q.length + 1 ≤ 9223372036854775807) :
    Calls Tryd.prog 31 #[.string (bs (k :: (q ++ t)))] w fun e w' => QnPost q t e ∧ Below w.heap.size w w' := by
  have e2 : (bs (k :: (q ++ t))).extract (1 + k.toNat) (k.toNat + t.length + 1) = bs t := by rw [bs_extract, ← hq, Nat.add_comm 1, List.drop_succ_cons, List.drop_left, List.take_of_length_le (by omega)]
  have hf : QnPost q t (.returned (.tuple #[.int .i64 (beN q), .string (bs t), .int .i64 0])) → QnPost q t (.returned (.tuple #[.int .i64 (beN q), .string ((bs (k :: (q ++ t))).extract (1 + k.toNat) (k.toNat + t.length + 1)), .int .i64 0])) := by rw [e2]; exact id
  have HF := Lib.hid hf
  clear hf e2
  have hql : q.length ≤ 7 := by omega
  have hk0 : 0 < k.toNat := by omega
  have hbq : ∀ j, beN (q.take j) < 72057594037927936 := fun j => by
    have h1 := beN_lt (q.take j)
    have h2 : (q.take j).length ≤ 7 := by rw [List.length_take]; omega
    have h3 : 256 ^ (q.take j).length ≤ 256 ^ 7 := Nat.pow_le_pow_right (by omega) h2
    omega
  have Hbq := Lib.hid hbq
  clear hbq
  go_enter Tryd.func31, Tryd.ntmps31
  go_wp2
  go_loop [6, 7] (fun n i => ∃ j : Nat, j ≤ q.length ∧ i = .int .i64 j ∧ n = .int .i64 (beN (q.take j))) (fun _ i => q.length - (intOf i).toNat)
  case atStart => exact ⟨0, by omega, rfl, rfl⟩
  case round =>
    obtain ⟨j, hj, rfl, rfl⟩ := hrel
    clear hz h0
    by_cases hlt : j < q.length
    · obtain ⟨x, hx⟩ : ∃ x, q[j]? = some x := ⟨_, List.getElem?_eq_getElem (by omega)⟩
      have hget : ∀ h, (k :: (q ++ t))[1 + j]'h = x := fun h => by
        have : (k :: (q ++ t))[1 + j]? = some x := by rw [Nat.add_comm, List.getElem?_cons_succ, List.getElem?_append_left hlt, hx]
        exact Option.some.inj ((List.getElem?_eq_getElem h).symm.trans this)
      have hn1 : beN (q.take j) < 281474976710656 := by
        have h1 := beN_lt (q.take j)
        have h2 : (q.take j).length ≤ 6 := by rw [List.length_take]; omega
        have h3 : 256 ^ (q.take j).length ≤ 256 ^ 6 := Nat.pow_le_pow_right (by omega) h2
        omega
      have hor : beN (q.take (j + 1)) = beN (q.take j) * 256 + x.toNat := by
        rw [List.take_add_one, hx]; exact beN_snoc _ _
      have HOR := Lib.hid hor
      have hxb := x.toNat_lt
      clear hor hx
      go_wp2
      go_round
      case rel => exact ⟨j + 1, by omega, by go_num, by rw [HOR.out]; congr 1; omega⟩
      case measure => simp [intOf]; omega
    · obtain rfl : j = q.length := by omega
      have hbq := Hbq.out q.length
      rw [List.take_length] at hbq ⊢
      by_cases hc : beN q ≤ 9007199254740991
      · have hfin : QnPost q t (.returned (.tuple #[.int .i64 (beN q), .string (bs t), .int .i64 0])) := ⟨fun h => by omega, fun _ => rfl⟩
        go_wp2
        go_quiet (fail)
        go_wp2
        go_ret3
        exact ⟨HF.out hfin, below_n (Below.refl _ _) _⟩
      · have hfin : QnPost q t (.returned (.tuple #[.int .i64 0, .string (bs []), .int .i64 3])) := ⟨fun _ => rfl, fun h1 => by omega⟩
        go_wp2
        go_ret3
        exact ⟨hfin, Below.refl _ _⟩

theorem qreadNum_any (l : Bs) (w : World) (hl : l.length ≤ 9223372036854775807) :
    Calls Tryd.prog 31 #[.string (bs l)] w fun e w' => e = .returned (.tuple #[.int .i64 (readNum l).2.1, .string (bs (readNum l).2.2), .int .i64 ((readNum l).1 : Int)]) ∧ Below w.heap.size w w' := by
  cases l with
  | nil => rw [show readNum [] = (2, 0, []) from by simp [readNum]]; exact (qreadNum_short w).mono fun e w' ⟨h1, h2⟩ => ⟨h1, h2 ▸ Below.refl _ _⟩
  | cons k r =>
    have hrr : r.length + 1 ≤ 9223372036854775807 := by simp at hl; omega
    by_cases h7 : 7 < k.toNat
    · simp only [readNum, h7, if_true]
      exact (qreadNum_long k r w h7).mono fun e w' ⟨h1, h2⟩ => ⟨h1, h2 ▸ Below.refl _ _⟩
    by_cases hf : r.length < k.toNat
    · simp only [readNum, h7, hf, if_true, if_false]
      exact (qreadNum_few k r w (by omega) hf).mono fun e w' ⟨h1, h2⟩ => ⟨h1, h2 ▸ Below.refl _ _⟩
    by_cases hk : k.toNat = 0
    · have hq : readNum (k :: r) = (0, 0, r) := by simp [readNum, hk, beN_nil, psize_zero]
      rw [hq]
      exact (qreadNum_nil k r w hk hrr).mono fun e w' h => h
    have hlen : (r.take k.toNat).length = k.toNat := by rw [List.length_take]; omega
    have hps := psize_beN (r.take k.toNat)
    rw [hlen] at hps
    cases r with
    | nil => simp at hf; omega
    | cons c r =>
      have hhd : ((c :: r).take k.toNat).head? = some c := by
        obtain ⟨m, hm⟩ : ∃ m, k.toNat = m + 1 := ⟨k.toNat - 1, by omega⟩
        rw [hm]; rfl
      rw [hhd] at hps
      by_cases hc : c = 0
      · subst hc
        have hne : psize (beN ((0 :: r).take k.toNat)) ≠ k.toNat := fun h => hps.1 h rfl
        simp only [readNum, h7, hf, if_false]
        rw [if_pos (.inl hne)]
        exact (qreadNum_zero k r w (by omega) (by omega) (by simp at hf; omega) (by simp at hrr; omega)).mono fun e w' ⟨h1, h2⟩ => ⟨h1, h2 ▸ Below.refl _ _⟩
      · have heq : psize (beN ((c :: r).take k.toNat)) = k.toNat := hps.2 (fun h => hc (Option.some.inj h))
        have hz : ∀ h0, ((((c :: r).take k.toNat)[0]'h0).toNat : Int) = (c.toNat : Int) := fun h0 => by
          have : (((c :: r).take k.toNat)[0]'h0) = c := by
            have h1 := List.getElem?_eq_getElem h0
            rw [← List.head?_eq_getElem?, hhd] at h1
            exact (Option.some.inj h1).symm
          rw [this]
        have hs := qreadNum_walk k ((c :: r).take k.toNat) ((c :: r).drop k.toNat) w (by omega) hlen (by omega) (by
          rw [hz]; simp; intro h; exact hc (UInt8.toNat.inj (by simpa using h))) (by rw [List.length_drop]; omega)
        rw [List.take_append_drop] at hs
        refine hs.mono fun e w' ⟨⟨h1, h2⟩, h3⟩ => ⟨?_, h3⟩
        simp only [readNum, h7, hf, if_false, heq, ne_eq, not_true_eq_false, false_or]
        by_cases hm : maxN < beN ((c :: r).take k.toNat)
        · rw [if_pos hm]; exact h1 hm
        · rw [if_neg hm]; unfold maxN at hm; exact h2 (by omega)

set_option maxRecDepth 100000 in
set_option maxHeartbeats 1000000 in
theorem qreadText_any (l : Bs) (w : World) (hl : l.length ≤ 9223372036854775807) :
    Calls Tryd.prog 32 #[.string (bs l)] w fun e w' => e = .returned (.tuple #[.string (bs (readText l).2.1), .string (bs (readText l).2.2), .int .i64 ((readText l).1 : Int)]) ∧ Below w.heap.size w w' := by
  have hrest := readNum_rest l
  have hval := readNum_val l
  have hbad := readNum_bad l
  have herr := readNum_err l
  have hN := qreadNum_any l w hl
  rcases hr : readNum l with ⟨er, n, t⟩
  rw [hr] at hrest hval hN hbad herr
  simp only at hrest hval hN hbad herr
  unfold maxN at hval
  have HN := Lib.hid hN
  by_cases he : er = 0
  · subst he
    by_cases h1 : 1048576 < n
    · have hfin : readText l = (5, [], []) := by simp [readText, hr, maxT, h1]
      rw [hfin]
      clear hr hfin hbad hN herr
      go_enter Tryd.func32, Tryd.ntmps32
      go_wp2_with (go_at_call 31; refine HN.out.mono ?_; rintro e w' ⟨rfl, hb⟩)
      go_ret3
      exact ⟨rfl, hb⟩
    by_cases h2 : t.length < n
    · have hfin : readText l = (2, [], []) := by simp [readText, hr, maxT, h1, h2]
      rw [hfin]
      clear hr hfin hbad hN herr
      go_enter Tryd.func32, Tryd.ntmps32
      go_wp2_with (go_at_call 31; refine HN.out.mono ?_; rintro e w' ⟨rfl, hb⟩)
      go_ret3
      exact ⟨rfl, hb⟩
    · have hfin : readText l = (0, t.take n, t.drop n) := by simp [readText, hr, maxT, h1, h2]
      have HF := Lib.hid hfin
      clear hr hfin hbad hN herr
      go_enter Tryd.func32, Tryd.ntmps32
      go_wp2_with (go_at_call 31; refine HN.out.mono ?_; rintro e w' ⟨rfl, hb⟩)
      go_quiet (fail)
      go_wp2
      go_ret3
      refine ⟨?_, below_n hb _⟩
      rw [HF.out]
      show _ = Ending.returned (.tuple #[.string (bs (t.take n)), .string (bs (t.drop n)), .int .i64 0])
      rw [← bs_pre, ← bs_suf t n t.length rfl]
      rfl
  · have hb2 := hbad he
    simp only [Prod.mk.injEq] at hb2
    obtain ⟨rfl, rfl⟩ := hb2
    have hfin : readText l = (er, [], []) := by simp [readText, hr, he]
    rw [hfin]
    have hne : ((er : Int) != 0) = true := by simp [he]
    clear hr hfin hbad hN
    go_enter Tryd.func32, Tryd.ntmps32
    go_wp2_with (go_at_call 31; refine HN.out.mono ?_; rintro e w' ⟨rfl, hb⟩)
    go_ret3
    exact ⟨rfl, hb⟩

set_option maxRecDepth 100000 in
set_option maxHeartbeats 1000000 in
theorem qrow_any (A : Option Addr) (c : Nat) (l : List Bs) (w : World) (hr : Rd w 1 A l.length (strs l)) (hn : l.length ≤ 1000) (ht : ∀ s ∈ l, s.length ≤ 1048576) (hR : (rowB l).length ≤ 1048576) :
    Calls Tryd.prog 60 #[.slice A l.length c] w fun e w' => e = .returned (.tuple #[.string (bs (rowB l)), .bool true]) ∧ Below w.heap.size w w' := by
  have h0 : (num l.length).length ≤ 1048576 := by have := rowTo_le (l := l) (j := 0); rw [rowTo_zero] at this; omega
  have HR := Lib.hid hr
  have HT := Lib.hid ht
  clear hr ht
  go_enter Tryd.func60, Tryd.ntmps60
  go_wp2_with (first
    | (go_at_call 61; refine (qnum_any _ _ (by unfold maxN; omega)).mono ?_; rintro e w1 ⟨rfl, hb1⟩))
  go_loopw [4, 6] (fun v i wr => ∃ j : Nat, j ≤ l.length ∧ i = .int .i64 j ∧ v = .string (bs (rowTo l j)) ∧ Below w.heap.size w wr) (fun _ i _ => l.length - (intOf i).toNat)
  case atStart => exact ⟨0, by omega, rfl, by rw [rowTo_zero], hb1⟩
  case round =>
    obtain ⟨j, hj, rfl, rfl, hbw⟩ := hrel
    by_cases hlt : j < l.length
    · have hrw := HR.out.below hbw
      obtain ⟨b, off, rfl, hbl, hc⟩ := hrw.at_ hlt
      have hcell := hc j _ (strs_at hlt)
      have hle := rowTo_le (l := l) (j := j + 1)
      have hs := rowTo_succ hlt
      have hle2 : (rowTo l j).length + (textB l[j]).length ≤ 1048576 := by rw [hs, List.length_append] at hle; omega
      have hlj := HT.out l[j] (List.getElem_mem hlt)
      have happ := bs_app (rowTo l j) (textB l[j])
      rw [← hs] at happ
      generalize l[j] = s at hcell hs hle2 hlj happ
      clear hs hle hc hrw
      go_wp2_with (first
        | (go_at_call 73; refine (qtext_any _ _ hlj).mono ?_; rintro e w3 ⟨rfl, hb3⟩))
      go_roundw
      case rel => exact ⟨j + 1, by omega, by go_num, by first | rfl | rw [happ], below_tr hbw hb3⟩
      case measure => simp [intOf]; omega
    · obtain rfl : j = l.length := by omega
      go_wp2
      go_ret2
      rw [← rowTo_all l]
      exact ⟨rfl, hbw⟩
end Go.Proofs.YtaecafagmncmiaaDoor
