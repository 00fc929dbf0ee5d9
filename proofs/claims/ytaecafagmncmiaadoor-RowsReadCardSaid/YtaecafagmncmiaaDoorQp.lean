/-
  The walk of palinoderef02.part.
-/
import Derived.Test.YtaecafagmncmiaaDoorSr
namespace Go.Proofs.YtaecafagmncmiaaDoor
open Go.RowKit Pu

def OwPost (base : Nat) (l : Bs) (e : Ending) (w : World) : Prop := ∃ v, e = .returned v ∧ Ow w base 5 1 v l.length (u8s l)

set_option maxRecDepth 100000 in
set_option maxHeartbeats 2000000 in
theorem qpart_num (n : Nat) (s : Bs) (w : World) (_hn : n ≤ 9007199254740991) :
    Calls Tryd.prog 65 #[.agg #[.bool false, .int .i64 (n : Int), .string (bs s)]] w fun e w' => OwPost w.heap.size (1 :: beL 7 n) e w' ∧ Below w.heap.size w w' := by
  have hbl := beL_length 7 n
  have HBG := Lib.hid (fun j (h : j < 7) => beL_get 7 n j h)
  have HBB := Lib.hid (below_al (Below.refl _ w) (.cells #[.bool false, .int .i64 (n : Int), .string (bs s)] 54))
  go_enter Tryd.func65, Tryd.ntmps65
  go_wp2
  obtain ⟨wb, hwb⟩ : ∃ W, W = w.alloc (.cells #[.bool false, .int .i64 (n : Int), .string (bs s)] 54) := ⟨_, rfl⟩
  have hsz : wb.heap.size = w.heap.size + 1 := by rw [hwb]; simp
  have hp := heap_alloc_new w (.cells #[.bool false, .int .i64 (n : Int), .string (bs s)] 54)
  rw [← hwb] at hp HBB
  rw [← hwb]
  have hlit := Ow.lit (base := w.heap.size + 1) (e := 5) (size := 1) wb #[.int .u8 1] 1 (by omega) (by simp [maxLen]) rfl
  rw [hsz] at hlit
  have HL := Lib.hid hlit
  clear hlit
  have HSZ := Lib.hid hsz
  have HP := Lib.hid hp
  clear hwb hsz hp
  go_loopw [3, 4] (fun v a wr => ∃ j m : Nat, j + m = 7 ∧ a = .int .i64 ((m : Int) - 1) ∧ Ow wr (w.heap.size + 1) 5 1 v (j + 1) (u8s (1 :: (beL 7 n).take j)) ∧ Below wb.heap.size wb wr) (fun _ a _ => (intOf a + 1).toNat)
  case atStart => exact ⟨0, 7, rfl, rfl, HL.out, (below_al (Below.refl _ _) _)⟩
  case round =>
    obtain ⟨j, m, hjm, rfl, how, hbw⟩ := hrel
    obtain ⟨A7, c7, rfl, _⟩ := how.rd
    have hbo : Below w.heap.size w wr := HBB.out.trans (hbw.mono (by rw [HSZ.out]; omega))
    have hpw := (hbw.block w.heap.size (by rw [HSZ.out]; omega)).trans HP.out
    have c1 := (cell_of_row wr w.heap.size 1 _ _ _ hpw).trans (show _ = some (Value.int .i64 (n : Int)) from rfl)
    have HO := Lib.hid how
    clear how hpw
    cases m with
    | zero =>
      obtain rfl : j = 7 := by omega
      have how2 := HO.out.cast (n' := (1 :: beL 7 n).length) (xs' := u8s (1 :: beL 7 n)) (by simp [hbl]) (by rw [List.take_of_length_le (by omega)])
      have HO2 := Lib.hid how2
      clear how2
      go_wp2
      go_ret
      exact ⟨⟨_, rfl, HO2.out.mono (Nat.le_succ _)⟩, hbo⟩
    | succ m =>
      have hb := HBG.out j (by omega)
      rw [show 7 - 1 - j = m from by omega] at hb
      have htk : (beL 7 n).take (j + 1) = (beL 7 n).take j ++ [UInt8.ofNat (n / 256 ^ m)] := by rw [List.take_add_one, hb]; rfl
      have HTK := Lib.hid htk
      have hpow : (256 : Nat) ^ m = 2 ^ (8 * m) := by rw [Nat.pow_mul]
      have hsz := hbw.size
      rw [HSZ.out] at hsz
      have hm7 : m < 7 := by omega
      have hval : (n : Int) / 2 ^ (8 * m) % 256 = ((UInt8.ofNat (n / 256 ^ m)).toNat : Int) := by rw [UInt8.toNat_ofNat', hpow]; simp
      have HV := Lib.hid hval
      clear htk hb hval
      go_wp2_with (first
        | (at_builtin; refine wpList_push tU8 rfl _ _ rfl (w.heap.size + 1) (.slice A7 (j + 1) c7) (j + 1) _ _ rfl rfl HO.out rfl (by simp [Value.oneCell']) (by omega) (by omega) hsz ?_; intro v4 w4 ho4 hg4 hw4 hb4))
      go_roundw
      case rel =>
        refine ⟨j + 1, m, by omega, rfl, ho4.cast rfl ?_, hbw.trans ?_⟩
        · rw [HTK.out, ← List.cons_append, u8s_append, HV.out]; rfl
        · rw [HSZ.out]; exact hb4
      case measure => simp [intOf]

theorem esc_take {s : Bs} {i : Nat} {c : UInt8} (h : s[i]? = some c) : esc (s.take (i + 1)) = esc (s.take i) ++ (if c = 0 then [0, 255] else [c]) := by
  rw [List.take_add_one, h, esc_app]
  congr 1
  rw [Option.toList_some, esc_cons, esc_none (s := []) (by simp), List.append_nil]

set_option maxRecDepth 100000 in
set_option maxHeartbeats 2000000 in
theorem qpart_text (n : Int) (s : Bs) (w : World) (hs : s.length ≤ 80) :
    Calls Tryd.prog 65 #[.agg #[.bool true, .int .i64 n, .string (bs s)]] w fun e w' => OwPost w.heap.size (2 :: (esc s ++ [0, 0])) e w' ∧ Below w.heap.size w w' := by
  have HBB := Lib.hid (below_al (Below.refl _ w) (.cells #[.bool true, .int .i64 n, .string (bs s)] 54))
  go_enter Tryd.func65, Tryd.ntmps65
  go_wp2
  obtain ⟨wb, hwb⟩ : ∃ W, W = w.alloc (.cells #[.bool true, .int .i64 n, .string (bs s)] 54) := ⟨_, rfl⟩
  have hsz : wb.heap.size = w.heap.size + 1 := by rw [hwb]; simp
  have hp := heap_alloc_new w (.cells #[.bool true, .int .i64 n, .string (bs s)] 54)
  rw [← hwb] at hp HBB
  rw [← hwb]
  have hlit := Ow.lit (base := w.heap.size + 1) (e := 5) (size := 1) wb #[.int .u8 2] 1 (by omega) (by simp [maxLen]) rfl
  rw [hsz] at hlit
  have HL := Lib.hid hlit
  clear hlit
  have HSZ := Lib.hid hsz
  have HP := Lib.hid hp
  clear hwb hsz hp
  go_loopw [5, 6] (fun v a wr => ∃ i : Nat, i ≤ s.length ∧ a = .int .i64 i ∧ Ow wr (w.heap.size + 1) 5 1 v ((esc (s.take i)).length + 1) (u8s (2 :: esc (s.take i))) ∧ Below wb.heap.size wb wr) (fun _ a _ => s.length - (intOf a).toNat)
  case atStart => exact ⟨0, Nat.zero_le _, rfl, HL.out.cast (by rw [List.take_zero, esc_none (s := []) (by simp)]; rfl) (by rw [List.take_zero, esc_none (s := []) (by simp)]; rfl), (below_al (Below.refl _ _) _)⟩
  case round =>
    obtain ⟨i, hi, rfl, how, hbw⟩ := hrel
    obtain ⟨A7, c7, rfl, _⟩ := how.rd
    have hbo : Below w.heap.size w wr := HBB.out.trans (hbw.mono (by rw [HSZ.out]; omega))
    have hpw := (hbw.block w.heap.size (by rw [HSZ.out]; omega)).trans HP.out
    have c2 := (cell_of_row wr w.heap.size 2 _ _ _ hpw).trans (show _ = some (Value.string (bs s)) from rfl)
    have hsz := hbw.size
    rw [HSZ.out] at hsz
    have HPW := Lib.hid hpw
    have HO := Lib.hid how
    clear how hpw
    by_cases hlt : i < s.length
    · obtain ⟨c, hc⟩ : ∃ c, s[i]? = some c := ⟨_, List.getElem?_eq_getElem (by omega)⟩
      have hget : ∀ h, s[i]'h = c := fun h => Option.some.inj ((List.getElem?_eq_getElem h).symm.trans hc)
      have het := esc_take hc
      have hel := esc_length (s.take i)
      rw [List.length_take] at hel
      have hel2 : (esc (s.take i)).length ≤ 160 := by omega
      clear hel
      by_cases hz : c = 0
      · rw [if_pos hz] at het
        have HET := Lib.hid het
        have hb0 : ((c.toNat : Int) == 0) = true := by rw [hz]; rfl
        have HZ := Lib.hid hz
        clear het hc hz
        go_wp2_with (first
          | (at_builtin; refine wpList_push tU8 rfl _ _ rfl (w.heap.size + 1) (.slice A7 ((esc (s.take i)).length + 1) c7) ((esc (s.take i)).length + 1) _ _ rfl rfl HO.out rfl (by simp [Value.oneCell']) (by omega) (by omega) hsz ?_; intro v4 w4 ho4 hg4 hw4 hb4; obtain ⟨A8, c8, rfl, _⟩ := ho4.rd; have hbx := hbw.trans (show Below wb.heap.size wr w4 by rw [HSZ.out]; exact hb4); have hpw := (hbx.block w.heap.size (by rw [HSZ.out]; omega)).trans HP.out; have c2' := (cell_of_row w4 w.heap.size 2 _ _ _ hpw).trans (show _ = some (Value.string (bs s)) from rfl); have HPX := Lib.hid hpw; clear hpw)
          | (at_builtin; refine wpList_push tU8 rfl _ _ rfl (w.heap.size + 1) (.slice A8 ((esc (s.take i)).length + 1 + 1) c8) ((esc (s.take i)).length + 1 + 1) _ _ rfl rfl ho4 rfl (by simp [Value.oneCell']) (by omega) (by omega) (Nat.le_trans hsz hb4.size) ?_; intro v5 w5 ho5 hg5 hw5 hb5; have hby := hbx.trans (show Below wb.heap.size w4 w5 by rw [HSZ.out]; exact hb5)))
        go_roundw
        case rel =>
          refine ⟨i + 1, by omega, by go_num, ho5.cast ?_ ?_, hby⟩
          · rw [HET.out]; simp
          · rw [HET.out, HZ.out, ← List.cons_append, u8s_append, List.append_assoc]; rfl
        case measure => simp [intOf]; omega
      · rw [if_neg hz] at het
        have HET := Lib.hid het
        have hb0 : ((c.toNat : Int) == 0) = false := by rw [beq_eq_false_iff_ne]; intro h; exact hz (UInt8.toNat.inj (by simpa using (by omega : c.toNat = 0)))
        clear het hc hz
        go_wp2_with (first
          | (at_builtin; refine wpList_push tU8 rfl _ _ rfl (w.heap.size + 1) (.slice A7 ((esc (s.take i)).length + 1) c7) ((esc (s.take i)).length + 1) _ _ rfl rfl HO.out rfl (by simp [Value.oneCell']) (by omega) (by omega) hsz ?_; intro v4 w4 ho4 hg4 hw4 hb4; obtain ⟨A8, c8, rfl, _⟩ := ho4.rd; have hbx := hbw.trans (show Below wb.heap.size wr w4 by rw [HSZ.out]; exact hb4); have hpw := (hbx.block w.heap.size (by rw [HSZ.out]; omega)).trans HP.out; have c2' := (cell_of_row w4 w.heap.size 2 _ _ _ hpw).trans (show _ = some (Value.string (bs s)) from rfl); have HPX := Lib.hid hpw; clear hpw))
        go_roundw
        case rel =>
          refine ⟨i + 1, by omega, by go_num, ho4.cast ?_ ?_, hbx⟩
          · rw [HET.out]; simp
          · rw [HET.out, ← List.cons_append, u8s_append]; rfl
        case measure => simp [intOf]; omega
    · obtain rfl : i = s.length := by omega
      rw [List.take_length] at HO
      rw [List.take_length]
      have hel := esc_length s
      go_wp2_with (first
        | (at_builtin; refine wpList_lits tU8 rfl _ _ rfl (w.heap.size + 1) (.slice A7 ((esc s).length + 1) c7) ((esc s).length + 1) 2 _ _ #[.int .u8 0, .int .u8 0] rfl rfl (by simp) HO.out rfl (by simp [Value.oneCell']) (by omega) (by omega) hsz ?_; intro v4 w4 ho4 hg4 hw4 hb4))
      go_ret
      exact ⟨⟨_, rfl, (ho4.mono (Nat.le_succ _)).cast (by simp) (by rw [← List.cons_append, u8s_append]; rfl)⟩, hbo.trans (hb4.mono (Nat.le_succ _))⟩
theorem qpart_any (p : Part) (w : World) (hs : p.text = true → p.s.length ≤ 80) (hn : p.text = false → 0 ≤ p.n ∧ p.n ≤ 9007199254740991) :
    Calls Tryd.prog 65 #[.agg #[.bool p.text, .int .i64 p.n, .string (bs p.s)]] w fun e w' => OwPost w.heap.size (partB p) e w' ∧ Below w.heap.size w w' := by
  cases ht : p.text with
  | true => rw [partB_text ht]; exact qpart_text _ _ w (hs ht)
  | false =>
    have h1 := hn ht
    rw [partB_num ht]
    obtain ⟨n, hnn⟩ := Int.eq_ofNat_of_zero_le h1.1
    rw [hnn, Int.toNat_natCast]
    exact qpart_num n _ w (by omega)
end Go.Proofs.YtaecafagmncmiaaDoor
