/-
  The walk of order.Key.
-/
import Derived.Test.YtaecafagmncmiaaDoorW3
namespace Go.Proofs.YtaecafagmncmiaaDoor
open Go.RowKit Pu

/-- the number's eight bytes when d of them are laid -/
def arrD (n d : Nat) : Bs := 1 :: (List.replicate (7 - d) 0 ++ beL d n)
theorem arrD_len {n d : Nat} (h : d ≤ 7) : (arrD n d).length = 8 := by unfold arrD; simp [beL_length]; omega
theorem arrD_zero (n : Nat) : arrD n 0 = [1, 0, 0, 0, 0, 0, 0, 0] := rfl
theorem arrD_set {n d m : Nat} (h : d + 1 + m = 7) : (arrD n d).set (m + 1) (UInt8.ofNat (n / 256 ^ d)) = arrD n (d + 1) := by
  unfold arrD
  rw [List.set_cons_succ, beL_cons]
  congr 1
  rw [show 7 - d = m + 1 from by omega, show 7 - (d + 1) = m from by omega, List.replicate_succ', List.append_assoc, List.set_append_right _ _ (by simp)]
  simp
theorem arrD_end {n d : Nat} (hd : d ≤ 7) (h : n / 256 ^ d = 0) : arrD n d = 1 :: beL 7 n := by
  have hz : ∀ k m, k / 256 ^ m = 0 → ∀ e, beL (m + e) k = List.replicate e 0 ++ beL m k := by
    intro k m hkm e
    induction e with
    | zero => simp
    | succ e ih =>
      have : k / 256 ^ (m + e) = 0 := by rw [Nat.pow_add, ← Nat.div_div_eq_div_mul, hkm]; simp
      rw [← Nat.add_assoc, beL_cons, this, ih, List.replicate_succ]
      rfl
  unfold arrD
  have := hz n d h (7 - d)
  rw [show d + (7 - d) = 7 from by omega] at this
  rw [this]

theorem keyGo_nil (acc : Bs) : keyGo acc [] = (0, acc) := by unfold keyGo; rfl
theorem keyGo_long {acc : Bs} {p : Part} {ps : List Part} (h1 : p.text = true) (h2 : 80 < p.s.length) : keyGo acc (p :: ps) = (5, []) := by unfold keyGo; rw [if_pos ⟨h1, h2⟩]
theorem keyGo_full {acc : Bs} {p : Part} {ps : List Part} (h1 : ¬ (p.text = true ∧ 80 < p.s.length)) (h2 : 80 < (acc ++ partB p).length) : keyGo acc (p :: ps) = (5, []) := by
  rw [keyGo, if_neg h1, if_pos h2]
theorem keyGo_step {acc : Bs} {p : Part} {ps : List Part} (h1 : ¬ (p.text = true ∧ 80 < p.s.length)) (h2 : (acc ++ partB p).length ≤ 80) : keyGo acc (p :: ps) = keyGo (acc ++ partB p) ps := by
  rw [keyGo, if_neg h1, if_neg (by omega)]
theorem partB_text {p : Part} (h : p.text = true) : partB p = 2 :: (esc p.s ++ [0, 0]) := by unfold partB; rw [if_pos h]
theorem partB_num {p : Part} (h : p.text = false) : partB p = 1 :: beL 7 p.n.toNat := by unfold partB; rw [if_neg (by simp [h])]
theorem partBad_num {p : Part} (h : p.text = false) : partBad p = (decide (p.n < 0) || decide (9007199254740991 < p.n)) := by unfold partBad; simp [h]
theorem partBad_text {p : Part} (h : p.text = true) : partBad p = false := by unfold partBad; simp [h]

theorem Ow.cast {w : World} {base n n' size : Nat} {e : TypeId} {v : Value} {xs xs' : List Value} (h : Ow w base e size v n xs) (hn : n = n') (hx : xs = xs') : Ow w base e size v n' xs' := by subst hn; subst hx; exact h
theorem text_cells (acc s : Bs) (p : Bs) (hp : p = 2 :: (s ++ [0, 0])) : u8s acc ++ (#[Value.int .u8 2] : Array Value).toList ++ u8s (bs s).toList ++ (#[Value.int .u8 0, .int .u8 0] : Array Value).toList = u8s (acc ++ p) := by
  rw [hp, bs_toList]; simp [u8s]
/-- a cell outside the row that was written -/
theorem cell_grown {W w1 : World} {base n size : Nat} {e : TypeId} {v : Value} {xs : List Value} {g i : Nat} {u : Value} (hg : W.grownBy w1 v.ownBlock) {W0 : World} (ho : Ow W0 base e size v n xs) (hb : W0.heap.size ≤ g) (hc : W.cell? ⟨g, i, none⟩ = some u) : w1.cell? ⟨g, i, none⟩ = some u :=
  hg.cell hc (fun h => by have := (ho.lt g h.symm).2; omega)
theorem rd_block {w : World} {g : Nat} {C : Array Value} {t : TypeId} {n : Nat} (h : w.heap[g]? = some (.cells C t (0, 0))) (hn : C.size = n) (hm : n ≤ maxLen) : Rd w 1 (some ⟨g, 0, none⟩) n C.toList :=
  ⟨by simpa using hn, hm, fun _ => ⟨g, 0, rfl, (Array.getElem?_eq_some_iff.1 h).1, fun j u hu => (cell_of_row w g _ C t _ h).trans (by simpa using hu)⟩⟩

set_option maxRecDepth 100000 in
set_option maxHeartbeats 2000000 in
theorem key_any (A : Option Addr) (c : Nat) (ps : List Part) (w : World) (hr : Rd w 3 A ps.length (ps.flatMap parC)) (hg : Glob w) :
    Calls Tryd.prog 39 #[.slice A ps.length c] w fun e w' => e = .returned (.tuple #[.string (bs (keyB ps).2), errv (keyB ps).1]) ∧ Below w.heap.size w w' := by
  have hmax := hr.max
  have HR := Lib.hid hr
  have HG := Lib.hid hg
  clear hr hg
  go_enter Tryd.func39, Tryd.ntmps39
  go_wp2
  go_loopw [14] (fun i wr => ∃ j : Nat, j ≤ ps.length ∧ i = .int .i64 j ∧ (ps.take j).any partBad = false ∧ Below w.heap.size w wr) (fun i _ => ps.length - (intOf i).toNat)
  case atStart => exact ⟨0, Nat.zero_le _, rfl, by simp, Below.refl _ _⟩
  case round =>
    obtain ⟨j, hj, rfl, hall, hbw⟩ := hrel
    by_cases hlt : j < ps.length
    · obtain ⟨p, hp⟩ : ∃ p, ps[j]? = some p := ⟨_, List.getElem?_eq_getElem hlt⟩
      obtain ⟨b, off, rfl, hb, c0, c1, c2⟩ := Rd.three parC parC_len (HR.out.below hbw) hp rfl
      have HP := Lib.hid hp
      have HA := Lib.hid hall
      clear hp hall
      cases ht : p.text with
      | true =>
        have hpb := partBad_text ht
        have HB := Lib.hid hpb
        clear hpb
        rw [ht] at c0
        have HT := Lib.hid ht
        clear ht
        go_wp2
        go_roundw
        case rel => exact ⟨j + 1, by omega, by go_num, any_snoc HP.out HA.out HB.out, below_al hbw _⟩
        case measure => simp [intOf]; omega
      | false =>
        rw [ht] at c0
        have hpb := partBad_num ht
        by_cases hbad : p.n < 0 ∨ 9007199254740991 < p.n
        · have hk := keyB_bad HP.out (by rw [hpb]; simpa using hbad)
          have HK := Lib.hid hk
          have HT := Lib.hid ht
          clear ht hpb hk
          rcases hbad with hbad | hbad
          all_goals
            go_wp2
            go_ret2
            rw [HK.out]
            exact ⟨rfl, below_al hbw _⟩
        · have hn0 : 0 ≤ p.n := by omega
          have hn1 : p.n ≤ 9007199254740991 := by omega
          have HB : Hid (partBad p = false) := by show partBad p = false; rw [hpb]; simp; omega
          have HT := Lib.hid ht
          clear ht hpb hbad
          go_wp2
          go_roundw
          case rel => exact ⟨j + 1, by omega, by go_num, any_snoc HP.out HA.out HB.out, below_al hbw _⟩
          case measure => simp [intOf]; omega
    · obtain rfl : j = ps.length := by omega
      rw [List.take_length] at hall
      have hk := keyB_ok hall
      have HK := Lib.hid hk
      obtain ⟨wo, rfl⟩ : ∃ wo : World, wo = wr := ⟨_, rfl⟩
      have HA := Lib.hid hall
      clear hall hk
      go_wp2
      go_loopw [6, 35] (fun v i wr => ∃ (j : Nat) (acc : Bs), j ≤ ps.length ∧ i = .int .i64 j ∧ Ow wr w.heap.size 5 1 v acc.length (u8s acc) ∧ acc.length ≤ 80 ∧ keyGo acc (ps.drop j) = keyGo [] ps ∧ Below w.heap.size w wr) (fun _ i _ => ps.length - (intOf i).toNat)
      case atStart => exact ⟨0, [], Nat.zero_le _, rfl, Ow.nil _ _ _ _, by simp, rfl, hbw⟩
      case round =>
        obtain ⟨j, acc, hj, rfl, how, hal, hgo, hbw⟩ := hrel
        obtain ⟨A6, c6, rfl, _⟩ := how.rd
        by_cases hlt : j < ps.length
        · obtain ⟨p, hp⟩ : ∃ p, ps[j]? = some p := ⟨_, List.getElem?_eq_getElem hlt⟩
          obtain ⟨b, off, rfl, hb, c0, c1, c2⟩ := Rd.three parC parC_len (HR.out.below hbw) hp rfl
          rw [drop_at hp] at hgo
          have hnb : partBad p = false := by
            have h1 := HA.out
            rw [List.any_eq_false] at h1
            simpa using h1 p (List.mem_of_getElem? hp)
          have HO := Lib.hid how
          have HGO := Lib.hid hgo
          clear hp how hgo
          cases ht : p.text with
          | true =>
            rw [ht] at c0
            have hpb := partB_text ht
            by_cases hlong : 80 < p.s.length
            · have hk5 : keyB ps = (5, []) := by rw [HK.out, ← HGO.out]; exact keyGo_long ht hlong
              have HK5 := Lib.hid hk5
              clear hk5 hpb ht hnb
              go_wp2
              go_ret2
              rw [HK5.out]
              exact ⟨rfl, below_al hbw _⟩
            have hs := esc_length p.s
            have hpl : (partB p).length = (esc p.s).length + 3 := by rw [hpb]; simp
            have hlen : (acc ++ partB p).length = acc.length + (esc p.s).length + 3 := by rw [List.length_append, hpl]; omega
            have HPB := Lib.hid hpb
            have HT := Lib.hid ht
            have HPL := Lib.hid hpl
            clear hpb ht hnb hpl
            by_cases hfull : 80 < (acc ++ partB p).length
            · have hk5 : keyB ps = (5, []) := by rw [HK.out, ← HGO.out]; exact keyGo_full (fun h => hlong h.2) hfull
              have HK5 := Lib.hid hk5
              have hfl : 80 < acc.length + (partB p).length := by rw [List.length_append] at hfull; omega
              have HF := Lib.hid hfull
              have HL := Lib.hid hlen
              clear hk5 hfull hlen
              go_wp2_with (first
                | (at_builtin; refine wpList_lits tU8 rfl _ _ rfl w.heap.size (.slice A6 acc.length c6) acc.length 1 _ (u8s acc) #[.int .u8 2] rfl rfl (by simp) (HO.out.alloc _) rfl (by simp [Value.oneCell']) (by omega) (by omega) (below_al hbw _).size ?_; intro v1 w1 ho1 hg1 hw1 hb1; have hbox := cell_grown (g := wr.heap.size) (i := 2) (u := .string (bs p.s)) hg1 HO.out (Nat.le_refl _) (by rw [World.cell?_alloc_at _ _ _ _ rfl]; rfl); have hbw1 := (below_al hbw _).trans hb1)
                | (go_at_call 64; refine (replaceAll_any p.s _ (by omega) (HG.out.below hbw1)).mono ?_; rintro e w2 ⟨rfl, hb2⟩; have hbw2 := below_tr hbw1 hb2)
                | (refine wpList_pushstr tU8 rfl _ _ rfl Tryd.underlying9 w.heap.size v1 (acc.length + 1) _ (bs (esc p.s)) rfl rfl (ho1.below hb2) (by rw [bs_size]; omega) hbw2.size ?_; intro v3 w3 ho3 hg3 hw3 hb3; have hbw3 := hbw2.trans hb3)
                | (at_builtin; refine wpList_lits tU8 rfl _ _ rfl w.heap.size v3 (acc.length + 1 + (bs (esc p.s)).size) 2 _ _ #[.int .u8 0, .int .u8 0] rfl rfl (by simp) ho3 rfl (by simp [Value.oneCell']) (by rw [bs_size]; omega) (by omega) hbw3.size ?_; intro v4 w4 ho4 hg4 hw4 hb4; have ho5 := ho4.cast (n' := acc.length + (partB p).length) (by rw [bs_size, HPL.out]; omega) (text_cells acc (esc p.s) (partB p) HPB.out); obtain ⟨A9, c9, rfl, _⟩ := ho5.rd)
                )
              go_ret2
              rw [HK5.out]
              exact ⟨rfl, hbw3.trans hb4⟩
            · have HF : Hid ((acc ++ partB p).length ≤ 80) := by show (acc ++ partB p).length ≤ 80; omega
              have hfl : acc.length + (partB p).length ≤ 80 := by rw [List.length_append] at hfull; omega
              have hfe : acc.length + (esc p.s).length + 3 ≤ 80 := by omega
              have HL := Lib.hid hlen
              clear hfull hlen
              go_wp2_with (first
                | (at_builtin; refine wpList_lits tU8 rfl _ _ rfl w.heap.size (.slice A6 acc.length c6) acc.length 1 _ (u8s acc) #[.int .u8 2] rfl rfl (by simp) (HO.out.alloc _) rfl (by simp [Value.oneCell']) (by omega) (by omega) (below_al hbw _).size ?_; intro v1 w1 ho1 hg1 hw1 hb1; have hbox := cell_grown (g := wr.heap.size) (i := 2) (u := .string (bs p.s)) hg1 HO.out (Nat.le_refl _) (by rw [World.cell?_alloc_at _ _ _ _ rfl]; rfl); have hbw1 := (below_al hbw _).trans hb1)
                | (go_at_call 64; refine (replaceAll_any p.s _ (by omega) (HG.out.below hbw1)).mono ?_; rintro e w2 ⟨rfl, hb2⟩; have hbw2 := below_tr hbw1 hb2)
                | (refine wpList_pushstr tU8 rfl _ _ rfl Tryd.underlying9 w.heap.size v1 (acc.length + 1) _ (bs (esc p.s)) rfl rfl (ho1.below hb2) (by rw [bs_size]; omega) hbw2.size ?_; intro v3 w3 ho3 hg3 hw3 hb3; have hbw3 := hbw2.trans hb3)
                | (at_builtin; refine wpList_lits tU8 rfl _ _ rfl w.heap.size v3 (acc.length + 1 + (bs (esc p.s)).size) 2 _ _ #[.int .u8 0, .int .u8 0] rfl rfl (by simp) ho3 rfl (by simp [Value.oneCell']) (by rw [bs_size]; omega) (by omega) hbw3.size ?_; intro v4 w4 ho4 hg4 hw4 hb4; have ho5 := ho4.cast (n' := acc.length + (partB p).length) (by rw [bs_size, HPL.out]; omega) (text_cells acc (esc p.s) (partB p) HPB.out); obtain ⟨A9, c9, rfl, _⟩ := ho5.rd)
                )
              go_roundw
              case rel => exact ⟨j + 1, acc ++ partB p, by omega, by go_num, ho5.cast (by rw [List.length_append]) rfl, HF.out, by rw [← keyGo_step (fun h => hlong h.2) HF.out]; exact HGO.out, hbw3.trans hb4⟩
              case measure => simp [intOf]; omega
          | false =>
            rw [ht] at c0
            have hpb := partB_num ht
            rw [partBad_num ht] at hnb
            have hn0 : 0 ≤ p.n := by simp at hnb; omega
            have hn1 : p.n ≤ 9007199254740991 := by simp at hnb; omega
            obtain ⟨n, hn⟩ := Int.eq_ofNat_of_zero_le hn0
            rw [hn] at c1 hpb hn1
            rw [Int.toNat_natCast] at hpb
            have hpl : (partB p).length = 8 := by rw [hpb]; simp [beL_length]
            have hlen : (acc ++ partB p).length = acc.length + 8 := by rw [List.length_append, hpl]
            have HPB := Lib.hid hpb
            have HT := Lib.hid ht
            have HPL := Lib.hid hpl
            have HN := Lib.hid hn
            have hnn : n ≤ 9007199254740991 := by omega
            clear hpb ht hnb hpl hn hn0 hn1
            obtain ⟨wo, rfl⟩ : ∃ wo : World, wo = wr := ⟨_, rfl⟩
            have hq : ∀ w, (Instr.build 117 #[(0, .int .u8 1)]).run Tryd.prog w = .ok (.agg #[.int .u8 1, .int .u8 0, .int .u8 0, .int .u8 0, .int .u8 0, .int .u8 0, .int .u8 0, .int .u8 0]) w := fun _ => by kernel_rfl
            go_wp2
            go_quiet (fail)
            go_wp2
            go_loopw [10, 11] (fun i k wr => ∃ d m : Nat, d + m = 7 ∧ i = .int .i64 m ∧ k = .int .i64 ((n / 256 ^ d : Nat) : Int) ∧ wr.heap[wo.heap.size + 1]? = some (.cells (u8s (arrD n d)).toArray 117 (0, 0)) ∧ Below wo.heap.size wo wr) (fun _ k _ => (intOf k).toNat)
            case atStart => exact ⟨0, 7, rfl, rfl, by simp, by rw [arrD_zero]; exact heap_alloc2_new wo _ _, below_n (below_al (below_al (Below.refl _ _) _) _) _⟩
            case round =>
              obtain ⟨d, m, hdm, rfl, rfl, hblk, hb3⟩ := hrel
              have hsz8 : (u8s (arrD n d)).toArray.size = 8 := by simp [u8s_length, arrD_len (show d ≤ 7 by omega)]
              by_cases h0 : n / 256 ^ d = 0
              · have hD : arrD n d = partB p := by rw [HPB.out]; exact arrD_end (by omega) h0
                have hra := rd_block hblk hsz8 (by simp [maxLen])
                rw [List.toList_toArray] at hra
                have hbw3 := below_tr hbw hb3
                have HOW := Lib.hid (HO.out.below hb3)
                have HRA := Lib.hid hra
                have HD := Lib.hid hD
                clear hD hra hblk hsz8
                rw [h0]
                have hpl8 := HPL.out
                by_cases hfull : 80 < (acc ++ partB p).length
                · have hk5 : keyB ps = (5, []) := by rw [HK.out, ← HGO.out]; exact keyGo_full (fun h => by rw [HT.out] at h; cases h.1) hfull
                  have HK5 := Lib.hid hk5
                  have hfl : 80 < acc.length + (partB p).length := by rw [List.length_append] at hfull; omega
                  clear hk5 hfull hlen h0 hpl8
                  go_wp2_with (first
                    | (refine wpList_pushes tU8 rfl _ _ rfl w.heap.size (.slice A6 acc.length c6) acc.length _ (some ⟨wo.heap.size + 1, 0, none⟩) 8 8 (u8s (arrD n d)) rfl rfl HOW.out HRA.out (u8s_one _) (by omega) (by omega) hbw3.size ?_; intro v4 w4 ho4 hg4 hw4 hb4; have ho5 := ho4.cast (n' := acc.length + (partB p).length) (by rw [HPL.out]) (by rw [← u8s_append, HD.out]); obtain ⟨A9, c9, rfl, _⟩ := ho5.rd; have hbw4 := hbw3.trans hb4)
                    )
                  go_ret2
                  rw [HK5.out]
                  exact ⟨rfl, hbw4⟩
                · have HF : Hid ((acc ++ partB p).length ≤ 80) := by show (acc ++ partB p).length ≤ 80; omega
                  have hfl : acc.length + (partB p).length ≤ 80 := by rw [List.length_append] at hfull; omega
                  clear hfull hlen h0 hpl8
                  go_wp2_with (first
                    | (refine wpList_pushes tU8 rfl _ _ rfl w.heap.size (.slice A6 acc.length c6) acc.length _ (some ⟨wo.heap.size + 1, 0, none⟩) 8 8 (u8s (arrD n d)) rfl rfl HOW.out HRA.out (u8s_one _) (by omega) (by omega) hbw3.size ?_; intro v4 w4 ho4 hg4 hw4 hb4; have ho5 := ho4.cast (n' := acc.length + (partB p).length) (by rw [HPL.out]) (by rw [← u8s_append, HD.out]); obtain ⟨A9, c9, rfl, _⟩ := ho5.rd; have hbw4 := hbw3.trans hb4)
                    )
                  go_roundw
                  case rel => exact ⟨j + 1, acc ++ partB p, by omega, by go_num, ho5.cast (by rw [List.length_append]) rfl, HF.out, by rw [← keyGo_step (fun h => by rw [HT.out] at h; cases h.1) HF.out]; exact HGO.out, hbw4⟩
                  case measure => simp [intOf]; omega
              · have hd6 : d ≤ 6 := by
                  rcases Nat.lt_or_ge d 7 with h | h
                  · omega
                  · obtain rfl : d = 7 := by omega
                    exact absurd (Nat.div_eq_of_lt (by omega)) h0
                obtain ⟨m, rfl⟩ : ∃ m', m = m' + 1 := ⟨m - 1, by omega⟩
                have hcell : wr.cell? ⟨wo.heap.size + 1, m + 1, none⟩ = some ((u8s (arrD n d)).toArray[m + 1]'(by omega)) := by
                  rw [cell_of_row wr _ _ _ _ _ hblk]; exact Array.getElem?_eq_getElem (by omega)
                have hfro : wr.frozen? ⟨wo.heap.size + 1, m + 1, none⟩ = false := frozen_of_row wr _ _ _ _ hblk
                have hset : (u8s (arrD n d)).set (m + 1) (.int .u8 (((UInt8.ofNat (n / 256 ^ d)).toNat : Nat) : Int)) = u8s (arrD n (d + 1)) := by
                  rw [← arrD_set (show d + 1 + m = 7 by omega)]
                  unfold u8s
                  rw [List.map_set]
                have hst := heap_setCell_same wr _ (m + 1) _ _ (.int .u8 (((UInt8.ofNat (n / 256 ^ d)).toNat : Nat) : Int)) hblk
                rw [List.setIfInBounds_toArray, hset] at hst
                have hdd : n / 256 ^ d / 256 = n / 256 ^ (d + 1) := by rw [Nat.div_div_eq_div_mul, Nat.pow_succ]
                have hle : n / 256 ^ d ≤ 9007199254740991 := Nat.le_trans (Nat.div_le_self _ _) hnn
                have HST := Lib.hid hst
                have HDD := Lib.hid hdd
                generalize ((u8s (arrD n d)).toArray[m + 1]'(by omega)) = old at hcell
                clear hst hset hblk hsz8 hdd
                generalize n / 256 ^ d = k at h0 HST HDD hle
                have hkp : 0 < k := by omega
                rw [UInt8.toNat_ofNat'] at HST
                go_wp2
                go_roundw
                case rel => exact ⟨d + 1, m, by omega, by congr 1, by rw [← HDD.out]; go_num, by simpa using HST.out, hb3.setCell (by simp) _⟩
                case measure => simp [intOf]; omega
        · obtain rfl : j = ps.length := by omega
          rw [List.drop_of_length_le (Nat.le_refl _), keyGo_nil] at hgo
          have hst := ow_str Tryd.underlying104 Tryd.underlying5 Tryd.underlying9 how
          have hk0 : keyB ps = (0, acc) := by rw [HK.out, ← hgo]
          have HK0 := Lib.hid hk0
          clear hk0 hgo how
          go_wp2
          go_ret2
          rw [HK0.out]
          exact ⟨rfl, hbw⟩
end Go.Proofs.YtaecafagmncmiaaDoor
