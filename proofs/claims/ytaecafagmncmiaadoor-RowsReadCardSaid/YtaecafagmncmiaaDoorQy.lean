/-
  The walks of the document's ID and Key, and of rows.Key at any number of parts.
-/
import Derived.Test.YtaecafagmncmiaaDoorRi
import Derived.Test.YtaecafagmncmiaaDoorQv
import Derived.Test.YtaecafagmncmiaaDoorSr
namespace Go.Proofs.YtaecafagmncmiaaDoor
open Go.RowKit Pu

set_option maxRecDepth 100000 in
set_option maxHeartbeats 1000000 in
theorem rkey_big (kind : Bs) (A : Option Addr) (c : Nat) (ps : List Part) (w : World) (hr : Rd w 3 A ps.length (ps.flatMap parC)) (hg : Glob w) (hn : (1 + ps.length) * 32 ≤ 140737488355328) :
    Calls Tryd.prog 16 #[.string (bs kind), .slice A ps.length c] w fun e w' => e = .returned (.tuple #[.string (bs (keyB (textP kind :: ps)).2), errv (keyB (textP kind :: ps)).1]) ∧ Below w.heap.size w w' := by
  have hkey := fun A c W => key_any A c (textP kind :: ps) W
  simp only [List.length_cons] at hkey
  have HKEY := Lib.hid hkey
  have HR := Lib.hid hr
  have HG := Lib.hid hg
  have hcells : (#[Value.bool true, .int .i64 0, .string (bs kind)] : Array Value).toList ++ ps.flatMap parC = (textP kind :: ps).flatMap parC := by simp [parC, textP]
  have HC := Lib.hid hcells
  generalize keyB (textP kind :: ps) = S at HKEY ⊢
  clear hkey hr hg hcells
  go_enter Tryd.func16, Tryd.ntmps16
  go_wp2_with (first
    | (go_at_call 40; refine (rtext_any kind _).mono ?_; rintro e w1 ⟨rfl, hb1⟩; have HL := Lib.hid (Ow.lit (base := w.heap.size) (e := 54) (size := 3) w1 #[.bool true, .int .i64 0, .string (bs kind)] 1 hb1.size (by simp [maxLen]) rfl); have hb2 := below_al hb1 (.cells #[.bool true, .int .i64 0, .string (bs kind)] 54))
    | (refine wpList_pushes tPart rfl _ _ rfl w.heap.size (.slice (some ⟨w1.heap.size, 0, none⟩) 1 1) 1 _ A ps.length c (ps.flatMap parC) rfl rfl HL.out (HR.out.below hb2) (parCs_one _) hn (by omega) hb2.size ?_; intro v4 w4 ho4 hg4 hw4 hb4; have ho5 := ho4.cast (Nat.add_comm 1 ps.length) HC.out; obtain ⟨A5, c5, rfl, hr5⟩ := ho5.rd; have HR5 := Lib.hid hr5; have hbw4 := hb2.trans hb4; clear ho4 hr5)
    | (go_at_call 39; refine (HKEY.out A5 c5 _ HR5.out (HG.out.below hbw4)).mono ?_; rintro e w6 ⟨rfl, hb6⟩))
  go_ret2
  exact ⟨rfl, below_tr hbw4 hb6⟩
set_option maxRecDepth 100000 in
set_option maxHeartbeats 1000000 in
theorem qkeyR_any (kind : Bs) (A : Option Addr) (c : Nat) (ps : List Part) (w : World) (hr : Rd w 3 A ps.length (ps.flatMap parC)) (hn : (1 + ps.length) * 32 ≤ 140737488355328) :
    Calls Tryd.prog 17 #[.string (bs kind), .slice A ps.length c] w fun e w' => e = .returned (.tuple #[.string (bs (keyB (textP kind :: ps)).2), .int .i64 ((keyB (textP kind :: ps)).1 : Nat)]) ∧ Below w.heap.size w w' := by
  have hkey := fun A c W => qkey_any A c (textP kind :: ps) W
  simp only [List.length_cons] at hkey
  have HKEY := Lib.hid hkey
  have HR := Lib.hid hr
  have hcells : (#[Value.bool true, .int .i64 0, .string (bs kind)] : Array Value).toList ++ ps.flatMap parC = (textP kind :: ps).flatMap parC := by simp [parC, textP]
  have HC := Lib.hid hcells
  have HL := Lib.hid (Ow.lit (base := w.heap.size) (e := 54) (size := 3) w #[.bool true, .int .i64 0, .string (bs kind)] 1 (Nat.le_refl _) (by simp [maxLen]) rfl)
  have HB := Lib.hid (below_al (Below.refl _ w) (.cells #[.bool true, .int .i64 0, .string (bs kind)] 54))
  have hq : ∀ w, (Instr.build 54 #[(0, .bool true), (2, .string (bs kind))]).run Tryd.prog w = .ok (.agg #[.bool true, .int .i64 0, .string (bs kind)]) w := fun _ => by kernel_rfl
  generalize keyB (textP kind :: ps) = S at HKEY ⊢
  clear hkey hr hcells
  go_enter Tryd.func17, Tryd.ntmps17
  go_wp2_with (first
    | (refine wpList_pushes tPart rfl _ _ rfl w.heap.size (.slice (some ⟨w.heap.size, 0, none⟩) 1 1) 1 _ A ps.length c (ps.flatMap parC) rfl rfl HL.out (HR.out.below HB.out) (parCs_one _) hn (by omega) HB.out.size ?_; intro v4 w4 ho4 hg4 hw4 hb4; have ho5 := ho4.cast (Nat.add_comm 1 ps.length) HC.out; obtain ⟨A5, c5, rfl, hr5⟩ := ho5.rd; have HR5 := Lib.hid hr5; have hbw4 := HB.out.trans hb4; clear ho4 hr5)
    | (go_at_call 41; refine (HKEY.out A5 c5 _ HR5.out).mono ?_; rintro e w6 ⟨rfl, hb6⟩))
  go_ret2
  exact ⟨rfl, below_tr hbw4 hb6⟩
set_option maxRecDepth 100000 in
set_option maxHeartbeats 2000000 in
theorem qid_any (key : Bs) (w : World) (hl : key.length ≤ 9223372036854775807) :
    Calls Tryd.prog 15 #[.string (bs key)] w fun e w' => e = .returned (.tuple #[.string (bs (idR key).2), .bool (decide ((idR key).1 = 0))]) ∧ Below w.heap.size w w' := by
  have hsp := qsplit_any key w hl
  have hparts := splitB_parts key
  have h3 := fun h => idR_err (key := key) h
  have h4 := fun h => idR_few (key := key) h
  have h5 := fun h1 h2 => idR_ok (key := key) h1 h2
  generalize idR key = I at h3 h4 h5 ⊢
  generalize splitB key = S at hsp hparts h3 h4 h5
  obtain ⟨er, l⟩ := S
  simp only at h3 h4 h5 hparts
  have HSP := Lib.hid hsp
  have HPARTS := Lib.hid hparts
  clear hsp hparts hl
  by_cases he : er = 0
  · subst he
    by_cases hn : l.length < 2
    · have HI := Lib.hid (h4 hn)
      have hlt : decide ((l.length : Int) < 2) = true := by simp; omega
      clear h3 h4 h5
      go_enter Tryd.func15, Tryd.ntmps15
      go_wp2_with (first | (go_at_call 37; refine HSP.out.mono ?_; rintro e w1 ⟨⟨v1, rfl, ho1⟩, hb1⟩; obtain ⟨A1, k1, rfl, hr1⟩ := ho1.rd; clear ho1 hr1))
      go_ret2
      exact ⟨by rw [HI.out]; rfl, hb1⟩
    · have hi := h5 rfl hn
      obtain ⟨a, ha⟩ : ∃ a, l[0]? = some a := ⟨_, List.getElem?_eq_getElem (by omega)⟩
      obtain ⟨b, hb⟩ : ∃ b, l[l.length - 1]? = some b := ⟨_, List.getElem?_eq_getElem (by omega)⟩
      rw [idL_at ha hb] at hi
      have hbl := HPARTS.out b (List.mem_of_getElem? hb)
      have hname := fun w => qname_any b.s w (by omega)
      have HA := Lib.hid ha
      have HB := Lib.hid hb
      obtain ⟨m, hm⟩ : ∃ m, l.length = m + 2 := ⟨l.length - 2, by omega⟩
      have hbm : l.length - 1 = m + 1 := by omega
      rw [hbm] at HB
      have HI := Lib.hid hi
      have HN := Lib.hid hname
      clear hi hb ha h3 h4 h5 hbm hn hname
      have HA0 := Lib.hid (show (l.flatMap parC)[0]? = some (.bool a.text) from by have := flat_at parC 3 parC_len l 0 a HA.out 0 (by omega); simpa [parC] using this)
      have HB0 := Lib.hid (show (l.flatMap parC)[(m + 1) * 3]? = some (.bool b.text) from by have := flat_at parC 3 parC_len l (m + 1) b HB.out 0 (by omega); simpa [parC] using this)
      have HB2 := Lib.hid (show (l.flatMap parC)[(m + 1) * 3 + 2]? = some (.string (bs b.s)) from by have := flat_at parC 3 parC_len l (m + 1) b HB.out 2 (by omega); simpa [parC] using this)
      have hwrap : m + 2 ≤ 9223372036854775807 → wrap64 ((m : Int) + 2 - 1) = (m : Int) + 1 := fun h => by unfold wrap64; omega
      have hge : decide (((m : Int) + 2) < 2) = false := by simp; omega
      clear HA HB
      cases hat : a.text with
      | false =>
        rw [hat] at HA0 HI
        have HI2 : Hid (I = (3, [])) := HI.out.trans (if_neg (by simp))
        clear HI HN hat
        go_enter Tryd.func15, Tryd.ntmps15
        go_wp2_with (first | (go_at_call 37; refine HSP.out.mono ?_; rintro e w1 ⟨⟨v1, rfl, ho1⟩, hb1⟩; simp only [hm] at ho1; obtain ⟨A1, k1, rfl, hr1⟩ := ho1.rd; have hmx := hr1.max; have hw := hwrap hmx; obtain ⟨g, off, rfl, hg, hcell⟩ := hr1.at_ (k := 0) (by omega); have a0 := hcell 0 _ (HA0.out); have d0 := hcell ((m + 1) * 3) _ (HB0.out); have d2 := hcell ((m + 1) * 3 + 2) _ (HB2.out); rw [Nat.add_zero] at a0; rw [← Nat.add_assoc] at d2; clear ho1 hr1 hcell hmx))
        go_ret2
        exact ⟨by rw [HI2.out]; rfl, hb1⟩
      | true =>
        rw [hat] at HA0 HI
        clear hat
        cases hbt : b.text with
        | false =>
          rw [hbt] at HB0 HI
          have HI2 : Hid (I = (3, [])) := HI.out.trans (if_neg (by simp))
          clear HI HN hbt
          go_enter Tryd.func15, Tryd.ntmps15
          go_wp2_with (first | (go_at_call 37; refine HSP.out.mono ?_; rintro e w1 ⟨⟨v1, rfl, ho1⟩, hb1⟩; simp only [hm] at ho1; obtain ⟨A1, k1, rfl, hr1⟩ := ho1.rd; have hmx := hr1.max; have hw := hwrap hmx; obtain ⟨g, off, rfl, hg, hcell⟩ := hr1.at_ (k := 0) (by omega); have a0 := hcell 0 _ (HA0.out); have d0 := hcell ((m + 1) * 3) _ (HB0.out); have d2 := hcell ((m + 1) * 3 + 2) _ (HB2.out); rw [Nat.add_zero] at a0; rw [← Nat.add_assoc] at d2; clear ho1 hr1 hcell hmx))
          go_ret2
          exact ⟨by rw [HI2.out]; rfl, hb1⟩
        | true =>
          rw [hbt] at HB0 HI
          clear hbt
          cases hnb : nameB b.s with
          | false =>
            rw [hnb] at HI HN
            have HI2 : Hid (I = (3, [])) := HI.out.trans (if_neg (by simp))
            clear HI hnb
            go_enter Tryd.func15, Tryd.ntmps15
            go_wp2_with (first
              | (go_at_call 37; refine HSP.out.mono ?_; rintro e w1 ⟨⟨v1, rfl, ho1⟩, hb1⟩; simp only [hm] at ho1; obtain ⟨A1, k1, rfl, hr1⟩ := ho1.rd; have hmx := hr1.max; have hw := hwrap hmx; obtain ⟨g, off, rfl, hg, hcell⟩ := hr1.at_ (k := 0) (by omega); have a0 := hcell 0 _ (HA0.out); have d0 := hcell ((m + 1) * 3) _ (HB0.out); have d2 := hcell ((m + 1) * 3 + 2) _ (HB2.out); rw [Nat.add_zero] at a0; rw [← Nat.add_assoc] at d2; clear ho1 hr1 hcell hmx)
              | (go_at_call 38; refine (HN.out _).mono ?_; rintro e w2 ⟨rfl, rfl⟩))
            go_ret2
            exact ⟨by rw [HI2.out]; rfl, hb1⟩
          | true =>
            rw [hnb] at HI HN
            have HI2 : Hid (I = (0, b.s)) := HI.out.trans (if_pos (by simp))
            clear HI hnb
            go_enter Tryd.func15, Tryd.ntmps15
            go_wp2_with (first
              | (go_at_call 37; refine HSP.out.mono ?_; rintro e w1 ⟨⟨v1, rfl, ho1⟩, hb1⟩; simp only [hm] at ho1; obtain ⟨A1, k1, rfl, hr1⟩ := ho1.rd; have hmx := hr1.max; have hw := hwrap hmx; obtain ⟨g, off, rfl, hg, hcell⟩ := hr1.at_ (k := 0) (by omega); have a0 := hcell 0 _ (HA0.out); have d0 := hcell ((m + 1) * 3) _ (HB0.out); have d2 := hcell ((m + 1) * 3 + 2) _ (HB2.out); rw [Nat.add_zero] at a0; rw [← Nat.add_assoc] at d2; clear ho1 hr1 hcell hmx)
              | (go_at_call 38; refine (HN.out _).mono ?_; rintro e w2 ⟨rfl, rfl⟩))
            go_ret2
            exact ⟨by rw [HI2.out]; rfl, hb1⟩
  · have HI := Lib.hid (h3 he)
    have he0 : ((er : Int) == 0) = false := by rw [beq_eq_false_iff_ne]; omega
    have he1 : ((er : Int) != 0) = true := by rw [bne_iff_ne]; omega
    have he2 : decide ((er : Int) = 0) = false := by rw [decide_eq_false_iff_not]; omega
    clear h3 h4 h5 he
    go_enter Tryd.func15, Tryd.ntmps15
    go_wp2_with (first | (go_at_call 37; refine HSP.out.mono ?_; rintro e w1 ⟨⟨v1, rfl, ho1⟩, hb1⟩; obtain ⟨A1, k1, rfl, hr1⟩ := ho1.rd; clear ho1 hr1))
    go_ret2
    exact ⟨by rw [HI.out]; rfl, hb1⟩
end Go.Proofs.YtaecafagmncmiaaDoor
