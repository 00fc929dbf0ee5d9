/-
  The walk of RowsMake.
-/
import Derived.Test.YtaecafagmncmiaaDoorMd
namespace Go.Proofs.YtaecafagmncmiaaDoor
open Go.RowKit Pu

theorem min_take (l : List Chg) (k : Nat) : min (l.length : Int) (k : Int) = ((l.take k).length : Int) := by rw [List.length_take]; omega
set_option maxRecDepth 100000 in
set_option maxHeartbeats 2000000 in
theorem rowsMake_walk (A1 A2 : Option Addr) (c1 c2 : Nat) (l1 l2 : List Chg) (w : World) (hr1 : Rd w 3 A1 l1.length (l1.flatMap chgC)) (hr2 : Rd w 3 A2 l2.length (l2.flatMap chgC)) (hc1 : l1.length ≤ c1) (hc2 : l2.length ≤ c2) (_hm1 : c1 ≤ maxLen) (_hm2 : c2 ≤ maxLen)
    (hs1 : ∀ x ∈ l1, x.key.length ≤ 9223372036854775807 ∧ x.value.length ≤ 9223372036854775807) (hs2 : ∀ x ∈ l2, x.key.length ≤ 9223372036854775807 ∧ x.value.length ≤ 9223372036854775807) (hg : Glob w) :
    Calls Tryd.prog 7 #[.slice A1 l1.length c1, .slice A2 l2.length c2] w fun e w' => e = .returned (.bool true) ∧ Below w.heap.size w w' := by
  have hmin1 := min_take l1 40
  have hmin2 := min_take l2 40
  have qr1 := hr1.pre (j := (l1.take 40).length) rfl (by rw [List.length_take]; omega)
  have qr2 := hr2.pre (j := (l2.take 40).length) rfl (by rw [List.length_take]; omega)
  have ht1 : l1.take (l1.take 40).length = l1.take 40 := by rw [List.length_take, ← List.take_take, List.take_length]
  have ht2 : l2.take (l2.take 40).length = l2.take 40 := by rw [List.length_take, ← List.take_take, List.take_length]
  rw [ht1] at qr1
  rw [ht2] at qr2
  have qs1 : ∀ x ∈ l1.take 40, x.key.length ≤ 9223372036854775807 ∧ x.value.length ≤ 9223372036854775807 := fun x hx => hs1 x (List.mem_of_mem_take hx)
  have qs2 : ∀ x ∈ l2.take 40, x.key.length ≤ 9223372036854775807 ∧ x.value.length ≤ 9223372036854775807 := fun x hx => hs2 x (List.mem_of_mem_take hx)
  have hn1 : (l1.take 40).length ≤ l1.length ∧ (l1.take 40).length ≤ 40 := by rw [List.length_take]; omega
  have hn2 : (l2.take 40).length ≤ l2.length ∧ (l2.take 40).length ≤ 40 := by rw [List.length_take]; omega
  clear hr1 hr2 hs1 hs2
  generalize l1.take 40 = a at *
  generalize l2.take 40 = b at *
  generalize l1.length = m1 at *
  generalize l2.length = m2 at *
  clear ht1 ht2
  unfold maxLen at _hm1 _hm2
  have hex := fun W h => examples_any W h
  have HEX := Lib.hid hex
  have HG := Lib.hid hg
  clear hex hg
  obtain ⟨hn1, hn1'⟩ := hn1
  obtain ⟨hn2, hn2'⟩ := hn2
  have hA1 : a.length ≤ c1 := by omega
  have hA2 : b.length ≤ c2 := by omega
  change min (m1 : Int) 40 = _ at hmin1
  change min (m2 : Int) 40 = _ at hmin2
  have HR1 := Lib.hid qr1
  have HR2 := Lib.hid qr2
  have e1 : errv 1 = .iface 68 (.int .i64 1) := errv_pos (by omega)
  have his : ∀ W, Calls Tryd.prog 18 #[.iface 68 (.int .i64 1), .int .i64 1] W fun e w' => e = .returned (.bool true) ∧ W = w' := fun W => by
    have := is_any 1 1 W
    rw [e1] at this
    exact this
  have HIS := Lib.hid his
  clear his qr1 qr2
  by_cases hb : rowsB a = true ∧ rowsB b = true
  · obtain ⟨hb1, hb2⟩ := hb
    have hda := diffB_ok hb1 hb2
    have hdb := diffB_ok hb2 hb1
    have hml := diffL_len (rowsB_apart hb1) (rowsB_apart hb2)
    have hmr := diffL_len (rowsB_apart hb2) (rowsB_apart hb1)
    have hmk1 := made_ok hb1 hb2
    have hmk2 := made_ok hb2 hb1
    have HDI : Hid (∀ A c A' c' W, Rd W 3 A a.length (a.flatMap chgC) → Rd W 3 A' b.length (b.flatMap chgC) → Calls Tryd.prog 19 #[.slice A a.length c, .slice A' b.length c'] W fun e w' => (∃ v, e = .returned (.tuple #[v, .nilIface]) ∧ Ow w' W.heap.size 49 3 v (diffL a b).length ((diffL a b).flatMap chgC)) ∧ Below W.heap.size W w') := fun A c A' c' W h1 h2 =>
      (diff_any A A' c c' a b W h1 h2 qs1 qs2 (by omega)).mono fun e w' ⟨⟨v, he, ho⟩, hb⟩ => by
        rw [hda] at he ho
        exact ⟨⟨v, he, ho⟩, hb⟩
    have HDJ : Hid (∀ A c A' c' W, Rd W 3 A b.length (b.flatMap chgC) → Rd W 3 A' a.length (a.flatMap chgC) → Calls Tryd.prog 19 #[.slice A b.length c, .slice A' a.length c'] W fun e w' => (∃ v, e = .returned (.tuple #[v, .nilIface]) ∧ Ow w' W.heap.size 49 3 v (diffL b a).length ((diffL b a).flatMap chgC)) ∧ Below W.heap.size W w') := fun A c A' c' W h1 h2 =>
      (diff_any A A' c c' b a W h1 h2 qs2 qs1 (by omega)).mono fun e w' ⟨⟨v, he, ho⟩, hb⟩ => by
        rw [hdb] at he ho
        exact ⟨⟨v, he, ho⟩, hb⟩
    generalize diffL a b = L at HDI hmk1 hml
    generalize diffL b a = M at HDJ hmk2 hmr
    have HMK : Hid (∀ A1 c1 A2 c2 A3 c3 W, Rd W 3 A1 a.length (a.flatMap chgC) → Rd W 3 A2 L.length (L.flatMap chgC) → Rd W 3 A3 b.length (b.flatMap chgC) → Calls Tryd.prog 23 #[.slice A1 a.length c1, .slice A2 L.length c2, .slice A3 b.length c3] W fun e w' => e = .returned (.bool true) ∧ Below W.heap.size W w') := fun A1 c1 A2 c2 A3 c3 W h1 h2 h3 =>
      made_any A1 A2 A3 c1 c2 c3 a L b W h1 h2 h3 hmk1 (by omega)
    have HML : Hid (∀ A1 c1 A2 c2 A3 c3 W, Rd W 3 A1 b.length (b.flatMap chgC) → Rd W 3 A2 M.length (M.flatMap chgC) → Rd W 3 A3 a.length (a.flatMap chgC) → Calls Tryd.prog 23 #[.slice A1 b.length c1, .slice A2 M.length c2, .slice A3 a.length c3] W fun e w' => e = .returned (.bool true) ∧ Below W.heap.size W w') := fun A1 c1 A2 c2 A3 c3 W h1 h2 h3 =>
      made_any A1 A2 A3 c1 c2 c3 b M a W h1 h2 h3 hmk2 (by omega)
    clear hda hdb hmk1 hmk2 hb1 hb2 qs1 qs2 e1
    go_enter Tryd.func7, Tryd.ntmps7
    go_wp2_with (first
      | (go_at_call 11; go_fit (HEX.out _ HG.out); rintro e w1 ⟨rfl, hb1⟩)
      | (go_at_call 19; go_fit (HDI.out A1 c1 A2 c2 _ (HR1.out.below hb1) (HR2.out.below hb1)); rintro e w4 ⟨⟨v4, rfl, ho4⟩, hb4⟩; obtain ⟨A5, c5, rfl, hr5⟩ := ho4.rd; have HR5 := Lib.hid hr5; have hbw4 := below_tr hb1 hb4; clear ho4 hr5)
      | (go_at_call 19; go_fit (HDJ.out A2 c2 A1 c1 _ (HR2.out.below hbw4) (HR1.out.below hbw4)); rintro e w5 ⟨⟨v5, rfl, ho5⟩, hb5⟩; obtain ⟨A6, c6, rfl, hr6⟩ := ho5.rd; have HR6 := Lib.hid hr6; have HR5b := Lib.hid (HR5.out.below hb5); have hbw5 := below_tr hbw4 hb5; clear ho5 hr6)
      | (go_at_call 23; go_fit (HMK.out A1 c1 A5 c5 A2 c2 _ (HR1.out.below hbw5) HR5b.out (HR2.out.below hbw5)); rintro e w6 ⟨rfl, hb6⟩; have hbw6 := below_tr hbw5 hb6)
      | (go_at_call 23; go_fit (HML.out A2 c2 A6 c6 A1 c1 _ (HR2.out.below hbw6) (HR6.out.below hb6) (HR1.out.below hbw6)); rintro e w7 ⟨rfl, hb7⟩; have hbw7 := below_tr hbw6 hb7))
    go_ret
    exact ⟨rfl, hbw7⟩
  · have hne : rowsB a = false ∨ rowsB b = false := by
      cases h1 : rowsB a
      · exact .inl rfl
      · cases h2 : rowsB b
        · exact .inr rfl
        · exact absurd ⟨h1, h2⟩ hb
    have hda := diffB_no hne
    have hdb := diffB_no hne.symm
    have HDI : Hid (∀ A c A' c' W, Rd W 3 A a.length (a.flatMap chgC) → Rd W 3 A' b.length (b.flatMap chgC) → Calls Tryd.prog 19 #[.slice A a.length c, .slice A' b.length c'] W fun e w' => (∃ v, e = .returned (.tuple #[v, .iface 68 (.int .i64 1)]) ∧ Ow w' W.heap.size 49 3 v 0 []) ∧ Below W.heap.size W w') := fun A c A' c' W h1 h2 =>
      (diff_any A A' c c' a b W h1 h2 qs1 qs2 (by omega)).mono fun e w' ⟨⟨v, he, ho⟩, hb⟩ => by
        rw [hda] at he ho
        exact ⟨⟨v, by rw [he, ← e1], ho⟩, hb⟩
    have HDJ : Hid (∀ A c A' c' W, Rd W 3 A b.length (b.flatMap chgC) → Rd W 3 A' a.length (a.flatMap chgC) → Calls Tryd.prog 19 #[.slice A b.length c, .slice A' a.length c'] W fun e w' => (∃ v, e = .returned (.tuple #[v, .iface 68 (.int .i64 1)]) ∧ Ow w' W.heap.size 49 3 v 0 []) ∧ Below W.heap.size W w') := fun A c A' c' W h1 h2 =>
      (diff_any A A' c c' b a W h1 h2 qs2 qs1 (by omega)).mono fun e w' ⟨⟨v, he, ho⟩, hb⟩ => by
        rw [hdb] at he ho
        exact ⟨⟨v, by rw [he, ← e1], ho⟩, hb⟩
    clear hda hdb qs1 qs2 e1 hne hb
    go_enter Tryd.func7, Tryd.ntmps7
    go_wp2_with (first
      | (go_at_call 11; go_fit (HEX.out _ HG.out); rintro e w1 ⟨rfl, hb1⟩)
      | (go_at_call 19; go_fit (HDI.out A1 c1 A2 c2 _ (HR1.out.below hb1) (HR2.out.below hb1)); rintro e w4 ⟨⟨v4, rfl, ho4⟩, hb4⟩; obtain ⟨A5, c5, rfl, hr5⟩ := ho4.rd; have hbw4 := below_tr hb1 hb4; clear ho4 hr5)
      | (go_at_call 19; go_fit (HDJ.out A2 c2 A1 c1 _ (HR2.out.below hbw4) (HR1.out.below hbw4)); rintro e w5 ⟨⟨v5, rfl, ho5⟩, hb5⟩; obtain ⟨A6, c6, rfl, hr6⟩ := ho5.rd; have hbw5 := below_tr hbw4 hb5; clear ho5 hr6)
      | (go_at_call 18; go_fit (HIS.out _); rintro e w9 ⟨rfl, rfl⟩))
    go_ret
    exact ⟨rfl, hbw5⟩
end Go.Proofs.YtaecafagmncmiaaDoor
