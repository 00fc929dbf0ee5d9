/-
  The walk of RowsDiff.
-/
import Derived.Test.YtaecafagmncmiaaDoorEa
import Derived.Test.YtaecafagmncmiaaDoorQd
namespace Go.Proofs.YtaecafagmncmiaaDoor
open Go.RowKit Pu

theorem min_take (l : List Chg) (k : Nat) : min (l.length : Int) (k : Int) = ((l.take k).length : Int) := by rw [List.length_take]; omega
set_option maxRecDepth 100000 in
set_option maxHeartbeats 2000000 in
theorem rowsDiff_walk (A1 A2 : Option Addr) (c1 c2 : Nat) (l1 l2 : List Chg) (w : World) (hr1 : Rd w 3 A1 l1.length (l1.flatMap chgC)) (hr2 : Rd w 3 A2 l2.length (l2.flatMap chgC)) (hc1 : l1.length ≤ c1) (hc2 : l2.length ≤ c2) (_hm1 : c1 ≤ maxLen) (_hm2 : c2 ≤ maxLen)
    (hs1 : ∀ x ∈ l1, x.key.length ≤ 9223372036854775807 ∧ x.value.length ≤ 9223372036854775807) (hs2 : ∀ x ∈ l2, x.key.length ≤ 9223372036854775807 ∧ x.value.length ≤ 9223372036854775807) (hg : Glob w) :
    Calls Tryd.prog 4 #[.slice A1 l1.length c1, .slice A2 l2.length c2] w fun e w' => e = .returned (.bool true) ∧ Below w.heap.size w w' := by
  have hmin1 := min_take l1 60
  have hmin2 := min_take l2 60
  have qr1 := hr1.pre (j := (l1.take 60).length) rfl (by rw [List.length_take]; omega)
  have qr2 := hr2.pre (j := (l2.take 60).length) rfl (by rw [List.length_take]; omega)
  have ht1 : l1.take (l1.take 60).length = l1.take 60 := by rw [List.length_take, ← List.take_take, List.take_length]
  have ht2 : l2.take (l2.take 60).length = l2.take 60 := by rw [List.length_take, ← List.take_take, List.take_length]
  rw [ht1] at qr1
  rw [ht2] at qr2
  have qs1 : ∀ x ∈ l1.take 60, x.key.length ≤ 9223372036854775807 ∧ x.value.length ≤ 9223372036854775807 := fun x hx => hs1 x (List.mem_of_mem_take hx)
  have qs2 : ∀ x ∈ l2.take 60, x.key.length ≤ 9223372036854775807 ∧ x.value.length ≤ 9223372036854775807 := fun x hx => hs2 x (List.mem_of_mem_take hx)
  have hn1 : (l1.take 60).length ≤ l1.length ∧ (l1.take 60).length ≤ 60 := by rw [List.length_take]; omega
  have hn2 : (l2.take 60).length ≤ l2.length ∧ (l2.take 60).length ≤ 60 := by rw [List.length_take]; omega
  clear hr1 hr2 hs1 hs2
  generalize l1.take 60 = a at *
  generalize l2.take 60 = b at *
  generalize l1.length = m1 at *
  generalize l2.length = m2 at *
  clear ht1 ht2
  unfold maxLen at _hm1 _hm2
  have hex := fun W h => examples_any W h
  have HEX := Lib.hid hex
  have HG := Lib.hid hg
  clear hex hg
  obtain ⟨hn1, hn1'⟩ := hn1
  obtain ⟨hn2, hn2'⟩ := hn2
  have hA1 : a.length ≤ c1 := by omega
  have hA2 : b.length ≤ c2 := by omega
  change min (m1 : Int) 60 = _ at hmin1
  change min (m2 : Int) 60 = _ at hmin2
  have HR1 := Lib.hid qr1
  have HR2 := Lib.hid qr2
  have hcase : (∃ L, diffB a b = (0, L)) ∨ diffB a b = (1, []) := by
    unfold diffB; split
    · exact .inl ⟨_, rfl⟩
    · exact .inr rfl
  have e1 : errv 1 = .iface 68 (.int .i64 1) := errv_pos (by omega)
  have hch : ∀ (l : List Chg) (A A' : Option Addr) (c c' : Nat) (W : World), Rd W 3 A l.length (l.flatMap chgC) → Rd W 3 A' l.length (l.flatMap chgC) → Calls Tryd.prog 21 #[.slice A l.length c, .slice A' l.length c'] W fun e w' => e = .returned (.bool true) ∧ Below W.heap.size W w' := fun l A A' c c' W h1 h2 => by
    have := changes_any A A' c c' l l W h1 h2
    simpa using this
  have HCH := Lib.hid hch
  have his : ∀ W, Calls Tryd.prog 18 #[.iface 68 (.int .i64 1), .int .i64 1] W fun e w' => e = .returned (.bool true) ∧ W = w' := fun W => by
    have := is_any 1 1 W
    rw [e1] at this
    exact this
  have HIS := Lib.hid his
  clear hch his qr1 qr2
  rcases hcase with ⟨L, hD⟩ | hD
  · have hdi : ∀ A c A' c' W, Rd W 3 A a.length (a.flatMap chgC) → Rd W 3 A' b.length (b.flatMap chgC) → Calls Tryd.prog 19 #[.slice A a.length c, .slice A' b.length c'] W fun e w' => (∃ v, e = .returned (.tuple #[v, .nilIface]) ∧ Ow w' W.heap.size 49 3 v L.length (L.flatMap chgC)) ∧ Below W.heap.size W w' := fun A c A' c' W h1 h2 =>
      (diff_any A A' c c' a b W h1 h2 qs1 qs2 (by omega)).mono fun e w' ⟨⟨v, he, ho⟩, hb⟩ => by
        rw [hD] at he ho
        exact ⟨⟨v, he, ho⟩, hb⟩
    have hqd : ∀ A c A' c' W, Rd W 3 A a.length (a.flatMap chgC) → Rd W 3 A' b.length (b.flatMap chgC) → Calls Tryd.prog 20 #[.slice A a.length c, .slice A' b.length c'] W fun e w' => (∃ v, e = .returned (.tuple #[v, .bool true]) ∧ Ow w' W.heap.size 49 3 v L.length (L.flatMap chgC)) ∧ Below W.heap.size W w' := fun A c A' c' W h1 h2 =>
      (qdiff_any A A' c c' a b W h1 h2 (by omega)).mono fun e w' ⟨⟨v, he, ho⟩, hb⟩ => by
        rw [hD] at he ho
        exact ⟨⟨v, he, ho⟩, hb⟩
    have HDI := Lib.hid hdi
    have HQD := Lib.hid hqd
    have HCL := Lib.hid (HCH.out L)
    have HCA := Lib.hid (HCH.out a)
    have HCB := Lib.hid (HCH.out b)
    clear hdi hqd hD qs1 qs2 e1 HCH
    go_enter Tryd.func4, Tryd.ntmps4
    go_wp2_with (first
      | (go_at_call 11; go_fit (HEX.out _ HG.out); rintro e w1 ⟨rfl, hb1⟩)
      | (refine wpList_pushes tChg rfl (.const (.slice none 0 0)) (.tmp 26) rfl w.heap.size (.slice none 0 0) 0 [] A1 a.length c1 (a.flatMap chgC) rfl rfl (Ow.nil _ _ _ _) (HR1.out.below hb1) (chgCs_one _) (by omega) (by omega) hb1.size ?_; intro v2 w2 ho2 hg2 hd2 hb2; have ho2 := ho2.cast (Nat.zero_add _) (List.nil_append _); obtain ⟨A3, c3, rfl, hr3⟩ := ho2.rd; have HR3 := Lib.hid hr3; have hbw2 := hb1.trans hb2; clear ho2 hr3 hg2 hd2 hb2)
      | (refine wpList_pushes tChg rfl (.const (.slice none 0 0)) (.tmp 28) rfl w.heap.size (.slice none 0 0) 0 [] A2 b.length c2 (b.flatMap chgC) rfl rfl (Ow.nil _ _ _ _) (HR2.out.below hbw2) (chgCs_one _) (by omega) (by omega) hbw2.size ?_; intro v3 w3 ho3 hg3 hd3 hb3; have ho3 := ho3.cast (Nat.zero_add _) (List.nil_append _); obtain ⟨A4, c4, rfl, hr4⟩ := ho3.rd; have HR4 := Lib.hid hr4; have HR3b := Lib.hid (HR3.out.below (below_g (Below.refl _ w2) hg3)); have hbw3 := hbw2.trans hb3; clear ho3 hr4 hg3 hd3 hb3)
      | (go_at_call 19; go_fit (HDI.out A3 c3 A4 c4 _ HR3b.out HR4.out); rintro e w4 ⟨⟨v4, rfl, ho4⟩, hb4⟩; obtain ⟨A5, c5, rfl, hr5⟩ := ho4.rd; have HR5 := Lib.hid hr5; have hbw4 := below_tr hbw3 hb4; clear ho4 hr5)
      | (go_at_call 20; go_fit (HQD.out A1 c1 A2 c2 _ (HR1.out.below hbw4) (HR2.out.below hbw4)); rintro e w5 ⟨⟨v5, rfl, ho5⟩, hb5⟩; obtain ⟨A6, c6, rfl, hr6⟩ := ho5.rd; have HR6 := Lib.hid hr6; have hbw5 := below_tr hbw4 hb5; clear ho5 hr6)
      | (go_at_call 21; go_fit (HCL.out A5 A6 c5 c6 _ (HR5.out.below hb5) HR6.out); rintro e w6 ⟨rfl, hb6⟩; have hbw6 := below_tr hbw5 hb6; have hb36 := below_tr hb4 (below_tr hb5 hb6))
      | (go_at_call 21; go_fit (HCA.out A3 A1 c3 c1 _ (HR3b.out.below hb36) (HR1.out.below hbw6)); rintro e w7 ⟨rfl, hb7⟩; have hbw7 := below_tr hbw6 hb7; have hb37 := below_tr hb36 hb7)
      | (go_at_call 21; go_fit (HCB.out A4 A2 c4 c2 _ (HR4.out.below hb37) (HR2.out.below hbw7)); rintro e w8 ⟨rfl, hb8⟩; have hbw8 := below_tr hbw7 hb8)
      | (go_at_call 18; go_fit (HIS.out _); rintro e w9 ⟨rfl, rfl⟩))
    go_ret
    exact ⟨rfl, hbw8⟩
  · have hdi : ∀ A c A' c' W, Rd W 3 A a.length (a.flatMap chgC) → Rd W 3 A' b.length (b.flatMap chgC) → Calls Tryd.prog 19 #[.slice A a.length c, .slice A' b.length c'] W fun e w' => (∃ v, e = .returned (.tuple #[v, .iface 68 (.int .i64 1)]) ∧ Ow w' W.heap.size 49 3 v 0 []) ∧ Below W.heap.size W w' := fun A c A' c' W h1 h2 =>
      (diff_any A A' c c' a b W h1 h2 qs1 qs2 (by omega)).mono fun e w' ⟨⟨v, he, ho⟩, hb⟩ => by
        rw [hD] at he ho
        exact ⟨⟨v, by rw [he, ← e1], ho⟩, hb⟩
    have hqd : ∀ A c A' c' W, Rd W 3 A a.length (a.flatMap chgC) → Rd W 3 A' b.length (b.flatMap chgC) → Calls Tryd.prog 20 #[.slice A a.length c, .slice A' b.length c'] W fun e w' => (∃ v, e = .returned (.tuple #[v, .bool false]) ∧ Ow w' W.heap.size 49 3 v 0 []) ∧ Below W.heap.size W w' := fun A c A' c' W h1 h2 =>
      (qdiff_any A A' c c' a b W h1 h2 (by omega)).mono fun e w' ⟨⟨v, he, ho⟩, hb⟩ => by
        rw [hD] at he ho
        exact ⟨⟨v, he, ho⟩, hb⟩
    have HDI := Lib.hid hdi
    have HQD := Lib.hid hqd
    have HCL := Lib.hid (HCH.out [])
    have HCA := Lib.hid (HCH.out a)
    have HCB := Lib.hid (HCH.out b)
    clear hdi hqd hD qs1 qs2 e1 HCH
    go_enter Tryd.func4, Tryd.ntmps4
    go_wp2_with (first
      | (go_at_call 11; go_fit (HEX.out _ HG.out); rintro e w1 ⟨rfl, hb1⟩)
      | (refine wpList_pushes tChg rfl (.const (.slice none 0 0)) (.tmp 26) rfl w.heap.size (.slice none 0 0) 0 [] A1 a.length c1 (a.flatMap chgC) rfl rfl (Ow.nil _ _ _ _) (HR1.out.below hb1) (chgCs_one _) (by omega) (by omega) hb1.size ?_; intro v2 w2 ho2 hg2 hd2 hb2; have ho2 := ho2.cast (Nat.zero_add _) (List.nil_append _); obtain ⟨A3, c3, rfl, hr3⟩ := ho2.rd; have HR3 := Lib.hid hr3; have hbw2 := hb1.trans hb2; clear ho2 hr3 hg2 hd2 hb2)
      | (refine wpList_pushes tChg rfl (.const (.slice none 0 0)) (.tmp 28) rfl w.heap.size (.slice none 0 0) 0 [] A2 b.length c2 (b.flatMap chgC) rfl rfl (Ow.nil _ _ _ _) (HR2.out.below hbw2) (chgCs_one _) (by omega) (by omega) hbw2.size ?_; intro v3 w3 ho3 hg3 hd3 hb3; have ho3 := ho3.cast (Nat.zero_add _) (List.nil_append _); obtain ⟨A4, c4, rfl, hr4⟩ := ho3.rd; have HR4 := Lib.hid hr4; have HR3b := Lib.hid (HR3.out.below (below_g (Below.refl _ w2) hg3)); have hbw3 := hbw2.trans hb3; clear ho3 hr4 hg3 hd3 hb3)
      | (go_at_call 19; go_fit (HDI.out A3 c3 A4 c4 _ HR3b.out HR4.out); rintro e w4 ⟨⟨v4, rfl, ho4⟩, hb4⟩; obtain ⟨A5, c5, rfl, hr5⟩ := ho4.rd; have HR5 := Lib.hid hr5; have hbw4 := below_tr hbw3 hb4; clear ho4 hr5)
      | (go_at_call 20; go_fit (HQD.out A1 c1 A2 c2 _ (HR1.out.below hbw4) (HR2.out.below hbw4)); rintro e w5 ⟨⟨v5, rfl, ho5⟩, hb5⟩; obtain ⟨A6, c6, rfl, hr6⟩ := ho5.rd; have HR6 := Lib.hid hr6; have hbw5 := below_tr hbw4 hb5; clear ho5 hr6)
      | (go_at_call 21; go_fit (HCL.out A5 A6 c5 c6 _ (HR5.out.below hb5) HR6.out); rintro e w6 ⟨rfl, hb6⟩; have hbw6 := below_tr hbw5 hb6; have hb36 := below_tr hb4 (below_tr hb5 hb6))
      | (go_at_call 21; go_fit (HCA.out A3 A1 c3 c1 _ (HR3b.out.below hb36) (HR1.out.below hbw6)); rintro e w7 ⟨rfl, hb7⟩; have hbw7 := below_tr hbw6 hb7; have hb37 := below_tr hb36 hb7)
      | (go_at_call 21; go_fit (HCB.out A4 A2 c4 c2 _ (HR4.out.below hb37) (HR2.out.below hbw7)); rintro e w8 ⟨rfl, hb8⟩; have hbw8 := below_tr hbw7 hb8)
      | (go_at_call 18; go_fit (HIS.out _); rintro e w9 ⟨rfl, rfl⟩))
    go_ret
    exact ⟨rfl, hbw8⟩
end Go.Proofs.YtaecafagmncmiaaDoor
