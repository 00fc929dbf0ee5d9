/-
  The walk of the document's Instance.
-/
import Derived.BigRegion
import Derived.RegionTactic
import Derived.Test.YtaecafagmncmiaaDoorRn
import Derived.Test.YtaecafagmncmiaaDoorQv
namespace Go.Proofs.YtaecafagmncmiaaDoor
open Go.RowKit Pu

def QiPost (I : Nat × Inst) (e : Ending) : Prop := e = .returned (.tuple #[instV I.2, .bool (decide (I.1 = 0))])
theorem qiPost_no (I : Nat × Inst) (h : I = (3, noI)) : QiPost I (.returned (.tuple #[.agg #[.string ⟨#[]⟩, .string ⟨#[]⟩, .int .i64 0, .int .i64 0, .int .i64 0, .int .i64 0, .bool false], .bool false])) := by
  rw [h, QiPost]; rfl
/-- the first k numbers -/
def numsL (q : Bs) (k : Nat) : List Int := (List.range k).map fun i => ((nm q i : Nat) : Int)
theorem numsL_succ (q : Bs) (k : Nat) : numsL q (k + 1) = numsL q k ++ [((nm q k : Nat) : Int)] := by unfold numsL; rw [List.range_succ, List.map_append]; rfl
theorem numsL_len (q : Bs) (k : Nat) : (numsL q k).length = k := by unfold numsL; simp
theorem ints_snoc (l : List Int) (n : Int) : ints (l ++ [n]) = ints l ++ (#[Value.int .i64 n] : Array Value).toList := by unfold ints; simp
attribute [irreducible] numsL

theorem below_d {w W : World} (h : Below w.heap.size w W) : Below w.heap.size w W.drew := ⟨h.os, h.tape, h.output, h.size, h.block⟩
theorem heap_d (w : World) (o : Obj) : (w.alloc o).drew.heap[w.heap.size]? = (w.alloc o).heap[w.heap.size]? := rfl
/-- what is known of the two blocks of zeros below a world -/
structure Two (b : Nat) (W : World) : Prop where
  z0 : W.heap[b]? = some (.cells #[.string ⟨#[]⟩, .string ⟨#[]⟩, .int .i64 0, .int .i64 0, .int .i64 0, .int .i64 0, .bool false] 25 (0, 0))
  z1 : W.heap[b + 1]? = some (.cells #[.string ⟨#[]⟩, .string ⟨#[]⟩, .int .i64 0, .int .i64 0, .int .i64 0, .int .i64 0, .bool false] 25 (0, 0))
theorem Two.below {b : Nat} {W W' : World} (h : Two b W) (hb : Below W.heap.size W W') : Two b W' :=
  ⟨(hb.block b (Array.getElem?_eq_some_iff.1 h.z0).1).trans h.z0, (hb.block (b + 1) (Array.getElem?_eq_some_iff.1 h.z1).1).trans h.z1⟩
theorem two_new (w : World) : Two w.heap.size ((w.alloc (.cells #[.string ⟨#[]⟩, .string ⟨#[]⟩, .int .i64 0, .int .i64 0, .int .i64 0, .int .i64 0, .bool false] 25)).alloc (.cells #[.string ⟨#[]⟩, .string ⟨#[]⟩, .int .i64 0, .int .i64 0, .int .i64 0, .int .i64 0, .bool false] 25)) := ⟨heap_alloc2_old w _ _, heap_alloc2_new w _ _⟩

set_option maxRecDepth 100000 in
set_option maxHeartbeats 2000000 in
theorem qinst_head (v : Bs) (w : World) (hl : v.length ≤ 9223372036854775807) (h : (readNum v).1 ≠ 0 ∨ (readNum v).2.1 ≠ 2) :
    Calls Tryd.prog 13 #[.string (bs v)] w fun e w' => QiPost (instR v) e ∧ Below w.heap.size w w' := by
  have HI := Lib.hid (qiPost_no _ (instR_head h))
  have hrn := fun w => qreadNum_any v w hl
  generalize readNum v = R at hrn h
  obtain ⟨er, n, m⟩ := R
  simp only at hrn h
  have HRN := Lib.hid hrn
  have HB0 := Lib.hid (below_al (below_al (Below.refl _ w) (.cells #[.string ⟨#[]⟩, .string ⟨#[]⟩, .int .i64 0, .int .i64 0, .int .i64 0, .int .i64 0, .bool false] 25)) (.cells #[.string ⟨#[]⟩, .string ⟨#[]⟩, .int .i64 0, .int .i64 0, .int .i64 0, .int .i64 0, .bool false] 25))
  have HT0 := Lib.hid (two_new w)
  clear hrn hl
  by_cases he : er = 0
  · subst he
    have hn : ((n : Int) == 2) = false := by rw [beq_eq_false_iff_ne]; omega
    clear h
    go_enter Tryd.func13, Tryd.ntmps13
    go_wp2_with (first | (go_at_call 31; refine (HRN.out _).mono ?_; rintro e w1 ⟨rfl, hb1⟩; have hbw1 := below_tr HB0.out hb1; have ht := HT0.out.below hb1; have hz0 := ht.z0; have hz1 := ht.z1; obtain ⟨c0, c1, c2, c3, c4, c5, c6⟩ := zcells hz1; obtain ⟨d0, d1, d2, d3, d4, d5, d6⟩ := zcells hz0; obtain ⟨s0, s1, s2, s3, s4, s5, s6⟩ := zself hz0; obtain ⟨f0, f1, f2, f3, f4, f5, f6⟩ := fro7 hz0; have HZW := Lib.hid hz0; clear hz0 hz1 ht))
    refine bodyPost_ret (results_ct rfl _ _ w.heap.size _ _ _ _ rfl HZW.out Tryd.underlying25 rfl (by kernel_rfl)) rfl ?_
    exact ⟨HI.out, hbw1⟩
  · have he0 : ((er : Int) == 0) = false := by rw [beq_eq_false_iff_ne]; omega
    clear h he
    go_enter Tryd.func13, Tryd.ntmps13
    go_wp2_with (first | (go_at_call 31; refine (HRN.out _).mono ?_; rintro e w1 ⟨rfl, hb1⟩; have hbw1 := below_tr HB0.out hb1; have ht := HT0.out.below hb1; have hz0 := ht.z0; have hz1 := ht.z1; obtain ⟨c0, c1, c2, c3, c4, c5, c6⟩ := zcells hz1; obtain ⟨d0, d1, d2, d3, d4, d5, d6⟩ := zcells hz0; obtain ⟨s0, s1, s2, s3, s4, s5, s6⟩ := zself hz0; obtain ⟨f0, f1, f2, f3, f4, f5, f6⟩ := fro7 hz0; have HZW := Lib.hid hz0; clear hz0 hz1 ht))
    refine bodyPost_ret (results_ct rfl _ _ w.heap.size _ _ _ _ rfl HZW.out Tryd.underlying25 rfl (by kernel_rfl)) rfl ?_
    exact ⟨HI.out, hbw1⟩

set_option maxRecDepth 100000 in
set_option maxHeartbeats 4000000 in
theorem qinst_main (v : Bs) (w : World) (hl : v.length ≤ 9223372036854775807) (h0 : (readNum v).1 = 0) (h2 : (readNum v).2.1 = 2) :
    Calls Tryd.prog 13 #[.string (bs v)] w fun e w' => QiPost (instR v) e ∧ Below w.heap.size w w' := by
  have hrn := fun w => qreadNum_any v w hl
  have ht := fun (j : Nat) (hj : j < 2) => instR_text (v := v) h0 h2 hj
  have hn := fun h (j : Nat) (hj : j < 5) => instR_num (v := v) h0 h2 h hj
  have he := instR_end (v := v) h0 h2
  have hml := readNum_rest v
  generalize instR v = I at ht hn he ⊢
  generalize readNum v = R at hrn ht hn he h0 h2 hml
  obtain ⟨er, n, m⟩ := R
  simp only at hrn ht hn he h0 h2 hml
  subst h0 h2
  have hr0 : restT m 0 = m := by unfold restT; rfl
  have hr1 : restT m 1 = (readText m).2.2 := by rw [restT, hr0]
  have hr2 : restT m 2 = (readText (restT m 1)).2.2 := by rw [restT]
  have hx0 : txt m 0 = (readText m).2.1 := by unfold txt; rw [hr0]
  have hx1 : txt m 1 = (readText (restT m 1)).2.1 := by unfold txt; rfl
  have hk1 := restT_len m 1
  have hk2 := restT_len m 2
  have hla := txt_len m 0
  have hlb := txt_len m 1
  have hq0 := fun w => qreadText_any m w (by omega)
  have hq1 := fun w => qreadText_any (restT m 1) w (by omega)
  have hf0 := ht 0 (by omega)
  have hf1 := ht 1 (by omega)
  rw [hr0] at hf0
  have hok : (readText m).1 = 0 → (readText (restT m 1)).1 = 0 → okT m 2 := fun a b => okT_succ (okT_succ (okT_zero m) (by rw [hr0]; exact a)) b
  rw [← hx0, ← hr1] at hq0
  rw [← hx1, ← hr2] at hq1
  generalize (readText m).1 = e0 at hq0 hf0 hok
  generalize (readText (restT m 1)).1 = e1 at hq1 hf1 hok
  generalize txt m 0 = a at *
  generalize txt m 1 = b at *
  generalize restT m 1 = m1 at *
  generalize restT m 2 = q at *
  have HRN := Lib.hid hrn
  have HQ0 := Lib.hid hq0
  have HQ1 := Lib.hid hq1
  have HB0 := Lib.hid (below_al (below_al (Below.refl _ w) (.cells #[.string ⟨#[]⟩, .string ⟨#[]⟩, .int .i64 0, .int .i64 0, .int .i64 0, .int .i64 0, .bool false] 25)) (.cells #[.string ⟨#[]⟩, .string ⟨#[]⟩, .int .i64 0, .int .i64 0, .int .i64 0, .int .i64 0, .bool false] 25))
  have HT0 := Lib.hid (two_new w)
  have HF0 := Lib.hid hf0
  have HF1 := Lib.hid hf1
  have HOK := Lib.hid hok
  have HNUM := Lib.hid hn
  have HEND := Lib.hid he
  clear hrn hq0 hq1 hf0 hf1 hok hn he ht hr0 hr1 hr2 hx0 hx1
  by_cases c0 : e0 = 0
  · subst c0
    by_cases c1 : e1 = 0
    · subst c1
      have HN2 := Lib.hid (HNUM.out (HOK.out rfl rfl))
      have HE2 := Lib.hid (HEND.out (HOK.out rfl rfl))
      clear HF0 HF1 HNUM HEND HOK
      go_enter Tryd.func13, Tryd.ntmps13
      go_wp2_with (first
        | (go_at_call 31; go_fit (HRN.out _); rintro e w1 ⟨rfl, hb1⟩; have hbw1 := below_tr HB0.out hb1; have HT1 := Lib.hid (HT0.out.below hb1))
        | (go_at_call 32; go_fit (HQ0.out _); rintro e w2 ⟨rfl, hb2⟩; have hbw2 := below_tr hbw1 hb2; have HT2 := Lib.hid (HT1.out.below hb2))
        | (go_at_call 32; go_fit (HQ1.out _); rintro e w3 ⟨rfl, hb3⟩; have hbw3 := below_tr hbw2 hb3; have HT3 := Lib.hid (HT2.out.below hb3)))
      go_loopw [12, 14, 15] (fun r l i wr => ∃ k : Nat, k ≤ 5 ∧ i = .int .i64 k ∧ r = .string (bs (restN q k)) ∧ okN q k ∧ Ow wr w3.heap.size 3 1 l k (ints (numsL q k)) ∧ Below w3.heap.size w3 wr) (fun _ _ i _ => 5 - (intOf i).toNat)
      case atStart => exact ⟨0, Nat.zero_le _, rfl, by unfold restN; rfl, okN_zero q, by unfold numsL; exact Ow.nil _ _ _ _, Below.refl _ _⟩
      case round =>
        obtain ⟨k, hk, rfl, rfl, hok, how, hbr⟩ := hrel
        obtain ⟨A5, c5, rfl, hr5⟩ := how.rd
        have HOW := Lib.hid how
        have HBR := Lib.hid hbr
        by_cases hlt : k < 5
        · have hrd := fun W => qreadNum_any (restN q k) W (by have := restN_len q k; omega)
          have hnm : (readNum (restN q k)).2.1 = nm q k := by unfold nm; rfl
          have hrs : (readNum (restN q k)).2.2 = restN q (k + 1) := by rw [restN]
          have hfail := HN2.out k hlt
          have hsucc := okN_succ hok
          have hsn := numsL_succ q k
          rw [hnm, hrs] at hrd
          generalize (readNum (restN q k)).1 = ek at hrd hfail hsucc
          have HRD := Lib.hid hrd
          have HSN := Lib.hid hsn
          clear hrd hnm hrs hsn how hbr hr5 hok
          by_cases hek : ek = 0
          · subst hek
            have HS := Lib.hid (hsucc rfl)
            clear hfail hsucc
            go_wp2_with (first
              | (go_at_call 31; go_fit (HRD.out _); rintro e w4 ⟨rfl, hb4⟩; have hb34 := below_tr HBR.out hb4; have HO4 := Lib.hid (HOW.out.below hb4))
              | (refine wpList_push tInt rfl (.tmp 65) (.tmp 67) rfl w3.heap.size (.slice A5 k c5) k _ #[.int .i64 (nm q k : Nat)] rfl rfl HO4.out rfl (by simp [Value.oneCell']) (by omega) (by omega) hb34.size ?_; intro v5 w5 ho5 hg5 hd5 hb5; have hb35 := hb34.trans hb5; have HO5 := Lib.hid ho5; clear ho5 hg5 hd5))
            go_roundw
            case rel => exact ⟨k + 1, by omega, by go_num, rfl, HS.out, HO5.out.cast rfl (by rw [HSN.out, ints_snoc]), hb35⟩
            case measure => simp [intOf]; omega
          · have HI := Lib.hid (qiPost_no _ (hfail hek))
            have hc : ((ek : Int) == 0) = false := by rw [beq_eq_false_iff_ne]; omega
            clear hfail hsucc hek
            go_wp2_with (first
              | (go_at_call 31; go_fit (HRD.out _); rintro e w4 ⟨rfl, hb4⟩; have hb34 := below_tr HBR.out hb4; have ht := HT3.out.below hb34; have hz0 := ht.z0; have hz1 := ht.z1; obtain ⟨c0, c1, c2, c3, c4, c5, c6⟩ := zcells hz1; obtain ⟨d0, d1, d2, d3, d4, d5, d6⟩ := zcells hz0; obtain ⟨s0, s1, s2, s3, s4, s5, s6⟩ := zself hz0; obtain ⟨f0, f1, f2, f3, f4, f5, f6⟩ := fro7 hz0; have HZW := Lib.hid hz0; clear hz0 hz1 ht))
            refine bodyPost_ret (results_ct rfl _ _ w.heap.size _ _ _ _ rfl HZW.out Tryd.underlying25 rfl (by kernel_rfl)) rfl ?_
            exact ⟨HI.out, below_tr hbw3 hb34⟩
        · obtain rfl : k = 5 := by omega
          have hend3 := HE2.out hok
          have hnl : ints (numsL q 5) = [.int .i64 (nm q 0 : Nat), .int .i64 (nm q 1 : Nat), .int .i64 (nm q 2 : Nat), .int .i64 (nm q 3 : Nat), .int .i64 (nm q 4 : Nat)] := by unfold numsL; rfl
          have hx : instV (instN a b q) = .agg #[.string (bs a), .string (bs b), .int .i64 (nm q 0 : Nat), .int .i64 (nm q 1 : Nat), .int .i64 (nm q 2 : Nat), .int .i64 (nm q 3 : Nat), .bool (nm q 4 == 1)] := by unfold instN; rfl
          have hbq : ((nm q 4 : Int) == 1) = (nm q 4 == 1) := by
            cases hh : (nm q 4 == 1) with
            | true => rw [beq_iff_eq] at hh ⊢; omega
            | false => rw [beq_eq_false_iff_ne] at hh ⊢; omega
          have hid : (instN a b q).id = a := by unfold instN; rfl
          have hdf : (instN a b q).dfn = b := by unfold instN; rfl
          have hfi := fun W => qfine_any (instN a b q) W (by rw [hid]; omega) (by rw [hdf]; omega)
          have hva := fun W h => qvalue_any (instN a b q) W h
          obtain ⟨g, off, rfl, hg, hcell⟩ := hr5.at_ (k := 0) (by omega)
          have p0 := hcell 0 (.int .i64 (nm q 0 : Nat)) (by rw [hnl]; rfl)
          have p1 := hcell 1 (.int .i64 (nm q 1 : Nat)) (by rw [hnl]; rfl)
          have p2 := hcell 2 (.int .i64 (nm q 2 : Nat)) (by rw [hnl]; rfl)
          have p3 := hcell 3 (.int .i64 (nm q 3 : Nat)) (by rw [hnl]; rfl)
          have p4 := hcell 4 (.int .i64 (nm q 4 : Nat)) (by rw [hnl]; rfl)
          rw [Nat.add_zero] at p0
          generalize instN a b q = x at hend3 hx hfi hva
          rw [hx] at hfi hva
          have HX := Lib.hid hx
          have HFI := Lib.hid hfi
          have HVA := Lib.hid hva
          have HE3 := Lib.hid hend3
          clear hx hfi hva hend3 hok how hbr hr5 hcell hnl hid hdf HOW
          generalize nm q 0 = n0 at *
          generalize nm q 1 = n1 at *
          generalize nm q 2 = n2 at *
          generalize nm q 3 = n3 at *
          generalize nm q 4 = n4 at *
          generalize (n4 == 1) = bq at *
          go_wp2_with fail
          go_region
          as_aux_lemma =>
            obtain ⟨W, hW⟩ : ∃ W, W = (wr.alloc (.cells #[.string (bs a), .string (bs b), .int .i64 (n0 : Nat), .int .i64 (n1 : Nat), .int .i64 (n2 : Nat), .int .i64 (n3 : Nat), .bool bq] 25)).drew := ⟨_, rfl⟩
            rw [← hW]
            have hblk : W.heap[wr.heap.size]? = some (.cells #[.string (bs a), .string (bs b), .int .i64 (n0 : Nat), .int .i64 (n1 : Nat), .int .i64 (n2 : Nat), .int .i64 (n3 : Nat), .bool bq] 25 (0, 0)) := by rw [hW, heap_d]; exact heap_alloc_new wr _
            have hb3W : Below w3.heap.size w3 W := by rw [hW]; exact below_d (below_al HBR.out _)
            have HTW := Lib.hid (HT3.out.below hb3W)
            have hbW := below_tr hbw3 hb3W
            have HBLK := Lib.hid hblk
            obtain ⟨x0, x1, x2, x3, x4, x5, x6⟩ := cells7 hblk
            have hlb7 := (Array.getElem?_eq_some_iff.1 hblk).1
            clear hW hblk p0 p1 p2 p3 p4 hb3W
            cases hokx : okI x with
            | false =>
              have hI : Hid (I = (3, noI)) := HE3.out.trans (if_neg (by rw [hokx]; simp))
              have HI := Lib.hid (qiPost_no _ hI.out)
              rw [hokx] at HFI
              clear hokx HE3 hI
              go_wp2_with (first
                | (go_at_call 33; go_fit (HFI.out _); rintro e w6 ⟨rfl, hb6⟩; have hbw6 := below_tr hbW hb6; have ht := HTW.out.below hb6; have hz0 := ht.z0; have hz1 := ht.z1; obtain ⟨c0, c1, c2, c3, c4, c5, c6⟩ := zcells hz1; obtain ⟨d0, d1, d2, d3, d4, d5, d6⟩ := zcells hz0; obtain ⟨s0, s1, s2, s3, s4, s5, s6⟩ := zself hz0; obtain ⟨f0, f1, f2, f3, f4, f5, f6⟩ := fro7 hz0; have HZW := Lib.hid hz0; clear hz0 hz1 ht x0 x1 x2 x3 x4 x5 x6))
              refine bodyPost_ret (results_ct rfl _ _ w.heap.size _ _ _ _ rfl HZW.out Tryd.underlying25 rfl (by kernel_rfl)) rfl ?_
              exact ⟨HI.out, hbw6⟩
            | true =>
              have HV2 := Lib.hid (fun W => HVA.out W hokx)
              by_cases hiv : instB x = v
              · have hI : Hid (I = (0, x)) := HE3.out.trans (if_pos ⟨hokx, hiv⟩)
                have hne : (instB x == v) = true := by simpa using hiv
                rw [hokx] at HFI
                clear hokx HE3 hiv HVA
                go_wp2_with (first
                  | (go_at_call 33; go_fit (HFI.out _); rintro e w6 ⟨rfl, hb6⟩; have hx6 := (hb6.block wr.heap.size hlb7).trans HBLK.out; clear x0 x1 x2 x3 x4 x5 x6; obtain ⟨x0, x1, x2, x3, x4, x5, x6⟩ := cells7 hx6; have HX6 := Lib.hid hx6; clear hx6)
                  | (go_at_call 34; go_fit (HV2.out _); rintro e w7 ⟨rfl, hb7⟩; have hb67 := below_tr hb6 hb7; have hx7 := (hb67.block wr.heap.size hlb7).trans HBLK.out; clear x0 x1 x2 x3 x4 x5 x6; obtain ⟨x0, x1, x2, x3, x4, x5, x6⟩ := cells7 hx7; have ht := HTW.out.below hb67; have hz0 := ht.z0; obtain ⟨d0, d1, d2, d3, d4, d5, d6⟩ := zcells hz0; obtain ⟨f0, f1, f2, f3, f4, f5, f6⟩ := fro7 hz0; have HZ7 := Lib.hid hz0; have hbw7 := below_tr hbW hb67; clear hx7 hz0 ht))
                refine bodyPost_ret (results_ct rfl _ _ w.heap.size _ _ _ _ rfl (store7 HZ7.out _ _ _ _ _ _ _) Tryd.underlying25 rfl (by kernel_rfl)) rfl ?_
                refine ⟨?_, ((((((hbw7.setCell (p := ⟨w.heap.size, 0, none⟩) (Nat.le_refl _) _).setCell (p := ⟨w.heap.size, 1, none⟩) (Nat.le_refl _) _).setCell (p := ⟨w.heap.size, 2, none⟩) (Nat.le_refl _) _).setCell (p := ⟨w.heap.size, 3, none⟩) (Nat.le_refl _) _).setCell (p := ⟨w.heap.size, 4, none⟩) (Nat.le_refl _) _).setCell (p := ⟨w.heap.size, 5, none⟩) (Nat.le_refl _) _).setCell (p := ⟨w.heap.size, 6, none⟩) (Nat.le_refl _) _⟩
                unfold QiPost
                rw [hI.out, HX.out]
                rfl
              · have hI : Hid (I = (3, noI)) := HE3.out.trans (if_neg (by rintro ⟨_, h⟩; exact hiv h))
                have HI := Lib.hid (qiPost_no _ hI.out)
                have hne : (instB x == v) = false := by simpa using hiv
                rw [hokx] at HFI
                clear hokx HE3 hiv HVA hI
                go_wp2_with (first
                  | (go_at_call 33; go_fit (HFI.out _); rintro e w6 ⟨rfl, hb6⟩; have hx6 := (hb6.block wr.heap.size hlb7).trans HBLK.out; clear x0 x1 x2 x3 x4 x5 x6; obtain ⟨x0, x1, x2, x3, x4, x5, x6⟩ := cells7 hx6; clear hx6)
                  | (go_at_call 34; go_fit (HV2.out _); rintro e w7 ⟨rfl, hb7⟩; have hb67 := below_tr hb6 hb7; clear x0 x1 x2 x3 x4 x5 x6; have ht := HTW.out.below hb67; have hz0 := ht.z0; have hz1 := ht.z1; obtain ⟨c0, c1, c2, c3, c4, c5, c6⟩ := zcells hz1; obtain ⟨d0, d1, d2, d3, d4, d5, d6⟩ := zcells hz0; obtain ⟨s0, s1, s2, s3, s4, s5, s6⟩ := zself hz0; obtain ⟨f0, f1, f2, f3, f4, f5, f6⟩ := fro7 hz0; have HZ7 := Lib.hid hz0; have hbw7 := below_tr hbW hb67; clear hz0 hz1 ht))
                refine bodyPost_ret (results_ct rfl _ _ w.heap.size _ _ _ _ rfl HZ7.out Tryd.underlying25 rfl (by kernel_rfl)) rfl ?_
                exact ⟨HI.out, hbw7⟩
    · have HI := Lib.hid (qiPost_no _ (HF1.out c1))
      have hc : ((e1 : Int) == 0) = false := by rw [beq_eq_false_iff_ne]; omega
      clear HF0 HF1 HNUM HEND HOK c1
      go_enter Tryd.func13, Tryd.ntmps13
      go_wp2_with (first
        | (go_at_call 31; go_fit (HRN.out _); rintro e w1 ⟨rfl, hb1⟩; have hbw1 := below_tr HB0.out hb1; have HT1 := Lib.hid (HT0.out.below hb1))
        | (go_at_call 32; go_fit (HQ0.out _); rintro e w2 ⟨rfl, hb2⟩; have hbw2 := below_tr hbw1 hb2; have HT2 := Lib.hid (HT1.out.below hb2))
        | (go_at_call 32; go_fit (HQ1.out _); rintro e w3 ⟨rfl, hb3⟩; have hbw3 := below_tr hbw2 hb3; have ht := HT2.out.below hb3; have hz0 := ht.z0; have hz1 := ht.z1; obtain ⟨c0, c1, c2, c3, c4, c5, c6⟩ := zcells hz1; obtain ⟨d0, d1, d2, d3, d4, d5, d6⟩ := zcells hz0; obtain ⟨s0, s1, s2, s3, s4, s5, s6⟩ := zself hz0; obtain ⟨f0, f1, f2, f3, f4, f5, f6⟩ := fro7 hz0; have HZW := Lib.hid hz0; clear hz0 hz1 ht))
      refine bodyPost_ret (results_ct rfl _ _ w.heap.size _ _ _ _ rfl HZW.out Tryd.underlying25 rfl (by kernel_rfl)) rfl ?_
      exact ⟨HI.out, hbw3⟩
  · have HI := Lib.hid (qiPost_no _ (HF0.out c0))
    have hc : ((e0 : Int) == 0) = false := by rw [beq_eq_false_iff_ne]; omega
    clear HF0 HF1 HNUM HEND HOK c0 HQ1
    go_enter Tryd.func13, Tryd.ntmps13
    go_wp2_with (first
      | (go_at_call 31; go_fit (HRN.out _); rintro e w1 ⟨rfl, hb1⟩; have hbw1 := below_tr HB0.out hb1; have HT1 := Lib.hid (HT0.out.below hb1))
      | (go_at_call 32; go_fit (HQ0.out _); rintro e w3 ⟨rfl, hb3⟩; have hbw3 := below_tr hbw1 hb3; have ht := HT1.out.below hb3; have hz0 := ht.z0; have hz1 := ht.z1; obtain ⟨c0, c1, c2, c3, c4, c5, c6⟩ := zcells hz1; obtain ⟨d0, d1, d2, d3, d4, d5, d6⟩ := zcells hz0; obtain ⟨s0, s1, s2, s3, s4, s5, s6⟩ := zself hz0; obtain ⟨f0, f1, f2, f3, f4, f5, f6⟩ := fro7 hz0; have HZW := Lib.hid hz0; clear hz0 hz1 ht))
    refine bodyPost_ret (results_ct rfl _ _ w.heap.size _ _ _ _ rfl HZW.out Tryd.underlying25 rfl (by kernel_rfl)) rfl ?_
    exact ⟨HI.out, hbw3⟩

theorem qinst_any (v : Bs) (w : World) (hl : v.length ≤ 9223372036854775807) :
    Calls Tryd.prog 13 #[.string (bs v)] w fun e w' => QiPost (instR v) e ∧ Below w.heap.size w w' := by
  by_cases h : (readNum v).1 ≠ 0 ∨ (readNum v).2.1 ≠ 2
  · exact qinst_head v w hl h
  · have h0 : (readNum v).1 = 0 := Classical.byContradiction fun e => h (.inl e)
    have h2 : (readNum v).2.1 = 2 := Classical.byContradiction fun e => h (.inr e)
    exact qinst_main v w hl h0 h2
end Go.Proofs.YtaecafagmncmiaaDoor
