/-
  The walks of is, changes.
-/
import Derived.Laws.StructEq
import Derived.Test.YtaecafagmncmiaaDoorRn
import Derived.Test.YtaecafagmncmiaaDoorDi
import Derived.Test.YtaecafagmncmiaaDoorRi
import Derived.Test.YtaecafagmncmiaaDoorFi
import Derived.Test.YtaecafagmncmiaaDoorPl
namespace Go.Proofs.YtaecafagmncmiaaDoor
open Go.RowKit Pu

/-- two rows -/
theorem eqC (a b : Chg) (w : World) : (Op.equalIn 10000 49 (.agg #[.string (bs a.key), .bool a.drop, .string (bs a.value)]) (.agg #[.string (bs b.key), .bool b.drop, .string (bs b.value)])).run Tryd.prog w = .ok (decide (a = b)) w := by
  have u4 := Tryd.underlying4
  have u9 := Tryd.underlying9
  have a4 := Tryd.isAgg4
  have a9 := Tryd.isAgg9
  have z4 := Tryd.sizeOf4
  have z9 := Tryd.sizeOf9
  have hS : Tryd.prog.underlying 49 = some (.struct (Tryd.prog.fieldsOf 49)) := by kernel_rfl
  have hp : Tryd.prog.stoodInHeld 49 = false := by kernel_rfl
  rw [show (10000 : Nat) = 9999 + 1 from rfl, run_equalIn_agg w 9999 49 _ _ hS hp]
  simp only [Program.fieldsOf, Tryd.underlying49]
  go_simp
  obtain ⟨k, d, v⟩ := a
  obtain ⟨k', d', v'⟩ := b
  by_cases h1 : k = k' <;> by_cases h2 : d = d' <;> by_cases h3 : v = v' <;> simp [h1, h2, h3]
theorem eqI (a b : Inst) (w : World) : (Op.equalIn 10000 25 (.agg #[.string (bs a.id), .string (bs a.dfn), .int .i64 a.status, .int .i64 a.at_, .int .i64 a.tries, .int .i64 a.due, .bool a.out]) (.agg #[.string (bs b.id), .string (bs b.dfn), .int .i64 b.status, .int .i64 b.at_, .int .i64 b.tries, .int .i64 b.due, .bool b.out])).run Tryd.prog w = .ok (decide (a = b)) w := by
  have u4 := Tryd.underlying4
  have u9 := Tryd.underlying9
  have u3 := Tryd.underlying3
  have a4 := Tryd.isAgg4
  have a9 := Tryd.isAgg9
  have a3 := Tryd.isAgg3
  have z4 := Tryd.sizeOf4
  have z9 := Tryd.sizeOf9
  have z3 := Tryd.sizeOf3
  have hS : Tryd.prog.underlying 25 = some (.struct (Tryd.prog.fieldsOf 25)) := by kernel_rfl
  have hp : Tryd.prog.stoodInHeld 25 = false := by kernel_rfl
  rw [show (10000 : Nat) = 9999 + 1 from rfl, run_equalIn_agg w 9999 25 _ _ hS hp]
  simp only [Program.fieldsOf, Tryd.underlying25]
  go_simp
  obtain ⟨k1, k2, k3, k4, k5, k6, k7⟩ := a
  obtain ⟨l1, l2, l3, l4, l5, l6, l7⟩ := b
  simp only [Inst.mk.injEq]
  by_cases h1 : k1 = l1
  · by_cases h2 : k2 = l2
    · by_cases h3 : k3 = l3
      · by_cases h4 : k4 = l4
        · by_cases h5 : k5 = l5
          · by_cases h6 : k6 = l6
            · by_cases h7 : k7 = l7 <;> simp [h1, h2, h3, h4, h5, h6, h7]
            · simp [h1, h2, h3, h4, h5, h6]
          · simp [h1, h2, h3, h4, h5]
        · simp [h1, h2, h3, h4]
      · simp [h1, h2, h3]
    · simp [h1, h2]
  · simp [h1]

theorem as_yes (v : Value) (w : World) : (Instr.typeAssert (.iface 68 v) 27 68 true).run Tryd.prog w = .ok (.tuple #[v, .bool true]) w := by kernel_rfl
theorem as_nil (w : World) : (Instr.typeAssert .nilIface 27 68 true).run Tryd.prog w = .ok (.tuple #[.int .i64 0, .bool false]) w := by kernel_rfl
set_option maxRecDepth 100000 in
set_option maxHeartbeats 1000000 in
theorem is_any (k : Nat) (code : Int) (w : World) : Calls Tryd.prog 18 #[errv k, .int .i64 code] w fun e w' => e = .returned (.bool (decide ((k : Int) = code))) ∧ w = w' := by
  by_cases hk : k = 0
  · subst hk
    have e0 : errv 0 = .nilIface := rfl
    rw [e0]
    by_cases hc : code = 0
    · subst hc
      go_enter Tryd.func18, Tryd.ntmps18
      go_wp2
      go_ret
      exact ⟨rfl, rfl⟩
    · have hd : Hid (decide (((0 : Nat) : Int) = code) = false) := by
        unfold Hid; simp only [decide_eq_false_iff_not]; omega
      have hc2 : (code == 0) = false := by simpa using hc
      have hta := as_nil
      clear hc
      go_enter Tryd.func18, Tryd.ntmps18
      go_wp2
      go_ret
      exact ⟨by rw [hd.out]; rfl, rfl⟩
  · rw [errv_pos hk]
    by_cases hc : code = 0
    · subst hc
      have hd : Hid (decide ((k : Int) = 0) = false) := by
        unfold Hid; simp only [decide_eq_false_iff_not]; omega
      clear hk
      go_enter Tryd.func18, Tryd.ntmps18
      go_wp2
      go_ret
      exact ⟨by rw [hd.out]; rfl, rfl⟩
    · have hc2 : (code == 0) = false := by simpa using hc
      obtain ⟨b, hb⟩ : ∃ b, b = decide ((k : Int) = code) := ⟨_, rfl⟩
      rw [← hb]
      have hb2 : ((k : Int) == code) = b := by rw [hb]; rfl
      have hta := as_yes
      clear hc hk hb
      go_enter Tryd.func18, Tryd.ntmps18
      go_wp2
      go_ret
      exact ⟨rfl, rfl⟩

theorem eq_take_succ {a b : List Chg} {j : Nat} {x y : Chg} (hx : a[j]? = some x) (hy : b[j]? = some y) (h : a.take j = b.take j) (e : x = y) : a.take (j + 1) = b.take (j + 1) := by
  rw [List.take_add_one, List.take_add_one, hx, hy, h, e]
set_option maxRecDepth 100000 in
set_option maxHeartbeats 1000000 in
theorem changes_any (A1 A2 : Option Addr) (c1 c2 : Nat) (a b : List Chg) (w : World) (hr1 : Rd w 3 A1 a.length (a.flatMap chgC)) (hr2 : Rd w 3 A2 b.length (b.flatMap chgC)) :
    Calls Tryd.prog 21 #[.slice A1 a.length c1, .slice A2 b.length c2] w fun e w' => e = .returned (.bool (decide (a = b))) ∧ Below w.heap.size w w' := by
  have hmx := hr1.max
  have hg : ∀ (op : BinOp) (x y : Operand) (xs ys : Array Value) (w : World), (eqGuard op 49 x y (.agg xs) (.agg ys)).run Tryd.prog w = .ok () w := fun op x y xs ys w => run_eqGuard_agg w op 49 x y xs ys (by kernel_rfl)
  by_cases hl : a.length = b.length
  · have HR1 := Lib.hid hr1
    have HR2 := Lib.hid hr2
    have hl1 : ((a.length : Int) != (b.length : Int)) = false := by rw [hl]; simp
    have hl2 : ((a.length : Int) == (b.length : Int)) = true := by rw [hl]; simp
    have HL := Lib.hid hl
    clear hr1 hr2 hl
    go_enter Tryd.func21, Tryd.ntmps21
    go_wp2
    go_loopw [5] (fun i wr => ∃ j : Nat, j ≤ a.length ∧ i = .int .i64 j ∧ a.take j = b.take j ∧ Below w.heap.size w wr) (fun i _ => a.length - (intOf i).toNat)
    case atStart => exact ⟨0, Nat.zero_le _, rfl, by simp, Below.refl _ _⟩
    case round =>
      obtain ⟨j, hj, rfl, htk, hbr⟩ := hrel
      have HTK := Lib.hid htk
      clear htk
      by_cases hlt : j < a.length
      · obtain ⟨x, hx⟩ : ∃ x, a[j]? = some x := ⟨_, List.getElem?_eq_getElem hlt⟩
        obtain ⟨y, hy⟩ : ∃ x, b[j]? = some x := ⟨_, List.getElem?_eq_getElem (by have := HL.out; omega)⟩
        obtain ⟨g1, off1, rfl, hb1, hc0, hc1, hc2⟩ := (HR1.out.below hbr).three chgC chgC_len hx (u0 := .string (bs x.key)) (u1 := .bool x.drop) (u2 := .string (bs x.value)) rfl
        obtain ⟨g2, off2, rfl, hb2, hd0, hd1, hd2⟩ := (HR2.out.below hbr).three chgC chgC_len hy (u0 := .string (bs y.key)) (u1 := .bool y.drop) (u2 := .string (bs y.value)) rfl
        have heq := eqC x y
        have hlt2 : j < b.length := by have := HL.out; omega
        by_cases hxy : x = y
        · have hd : decide (x = y) = true := by simpa using hxy
          rw [hd] at heq
          have HN := Lib.hid (eq_take_succ hx hy HTK.out hxy)
          clear hd hxy hx hy
          go_wp2_with fail
          go_quiet (fail)
          go_wp2
          go_roundw
          case rel => exact ⟨j + 1, by omega, by go_num, HN.out, below_n hbr _⟩
          case measure => simp [intOf]; omega
        · have hd : decide (x = y) = false := by simpa using hxy
          rw [hd] at heq
          have HF : Hid (decide (a = b) = false) := by
            unfold Hid
            rw [decide_eq_false_iff_not]
            intro e; rw [e] at hx; rw [hx] at hy; exact hxy (Option.some.inj hy)
          clear hd hxy hx hy
          go_wp2_with fail
          go_quiet (fail)
          go_wp2
          go_ret
          exact ⟨by rw [HF.out]; rfl, below_n hbr _⟩
      · obtain rfl : j = a.length := by omega
        have HF : Hid (decide (a = b) = true) := by
          unfold Hid
          rw [decide_eq_true_eq]
          have := HTK.out
          rw [List.take_length, HL.out, List.take_length] at this
          exact this
        go_wp2
        go_ret
        exact ⟨by rw [HF.out]; rfl, hbr⟩
  · have hl1 : ((a.length : Int) != (b.length : Int)) = true := by simp; omega
    have hl2 : ((a.length : Int) == (b.length : Int)) = false := by simp; omega
    have HF : Hid (decide (a = b) = false) := by
      unfold Hid
      rw [decide_eq_false_iff_not]
      intro e; exact hl (by rw [e])
    clear hl
    go_enter Tryd.func21, Tryd.ntmps21
    go_wp2
    go_ret
    exact ⟨by rw [HF.out]; rfl, Below.refl _ _⟩
end Go.Proofs.YtaecafagmncmiaaDoor
