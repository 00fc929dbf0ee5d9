/-
  The walks of package pack.
-/
import Derived.Test.YtaecafagmncmiaaDoorW2
import Derived.Test.YtaecafagmncmiaaDoorProg
namespace Go.Proofs.YtaecafagmncmiaaDoor
open Go.RowKit Pu

theorem tU8 : ElT Tryd.prog 104 5 (.int .u8 0) 1 1 := ⟨Tryd.underlying104, by kernel_rfl, rfl, by decide⟩

set_option maxHeartbeats 400000 in
theorem size_any (n : Nat) (w : World) (hn : n ≤ 9223372036854775807) :
    Calls Tryd.prog 57 #[.int .i64 n] w fun e w' => e = .returned (.int .i64 (psize n)) ∧ w = w' := by
  have hp := psize_le 8 n (by simp; omega)
  go_enter Tryd.func57, Tryd.ntmps57
  go_wp2
  go_loop [0, 3] (fun a k => ∃ m j : Nat, a = .int .i64 m ∧ k = .int .i64 j ∧ m ≤ 9223372036854775807 ∧ psize m + j = psize n) (fun a _ => (intOf a).toNat)
  case atStart => exact ⟨n, 0, rfl, rfl, hn, rfl⟩
  case round =>
    obtain ⟨m, j, rfl, rfl, hm, hj⟩ := hrel
    by_cases h0 : m = 0
    · subst h0
      have hz := psize_zero
      have hjj : j = psize n := by omega
      clear hj
      go_wp2
      go_ret
      exact ⟨rfl, rfl⟩
    · have hpos : 0 < m := by omega
      have hs := psize_pos hpos
      have H := Lib.hid hs
      have HJ := Lib.hid hj
      have hb : j < 8 := by omega
      clear hs hj
      go_wp2
      go_round
      case rel => exact ⟨m / 256, j + 1, by go_num, by go_num, by omega, by have := H.out; have := HJ.out; omega⟩
      case measure => simp [intOf]; omega

/-- the byte of a number -/
theorem byte_shift (n k : Nat) : (UInt8.ofNat (n / k)).toNat = n / k % 256 := by rw [UInt8.toNat_ofNat']

set_option maxRecDepth 100000 in
set_option maxHeartbeats 1000000 in
theorem num_0 (n : Nat) (w : World) (hn : n ≤ 9007199254740991) (hk : psize n = 0) :
    Calls Tryd.prog 59 #[.int .i64 n] w fun e w' => e = .returned (.tuple #[.string (bs (num n)), .nilIface]) ∧ Below w.heap.size w w' := by
  have hmk : ∀ w, (Instr.makeSlice 104 (.int .i64 1) (.int .i64 8)).run Tryd.prog w = .ok (.slice (some ⟨w.heap.size, 0, none⟩) 1 8) (w.alloc (.cells #[.int .u8 0, .int .u8 0, .int .u8 0, .int .u8 0, .int .u8 0, .int .u8 0, .int .u8 0, .int .u8 0] 5)) := fun _ => by kernel_rfl
  have hl : (num n).length = 1 := by rw [num_length, hk]
  have H : Hid (u8s (num n) = [.int .u8 0]) := by
    show u8s (num n) = _
    simp [num, hk, beL, u8s]
  go_enter Tryd.func59, Tryd.ntmps59
  go_wp2_with (go_at_call 57; refine (size_any n _ (by omega)).mono ?_; rintro e w' ⟨rfl, rfl⟩)
  rw [conv_cells Tryd.underlying104 Tryd.underlying5 Tryd.underlying9 (num n) hl (by
    rw [H.out]
    intro j u hu
    match j with
    | 0 => simpa [go_sem] using hu
    | j + 1 => simp at hu)]
  go_wp2
  go_ret2
  refine ⟨rfl, ?_⟩
  repeat (refine below_al ?_ _)
  exact Below.refl _ _
set_option maxRecDepth 100000 in
set_option maxHeartbeats 1000000 in
theorem num_1 (n : Nat) (w : World) (hn : n ≤ 9007199254740991) (hk : psize n = 1) :
    Calls Tryd.prog 59 #[.int .i64 n] w fun e w' => e = .returned (.tuple #[.string (bs (num n)), .nilIface]) ∧ Below w.heap.size w w' := by
  have hmk : ∀ w, (Instr.makeSlice 104 (.int .i64 1) (.int .i64 8)).run Tryd.prog w = .ok (.slice (some ⟨w.heap.size, 0, none⟩) 1 8) (w.alloc (.cells #[.int .u8 0, .int .u8 0, .int .u8 0, .int .u8 0, .int .u8 0, .int .u8 0, .int .u8 0, .int .u8 0] 5)) := fun _ => by kernel_rfl
  have hl : (num n).length = 2 := by rw [num_length, hk]
  have H : Hid (u8s (num n) = [.int .u8 1, .int .u8 ((n : Int) % 256)]) := by
    show u8s (num n) = _
    simp [num, hk, beL, u8s]
  go_enter Tryd.func59, Tryd.ntmps59
  go_wp2_with (go_at_call 57; refine (size_any n _ (by omega)).mono ?_; rintro e w' ⟨rfl, rfl⟩)
  rw [conv_cells Tryd.underlying104 Tryd.underlying5 Tryd.underlying9 (num n) hl (by
    rw [H.out]
    intro j u hu
    match j with
    | 0 => simpa [go_sem] using hu
    | 1 => simpa [go_sem] using hu
    | j + 2 => simp at hu)]
  go_wp2
  go_ret2
  refine ⟨rfl, ?_⟩
  repeat (refine below_al ?_ _)
  exact Below.refl _ _
set_option maxRecDepth 100000 in
set_option maxHeartbeats 1000000 in
theorem num_2 (n : Nat) (w : World) (hn : n ≤ 9007199254740991) (hk : psize n = 2) :
    Calls Tryd.prog 59 #[.int .i64 n] w fun e w' => e = .returned (.tuple #[.string (bs (num n)), .nilIface]) ∧ Below w.heap.size w w' := by
  have hmk : ∀ w, (Instr.makeSlice 104 (.int .i64 1) (.int .i64 8)).run Tryd.prog w = .ok (.slice (some ⟨w.heap.size, 0, none⟩) 1 8) (w.alloc (.cells #[.int .u8 0, .int .u8 0, .int .u8 0, .int .u8 0, .int .u8 0, .int .u8 0, .int .u8 0, .int .u8 0] 5)) := fun _ => by kernel_rfl
  have hl : (num n).length = 3 := by rw [num_length, hk]
  have H : Hid (u8s (num n) = [.int .u8 2, .int .u8 ((n : Int) / 256 % 256), .int .u8 ((n : Int) % 256)]) := by
    show u8s (num n) = _
    simp [num, hk, beL, u8s]
  go_enter Tryd.func59, Tryd.ntmps59
  go_wp2_with (go_at_call 57; refine (size_any n _ (by omega)).mono ?_; rintro e w' ⟨rfl, rfl⟩)
  rw [conv_cells Tryd.underlying104 Tryd.underlying5 Tryd.underlying9 (num n) hl (by
    rw [H.out]
    intro j u hu
    match j with
    | 0 => simpa [go_sem] using hu
    | 1 => simpa [go_sem] using hu
    | 2 => simpa [go_sem] using hu
    | j + 3 => simp at hu)]
  go_wp2
  go_ret2
  refine ⟨rfl, ?_⟩
  repeat (refine below_al ?_ _)
  exact Below.refl _ _
set_option maxRecDepth 100000 in
set_option maxHeartbeats 1000000 in
theorem num_3 (n : Nat) (w : World) (hn : n ≤ 9007199254740991) (hk : psize n = 3) :
    Calls Tryd.prog 59 #[.int .i64 n] w fun e w' => e = .returned (.tuple #[.string (bs (num n)), .nilIface]) ∧ Below w.heap.size w w' := by
  have hmk : ∀ w, (Instr.makeSlice 104 (.int .i64 1) (.int .i64 8)).run Tryd.prog w = .ok (.slice (some ⟨w.heap.size, 0, none⟩) 1 8) (w.alloc (.cells #[.int .u8 0, .int .u8 0, .int .u8 0, .int .u8 0, .int .u8 0, .int .u8 0, .int .u8 0, .int .u8 0] 5)) := fun _ => by kernel_rfl
  have hl : (num n).length = 4 := by rw [num_length, hk]
  have H : Hid (u8s (num n) = [.int .u8 3, .int .u8 ((n : Int) / 65536 % 256), .int .u8 ((n : Int) / 256 % 256), .int .u8 ((n : Int) % 256)]) := by
    show u8s (num n) = _
    simp [num, hk, beL, u8s, Nat.div_div_eq_div_mul]
  go_enter Tryd.func59, Tryd.ntmps59
  go_wp2_with (go_at_call 57; refine (size_any n _ (by omega)).mono ?_; rintro e w' ⟨rfl, rfl⟩)
  rw [conv_cells Tryd.underlying104 Tryd.underlying5 Tryd.underlying9 (num n) hl (by
    rw [H.out]
    intro j u hu
    match j with
    | 0 => simpa [go_sem] using hu
    | 1 => simpa [go_sem] using hu
    | 2 => simpa [go_sem] using hu
    | 3 => simpa [go_sem] using hu
    | j + 4 => simp at hu)]
  go_wp2
  go_ret2
  refine ⟨rfl, ?_⟩
  repeat (refine below_al ?_ _)
  exact Below.refl _ _
set_option maxRecDepth 100000 in
set_option maxHeartbeats 1000000 in
theorem num_4 (n : Nat) (w : World) (hn : n ≤ 9007199254740991) (hk : psize n = 4) :
    Calls Tryd.prog 59 #[.int .i64 n] w fun e w' => e = .returned (.tuple #[.string (bs (num n)), .nilIface]) ∧ Below w.heap.size w w' := by
  have hmk : ∀ w, (Instr.makeSlice 104 (.int .i64 1) (.int .i64 8)).run Tryd.prog w = .ok (.slice (some ⟨w.heap.size, 0, none⟩) 1 8) (w.alloc (.cells #[.int .u8 0, .int .u8 0, .int .u8 0, .int .u8 0, .int .u8 0, .int .u8 0, .int .u8 0, .int .u8 0] 5)) := fun _ => by kernel_rfl
  have hl : (num n).length = 5 := by rw [num_length, hk]
  have H : Hid (u8s (num n) = [.int .u8 4, .int .u8 ((n : Int) / 16777216 % 256), .int .u8 ((n : Int) / 65536 % 256), .int .u8 ((n : Int) / 256 % 256), .int .u8 ((n : Int) % 256)]) := by
    show u8s (num n) = _
    simp [num, hk, beL, u8s, Nat.div_div_eq_div_mul]
  go_enter Tryd.func59, Tryd.ntmps59
  go_wp2_with (go_at_call 57; refine (size_any n _ (by omega)).mono ?_; rintro e w' ⟨rfl, rfl⟩)
  rw [conv_cells Tryd.underlying104 Tryd.underlying5 Tryd.underlying9 (num n) hl (by
    rw [H.out]
    intro j u hu
    match j with
    | 0 => simpa [go_sem] using hu
    | 1 => simpa [go_sem] using hu
    | 2 => simpa [go_sem] using hu
    | 3 => simpa [go_sem] using hu
    | 4 => simpa [go_sem] using hu
    | j + 5 => simp at hu)]
  go_wp2
  go_ret2
  refine ⟨rfl, ?_⟩
  repeat (refine below_al ?_ _)
  exact Below.refl _ _
set_option maxRecDepth 100000 in
set_option maxHeartbeats 1000000 in
theorem num_5 (n : Nat) (w : World) (hn : n ≤ 9007199254740991) (hk : psize n = 5) :
    Calls Tryd.prog 59 #[.int .i64 n] w fun e w' => e = .returned (.tuple #[.string (bs (num n)), .nilIface]) ∧ Below w.heap.size w w' := by
  have hmk : ∀ w, (Instr.makeSlice 104 (.int .i64 1) (.int .i64 8)).run Tryd.prog w = .ok (.slice (some ⟨w.heap.size, 0, none⟩) 1 8) (w.alloc (.cells #[.int .u8 0, .int .u8 0, .int .u8 0, .int .u8 0, .int .u8 0, .int .u8 0, .int .u8 0, .int .u8 0] 5)) := fun _ => by kernel_rfl
  have hl : (num n).length = 6 := by rw [num_length, hk]
  have H : Hid (u8s (num n) = [.int .u8 5, .int .u8 ((n : Int) / 4294967296 % 256), .int .u8 ((n : Int) / 16777216 % 256), .int .u8 ((n : Int) / 65536 % 256), .int .u8 ((n : Int) / 256 % 256), .int .u8 ((n : Int) % 256)]) := by
    show u8s (num n) = _
    simp [num, hk, beL, u8s, Nat.div_div_eq_div_mul]
  go_enter Tryd.func59, Tryd.ntmps59
  go_wp2_with (go_at_call 57; refine (size_any n _ (by omega)).mono ?_; rintro e w' ⟨rfl, rfl⟩)
  rw [conv_cells Tryd.underlying104 Tryd.underlying5 Tryd.underlying9 (num n) hl (by
    rw [H.out]
    intro j u hu
    match j with
    | 0 => simpa [go_sem] using hu
    | 1 => simpa [go_sem] using hu
    | 2 => simpa [go_sem] using hu
    | 3 => simpa [go_sem] using hu
    | 4 => simpa [go_sem] using hu
    | 5 => simpa [go_sem] using hu
    | j + 6 => simp at hu)]
  go_wp2
  go_ret2
  refine ⟨rfl, ?_⟩
  repeat (refine below_al ?_ _)
  exact Below.refl _ _
set_option maxRecDepth 100000 in
set_option maxHeartbeats 1000000 in
theorem num_6 (n : Nat) (w : World) (hn : n ≤ 9007199254740991) (hk : psize n = 6) :
    Calls Tryd.prog 59 #[.int .i64 n] w fun e w' => e = .returned (.tuple #[.string (bs (num n)), .nilIface]) ∧ Below w.heap.size w w' := by
  have hmk : ∀ w, (Instr.makeSlice 104 (.int .i64 1) (.int .i64 8)).run Tryd.prog w = .ok (.slice (some ⟨w.heap.size, 0, none⟩) 1 8) (w.alloc (.cells #[.int .u8 0, .int .u8 0, .int .u8 0, .int .u8 0, .int .u8 0, .int .u8 0, .int .u8 0, .int .u8 0] 5)) := fun _ => by kernel_rfl
  have hl : (num n).length = 7 := by rw [num_length, hk]
  have H : Hid (u8s (num n) = [.int .u8 6, .int .u8 ((n : Int) / 1099511627776 % 256), .int .u8 ((n : Int) / 4294967296 % 256), .int .u8 ((n : Int) / 16777216 % 256), .int .u8 ((n : Int) / 65536 % 256), .int .u8 ((n : Int) / 256 % 256), .int .u8 ((n : Int) % 256)]) := by
    show u8s (num n) = _
    simp [num, hk, beL, u8s, Nat.div_div_eq_div_mul]
  go_enter Tryd.func59, Tryd.ntmps59
  go_wp2_with (go_at_call 57; refine (size_any n _ (by omega)).mono ?_; rintro e w' ⟨rfl, rfl⟩)
  rw [conv_cells Tryd.underlying104 Tryd.underlying5 Tryd.underlying9 (num n) hl (by
    rw [H.out]
    intro j u hu
    match j with
    | 0 => simpa [go_sem] using hu
    | 1 => simpa [go_sem] using hu
    | 2 => simpa [go_sem] using hu
    | 3 => simpa [go_sem] using hu
    | 4 => simpa [go_sem] using hu
    | 5 => simpa [go_sem] using hu
    | 6 => simpa [go_sem] using hu
    | j + 7 => simp at hu)]
  go_wp2
  go_ret2
  refine ⟨rfl, ?_⟩
  repeat (refine below_al ?_ _)
  exact Below.refl _ _
set_option maxRecDepth 100000 in
set_option maxHeartbeats 1000000 in
theorem num_7 (n : Nat) (w : World) (hn : n ≤ 9007199254740991) (hk : psize n = 7) :
    Calls Tryd.prog 59 #[.int .i64 n] w fun e w' => e = .returned (.tuple #[.string (bs (num n)), .nilIface]) ∧ Below w.heap.size w w' := by
  have hmk : ∀ w, (Instr.makeSlice 104 (.int .i64 1) (.int .i64 8)).run Tryd.prog w = .ok (.slice (some ⟨w.heap.size, 0, none⟩) 1 8) (w.alloc (.cells #[.int .u8 0, .int .u8 0, .int .u8 0, .int .u8 0, .int .u8 0, .int .u8 0, .int .u8 0, .int .u8 0] 5)) := fun _ => by kernel_rfl
  have hl : (num n).length = 8 := by rw [num_length, hk]
  have H : Hid (u8s (num n) = [.int .u8 7, .int .u8 ((n : Int) / 281474976710656), .int .u8 ((n : Int) / 1099511627776 % 256), .int .u8 ((n : Int) / 4294967296 % 256), .int .u8 ((n : Int) / 16777216 % 256), .int .u8 ((n : Int) / 65536 % 256), .int .u8 ((n : Int) / 256 % 256), .int .u8 ((n : Int) % 256)]) := by
    show u8s (num n) = _
    simp [num, hk, beL, u8s, Nat.div_div_eq_div_mul]
    omega
  go_enter Tryd.func59, Tryd.ntmps59
  go_wp2_with (go_at_call 57; refine (size_any n _ (by omega)).mono ?_; rintro e w' ⟨rfl, rfl⟩)
  rw [conv_cells Tryd.underlying104 Tryd.underlying5 Tryd.underlying9 (num n) hl (by
    rw [H.out]
    intro j u hu
    match j with
    | 0 => simpa [go_sem] using hu
    | 1 => simpa [go_sem] using hu
    | 2 => simpa [go_sem] using hu
    | 3 => simpa [go_sem] using hu
    | 4 => simpa [go_sem] using hu
    | 5 => simpa [go_sem] using hu
    | 6 => simpa [go_sem] using hu
    | 7 => simpa [go_sem] using hu
    | j + 8 => simp at hu)]
  go_wp2
  go_ret2
  refine ⟨rfl, ?_⟩
  repeat (refine below_al ?_ _)
  exact Below.refl _ _
theorem num_any (n : Nat) (w : World) (hn : n ≤ maxN) :
    Calls Tryd.prog 59 #[.int .i64 n] w fun e w' => e = .returned (.tuple #[.string (bs (num n)), .nilIface]) ∧ Below w.heap.size w w' := by
  have h7 := psize_le7 hn
  unfold maxN at hn
  rcases (by omega : psize n = 0 ∨ psize n = 1 ∨ psize n = 2 ∨ psize n = 3 ∨ psize n = 4 ∨ psize n = 5 ∨ psize n = 6 ∨ psize n = 7) with h | h | h | h | h | h | h | h
  · exact num_0 n w hn h
  · exact num_1 n w hn h
  · exact num_2 n w hn h
  · exact num_3 n w hn h
  · exact num_4 n w hn h
  · exact num_5 n w hn h
  · exact num_6 n w hn h
  · exact num_7 n w hn h
set_option maxRecDepth 100000 in
set_option maxHeartbeats 1000000 in
theorem num_no (n : Int) (w : World) (hn : n < 0 ∨ 9007199254740991 < n) :
    Calls Tryd.prog 59 #[.int .i64 n] w fun e w' => e = .returned (.tuple #[.string (bs []), .iface 68 (.int .i64 1)]) ∧ w = w' := by
  rcases hn with hn | hn
  all_goals
    go_enter Tryd.func59, Tryd.ntmps59
    go_wp2
    go_ret2
    exact ⟨rfl, rfl⟩
end Go.Proofs.YtaecafagmncmiaaDoor
