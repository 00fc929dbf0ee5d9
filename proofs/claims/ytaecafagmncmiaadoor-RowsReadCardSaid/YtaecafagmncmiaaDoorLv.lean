/-
  A list of parts opened; its weight.
-/
import Derived.Test.YtaecafagmncmiaaDoorLw
namespace Go.Proofs.YtaecafagmncmiaaDoor
open Go.RowKit Go.ChangeShapes Go.WideShapes Go.ChangeAt Go.Deep Go.Joins Pu

theorem parts_fit {H : Type} {ts : List TypeId} {ds : List (DataW H)} (h : (DataW.weightsEach Tryd.prog ts ds).all (· ≤ reachBytes) = true) (j : Nat) {d : DataW H} {n : Nat} (ht : ts[j]? = some 22) (hd : ds[j]? = some d)
    (hw : n = 0 ∨ ∃ el sp, d = .slice el sp ∧ el.length = n) : (1 + n) * 32 ≤ 140737488355328 := by
  rcases hw with rfl | ⟨el, sp, rfl, hn⟩
  · omega
  · have hC : Tryd.prog.bytesOf 54 = 32 := by kernel_rfl
    have := sized_slice h ht hd Tryd.underlying22
    rw [hC] at this
    unfold reachBytes at this
    omega

section
variable {H : Type} {enc : TypeId × Value → H} {w : World} {base : Nat} {spare : Nat → Bool} {held : Bool}
set_option maxRecDepth 100000 in
/-- an element of a list of parts -/
theorem part_at {a : Addr} {i n : Nat} {cs : List Value} {D : DataW H} {Pl : List MemPlace} (hc : w.cells? base (a.add (i * 3)) 3 = some cs) (ht : DataW.trod enc Tryd.prog w base spare held n 54 cs = some (D, Pl)) :
    ∃ c : Part, w.cell? ((a.add (i * 3)).add 0) = some (.bool c.text) ∧ w.cell? ((a.add (i * 3)).add 1) = some (.int .i64 c.n) ∧ w.cell? ((a.add (i * 3)).add 2) = some (.string (bs c.s)) := by
  obtain ⟨xs, n', _, _, _, hlen, hg⟩ := DataW.trod_struct Tryd.underlying54 ht
  obtain ⟨_, hcl, hat⟩ := World.cells?_some hc
  have hone : oneCellFields Tryd.prog (Tryd.prog.fieldsOf 54) = true := by kernel_rfl
  simp only [Program.fieldsOf, Tryd.underlying54] at hone
  obtain ⟨o0, k0⟩ := hone_of hone 0 _ rfl
  obtain ⟨o1, k1⟩ := hone_of hone 1 _ rfl
  obtain ⟨o2, k2⟩ := hone_of hone 2 _ rfl
  match cs, hcl with
  | [u0, u1, u2], _ =>
    match xs, hlen with
    | [y0, y1, y2], _ =>
      have g0 := hg 0 _ rfl
      have g1 := hg 1 _ rfl
      have g2 := hg 2 _ rfl
      simp only [o0, k0] at g0
      simp only [o1, k1] at g1
      simp only [o2, k2] at g2
      obtain ⟨b0, e0, _⟩ := DataW.trod_bool Tryd.underlying4 g0
      obtain ⟨n1, e1, _, _⟩ := DataW.trod_int Tryd.underlying3 g1
      obtain ⟨s2, e2, _, z2⟩ := DataW.trod_string Tryd.underlying9 g2
      simp at e0 e1 e2
      subst e0 e1 e2
      have h0 := hat 0 (by decide)
      have h1 := hat 1 (by decide)
      have h2 := hat 2 (by decide)
      refine ⟨⟨b0, n1, s2.toList⟩, ?_, ?_, ?_⟩
      · rw [h0]; simp
      · rw [h1]; simp
      · rw [h2]; simp [← eq_bs]
theorem rd_of_pcells {w : World} {a : Addr} {l : List Part} (hm : l.length ≤ maxLen) (h : ∀ i c, l[i]? = some c → w.cell? ((a.add (i * 3)).add 0) = some (.bool c.text) ∧ w.cell? ((a.add (i * 3)).add 1) = some (.int .i64 c.n) ∧ w.cell? ((a.add (i * 3)).add 2) = some (.string (bs c.s))) :
    Rd w 3 (some a) l.length (l.flatMap parC) := by
  refine ⟨flat_len parC 3 parC_len l, hm, fun h0 => ?_⟩
  obtain ⟨x, hx⟩ : ∃ x, l[0]? = some x := ⟨_, List.getElem?_eq_getElem h0⟩
  have hs := World.cell?_spot (h 0 x hx).1
  have hb := World.block_lt_of_cell? w _ (h 0 x hx).1
  simp only [Nat.zero_mul, Addr.add, if_true] at hs hb
  obtain ⟨b, off, sp⟩ := a
  simp only at hs hb
  subst hs
  refine ⟨b, off, rfl, hb, fun j u hu => ?_⟩
  have hj : j < l.length * 3 := by rw [← flat_len parC 3 parC_len l]; exact (List.getElem?_eq_some_iff.1 hu).1
  obtain ⟨c, hc⟩ : ∃ c, l[j / 3]? = some c := ⟨_, List.getElem?_eq_getElem (by omega)⟩
  have hjj : j = j / 3 * 3 + j % 3 := by omega
  have hmod : j % 3 < 3 := Nat.mod_lt _ (by omega)
  have hf := flat_at parC 3 parC_len l (j / 3) c hc (j % 3) hmod
  rw [← hjj, hu] at hf
  obtain ⟨q0, q1, q2⟩ := h (j / 3) c hc
  simp only [addr_add] at q0 q1 q2
  have hr : j % 3 = 0 ∨ j % 3 = 1 ∨ j % 3 = 2 := by omega
  rcases hr with hr | hr | hr
  · rw [hr] at hf hjj
    have : u = .bool c.text := by simpa [parC] using hf
    rw [this, hjj, ← Nat.add_assoc]; exact q0
  · rw [hr] at hf hjj
    have : u = .int .i64 c.n := by simpa [parC] using hf
    rw [this, hjj, ← Nat.add_assoc]; exact q1
  · rw [hr] at hf hjj
    have : u = .string (bs c.s) := by simpa [parC] using hf
    rw [this, hjj, ← Nat.add_assoc]; exact q2
set_option maxRecDepth 100000 in
/-- a list of parts -/
theorem open_parts {r : Reach} {b0 : Nat} {v : Value} {d : DataW H} {p : List MemPlace} (hv : Value.okWide Tryd.prog w r b0 22 v) (h : DataW.Trod enc Tryd.prog w base (fun _ => true) held 22 v d p) :
    ∃ (A : Option Addr) (c : Nat) (l : List Part), v = .slice A l.length c ∧ l.length ≤ c ∧ c ≤ maxLen ∧ Rd w 3 A l.length (l.flatMap parC) ∧ (l.length = 0 ∨ ∃ el sp, d = .slice el sp ∧ el.length = l.length) := by
  obtain ⟨A, n, c, rfl⟩ := okWide_slice Tryd.underlying22 hv
  obtain ⟨fuel, hf⟩ := h
  have hC : Tryd.prog.cellsOf 54 = 3 := by kernel_rfl
  rcases open_slice Tryd.underlying22 hf with ⟨hcs, _⟩ | ⟨a, len, cap, m, n', D, Pl, hcs, _, hl, hm, hmm, hD, hi⟩
  · simp [Value.cells] at hcs
    obtain ⟨rfl, rfl, rfl⟩ := hcs
    exact ⟨none, 0, [], rfl, Nat.le_refl _, by simp [maxLen], Rd.nil _ _ _, .inl rfl⟩
  · simp [Value.cells] at hcs
    obtain ⟨rfl, rfl, rfl⟩ := hcs
    rw [if_pos rfl] at hmm
    subst hmm
    have hel : ∀ i, i < m → ∃ x : Part, w.cell? ((a.add (i * 3)).add 0) = some (.bool x.text) ∧ w.cell? ((a.add (i * 3)).add 1) = some (.int .i64 x.n) ∧ w.cell? ((a.add (i * 3)).add 2) = some (.string (bs x.s)) := fun i him => by
      obtain ⟨cs', hcc, htt⟩ := hi i him
      rw [hC] at hcc
      exact part_at hcc htt
    have hex : ∃ l : List Part, l.length = n ∧ ∀ i x, l[i]? = some x → w.cell? ((a.add (i * 3)).add 0) = some (.bool x.text) ∧ w.cell? ((a.add (i * 3)).add 1) = some (.int .i64 x.n) ∧ w.cell? ((a.add (i * 3)).add 2) = some (.string (bs x.s)) := by
      refine ⟨(List.range n).map fun i => if h : i < m then Classical.choose (hel i h) else ⟨false, 0, []⟩, by simp, fun i x hx => ?_⟩
      rw [List.getElem?_map] at hx
      by_cases hin : i < n
      · rw [List.getElem?_range hin] at hx
        have him : i < m := by omega
        simp only [Option.map_some, Option.some.injEq, dif_pos him] at hx
        rw [← hx]
        exact Classical.choose_spec (hel i him)
      · rw [List.getElem?_eq_none (by simpa using Nat.le_of_not_lt hin)] at hx
        cases hx
    obtain ⟨l, rfl, hlx⟩ := hex
    refine ⟨some a, m, l, rfl, hl, hm, rd_of_pcells (by omega) hlx, .inr ⟨_, _, (Prod.mk.inj hD).1, by simp⟩⟩
end
end Go.Proofs.YtaecafagmncmiaaDoor
