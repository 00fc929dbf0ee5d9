/-
  What a law's row asks besides its walk: the arguments opened, the end.
-/
import Derived.Test.YtaecafagmncmiaaDoorRn
import Derived.Test.YtaecafagmncmiaaDoorDi
import Derived.ProofKit
import Derived.OpenShut
import Derived.Deep.DeepHandedRow
import Derived.Deep.Slices
import Derived.Deep.Fields
import Derived.Lib.SmallJoins
import Derived.ChangeSame
import Derived.SizedLaws
import Derived.Carry
import Derived.Shelf.Vars
namespace Go.Proofs.YtaecafagmncmiaaDoor
open Go.RowKit Go.ChangeShapes Go.WideShapes Go.ChangeAt Go.Deep Go.Joins Pu

theorem lawOwn : ownKnob Tryd.prog.godebug = none := by kernel_rfl
theorem lawLaid : laidOutB Tryd.prog = true := by kernel_rfl
theorem nglob : 0 < Tryd.prog.globals.size := by
  have e : Tryd.prog.globals.size = 3 := by kernel_rfl
  omega
theorem glob_of {W : World} (h : W.ShapedOpen Tryd.prog) : Glob W :=
  cell_of_shapedOpen_int (t := 3) (zero := #[.int .i64 0]) h nglob (by kernel_rfl) rfl (by kernel_rfl) (by kernel_rfl) Tryd.underlying3

section
variable {H : Type} {enc : TypeId × Value → H} {P : Program}
/-- the arguments read as they did -/
theorem trodAll_stays (hl : laidOutB P = true) {W W' : World} (hb : Below W.heap.size W W') : ∀ {ts : List TypeId} {vs : List Value} {ds : List (DataW H)} {ps : List MemPlace}, (∀ t ∈ ts, P.readableRec t = true ∧ t < P.types.size) →
    DataW.TrodAll enc P W 0 (fun _ => true) true ts vs ds ps → (∀ x ∈ ps, x.block < W.heap.size) → ∀ {sp : Nat → Bool}, (∀ x ∈ ps, sp x.block = true) → DataW.TrodAll enc P W' 0 sp true ts vs ds ps
  | [], [], [], _, _, h, _, _, _ => h
  | t :: ts, v :: vs, d :: ds, _, hT, ⟨p, q, h1, h2, e⟩, hlt, sp, hs => by
    subst e
    exact ⟨p, q, WideElems.Trod_stays hl (hT t (by simp)).1 (hT t (by simp)).2 h1 (fun x hx => hb.same (hlt x (List.mem_append_left _ hx))) (fun x hx => hs x (List.mem_append_left _ hx)),
      trodAll_stays hl hb (fun u hu => hT u (by simp [hu])) h2 (fun x hx => hlt x (List.mem_append_right _ hx)) (fun x hx => hs x (List.mem_append_right _ hx)), rfl⟩
  | [], [], _ :: _, _, _, h, _, _, _ => h.elim
  | [], _ :: _, _, _, _, h, _, _, _ => h.elim
  | _ :: _, [], _, _, _, h, _, _, _ => h.elim
  | _ :: _, _ :: _, [], _, _, h, _, _, _ => h.elim

/-- the law's end: it has returned true, and nothing that was there has turned -/
theorem law_post {f : Func} {s : ChangeSpec} {W W' : World} {args : Array Value} {ds gs : List (DataW H)} {before : List MemPlace} {tb : TypeId} (hl : laidOutB P = true) (hvars : s.vars = [])
    (hts : ∀ t ∈ f.params.toList, P.readableRec t = true ∧ t < P.types.size) (hrt : f.resultTypes = #[tb]) (hbt : P.underlying tb = some .bool)
    (hW : DataW.Whole enc P f.params.toList s.vars false W args.toList ds gs before)
    (hres : (s.fn H (ds ++ gs)).results = [.lit (.bool true)]) (hargs : (s.fn H (ds ++ gs)).args = ds) (hsv : (s.fn H (ds ++ gs)).vars = []) (hb : Below W.heap.size W W') :
    s.post enc P f false true false false W args (.bool true) W' := by
  have hW' := hW
  obtain ⟨p, q, hA, hV, hbef, hfz, hnd⟩ := hW
  rw [hvars] at hV
  obtain ⟨rfl, rfl⟩ := trodVars_none hV
  have hlt : ∀ x ∈ before, x.block < W.heap.size := fun x hx => hW'.lt x hx
  have hold : ∀ x ∈ before, (fun b => decide (b < W.heap.size)) x.block = true := fun x hx => by simpa using hlt x hx
  have hpb : before = p := by rw [hbef, List.append_nil]
  have hst : ∀ sp : Nat → Bool, (∀ x ∈ before, sp x.block = true) → DataW.TrodAll enc P W' 0 sp true f.params.toList args.toList (s.fn H (ds ++ [])).args p := fun sp hs => by
    rw [hargs]
    exact trodAll_stays hl hb hts hA (fun x hx => hlt x (by rw [hpb]; exact hx)) (fun x hx => hs x (by rw [hpb]; exact hx))
  have hr1 : ∀ (b : Nat) (sp : Nat → Bool) (hd : Bool), DataW.TrodAll enc P W' b sp hd f.resultTypes.toList ((Value.bool true).resultList f.resultTypes.size) (s.fn H (ds ++ [])).results [] := fun b sp hd => by
    rw [hres, hrt]
    exact trodAll_cons_mk (shut_bool hbt _) trodAll_mk0
  have hv1 : ∀ sp : Nat → Bool, DataW.TrodVars enc P W' sp s.vars (s.fn H (ds ++ [])).vars [] := fun sp => by rw [hvars, hsv]; rfl
  refine ⟨ds, [], before, [], p, [], hW', hr1 _ _ _, hst _ hold, hv1 _, World.keptBut_mono (fun x hx => ⟨hx, ?_⟩) (hb.frame (· ∈ before)), fun _ => ?_⟩
  · rw [hpb] at hx; right; simpa using hx
  · refine ⟨ok_one hrt rfl (okWide_bool_mk hbt _), _, _, ([] ++ p) ++ [], ⟨[] ++ p, [], trodAll_append (hst _ (fun _ _ => rfl)) (hr1 _ _ _), hv1 _, rfl, ?_, fun h => by cases h⟩, ?_⟩
    · intro b off hp
      have hin : MemPlace.cell b off ∈ before := by rw [hpb]; simpa using hp
      rw [hb.frozen (hlt _ hin)]
      exact hfz b off hin
    · intro x hx _
      rw [hpb]
      simpa using hx
end

section
variable {H : Type} {enc : TypeId × Value → H} {w : World} {base : Nat} {spare : Nat → Bool} {held : Bool}
set_option maxRecDepth 100000 in
/-- an instance by value -/
theorem open_inst {r : Reach} {b0 : Nat} {v : Value} {d : DataW H} {p : List MemPlace} (hv : Value.okWide Tryd.prog w r b0 25 v) (h : DataW.Trod enc Tryd.prog w base spare held 25 v d p) :
    ∃ x : Inst, v = instV x ∧ x.id.length ≤ 9223372036854775807 ∧ x.dfn.length ≤ 9223372036854775807 := by
  obtain ⟨cs, rfl, hsz⟩ := okWide_struct Tryd.underlying25 hv
  obtain ⟨l⟩ := cs
  have hC : Tryd.prog.cellsOf 25 = 7 := by kernel_rfl
  match l, hsz.trans hC with
  | [c0, c1, c2, c3, c4, c5, c6], _ =>
    obtain ⟨fuel, hf⟩ := h
    obtain ⟨xs, n, _, hx, _, hlen, hg⟩ := DataW.trod_struct Tryd.underlying25 hf
    have hone : oneCellFields Tryd.prog (Tryd.prog.fieldsOf 25) = true := by kernel_rfl
    simp only [Program.fieldsOf, Tryd.underlying25] at hone
    obtain ⟨o0, k0⟩ := hone_of hone 0 _ rfl
    obtain ⟨o1, k1⟩ := hone_of hone 1 _ rfl
    obtain ⟨o2, k2⟩ := hone_of hone 2 _ rfl
    obtain ⟨o3, k3⟩ := hone_of hone 3 _ rfl
    obtain ⟨o4, k4⟩ := hone_of hone 4 _ rfl
    obtain ⟨o5, k5⟩ := hone_of hone 5 _ rfl
    obtain ⟨o6, k6⟩ := hone_of hone 6 _ rfl
    match xs, hlen with
    | [y0, y1, y2, y3, y4, y5, y6], _ =>
      have g0 := hg 0 _ rfl
      have g1 := hg 1 _ rfl
      have g2 := hg 2 _ rfl
      have g3 := hg 3 _ rfl
      have g4 := hg 4 _ rfl
      have g5 := hg 5 _ rfl
      have g6 := hg 6 _ rfl
      simp only [Value.cells, o0, k0] at g0
      simp only [Value.cells, o1, k1] at g1
      simp only [Value.cells, o2, k2] at g2
      simp only [Value.cells, o3, k3] at g3
      simp only [Value.cells, o4, k4] at g4
      simp only [Value.cells, o5, k5] at g5
      simp only [Value.cells, o6, k6] at g6
      obtain ⟨s0, e0, _, z0⟩ := DataW.trod_string Tryd.underlying9 g0
      obtain ⟨s1, e1, _, z1⟩ := DataW.trod_string Tryd.underlying9 g1
      obtain ⟨n2, e2, _, _⟩ := DataW.trod_int Tryd.underlying3 g2
      obtain ⟨n3, e3, _, _⟩ := DataW.trod_int Tryd.underlying3 g3
      obtain ⟨n4, e4, _, _⟩ := DataW.trod_int Tryd.underlying3 g4
      obtain ⟨n5, e5, _, _⟩ := DataW.trod_int Tryd.underlying3 g5
      obtain ⟨b6, e6, _⟩ := DataW.trod_bool Tryd.underlying4 g6
      simp at e0 e1 e2 e3 e4 e5 e6
      subst e0 e1 e2 e3 e4 e5 e6
      unfold maxLen at z0 z1
      refine ⟨⟨s0.toList, s1.toList, n2, n3, n4, n5, b6⟩, ?_, by rw [toList_size]; exact z0, by rw [toList_size]; exact z1⟩
      unfold instV
      simp only [← eq_bs]
set_option maxRecDepth 100000 in
/-- an element of a list of rows -/
theorem chg_at {a : Addr} {i n : Nat} {cs : List Value} {D : DataW H} {Pl : List MemPlace} (hc : w.cells? base (a.add (i * 3)) 3 = some cs) (ht : DataW.trod enc Tryd.prog w base spare held n 49 cs = some (D, Pl)) :
    ∃ c : Chg, w.cell? ((a.add (i * 3)).add 0) = some (.string (bs c.key)) ∧ w.cell? ((a.add (i * 3)).add 1) = some (.bool c.drop) ∧ w.cell? ((a.add (i * 3)).add 2) = some (.string (bs c.value)) ∧ c.key.length ≤ 9223372036854775807 ∧ c.value.length ≤ 9223372036854775807 := by
  obtain ⟨xs, n', _, _, _, hlen, hg⟩ := DataW.trod_struct Tryd.underlying49 ht
  obtain ⟨_, hcl, hat⟩ := World.cells?_some hc
  have hone : oneCellFields Tryd.prog (Tryd.prog.fieldsOf 49) = true := by kernel_rfl
  simp only [Program.fieldsOf, Tryd.underlying49] at hone
  obtain ⟨o0, k0⟩ := hone_of hone 0 _ rfl
  obtain ⟨o1, k1⟩ := hone_of hone 1 _ rfl
  obtain ⟨o2, k2⟩ := hone_of hone 2 _ rfl
  match cs, hcl with
  | [u0, u1, u2], _ =>
    match xs, hlen with
    | [y0, y1, y2], _ =>
      have g0 := hg 0 _ rfl
      have g1 := hg 1 _ rfl
      have g2 := hg 2 _ rfl
      simp only [o0, k0] at g0
      simp only [o1, k1] at g1
      simp only [o2, k2] at g2
      obtain ⟨s0, e0, _, z0⟩ := DataW.trod_string Tryd.underlying9 g0
      obtain ⟨b1, e1, _⟩ := DataW.trod_bool Tryd.underlying4 g1
      obtain ⟨s2, e2, _, z2⟩ := DataW.trod_string Tryd.underlying9 g2
      simp at e0 e1 e2
      subst e0 e1 e2
      unfold maxLen at z0 z2
      have h0 := hat 0 (by decide)
      have h1 := hat 1 (by decide)
      have h2 := hat 2 (by decide)
      refine ⟨⟨s0.toList, b1, s2.toList⟩, ?_, ?_, ?_, by rw [toList_size]; exact z0, by rw [toList_size]; exact z2⟩
      · rw [h0]; simp [← eq_bs]
      · rw [h1]; simp
      · rw [h2]; simp [← eq_bs]
theorem rd_of_cells {w : World} {a : Addr} {l : List Chg} (hm : l.length ≤ maxLen) (h : ∀ i c, l[i]? = some c → w.cell? ((a.add (i * 3)).add 0) = some (.string (bs c.key)) ∧ w.cell? ((a.add (i * 3)).add 1) = some (.bool c.drop) ∧ w.cell? ((a.add (i * 3)).add 2) = some (.string (bs c.value))) :
    Rd w 3 (some a) l.length (l.flatMap chgC) := by
  refine ⟨flat_len chgC 3 chgC_len l, hm, fun h0 => ?_⟩
  obtain ⟨x, hx⟩ : ∃ x, l[0]? = some x := ⟨_, List.getElem?_eq_getElem h0⟩
  have hs := World.cell?_spot (h 0 x hx).1
  have hb := World.block_lt_of_cell? w _ (h 0 x hx).1
  simp only [Nat.zero_mul, Addr.add, if_true] at hs hb
  obtain ⟨b, off, sp⟩ := a
  simp only at hs hb
  subst hs
  refine ⟨b, off, rfl, hb, fun j u hu => ?_⟩
  have hj : j < l.length * 3 := by rw [← flat_len chgC 3 chgC_len l]; exact (List.getElem?_eq_some_iff.1 hu).1
  obtain ⟨c, hc⟩ : ∃ c, l[j / 3]? = some c := ⟨_, List.getElem?_eq_getElem (by omega)⟩
  have hjj : j = j / 3 * 3 + j % 3 := by omega
  have hmod : j % 3 < 3 := Nat.mod_lt _ (by omega)
  have hf := flat_at chgC 3 chgC_len l (j / 3) c hc (j % 3) hmod
  rw [← hjj, hu] at hf
  obtain ⟨q0, q1, q2⟩ := h (j / 3) c hc
  simp only [addr_add] at q0 q1 q2
  have hr : j % 3 = 0 ∨ j % 3 = 1 ∨ j % 3 = 2 := by omega
  rcases hr with hr | hr | hr
  · rw [hr] at hf hjj
    have : u = .string (bs c.key) := by simpa [chgC] using hf
    rw [this, hjj, ← Nat.add_assoc]; exact q0
  · rw [hr] at hf hjj
    have : u = .bool c.drop := by simpa [chgC] using hf
    rw [this, hjj, ← Nat.add_assoc]; exact q1
  · rw [hr] at hf hjj
    have : u = .string (bs c.value) := by simpa [chgC] using hf
    rw [this, hjj, ← Nat.add_assoc]; exact q2
set_option maxRecDepth 100000 in
/-- a list of rows -/
theorem open_chgs {r : Reach} {b0 : Nat} {v : Value} {d : DataW H} {p : List MemPlace} (hv : Value.okWide Tryd.prog w r b0 41 v) (h : DataW.Trod enc Tryd.prog w base (fun _ => true) held 41 v d p) :
    ∃ (A : Option Addr) (c : Nat) (l : List Chg), v = .slice A l.length c ∧ l.length ≤ c ∧ c ≤ maxLen ∧ Rd w 3 A l.length (l.flatMap chgC) ∧ (∀ x ∈ l, x.key.length ≤ 9223372036854775807 ∧ x.value.length ≤ 9223372036854775807) := by
  obtain ⟨A, n, c, rfl⟩ := okWide_slice Tryd.underlying41 hv
  obtain ⟨fuel, hf⟩ := h
  have hC : Tryd.prog.cellsOf 49 = 3 := by kernel_rfl
  rcases open_slice Tryd.underlying41 hf with ⟨hcs, _⟩ | ⟨a, len, cap, m, n', D, Pl, hcs, _, hl, hm, hmm, _, hi⟩
  · simp [Value.cells] at hcs
    obtain ⟨rfl, rfl, rfl⟩ := hcs
    exact ⟨none, 0, [], rfl, Nat.le_refl _, by simp [maxLen], Rd.nil _ _ _, by simp⟩
  · simp [Value.cells] at hcs
    obtain ⟨rfl, rfl, rfl⟩ := hcs
    rw [if_pos rfl] at hmm
    subst hmm
    have hel : ∀ i, i < m → ∃ x : Chg, w.cell? ((a.add (i * 3)).add 0) = some (.string (bs x.key)) ∧ w.cell? ((a.add (i * 3)).add 1) = some (.bool x.drop) ∧ w.cell? ((a.add (i * 3)).add 2) = some (.string (bs x.value)) ∧ x.key.length ≤ 9223372036854775807 ∧ x.value.length ≤ 9223372036854775807 := fun i him => by
      obtain ⟨cs', hcc, htt⟩ := hi i him
      rw [hC] at hcc
      exact chg_at hcc htt
    have hex : ∃ l : List Chg, l.length = n ∧ ∀ i x, l[i]? = some x → w.cell? ((a.add (i * 3)).add 0) = some (.string (bs x.key)) ∧ w.cell? ((a.add (i * 3)).add 1) = some (.bool x.drop) ∧ w.cell? ((a.add (i * 3)).add 2) = some (.string (bs x.value)) ∧ x.key.length ≤ 9223372036854775807 ∧ x.value.length ≤ 9223372036854775807 := by
      refine ⟨(List.range n).map fun i => if h : i < m then Classical.choose (hel i h) else ⟨[], false, []⟩, by simp, fun i x hx => ?_⟩
      rw [List.getElem?_map] at hx
      by_cases hin : i < n
      · rw [List.getElem?_range hin] at hx
        have him : i < m := by omega
        simp only [Option.map_some, Option.some.injEq, dif_pos him] at hx
        rw [← hx]
        exact Classical.choose_spec (hel i him)
      · rw [List.getElem?_eq_none (by simpa using Nat.le_of_not_lt hin)] at hx
        cases hx
    obtain ⟨l, rfl, hlx⟩ := hex
    refine ⟨some a, m, l, rfl, hl, hm, rd_of_cells (by omega) (fun i x hx => ⟨(hlx i x hx).1, (hlx i x hx).2.1, (hlx i x hx).2.2.1⟩), fun x hx => ?_⟩
    obtain ⟨i, hi⟩ := List.getElem?_of_mem hx
    exact (hlx i x hi).2.2.2
end
end Go.Proofs.YtaecafagmncmiaaDoor
