/- Rows: arguments are opened here, and read as before behind a walk that leaves only new blocks. -/
import Derived.Test.YthblhgappldcjaaQ
import Derived.Test.YthblhgappldcjaaRows
import Derived.Test.YthblhgappldcjaaJ5
import Derived.WideKeyArgs
import Derived.Deep.Slices
import Derived.Deep.Fields
import Derived.Lib.SmallJoins
namespace Go.Proofs.Ythblhgappldcjaa
open Go Go.RowKit Go.ChangeShapes Go.WideShapes Go.ChangeAt Go.Deep
set_option linter.unusedVariables false
set_option maxRecDepth 100000

theorem laid : laidOutB Try.prog = true := by kernel_rfl

theorem Ext.sameAt {W W' : World} (x : Ext W W') {p : MemPlace} (h : p.block < W.heap.size) : W.sameAt W' p := by
  cases p with
  | cell b off =>
    have hb : W'.heap[b]? = W.heap[b]? := x.block h
    show W'.cell? ⟨b, off, none⟩ = W.cell? ⟨b, off, none⟩
    simp [World.cell?, hb]
  | map b => exact x.block h

section
variable {H : Type} {enc : TypeId × Value → H}

theorem all_stays {W W' : World} (hx : Ext W W') (sp : Nat → Bool) : ∀ {ts : List TypeId} {vs : List Value} {ds : List (DataW H)} {p : List MemPlace},
    (∀ t, t ∈ ts → Try.prog.readableRec t = true ∧ t < Try.prog.types.size) → DataW.TrodAll enc Try.prog W 0 (fun _ => true) true ts vs ds p → (∀ q, q ∈ p → q.block < W.heap.size) → (∀ q, q ∈ p → sp q.block = true) → DataW.TrodAll enc Try.prog W' 0 sp true ts vs ds p
  | [], vs, ds, p, _, h, _, _ => by
    obtain ⟨rfl, rfl, rfl⟩ := trodAll_nil h
    exact trodAll_mk0
  | t :: ts, vs, ds, p, ht, h, hb, hs => by
    obtain ⟨v, vs', d, ds', p1, q1, rfl, rfl, rfl, h0, r0⟩ := trodAll_cons h
    have h1 := Go.WideElems.Trod_stays laid (ht t (by simp)).1 (ht t (by simp)).2 h0 (fun q hq => hx.sameAt (hb q (by simp [hq]))) (fun q hq => hs q (by simp [hq]))
    exact trodAll_cons_mk h1 (all_stays hx sp (fun t' h' => ht t' (by simp [h'])) r0 (fun q hq => hb q (by simp [hq])) (fun q hq => hs q (by simp [hq])))

theorem u64_nat {k : Int} (h : (Lit.int .u64 k).wf = true) : ∃ n : Nat, k = (n : Int) ∧ n < 18446744073709551616 := by
  have h1 : 0 ≤ k ∧ k < 18446744073709551616 := by
    have := h
    simp [Lit.wf, IntKind.min, IntKind.max, IntKind.signed, IntKind.bits] at this
    omega
  exact ⟨k.toNat, by omega, by omega⟩

/-- A slice of ints. -/
theorem open_is {W : World} {v : Value} {d : DataW H} {p : List MemPlace} (hv : Value.okWide Try.prog W .any 0 22 v) (h : DataW.Trod enc Try.prog W 0 (fun _ => true) true 22 v d p) (hb : ∀ q, q ∈ p → q.block < W.heap.size) :
    ∃ (q : Option Addr) (len cap : Nat) (z : Nat → Int), v = .slice q len cap ∧ ∀ i, i < len → ∃ a, q = some a ∧ a.block < W.heap.size ∧ W.cell? (a.add i) = some (.int .i64 (z i)) := by
  obtain ⟨ad, len, cap, rfl⟩ := okWide_slice Try.underlying22 hv
  obtain ⟨fuel, hf⟩ := h
  rcases open_ints Try.underlying22 Try.underlying3 (by kernel_rfl) hf with ⟨hcs, hx⟩ | ⟨a, len', cap', zs, hcs, _, hl, hm, hz, hx, hcell, hwz⟩
  · simp [Value.cells] at hcs
    obtain ⟨rfl, rfl, rfl⟩ := hcs
    exact ⟨none, 0, 0, fun _ => 0, rfl, fun i hi => by omega⟩
  · simp [Value.cells] at hcs
    obtain ⟨rfl, rfl, rfl⟩ := hcs
    simp only [Prod.mk.injEq] at hx
    obtain ⟨rfl, rfl⟩ := hx
    simp only [if_true] at hz
    refine ⟨some a, len, cap, fun i => zs.getD i 0, rfl, fun i hi => ⟨a, rfl, ?_, hcell i (by omega)⟩⟩
    exact hb (.cell a.block a.off) (MemPlace.mem_row.2 ⟨0, by omega, by simp⟩)

variable {P : Program} {w : World} {base : Nat} {spare : Nat → Bool} {held : Bool}

/-- A slice of structs: each field of each one is a cell. -/
theorem open_fields {t e : TypeId} {fs : Array Field} {fuel : Nat} {cs : List Value} {x : DataW H × List MemPlace} (ht : P.underlying t = some (.slice e)) (he : P.underlying e = some (.struct fs))
    (hone : oneCellFields P fs = true) (hC : P.cellsOf e = fs.size) (h : DataW.trod enc P w base spare held fuel t cs = some x) :
    cs = [.slice none 0 0] ∨
    ∃ (a : Addr) (len cap m : Nat), cs = [.slice (some a) len cap] ∧ len ≤ cap ∧ m = (if spare a.block then cap else len) ∧ (0 < m * fs.size → MemPlace.cell a.block a.off ∈ x.2) ∧
      ∀ i, i < m → ∃ n : Nat, ∀ (j : Nat) (f : Field), fs[j]? = some f → ∃ (v : Value) (y : DataW H × List MemPlace), w.cell? (a.add (i * fs.size + j)) = some v ∧ DataW.trod enc P w base spare held n f.type [v] = some y := by
  rcases open_slice ht h with h0 | ⟨a, len, cap, m, n, D, Pl, hcs, hb, hl, hm, hmm, hx, hi⟩
  · exact .inl h0.1
  · rw [hC] at hx
    refine .inr ⟨a, len, cap, m, hcs, hl, hmm, fun hp => ?_, fun i him => ?_⟩
    · rw [hx]
      simp only [List.mem_append]
      exact Or.inl (MemPlace.mem_row.2 ⟨0, hp, by simp⟩)
    · obtain ⟨cs', hc, ht'⟩ := hi i him
      rw [hC] at hc
      obtain ⟨ys, n', hn', hy, hlen, hyl, hf⟩ := DataW.trod_struct he ht'
      obtain ⟨_, hcl, hat⟩ := World.cells?_some hc
      refine ⟨n', fun j f hj => ?_⟩
      obtain ⟨ho, hk⟩ := hone_of hone j f hj
      have hjl : j < fs.size := (Array.getElem?_eq_some_iff.1 hj).1
      have hcell := hat j hjl
      have hv : cs'[j]? = some (cs'[j]'(by omega)) := List.getElem?_eq_getElem (by omega)
      have h1 := hf j f hj
      rw [ho, hk] at h1
      have hone' : (cs'.drop j).take 1 = [cs'[j]'(by omega)] := by
        rw [List.drop_eq_getElem_cons (by omega)]
        rfl
      rw [hone'] at h1
      have hys : ys[j]? = some (ys[j]'(by omega)) := List.getElem?_eq_getElem (by omega)
      refine ⟨_, _, ?_, h1.trans hys⟩
      rw [← Go.Deep.add_add, hcell, hv]
end

section
variable {H : Type} {enc : TypeId × Value → H}
theorem int_cell {W : World} {n : Nat} {v : Value} {y : DataW H × List MemPlace} (h : DataW.trod enc Try.prog W 0 (fun _ => true) true n 3 [v] = some y) : ∃ z : Int, v = .int .i64 z ∧ (Lit.int .i64 z).wf = true := by
  obtain ⟨k, e, _, hw⟩ := DataW.trod_int Try.underlying3 h
  simp only [List.cons.injEq, and_true] at e
  exact ⟨k, e, hw⟩
theorem u64_cell {W : World} {n : Nat} {v : Value} {y : DataW H × List MemPlace} (h : DataW.trod enc Try.prog W 0 (fun _ => true) true n 32 [v] = some y) : ∃ z : Nat, v = .int .u64 (z : Int) ∧ z < 18446744073709551616 := by
  obtain ⟨k, e, _, hw⟩ := DataW.trod_int Try.underlying32 h
  simp only [List.cons.injEq, and_true] at e
  obtain ⟨m, rfl, hm⟩ := u64_nat hw
  exact ⟨m, e, hm⟩
theorem bool_cell {W : World} {n : Nat} {v : Value} {y : DataW H × List MemPlace} (h : DataW.trod enc Try.prog W 0 (fun _ => true) true n 4 [v] = some y) : ∃ z : Bool, v = .bool z := by
  obtain ⟨k, e, _⟩ := DataW.trod_bool Try.underlying4 h
  simp only [List.cons.injEq, and_true] at e
  exact ⟨k, e⟩

/-- A slice of acts. -/
theorem open_acts {W : World} {v : Value} {d : DataW H} {p : List MemPlace} (hv : Value.okWide Try.prog W .any 0 48 v) (h : DataW.Trod enc Try.prog W 0 (fun _ => true) true 48 v d p) (hb : ∀ q, q ∈ p → q.block < W.heap.size) :
    ∃ (q : Option Addr) (len cap : Nat) (zk za zs : Nat → Int) (zo : Nat → Bool), v = .slice q len cap ∧ ∀ i, i < len → ∃ a, q = some a ∧ a.block < W.heap.size ∧ W.cell? (a.add (i * 4 + 0)) = some (.int .i64 (zk i)) ∧ W.cell? (a.add (i * 4 + 1)) = some (.int .i64 (za i)) ∧ W.cell? (a.add (i * 4 + 2)) = some (.int .i64 (zs i)) ∧ W.cell? (a.add (i * 4 + 3)) = some (.bool (zo i)) := by
  obtain ⟨ad, len, cap, rfl⟩ := okWide_slice Try.underlying48 hv
  obtain ⟨fuel, hf⟩ := h
  rcases open_fields Try.underlying48 Try.underlying52 (by kernel_rfl) (by kernel_rfl) hf with hcs | ⟨a, len', cap', m, hcs, hl, hm, hp, hi⟩
  · simp [Value.cells] at hcs
    obtain ⟨rfl, rfl, rfl⟩ := hcs
    exact ⟨none, 0, 0, fun _ => 0, fun _ => 0, fun _ => 0, fun _ => false, rfl, fun i hi => by omega⟩
  · simp [Value.cells] at hcs
    obtain ⟨rfl, rfl, rfl⟩ := hcs
    simp only [if_true] at hm
    have key : ∀ i, ∃ r : Int × Int × Int × Bool, i < len → W.cell? (a.add (i * 4 + 0)) = some (.int .i64 r.1) ∧ W.cell? (a.add (i * 4 + 1)) = some (.int .i64 r.2.1) ∧ W.cell? (a.add (i * 4 + 2)) = some (.int .i64 r.2.2.1) ∧ W.cell? (a.add (i * 4 + 3)) = some (.bool r.2.2.2) := by
      intro i
      by_cases hil : i < len
      · obtain ⟨n, hn⟩ := hi i (by omega)
        obtain ⟨v0, y0, c0, t0⟩ := hn 0 _ rfl
        obtain ⟨v1, y1, c1, t1⟩ := hn 1 _ rfl
        obtain ⟨v2, y2, c2, t2⟩ := hn 2 _ rfl
        obtain ⟨v3, y3, c3, t3⟩ := hn 3 _ rfl
        obtain ⟨z0, rfl, _⟩ := int_cell t0
        obtain ⟨z1, rfl, _⟩ := int_cell t1
        obtain ⟨z2, rfl, _⟩ := int_cell t2
        obtain ⟨z3, rfl⟩ := bool_cell t3
        exact ⟨(z0, z1, z2, z3), fun _ => ⟨c0, c1, c2, c3⟩⟩
      · exact ⟨(0, 0, 0, false), fun h => absurd h hil⟩
    have hr := fun i => Classical.choose_spec (key i)
    refine ⟨some a, len, cap, fun i => (Classical.choose (key i)).1, fun i => (Classical.choose (key i)).2.1, fun i => (Classical.choose (key i)).2.2.1, fun i => (Classical.choose (key i)).2.2.2, rfl, fun i hi' => ⟨a, rfl, ?_, hr i hi'⟩⟩
    exact hb _ (hp (by simp; omega))

/-- A slice of wants. -/
theorem open_wants {W : World} {v : Value} {d : DataW H} {p : List MemPlace} (hv : Value.okWide Try.prog W .any 0 71 v) (h : DataW.Trod enc Try.prog W 0 (fun _ => true) true 71 v d p) (hb : ∀ q, q ∈ p → q.block < W.heap.size) :
    ∃ (q : Option Addr) (len cap : Nat) (zk : Nat → Int) (zh : Nat → Nat) (zi zv zo : Nat → Int), v = .slice q len cap ∧ ∀ i, i < len → ∃ a, q = some a ∧ a.block < W.heap.size ∧ (zh i < 18446744073709551616 ∧ (Lit.int .i64 (zi i)).wf = true) ∧ W.cell? (a.add (i * 5 + 0)) = some (.int .i64 (zk i)) ∧ W.cell? (a.add (i * 5 + 1)) = some (.int .u64 ((zh i : Nat) : Int)) ∧ W.cell? (a.add (i * 5 + 2)) = some (.int .i64 (zi i)) ∧ W.cell? (a.add (i * 5 + 3)) = some (.int .i64 (zv i)) ∧ W.cell? (a.add (i * 5 + 4)) = some (.int .i64 (zo i)) := by
  obtain ⟨ad, len, cap, rfl⟩ := okWide_slice Try.underlying71 hv
  obtain ⟨fuel, hf⟩ := h
  rcases open_fields Try.underlying71 Try.underlying74 (by kernel_rfl) (by kernel_rfl) hf with hcs | ⟨a, len', cap', m, hcs, hl, hm, hp, hi⟩
  · simp [Value.cells] at hcs
    obtain ⟨rfl, rfl, rfl⟩ := hcs
    exact ⟨none, 0, 0, fun _ => 0, fun _ => 0, fun _ => 0, fun _ => 0, fun _ => 0, rfl, fun i hi => by omega⟩
  · simp [Value.cells] at hcs
    obtain ⟨rfl, rfl, rfl⟩ := hcs
    simp only [if_true] at hm
    have key : ∀ i, ∃ r : Int × Nat × Int × Int × Int, i < len → (r.2.1 < 18446744073709551616 ∧ (Lit.int .i64 r.2.2.1).wf = true) ∧ W.cell? (a.add (i * 5 + 0)) = some (.int .i64 r.1) ∧ W.cell? (a.add (i * 5 + 1)) = some (.int .u64 ((r.2.1 : Nat) : Int)) ∧ W.cell? (a.add (i * 5 + 2)) = some (.int .i64 r.2.2.1) ∧ W.cell? (a.add (i * 5 + 3)) = some (.int .i64 r.2.2.2.1) ∧ W.cell? (a.add (i * 5 + 4)) = some (.int .i64 r.2.2.2.2) := by
      intro i
      by_cases hil : i < len
      · obtain ⟨n, hn⟩ := hi i (by omega)
        obtain ⟨v0, y0, c0, t0⟩ := hn 0 _ rfl
        obtain ⟨v1, y1, c1, t1⟩ := hn 1 _ rfl
        obtain ⟨v2, y2, c2, t2⟩ := hn 2 _ rfl
        obtain ⟨v3, y3, c3, t3⟩ := hn 3 _ rfl
        obtain ⟨v4, y4, c4, t4⟩ := hn 4 _ rfl
        obtain ⟨z0, rfl, _⟩ := int_cell t0
        obtain ⟨z1, rfl, h1⟩ := u64_cell t1
        obtain ⟨z2, rfl, h2⟩ := int_cell t2
        obtain ⟨z3, rfl, _⟩ := int_cell t3
        obtain ⟨z4, rfl, _⟩ := int_cell t4
        exact ⟨(z0, z1, z2, z3, z4), fun _ => ⟨⟨h1, h2⟩, c0, c1, c2, c3, c4⟩⟩
      · exact ⟨(0, 0, 0, 0, 0), fun h => absurd h hil⟩
    have hr := fun i => Classical.choose_spec (key i)
    refine ⟨some a, len, cap, fun i => (Classical.choose (key i)).1, fun i => (Classical.choose (key i)).2.1, fun i => (Classical.choose (key i)).2.2.1, fun i => (Classical.choose (key i)).2.2.2.1, fun i => (Classical.choose (key i)).2.2.2.2, rfl, fun i hi' => ⟨a, rfl, ?_, hr i hi'⟩⟩
    exact hb _ (hp (by simp; omega))

/-- A want, by value. -/
theorem open_want {W : World} {v : Value} {d : DataW H} {p : List MemPlace} (hv : Value.okWide Try.prog W .any 0 74 v) (h : DataW.Trod enc Try.prog W 0 (fun _ => true) true 74 v d p) :
    ∃ (k : Int) (n : Nat) (i x o : Int), v = .agg #[.int .i64 k, .int .u64 (n : Int), .int .i64 i, .int .i64 x, .int .i64 o] ∧ n < 18446744073709551616 ∧ (Lit.int .i64 i).wf = true := by
  obtain ⟨a0, a1, a2, a3, a4, y0, y1, y2, y3, y4, n, rfl, rfl, rfl, t0, t1, t2, t3, t4⟩ := open5 Try.underlying74 (by kernel_rfl) (by kernel_rfl) hv h
  obtain ⟨z0, rfl, _⟩ := int_cell t0
  obtain ⟨z1, rfl, h1⟩ := u64_cell t1
  obtain ⟨z2, rfl, h2⟩ := int_cell t2
  obtain ⟨z3, rfl, _⟩ := int_cell t3
  obtain ⟨z4, rfl, _⟩ := int_cell t4
  exact ⟨z0, z1, z2, z3, z4, rfl, h1, h2⟩
end

end Go.Proofs.Ythblhgappldcjaa
