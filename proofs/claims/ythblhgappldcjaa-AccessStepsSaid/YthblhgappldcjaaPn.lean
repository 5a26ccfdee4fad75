/- Steps of somebody alone who reads or lays a word: the plain law of AccessSteps. No program in sight. -/
import Derived.Test.YthblhgappldcjaaPk
namespace Go.Proofs.Ythblhgappldcjaa.Fl
set_option linter.unusedVariables false

def WM : Nat := putSlot ⟨1, 27, 1, 0⟩
theorem s_WM : slotOf WM = ⟨1, 27, 1, 0⟩ := by decide

/-- An arena with one object of a size. -/
structure OneG (n : Int) (g : Int → Nat) : Prop where
  slot : g 7 = WM
  head : headOf (g 27) = ⟨2, n, 0, 1, false⟩
  cell : ∀ i, 1 ≤ i → i ≤ n → g (27 + i) < 1099511627776

theorem OneG.lay {n : Int} {g : Int → Nat} (h : OneG n g) {a : Int} {v : Nat} (ha : 28 ≤ a) (hv : v < 1099511627776) : OneG n (upd g a v) := by
  refine ⟨by rw [upd_other (by omega)]; exact h.slot, by rw [upd_other (by omega)]; exact h.head, fun i h1 h2 => ?_⟩
  by_cases q : 27 + i = a
  · rw [q, upd_same]; exact hv
  · rw [upd_other q]; exact h.cell i h1 h2

theorem movA_is {n : Int} (hn : 1 ≤ n ∧ n ≤ 16) : ∃ g st, (movA n).2.Is LM g st ∧ 0 ≤ st ∧ st ≤ 100 ∧ OneG n g ∧ (movA n).1.out.handle = 65536 ∧ Alloc.safe cM 0 400 (fresh cM) (Alloc.new n false) := by
  have ps : pSlot cM 0 = 7 := by simp [pSlot, cM]
  have hcr := cls_room hn
  have t0 : topOf (freshG cM 1) = (0, 0) := by rw [freshG, upd_same]; decide
  have w0 : slotOf (freshG cM 7) = ⟨0, 0, 1, 0⟩ := by decide
  obtain ⟨a, m1, st1, r1, r2, r3, r4, r5, r6, r7⟩ := Alloc.solo (who := 0) (own := false) (size := n) (s := 0) shM (fresh_is shM) (by simp [cM]) hn (by rw [t0]) (by simp [cM]) (fits_first shM (by simp [cM]) ⟨hcr.1, hcr.2.1⟩)
  rw [show (2 * cM.slots + 2 : Int) = 10 from by decide] at r6 r7
  have hA : pBase cM 0 + 0 = 27 := by simp [pBase, cM]
  have hck : pChunk cM 0 = 15 := by simp [pChunk, cM]
  have hm : movA n = (a, m1) := by unfold movA; rw [r1]
  have hG : ∀ b, madeG cM (freshG cM) 0 n false 0 0 1 1 b = if b = 27 then putHead ⟨2, n, 0, 1, false⟩ else if b = 7 then WM else if b = 16 then (freshG cM b + u64 (room (cls n))) % 18446744073709551616 else if b = 15 then putChunk ⟨1, cls n, 0 + room (cls n), 1⟩ else if b = pOpen (cls n) then 1 else if b = 1 then putTop (topOf (freshG cM (7 + 1))).1 ((topOf (freshG cM 1)).2 + 1) else freshG cM b := by
    intro b
    simp only [madeG, ps, w0, hA, hck]
    rfl
  generalize madeG cM (freshG cM) 0 n false 0 0 1 1 = g at *
  rw [hm]
  refine ⟨g, st1, r5, by omega, by omega, ⟨?_, ?_, fun i h1 h2 => ?_⟩, ?_, r2⟩
  · rw [hG, if_neg (by omega), if_pos rfl]
  · rw [hG, if_pos rfl]; exact headOf_putHead (by simp only; omega)
  · have hz : freshG cM (27 + i) = 0 := by
      rw [freshG, upd_other (by omega), upd_other (by simp only [cM, pSlot]; omega)]
      exact slotG_out (Or.inr (by simp only [cM, pSlot]; omega))
    have : pOpen (cls n) = 2 + cls n := rfl
    rw [hG, if_neg (by omega), if_neg (by omega), if_neg (by omega), if_neg (by omega), if_neg (by omega), if_neg (by omega), hz]; omega
  · rw [r4, ps, w0]; decide

inductive AStep (x : Want) (n : Int) (g : Int → Nat) : Access → Nat → Prop
  | see (h : Hd) (w cell : Nat) (seen read size : Int) (p : Help) (out : Done) : AStep x n g ⟨x, false, h, 0, w, cell, seen, read, size, p, out⟩ 4
  | head (cell : Nat) (seen read size : Int) (p : Help) (out : Done) : AStep x n g ⟨x, false, ⟨0, 1⟩, 1, WM, cell, seen, read, size, p, out⟩ 3
  | load (cell : Nat) (seen read : Int) (p : Help) (out : Done) (hi : 0 ≤ x.index ∧ x.index < n) : AStep x n g ⟨x, false, ⟨0, 1⟩, 2, WM, cell, seen, read, n, p, out⟩ 2
  | lay (v : Nat) (seen read : Int) (p : Help) (out : Done) (hi : 0 ≤ x.index ∧ x.index < n) (hv : g (28 + x.index) = v) (hk : x.kind ≠ 1) : AStep x n g ⟨x, false, ⟨0, 1⟩, 5, WM, v, seen, read, n, p, out⟩ 1
  | check (v : Nat) (seen read : Int) (p : Help) (out : Done) (hi : 0 ≤ x.index ∧ x.index < n) (hv : g (28 + x.index) = v) : AStep x n g ⟨x, false, ⟨0, 1⟩, 6, WM, v, seen, read, n, p, out⟩ 1

theorem AStep.want {x : Want} {n : Int} {g : Int → Nat} {a : Access} {r : Nat} (h : AStep x n g a r) (hn : n ≤ 16) : a.okIdx := by
  cases h <;> intro hp <;> simp only at hp ⊢ <;> first | omega | (rename_i hi _; omega) | (rename_i hi _ _; omega)

theorem AStep.new (x : Want) (n : Int) (g : Int → Nat) : AStep x n g (Access.new x false) 4 := .see _ _ _ _ _ _ _ _

theorem Mem.load_last {m : Mem} {L : Int} {g : Int → Nat} {st : Int} (h : m.Is L g st) (who : Int) {a : Int} (ha : 0 ≤ a ∧ a < L) : (m.load who a).2.last = ⟨a, who, false⟩ := by
  unfold Mem.load; rw [if_pos (h.inb ha)]; rfl
theorem Mem.cas_last {m : Mem} {L : Int} {g : Int → Nat} {st : Int} (h : m.Is L g st) (who : Int) {a : Int} (ha : 0 ≤ a ∧ a < L) (o v : Nat) : (m.cas who a o v).2.last.addr = a := by
  unfold Mem.cas; rw [if_pos (h.inb ha)]; split <;> rfl

structure AStepRes (x : Want) (n : Int) (st : Int) (r : Nat) (b : Bool) (a' : Access) (m' : Mem) (g' : Int → Nat) : Prop where
  is : m'.Is LM g' (st + 1)
  good : OneG n g'
  addr : 0 ≤ m'.last.addr ∧ m'.last.addr < LM
  more : b = false → m'.last.changed = false ∧ ∃ r', r' < r ∧ AStep x n g' a' r'
  last : m'.last.changed = true → 27 ≤ m'.last.addr ∧ x.kind ≠ 1

theorem a_step {x : Want} {n : Int} {g : Int → Nat} {m : Mem} {st : Int} {a : Access} {r : Nat} (hm : m.Is LM g st) (G : OneG n g) (hn : 1 ≤ n ∧ n ≤ 16) (x1 : x.handle = 65536) (xv : 0 ≤ x.value ∧ x.value < 1099511627776) (h : AStep x n g a r) :
    ∃ b a' m' g', a.step cM 0 m = (b, a', m') ∧ AStepRes x n st r b a' m' g' := by
  have ps : pSlot cM 0 = 7 := by simp [pSlot, cM]
  have hsl : ¬ (cM.slots ≤ 0) := by decide
  have hh : handle 65536 = (⟨0, 1⟩, true) := by decide
  have l1 : Fl.live (slotOf WM) ⟨0, 1⟩ = true := by decide
  have hL : LM = 107 := rfl
  cases h with
  | see h w cell seen read size p out =>
    obtain ⟨m1, e1, h1⟩ := hm.load 0 (a := 7) (by omega)
    have hl := Mem.load_last hm 0 (a := 7) (by omega)
    rw [e1] at hl
    refine ⟨false, ⟨x, false, ⟨0, 1⟩, 1, WM, cell, m1.steps, read, size, p, out⟩, m1, g, ?_, h1, G, by rw [hl]; simp only; omega, fun _ => ⟨by rw [hl], 3, by omega, .head ..⟩, fun q => by rw [hl] at q; cases q⟩
    simp [Access.step, x1, hh, hsl, ps, e1, G.slot, l1]
  | head cell seen read size p out =>
    obtain ⟨m1, e1, h1⟩ := hm.load 0 (a := 27) (by omega)
    have hl := Mem.load_last hm 0 (a := 27) (by omega)
    rw [e1] at hl
    by_cases hi : 0 ≤ x.index ∧ x.index < n
    · refine ⟨false, ⟨x, false, ⟨0, 1⟩, 2, WM, cell, seen, read, n, p, out⟩, m1, g, ?_, h1, G, by rw [hl]; simp only; omega, fun _ => ⟨by rw [hl], 2, by omega, .load _ _ _ _ _ hi⟩, fun q => by rw [hl] at q; cases q⟩
      have q1 : ¬ (x.index < 0) := by omega
      have q2 : ¬ (n ≤ x.index) := by omega
      simp [Access.step, s_WM, e1, G.head, q1, q2]
    · refine ⟨true, ⟨x, false, ⟨0, 1⟩, 2, WM, cell, seen, read, n, p, ⟨4, 0, 0, seen⟩⟩, m1, g, ?_, h1, G, by rw [hl]; simp only; omega, (fun q => by cases q), fun q => by rw [hl] at q; cases q⟩
      have q1 : x.index < 0 ∨ n ≤ x.index := by omega
      simp [Access.step, s_WM, e1, G.head, q1, Access.fin]
  | load cell seen read p out hi =>
    have ha : 0 ≤ 28 + x.index ∧ 28 + x.index < LM := by omega
    obtain ⟨m1, e1, h1⟩ := hm.load 0 ha
    have hl := Mem.load_last hm 0 ha
    rw [e1] at hl
    have hc := G.cell (1 + x.index) (by omega) (by omega)
    rw [show 27 + (1 + x.index) = 28 + x.index by omega] at hc
    have hcp := cell_plain hc
    generalize hv : g (28 + x.index) = v at *
    have hn' : (⟨x, false, ⟨0, 1⟩, 2, WM, v, seen, m1.steps, n, p, out⟩ : Access).next = if x.kind = 1 ∨ (x.kind = 3 ∧ (v : Int) ≠ x.old) then 6 else 5 := by
      simp [Access.next, hcp, s_WM]
    have hat : (27 : Int) + 1 + x.index = 28 + x.index := by omega
    by_cases k : x.kind = 1 ∨ (x.kind = 3 ∧ (v : Int) ≠ x.old)
    · rw [if_pos k] at hn'
      refine ⟨false, ⟨x, false, ⟨0, 1⟩, 6, WM, v, seen, m1.steps, n, p, out⟩, m1, g, ?_, h1, G, by rw [hl]; simp only; omega, fun _ => ⟨by rw [hl], 1, by omega, .check _ _ _ _ _ hi hv⟩, fun q => by rw [hl] at q; cases q⟩
      simp [Access.step, Access.at_, s_WM, e1, hn']
    · rw [if_neg k] at hn'
      refine ⟨false, ⟨x, false, ⟨0, 1⟩, 5, WM, v, seen, m1.steps, n, p, out⟩, m1, g, ?_, h1, G, by rw [hl]; simp only; omega, fun _ => ⟨by rw [hl], 1, by omega, .lay _ _ _ _ _ hi hv (by omega)⟩, fun q => by rw [hl] at q; cases q⟩
      simp [Access.step, Access.at_, s_WM, e1, hn']
  | lay v seen read p out hi hv hk =>
    have ha : 0 ≤ 28 + x.index ∧ 28 + x.index < LM := by omega
    have hp := put_plain xv.1 xv.2
    obtain ⟨m1, e1, h1⟩ := hm.cas 0 ha v x.value.toNat hv
    have hl := Mem.cas_last hm 0 ha v x.value.toNat
    rw [e1] at hl
    simp only at hl
    refine ⟨true, ⟨x, false, ⟨0, 1⟩, 0, WM, v, seen, read, n, p, ⟨0, 0, (cellOf v).value, m1.steps⟩⟩, m1, _, ?_, h1, G.lay (by omega) (by omega), by omega, (fun q => by cases q), fun _ => ⟨by omega, hk⟩⟩
    simp [Access.step, Access.at_, s_WM, hp, e1, Access.fin]
  | check v seen read p out hi hv =>
    obtain ⟨m1, e1, h1⟩ := hm.load 0 (a := 7) (by omega)
    have hl := Mem.load_last hm 0 (a := 7) (by omega)
    rw [e1] at hl
    by_cases k : x.kind = 3
    · refine ⟨true, ⟨x, false, ⟨0, 1⟩, 6, WM, v, seen, read, n, p, ⟨8, 0, (cellOf v).value, read⟩⟩, m1, g, ?_, h1, G, by rw [hl]; simp only; omega, (fun q => by cases q), fun q => by rw [hl] at q; cases q⟩
      simp [Access.step, ps, e1, G.slot, l1, k, Access.fin]
    · refine ⟨true, ⟨x, false, ⟨0, 1⟩, 6, WM, v, seen, read, n, p, ⟨0, 0, (cellOf v).value, read⟩⟩, m1, g, ?_, h1, G, by rw [hl]; simp only; omega, (fun q => by cases q), fun q => by rw [hl] at q; cases q⟩
      simp [Access.step, ps, e1, G.slot, l1, k, Access.fin]

/-- Between two accesses. -/
structure StepsInv (n : Int) (i : Nat) (m : Mem) : Prop where
  out : ∃ (g : Int → Nat) (st : Int), m.Is LM g st ∧ OneG n g ∧ 0 ≤ st ∧ st ≤ 100 + 20 * i

/-- In the midst of one. -/
structure MidInv (n : Int) (i k : Nat) (x : Want) (m : Mem) (a : Access) : Prop where
  out : ∃ (g : Int → Nat) (st : Int) (r : Nat), m.Is LM g st ∧ OneG n g ∧ 0 ≤ st ∧ st ≤ 100 + 20 * i + k ∧ AStep x n g a r ∧ k + r ≤ 4

theorem StepsInv.start {n : Int} (hn : 1 ≤ n ∧ n ≤ 16) : StepsInv n 0 (movA n).2 := by
  obtain ⟨g, st, h1, h2, h3, h4, _⟩ := movA_is hn
  exact ⟨g, st, h1, h4, h2, by omega⟩
theorem StepsInv.mid {n : Int} {i : Nat} {m : Mem} (h : StepsInv n i m) (x : Want) : MidInv n i 0 x m (Access.new x false) := by
  obtain ⟨g, st, h1, h2, h3, h4⟩ := h.out
  exact ⟨g, st, 4, h1, h2, h3, by omega, .new x n g, by omega⟩
theorem MidInv.steps {n : Int} {i k : Nat} {x : Want} {m : Mem} {a : Access} (h : MidInv n i k x m a) : 0 ≤ m.steps ∧ m.steps ≤ 100 + 20 * i + k := by
  obtain ⟨g, st, r, h1, h2, h3, h4, _⟩ := h.out
  rw [h1.steps]; omega
theorem MidInv.small {n : Int} {i k : Nat} {x : Want} {m : Mem} {a : Access} (h : MidInv n i k x m a) : k ≤ 3 := by
  obtain ⟨g, st, r, h1, h2, h3, h4, h5, h6⟩ := h.out
  have : 1 ≤ r := by cases h5 <;> omega
  omega
theorem MidInv.idx {n : Int} {i k : Nat} {x : Want} {m : Mem} {a : Access} (h : MidInv n i k x m a) (hn : n ≤ 16) : a.okIdx := by
  obtain ⟨g, st, r, h1, h2, h3, h4, h5, h6⟩ := h.out
  exact h5.want hn

theorem MidInv.step {n : Int} {i k : Nat} {x : Want} {m : Mem} {a : Access} (h : MidInv n i k x m a) (hn : 1 ≤ n ∧ n ≤ 16) (x1 : x.handle = 65536) (xv : 0 ≤ x.value ∧ x.value < 1099511627776) :
    (a.step cM 0 m).2.2.steps = m.steps + 1 ∧ (0 ≤ (a.step cM 0 m).2.2.last.addr ∧ (a.step cM 0 m).2.2.last.addr < LM) ∧ ((a.step cM 0 m).2.2.last.changed = true → 27 ≤ (a.step cM 0 m).2.2.last.addr ∧ x.kind ≠ 1) ∧
    ((a.step cM 0 m).1 = false → (a.step cM 0 m).2.2.last.changed = false ∧ MidInv n i (k + 1) x (a.step cM 0 m).2.2 (a.step cM 0 m).2.1) ∧ ((a.step cM 0 m).1 = true → StepsInv n (i + 1) (a.step cM 0 m).2.2) := by
  have hk := h.small
  obtain ⟨g, st, r, h1, h2, h3, h4, h5, h6⟩ := h.out
  obtain ⟨b, a', m', g', e, R⟩ := a_step h1 h2 hn x1 xv h5
  rw [e]
  simp only
  refine ⟨by rw [R.is.steps, h1.steps], R.addr, R.last, fun hb => ?_, fun hb => ⟨g', st + 1, R.is, R.good, by omega, by omega⟩⟩
  obtain ⟨q1, r', q2, q3⟩ := R.more hb
  exact ⟨q1, g', st + 1, r', R.is, R.good, by omega, by omega, q3, by omega⟩

end Go.Proofs.Ythblhgappldcjaa.Fl
