/- The plain runs of somebody alone: letting an object go. No program in sight. -/
import Derived.Test.YthblhgappldcjaaLa
namespace Go.Proofs.Ythblhgappldcjaa.Fl
set_option linter.unusedVariables false

/-- A memory, by what its words are. -/
structure Mem.Is (m : Mem) (L : Int) (g : Int → Nat) (s : Int) : Prop where
  len : (m.w.length : Int) = L
  word : ∀ a, 0 ≤ a → a < L → m.w.getD a.toNat 0 = g a
  steps : m.steps = s

def upd (g : Int → Nat) (a : Int) (v : Nat) : Int → Nat := fun b => if b = a then v else g b
theorem upd_same (g : Int → Nat) (a : Int) (v : Nat) : upd g a v a = v := by simp [upd]
theorem upd_other {g : Int → Nat} {a b : Int} {v : Nat} (h : b ≠ a) : upd g a v b = g b := by simp [upd, h]

theorem Mem.Is.inb {m : Mem} {L : Int} {g : Int → Nat} {s : Int} (h : m.Is L g s) {a : Int} (ha : 0 ≤ a ∧ a < L) : Fl.inb m a := by
  unfold Fl.inb; have := h.len; omega

theorem Mem.Is.peek {m : Mem} {L : Int} {g : Int → Nat} {s : Int} (h : m.Is L g s) {a : Int} (ha : 0 ≤ a ∧ a < L) : m.peek a = g a := by
  unfold Mem.peek; rw [if_pos (h.inb ha)]; exact h.word a ha.1 ha.2

theorem Mem.Is.congr {m : Mem} {L : Int} {g g' : Int → Nat} {s : Int} (h : m.Is L g s) (he : ∀ a, 0 ≤ a → a < L → g a = g' a) : m.Is L g' s :=
  ⟨h.len, fun a h0 h1 => (h.word a h0 h1).trans (he a h0 h1), h.steps⟩

theorem Mem.Is.load {m : Mem} {L : Int} {g : Int → Nat} {s : Int} (h : m.Is L g s) (who : Int) {a : Int} (ha : 0 ≤ a ∧ a < L) :
    ∃ m', m.load who a = (g a, m') ∧ m'.Is L g (s + 1) := by
  refine ⟨m.stp who a, ?_, h.len, h.word, ?_⟩
  · unfold Mem.load; rw [if_pos (h.inb ha), h.word a ha.1 ha.2]
  · simp [Mem.stp, h.steps]

theorem Mem.Is.setw {m : Mem} {L : Int} {g : Int → Nat} {s : Int} (h : m.Is L g s) {a : Int} (ha : 0 ≤ a ∧ a < L) (v : Nat) : (m.setw a v).Is L (upd g a v) s := by
  refine ⟨?_, ?_, h.steps⟩
  · simpa [Mem.setw] using h.len
  · intro b h0 h1
    have := h.len
    simp only [Mem.setw, List.getD_eq_getElem?_getD, List.getElem?_set, upd]
    by_cases hb : b = a
    · subst hb
      rw [if_pos rfl, if_pos (by omega), if_pos rfl]; rfl
    · rw [if_neg (by omega), if_neg hb, ← List.getD_eq_getElem?_getD]; exact h.word b h0 h1

theorem Mem.Is.store {m : Mem} {L : Int} {g : Int → Nat} {s : Int} (h : m.Is L g s) (who : Int) {a : Int} (ha : 0 ≤ a ∧ a < L) (v : Nat) :
    (m.store who a v).Is L (upd g a v) (s + 1) := by
  unfold Mem.store; rw [if_pos (h.inb ha)]
  have h' : (m.stp who a).Is L g (s + 1) := ⟨h.len, h.word, by simp [Mem.stp, h.steps]⟩
  exact h'.setw ha v

theorem Mem.Is.cas {m : Mem} {L : Int} {g : Int → Nat} {s : Int} (h : m.Is L g s) (who : Int) {a : Int} (ha : 0 ≤ a ∧ a < L) (o v : Nat) (ho : g a = o) :
    ∃ m', m.cas who a o v = (true, m') ∧ m'.Is L (upd g a v) (s + 1) := by
  refine ⟨(m.stp who a).setw a v, ?_, ?_⟩
  · unfold Mem.cas; rw [if_pos (h.inb ha), if_pos ((h.word a ha.1 ha.2).trans ho)]
  · have h' : (m.stp who a).Is L g (s + 1) := ⟨h.len, h.word, by simp [Mem.stp, h.steps]⟩
    exact h'.setw ha v

theorem Mem.Is.casNo {m : Mem} {L : Int} {g : Int → Nat} {s : Int} (h : m.Is L g s) (who : Int) {a : Int} (ha : 0 ≤ a ∧ a < L) (o v : Nat) (ho : g a ≠ o) :
    ∃ m', m.cas who a o v = (false, m') ∧ m'.Is L g (s + 1) := by
  refine ⟨m.stp who a, ?_, h.len, h.word, by simp [Mem.stp, h.steps]⟩
  unfold Mem.cas; rw [if_pos (h.inb ha), if_neg]; rw [h.word a ha.1 ha.2]; exact ho

theorem Mem.Is.add {m : Mem} {L : Int} {g : Int → Nat} {s : Int} (h : m.Is L g s) (who : Int) {a : Int} (ha : 0 ≤ a ∧ a < L) (d : Int) :
    (m.add who a d).Is L (upd g a ((g a + u64 d) % 18446744073709551616)) (s + 1) := by
  unfold Mem.add; rw [if_pos (h.inb ha), h.word a ha.1 ha.2]
  have h' : (m.stp who a).Is L g (s + 1) := ⟨h.len, h.word, by simp [Mem.stp, h.steps]⟩
  exact h'.setw ha _

theorem Drop.next {c : Cfg} {who : Int} {k : Nat} {m m' : Mem} {d d' : Drop} (h : d.step c who m = (false, d', m')) : Drop.loop c who (k + 1) m d = Drop.loop c who k m' d' := by
  rw [Drop.loop, h]; rfl
theorem Drop.stop {c : Cfg} {who : Int} {k : Nat} {m m' : Mem} {d d' : Drop} (h : d.step c who m = (true, d', m')) : Drop.loop c who (k + 1) m d = (d', m') := by
  rw [Drop.loop, h]; rfl

/-- So many steps lead from here to there. -/
def Drop.To (c : Cfg) (who : Int) (j : Nat) (m : Mem) (d : Drop) (m' : Mem) (d' : Drop) : Prop := ∀ k, Drop.loop c who (k + j) m d = Drop.loop c who k m' d'
theorem Drop.To.refl (c : Cfg) (who : Int) (m : Mem) (d : Drop) : Drop.To c who 0 m d m d := fun k => rfl
theorem Drop.To.trans {c : Cfg} {who : Int} {i j : Nat} {m m1 m2 : Mem} {d d1 d2 : Drop} (h : Drop.To c who i m d m1 d1) (h' : Drop.To c who j m1 d1 m2 d2) : Drop.To c who (i + j) m d m2 d2 := by
  intro k
  have e : k + (i + j) = k + j + i := by omega
  rw [e]
  exact (h (k + j)).trans (h' k)
theorem Drop.To.one {c : Cfg} {who : Int} {m m' : Mem} {d d' : Drop} (h : d.step c who m = (false, d', m')) : Drop.To c who 1 m d m' d' := fun k => Drop.next h

/-- A cell's word, frozen for a version. -/
def frz (v : Int) (x : Nat) : Nat := if (cellOf x).frozen = true ∧ (cellOf x).ver = v then x else putCell ⟨(cellOf x).value, true, v⟩

def nextOf (c : Cfg) (gen : Int) : Sl := if gen ≥ c.gens then ⟨3, 0, gen, 0⟩ else ⟨0, 0, gen + 1, 0⟩

/-- The words after some cells were frozen. -/
def frozen (g : Int → Nat) (A i v : Int) : Int → Nat := fun b => if A < b ∧ b ≤ A + i then frz v (g b) else g b

theorem frozen_succ (g : Int → Nat) (A i v : Int) (hi : 0 ≤ i) (x : Nat) (hx : x = frz v (g (A + 1 + i))) : ∀ b, upd (frozen g A i v) (A + 1 + i) x b = frozen g A (i + 1) v b := by
  intro b
  simp only [upd, frozen]
  by_cases hb : b = A + 1 + i
  · subst hb; rw [if_pos rfl, if_pos (by omega), hx]
  · rw [if_neg hb]
    by_cases h2 : A < b ∧ b ≤ A + i
    · rw [if_pos h2, if_pos (by omega)]
    · rw [if_neg h2, if_neg (by omega)]

/-- Letting go: the cells are frozen one after the other. -/
theorem Drop.cells {c : Cfg} {who : Int} {L : Int} {g : Int → Nat} {n : Nat} {own : Bool} {h : Hd} {w0 : Nat} {size : Int} {gv : Give} {out : Done} {w' : Nat} {A : Int}
    (hA : (slotOf w').addr = A) (hA0 : 0 ≤ A) (hAL : A + size < L) (hz : 0 ≤ size) :
    ∀ (r : Nat) (i : Int) (x : Nat) (m : Mem) (st : Int), i = size - r → 0 ≤ i → m.Is L (frozen g A i (slotOf w').ver) st →
    ∃ (j : Nat) (m' : Mem) (x' : Nat), j ≤ 2 * r ∧ Drop.To c who j m ⟨n, own, h, 3, w0, size, ⟨h.slot, w', size, i, x, false, false⟩, gv, out⟩ m' ⟨n, own, h, 3, w0, size, ⟨h.slot, w', size, size, x', false, false⟩, gv, out⟩ ∧ m'.Is L (frozen g A size (slotOf w').ver) (st + j)
  | 0, i, x, m, st, hi, h0, hm => by
    have : i = size := by omega
    subst this
    exact ⟨0, m, x, by omega, fun k => rfl, by simpa using hm⟩
  | r + 1, i, x, m, st, hi, h0, hm => by
    have hin : 0 ≤ A + 1 + i ∧ A + 1 + i < L := by omega
    obtain ⟨m1, e1, h1⟩ := hm.load who hin
    have hlt : ¬ i ≥ size := by omega
    have hg : frozen g A i (slotOf w').ver (A + 1 + i) = g (A + 1 + i) := by simp only [frozen]; rw [if_neg (by omega)]
    rw [hg] at e1
    generalize hy : g (A + 1 + i) = y at *
    by_cases hf : (cellOf y).frozen = true ∧ (cellOf y).ver = (slotOf w').ver
    · have hs : Drop.step c who m ⟨n, own, h, 3, w0, size, ⟨h.slot, w', size, i, x, false, false⟩, gv, out⟩ = (false, ⟨n, own, h, 3, w0, size, ⟨h.slot, w', size, i + 1, y, false, false⟩, gv, out⟩, m1) := by
        simp only [Drop.step, Help.step, hA, if_neg hlt, e1, if_pos hf]; simp
      have hfr : frz (slotOf w').ver y = y := by unfold frz; rw [if_pos hf]
      have h1' : m1.Is L (frozen g A (i + 1) (slotOf w').ver) (st + 1) := h1.congr (fun b _ _ => by
        rw [← frozen_succ g A i (slotOf w').ver h0 y (by rw [hy, hfr]) b]
        by_cases hb : b = A + 1 + i
        · subst hb; rw [upd_same, hg]
        · rw [upd_other hb])
      obtain ⟨j, m', x', a1, a3, a4⟩ := Drop.cells (c := c) (who := who) (n := n) (own := own) (h := h) (w0 := w0) (gv := gv) (out := out) hA hA0 hAL hz r (i + 1) y m1 (st + 1) (by omega) (by omega) h1'
      refine ⟨1 + j, m', x', by omega, (Drop.To.one hs).trans a3, ?_⟩
      have : st + 1 + (j : Int) = st + ((1 + j : Nat) : Int) := by omega
      rw [← this]; exact a4
    · have hs : Drop.step c who m ⟨n, own, h, 3, w0, size, ⟨h.slot, w', size, i, x, false, false⟩, gv, out⟩ = (false, ⟨n, own, h, 3, w0, size, ⟨h.slot, w', size, i, y, true, false⟩, gv, out⟩, m1) := by
        simp only [Drop.step, Help.step, hA, if_neg hlt, e1, if_neg hf]; simp
      obtain ⟨m2, e2, h2⟩ := h1.cas who hin y (putCell ⟨(cellOf y).value, true, (slotOf w').ver⟩) hg
      have hs2 : Drop.step c who m1 ⟨n, own, h, 3, w0, size, ⟨h.slot, w', size, i, y, true, false⟩, gv, out⟩ = (false, ⟨n, own, h, 3, w0, size, ⟨h.slot, w', size, i + 1, y, false, false⟩, gv, out⟩, m2) := by
        simp only [Drop.step, Help.step, hA, if_neg hlt, e2]; simp
      have hfr : frz (slotOf w').ver y = putCell ⟨(cellOf y).value, true, (slotOf w').ver⟩ := by unfold frz; rw [if_neg hf]
      have h2' : m2.Is L (frozen g A (i + 1) (slotOf w').ver) (st + 2) := by
        have := h2.congr (fun b _ _ => frozen_succ g A i (slotOf w').ver h0 _ (by rw [hy, hfr]) b)
        rw [show st + 2 = st + 1 + 1 by omega]; exact this
      obtain ⟨j, m', x', a1, a3, a4⟩ := Drop.cells (c := c) (who := who) (n := n) (own := own) (h := h) (w0 := w0) (gv := gv) (out := out) hA hA0 hAL hz r (i + 1) y m2 (st + 2) (by omega) (by omega) h2'
      refine ⟨1 + 1 + j, m', x', by omega, ((Drop.To.one hs).trans (Drop.To.one hs2)).trans a3, ?_⟩
      have : st + 2 + (j : Int) = st + ((1 + 1 + j : Nat) : Int) := by omega
      rw [← this]; exact a4

theorem help_last {c : Cfg} {who : Int} {m m' : Mem} {s size gen S : Int} {w' x : Nat} (hg : (slotOf w').gen = gen) (hS : pSlot c s = S) (he : m.cas who S w' (putSlot (nextOf c gen)) = (true, m')) :
    Help.step c who m ⟨s, w', size, size, x, false, false⟩ = (true, ⟨s, w', size, size, x, false, true⟩, m') := by
  unfold nextOf at he
  subst hg hS
  have hle : size ≥ size := Int.le_refl _
  simp only [Help.step, if_pos hle, he]

/-- The words after an object was let go. -/
def dropped (c : Cfg) (g : Int → Nat) (s : Int) : Int → Nat :=
  let w := g (pSlot c s)
  let A := (slotOf w).addr
  let gen := (slotOf w).gen
  let size := (headOf (g A)).size
  fun b =>
    if A < b ∧ b ≤ A + size then frz (slotOf (putSlot { slotOf w with state := 4, ver := (slotOf w).ver + 1 })).ver (g b)
    else if b = pSlot c s then putSlot (nextOf c gen)
    else if b = pChunk c (pOf c A) + 1 then (g b + u64 (-(room (cls size)))) % 18446744073709551616
    else if gen ≥ c.gens then g b
    else if b = pSlot c s + 1 then putTop (topOf (g 1)).1 0
    else if b = 1 then putTop s ((topOf (g 1)).2 + 1)
    else g b

theorem fit_min (n most : Int) (h0 : 0 ≤ n) : fit n most = (min n most).toNat := by unfold fit; omega

theorem slotOf_upd (w : Nat) : (slotOf (putSlot { slotOf w with state := 4, ver := (slotOf w).ver + 1 })).addr = (slotOf w).addr ∧ (slotOf (putSlot { slotOf w with state := 4, ver := (slotOf w).ver + 1 })).gen = (slotOf w).gen ∧ (slotOf (putSlot { slotOf w with state := 4, ver := (slotOf w).ver + 1 })).state = 4 := by
  have := slotOf_range w
  generalize slotOf w = s at *
  obtain ⟨a, b, c, d⟩ := s
  simp only at this
  simp only [slotOf, putSlot]
  rw [fit_eq (n := 4) (by omega) (by omega), fit_eq (n := b) (by omega) (by omega), fit_eq (n := c) (by omega) (by omega), fit_min (d + 1) _ (by omega)]
  omega

structure Drop.Can (c : Cfg) (L : Int) (g : Int → Nat) (n : Nat) (own : Bool) (s : Int) : Prop where
  hn : handle n = (⟨s, (slotOf (g (pSlot c s))).gen⟩, true)
  hs : 0 ≤ s ∧ s < c.slots
  live : (slotOf (g (pSlot c s))).state = 1 ∨ (slotOf (g (pSlot c s))).state = 2
  own : (headOf (g (slotOf (g (pSlot c s))).addr)).own = own
  size : (headOf (g (slotOf (g (pSlot c s))).addr)).size ≤ 16
  a1 : 1 < pSlot c s
  a2 : pSlot c s + 1 < pChunk c (pOf c (slotOf (g (pSlot c s))).addr) + 1
  a3 : pChunk c (pOf c (slotOf (g (pSlot c s))).addr) + 1 < (slotOf (g (pSlot c s))).addr
  a4 : (slotOf (g (pSlot c s))).addr + (headOf (g (slotOf (g (pSlot c s))).addr)).size < L

theorem Drop.solo {c : Cfg} {who : Int} {L : Int} {g : Int → Nat} {n : Nat} {own : Bool} {s st : Int} {m : Mem} (hm : m.Is L g st) (hc : Drop.Can c L g n own s) :
    ∃ d' m' st', Drop.loop c who 200 m (Drop.new n own) = (d', m') ∧ d'.out.e = 0 ∧ m'.Is L (dropped c g s) st' ∧ st < st' ∧ st' ≤ st + 60 := by
  obtain ⟨hn, hs, hlive, hown, hsize, a1, a2, a3, a4⟩ := hc
  generalize hS : pSlot c s = S at *
  generalize hw : g S = w at *
  generalize hA : (slotOf w).addr = A at *
  generalize hG : (slotOf w).gen = gen at *
  generalize hK : pChunk c (pOf c A) + 1 = K at *
  have hhd := headOf_range (g A)
  generalize hZ : (headOf (g A)).size = size at *
  obtain ⟨u1, u2, u3⟩ := slotOf_upd w
  rw [hA] at u1
  rw [hG] at u2
  generalize hw' : putSlot { slotOf w with state := 4, ver := (slotOf w).ver + 1 } = w' at *
  -- 0
  obtain ⟨m1, e1, h1⟩ := hm.load who (a := S) (by omega)
  have hl : Fl.live (slotOf w) ⟨s, gen⟩ = true := by simp only [Fl.live, decide_eq_true_eq]; exact ⟨by rcases hlive with h | h <;> simp [h], hG⟩
  have s0 : Drop.step c who m (Drop.new n own) = (false, ⟨n, own, ⟨s, gen⟩, 1, w, 0, Help.new 0 0 0, ⟨0, 0, 0⟩, ⟨0, 0, 0, 0⟩⟩, m1) := by
    have : ¬ (s ≥ c.slots) := by omega
    simp [Drop.step, Drop.new, hn, this, hS, e1, hw, hl]
  -- 1
  obtain ⟨m2, e2, h2⟩ := h1.load who (a := A) (by omega)
  have hst4 : ¬ (slotOf w).state = 4 := by omega
  have s1 : Drop.step c who m1 ⟨n, own, ⟨s, gen⟩, 1, w, 0, Help.new 0 0 0, ⟨0, 0, 0⟩, ⟨0, 0, 0, 0⟩⟩ = (false, ⟨n, own, ⟨s, gen⟩, 2, w, size, Help.new 0 0 0, ⟨0, 0, 0⟩, ⟨0, 0, 0, 0⟩⟩, m2) := by
    simp [Drop.step, hA, e2, hown, hZ, hst4]
  -- 2
  obtain ⟨m3, e3, h3⟩ := h2.cas who (a := S) (by omega) w w' hw
  have s2 : Drop.step c who m2 ⟨n, own, ⟨s, gen⟩, 2, w, size, Help.new 0 0 0, ⟨0, 0, 0⟩, ⟨0, 0, 0, 0⟩⟩ = (false, ⟨n, own, ⟨s, gen⟩, 3, w, size, ⟨s, w', size, 0, 0, false, false⟩, ⟨0, 0, 0⟩, ⟨0, 0, 0, 0⟩⟩, m3) := by
    simp [Drop.step, hS, hw', e3, Help.new]
  -- 3
  have hf0 : m3.Is L (frozen (upd g S w') A 0 (slotOf w').ver) (st + 1 + 1 + 1) := h3.congr (fun b _ _ => by simp only [frozen]; rw [if_neg (by omega)])
  obtain ⟨j, m4, x', b1, b3, b4⟩ := Drop.cells (c := c) (who := who) (n := n) (own := own) (h := ⟨s, gen⟩) (w0 := w) (gv := ⟨0, 0, 0⟩) (out := ⟨0, 0, 0, 0⟩) u1 (by omega) a4 (by omega) size.toNat 0 0 m3 _ (by omega) (by omega) hf0
  have hwS : frozen (upd g S w') A size (slotOf w').ver S = w' := by simp only [frozen]; rw [if_neg (by omega), upd_same]
  obtain ⟨m5, e5, h5⟩ := b4.cas who (a := S) (by omega) w' (putSlot (nextOf c gen)) hwS
  have hh : Help.step c who m4 ⟨s, w', size, size, x', false, false⟩ = (true, ⟨s, w', size, size, x', false, true⟩, m5) := help_last u2 hS e5
  have s3 : Drop.step c who m4 ⟨n, own, ⟨s, gen⟩, 3, w, size, ⟨s, w', size, size, x', false, false⟩, ⟨0, 0, 0⟩, ⟨0, 0, 0, 0⟩⟩ = (false, ⟨n, own, ⟨s, gen⟩, 5, w, size, ⟨s, w', size, size, x', false, true⟩, ⟨0, 0, 0⟩, ⟨0, 0, 0, m5.wh S⟩⟩, m5) := by
    simp only [Drop.step, hh, hS]; simp
  -- 5
  have h6 := h5.add who (a := K) (by omega) (-(room (cls size)))
  have s5 : Drop.step c who m5 ⟨n, own, ⟨s, gen⟩, 5, w, size, ⟨s, w', size, size, x', false, true⟩, ⟨0, 0, 0⟩, ⟨0, 0, 0, m5.wh S⟩⟩ = (decide (gen ≥ c.gens), ⟨n, own, ⟨s, gen⟩, 6, w, size, ⟨s, w', size, size, x', false, true⟩, ⟨0, s, 0⟩, ⟨0, 0, 0, m5.wh S⟩⟩, m5.add who K (-(room (cls size)))) := by
    simp [Drop.step, hA, hK]
  have hg6 : ∀ b, upd (upd (frozen (upd g S w') A size (slotOf w').ver) S (putSlot (nextOf c gen))) K ((upd (frozen (upd g S w') A size (slotOf w').ver) S (putSlot (nextOf c gen)) K + u64 (-(room (cls size)))) % 18446744073709551616) b
      = if A < b ∧ b ≤ A + size then frz (slotOf w').ver (g b) else if b = S then putSlot (nextOf c gen) else if b = K then (g b + u64 (-(room (cls size)))) % 18446744073709551616 else g b := by
    intro b
    have hKv : upd (frozen (upd g S w') A size (slotOf w').ver) S (putSlot (nextOf c gen)) K = g K := by
      rw [upd_other (by omega)]; simp only [frozen]; rw [if_neg (by omega), upd_other (by omega)]
    rw [hKv]
    by_cases hb : b = K
    · subst hb; rw [upd_same, if_neg (by omega), if_neg (by omega), if_pos rfl]
    · rw [upd_other hb]
      by_cases hb2 : b = S
      · subst hb2; rw [upd_same, if_neg (by omega), if_pos rfl]
      · rw [upd_other hb2, if_neg hb2, if_neg hb]
        simp only [frozen]
        rw [upd_other hb2]
  have h6' := h6.congr (fun b _ _ => hg6 b)
  have hrun := (((Drop.To.one s0).trans (Drop.To.one s1)).trans (Drop.To.one s2)).trans (b3.trans (Drop.To.one s3))
  have hw2 := hw'
  simp only [hA, hG] at hw2
  by_cases hge : gen ≥ c.gens
  · have hd : decide (gen ≥ c.gens) = true := decide_eq_true hge
    rw [hd] at s5
    have e200 : 200 = (195 - j) + 1 + (1 + 1 + 1 + (j + 1)) := by omega
    refine ⟨_, _, _, by rw [e200]; exact (hrun _).trans (Drop.stop s5), rfl, h6'.congr (fun b _ _ => ?_), by omega, by omega⟩
    simp only [dropped, hS, hw, hA, hG, hZ, hK, hw2, if_pos hge]
  · have hd : decide (gen ≥ c.gens) = false := decide_eq_false hge
    rw [hd] at s5
    -- 6
    obtain ⟨m7, e7, h7⟩ := h6'.load who (a := 1) (by omega)
    rw [if_neg (by omega), if_neg (by omega), if_neg (by omega)] at e7
    have s6 : Drop.step c who (m5.add who K (-(room (cls size)))) ⟨n, own, ⟨s, gen⟩, 6, w, size, ⟨s, w', size, size, x', false, true⟩, ⟨0, s, 0⟩, ⟨0, 0, 0, m5.wh S⟩⟩ = (false, ⟨n, own, ⟨s, gen⟩, 6, w, size, ⟨s, w', size, size, x', false, true⟩, ⟨1, s, g 1⟩, ⟨0, 0, 0, m5.wh S⟩⟩, m7) := by
      simp [Drop.step, Give.step, e7]
    have h8 := h7.store who (a := S + 1) (by omega) (putTop (topOf (g 1)).1 0)
    have s7 : Drop.step c who m7 ⟨n, own, ⟨s, gen⟩, 6, w, size, ⟨s, w', size, size, x', false, true⟩, ⟨1, s, g 1⟩, ⟨0, 0, 0, m5.wh S⟩⟩ = (false, ⟨n, own, ⟨s, gen⟩, 6, w, size, ⟨s, w', size, size, x', false, true⟩, ⟨2, s, g 1⟩, ⟨0, 0, 0, m5.wh S⟩⟩, m7.store who (S + 1) (putTop (topOf (g 1)).1 0)) := by
      simp [Drop.step, Give.step, hS]
    obtain ⟨m9, e9, h9⟩ := h8.cas who (a := 1) (by omega) (g 1) (putTop s ((topOf (g 1)).2 + 1)) (by
      rw [upd_other (by omega)]; rw [if_neg (by omega), if_neg (by omega), if_neg (by omega)])
    have s8 : Drop.step c who (m7.store who (S + 1) (putTop (topOf (g 1)).1 0)) ⟨n, own, ⟨s, gen⟩, 6, w, size, ⟨s, w', size, size, x', false, true⟩, ⟨2, s, g 1⟩, ⟨0, 0, 0, m5.wh S⟩⟩ = (true, ⟨n, own, ⟨s, gen⟩, 6, w, size, ⟨s, w', size, size, x', false, true⟩, ⟨0, s, g 1⟩, ⟨0, 0, 0, m5.wh S⟩⟩, m9) := by
      simp [Drop.step, Give.step, e9]
    have e200 : 200 = (192 - j) + 1 + (1 + 1 + 1 + (j + 1) + 1 + 1 + 1) := by omega
    refine ⟨_, _, _, by rw [e200]; exact ((((hrun.trans (Drop.To.one s5)).trans (Drop.To.one s6)).trans (Drop.To.one s7)) _).trans (Drop.stop s8), rfl, h9.congr (fun b _ _ => ?_), by omega, by omega⟩
    simp only [dropped, hS, hw, hA, hG, hZ, hK, hw2, if_neg hge]
    by_cases hb1 : b = 1
    · subst hb1
      rw [upd_same, if_neg (by omega), if_neg (by omega), if_neg (by omega), if_neg (by omega), if_pos rfl]
    · rw [upd_other hb1, if_neg hb1]
      by_cases hb2 : b = S + 1
      · subst hb2; rw [upd_same, if_neg (by omega), if_neg (by omega), if_neg (by omega), if_pos rfl]
      · rw [upd_other hb2, if_neg hb2]

/-- Whoever lets go by a handle of nothing changes nothing. -/
theorem Drop.none {c : Cfg} {who : Int} {L : Int} {g : Int → Nat} {n : Nat} {own : Bool} {st : Int} {m : Mem} (hm : m.Is L g st)
    (hno : (handle n).2 = false ∨ (handle n).1.slot ≥ c.slots ∨ (0 ≤ pSlot c (handle n).1.slot ∧ pSlot c (handle n).1.slot < L ∧ (Fl.live (slotOf (g (pSlot c (handle n).1.slot))) (handle n).1 = false ∨
      (0 ≤ (slotOf (g (pSlot c (handle n).1.slot))).addr ∧ (slotOf (g (pSlot c (handle n).1.slot))).addr < L ∧ (headOf (g (slotOf (g (pSlot c (handle n).1.slot))).addr)).own ≠ own)))) :
    ∃ d' m' st', Drop.loop c who 200 m (Drop.new n own) = (d', m') ∧ d'.out.e = 3 ∧ m'.Is L g st' ∧ st ≤ st' ∧ st' ≤ st + 2 := by
  generalize hh : handle n = h at *
  obtain ⟨⟨s, gen⟩, ok⟩ := h
  simp only at hno
  by_cases h1 : ok = false ∨ s ≥ c.slots
  · have s0 : Drop.step c who m (Drop.new n own) = (true, ⟨n, own, ⟨s, gen⟩, 0, 0, 0, Help.new 0 0 0, ⟨0, 0, 0⟩, ⟨3, 0, 0, m.steps⟩⟩, m) := by
      simp only [Drop.step, Drop.new, hh, if_pos h1, Drop.invalid]; rfl
    exact ⟨_, _, _, Drop.stop s0, rfl, hm, by omega, by omega⟩
  · rcases hno with h | h | ⟨p0, p1, h⟩
    · exact absurd (Or.inl h) h1
    · exact absurd (Or.inr h) h1
    obtain ⟨m1, e1, g1⟩ := hm.load who ⟨p0, p1⟩
    rcases h with h | ⟨q0, q1, q2⟩
    · have s0 : Drop.step c who m (Drop.new n own) = (true, ⟨n, own, ⟨s, gen⟩, 0, g (pSlot c s), 0, Help.new 0 0 0, ⟨0, 0, 0⟩, ⟨3, 0, 0, m1.steps⟩⟩, m1) := by
        simp only [Drop.step, Drop.new, hh, if_neg h1, e1, if_pos h, Drop.invalid]; rfl
      exact ⟨_, _, _, Drop.stop s0, rfl, g1, by omega, by omega⟩
    · by_cases h : Fl.live (slotOf (g (pSlot c s))) ⟨s, gen⟩ = false
      · have s0 : Drop.step c who m (Drop.new n own) = (true, ⟨n, own, ⟨s, gen⟩, 0, g (pSlot c s), 0, Help.new 0 0 0, ⟨0, 0, 0⟩, ⟨3, 0, 0, m1.steps⟩⟩, m1) := by
          simp only [Drop.step, Drop.new, hh, if_neg h1, e1, if_pos h, Drop.invalid]; rfl
        exact ⟨_, _, _, Drop.stop s0, rfl, g1, by omega, by omega⟩
      · have s0 : Drop.step c who m (Drop.new n own) = (false, ⟨n, own, ⟨s, gen⟩, 1, g (pSlot c s), 0, Help.new 0 0 0, ⟨0, 0, 0⟩, ⟨0, 0, 0, 0⟩⟩, m1) := by
          simp only [Drop.step, Drop.new, hh, if_neg h1, e1, if_neg h]; rfl
        obtain ⟨m2, e2, g2⟩ := g1.load who ⟨q0, q1⟩
        have s1 : Drop.step c who m1 ⟨n, own, ⟨s, gen⟩, 1, g (pSlot c s), 0, Help.new 0 0 0, ⟨0, 0, 0⟩, ⟨0, 0, 0, 0⟩⟩ = (true, ⟨n, own, ⟨s, gen⟩, 1, g (pSlot c s), 0, Help.new 0 0 0, ⟨0, 0, 0⟩, ⟨3, 0, 0, m2.steps⟩⟩, m2) := by
          simp [Drop.step, e2, q2, Drop.invalid]
        exact ⟨_, _, _, (Drop.next s0).trans (Drop.stop s1), rfl, g2, by omega, by omega⟩

end Go.Proofs.Ythblhgappldcjaa.Fl
