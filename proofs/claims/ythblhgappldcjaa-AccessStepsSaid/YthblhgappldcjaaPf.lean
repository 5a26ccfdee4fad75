/- Somebody alone who reads or lays a word of an object that lives. No program in sight. -/
import Derived.Test.YthblhgappldcjaaPe
namespace Go.Proofs.Ythblhgappldcjaa.Fl
set_option linter.unusedVariables false

def Access.To (c : Cfg) (who : Int) (j : Nat) (m : Mem) (d : Access) (m' : Mem) (d' : Access) : Prop := ∀ k, Access.loop c who (k + j) m d = Access.loop c who k m' d'
theorem Access.To.trans {c : Cfg} {who : Int} {i j : Nat} {m m1 m2 : Mem} {d d1 d2 : Access} (h : Access.To c who i m d m1 d1) (h' : Access.To c who j m1 d1 m2 d2) : Access.To c who (i + j) m d m2 d2 := by
  intro k
  have e : k + (i + j) = k + j + i := by omega
  rw [e]
  exact (h (k + j)).trans (h' k)
theorem Access.To.one {c : Cfg} {who : Int} {m m' : Mem} {d d' : Access} (h : d.step c who m = (false, d', m')) : Access.To c who 1 m d m' d' := fun k => Access.next' h

/-- An object that lives, as somebody sees it who has its handle. -/
structure Access.Sees (c : Cfg) (L : Int) (g : Int → Nat) (x : Want) (own : Bool) (s : Int) (sl : Sl) (size : Int) : Prop where
  hn : handle x.handle = (⟨s, sl.gen⟩, true)
  hs : 0 ≤ s ∧ s < c.slots
  hslot : slotOf (g (pSlot c s)) = sl
  hlive : sl.state = 1 ∨ sl.state = 2
  hown : (headOf (g sl.addr)).own = own
  hsize : (headOf (g sl.addr)).size = size
  sin : 0 ≤ pSlot c s ∧ pSlot c s < L
  ain : 0 ≤ sl.addr ∧ sl.addr + size < L

theorem live_of {sl : Sl} {s : Int} (h : sl.state = 1 ∨ sl.state = 2) : Fl.live sl ⟨s, sl.gen⟩ = true := by
  simp only [Fl.live, decide_eq_true_eq]; exact ⟨by rcases h with h | h <;> simp [h], trivial⟩

/-- The first two steps: the handle's word, the head. -/
theorem Access.front {c : Cfg} {who : Int} {L : Int} {g : Int → Nat} {x : Want} {own : Bool} {s : Int} {sl : Sl} {size st : Int} {m : Mem} (hc : Access.Sees c L g x own s sl size) (hm : m.Is L g st) (hz : 0 ≤ size)
    (h0 : Hd) (w0 cell0 : Nat) (seen0 read0 size0 : Int) (q0 : Help) (out : Done) :
    ∃ m1 m2, Access.step c who m ⟨x, own, h0, 0, w0, cell0, seen0, read0, size0, q0, out⟩ = (false, ⟨x, own, ⟨s, sl.gen⟩, 1, g (pSlot c s), cell0, st + 1, read0, size0, q0, out⟩, m1) ∧ m1.Is L g (st + 1) ∧
      Access.step c who m1 ⟨x, own, ⟨s, sl.gen⟩, 1, g (pSlot c s), cell0, st + 1, read0, size0, q0, out⟩ = (if x.index < 0 ∨ x.index ≥ size then (true, ⟨x, own, ⟨s, sl.gen⟩, 2, g (pSlot c s), cell0, st + 1, read0, size, q0, ⟨4, 0, 0, st + 1⟩⟩, m2) else (false, ⟨x, own, ⟨s, sl.gen⟩, 2, g (pSlot c s), cell0, st + 1, read0, size, q0, out⟩, m2)) ∧ m2.Is L g (st + 2) := by
  obtain ⟨hn, hs, hsl, hlv, ho, hsz, hsi, hai⟩ := hc
  obtain ⟨m1, e1, h1⟩ := hm.load who hsi
  obtain ⟨m2, e2, h2⟩ := h1.load who (a := sl.addr) (by omega)
  have hn0 : ¬ (s ≥ c.slots) := by omega
  have s1 := h1.steps
  refine ⟨m1, m2, ?_, h1, ?_, by rw [show st + 2 = st + 1 + 1 by omega]; exact h2⟩
  · simp [Access.step, hn, hn0, e1, hsl, live_of hlv, s1]
  · simp [Access.step, hsl, e2, ho, hsz, Access.fin]

/-- The word is read, and what is next. -/
theorem Access.look {c : Cfg} {who : Int} {L : Int} {g : Int → Nat} {x : Want} {own : Bool} {s : Int} {sl : Sl} {size st : Int} {m : Mem} (hc : Access.Sees c L g x own s sl size) (hm : m.Is L g st) (hi : 0 ≤ x.index ∧ x.index < size)
    (cell0 : Nat) (seen0 read0 : Int) (q0 : Help) (out : Done) (cell : Nat) (hcell : g (sl.addr + 1 + x.index) = cell)
    (nx : Int) (hnx : (if x.kind = 1 ∨ (x.kind = 3 ∧ (cellOf cell).value ≠ x.old) then (6 : Int) else if sl.state = 4 then 4 else if (cellOf cell).frozen = false ∨ (cellOf cell).ver < sl.ver then 5 else if (cellOf cell).ver = sl.ver ∧ sl.state = 2 then 3 else 0) = nx) :
    ∃ m1, Access.step c who m ⟨x, own, ⟨s, sl.gen⟩, 2, g (pSlot c s), cell0, seen0, read0, size, q0, out⟩ = (false, ⟨x, own, ⟨s, sl.gen⟩, nx, g (pSlot c s), cell, seen0, st + 1, size, q0, out⟩, m1) ∧ m1.Is L g (st + 1) := by
  obtain ⟨hn, hs, hsl, hlv, ho, hsz, hsi, hai⟩ := hc
  obtain ⟨m1, e1, h1⟩ := hm.load who (a := sl.addr + 1 + x.index) (by omega)
  have s1 := h1.steps
  have h4 : ¬ sl.state = 4 := by omega
  refine ⟨m1, ?_, h1⟩
  have hnx4 : ¬ nx = 4 := by rw [← hnx, if_neg h4]; repeat' split
                             all_goals omega
  have hN : Access.next ⟨x, own, ⟨s, sl.gen⟩, 2, g (pSlot c s), cell, seen0, st + 1, size, q0, out⟩ = nx := by
    rw [← hnx]; unfold Access.next; simp only [hsl]
  simp [Access.step, Access.at_, hsl, e1, hcell, s1, hN, hnx4]

/-- A read that is checked. -/
theorem Access.checks {c : Cfg} {who : Int} {L : Int} {g : Int → Nat} {x : Want} {own : Bool} {s : Int} {sl : Sl} {size st : Int} {m : Mem} (hc : Access.Sees c L g x own s sl size) (hm : m.Is L g st)
    (cell0 : Nat) (seen0 read0 : Int) (q0 : Help) (out : Done) :
    ∃ m1, Access.step c who m ⟨x, own, ⟨s, sl.gen⟩, 6, g (pSlot c s), cell0, seen0, read0, size, q0, out⟩ = (true, ⟨x, own, ⟨s, sl.gen⟩, 6, g (pSlot c s), cell0, seen0, read0, size, q0, ⟨if x.kind = 3 then 8 else 0, 0, (cellOf cell0).value, read0⟩⟩, m1) ∧ m1.Is L g (st + 1) := by
  obtain ⟨hn, hs, hsl, hlv, ho, hsz, hsi, hai⟩ := hc
  obtain ⟨m1, e1, h1⟩ := hm.load who hsi
  refine ⟨m1, ?_, h1⟩
  by_cases h3 : x.kind = 3
  · simp [Access.step, e1, hsl, live_of hlv, h3, Access.fin]
  · simp [Access.step, e1, hsl, live_of hlv, h3, Access.fin]

/-- A word is laid. -/
theorem Access.lays {c : Cfg} {who : Int} {L : Int} {g : Int → Nat} {x : Want} {own : Bool} {s : Int} {sl : Sl} {size st : Int} {m : Mem} (hc : Access.Sees c L g x own s sl size) (hm : m.Is L g st) (hi : 0 ≤ x.index ∧ x.index < size)
    (cell : Nat) (seen0 read0 : Int) (q0 : Help) (out : Done) (hcell : g (sl.addr + 1 + x.index) = cell) :
    ∃ m1, Access.step c who m ⟨x, own, ⟨s, sl.gen⟩, 5, g (pSlot c s), cell, seen0, read0, size, q0, out⟩ = (true, ⟨x, own, ⟨s, sl.gen⟩, 0, g (pSlot c s), cell, seen0, read0, size, q0, ⟨0, 0, (cellOf cell).value, st + 1⟩⟩, m1) ∧ m1.Is L (upd g (sl.addr + 1 + x.index) (putCell ⟨x.value, false, 0⟩)) (st + 1) := by
  obtain ⟨hn, hs, hsl, hlv, ho, hsz, hsi, hai⟩ := hc
  obtain ⟨m1, e1, h1⟩ := hm.cas who (a := sl.addr + 1 + x.index) (by omega) cell (putCell ⟨x.value, false, 0⟩) hcell
  have s1 := h1.steps
  refine ⟨m1, ?_, h1⟩
  simp [Access.step, Access.at_, hsl, e1, s1, Access.fin]

/-- A move is stopped. -/
theorem Access.stops {c : Cfg} {who : Int} {L : Int} {g : Int → Nat} {x : Want} {own : Bool} {s : Int} {sl : Sl} {size st : Int} {m : Mem} (hc : Access.Sees c L g x own s sl size) (hm : m.Is L g st)
    (cell : Nat) (seen0 read0 : Int) (q0 : Help) (out : Done) :
    ∃ m1, Access.step c who m ⟨x, own, ⟨s, sl.gen⟩, 3, g (pSlot c s), cell, seen0, read0, size, q0, out⟩ = (false, ⟨x, own, ⟨s, sl.gen⟩, 0, g (pSlot c s), cell, seen0, read0, size, q0, out⟩, m1) ∧ m1.Is L (upd g (pSlot c s) (putSlot { sl with state := 1, ver := sl.ver + 1 })) (st + 1) := by
  obtain ⟨hn, hs, hsl, hlv, ho, hsz, hsi, hai⟩ := hc
  obtain ⟨m1, e1, h1⟩ := hm.cas who hsi (g (pSlot c s)) (putSlot { sl with state := 1, ver := sl.ver + 1 }) rfl
  refine ⟨m1, ?_, h1⟩
  simp [Access.step, hsl, e1]

/-- Reading, alone. -/
theorem Access.reads {c : Cfg} {who : Int} {L : Int} {g : Int → Nat} {x : Want} {own : Bool} {s : Int} {sl : Sl} {size st : Int} {m : Mem} (hc : Access.Sees c L g x own s sl size) (hm : m.Is L g st) (hi : 0 ≤ x.index ∧ x.index < size)
    (hk : x.kind = 1 ∨ (x.kind = 3 ∧ (cellOf (g (sl.addr + 1 + x.index))).value ≠ x.old)) :
    ∃ d' m', Access.loop c who 200 m (Access.new x own) = (d', m') ∧ d'.out = ⟨if x.kind = 3 then 8 else 0, 0, (cellOf (g (sl.addr + 1 + x.index))).value, st + 3⟩ ∧ m'.Is L g (st + 4) := by
  obtain ⟨m1, m2, s1, i1, s2, i2⟩ := Access.front (who := who) hc hm (by omega) ⟨0, 0⟩ 0 0 0 0 0 (Help.new 0 0 0) ⟨0, 0, 0, 0⟩
  rw [if_neg (by omega)] at s2
  obtain ⟨m3, s3, i3⟩ := Access.look (who := who) hc i2 hi 0 (st + 1) 0 (Help.new 0 0 0) ⟨0, 0, 0, 0⟩ _ rfl 6 (if_pos hk)
  obtain ⟨m4, s4, i4⟩ := Access.checks (who := who) hc i3 (g (sl.addr + 1 + x.index)) (st + 1) (st + 2 + 1) (Help.new 0 0 0) ⟨0, 0, 0, 0⟩
  refine ⟨_, _, (((Access.next' s1).trans (Access.next' s2)).trans (Access.next' s3)).trans (Access.stop s4), ?_, by rw [show st + 4 = st + 2 + 1 + 1 by omega]; exact i4⟩
  simp only [Done.mk.injEq, true_and]; omega

/-- A wrong place. -/
theorem Access.wrong {c : Cfg} {who : Int} {L : Int} {g : Int → Nat} {x : Want} {own : Bool} {s : Int} {sl : Sl} {size st : Int} {m : Mem} (hc : Access.Sees c L g x own s sl size) (hm : m.Is L g st) (hz : 0 ≤ size) (hi : x.index < 0 ∨ x.index ≥ size) :
    ∃ d' m', Access.loop c who 200 m (Access.new x own) = (d', m') ∧ d'.out = ⟨4, 0, 0, st + 1⟩ ∧ m'.Is L g (st + 2) := by
  obtain ⟨m1, m2, s1, i1, s2, i2⟩ := Access.front (who := who) hc hm hz ⟨0, 0⟩ 0 0 0 0 0 (Help.new 0 0 0) ⟨0, 0, 0, 0⟩
  rw [if_pos hi] at s2
  exact ⟨_, _, (Access.next' s1).trans (Access.stop s2), rfl, i2⟩

/-- Laying, alone, where nothing is moved or the cell is not frozen. -/
theorem Access.writes {c : Cfg} {who : Int} {L : Int} {g : Int → Nat} {x : Want} {own : Bool} {s : Int} {sl : Sl} {size st : Int} {m : Mem} (hc : Access.Sees c L g x own s sl size) (hm : m.Is L g st) (hi : 0 ≤ x.index ∧ x.index < size)
    (hk : ¬ (x.kind = 1 ∨ (x.kind = 3 ∧ (cellOf (g (sl.addr + 1 + x.index))).value ≠ x.old))) (hf : (cellOf (g (sl.addr + 1 + x.index))).frozen = false ∨ (cellOf (g (sl.addr + 1 + x.index))).ver < sl.ver) :
    ∃ d' m', Access.loop c who 200 m (Access.new x own) = (d', m') ∧ d'.out = ⟨0, 0, (cellOf (g (sl.addr + 1 + x.index))).value, st + 4⟩ ∧ m'.Is L (upd g (sl.addr + 1 + x.index) (putCell ⟨x.value, false, 0⟩)) (st + 4) := by
  have hlv := hc.hlive
  obtain ⟨m1, m2, s1, i1, s2, i2⟩ := Access.front (who := who) hc hm (by omega) ⟨0, 0⟩ 0 0 0 0 0 (Help.new 0 0 0) ⟨0, 0, 0, 0⟩
  rw [if_neg (by omega)] at s2
  obtain ⟨m3, s3, i3⟩ := Access.look (who := who) hc i2 hi 0 (st + 1) 0 (Help.new 0 0 0) ⟨0, 0, 0, 0⟩ _ rfl 5 (by rw [if_neg hk, if_neg (by omega), if_pos hf])
  obtain ⟨m4, s4, i4⟩ := Access.lays (who := who) hc i3 hi (g (sl.addr + 1 + x.index)) (st + 1) (st + 2 + 1) (Help.new 0 0 0) ⟨0, 0, 0, 0⟩ rfl
  refine ⟨_, _, (((Access.next' s1).trans (Access.next' s2)).trans (Access.next' s3)).trans (Access.stop s4), ?_, by rw [show st + 4 = st + 2 + 1 + 1 by omega]; exact i4⟩
  simp only [Done.mk.injEq, true_and]; omega

end Go.Proofs.Ythblhgappldcjaa.Fl
