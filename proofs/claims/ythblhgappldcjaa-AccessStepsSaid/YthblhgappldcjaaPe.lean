/- The plain law of AccessNone. No program in sight. -/
import Derived.Test.YthblhgappldcjaaPd
import Derived.Test.YthblhgappldcjaaXg
namespace Go.Proofs.Ythblhgappldcjaa.Fl
set_option linter.unusedVariables false

theorem Access.next' {c : Cfg} {who : Int} {k : Nat} {m m' : Mem} {d d' : Access} (h : d.step c who m = (false, d', m')) : Access.loop c who (k + 1) m d = Access.loop c who k m' d' := by
  rw [Access.loop, h]; rfl
theorem Access.stop {c : Cfg} {who : Int} {k : Nat} {m m' : Mem} {d d' : Access} (h : d.step c who m = (true, d', m')) : Access.loop c who (k + 1) m d = (d', m') := by
  rw [Access.loop, h]; rfl

/-- Whoever comes by a handle of nothing is told so, and changes nothing. -/
theorem Access.none {c : Cfg} {who : Int} {L : Int} {g : Int → Nat} {x : Want} {own : Bool} {st : Int} {m : Mem} (hm : m.Is L g st)
    (hno : (handle x.handle).2 = false ∨ (handle x.handle).1.slot ≥ c.slots ∨ (0 ≤ pSlot c (handle x.handle).1.slot ∧ pSlot c (handle x.handle).1.slot < L ∧ (Fl.live (slotOf (g (pSlot c (handle x.handle).1.slot))) (handle x.handle).1 = false ∨
      (0 ≤ (slotOf (g (pSlot c (handle x.handle).1.slot))).addr ∧ (slotOf (g (pSlot c (handle x.handle).1.slot))).addr < L ∧ (headOf (g (slotOf (g (pSlot c (handle x.handle).1.slot))).addr)).own ≠ own)))) :
    ∃ d' m' st', Access.loop c who 200 m (Access.new x own) = (d', m') ∧ d'.out.e = 3 ∧ d'.out.value = 0 ∧ m'.Is L g st' ∧ st ≤ st' ∧ st' ≤ st + 2 := by
  generalize hh : handle x.handle = h at *
  obtain ⟨⟨s, gen⟩, ok⟩ := h
  simp only at hno
  by_cases h1 : ok = false ∨ s ≥ c.slots
  · have s0 : Access.step c who m (Access.new x own) = (true, { Access.new x own with h := ⟨s, gen⟩, out := ⟨3, 0, 0, m.steps⟩ }, m) := by
      simp only [Access.step, Access.new, hh, if_pos h1, Access.fin]; rfl
    exact ⟨_, _, _, Access.stop s0, rfl, rfl, hm, by omega, by omega⟩
  · rcases hno with h | h | ⟨p0, p1, h⟩
    · exact absurd (Or.inl h) h1
    · exact absurd (Or.inr h) h1
    obtain ⟨m1, e1, g1⟩ := hm.load who ⟨p0, p1⟩
    by_cases h0 : Fl.live (slotOf (g (pSlot c s))) ⟨s, gen⟩ = false
    · have s0 : Access.step c who m (Access.new x own) = (true, { Access.new x own with h := ⟨s, gen⟩, w := g (pSlot c s), seen := m1.steps, pc := 1, out := ⟨3, 0, 0, m1.steps⟩ }, m1) := by
        simp only [Access.step, Access.new, hh, if_neg h1, e1, if_pos h0, Access.fin]; rfl
      exact ⟨_, _, _, Access.stop s0, rfl, rfl, g1, by omega, by omega⟩
    · rcases h with h | ⟨q0, q1, q2⟩
      · exact absurd h h0
      have s0 : Access.step c who m (Access.new x own) = (false, { Access.new x own with h := ⟨s, gen⟩, w := g (pSlot c s), seen := m1.steps, pc := 1 }, m1) := by
        simp only [Access.step, Access.new, hh, if_neg h1, e1, if_neg h0]; rfl
      obtain ⟨m2, e2, g2⟩ := g1.load who ⟨q0, q1⟩
      have s1 : Access.step c who m1 { Access.new x own with h := ⟨s, gen⟩, w := g (pSlot c s), seen := m1.steps, pc := 1 } = (true, { Access.new x own with h := ⟨s, gen⟩, w := g (pSlot c s), seen := m1.steps, pc := 2, size := (headOf (g (slotOf (g (pSlot c s))).addr)).size, out := ⟨3, 0, 0, m2.steps⟩ }, m2) := by
        simp [Access.step, Access.new, e2, q2, Access.fin]
      exact ⟨_, _, _, (Access.next' s0).trans (Access.stop s1), rfl, rfl, g2, by omega, by omega⟩

def cN : Cfg := ⟨1, 1, 1, 17, 100, 600, 3⟩
theorem shN : Shape cN 29 := ⟨by simp [cN], by simp [cN], by simp [cN], by simp [cN], by simp [cN, pLen, pBase]⟩

structure NoneOk (x : Want) : Prop where
  t : 0 ≤ (fresh cN).steps ∧ (fresh cN).steps + 200 < 4611686018427387904
  e : (Access.loop cN 0 200 (fresh cN) (Access.new x false)).1.out.e = 3

theorem none_ok (x : Want) : NoneOk x := by
  have hf := fresh_is shN
  have hr := handle_range x.handle
  obtain ⟨d, m, st, r1, r2, r3, r4, r5, r6⟩ := Access.none (c := cN) (who := 0) (x := x) (own := false) hf (by
    by_cases h1 : (handle x.handle).2 = false
    · exact Or.inl h1
    · by_cases h2 : (handle x.handle).1.slot ≥ cN.slots
      · exact Or.inr (Or.inl h2)
      · have hs : (handle x.handle).1.slot = 0 := by simp only [cN] at h2; omega
        have ps : pSlot cN 0 = 7 := by simp [pSlot, cN]
        refine Or.inr (Or.inr ?_)
        rw [hs, ps]
        refine ⟨by omega, by omega, Or.inl ?_⟩
        have : slotOf (freshG cN 7) = ⟨0, 0, 1, 0⟩ := by decide
        rw [this]; simp [live])
  refine ⟨by rw [hf.steps]; simp [cN], by rw [r1]; exact r2⟩

end Go.Proofs.Ythblhgappldcjaa.Fl
