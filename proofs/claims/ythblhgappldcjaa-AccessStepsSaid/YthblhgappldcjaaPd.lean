/- The plain law of DropMoving. No program in sight. -/
import Derived.Test.YthblhgappldcjaaPc
namespace Go.Proofs.Ythblhgappldcjaa.Fl
set_option linter.unusedVariables false

def cM : Cfg := ⟨1, 4, 4, 20, 100, 600, 3⟩
def LM : Int := 107
theorem shM : Shape cM LM := ⟨by simp [cM], by simp [cM], by simp [cM], by simp [cM], by simp [cM, LM, pLen, pBase]⟩

def movA (n : Int) : Alloc × Mem := Alloc.loop cM 0 400 (fresh cM) (Alloc.new n false)
def movS (n v : Int) : Sl := { slotOf ((movA n).2.peek 7) with state := 2, ver := v }
def movM (n v : Int) : Mem := (movA n).2.store (movA n).2.who 7 (putSlot (movS n v))
def movD (n v : Int) : Drop × Mem := Drop.loop cM 0 200 (movM n v) (Drop.new 65536 false)
def movE (n v : Int) : Drop × Mem := Drop.loop cM 0 200 (movD n v).2 (Drop.new 65536 false)

/-- What the walk of DropMoving asks. -/
structure MovOk (n v : Int) : Prop where
  s1 : Alloc.safe cM 0 400 (fresh cM) (Alloc.new n false)
  h1 : (movA n).1.out.handle = 65536
  t1 : stepsOk (movA n).2
  s2 : Drop.safe cM 0 200 (movM n v) (Drop.new 65536 false)
  e2 : (movD n v).1.out.e = 0
  w2 : slotOf ((movD n v).2.peek 7) = ⟨0, 0, 2, 0⟩
  s3 : Drop.safe cM 0 200 (movD n v).2 (Drop.new 65536 false)
  e3 : (movE n v).1.out.e = 3

theorem fits_first {c : Cfg} {L : Int} (sh : Shape c L) (hw : 17 ≤ c.words) {cl : Int} (hcl : 0 ≤ cl ∧ cl ≤ 3) : Fits c (freshG c) cl 0 0 1 1 := by
  have hr := room_pos hcl.1 hcl.2
  have z : ∀ b, b ≠ 1 → (b < pSlot c 0 ∨ pSlot c c.slots ≤ b) → freshG c b = 0 := by
    intro b h1 h2
    have := sh.s
    rw [freshG, upd_other h1, upd_other (by simp only [pSlot] at *; omega), slotG, if_neg (by omega)]
  have zo : freshG c (pOpen cl) = 0 := z _ (by simp only [pOpen]; omega) (by have := sh.t; simp only [pOpen, pSlot]; omega)
  have zc : freshG c (pChunk c 0) = 0 := z _ (by have := sh.t; have := sh.s; simp only [pChunk]; omega) (by simp only [pChunk, pSlot]; omega)
  refine ⟨by have := sh.k; omega, by omega, by omega, by omega, Or.inr ⟨by decide, rfl, Or.inl zo, fun j h0 h1 => by omega, ?_, ?_⟩⟩
  · rw [zc]; decide
  · rw [zc]; decide

theorem mov_ok {n v : Int} (hn : 1 ≤ n ∧ n ≤ 16) (hv : 0 ≤ v ∧ v ≤ 65535) : MovOk n v := by
  have ps : pSlot cM 0 = 7 := by simp [pSlot, cM]
  have hcr := cls_room hn
  have t0 : topOf (freshG cM 1) = (0, 0) := by rw [freshG, upd_same]; decide
  have l0 : topOf (freshG cM 8) = (1, 0) := by decide
  have w0 : slotOf (freshG cM 7) = ⟨0, 0, 1, 0⟩ := by decide
  obtain ⟨a, m1, st1, r1, r2, r3, r4, r5, r6, r7⟩ := Alloc.solo (who := 0) (own := false) (size := n) (s := 0) shM (fresh_is shM) (by simp [cM]) hn (by rw [t0]) (by simp [cM]) (fits_first shM (by simp [cM]) ⟨hcr.1, hcr.2.1⟩)
  rw [show (2 * cM.slots + 2 : Int) = 10 from by decide] at r6 r7
  rw [ps, w0] at r4
  have hA : pBase cM 0 + 0 = 27 := by simp [pBase, cM]
  have hck : pChunk cM 0 = 15 := by simp [pChunk, cM]
  generalize hg1 : madeG cM (freshG cM) 0 n false 0 0 1 1 = g1 at *
  have g7 : g1 7 = putSlot ⟨1, 27, 1, 0⟩ := by rw [← hg1]; simp only [madeG, ps, w0, hA, hck]; simp
  have gA : g1 27 = putHead ⟨2, n, 0, 1, false⟩ := by rw [← hg1]; simp only [madeG, ps, w0, hA, hck]; simp
  have hS : movS n v = ⟨2, 27, 1, v⟩ := by
    simp only [movS, movA, r1]
    rw [r5.peek (by decide), g7, slotOf_putSlot (by simp only; omega)]
  have h2 := r5.store m1.who (a := 7) (by decide) (putSlot ⟨2, 27, 1, v⟩)
  have e2 : movM n v = m1.store m1.who 7 (putSlot ⟨2, 27, 1, v⟩) := by
    simp only [movM, hS, movA, r1]
  rw [← e2] at h2
  have hof : pOf cM 27 = 0 := by decide
  have gs : slotOf (upd g1 7 (putSlot ⟨2, 27, 1, v⟩) 7) = ⟨2, 27, 1, v⟩ := by rw [upd_same]; exact slotOf_putSlot (by simp only; omega)
  have gh : headOf (upd g1 7 (putSlot ⟨2, 27, 1, v⟩) 27) = ⟨2, n, 0, 1, false⟩ := by rw [upd_other (by omega), gA]; exact headOf_putHead (by simp only; omega)
  have can : Drop.Can cM LM (upd g1 7 (putSlot ⟨2, 27, 1, v⟩)) 65536 false 0 := by
    refine ⟨?_, by simp [cM], ?_, ?_, ?_, ?_, ?_, ?_, ?_⟩
    · rw [ps, gs]; exact (by decide : handle 65536 = (⟨0, 1⟩, true))
    · rw [ps, gs]; simp
    · rw [ps, gs, gh]
    · rw [ps, gs, gh]; simp only; omega
    · rw [ps]; decide
    · rw [ps, gs]; simp only; rw [hof, hck]; omega
    · rw [ps, gs]; simp only; rw [hof, hck]; omega
    · rw [ps, gs]; simp only; rw [gh]; simp only [LM]; omega
  obtain ⟨d, m2, st2, q1, q2, q3, q4, q5⟩ := Drop.solo (who := 0) h2 can
  have w2 : dropped cM (upd g1 7 (putSlot ⟨2, 27, 1, v⟩)) 0 7 = putSlot ⟨0, 0, 2, 0⟩ := by
    simp only [dropped, ps, gs, gh]
    rw [if_neg (by omega), if_pos trivial]; decide
  have eD : movD n v = (d, m2) := q1
  have s3 : slotOf (putSlot ⟨0, 0, 2, 0⟩) = ⟨0, 0, 2, 0⟩ := by decide
  obtain ⟨d3, m3, st3, p1, p2, p3, p4, p5⟩ := Drop.none (c := cM) (who := 0) (n := 65536) (own := false) q3 (by
    have hh : handle 65536 = (⟨0, 1⟩, true) := by decide
    rw [hh]; refine Or.inr (Or.inr ⟨by simp only [ps]; decide, by simp only [ps]; decide, Or.inl ?_⟩)
    simp only [ps, w2, s3]; decide)
  have f1 := r5.steps
  have f2 := h2.steps
  have f3 := q3.steps
  refine ⟨r2, ?_, ?_, Drop.safe_steps _ _ _ _ _ (by omega) (by omega), by rw [eD]; exact q2, ?_, by rw [eD]; exact Drop.safe_steps _ _ _ _ _ (by simp only; omega) (by simp only; omega), ?_⟩
  · simp only [movA, r1]; rw [r4]; decide
  · simp only [movA, r1]; unfold stepsOk; omega
  · rw [eD]; simp only; rw [q3.peek (by decide), w2, s3]
  · simp only [movE, eD, p1]; exact p2

end Go.Proofs.Ythblhgappldcjaa.Fl
