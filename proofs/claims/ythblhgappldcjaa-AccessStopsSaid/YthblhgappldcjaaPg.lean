/- The plain law of AccessStops. No program in sight. -/
import Derived.Test.YthblhgappldcjaaPf
import Derived.Test.YthblhgappldcjaaNa
namespace Go.Proofs.Ythblhgappldcjaa.Fl
set_option linter.unusedVariables false

theorem shA : Shape cA 61 := ⟨by simp [cA], by simp [cA], by simp [cA], by simp [cA], by simp [cA, pLen, pBase]⟩

theorem m1A_is : ∃ g st, m1A.Is 61 g st ∧ 0 ≤ st ∧ st ≤ 100 ∧ g 7 = putSlot ⟨1, 21, 1, 0⟩ ∧ g 21 = putHead ⟨2, 2, 0, 1, false⟩ ∧ g 22 = 0 ∧ g 23 = 0 := by
  have ps : pSlot cA 0 = 7 := by simp [pSlot, cA]
  have t0 : topOf (freshG cA 1) = (0, 0) := by rw [freshG, upd_same]; decide
  have w0 : slotOf (freshG cA 7) = ⟨0, 0, 1, 0⟩ := by decide
  obtain ⟨a, m1, st1, r1, r2, r3, r4, r5, r6, r7⟩ := Alloc.solo (who := 0) (own := false) (size := 2) (s := 0) shA (fresh_is shA) (by simp [cA]) (by omega) (by rw [t0]) (by simp [cA]) (fits_first shA (by simp [cA]) (by decide))
  rw [show (2 * cA.slots + 2 : Int) = 10 from by decide] at r6 r7
  have hA : pBase cA 0 + 0 = 21 := by simp [pBase, cA]
  have hck : pChunk cA 0 = 15 := by simp [pChunk, cA]
  have hm : m1A = m1 := by unfold m1A; rw [r1]
  refine ⟨_, st1, by rw [hm]; exact r5, by omega, by omega, ?_, ?_, ?_, ?_⟩
  · simp only [madeG, ps, w0, hA, hck]; simp
  · simp only [madeG, ps, w0, hA, hck]; simp
  · simp only [madeG, ps, w0, hA, hck]; decide
  · simp only [madeG, ps, w0, hA, hck]; decide

def st1 (v : Int) : Mem := m1A.store m1A.who 7 (putSlot ⟨2, 21, 1, v⟩)
def st2 (v : Int) : Bool → Mem
  | true => (st1 v).store (st1 v).who 22 (putCell ⟨3, true, v⟩)
  | false => st1 v
def stX (k : Int) : Want := ⟨1 + k, 65536, 0, 9, 0⟩
def stD (k v : Int) (fz : Bool) : Access × Mem := Access.loop cA 0 200 (st2 v fz) (Access.new (stX k) false)

structure StopsOk (k v : Int) (fz : Bool) : Prop where
  t1 : stepsOk m1A
  s1 : slotOf (m1A.peek 7) = ⟨1, 21, 1, 0⟩
  t2 : stepsOk (st1 v)
  t3 : 0 ≤ (st2 v fz).steps ∧ (st2 v fz).steps + 200 < 4611686018427387904
  e : (stD k v fz).1.out.e = 0
  value : (stD k v fz).1.out.value = if fz = true then 3 else 0
  now : slotOf ((stD k v fz).2.peek 7) = if k = 1 ∧ fz = true then ⟨1, 21, 1, v + 1⟩ else ⟨2, 21, 1, v⟩
  cell : cellOf ((stD k v fz).2.peek 22) = if k = 1 then ⟨9, false, 0⟩ else if fz = true then ⟨3, true, v⟩ else ⟨0, false, 0⟩

theorem sees_of {g : Int → Nat} {k v st : Int} (h7 : slotOf (g 7) = ⟨st, 21, 1, v⟩) (hst : st = 1 ∨ st = 2) (h21 : headOf (g 21) = ⟨2, 2, 0, 1, false⟩) : Access.Sees cA 61 g (stX k) false 0 ⟨st, 21, 1, v⟩ 2 := by
  have ps : pSlot cA 0 = 7 := by simp [pSlot, cA]
  exact ⟨by simp only [stX]; decide, by decide, by rw [ps]; exact h7, hst, by rw [h21], by rw [h21], by rw [ps]; decide, by simp only; decide⟩

theorem stops_ok {k v : Int} (fz : Bool) (hk : k = 0 ∨ k = 1) (hv : 0 ≤ v ∧ v ≤ 65535) : StopsOk k v fz := by
  have ps : pSlot cA 0 = 7 := by simp [pSlot, cA]
  obtain ⟨g, st, r1, r2, r3, r4, r5, r6, r7⟩ := m1A_is
  have i1 := r1.store m1A.who (a := 7) (by omega) (putSlot ⟨2, 21, 1, v⟩)
  have hm1 : st1 v = m1A.store m1A.who 7 (putSlot ⟨2, 21, 1, v⟩) := rfl
  rw [← hm1] at i1
  have f0 := r1.steps
  have f1 := i1.steps
  have a7 : slotOf (putSlot ⟨2, 21, 1, v⟩) = ⟨2, 21, 1, v⟩ := slotOf_putSlot (by simp only; omega)
  have a21 : headOf (putHead ⟨2, 2, 0, 1, false⟩) = ⟨2, 2, 0, 1, false⟩ := by decide
  have c9 : cellOf (putCell ⟨9, false, 0⟩) = ⟨9, false, 0⟩ := by decide
  have c0 : cellOf 0 = ⟨0, false, 0⟩ := by decide
  have c3 : cellOf (putCell ⟨3, true, v⟩) = ⟨3, true, v⟩ := cellOf_putCell (by simp only; omega) (by simp)
  have base : stepsOk m1A ∧ slotOf (m1A.peek 7) = ⟨1, 21, 1, 0⟩ ∧ stepsOk (st1 v) := ⟨by unfold stepsOk; omega, by rw [r1.peek (by omega), r4]; decide, by unfold stepsOk; omega⟩
  cases fz
  · have hm2 : st2 v false = st1 v := rfl
    rw [← hm2] at i1
    have sees := sees_of (k := k) (g := upd g 7 (putSlot ⟨2, 21, 1, v⟩)) (v := v) (st := 2) (by rw [upd_same, a7]) (Or.inr rfl) (by rw [upd_other (by omega), r5, a21])
    have g22 : upd g 7 (putSlot ⟨2, 21, 1, v⟩) (21 + 1 + (stX k).index) = 0 := by rw [show (21 + 1 + (stX k).index : Int) = 22 from rfl, upd_other (by omega), r6]
    rcases hk with rfl | rfl
    · obtain ⟨d, m', e1, e2, e3⟩ := Access.reads (who := 0) sees i1 (by simp [stX]) (Or.inl (by simp [stX]))
      have hD : stD 0 v false = (d, m') := e1
      refine ⟨base.1, base.2.1, base.2.2, by rw [i1.steps]; omega, by rw [hD]; simp only [e2, stX]; simp, by rw [hD]; simp only [e2, g22, c0]; simp, ?_, ?_⟩
      · rw [hD]; simp only; rw [e3.peek (by omega), upd_same, a7]; simp
      · rw [hD]; simp only; rw [e3.peek (by omega), upd_other (by omega), r6, c0]; simp
    · obtain ⟨d, m', e1, e2, e3⟩ := Access.writes (who := 0) sees i1 (by simp [stX]) (by simp [stX]) (Or.inl (by simp only [g22, c0]))
      have hD : stD 1 v false = (d, m') := e1
      refine ⟨base.1, base.2.1, base.2.2, by rw [i1.steps]; omega, by rw [hD]; simp only [e2], by rw [hD]; simp only [e2, g22, c0]; simp, ?_, ?_⟩
      · rw [hD]; simp only; rw [e3.peek (by omega), upd_other (by simp [stX]), upd_same, a7]; simp
      · rw [hD]; simp only; rw [e3.peek (by omega), show (21 + 1 + (stX 1).index : Int) = 22 from rfl, upd_same]; simp [stX, c9]
  · have i2 := i1.store (st1 v).who (a := 22) (by omega) (putCell ⟨3, true, v⟩)
    have hm2 : st2 v true = (st1 v).store (st1 v).who 22 (putCell ⟨3, true, v⟩) := rfl
    rw [← hm2] at i2
    generalize hG : upd (upd g 7 (putSlot ⟨2, 21, 1, v⟩)) 22 (putCell ⟨3, true, v⟩) = G at *
    have G7 : G 7 = putSlot ⟨2, 21, 1, v⟩ := by rw [← hG, upd_other (by omega), upd_same]
    have G21 : G 21 = putHead ⟨2, 2, 0, 1, false⟩ := by rw [← hG, upd_other (by omega), upd_other (by omega), r5]
    have G22 : G 22 = putCell ⟨3, true, v⟩ := by rw [← hG, upd_same]
    have sees := sees_of (k := k) (g := G) (v := v) (st := 2) (by rw [G7, a7]) (Or.inr rfl) (by rw [G21, a21])
    have g22 : G (21 + 1 + (stX k).index) = putCell ⟨3, true, v⟩ := G22
    rcases hk with rfl | rfl
    · obtain ⟨d, m', e1, e2, e3⟩ := Access.reads (who := 0) sees i2 (by simp [stX]) (Or.inl (by simp [stX]))
      have hD : stD 0 v true = (d, m') := e1
      refine ⟨base.1, base.2.1, base.2.2, by rw [i2.steps]; omega, by rw [hD]; simp only [e2, stX]; simp, by rw [hD]; simp only [e2, g22, c3]; simp, ?_, ?_⟩
      · rw [hD]; simp only; rw [e3.peek (by omega), G7, a7]; simp
      · rw [hD]; simp only; rw [e3.peek (by omega), G22, c3]; simp
    · -- the move is stopped first
      obtain ⟨m1, m2, s1, j1, s2, j2⟩ := Access.front (who := 0) sees i2 (by omega) ⟨0, 0⟩ 0 0 0 0 0 (Help.new 0 0 0) ⟨0, 0, 0, 0⟩
      rw [if_neg (by simp [stX])] at s2
      obtain ⟨m3, s3, j3⟩ := Access.look (who := 0) sees j2 (by simp [stX]) 0 (st + 1 + 1 + 1) 0 (Help.new 0 0 0) ⟨0, 0, 0, 0⟩ _ g22 3 (by rw [c3]; simp [stX])
      obtain ⟨m4, s4, j4⟩ := Access.stops (who := 0) sees j3 (putCell ⟨3, true, v⟩) (st + 1 + 1 + 1) (st + 1 + 1 + 2 + 1) (Help.new 0 0 0) ⟨0, 0, 0, 0⟩
      rw [ps] at j4
      generalize hK : upd G 7 (putSlot { (⟨2, 21, 1, v⟩ : Sl) with state := 1, ver := v + 1 }) = K at *
      have b7 : slotOf (putSlot ⟨1, 21, 1, v + 1⟩) = ⟨1, 21, 1, v + 1⟩ := slotOf_putSlot (by simp only; omega)
      have K7 : K 7 = putSlot ⟨1, 21, 1, v + 1⟩ := by rw [← hK, upd_same]
      have K21 : K 21 = putHead ⟨2, 2, 0, 1, false⟩ := by rw [← hK, upd_other (by omega), G21]
      have K22 : K (21 + 1 + (stX 1).index) = putCell ⟨3, true, v⟩ := by rw [← hK, show (21 + 1 + (stX 1).index : Int) = 22 from rfl, upd_other (by omega), G22]
      have sees2 := sees_of (k := 1) (g := K) (v := v + 1) (st := 1) (by rw [K7, b7]) (Or.inl rfl) (by rw [K21, a21])
      obtain ⟨m5, m6, s5, j5, s6, j6⟩ := Access.front (who := 0) sees2 j4 (by omega) ⟨0, 1⟩ (G (pSlot cA 0)) (putCell ⟨3, true, v⟩) (st + 1 + 1 + 1) (st + 1 + 1 + 2 + 1) 2 (Help.new 0 0 0) ⟨0, 0, 0, 0⟩
      rw [if_neg (by simp [stX])] at s6
      obtain ⟨m7, s7, j7⟩ := Access.look (who := 0) sees2 j6 (by simp [stX]) (putCell ⟨3, true, v⟩) (st + 1 + 1 + 2 + 1 + 1 + 1) (st + 1 + 1 + 2 + 1) (Help.new 0 0 0) ⟨0, 0, 0, 0⟩ _ K22 5 (by rw [c3]; simp [stX]; omega)
      obtain ⟨m8, s8, j8⟩ := Access.lays (who := 0) sees2 j7 (by simp [stX]) (putCell ⟨3, true, v⟩) (st + 1 + 1 + 2 + 1 + 1 + 1) (st + 1 + 1 + 2 + 1 + 1 + 2 + 1) (Help.new 0 0 0) ⟨0, 0, 0, 0⟩ K22
      have hrun := (((((((Access.To.one s1).trans (Access.To.one s2)).trans (Access.To.one s3)).trans (Access.To.one s4)).trans (Access.To.one s5)).trans (Access.To.one s6)).trans (Access.To.one s7)) 193
      have e200 : 200 = 193 + (1 + 1 + 1 + 1 + 1 + 1 + 1) := rfl
      have hL := hrun.trans (Access.stop (k := 192) s8)
      rw [← e200] at hL
      have hD : stD 1 v true = _ := hL
      refine ⟨base.1, base.2.1, base.2.2, by rw [i2.steps]; omega, by rw [hD], by rw [hD]; simp only [c3]; simp, ?_, ?_⟩
      · rw [hD]; simp only; rw [j8.peek (by omega), upd_other (by simp [stX]), K7, b7]; simp
      · rw [hD]; simp only; rw [j8.peek (by omega), show (21 + 1 + (stX 1).index : Int) = 22 from rfl, upd_same]; simp [stX, c9]

end Go.Proofs.Ythblhgappldcjaa.Fl
