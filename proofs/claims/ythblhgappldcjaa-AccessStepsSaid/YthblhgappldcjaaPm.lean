/- Handles that nobody made: the plain laws of DropForged and AccessForged. No program in sight. -/
import Derived.Test.YthblhgappldcjaaPl
import Derived.Test.YthblhgappldcjaaPe
namespace Go.Proofs.Ythblhgappldcjaa.Fl
set_option linter.unusedVariables false

theorem handle_back {n : Nat} (h : (handle n).2 = true) : n = putHandle (handle n).1 := by
  unfold handle at h ⊢
  by_cases hc : n / 4294967296 ≠ 0 ∨ n / 65536 = 0
  · rw [if_pos hc] at h; cases h
  · rw [if_neg hc]
    rw [putHandle_eq (by omega)]
    omega

/-- No living object is told by that handle, as Own or not. -/
structure Forged (h : Nat) (own : Bool) (i : Nat) (m : Mem) : Prop where
  out : ∃ (g : Int → Nat) (st : Int) (ob : Int → Ob), m.Is (LW 4) g st ∧ Arena 4 g ob ∧ 0 ≤ st ∧ st ≤ 100 + 100 * i ∧ ∀ s, 0 ≤ s → s < 8 → (ob s).live = true → ¬ (putHandle ⟨s, (ob s).gen⟩ = h ∧ (ob s).own = own)

theorem Forged.start (h : Nat) (own : Bool) : Forged h own 0 (fresh (cW 4)) :=
  ⟨_, _, ob0, fresh_is (shW (by omega)), Arena.fresh (by omega), by simp [cW], by simp [cW], fun s _ _ hl => by simp [ob0] at hl⟩

theorem Forged.steps {h : Nat} {own : Bool} {i : Nat} {m : Mem} (f : Forged h own i m) : 0 ≤ m.steps ∧ m.steps ≤ 100 + 100 * i := by
  obtain ⟨g, st, ob, h1, h2, h3, h4, h5⟩ := f.out
  rw [h1.steps]; omega

theorem Forged.make {h : Nat} {own : Bool} {i : Nat} {m : Mem} (f : Forged h own i m) (hi : i ≤ 1000) {size : Int} {o : Bool} (hz : 1 ≤ size ∧ size ≤ 16) :
    Alloc.safe (cW 4) 0 400 m (Alloc.new size o) ∧
    (¬ ((Alloc.loop (cW 4) 0 400 m (Alloc.new size o)).1.out.e = 0 ∧ (Alloc.loop (cW 4) 0 400 m (Alloc.new size o)).1.out.handle = h ∧ o = own) → Forged h own (i + 1) (Alloc.loop (cW 4) 0 400 m (Alloc.new size o)).2) := by
  obtain ⟨g, st, ob, h1, h2, h3, h4, h5⟩ := f.out
  obtain ⟨a', m', g', st', r1, r2, r3, r4, r5, r6⟩ := Arena.make (who := 0) (own := o) (by omega) h2 h1 (by omega) hz
  refine ⟨r2, fun hno => ?_⟩
  rw [r1] at hno ⊢
  simp only at hno ⊢
  rcases r6 with ⟨e0, s, k, A, s0, s8, sl, hh, hA, _⟩ | ⟨e0, hh, hA, _⟩
  · refine ⟨g', st', _, r3, hA, by omega, by omega, fun t t0 t8 tl hc => ?_⟩
    by_cases ht : t = s
    · subst ht
      rw [atI_same] at hc
      simp only at hc
      exact hno ⟨e0, hh.trans hc.1, hc.2⟩
    · rw [atI_other ht] at hc tl
      exact h5 t t0 t8 tl hc
  · exact ⟨g', st', ob, r3, hA, by omega, by omega, h5⟩

/-- What is not there by a handle, as Own or not. -/
theorem Arena.not {K : Int} {g : Int → Nat} {ob : Int → Ob} {h : Nat} {own : Bool} (hK : 1 ≤ K ∧ K ≤ 8) (A : Arena K g ob) (hn : ∀ s, 0 ≤ s → s < 8 → (ob s).live = true → ¬ (putHandle ⟨s, (ob s).gen⟩ = h ∧ (ob s).own = own)) :
    (handle h).2 = false ∨ (handle h).1.slot ≥ (cW K).slots ∨ (0 ≤ pSlot (cW K) (handle h).1.slot ∧ pSlot (cW K) (handle h).1.slot < LW K ∧ (Fl.live (slotOf (g (pSlot (cW K) (handle h).1.slot))) (handle h).1 = false ∨
      (0 ≤ (slotOf (g (pSlot (cW K) (handle h).1.slot))).addr ∧ (slotOf (g (pSlot (cW K) (handle h).1.slot))).addr < LW K ∧ (headOf (g (slotOf (g (pSlot (cW K) (handle h).1.slot))).addr)).own ≠ own))) := by
  obtain ⟨fl, f, cl, us, R⟩ := A
  cases h2 : (handle h).2
  · exact Or.inl rfl
  · right
    have hb := handle_back h2
    have hr := handle_range h
    by_cases hs : (handle h).1.slot ≥ (cW K).slots
    · exact Or.inl hs
    · right
      have hs8 : (handle h).1.slot < 8 := by simp only [cW] at hs; omega
      rw [w_slot]
      generalize handle h = hd at *
      obtain ⟨⟨s, gen⟩, ok⟩ := hd
      simp only at *
      refine ⟨by omega, by simp only [LW]; omega, ?_⟩
      have hsl := R.slot s hr.1 hs8
      cases hl : (ob s).live
      · left
        rw [hl] at hsl
        simp only [Bool.false_eq_true, if_false] at hsl
        rw [hsl.1]; simp [Fl.live]
      · rw [hl] at hsl
        simp only [if_true] at hsl
        by_cases hg : (ob s).gen = gen
        · right
          rw [hsl.1]
          simp only
          obtain ⟨q1, q2, q3, q4⟩ := R.spot s hr.1 hs8 hl
          have hz := R.head s hr.1 hs8 hl
          have hcr := cls_room hz.2
          have hus := (R.ck _ q1 q2).2
          have hm := R.most
          refine ⟨by omega, by simp only [LW]; omega, ?_⟩
          rw [hz.1]
          simp only
          intro ho
          exact hn s hr.1 hs8 hl ⟨by rw [hg]; exact hb.symm, ho⟩
        · left
          rw [hsl.1]; simp [Fl.live, hg]

theorem Forged.drop {h : Nat} {own : Bool} {i : Nat} {m : Mem} (f : Forged h own i m) (hi : i ≤ 1000) :
    Drop.safe (cW 4) 0 200 m (Drop.new h own) ∧ (Drop.loop (cW 4) 0 200 m (Drop.new h own)).1.out.e = 3 ∧ ∀ a, (Drop.loop (cW 4) 0 200 m (Drop.new h own)).2.peek a = m.peek a := by
  obtain ⟨g, st, ob, h1, h2, h3, h4, h5⟩ := f.out
  obtain ⟨d', m', st', r1, r2, r3, r4, r5⟩ := Drop.none (who := 0) h1 (h2.not (by omega) h5)
  refine ⟨Drop.safe_steps _ _ _ _ _ (by rw [h1.steps]; omega) (by rw [h1.steps]; omega), by rw [r1]; exact r2, fun a => ?_⟩
  rw [r1]
  simp only
  by_cases ha : 0 ≤ a ∧ a < LW 4
  · rw [r3.peek ha, h1.peek ha]
  · unfold Mem.peek
    rw [if_neg (by unfold inb; have := r3.len; omega), if_neg (by unfold inb; have := h1.len; omega)]

theorem Forged.access {x : Want} {own : Bool} {i : Nat} {m : Mem} (f : Forged x.handle own i m) :
    (Access.loop (cW 4) 0 200 m (Access.new x own)).1.out.e = 3 ∧ (Access.loop (cW 4) 0 200 m (Access.new x own)).1.out.value = 0 ∧ ∀ a, (Access.loop (cW 4) 0 200 m (Access.new x own)).2.peek a = m.peek a := by
  obtain ⟨g, st, ob, h1, h2, h3, h4, h5⟩ := f.out
  obtain ⟨d', m', st', r1, r2, r2', r3, r4, r5⟩ := Access.none (who := 0) (x := x) h1 (h2.not (by omega) h5)
  refine ⟨by rw [r1]; exact r2, by rw [r1]; exact r2', fun a => ?_⟩
  rw [r1]
  simp only
  by_cases ha : 0 ≤ a ∧ a < LW 4
  · rw [r3.peek ha, h1.peek ha]
  · unfold Mem.peek
    rw [if_neg (by unfold inb; have := r3.len; omega), if_neg (by unfold inb; have := h1.len; omega)]

/-- So many words of a memory, the rest noughts. -/
def part (m : Mem) (n i : Nat) : List Nat := (List.range n).map (fun k => if k < i then m.peek k else 0)
theorem part_zero (m : Mem) (n : Nat) : part m n 0 = List.replicate n 0 := by
  unfold part
  apply List.ext_getElem <;> simp
theorem part_set (m : Mem) (n i : Nat) : (part m n i).set i (m.peek i) = part m n (i + 1) := by
  unfold part
  apply List.ext_getElem
  · simp
  · intro k h1 h2
    simp only [List.getElem_set, List.getElem_map, List.getElem_range]
    by_cases h : i = k
    · subst h; simp
    · rw [if_neg h]
      by_cases hk : k < i
      · rw [if_pos hk, if_pos (by omega)]
      · rw [if_neg hk, if_neg (by omega)]
theorem part_get (m : Mem) {n k : Nat} (h : k < n) : (part m n n)[k]? = some (m.peek k) := by
  unfold part
  simp [h]
theorem part_length (m : Mem) (n i : Nat) : (part m n i).length = n := by simp [part]

end Go.Proofs.Ythblhgappldcjaa.Fl
