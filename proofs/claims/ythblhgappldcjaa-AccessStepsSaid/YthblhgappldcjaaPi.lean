/- The plain law of AccessDrops: by the kernel. No program in sight. -/
import Derived.Test.YthblhgappldcjaaPf
import Derived.Test.YthblhgappldcjaaNa
namespace Go.Proofs.Ythblhgappldcjaa.Fl
set_option linter.unusedVariables false

def Access.part (c : Cfg) (who : Int) : Nat → Mem → Access → Bool → Access × Mem × Bool
  | 0, m, d, b => (d, m, b)
  | _ + 1, m, d, true => (d, m, true)
  | k + 1, m, d, false => Access.part c who k (d.step c who m).2.2 (d.step c who m).2.1 (d.step c who m).1

theorem Access.part_done (c : Cfg) (who : Int) : ∀ (s : Nat) (m : Mem) (d : Access), Access.part c who s m d true = (d, m, true)
  | 0, _, _ => rfl
  | _ + 1, _, _ => rfl

theorem Access.part_add (c : Cfg) (who : Int) : ∀ (i j : Nat) (m : Mem) (d : Access) (b : Bool), Access.part c who (i + j) m d b = Access.part c who j (Access.part c who i m d b).2.1 (Access.part c who i m d b).1 (Access.part c who i m d b).2.2
  | 0, j, m, d, b => by rw [Nat.zero_add]; rfl
  | i + 1, j, m, d, true => by rw [Access.part_done, Access.part_done, Access.part_done]
  | i + 1, j, m, d, false => by
    rw [show i + 1 + j = (i + j) + 1 by omega]
    exact Access.part_add c who i j _ _ _

theorem Access.part_steps (c : Cfg) (who : Int) : ∀ (i : Nat) (m : Mem) (d : Access) (b : Bool), m.steps ≤ (Access.part c who i m d b).2.1.steps ∧ (Access.part c who i m d b).2.1.steps ≤ m.steps + i
  | 0, m, d, b => by simp [Access.part]
  | i + 1, m, d, true => by simp only [Access.part]; omega
  | i + 1, m, d, false => by
    have h1 := Access.part_steps c who i (d.step c who m).2.2 (d.step c who m).2.1 (d.step c who m).1
    have h2 := Access.steps1 c who m d
    simp only [Access.part]; omega

def cD : Cfg := ⟨4, 4, 2, 20, 100, 600, 3⟩
def dA : Alloc × Mem := Alloc.loop cD 0 400 (fresh cD) (Alloc.new 2 false)
def dX (k : Int) : Want := ⟨1 + k, 65536, 0, 7, 0⟩
/-- So many steps ahead of the letting go. -/
def dP (k : Int) (j : Nat) : Access × Mem × Bool := Access.part cD 0 j dA.2 (Access.new (dX k) false) false
def dG (k : Int) (j : Nat) : Drop × Mem := Drop.loop cD 0 200 (dP k j).2.1 (Drop.new 65536 false)
/-- So many steps behind it. -/
def dQ (k : Int) (j i : Nat) : Access × Mem × Bool := Access.part cD 0 i (dG k j).2 (dP k j).1 (dP k j).2.2

def dOne (k : Int) (j : Nat) : Bool :=
  decide (0 ≤ (dG k j).2.steps ∧ (dG k j).2.steps < 100000) && decide ((dG k j).1.out.e = 0) && (dQ k j 20).2.2 &&
    (decide ((dQ k j 20).1.out.e = 0 ∧ (dQ k j 20).1.out.stamp < (dG k j).1.out.stamp) || decide ((dQ k j 20).1.out.e = 3 ∧ (dQ k j 20).1.out.stamp ≥ (dG k j).1.out.stamp))
def dAllB (k : Int) : Bool := decide (0 ≤ dA.2.steps ∧ dA.2.steps < 1000) && (dP k 20).2.2 && (List.range 21).all (dOne k)

set_option maxRecDepth 100000 in
theorem dA_safe : Alloc.safeB cD 0 400 (fresh cD) (Alloc.new 2 false) = true := by decide +kernel
set_option maxRecDepth 100000 in
theorem dA_out : (Alloc.loop cD 0 400 (fresh cD) (Alloc.new 2 false)).1.out.handle = 65536 := by decide +kernel
set_option maxRecDepth 100000 in
theorem dAll0 : dAllB 0 = true := by decide +kernel
set_option maxRecDepth 100000 in
theorem dAll1 : dAllB 1 = true := by decide +kernel

theorem dAll {k : Int} (hk : k = 0 ∨ k = 1) : dAllB k = true := by
  rcases hk with rfl | rfl
  · exact dAll0
  · exact dAll1

theorem dP_late {k : Int} (hk : k = 0 ∨ k = 1) {j : Nat} (hj : 20 ≤ j) : dP k j = dP k 20 ∧ (dP k j).2.2 = true := by
  have h := dAll hk
  simp only [dAllB, Bool.and_eq_true] at h
  have h20 := h.1.2
  obtain ⟨r, rfl⟩ : ∃ r, j = 20 + r := ⟨j - 20, by omega⟩
  have e : dP k (20 + r) = dP k 20 := by
    unfold dP at h20 ⊢
    rw [Access.part_add, h20, Access.part_done]
    generalize Access.part cD 0 20 dA.2 (Access.new (dX k) false) false = q at *
    obtain ⟨a, m, b⟩ := q
    simp only at h20; rw [h20]
  exact ⟨e, by rw [e]; exact h20⟩

theorem dOne_all {k : Int} (hk : k = 0 ∨ k = 1) (j : Nat) : dOne k j = true := by
  have h := dAll hk
  simp only [dAllB, Bool.and_eq_true, List.all_eq_true] at h
  by_cases hj : j < 20
  · exact h.2 j (List.mem_range.2 (by omega))
  · have e := (dP_late hk (j := j) (by omega)).1
    have h20 := h.2 20 (List.mem_range.2 (by omega))
    unfold dOne dQ dG at h20 ⊢
    rw [e]; exact h20

theorem dQ_late {k : Int} (hk : k = 0 ∨ k = 1) {j i : Nat} (hi : 20 ≤ i) : dQ k j i = dQ k j 20 ∧ (dQ k j i).2.2 = true := by
  have h := dOne_all hk j
  simp only [dOne, Bool.and_eq_true] at h
  have h20 := h.1.2
  obtain ⟨r, rfl⟩ : ∃ r, i = 20 + r := ⟨i - 20, by omega⟩
  have e : dQ k j (20 + r) = dQ k j 20 := by
    unfold dQ at h20 ⊢
    rw [Access.part_add, h20, Access.part_done]
    generalize Access.part cD 0 20 (dG k j).2 (dP k j).1 (dP k j).2.2 = q at *
    obtain ⟨a, m, b⟩ := q
    simp only at h20; rw [h20]
  exact ⟨e, by rw [e]; exact h20⟩

/-- Once it is done, it stays as it is. -/
theorem dQ_done {k : Int} (hk : k = 0 ∨ k = 1) {j i : Nat} (h : (dQ k j i).2.2 = true) : dQ k j 20 = dQ k j i := by
  by_cases hi : 20 ≤ i
  · exact ((dQ_late hk hi).1).symm
  · obtain ⟨r, hr⟩ : ∃ r, 20 = i + r := ⟨20 - i, by omega⟩
    rw [hr]
    unfold dQ at h ⊢
    rw [Access.part_add, h, Access.part_done]
    generalize Access.part cD 0 i (dG k j).2 (dP k j).1 (dP k j).2.2 = q at *
    obtain ⟨a, m, b⟩ := q
    simp only at h; rw [h]

/-- Where the walk stands: how many steps were made ahead of the letting go, how many behind it. -/
inductive DropsAt (k : Int) (i : Nat) (a : Access) (m : Mem) (b : Bool) (g : Done) : Bool → Prop
  | before (j : Nat) (hs : dP k j = (a, m, b)) (hi : i ≤ 61) (hj : j ≤ i) (hp : b = false → i ≤ 2 * j + 60) : DropsAt k i a m b g false
  | behind (j r : Nat) (hs : dQ k j r = (a, m, b)) (hg : g = (dG k j).1.out) (hj : j + r ≤ i) (hp : b = false → i ≤ 2 * (j + r) + 60) : DropsAt k i a m b g true

theorem DropsAt.steps {k : Int} {i : Nat} {a : Access} {m : Mem} {b dn : Bool} {g : Done} (hk : k = 0 ∨ k = 1) (h : DropsAt k i a m b g dn) : 0 ≤ m.steps ∧ m.steps < 100000 + i := by
  have h0 := dAll hk
  simp only [dAllB, Bool.and_eq_true, decide_eq_true_eq] at h0
  cases h with
  | before j hs hi hj hp =>
    have := Access.part_steps cD 0 j dA.2 (Access.new (dX k) false) false
    rw [show Access.part cD 0 j dA.2 (Access.new (dX k) false) false = _ from hs] at this
    simp only at this; omega
  | behind j r hs hg hj hp =>
    have h1 := dOne_all hk j
    simp only [dOne, Bool.and_eq_true, decide_eq_true_eq] at h1
    have := Access.part_steps cD 0 r (dG k j).2 (dP k j).1 (dP k j).2.2
    rw [show Access.part cD 0 r (dG k j).2 (dP k j).1 (dP k j).2.2 = _ from hs] at this
    simp only at this; omega

theorem DropsAt.start (k : Int) (g : Done) : DropsAt k 0 (Access.new (dX k) false) dA.2 false g false := .before 0 rfl (by omega) (by omega) (by omega)

/-- A step of the access. -/
theorem DropsAt.step {k : Int} {i : Nat} {a : Access} {m : Mem} {dn : Bool} {g : Done} (hi : i ≤ 60 ∨ i % 2 = 0) (h : DropsAt k i a m false g dn) : DropsAt k (i + 1) (a.step cD 0 m).2.1 (a.step cD 0 m).2.2 (a.step cD 0 m).1 g dn := by
  cases h with
  | before j hs hi' hj hp =>
    have := hp rfl
    refine .before (j + 1) ?_ (by omega) (by omega) (fun _ => by omega)
    unfold dP at hs ⊢
    rw [Access.part_add, hs]; rfl
  | behind j r hs hg hj hp =>
    have := hp rfl
    refine .behind j (r + 1) ?_ hg (by omega) (fun _ => by omega)
    unfold dQ at hs ⊢
    rw [Access.part_add, hs]; rfl

/-- The object is let go. -/
theorem DropsAt.drop {k : Int} {i : Nat} {a : Access} {m : Mem} {b : Bool} {g : Done} (h : DropsAt k i a m b g false) (hi : i < 60 ∨ i % 2 = 1) : DropsAt k (i + 1) a (Drop.loop cD 0 200 m (Drop.new 65536 false)).2 b (Drop.loop cD 0 200 m (Drop.new 65536 false)).1.out true := by
  cases h with
  | before j hs hi' hj hp =>
    refine .behind j 0 ?_ ?_ (by omega) (fun q => by have := hp q; omega)
    · unfold dQ dG; rw [hs]; rfl
    · unfold dG; rw [hs]

/-- It is the access's turn, and it is done. -/
theorem DropsAt.skip0 {k : Int} {i : Nat} {a : Access} {m : Mem} {dn : Bool} {g : Done} (hi : i < 60 ∨ i % 2 = 0) (h : DropsAt k i a m true g dn) : DropsAt k (i + 1) a m true g dn := by
  cases h with
  | before j hs hi' hj hp => exact .before j hs (by omega) (by omega) (fun q => by cases q)
  | behind j r hs hg hj hp => exact .behind j r hs hg (by omega) (fun q => by cases q)

/-- It is the other's turn, and the object is gone. -/
theorem DropsAt.skip1 {k : Int} {i : Nat} {a : Access} {m : Mem} {b : Bool} {g : Done} (hi : i < 60 ∨ i % 2 = 1) (h : DropsAt k i a m b g true) : DropsAt k (i + 1) a m b g true := by
  cases h with
  | behind j r hs hg hj hp => exact .behind j r hs hg (by omega) (fun q => by have := hp q; omega)

/-- The end. -/
theorem DropsAt.final {k : Int} {i : Nat} {a : Access} {m : Mem} {b dn : Bool} {g : Done} (hk : k = 0 ∨ k = 1) (hi : i = 200 ∨ (b = true ∧ dn = true)) (h : DropsAt k i a m b g dn) :
    dn = true ∧ b = true ∧ g.e = 0 ∧ ((a.out.e = 0 ∧ a.out.stamp < g.stamp) ∨ (a.out.e = 3 ∧ a.out.stamp ≥ g.stamp)) := by
  cases h with
  | before j hs hi' hj hp =>
    rcases hi with hi | ⟨_, hi⟩
    · omega
    · cases hi
  | behind j r hs hg hj hp =>
    have hb : b = true := by
      cases hb : b with
      | true => rfl
      | false =>
        exfalso
        have h1 := hp hb
        have h2 : i = 200 := by
          rcases hi with hi | ⟨hi, _⟩
          · exact hi
          · rw [hb] at hi; cases hi
        have hjl : j < 20 := by
          rcases Nat.lt_or_ge j 20 with h | h
          · exact h
          · exfalso
            have hd := (dP_late hk h).2
            unfold dQ at hs
            rw [hd, Access.part_done] at hs
            have := congrArg (fun q => q.2.2) hs
            simp only at this
            rw [hb] at this; cases this
        have hrl : r < 20 := by
          rcases Nat.lt_or_ge r 20 with h | h
          · exact h
          · exfalso
            have hd := (dQ_late hk (j := j) h).2
            rw [hs] at hd
            simp only at hd
            rw [hb] at hd; cases hd
        omega
    subst hb
    have h1 := dOne_all hk j
    simp only [dOne, Bool.and_eq_true, Bool.or_eq_true, decide_eq_true_eq] at h1
    have e := dQ_done hk (j := j) (i := r) (by rw [hs])
    rw [e, hs] at h1
    subst hg
    exact ⟨rfl, rfl, h1.1.1.2, h1.2⟩

end Go.Proofs.Ythblhgappldcjaa.Fl
