/- The plain law of DropHelps: by the kernel. No program in sight. -/
import Derived.Test.YthblhgappldcjaaPd
import Derived.Test.YthblhgappldcjaaNa
namespace Go.Proofs.Ythblhgappldcjaa.Fl
set_option linter.unusedVariables false

def Drop.part (c : Cfg) (who : Int) : Nat → Mem → Drop → Bool → Drop × Mem × Bool
  | 0, m, d, b => (d, m, b)
  | _ + 1, m, d, true => (d, m, true)
  | k + 1, m, d, false => Drop.part c who k (d.step c who m).2.2 (d.step c who m).2.1 (d.step c who m).1
def Help.loop (c : Cfg) (who : Int) : Nat → Mem → Help → Help × Mem
  | 0, m, h => (h, m)
  | k + 1, m, h => if (h.step c who m).1 = true then ((h.step c who m).2.1, (h.step c who m).2.2) else Help.loop c who k (h.step c who m).2.2 (h.step c who m).2.1

def cH : Cfg := ⟨2, 4, 4, 20, 100, 600, 3⟩
def hA (n : Int) : Alloc × Mem := Alloc.loop cH 0 400 (fresh cH) (Alloc.new n false)

/-- What is asked behind the helpers. -/
def hEnd (m : Mem) (d : Drop) (b : Bool) : Bool :=
  match Drop.loop cH 0 200 m (Drop.new 65536 false) with
  | (o, m1) => match Drop.part cH 0 200 m1 d b with
    | (d2, m2, b2) => decide (m.steps < 100000 ∧ 0 ≤ m.steps) && decide (m1.steps < 100000 ∧ 0 ≤ m1.steps) && b2 && (decide (d2.out.e = 0) != decide (o.out.e = 0)) && (decide (d2.out.e = 3) != decide (o.out.e = 3)) && decide (m2.peek 17 = 0)

def hMid (n : Int) (m : Mem) (d : Drop) (b : Bool) : Bool :=
  decide (m.steps < 100000 ∧ 0 ≤ m.steps) &&
  (if (slotOf (m.peek 8)).state = 4 then
    match Help.loop cH 0 80 m (Help.new 0 (m.peek 8) n) with
    | (x, m1) => match Help.loop cH 0 80 m1 (Help.new 0 (m.peek 8) n) with
      | (y, m2) => decide (m1.steps < 100000 ∧ 0 ≤ m1.steps) && x.won && !y.won && decide (slotOf (m2.peek 8) = ⟨0, 0, 2, 0⟩) && hEnd m2 d b
  else hEnd m d b)

def hAll (n : Int) : Nat → Mem → Drop → Bool → Bool
  | 0, m, d, b => hMid n m d b
  | k + 1, m, d, b => hMid n m d b && (match b with | true => true | false => hAll n k (d.step cH 0 m).2.2 (d.step cH 0 m).2.1 (d.step cH 0 m).1)

def hN (n : Int) : Bool := Alloc.safeB cH 0 400 (fresh cH) (Alloc.new n false) && decide ((hA n).1.out.handle = 65536) && hAll n 63 (hA n).2 (Drop.new 65536 false) false

set_option maxRecDepth 100000 in
theorem hN1 : hN 1 = true := by decide +kernel
set_option maxRecDepth 100000 in
theorem hN2 : hN 2 = true := by decide +kernel
set_option maxRecDepth 100000 in
theorem hN3 : hN 3 = true := by decide +kernel
set_option maxRecDepth 100000 in
theorem hN4 : hN 4 = true := by decide +kernel
set_option maxRecDepth 100000 in
theorem hN5 : hN 5 = true := by decide +kernel
set_option maxRecDepth 100000 in
theorem hN6 : hN 6 = true := by decide +kernel
set_option maxRecDepth 100000 in
theorem hN7 : hN 7 = true := by decide +kernel
set_option maxRecDepth 100000 in
theorem hN8 : hN 8 = true := by decide +kernel
set_option maxRecDepth 100000 in
theorem hN9 : hN 9 = true := by decide +kernel
set_option maxRecDepth 100000 in
theorem hN10 : hN 10 = true := by decide +kernel
set_option maxRecDepth 100000 in
theorem hN11 : hN 11 = true := by decide +kernel
set_option maxRecDepth 100000 in
theorem hN12 : hN 12 = true := by decide +kernel
set_option maxRecDepth 100000 in
theorem hN13 : hN 13 = true := by decide +kernel
set_option maxRecDepth 100000 in
theorem hN14 : hN 14 = true := by decide +kernel
set_option maxRecDepth 100000 in
theorem hN15 : hN 15 = true := by decide +kernel
set_option maxRecDepth 100000 in
theorem hN16 : hN 16 = true := by decide +kernel

theorem hN_all {n : Int} (h : 1 ≤ n ∧ n ≤ 16) : hN n = true := by
  have : n = 1 ∨ n = 2 ∨ n = 3 ∨ n = 4 ∨ n = 5 ∨ n = 6 ∨ n = 7 ∨ n = 8 ∨ n = 9 ∨ n = 10 ∨ n = 11 ∨ n = 12 ∨ n = 13 ∨ n = 14 ∨ n = 15 ∨ n = 16 := by omega
  rcases this with rfl | rfl | rfl | rfl | rfl | rfl | rfl | rfl | rfl | rfl | rfl | rfl | rfl | rfl | rfl | rfl
  · exact hN1
  · exact hN2
  · exact hN3
  · exact hN4
  · exact hN5
  · exact hN6
  · exact hN7
  · exact hN8
  · exact hN9
  · exact hN10
  · exact hN11
  · exact hN12
  · exact hN13
  · exact hN14
  · exact hN15
  · exact hN16

theorem xor03 {a b : Int} (h1 : (decide (a = 0) != decide (b = 0)) = true) (h2 : (decide (a = 3) != decide (b = 3)) = true) : (a = 0 ∧ b = 3) ∨ (a = 3 ∧ b = 0) := by
  by_cases p : a = 0 <;> by_cases q : b = 0 <;> by_cases r : a = 3 <;> by_cases t : b = 3 <;> simp [p, q, r, t] at h1 h2 <;> omega

theorem part_done (c : Cfg) (who : Int) : ∀ (s : Nat) (m : Mem) (d : Drop), Drop.part c who s m d true = (d, m, true)
  | 0, _, _ => rfl
  | _ + 1, _, _ => rfl

theorem hAll_at (n : Int) : ∀ (K : Nat) (m : Mem) (d : Drop) (b : Bool), hAll n K m d b = true → ∀ s : Nat, s ≤ K → hMid n (Drop.part cH 0 s m d b).2.1 (Drop.part cH 0 s m d b).1 (Drop.part cH 0 s m d b).2.2 = true
  | 0, m, d, b, h, s, hs => by
    have : s = 0 := by omega
    subst this; exact h
  | K + 1, m, d, b, h, s, hs => by
    simp only [hAll, Bool.and_eq_true] at h
    cases s with
    | zero => exact h.1
    | succ s =>
      cases b with
      | true => rw [part_done]; exact h.1
      | false => exact hAll_at n K _ _ _ h.2 s (by omega)

end Go.Proofs.Ythblhgappldcjaa.Fl
