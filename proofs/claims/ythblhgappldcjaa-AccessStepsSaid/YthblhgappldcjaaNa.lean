/- Law 9's own awake. -/
import Derived.Test.YthblhgappldcjaaLa
namespace Go.Proofs.Ythblhgappldcjaa
open Go Go.RowKit
set_option linter.unusedVariables false

namespace Fl
def stepsOkB (m : Mem) : Bool := decide (0 ≤ m.steps) && decide (m.steps < 4611686018427387904)
def allocSafeB (who : Int) (m : Mem) (a : Alloc) : Bool := if a.pc = 2 then decide (a.p.at_ ≤ 1000000) && (if a.p.pc = 0 then decide ((m.load who (pOpen a.p.cls)).1 ≤ 1000000) else true) else true
def Alloc.safeB (c : Cfg) (who : Int) : Nat → Mem → Alloc → Bool
  | 0, _, _ => true
  | k + 1, m, a => stepsOkB m && allocSafeB who m a && (if (a.step c who m).1 = false then Alloc.safeB c who k (a.step c who m).2.2 (a.step c who m).2.1 else true)
def Drop.safeB (c : Cfg) (who : Int) : Nat → Mem → Drop → Bool
  | 0, _, _ => true
  | k + 1, m, a => stepsOkB m && (if (a.step c who m).1 = false then Drop.safeB c who k (a.step c who m).2.2 (a.step c who m).2.1 else true)
theorem stepsOk_of {m : Mem} (h : stepsOkB m = true) : stepsOk m := by
  simp only [stepsOkB, Bool.and_eq_true, decide_eq_true_eq] at h; exact h
theorem allocSafe_of {who : Int} {m : Mem} {a : Alloc} (h : allocSafeB who m a = true) : allocSafe who m a := by
  intro p
  unfold allocSafeB at h
  rw [if_pos p] at h
  simp only [Bool.and_eq_true, decide_eq_true_eq] at h
  refine ⟨h.1, fun p' => ?_⟩
  have h2 := h.2
  rw [if_pos p'] at h2
  simpa using h2
theorem Alloc.safe_of {c : Cfg} {who : Int} : ∀ (k : Nat) (m : Mem) (a : Alloc), Alloc.safeB c who k m a = true → Alloc.safe c who k m a
  | 0, _, _, _ => trivial
  | k + 1, m, a, h => by
    simp only [Alloc.safeB, Bool.and_eq_true] at h
    refine ⟨stepsOk_of h.1.1, allocSafe_of h.1.2, fun hs => ?_⟩
    have h2 := h.2
    rw [if_pos hs] at h2
    exact Alloc.safe_of k _ _ h2
theorem Drop.safe_of {c : Cfg} {who : Int} : ∀ (k : Nat) (m : Mem) (a : Drop), Drop.safeB c who k m a = true → Drop.safe c who k m a
  | 0, _, _, _ => trivial
  | k + 1, m, a, h => by
    simp only [Drop.safeB, Bool.and_eq_true] at h
    refine ⟨stepsOk_of h.1, fun hs => ?_⟩
    have h2 := h.2
    rw [if_pos hs] at h2
    exact Drop.safe_of k _ _ h2

def cA : Cfg := ⟨1, 4, 2, 20, 100, 600, 3⟩
def m1A : Mem := (Alloc.loop cA 0 400 (fresh cA) (Alloc.new 2 false)).2
def m2A : Mem := (Drop.loop cA 0 200 m1A (Drop.new 65536 false)).2
set_option maxRecDepth 100000 in
theorem safe1A : Alloc.safeB cA 0 400 (fresh cA) (Alloc.new 2 false) = true := by decide +kernel
set_option maxRecDepth 100000 in
theorem out1A : (Alloc.loop cA 0 400 (fresh cA) (Alloc.new 2 false)).1.out.handle = 65536 := by decide +kernel
set_option maxRecDepth 100000 in
theorem safe2A : Drop.safeB cA 0 200 m1A (Drop.new 65536 false) = true := by decide +kernel
set_option maxRecDepth 100000 in
theorem out2A : (Drop.loop cA 0 200 m1A (Drop.new 65536 false)).1.out.e = 0 := by decide +kernel
set_option maxRecDepth 100000 in
theorem safe3A : Drop.safeB cA 0 200 m2A (Drop.new 65536 false) = true := by decide +kernel
set_option maxRecDepth 100000 in
theorem out3A : (Drop.loop cA 0 200 m2A (Drop.new 65536 false)).1.out.e = 3 := by decide +kernel
end Fl

theorem goodA : GoodC ⟨1, 4, 2, 20, 100, 600, 3⟩ := ⟨by decide, by decide, by decide, by decide, by decide, by decide, by decide⟩

theorem field_done0 (x0 x1 x2 x3 : Value) (w : World) : (Instr.field 34 (.agg #[x0, x1, x2, x3]) 0).run Try.prog w = .ok x0 w := by
  simp [go_sem, Instr.field, asAgg]
theorem field_done1 (x0 x1 x2 x3 : Value) (w : World) : (Instr.field 34 (.agg #[x0, x1, x2, x3]) 1).run Try.prog w = .ok x1 w := by
  simp [go_sem, Instr.field, asAgg]

set_option maxHeartbeats 1000000 in
theorem awake9 (W : World) : Calls Try.prog 29 #[] W fun e w' => e = .returned (.bool true) ∧ Ext W w' := by
  have fl0 := field_done0
  have fl1 := field_done1
  go_enter Try.func29, Try.ntmps29
  go_wp2_with fail
  refine (n_arena 1 4 2 20 _ goodA).mono ?_
  rintro e w1 ⟨l, rfl, h1, x1, hnew⟩
  have hE := heap_new w1 (.cells #[.int .i64 1, .int .i64 4, .int .i64 2, .int .i64 20, .int .i64 100, .int .i64 600, .int .i64 3, .pointer (some ⟨l.m, 0, none⟩), .int .i64 0] 27)
  have hX := (Ext.refl w1).alloc (.cells #[.int .i64 1, .int .i64 4, .int .i64 2, .int .i64 20, .int .i64 100, .int .i64 600, .int .i64 3, .pointer (some ⟨l.m, 0, none⟩), .int .i64 0] 27)
  have hlt := h1.lt
  go_wp2_with fail
  generalize w1.alloc (.cells #[.int .i64 1, .int .i64 4, .int .i64 2, .int .i64 20, .int .i64 100, .int .i64 600, .int .i64 3, .pointer (some ⟨l.m, 0, none⟩), .int .i64 0] 27) = w2 at *
  have HE2 := Lib.hid hE
  generalize w1.heap.size = eb at *
  clear hE
  have c_HE2_w2 := fun w' o (k : Ext w2 w') => k.cellOf HE2.out o
  have f_HE2_w2 := fun w' o (k : Ext w2 w') => frozen_of (k.keep HE2.out) o
  have r_HE2_w2 := Ext.refl w2
  have h2 := h1.ext hX
  refine (n_make Fl.cA l (Fl.fresh Fl.cA) 0 2 false w2 goodA h2 (Fl.Alloc.safe_of _ _ _ Fl.safe1A)).mono ?_
  rintro e w3 ⟨rfl, h3, u3⟩
  have HE3 := Lib.hid (u3.keep HE2.out (by intro hm; have := hlt _ hm; omega))
  have c_HE3_w3 := fun w' o (k : Ext w3 w') => k.cellOf HE3.out o
  have f_HE3_w3 := fun w' o (k : Ext w3 w') => frozen_of (k.keep HE3.out) o
  have r_HE3_w3 := Ext.refl w3
  clear c_HE2_w2 f_HE2_w2
  rw [Fl.out1A]
  go_wp2_with fail
  refine (n_let Fl.cA l Fl.m1A 0 65536 false w3 goodA h3 (by decide) (Fl.Drop.safe_of _ _ _ Fl.safe2A)).mono ?_
  rintro e w4 ⟨rfl, h4, u4⟩
  have HE4 := Lib.hid (u4.keep HE3.out (by intro hm; have := hlt _ hm; omega))
  have c_HE4_w4 := fun w' o (k : Ext w4 w') => k.cellOf HE4.out o
  have f_HE4_w4 := fun w' o (k : Ext w4 w') => frozen_of (k.keep HE4.out) o
  have r_HE4_w4 := Ext.refl w4
  clear c_HE3_w3 f_HE3_w3
  rw [Fl.out2A]
  go_wp2_with fail
  refine (n_let Fl.cA l Fl.m2A 0 65536 false w4 goodA h4 (by decide) (Fl.Drop.safe_of _ _ _ Fl.safe3A)).mono ?_
  rintro e w5 ⟨rfl, h5, u5⟩
  rw [Fl.out3A]
  go_wp2
  go_ret
  refine ⟨rfl, (x1.trans hX).updNew (u3.trans (u4.trans u5)) hnew⟩

end Go.Proofs.Ythblhgappldcjaa
