/- Law 10's own awake. -/
import Derived.Test.YthblhgappldcjaaXg
import Derived.Test.YthblhgappldcjaaNa
namespace Go.Proofs.Ythblhgappldcjaa
open Go Go.RowKit
set_option linter.unusedVariables false

namespace Fl
def wA : Want := ⟨2, 65536, 1, 5, 0⟩
def rA : Want := ⟨1, 65536, 1, 0, 0⟩
def d1A : Access × Mem := Access.loop cA 0 200 m1A (Access.new wA false)
def d2A : Access × Mem := Access.loop cA 0 200 d1A.2 (Access.new rA false)
set_option maxRecDepth 100000 in
theorem awA : (decide (0 ≤ m1A.steps ∧ m1A.steps + 200 < 4611686018427387904) && decide (0 ≤ d1A.2.steps ∧ d1A.2.steps + 200 < 4611686018427387904) && decide (d1A.1.out.e = 0) && decide (d2A.1.out.e = 0) && decide (d2A.1.out.value = 5) && decide (d2A.1.out.stamp > d1A.1.out.stamp)) = true := by decide +kernel
end Fl

set_option maxHeartbeats 2000000 in
set_option maxRecDepth 100000 in
theorem awake10 (W : World) : Calls Try.prog 50 #[] W fun e w' => e = .returned (.bool true) ∧ Ext W w' := by
  have fl1 := field_done1
  have HA := Fl.awA
  simp only [Bool.and_eq_true, decide_eq_true_eq] at HA
  obtain ⟨⟨⟨⟨⟨q1, q2⟩, q3⟩, q4⟩, q5⟩, q6⟩ := HA
  have HQ := Lib.hid (And.intro q1 q2)
  unfold Fl.d2A at q4 q5 q6
  unfold Fl.d1A at q2 q3 q4 q5 q6
  have HQ6 := Lib.hid q6
  clear q6
  have HQ3 := Lib.hid q3
  have HQ45 := Lib.hid (And.intro q4 q5)
  clear q1 q2 q3 q4 q5
  go_enter Try.func50, Try.ntmps50
  go_wp2_with fail
  refine (n_arena 1 4 2 20 _ goodA).mono ?_
  rintro e w1 ⟨l, rfl, h1, x1, hnew⟩
  have hE := heap_new w1 (.cells #[.int .i64 1, .int .i64 4, .int .i64 2, .int .i64 20, .int .i64 100, .int .i64 600, .int .i64 3, .pointer (some ⟨l.m, 0, none⟩), .int .i64 0] 27)
  have hX := (Ext.refl w1).alloc (.cells #[.int .i64 1, .int .i64 4, .int .i64 2, .int .i64 20, .int .i64 100, .int .i64 600, .int .i64 3, .pointer (some ⟨l.m, 0, none⟩), .int .i64 0] 27)
  have hlt := h1.lt
  go_wp2_with fail
  generalize w1.alloc (.cells #[.int .i64 1, .int .i64 4, .int .i64 2, .int .i64 20, .int .i64 100, .int .i64 600, .int .i64 3, .pointer (some ⟨l.m, 0, none⟩), .int .i64 0] 27) = w2 at *
  have hbe : w1.heap.size ∉ l.all := fun hm => by have := hlt _ hm; omega
  generalize w1.heap.size = eb at *
  have HE2 := Lib.hid hE
  clear hE
  have c_HE2_w2 := fun w' o (k : Ext w2 w') => k.cellOf HE2.out o
  have f_HE2_w2 := fun w' o (k : Ext w2 w') => frozen_of (k.keep HE2.out) o
  have r_HE2_w2 := Ext.refl w2
  have h2 := h1.ext hX
  refine (n_make Fl.cA l (Fl.fresh Fl.cA) 0 2 false w2 goodA h2 (Fl.Alloc.safe_of _ _ _ Fl.safe1A)).mono ?_
  rintro e w3 ⟨rfl, h3, u3⟩
  have HE3 := Lib.hid (u3.keep HE2.out hbe)
  have c_HE3_w3 := fun w' o (k : Ext w3 w') => k.cellOf HE3.out o
  have f_HE3_w3 := fun w' o (k : Ext w3 w') => frozen_of (k.keep HE3.out) o
  have r_HE3_w3 := Ext.refl w3
  clear c_HE2_w2 f_HE2_w2
  rw [Fl.out1A]
  go_wp2_with fail
  refine (n_do Fl.cA l Fl.m1A 0 Fl.wA false w3 goodA h3 (by decide) HQ.out.1).mono ?_
  rintro e w4 ⟨rfl, h4, u4⟩
  rw [HQ3.out]
  have HQ7 := Lib.hid HQ6.out
  clear HQ6
  generalize (Fl.Access.loop Fl.cA 0 200 Fl.m1A (Fl.Access.new Fl.wA false)).1.out.stamp = s1 at *
  have HE4 := Lib.hid (u4.keep HE3.out hbe)
  have c_HE4_w4 := fun w' o (k : Ext w4 w') => k.cellOf HE4.out o
  have f_HE4_w4 := fun w' o (k : Ext w4 w') => frozen_of (k.keep HE4.out) o
  have r_HE4_w4 := Ext.refl w4
  clear c_HE3_w3 f_HE3_w3
  have a4 := fun o => (Ext.refl w4).alloc o
  generalize (Fl.Access.loop Fl.cA 0 200 Fl.m1A (Fl.Access.new Fl.wA false)).1.out.handle = s2 at *
  generalize (Fl.Access.loop Fl.cA 0 200 Fl.m1A (Fl.Access.new Fl.wA false)).1.out.value = s3 at *
  have hD := heap_new w4 (.cells #[.int .i64 0, .int .u64 (s2 : Nat), .int .i64 s3, .int .i64 s1] 34)
  have x5 := (Ext.refl w4).alloc (.cells #[.int .i64 0, .int .u64 (s2 : Nat), .int .i64 s3, .int .i64 s1] 34)
  go_wp2_with fail
  generalize w4.alloc (.cells #[.int .i64 0, .int .u64 (s2 : Nat), .int .i64 s3, .int .i64 s1] 34) = w5 at *
  have h5 := h4.ext x5
  have hbd : w4.heap.size ∉ l.all := fun hm => by have := h4.lt _ hm; omega
  generalize w4.heap.size = db at *
  refine (n_do Fl.cA l (Fl.Access.loop Fl.cA 0 200 Fl.m1A (Fl.Access.new Fl.wA false)).2 0 Fl.rA false w5 goodA h5 (by decide) HQ.out.2).mono ?_
  rintro e w6 ⟨rfl, h6, u6⟩
  rw [HQ45.out.1, HQ45.out.2]
  have HD6 := Lib.hid (u6.keep hD hbd)
  have hq : decide ((Fl.Access.loop Fl.cA 0 200 (Fl.Access.loop Fl.cA 0 200 Fl.m1A (Fl.Access.new Fl.wA false)).2 (Fl.Access.new Fl.rA false)).1.out.stamp > s1) = true := decide_eq_true HQ7.out
  clear HQ7
  generalize (Fl.Access.loop Fl.cA 0 200 (Fl.Access.loop Fl.cA 0 200 Fl.m1A (Fl.Access.new Fl.wA false)).2 (Fl.Access.new Fl.rA false)).1.out.stamp = t1 at *
  generalize (Fl.Access.loop Fl.cA 0 200 (Fl.Access.loop Fl.cA 0 200 Fl.m1A (Fl.Access.new Fl.wA false)).2 (Fl.Access.new Fl.rA false)).1.out.handle = t2 at *
  clear a4 c_HE4_w4 f_HE4_w4 hD
  have c_HD6_w6 := fun w' o (k : Ext w6 w') => k.cellOf HD6.out o
  have f_HD6_w6 := fun w' o (k : Ext w6 w') => frozen_of (k.keep HD6.out) o
  have r_HD6_w6 := Ext.refl w6
  have a6 := fun o => (Ext.refl w6).alloc o
  have X6 := (((x1.trans hX).updNew (u3.trans u4) hnew).trans x5).updNew u6 hnew
  go_wp2
  go_ret
  exact ⟨rfl, X6.alloc _⟩

end Go.Proofs.Ythblhgappldcjaa
