/- AccessNone: the walk. -/
import Derived.Test.YthblhgappldcjaaXh
import Derived.Test.YthblhgappldcjaaPe
namespace Go.Proofs.Ythblhgappldcjaa
open Go Go.RowKit
set_option linter.unusedVariables false

theorem goodN : GoodC Fl.cN := ⟨by simp [Fl.cN], by simp [Fl.cN], by simp [Fl.cN], by simp [Fl.cN], by simp [Fl.cN], by simp [Fl.cN], by simp [Fl.cN]⟩

set_option maxHeartbeats 4000000 in
set_option maxRecDepth 100000 in
theorem w_accessNone (k : Int) (h : Nat) (i v o : Int) (hh : h < 18446744073709551616) (W : World) : Calls Try.prog 11 #[.agg #[.int .i64 k, .int .u64 (h : Nat), .int .i64 i, .int .i64 v, .int .i64 o]] W fun e w' => e = .returned (.bool true) ∧ Ext W w' := by
  have fl0 := field_done0
  have HH := Lib.hid hh
  clear hh
  have hA := heap_new W (.cells #[.int .i64 k, .int .u64 (h : Nat), .int .i64 i, .int .i64 v, .int .i64 o] 74)
  have hXA := (Ext.refl W).alloc (.cells #[.int .i64 k, .int .u64 (h : Nat), .int .i64 i, .int .i64 v, .int .i64 o] 74)
  go_enter Try.func11, Try.ntmps11
  go_wp2_with fail
  generalize W.alloc (.cells #[.int .i64 k, .int .u64 (h : Nat), .int .i64 i, .int .i64 v, .int .i64 o] 74) = w0 at *
  have gc := goodN
  refine (n_arena 1 1 1 17 _ goodN).mono ?_
  rintro e w1 ⟨l, rfl, h1, x1, hnew⟩
  have hE := heap_new w1 (.cells #[.int .i64 1, .int .i64 1, .int .i64 1, .int .i64 17, .int .i64 100, .int .i64 600, .int .i64 3, .pointer (some ⟨l.m, 0, none⟩), .int .i64 0] 27)
  have hX := (Ext.refl w1).alloc (.cells #[.int .i64 1, .int .i64 1, .int .i64 1, .int .i64 17, .int .i64 100, .int .i64 600, .int .i64 3, .pointer (some ⟨l.m, 0, none⟩), .int .i64 0] 27)
  have hlt := h1.lt
  go_wp2_with fail
  generalize w1.alloc (.cells #[.int .i64 1, .int .i64 1, .int .i64 1, .int .i64 17, .int .i64 100, .int .i64 600, .int .i64 3, .pointer (some ⟨l.m, 0, none⟩), .int .i64 0] 27) = w2 at *
  have hbe : w1.heap.size ∉ l.all := fun hm => by have := hlt _ hm; omega
  have hl0 := lt_of_heap hA
  have hba : W.heap.size ∉ l.all := fun hm => by have := hnew _ hm; omega
  have nea : w1.heap.size ≠ W.heap.size := by have := x1.size; omega
  generalize w1.heap.size = eb at *
  refine (awake10 _).mono ?_
  rintro e w3 ⟨rfl, x3⟩
  have HE3 := Lib.hid (x3.keep hE)
  have HA3 := Lib.hid ((x1.trans (hX.trans x3)).keep hA)
  have h3 := h1.ext (hX.trans x3)
  have X3 := hXA.trans (x1.trans (hX.trans x3))
  clear hE h1 hX x3 x1 hA
  have c_HE3_w3 := fun w' o (k : Ext w3 w') => k.cellOf HE3.out o
  have f_HE3_w3 := fun w' o (k : Ext w3 w') => frozen_of (k.keep HE3.out) o
  have r_HE3_w3 := Ext.refl w3
  have c_HA3_w3 := fun w' o (k : Ext w3 w') => k.cellOf HA3.out o
  have f_HA3_w3 := fun w' o (k : Ext w3 w') => frozen_of (k.keep HA3.out) o
  have r_HA3_w3 := Ext.refl w3
  go_wp2_with fail
  generalize wrap64 (1 + (wrap64 (k.tmod 3 + 3)).tmod 3) = K
  have HA4 := Lib.hid (heap_set HA3.out 0 (.int .i64 K))
  have HE4 := Lib.hid (heap_far HE3.out (p := ⟨W.heap.size, 0, none⟩) nea (.int .i64 K))
  have u4 := ((Upd.refl [W.heap.size] w3).set1 0 (.int .i64 K))
  generalize (World.setCell w3 ⟨W.heap.size, 0, none⟩ (.int .i64 K)) = w4 at *
  simp only [List.setIfInBounds_toArray, List.set_cons_zero] at HA4
  have h4 := h3.keep1 u4 hba
  have X4 := X3.updNew u4 (fun x hx => by rw [List.mem_singleton.1 hx]; omega)
  have NK := Fl.none_ok ⟨K, h, i, v, o⟩
  clear c_HE3_w3 f_HE3_w3 r_HE3_w3 c_HA3_w3 f_HA3_w3 r_HA3_w3
  refine (n_do Fl.cN l (Fl.fresh Fl.cN) 0 ⟨K, h, i, v, o⟩ false w4 goodN h4 HH.out NK.t).mono ?_
  rintro e w5 ⟨rfl, h5, u5⟩
  rw [NK.e]
  clear NK
  have X5 := X4.updNew u5 (fun x hx => by have := hnew x hx; have := hXA.size; omega)
  generalize (Fl.Access.loop Fl.cN 0 200 (Fl.fresh Fl.cN) (Fl.Access.new ⟨K, h, i, v, o⟩ false)).1.out.handle = q1
  generalize (Fl.Access.loop Fl.cN 0 200 (Fl.fresh Fl.cN) (Fl.Access.new ⟨K, h, i, v, o⟩ false)).1.out.value = q2
  generalize (Fl.Access.loop Fl.cN 0 200 (Fl.fresh Fl.cN) (Fl.Access.new ⟨K, h, i, v, o⟩ false)).1.out.stamp = q3
  have hD := heap_new w5 (.cells #[.int .i64 3, .int .u64 (q1 : Nat), .int .i64 q2, .int .i64 q3] 34)
  have x6 := (Ext.refl w5).alloc (.cells #[.int .i64 3, .int .u64 (q1 : Nat), .int .i64 q2, .int .i64 q3] 34)
  go_wp2_with fail
  generalize w5.alloc (.cells #[.int .i64 3, .int .u64 (q1 : Nat), .int .i64 q2, .int .i64 q3] 34) = w6 at *
  generalize w5.heap.size = db at *
  refine (x_done_nil _).mono ?_
  rintro e w7 ⟨rfl, x7⟩
  have HD7 := Lib.hid (x7.keep hD)
  clear hD
  have c_HD7_w7 := fun w' o (k : Ext w7 w') => k.cellOf HD7.out o
  have f_HD7_w7 := fun w' o (k : Ext w7 w') => frozen_of (k.keep HD7.out) o
  have r_HD7_w7 := Ext.refl w7
  have X7 := X5.trans (x6.trans x7)
  go_wp2
  go_ret
  exact ⟨rfl, X7⟩

end Go.Proofs.Ythblhgappldcjaa
