/- The contracts of a fresh arena. -/
import Derived.Test.YthblhgappldcjaaIb
import Derived.Deep.OwnRows
namespace Go.Proofs.Ythblhgappldcjaa
open Go Go.RowKit
set_option linter.unusedVariables false

theorem made_u64 (n : Nat) : madeCells #[.int .u64 0] n = ((List.replicate n (0 : Nat)).map u64v).toArray := by
  apply Array.ext
  · simp [madeCells]
  · intro i h1 h2
    simp [madeCells, u64v, Nat.mod_one]
theorem made_i64 (n : Nat) : madeCells #[.int .i64 0] n = ((List.replicate n (0 : Int)).map i64v).toArray := by
  apply Array.ext
  · simp [madeCells]
  · intro i h1 h2
    simp [madeCells, i64v, Nat.mod_one]

set_option maxHeartbeats 1000000 in
theorem n_mem (n : Nat) (W : World) (h0 : 1 ≤ n) (h1 : n ≤ 1048576) :
    Calls Try.prog 108 #[.int .i64 n] W fun e w' => ∃ l : Loc, e = .returned (.tuple #[.pointer (some ⟨l.m, 0, none⟩), .int .i64 0]) ∧ MemAt w' l ⟨List.replicate n 0, List.replicate n 0, 0, 0, ⟨0, 0, false⟩⟩ ∧ Ext W w' ∧ ∀ x, x ∈ l.all → W.heap.size ≤ x := by
  have b0 : decide ((n : Int) < 1) = false := decide_eq_false (by omega)
  have b1 : decide ((n : Int) > 1048576) = false := decide_eq_false (by omega)
  have hk1 : ∀ w : World, (Instr.makeSlice 49 (.int .i64 (n : Int)) (.int .i64 (n : Int))).run Try.prog w = .ok (.slice (some ⟨w.heap.size, 0, none⟩) n n) (w.alloc (.cells ((List.replicate n (0 : Nat)).map u64v).toArray 32)) := fun w => by
    rw [← made_u64]; exact run_make_row' (P := Try.prog) 49 32 (.int .u64 0) 8 (by kernel_rfl) (by kernel_rfl) rfl .i64 .i64 n (by omega) (by omega) w
  have hk2 : ∀ w : World, (Instr.makeSlice 22 (.int .i64 (n : Int)) (.int .i64 (n : Int))).run Try.prog w = .ok (.slice (some ⟨w.heap.size, 0, none⟩) n n) (w.alloc (.cells ((List.replicate n (0 : Int)).map i64v).toArray 3)) := fun w => by
    rw [← made_i64]; exact run_make_row' (P := Try.prog) 22 3 (.int .i64 0) 8 (by kernel_rfl) (by kernel_rfl) rfl .i64 .i64 n (by omega) (by omega) w
  generalize hA : (Obj.cells ((List.replicate n (0 : Nat)).map u64v).toArray 32 (0, 0)) = A at hk1
  generalize hB : (Obj.cells ((List.replicate n (0 : Int)).map i64v).toArray 3 (0, 0)) = B at hk2
  have HA := Lib.hid hA
  have HB := Lib.hid hB
  clear hA hB
  go_enter Try.func108, Try.ntmps108
  go_wp2_with fail
  go_region
  · go_wp2
    go_ret2
    have hm := heap_new ((W.alloc A).alloc B) (.cells #[.slice (some ⟨W.heap.size, 0, none⟩) n n, .slice (some ⟨W.heap.size + 1, 0, none⟩) n n, .int .i64 0, .int .i64 0, .int .i64 0, .int .i64 0, .bool false] 128)
    have hw := heap_old (o' := .cells #[.slice (some ⟨W.heap.size, 0, none⟩) n n, .slice (some ⟨W.heap.size + 1, 0, none⟩) n n, .int .i64 0, .int .i64 0, .int .i64 0, .int .i64 0, .bool false] 128) (heap_old (o' := B) (heap_new W A))
    have ht := heap_old (o' := .cells #[.slice (some ⟨W.heap.size, 0, none⟩) n n, .slice (some ⟨W.heap.size + 1, 0, none⟩) n n, .int .i64 0, .int .i64 0, .int .i64 0, .int .i64 0, .bool false] 128) (heap_new (W.alloc A) B)
    have z2 : ((W.alloc A).alloc B).heap.size = W.heap.size + 1 + 1 := by simp
    have z1 : (W.alloc A).heap.size = W.heap.size + 1 := by simp
    rw [z2] at hm
    rw [z1] at ht
    obtain rfl := HA.out
    obtain rfl := HB.out
    refine ⟨⟨W.heap.size + 1 + 1, W.heap.size, W.heap.size + 1⟩, rfl, ⟨?_, hw, ht, by simp, by simp; omega, by simp, by simp, ?_, by simpa using h1⟩, (((Ext.refl W).alloc _).alloc _).alloc _ |>.drew, ?_⟩
    · simp only [List.length_replicate]; exact hm
    · intro x hx; rw [List.eq_of_mem_replicate hx]; omega
    · intro x hx; simp only [Loc.all, List.mem_cons, List.not_mem_nil, or_false] at hx; omega
  · go_wp2
    go_ret2
    have hm := heap_new ((W.alloc B).alloc A) (.cells #[.slice (some ⟨W.heap.size + 1, 0, none⟩) n n, .slice (some ⟨W.heap.size, 0, none⟩) n n, .int .i64 0, .int .i64 0, .int .i64 0, .int .i64 0, .bool false] 128)
    have ht := heap_old (o' := .cells #[.slice (some ⟨W.heap.size + 1, 0, none⟩) n n, .slice (some ⟨W.heap.size, 0, none⟩) n n, .int .i64 0, .int .i64 0, .int .i64 0, .int .i64 0, .bool false] 128) (heap_old (o' := A) (heap_new W B))
    have hw := heap_old (o' := .cells #[.slice (some ⟨W.heap.size + 1, 0, none⟩) n n, .slice (some ⟨W.heap.size, 0, none⟩) n n, .int .i64 0, .int .i64 0, .int .i64 0, .int .i64 0, .bool false] 128) (heap_new (W.alloc B) A)
    have z2 : ((W.alloc B).alloc A).heap.size = W.heap.size + 1 + 1 := by simp
    have z1 : (W.alloc B).heap.size = W.heap.size + 1 := by simp
    rw [z2] at hm
    rw [z1] at hw
    obtain rfl := HA.out
    obtain rfl := HB.out
    refine ⟨⟨W.heap.size + 1 + 1, W.heap.size + 1, W.heap.size⟩, rfl, ⟨?_, hw, ht, by simp, by simp, by simp; omega, by simp, ?_, by simpa using h1⟩, (((Ext.refl W).alloc _).alloc _).alloc _ |>.drew, ?_⟩
    · simp only [List.length_replicate]; exact hm
    · intro x hx; rw [List.eq_of_mem_replicate hx]; omega
    · intro x hx; simp only [Loc.all, List.mem_cons, List.not_mem_nil, or_false] at hx; omega

end Go.Proofs.Ythblhgappldcjaa
