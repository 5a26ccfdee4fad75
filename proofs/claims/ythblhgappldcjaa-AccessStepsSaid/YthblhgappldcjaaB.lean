/- Worlds that grow, or change in a few blocks alone; bits as sums. -/
import Derived.Test.YthblhgappldcjaaA
import Derived.Test.YthblhgappldcjaaM
namespace Go.Proofs.Ythblhgappldcjaa
open Go Go.RowKit

theorem Try.mixed : Try.prog.follows .mixedOrders = true := by kernel_rfl

/-- w' is w with new blocks behind it (and draws made). -/
def Ext (w w' : World) : Prop := Below w.heap.size w w'

theorem Ext.refl (w : World) : Ext w w := Below.refl _ _
theorem Ext.size {w w' : World} (h : Ext w w') : w.heap.size ≤ w'.heap.size := Below.size h
theorem Ext.block {w w' : World} (h : Ext w w') {k : Nat} (hk : k < w.heap.size) : w'.heap[k]? = w.heap[k]? := Below.block h k hk
theorem Ext.trans {a b c : World} (h : Ext a b) (k : Ext b c) : Ext a c :=
  Below.trans h (Below.mono k h.size)
theorem Ext.alloc {a w : World} (h : Ext a w) (o : Obj) : Ext a (w.alloc o) := Below.alloc h h.size o
theorem Ext.drew {a w : World} (h : Ext a w) : Ext a w.drew := Below.drew h
theorem Ext.setNew {a w : World} (h : Ext a w) {p : Addr} (hp : a.heap.size ≤ p.block) (v : Value) : Ext a (w.setCell p v) := Below.setCell h hp v
theorem Ext.below {w w' : World} (h : Ext w w') : Below w.heap.size w w' := h
theorem Ext.drewN {a w : World} (h : Ext a w) (n : Nat) : Ext a (w.drewN n) := by
  induction n generalizing w with
  | zero => exact h
  | succ n ih => rw [← World.drew_drewN]; exact (ih h).drew

theorem lt_of_heap {w : World} {b : Nat} {o : Obj} (h : w.heap[b]? = some o) : b < w.heap.size := (Array.getElem?_eq_some_iff.1 h).1
theorem Ext.keep {w w' : World} (h : Ext w w') {b : Nat} {o : Obj} (hb : w.heap[b]? = some o) : w'.heap[b]? = some o := (h.block (lt_of_heap hb)).trans hb

theorem cell_of {w : World} {b : Nat} {c : Array Value} {t : TypeId} {f : Nat × Nat} (h : w.heap[b]? = some (.cells c t f)) (o : Nat) : w.cell? ⟨b, o, none⟩ = c[o]? := by
  simp only [World.cell?, h, Option.isSome_none, Bool.false_eq_true, if_false]
theorem frozen_of {w : World} {b : Nat} {c : Array Value} {t : TypeId} (h : w.heap[b]? = some (.cells c t (0, 0))) (o : Nat) : w.frozen? ⟨b, o, none⟩ = false := by
  simp [World.frozen?, h]
theorem Ext.cellOf {w w' : World} (hx : Ext w w') {b : Nat} {c : Array Value} {t : TypeId} {f : Nat × Nat} (h : w.heap[b]? = some (.cells c t f)) (o : Nat) : w'.cell? ⟨b, o, none⟩ = c[o]? := cell_of (hx.keep h) o

theorem heap_new (w : World) (o : Obj) : (w.alloc o).heap[w.heap.size]? = some o := by
  show (w.heap.push o)[w.heap.size]? = some o
  simp
theorem heap_old {w : World} {b : Nat} {o o' : Obj} (h : w.heap[b]? = some o) : (w.alloc o').heap[b]? = some o := (Ext.refl w).alloc o' |>.keep h
theorem heap_set {w : World} {b : Nat} {c : Array Value} {t : TypeId} {f : Nat × Nat} (h : w.heap[b]? = some (.cells c t f)) (o : Nat) (v : Value) :
    (w.setCell ⟨b, o, none⟩ v).heap[b]? = some (.cells (c.setIfInBounds o v) t f) := by
  simp [World.setCell, Array.getElem?_modify, h]
theorem heap_far {w : World} {b : Nat} {o : Obj} (h : w.heap[b]? = some o) {p : Addr} (hne : b ≠ p.block) (v : Value) : (w.setCell p v).heap[b]? = some o := by
  rw [Below.heap_setCell _ _ _ _ hne]; exact h

/-- w' is w, but for the blocks in S and new ones. -/
structure Upd (S : List Nat) (w w' : World) : Prop where
  os : w'.os = w.os
  tape : w'.tape = w.tape
  output : w'.output = w.output
  size : w.heap.size ≤ w'.heap.size
  block : ∀ k, k < w.heap.size → k ∉ S → w'.heap[k]? = w.heap[k]?

theorem Upd.refl (S : List Nat) (w : World) : Upd S w w := ⟨rfl, rfl, rfl, Nat.le_refl _, fun _ _ _ => rfl⟩
theorem Ext.upd {w w' : World} (h : Ext w w') (S : List Nat) : Upd S w w' := ⟨Below.os h, Below.tape h, Below.output h, h.size, fun _ hk _ => h.block hk⟩
theorem Upd.ext {w w' : World} (h : Upd [] w w') : Ext w w' := ⟨h.os, h.tape, h.output, h.size, fun k hk => h.block k hk (by simp)⟩
theorem Upd.trans {S : List Nat} {a b c : World} (h : Upd S a b) (k : Upd S b c) : Upd S a c :=
  ⟨k.os.trans h.os, k.tape.trans h.tape, k.output.trans h.output, Nat.le_trans h.size k.size, fun i hi hS => (k.block i (Nat.lt_of_lt_of_le hi h.size) hS).trans (h.block i hi hS)⟩
/-- A step that touches blocks of S, and blocks that are newer than a. -/
theorem Upd.then {S S' : List Nat} {a b c : World} (h : Upd S a b) (k : Upd S' b c) (hS : ∀ x, x ∈ S' → x ∈ S ∨ a.heap.size ≤ x) : Upd S a c :=
  ⟨k.os.trans h.os, k.tape.trans h.tape, k.output.trans h.output, Nat.le_trans h.size k.size, fun i hi hn => (k.block i (Nat.lt_of_lt_of_le hi h.size) (fun hm => by
    rcases hS i hm with h1 | h1
    · exact hn h1
    · omega)).trans (h.block i hi hn)⟩
theorem Upd.mono {S S' : List Nat} {a b : World} (h : Upd S a b) (hS : ∀ x, x ∈ S → x ∈ S') : Upd S' a b :=
  ⟨h.os, h.tape, h.output, h.size, fun k hk hn => h.block k hk (fun hm => hn (hS k hm))⟩
theorem Upd.extR {S : List Nat} {a b c : World} (h : Upd S a b) (k : Ext b c) : Upd S a c := h.trans (k.upd S)
theorem Upd.extL {S : List Nat} {a b c : World} (k : Ext a b) (h : Upd S b c) : Upd S a c := (k.upd S).trans h
theorem Upd.set {S : List Nat} {a w : World} (h : Upd S a w) {p : Addr} (hp : p.block ∈ S ∨ a.heap.size ≤ p.block) (v : Value) : Upd S a (w.setCell p v) :=
  ⟨h.os, h.tape, h.output, by simpa using h.size, fun k hk hn => by
    rw [Below.heap_setCell _ _ _ _ (fun e => by
      subst e
      rcases hp with hp | hp
      · exact hn hp
      · omega)]
    exact h.block k hk hn⟩
theorem Upd.alloc {S : List Nat} {a w : World} (h : Upd S a w) (o : Obj) : Upd S a (w.alloc o) := h.extR ((Ext.refl w).alloc o)
theorem Upd.drew {S : List Nat} {a w : World} (h : Upd S a w) : Upd S a w.drew := h.extR (Ext.refl w).drew
theorem Upd.keep {S : List Nat} {w w' : World} (h : Upd S w w') {b : Nat} {o : Obj} (hb : w.heap[b]? = some o) (hn : b ∉ S) : w'.heap[b]? = some o := (h.block b (lt_of_heap hb) hn).trans hb

/-! ### Bits -/
theorem and_mask (n i : Nat) (hn : n < 18446744073709551616) (hi : i ≤ 64) : bits .and .u64 (n : Int) ((2 ^ i - 1 : Nat) : Int) = ((n % 2 ^ i : Nat) : Int) := by
  have h2 : 2 ^ i ≤ 2 ^ 64 := Nat.pow_le_pow_right (by decide) hi
  have h3 : 0 < 2 ^ i := Nat.pow_pos (by decide)
  rw [u64_and_nat n (2 ^ i - 1) hn (by have : (2:Nat) ^ 64 = 18446744073709551616 := by decide
                                       omega), Nat.and_two_pow_sub_one_eq_mod]

theorem and7 (n : Nat) (hn : n < 18446744073709551616) : bits .and .u64 (n : Int) 7 = ((n % 8 : Nat) : Int) := and_mask n 3 hn (by decide)
theorem and3 (n : Nat) (hn : n < 18446744073709551616) : bits .and .u64 (n : Int) 3 = ((n % 4 : Nat) : Int) := and_mask n 2 hn (by decide)
theorem and1 (n : Nat) (hn : n < 18446744073709551616) : bits .and .u64 (n : Int) 1 = ((n % 2 : Nat) : Int) := and_mask n 1 hn (by decide)
theorem and63 (n : Nat) (hn : n < 18446744073709551616) : bits .and .u64 (n : Int) 63 = ((n % 64 : Nat) : Int) := and_mask n 6 hn (by decide)
theorem and65535 (n : Nat) (hn : n < 18446744073709551616) : bits .and .u64 (n : Int) 65535 = ((n % 65536 : Nat) : Int) := and_mask n 16 hn (by decide)
theorem and131071 (n : Nat) (hn : n < 18446744073709551616) : bits .and .u64 (n : Int) 131071 = ((n % 131072 : Nat) : Int) := and_mask n 17 hn (by decide)
theorem and1048575 (n : Nat) (hn : n < 18446744073709551616) : bits .and .u64 (n : Int) 1048575 = ((n % 1048576 : Nat) : Int) := and_mask n 20 hn (by decide)
theorem and4194303 (n : Nat) (hn : n < 18446744073709551616) : bits .and .u64 (n : Int) 4194303 = ((n % 4194304 : Nat) : Int) := and_mask n 22 hn (by decide)
theorem and68719476735 (n : Nat) (hn : n < 18446744073709551616) : bits .and .u64 (n : Int) 68719476735 = ((n % 68719476736 : Nat) : Int) := and_mask n 36 hn (by decide)
theorem and1099511627775 (n : Nat) (hn : n < 18446744073709551616) : bits .and .u64 (n : Int) 1099511627775 = ((n % 1099511627776 : Nat) : Int) := and_mask n 40 hn (by decide)

theorem or_sum (i : Nat) (x y : Nat) (hx : x % 2 ^ i = 0) (hy : y < 2 ^ i) (hx2 : x < 18446744073709551616) (hy2 : y < 18446744073709551616) : bits .or .u64 (y : Int) (x : Int) = ((y + x : Nat) : Int) := by
  rw [u64_or_nat y x hy2 hx2, Nat.or_comm, nat_join i x y hx hy, Nat.add_comm]
theorem or_sum' (i : Nat) (x y : Nat) (hx : x % 2 ^ i = 0) (hy : y < 2 ^ i) (hx2 : x < 18446744073709551616) (hy2 : y < 18446744073709551616) : bits .or .u64 (x : Int) (y : Int) = ((x + y : Nat) : Int) := by
  rw [u64_or_nat x y hx2 hy2, nat_join i x y hx hy]
theorem wrap_u64_nat (n : Nat) (hn : n < 18446744073709551616) : IntKind.u64.wrap (n : Int) = (n : Int) := by
  rw [IntKind.wrap_u64]; omega
theorem wrap64_id {n : Int} (h0 : -9223372036854775808 ≤ n) (h1 : n ≤ 9223372036854775807) : wrap64 n = n := by
  unfold wrap64; omega

theorem or_next (i : Nat) (y f : Nat) (k : Int) (hk : k = ((2 ^ i : Nat) : Int)) (hy : y < 2 ^ i) (hf : f * 2 ^ i < 18446744073709551616) (hy2 : y < 18446744073709551616) :
    bits .or .u64 (y : Int) (IntKind.u64.wrap ((f : Int) * k)) = ((y + f * 2 ^ i : Nat) : Int) := by
  have e : ((f : Int) * k) = ((f * 2 ^ i : Nat) : Int) := by rw [hk, Int.natCast_mul]
  rw [e, wrap_u64_nat _ hf, or_sum i _ _ (Nat.mul_mod_left f (2 ^ i)) hy hf hy2]

theorem ret_int {k : IntKind} {a b : Int} (h : a = b) : Ending.returned (.int k a) = .returned (.int k b) := by rw [h]

end Go.Proofs.Ythblhgappldcjaa
