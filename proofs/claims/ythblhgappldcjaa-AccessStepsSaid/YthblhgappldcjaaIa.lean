/- The contracts of drop. -/
import Derived.Test.YthblhgappldcjaaHa
import Derived.Test.YthblhgappldcjaaGb
import Derived.Test.YthblhgappldcjaaK
namespace Go.Proofs.Ythblhgappldcjaa
open Go Go.RowKit
set_option linter.unusedVariables false

structure DropAt (W : World) (l : Loc) (F : List Nat) (b : Nat) (d : Fl.Drop) : Prop where
  ex : ∃ H G : Value, W.heap[b]? = some (.cells #[.int .u64 (d.n : Nat), .bool d.own, .int .i64 d.h.slot, .int .i64 d.h.gen, .int .i64 d.pc, .int .u64 (d.w : Nat), .int .i64 d.size, H, G, .int .i64 d.out.e, .int .u64 (d.out.handle : Nat), .int .i64 d.out.value, .int .i64 d.out.stamp] 123 (0, 0)) ∧
    (d.pc = 3 ∨ d.pc = 4 → ∃ hb, hb ∈ F ∧ hb ≠ b ∧ H = .pointer (some ⟨hb, 0, none⟩) ∧ HelpAt W hb d.help) ∧
    (d.pc = 6 → ∃ gb, gb ∈ F ∧ gb ≠ b ∧ G = .pointer (some ⟨gb, 0, none⟩) ∧ GiveAt W gb d.give)
  mem : b ∈ F
  out : ∀ x, x ∈ F → x ∉ l.all
  lt : ∀ x, x ∈ F → x < W.heap.size
  n : d.n < 18446744073709551616
  w : d.w < 18446744073709551616
  slot : 0 ≤ d.h.slot ∧ d.h.slot ≤ 65535
  gen : 0 ≤ d.h.gen ∧ d.h.gen ≤ 65535
  size : 0 ≤ d.size ∧ d.size ≤ 65535
  pc : 0 ≤ d.pc ∧ d.pc ≤ 6

def DropRes (r : Value) (c : Fl.Cfg) (who : Int) (σ : Fl.Mem) (d : Fl.Drop) (l : Loc) (F : List Nat) (b : Nat) (W : World) (e : Ending) (w' : World) : Prop :=
  e = .returned r ∧ MemAt w' l (d.step c who σ).2.2 ∧ Upd (F ++ l.all) W w' ∧
    ∃ F', DropAt w' l F' b (d.step c who σ).2.1 ∧ ∀ x, x ∈ F' → x ∈ F ∨ W.heap.size ≤ x

theorem n_drop (l : Loc) (n : Nat) (own : Bool) (W : World) (hn : n < 18446744073709551616) (hl : ∀ x, x ∈ l.all → x < W.heap.size) :
    Calls Try.prog 31 #[.int .u64 n, .bool own] W fun e w' => e = .returned (.pointer (some ⟨W.heap.size, 0, none⟩)) ∧ DropAt w' l [W.heap.size] W.heap.size (Fl.Drop.new n own) ∧ Ext W w' := by
  have hE := heap_new W (.cells #[.int .u64 (n : Nat), .bool own, .int .i64 0, .int .i64 0, .int .i64 0, .int .u64 0, .int .i64 0, .pointer none, .pointer none, .int .i64 0, .int .u64 0, .int .i64 0, .int .i64 0] 123)
  have hX := (Ext.refl W).alloc (.cells #[.int .u64 (n : Nat), .bool own, .int .i64 0, .int .i64 0, .int .i64 0, .int .u64 0, .int .i64 0, .pointer none, .pointer none, .int .i64 0, .int .u64 0, .int .i64 0, .int .i64 0] 123)
  go_enter Try.func31, Try.ntmps31
  go_wp2
  go_ret
  refine ⟨rfl, ⟨⟨.pointer none, .pointer none, hE, by simp [Fl.Drop.new], by simp [Fl.Drop.new]⟩, by simp, ?_, ?_, hn, by simp [Fl.Drop.new], by simp [Fl.Drop.new], by simp [Fl.Drop.new], by simp [Fl.Drop.new], by simp [Fl.Drop.new]⟩, hX⟩
  · intro x hx; rw [List.mem_singleton.1 hx]; intro hm; have := hl _ hm; omega
  · intro x hx; rw [List.mem_singleton.1 hx]; exact lt_of_heap hE

theorem d_done (l : Loc) (F : List Nat) (b : Nat) (d : Fl.Drop) (W : World) (hd : DropAt W l F b d) :
    Calls Try.prog 33 #[.pointer (some ⟨b, 0, none⟩)] W fun e w' => e = .returned (.agg #[.int .i64 d.out.e, .int .u64 (d.out.handle : Nat), .int .i64 d.out.value, .int .i64 d.out.stamp]) ∧ Ext W w' := by
  obtain ⟨⟨H, G, hB, hH, hG⟩, hbF, hout, hFl, hn, hw, hsl, hgn, hsz, hpc⟩ := hd
  have hbl := lt_of_heap hB
  have c0 := fun w' o (k : Ext W w') => k.cellOf hB o
  have hX := (Ext.refl W).alloc (.cells #[.int .i64 0, .int .u64 0, .int .i64 0, .int .i64 0] 34)
  clear hB hH hG
  go_enter Try.func33, Try.ntmps33
  go_wp2
  refine bodyPost_ret (v := .agg #[.int .i64 d.out.e, .int .u64 (d.out.handle : Nat), .int .i64 d.out.value, .int .i64 d.out.stamp]) ?_ rfl ⟨rfl, ?_⟩
  · simp [results, Try.results33, go_sem]
  · exact (Ext.refl _).alloc _

theorem d_done_nil (W : World) :
    Calls Try.prog 33 #[.pointer none] W fun e w' => e = .returned (.agg #[.int .i64 1, .int .u64 0, .int .i64 0, .int .i64 0]) ∧ Ext W w' := by
  go_enter Try.func33, Try.ntmps33
  go_wp2
  refine bodyPost_ret (v := .agg #[.int .i64 1, .int .u64 0, .int .i64 0, .int .i64 0]) ?_ rfl ⟨rfl, ?_⟩
  · simp [results, Try.results33, go_sem]
  · exact (Ext.refl _).alloc _

set_option maxHeartbeats 1000000 in
theorem d_inv (c : Fl.Cfg) (l : Loc) (σ : Fl.Mem) (who : Int) (F : List Nat) (b : Nat) (d : Fl.Drop) (W : World) (h : MemAt W l σ)
    (hd : DropAt W l F b d) :
    Calls Try.prog 80 #[.pointer (some ⟨b, 0, none⟩), .agg #[.int .i64 c.threads, .int .i64 c.slots, .int .i64 c.chunks, .int .i64 c.words, .int .i64 c.gens, .int .i64 c.sparse, .int .i64 c.tries, .pointer (some ⟨l.m, 0, none⟩), .int .i64 who]] W fun e w' => e = .returned (.bool true) ∧ MemAt w' l σ ∧ DropAt w' l F b (d.invalid σ).2.1 ∧ Upd [b] W w' := by
  have hd' := hd
  obtain ⟨⟨H, G, hB, hH, hG⟩, hbF, hout, hFl, hn, hw, hsl, hgn, hsz, hpc⟩ := hd
  have hb := hout b hbF
  have hlt := h.lt
  have hbl := lt_of_heap hB
  have hE := heap_new W (.cells #[.int .i64 c.threads, .int .i64 c.slots, .int .i64 c.chunks, .int .i64 c.words, .int .i64 c.gens, .int .i64 c.sparse, .int .i64 c.tries, .pointer (some ⟨l.m, 0, none⟩), .int .i64 who] 27)
  have hX := (Ext.refl W).alloc (.cells #[.int .i64 c.threads, .int .i64 c.slots, .int .i64 c.chunks, .int .i64 c.words, .int .i64 c.gens, .int .i64 c.sparse, .int .i64 c.tries, .pointer (some ⟨l.m, 0, none⟩), .int .i64 who] 27)
  have hsE := lt_of_heap hE
  have HB1 := Lib.hid (hX.keep hB)
  have c0 := fun w' o (k : Ext W w') => k.cellOf hB o
  have HPG := Lib.hid (And.intro hH hG)
  clear hB hH hG
  go_enter Try.func80, Try.ntmps80
  go_wp2_with fail
  generalize W.alloc (.cells #[.int .i64 c.threads, .int .i64 c.slots, .int .i64 c.chunks, .int .i64 c.words, .int .i64 c.gens, .int .i64 c.sparse, .int .i64 c.tries, .pointer (some ⟨l.m, 0, none⟩), .int .i64 who] 27) = w1 at *
  have cE := fun w' o (k : Ext w1 w') => k.cellOf hE o
  have cb1 := fun w' o (k : Ext w1 w') => c0 w' o (hX.trans k)
  have r1 := Ext.refl w1
  refine (e_now c l σ who _ (h.ext hX)).mono ?_
  rintro e w2 ⟨rfl, x2⟩
  have HB2 := Lib.hid (x2.keep HB1.out)
  have c_HB2_w2 := fun w' o (k : Ext w2 w') => k.cellOf HB2.out o
  have f_HB2_w2 := fun w' o (k : Ext w2 w') => frozen_of (k.keep HB2.out) o
  have r_HB2_w2 := Ext.refl w2
  clear c0 cb1 cE
  go_wp2
  go_ret
  unfold Fl.Drop.invalid
  refine ⟨rfl, (h.ext (hX.trans x2)).keep1 ((((((Upd.refl [b] _)).set1 _ _).set1 _ _).set1 _ _).set1 _ _) hb, ⟨⟨H, G, (heap_set (heap_set (heap_set (heap_set HB2.out _ _) _ _) _ _) _ _).trans (by simp), fun q => ?_, fun q => ?_⟩, hbF, hout, fun x hx => ?_, hn, hw, hsl, hgn, hsz, hpc⟩, ((hX.trans x2).upd _).trans ((((((Upd.refl [b] _)).set1 _ _).set1 _ _).set1 _ _).set1 _ _)⟩
  · obtain ⟨p, h1, h2, h3, h4⟩ := HPG.out.1 q
    exact ⟨p, h1, h2, h3, (h4.keep ((hX.trans x2).upd []) (by simp)).keep ((((((Upd.refl [b] _)).set1 _ _).set1 _ _).set1 _ _).set1 _ _) (by simpa using h2)⟩
  · obtain ⟨p, h1, h2, h3, h4⟩ := HPG.out.2 q
    exact ⟨p, h1, h2, h3, (h4.keep ((hX.trans x2).upd []) (by simp)).keep ((((((Upd.refl [b] _)).set1 _ _).set1 _ _).set1 _ _).set1 _ _) (by simpa using h2)⟩
  · have := hFl x hx; have := hX.size; have := x2.size; simp; omega

theorem drop0a (c : Fl.Cfg) (who : Int) (σ : Fl.Mem) (d : Fl.Drop) (p0 : d.pc = 0) (hc : (Fl.handle d.n).2 = false ∨ (Fl.handle d.n).1.slot ≥ c.slots) :
    d.step c who σ = ({ d with h := (Fl.handle d.n).1 } : Fl.Drop).invalid σ := by
  unfold Fl.Drop.step; rw [if_pos p0]; simp only [if_pos hc]
theorem drop0b (c : Fl.Cfg) (who : Int) (σ : Fl.Mem) (d : Fl.Drop) (p0 : d.pc = 0) (hc : ¬ ((Fl.handle d.n).2 = false ∨ (Fl.handle d.n).1.slot ≥ c.slots))
    (x : Nat) (m : Fl.Mem) (hl : σ.load who (Fl.pSlot c (Fl.handle d.n).1.slot) = (x, m)) :
    d.step c who σ = if Fl.live (Fl.slotOf x) (Fl.handle d.n).1 = false then ({ d with h := (Fl.handle d.n).1, w := x } : Fl.Drop).invalid m else (false, { d with h := (Fl.handle d.n).1, w := x, pc := 1 }, m) := by
  unfold Fl.Drop.step; rw [if_pos p0]; simp only [if_neg hc, hl]

set_option maxHeartbeats 2000000 in
set_option maxRecDepth 100000 in
theorem d_see (c : Fl.Cfg) (l : Loc) (σ : Fl.Mem) (who : Int) (F : List Nat) (b : Nat) (d : Fl.Drop) (W : World) (gc : GoodC c) (h : MemAt W l σ) (hs : 0 ≤ σ.steps ∧ σ.steps < 4611686018427387904)
    (hd : DropAt W l F b d) (p0 : d.pc = 0) :
    Calls Try.prog 78 #[.pointer (some ⟨b, 0, none⟩), .agg #[.int .i64 c.threads, .int .i64 c.slots, .int .i64 c.chunks, .int .i64 c.words, .int .i64 c.gens, .int .i64 c.sparse, .int .i64 c.tries, .pointer (some ⟨l.m, 0, none⟩), .int .i64 who]] W (DropRes (.bool (d.step c who σ).1) c who σ d l F b W) := by
  have HA := Lib.hid (fun h1 => drop0a c who σ d p0 h1)
  have HC := Lib.hid (fun h1 => drop0b c who σ d p0 h1)
  have HP0 := Lib.hid p0
  obtain ⟨⟨H, G, hB, hH, hG⟩, hbF, hout, hFl, hn, hw, hsl, hgn, hsz, hpc⟩ := hd
  have hb := hout b hbF
  have hlt := h.lt
  have hbl := lt_of_heap hB
  have hE := heap_new W (.cells #[.int .i64 c.threads, .int .i64 c.slots, .int .i64 c.chunks, .int .i64 c.words, .int .i64 c.gens, .int .i64 c.sparse, .int .i64 c.tries, .pointer (some ⟨l.m, 0, none⟩), .int .i64 who] 27)
  have hX := (Ext.refl W).alloc (.cells #[.int .i64 c.threads, .int .i64 c.slots, .int .i64 c.chunks, .int .i64 c.words, .int .i64 c.gens, .int .i64 c.sparse, .int .i64 c.tries, .pointer (some ⟨l.m, 0, none⟩), .int .i64 who] 27)
  have hsE := lt_of_heap hE
  rw [p0] at hB
  have HB1 := Lib.hid (hX.keep hB)
  have c0 := fun w' o (k : Ext W w') => k.cellOf hB o
  have HPG := Lib.hid (And.intro hH hG)
  clear hB hH hG
  go_enter Try.func78, Try.ntmps78
  go_wp2_with fail
  generalize W.alloc (.cells #[.int .i64 c.threads, .int .i64 c.slots, .int .i64 c.chunks, .int .i64 c.words, .int .i64 c.gens, .int .i64 c.sparse, .int .i64 c.tries, .pointer (some ⟨l.m, 0, none⟩), .int .i64 who] 27) = w1 at *
  have cE := fun w' o (k : Ext w1 w') => k.cellOf hE o
  have cb1 := fun w' o (k : Ext w1 w') => c0 w' o (hX.trans k)
  have r1 := Ext.refl w1
  have c_HB1_w1 := fun w' o (k : Ext w1 w') => k.cellOf HB1.out o
  have f_HB1_w1 := fun w' o (k : Ext w1 w') => frozen_of (k.keep HB1.out) o
  have r_HB1_w1 := Ext.refl w1
  refine (c_handle _ _ hn).mono ?_
  rintro e w2 ⟨rfl, x2⟩
  obtain ⟨r1, r2, r3, r4⟩ := Fl.handle_range d.n
  generalize hhd : Fl.handle d.n = hd2 at *
  obtain ⟨⟨hs2, hg2⟩, is⟩ := hd2
  simp only at r1 r2 r3 r4
  clear hhd
  have HB2 := Lib.hid (x2.keep HB1.out)
  have E2 := x2.keep hE
  have c_HB2_w2 := fun w' o (k : Ext w2 w') => k.cellOf HB2.out o
  have f_HB2_w2 := fun w' o (k : Ext w2 w') => frozen_of (k.keep HB2.out) o
  have r_HB2_w2 := Ext.refl w2
  have cE2 := fun w' o (k : Ext w2 w') => k.cellOf E2 o
  clear c0 cb1 cE c_HB1_w1 f_HB1_w1
  have a2 := fun o => (Ext.refl w2).alloc o
  cases is
  · have HF := Lib.hid (HA.out (Or.inl rfl))
    clear HA HC
    go_wp2_with fail
    have HB3 := Lib.hid (heap_set (heap_set (heap_old (o' := .cells #[.int .i64 hs2, .int .i64 hg2] 46) HB2.out) 2 (.int .i64 hs2)) 3 (.int .i64 hg2))
    have u3 := (((Upd.refl [b] w2).alloc (.cells #[.int .i64 hs2, .int .i64 hg2] 46)).set1 2 (.int .i64 hs2)).set1 3 (.int .i64 hg2)
    generalize World.setCell (World.setCell (w2.alloc (.cells #[.int .i64 hs2, .int .i64 hg2] 46)) ⟨b, 2, none⟩ (.int .i64 hs2)) ⟨b, 3, none⟩ (.int .i64 hg2) = w3 at *
    simp only [List.setIfInBounds_toArray, List.set_cons_zero, List.set_cons_succ] at HB3
    have h3 := (h.ext (hX.trans x2)).keep1 u3 hb
    have z3 := u3.size
    have z2 := (hX.trans x2).size
    have HD3 : DropAt w3 l F b { d with h := ⟨hs2, hg2⟩ } := ⟨⟨H, G, by rw [HP0.out]; exact HB3.out, fun q => by simp only [HP0.out] at q; omega, fun q => by simp only [HP0.out] at q; omega⟩, hbF, hout, fun x hx => by have := hFl x hx; omega, hn, hw, ⟨r1, r2⟩, ⟨r3, r4⟩, hsz, hpc⟩
    refine (d_inv c l σ who F b _ w3 h3 HD3).mono ?_
    rintro e w4 ⟨rfl, h4, hd4, u4⟩
    go_wp2
    go_ret
    unfold DropRes
    rw [HF.out]
    exact ⟨rfl, h4, ((hX.trans x2).upd _).trans ((u3.own1 hbF).trans (u4.own1 hbF)), F, hd4, fun x hx => Or.inl hx⟩
  · by_cases q0 : hs2 ≥ c.slots
    · have b0 : decide (hs2 ≥ c.slots) = true := decide_eq_true q0
      have HF := Lib.hid (HA.out (Or.inr q0))
      clear HA HC
      go_wp2_with fail
      have HB3 := Lib.hid (heap_set (heap_set (heap_old (o' := .cells #[.int .i64 hs2, .int .i64 hg2] 46) HB2.out) 2 (.int .i64 hs2)) 3 (.int .i64 hg2))
      have u3 := (((Upd.refl [b] w2).alloc (.cells #[.int .i64 hs2, .int .i64 hg2] 46)).set1 2 (.int .i64 hs2)).set1 3 (.int .i64 hg2)
      generalize World.setCell (World.setCell (w2.alloc (.cells #[.int .i64 hs2, .int .i64 hg2] 46)) ⟨b, 2, none⟩ (.int .i64 hs2)) ⟨b, 3, none⟩ (.int .i64 hg2) = w3 at *
      simp only [List.setIfInBounds_toArray, List.set_cons_zero, List.set_cons_succ] at HB3
      have h3 := (h.ext (hX.trans x2)).keep1 u3 hb
      have z3 := u3.size
      have z2 := (hX.trans x2).size
      have HD3 : DropAt w3 l F b { d with h := ⟨hs2, hg2⟩ } := ⟨⟨H, G, by rw [HP0.out]; exact HB3.out, fun q => by simp only [HP0.out] at q; omega, fun q => by simp only [HP0.out] at q; omega⟩, hbF, hout, fun x hx => by have := hFl x hx; omega, hn, hw, ⟨r1, r2⟩, ⟨r3, r4⟩, hsz, hpc⟩
      refine (d_inv c l σ who F b _ w3 h3 HD3).mono ?_
      rintro e w4 ⟨rfl, h4, hd4, u4⟩
      go_wp2
      go_ret
      unfold DropRes
      rw [HF.out]
      exact ⟨rfl, h4, ((hX.trans x2).upd _).trans ((u3.own1 hbF).trans (u4.own1 hbF)), F, hd4, fun x hx => Or.inl hx⟩
    · have b0 : decide (hs2 ≥ c.slots) = false := decide_eq_false q0
      have HF := Lib.hid (HC.out (by simpa using q0))
      clear HA HC
      go_wp2_with fail
      have hbW : W.heap.size ≤ w2.heap.size := (hX.trans x2).size
      have E3 := heap_far (heap_far (heap_old (o' := .cells #[.int .i64 hs2, .int .i64 hg2] 46) E2) (p := ⟨b, 2, none⟩) (show W.heap.size ≠ b by omega) (.int .i64 hs2)) (p := ⟨b, 3, none⟩) (show W.heap.size ≠ b by omega) (.int .i64 hg2)
      have HH3 := Lib.hid (heap_far (heap_far (heap_new w2 (.cells #[.int .i64 hs2, .int .i64 hg2] 46)) (p := ⟨b, 2, none⟩) (show w2.heap.size ≠ b by omega) (.int .i64 hs2)) (p := ⟨b, 3, none⟩) (show w2.heap.size ≠ b by omega) (.int .i64 hg2))
      have HB3 := Lib.hid (heap_set (heap_set (heap_old (o' := .cells #[.int .i64 hs2, .int .i64 hg2] 46) HB2.out) 2 (.int .i64 hs2)) 3 (.int .i64 hg2))
      have u3 := (((Upd.refl [b] w2).alloc (.cells #[.int .i64 hs2, .int .i64 hg2] 46)).set1 2 (.int .i64 hs2)).set1 3 (.int .i64 hg2)
      generalize World.setCell (World.setCell (w2.alloc (.cells #[.int .i64 hs2, .int .i64 hg2] 46)) ⟨b, 2, none⟩ (.int .i64 hs2)) ⟨b, 3, none⟩ (.int .i64 hg2) = w3 at *
      simp only [List.setIfInBounds_toArray, List.set_cons_zero, List.set_cons_succ] at HB3
      have h3 := (h.ext (hX.trans x2)).keep1 u3 hb
      have hub : Upd (F ++ l.all) W w3 := ((hX.trans x2).upd _).trans (u3.own1 hbF)
      clear u3
      have nhb : b ≠ w2.heap.size := by omega
      have hhl : w2.heap.size ∉ l.all := fun hm => by have := hlt _ hm; omega
      generalize w2.heap.size = bh at *
      have c_HB3_w3 := fun w' o (k : Ext w3 w') => k.cellOf HB3.out o
      have f_HB3_w3 := fun w' o (k : Ext w3 w') => frozen_of (k.keep HB3.out) o
      have r_HB3_w3 := Ext.refl w3
      have c_HH3_w3 := fun w' o (k : Ext w3 w') => k.cellOf HH3.out o
      have f_HH3_w3 := fun w' o (k : Ext w3 w') => frozen_of (k.keep HH3.out) o
      have r_HH3_w3 := Ext.refl w3
      have cE3 := fun w' o (k : Ext w3 w') => k.cellOf E3 o
      clear c_HB2_w2 f_HB2_w2 cE2 a2
      refine wp_region_plan (Ext w3) [0] [1, 2, 3, 4, 5, 6] 7 [8, 9, 10] Try.mixed (by kernel_rfl) (by intro c a d v w h; cases d <;> exact h) (Ext.refl _).drew ?_
      simp only [opsAt, List.filterMap_cons, List.filterMap_nil, List.getElem?_toArray, List.getElem?_cons_zero, List.getElem?_cons_succ]
      (refine Firsts.val (v := ?_) rfl (fun _ => ?_) ?_; rotate_left; (go_simp; with_reducible rfl); simp only [Act.put, List.setIfInBounds_toArray, List.set_cons_zero, List.set_cons_succ])
      refine Firsts.nil ?_
      (refine Heads.val (v := ?_) rfl (fun wv hwv => ?_) ?_; rotate_left; (go_simp; with_reducible rfl); simp only [Act.put, List.setIfInBounds_toArray, List.set_cons_zero, List.set_cons_succ])
      (refine Heads.val (v := ?_) rfl (fun wv hwv => ?_) ?_; rotate_left; (go_simp; with_reducible rfl); simp only [Act.put, List.setIfInBounds_toArray, List.set_cons_zero, List.set_cons_succ])
      (refine Heads.val (v := ?_) rfl (fun wv hwv => ?_) ?_; rotate_left; (go_simp; with_reducible rfl); simp only [Act.put, List.setIfInBounds_toArray, List.set_cons_zero, List.set_cons_succ])
      (refine Heads.val (v := ?_) rfl (fun wv hwv => ?_) ?_; rotate_left; (go_simp; with_reducible rfl); simp only [Act.put, List.setIfInBounds_toArray, List.set_cons_zero, List.set_cons_succ])
      (refine Heads.val (v := ?_) rfl (fun wv hwv => ?_) ?_; rotate_left; (go_simp; with_reducible rfl); simp only [Act.put, List.setIfInBounds_toArray, List.set_cons_zero, List.set_cons_succ])
      (refine Heads.call (v := ?_) rfl (fun wv hwv => ?_) ?_; rotate_left; (go_simp; simp only [GivesUpon.enter]; refine (c_pSlot c _ _ gc (by omega)).mono ?_; rintro e w' ⟨rfl, hh⟩; refine ⟨?_, hwv.trans hh⟩; with_reducible rfl); simp only [Act.put, List.setIfInBounds_toArray, List.set_cons_zero, List.set_cons_succ])
      refine Heads.nil ?_
      intro w4 hw4
      go_wp2_with fail
      have hll := load_lt h3 who (Fl.pSlot c hs2)
      refine (e_load c l σ who _ _ (h3.ext hw4) hs).mono ?_
      rintro e w5 ⟨rfl, h5, u5⟩
      generalize hl : σ.load who (Fl.pSlot c hs2) = lx at *
      obtain ⟨x, σ'⟩ := lx
      simp only at hll h5
      have HE := Lib.hid (HF.out x σ' rfl)
      clear HF hl
      have HB5 := Lib.hid (u5.keep (hw4.keep HB3.out) hb)
      have HH5 := Lib.hid (u5.keep (hw4.keep HH3.out) hhl)
      have E5 := u5.keep (hw4.keep E3) (by intro hm; have := hlt _ hm; omega)
      have hub5 : Upd (F ++ l.all) W w5 := (hub.extR hw4).trans u5.mem
      have c_HB5_w5 := fun w' o (k : Ext w5 w') => k.cellOf HB5.out o
      have f_HB5_w5 := fun w' o (k : Ext w5 w') => frozen_of (k.keep HB5.out) o
      have r_HB5_w5 := Ext.refl w5
      clear c_HB3_w3 f_HB3_w3 c_HH3_w3 f_HH3_w3 cE3
      go_wp2_with fail
      have HH6 := Lib.hid (heap_far HH5.out (p := ⟨b, 5, none⟩) nhb.symm (.int .u64 (x : Nat)))
      have E6 := heap_far E5 (p := ⟨b, 5, none⟩) (show W.heap.size ≠ b by omega) (.int .u64 (x : Nat))
      have HB6 := Lib.hid (heap_set HB5.out 5 (.int .u64 (x : Nat)))
      have u_w6 := ((Upd.refl [b] w5).set1 5 (.int .u64 (x : Nat)))
      have h6 := h5.keep1 u_w6 hb
      generalize (World.setCell w5 ⟨b, 5, none⟩ (.int .u64 (x : Nat))) = w6 at *
      simp only [List.setIfInBounds_toArray, List.set_cons_zero, List.set_cons_succ] at HB6
      have hub6 := hub5.trans (u_w6.own1 hbF)
      have c_HB6_w6 := fun w' o (k : Ext w6 w') => k.cellOf HB6.out o
      have f_HB6_w6 := fun w' o (k : Ext w6 w') => frozen_of (k.keep HB6.out) o
      have r_HB6_w6 := Ext.refl w6
      have c_HH6_w6 := fun w' o (k : Ext w6 w') => k.cellOf HH6.out o
      have f_HH6_w6 := fun w' o (k : Ext w6 w') => frozen_of (k.keep HH6.out) o
      have r_HH6_w6 := Ext.refl w6
      have cE6 := fun w' o (k : Ext w6 w') => k.cellOf E6 o
      clear c_HB5_w5 f_HB5_w5
      refine wp_region_plan (Ext w6) [] [0, 1, 2, 3, 4, 5, 6] 7 [] Try.mixed (by kernel_rfl) (by intro c a d v w h; cases d <;> exact h) (Ext.refl _).drew ?_
      simp only [opsAt, List.filterMap_cons, List.filterMap_nil, List.getElem?_toArray, List.getElem?_cons_zero, List.getElem?_cons_succ]
      refine Firsts.nil ?_
      (refine Heads.val (v := ?_) rfl (fun wv hwv => ?_) ?_; rotate_left; (go_simp; with_reducible rfl); simp only [Act.put, List.setIfInBounds_toArray, List.set_cons_zero, List.set_cons_succ])
      (refine Heads.val (v := ?_) rfl (fun wv hwv => ?_) ?_; rotate_left; (go_simp; with_reducible rfl); simp only [Act.put, List.setIfInBounds_toArray, List.set_cons_zero, List.set_cons_succ])
      (refine Heads.val (v := ?_) rfl (fun wv hwv => ?_) ?_; rotate_left; (go_simp; with_reducible rfl); simp only [Act.put, List.setIfInBounds_toArray, List.set_cons_zero, List.set_cons_succ])
      (refine Heads.val (v := ?_) rfl (fun wv hwv => ?_) ?_; rotate_left; (go_simp; with_reducible rfl); simp only [Act.put, List.setIfInBounds_toArray, List.set_cons_zero, List.set_cons_succ])
      (refine Heads.call (v := ?_) rfl (fun wv hwv => ?_) ?_; rotate_left; (go_simp; simp only [GivesUpon.enter]; refine (c_slot _ _ hll).mono ?_; rintro e w' ⟨rfl, hh⟩; refine ⟨?_, hwv.trans hh⟩; with_reducible rfl); simp only [Act.put, List.setIfInBounds_toArray, List.set_cons_zero, List.set_cons_succ])
      (refine Heads.val (v := ?_) rfl (fun wv hwv => ?_) ?_; rotate_left; (go_simp; with_reducible rfl); simp only [Act.put, List.setIfInBounds_toArray, List.set_cons_zero, List.set_cons_succ])
      (refine Heads.call (v := ?_) rfl (fun wv hwv => ?_) ?_; rotate_left; (go_simp; simp only [GivesUpon.enter]; refine (c_live _ _ _ _ _ _ _).mono ?_; rintro e w' ⟨rfl, hh⟩; refine ⟨?_, hwv.trans hh⟩; with_reducible rfl); simp only [Act.put, List.setIfInBounds_toArray, List.set_cons_zero, List.set_cons_succ])
      refine Heads.nil ?_
      intro w7 hw7
      have HB7 := Lib.hid (hw7.keep HB6.out)
      have E7 := hw7.keep E6
      have c_HB7_w7 := fun w' o (k : Ext w7 w') => k.cellOf HB7.out o
      have f_HB7_w7 := fun w' o (k : Ext w7 w') => frozen_of (k.keep HB7.out) o
      have r_HB7_w7 := Ext.refl w7
      have cE7 := fun w' o (k : Ext w7 w') => k.cellOf E7 o
      clear c_HB6_w6 f_HB6_w6 c_HH6_w6 f_HH6_w6 cE6
      have h7 := h6.ext hw7
      have z7 := (hub6.extR hw7).size
      cases hlv : Fl.live (Fl.slotOf x) ⟨hs2, hg2⟩
      · have HI := Lib.hid (HE.out.trans (if_pos hlv))
        clear HE
        go_wp2_with fail
        have HD7 : DropAt w7 l F b { d with h := ⟨hs2, hg2⟩, w := x } := ⟨⟨H, G, by rw [HP0.out]; exact HB7.out, fun q => by simp only [HP0.out] at q; omega, fun q => by simp only [HP0.out] at q; omega⟩, hbF, hout, fun x hx => by have := hFl x hx; omega, hn, hll, ⟨r1, r2⟩, ⟨r3, r4⟩, hsz, hpc⟩
        refine (d_inv c l σ' who F b _ w7 h7 HD7).mono ?_
        rintro e w8 ⟨rfl, h8, hd8, u8⟩
        go_wp2
        go_ret
        unfold DropRes
        rw [HI.out]
        exact ⟨rfl, h8, (hub6.extR hw7).trans (u8.own1 hbF), F, hd8, fun x hx => Or.inl hx⟩
      · have HI := Lib.hid (HE.out.trans (if_neg (by rw [hlv]; decide)))
        clear HE
        go_wp2
        go_ret
        unfold DropRes
        rw [HI.out]
        refine ⟨rfl, h7.keep1 (((Upd.refl [b] _)).set1 _ _) hb, (hub6.extR hw7).trans ((((Upd.refl [b] _)).set1 _ _).own1 hbF), F, ⟨⟨H, G, (heap_set HB7.out _ _).trans (by simp), fun q => ?_, fun q => ?_⟩, hbF, hout, fun x hx => ?_, hn, hll, ⟨r1, r2⟩, ⟨r3, r4⟩, hsz, by simp⟩, fun x hx => Or.inl hx⟩
        · simp at q
        · simp at q
        · have := hFl x hx; simp; omega

theorem drop2 (c : Fl.Cfg) (who : Int) (σ : Fl.Mem) (d : Fl.Drop) (p0 : d.pc = 2) (n : Nat) (hn : Fl.putSlot ⟨4, (Fl.slotOf d.w).addr, (Fl.slotOf d.w).gen, (Fl.slotOf d.w).ver + 1⟩ = n) (y : Bool) (m : Fl.Mem) (hl : σ.cas who (Fl.pSlot c d.h.slot) d.w n = (y, m)) :
    d.step c who σ = if y = true then (false, { d with pc := 3, help := Fl.Help.new d.h.slot n d.size }, m) else (false, { d with pc := 0 }, m) := by
  unfold Fl.Drop.step; rw [if_neg (by omega), if_neg (by omega), if_pos p0]; simp only [hn, hl]

set_option maxHeartbeats 2000000 in
set_option maxRecDepth 100000 in
theorem d_claim (c : Fl.Cfg) (l : Loc) (σ : Fl.Mem) (who : Int) (F : List Nat) (b : Nat) (d : Fl.Drop) (W : World) (gc : GoodC c) (h : MemAt W l σ) (hs : 0 ≤ σ.steps ∧ σ.steps < 4611686018427387904)
    (hd : DropAt W l F b d) (p0 : d.pc = 2) :
    Calls Try.prog 81 #[.pointer (some ⟨b, 0, none⟩), .agg #[.int .i64 c.threads, .int .i64 c.slots, .int .i64 c.chunks, .int .i64 c.words, .int .i64 c.gens, .int .i64 c.sparse, .int .i64 c.tries, .pointer (some ⟨l.m, 0, none⟩), .int .i64 who]] W (DropRes (.tuple #[]) c who σ d l F b W) := by
  have HA := Lib.hid (drop2 c who σ d p0 _ rfl)
  have HP0 := Lib.hid p0
  obtain ⟨⟨H, G, hB, hH, hG⟩, hbF, hout, hFl, hn, hw, hsl, hgn, hsz, hpc⟩ := hd
  have hb := hout b hbF
  have hlt := h.lt
  have hbl := lt_of_heap hB
  have hE := heap_new W (.cells #[.int .i64 c.threads, .int .i64 c.slots, .int .i64 c.chunks, .int .i64 c.words, .int .i64 c.gens, .int .i64 c.sparse, .int .i64 c.tries, .pointer (some ⟨l.m, 0, none⟩), .int .i64 who] 27)
  have hX := (Ext.refl W).alloc (.cells #[.int .i64 c.threads, .int .i64 c.slots, .int .i64 c.chunks, .int .i64 c.words, .int .i64 c.gens, .int .i64 c.sparse, .int .i64 c.tries, .pointer (some ⟨l.m, 0, none⟩), .int .i64 who] 27)
  have hsE := lt_of_heap hE
  rw [p0] at hB
  have HB1 := Lib.hid (hX.keep hB)
  have c0 := fun w' o (k : Ext W w') => k.cellOf hB o
  have HPG := Lib.hid (And.intro hH hG)
  clear hB hH hG
  go_enter Try.func81, Try.ntmps81
  go_wp2_with fail
  generalize W.alloc (.cells #[.int .i64 c.threads, .int .i64 c.slots, .int .i64 c.chunks, .int .i64 c.words, .int .i64 c.gens, .int .i64 c.sparse, .int .i64 c.tries, .pointer (some ⟨l.m, 0, none⟩), .int .i64 who] 27) = w1 at *
  have cE := fun w' o (k : Ext w1 w') => k.cellOf hE o
  have cb1 := fun w' o (k : Ext w1 w') => c0 w' o (hX.trans k)
  have r1 := Ext.refl w1
  have c_HB1_w1 := fun w' o (k : Ext w1 w') => k.cellOf HB1.out o
  have f_HB1_w1 := fun w' o (k : Ext w1 w') => frozen_of (k.keep HB1.out) o
  have r_HB1_w1 := Ext.refl w1
  refine (c_slot _ _ hw).mono ?_
  rintro e w2 ⟨rfl, x2⟩
  obtain ⟨r1, r2, r3, r4, r5, r6, r7, r8⟩ := Fl.slotOf_range d.w
  generalize Fl.slotOf d.w = s at *
  have HB2 := Lib.hid (x2.keep HB1.out)
  have E2 := x2.keep hE
  have hbW : W.heap.size < w2.heap.size := by have := x2.size; omega
  have n1 : w2.heap.size ≠ b := by omega
  have n2 : b ≠ w2.heap.size := by omega
  have c_HB2_w2 := fun w' o (k : Ext w2 w') => k.cellOf HB2.out o
  have f_HB2_w2 := fun w' o (k : Ext w2 w') => frozen_of (k.keep HB2.out) o
  have r_HB2_w2 := Ext.refl w2
  clear c0 cb1 cE c_HB1_w1 f_HB1_w1
  have a2 := fun o => (Ext.refl w2).alloc o
  go_wp2_with fail
  clear a2
  have y2 := (Ext.refl w2).alloc (.cells #[.int .i64 4, .int .i64 s.addr, .int .i64 s.gen, .int .i64 (s.ver + 1)] 44)
  generalize w2.alloc (.cells #[.int .i64 4, .int .i64 s.addr, .int .i64 s.gen, .int .i64 (s.ver + 1)] 44) = w3 at *
  have x13 := x2.trans y2
  have HB3 := Lib.hid (y2.keep HB2.out)
  have E3 := y2.keep E2
  have h3 := h.ext (hX.trans x13)
  have hub3 : Upd (F ++ l.all) W w3 := (hX.trans x13).upd _
  clear c_HB2_w2 f_HB2_w2
  have E4 := heap_far E3 (p := ⟨b, 4, none⟩) (show W.heap.size ≠ b by omega) (.int .i64 0)
  have HB4 := Lib.hid (heap_set HB3.out 4 (.int .i64 0))
  have u_w4 := ((Upd.refl [b] w3).set1 4 (.int .i64 0))
  have h4 := h3.keep1 u_w4 hb
  generalize (World.setCell w3 ⟨b, 4, none⟩ (.int .i64 0)) = w4 at *
  simp only [List.setIfInBounds_toArray, List.set_cons_zero, List.set_cons_succ] at HB4
  refine (c_putSlot _ _ _ _ _).mono ?_
  rintro e w5 ⟨rfl, x5⟩
  generalize hn4 : Fl.putSlot ⟨4, s.addr, s.gen, s.ver + 1⟩ = n4 at *
  have hn5 : n4 < 18446744073709551616 := by rw [← hn4]; exact Fl.putSlot_lt _
  clear hn4
  have HB5 := Lib.hid (x5.keep HB4.out)
  have E5 := x5.keep E4
  have hub5 := (hub3.trans (u_w4.own1 hbF)).extR x5
  have c_HB5_w5 := fun w' o (k : Ext w5 w') => k.cellOf HB5.out o
  have f_HB5_w5 := fun w' o (k : Ext w5 w') => frozen_of (k.keep HB5.out) o
  have r_HB5_w5 := Ext.refl w5
  have cE5 := fun w' o (k : Ext w5 w') => k.cellOf E5 o
  go_wp2_with fail
  refine wp_region_plan (Ext w5) [] [0, 1, 2, 3, 4, 5, 6, 7, 8, 9, 10, 11, 12, 13] 14 [] Try.mixed (by kernel_rfl) (by intro c a d v w h; cases d <;> exact h) (Ext.refl _).drew ?_
  simp only [opsAt, List.filterMap_cons, List.filterMap_nil, List.getElem?_toArray, List.getElem?_cons_zero, List.getElem?_cons_succ]
  refine Firsts.nil ?_
  (refine Heads.val (v := ?_) rfl (fun wv hwv => ?_) ?_; rotate_left; (go_simp; with_reducible rfl); simp only [Act.put, List.setIfInBounds_toArray, List.set_cons_zero, List.set_cons_succ])
  (refine Heads.val (v := ?_) rfl (fun wv hwv => ?_) ?_; rotate_left; (go_simp; with_reducible rfl); simp only [Act.put, List.setIfInBounds_toArray, List.set_cons_zero, List.set_cons_succ])
  (refine Heads.val (v := ?_) rfl (fun wv hwv => ?_) ?_; rotate_left; (go_simp; with_reducible rfl); simp only [Act.put, List.setIfInBounds_toArray, List.set_cons_zero, List.set_cons_succ])
  (refine Heads.val (v := ?_) rfl (fun wv hwv => ?_) ?_; rotate_left; (go_simp; with_reducible rfl); simp only [Act.put, List.setIfInBounds_toArray, List.set_cons_zero, List.set_cons_succ])
  (refine Heads.val (v := ?_) rfl (fun wv hwv => ?_) ?_; rotate_left; (go_simp; with_reducible rfl); simp only [Act.put, List.setIfInBounds_toArray, List.set_cons_zero, List.set_cons_succ])
  (refine Heads.val (v := ?_) rfl (fun wv hwv => ?_) ?_; rotate_left; (go_simp; with_reducible rfl); simp only [Act.put, List.setIfInBounds_toArray, List.set_cons_zero, List.set_cons_succ])
  (refine Heads.val (v := ?_) rfl (fun wv hwv => ?_) ?_; rotate_left; (go_simp; with_reducible rfl); simp only [Act.put, List.setIfInBounds_toArray, List.set_cons_zero, List.set_cons_succ])
  (refine Heads.val (v := ?_) rfl (fun wv hwv => ?_) ?_; rotate_left; (go_simp; with_reducible rfl); simp only [Act.put, List.setIfInBounds_toArray, List.set_cons_zero, List.set_cons_succ])
  (refine Heads.call (v := ?_) rfl (fun wv hwv => ?_) ?_; rotate_left; (go_simp; simp only [GivesUpon.enter]; refine (c_pSlot c _ _ gc (by omega)).mono ?_; rintro e w' ⟨rfl, hh⟩; refine ⟨?_, hwv.trans hh⟩; with_reducible rfl); simp only [Act.put, List.setIfInBounds_toArray, List.set_cons_zero, List.set_cons_succ])
  (refine Heads.val (v := ?_) rfl (fun wv hwv => ?_) ?_; rotate_left; (go_simp; with_reducible rfl); simp only [Act.put, List.setIfInBounds_toArray, List.set_cons_zero, List.set_cons_succ])
  (refine Heads.val (v := ?_) rfl (fun wv hwv => ?_) ?_; rotate_left; (go_simp; with_reducible rfl); simp only [Act.put, List.setIfInBounds_toArray, List.set_cons_zero, List.set_cons_succ])
  (refine Heads.val (v := ?_) rfl (fun wv hwv => ?_) ?_; rotate_left; (go_simp; with_reducible rfl); simp only [Act.put, List.setIfInBounds_toArray, List.set_cons_zero, List.set_cons_succ])
  (refine Heads.val (v := ?_) rfl (fun wv hwv => ?_) ?_; rotate_left; (go_simp; with_reducible rfl); simp only [Act.put, List.setIfInBounds_toArray, List.set_cons_zero, List.set_cons_succ])
  (refine Heads.val (v := ?_) rfl (fun wv hwv => ?_) ?_; rotate_left; (go_simp; with_reducible rfl); simp only [Act.put, List.setIfInBounds_toArray, List.set_cons_zero, List.set_cons_succ])
  refine Heads.nil ?_
  intro w6 hw6
  go_wp2_with fail
  refine (e_cas c l σ who _ _ _ _ (h4.ext (x5.trans hw6)) hs hn5).mono ?_
  rintro e w7 ⟨rfl, h7, u7⟩
  generalize hl : σ.cas who (Fl.pSlot c d.h.slot) d.w n4 = lx at *
  obtain ⟨y, σ'⟩ := lx
  simp only at h7
  have HE := Lib.hid (HA.out y σ' rfl)
  clear HA hl
  have HB7 := Lib.hid (u7.keep (hw6.keep HB5.out) hb)
  have hub7 : Upd (F ++ l.all) W w7 := (hub5.extR hw6).trans u7.mem
  have hF7 : ∀ x, x ∈ F → x < w7.heap.size := fun x hx => by have := hFl x hx; have := hub7.size; omega
  have c_HB7_w7 := fun w' o (k : Ext w7 w') => k.cellOf HB7.out o
  have f_HB7_w7 := fun w' o (k : Ext w7 w') => frozen_of (k.keep HB7.out) o
  have r_HB7_w7 := Ext.refl w7
  clear c_HB5_w5 f_HB5_w5 cE5
  cases y
  · have HI := Lib.hid (HE.out.trans (if_neg (by decide)))
    clear HE
    go_wp2
    go_end0
    unfold DropRes
    rw [HI.out]
    refine ⟨rfl, h7, hub7, F, ⟨⟨H, G, HB7.out, fun q => ?_, fun q => ?_⟩, hbF, hout, hF7, hn, hw, hsl, hgn, hsz, by simp⟩, fun x hx => Or.inl hx⟩
    · simp at q
    · simp at q
  · have HI := Lib.hid (HE.out.trans (if_pos rfl))
    clear HE
    go_wp2_with fail
    refine wp_region_plan (Ext w7) [0, 1] [2, 3, 4, 5, 6, 7, 8, 9, 10, 11] 12 [13, 14, 15, 16, 17, 18] Try.mixed (by kernel_rfl) (by intro c a d v w h; cases d <;> exact h) (Ext.refl _).drew ?_
    simp only [opsAt, List.filterMap_cons, List.filterMap_nil, List.getElem?_toArray, List.getElem?_cons_zero, List.getElem?_cons_succ]
    (refine Firsts.val (v := ?_) rfl (fun _ => ?_) ?_; rotate_left; (go_simp; with_reducible rfl); simp only [Act.put, List.setIfInBounds_toArray, List.set_cons_zero, List.set_cons_succ])
    (refine Firsts.val (v := ?_) rfl (fun _ => ?_) ?_; rotate_left; (go_simp; with_reducible rfl); simp only [Act.put, List.setIfInBounds_toArray, List.set_cons_zero, List.set_cons_succ])
    refine Firsts.nil ?_
    (refine Heads.val (v := ?_) rfl (fun wv hwv => ?_) ?_; rotate_left; (go_simp; with_reducible rfl); simp only [Act.put, List.setIfInBounds_toArray, List.set_cons_zero, List.set_cons_succ])
    (refine Heads.val (v := ?_) rfl (fun wv hwv => ?_) ?_; rotate_left; (go_simp; with_reducible rfl); simp only [Act.put, List.setIfInBounds_toArray, List.set_cons_zero, List.set_cons_succ])
    (refine Heads.val (v := ?_) rfl (fun wv hwv => ?_) ?_; rotate_left; (go_simp; with_reducible rfl); simp only [Act.put, List.setIfInBounds_toArray, List.set_cons_zero, List.set_cons_succ])
    (refine Heads.val (v := ?_) rfl (fun wv hwv => ?_) ?_; rotate_left; (go_simp; with_reducible rfl); simp only [Act.put, List.setIfInBounds_toArray, List.set_cons_zero, List.set_cons_succ])
    (refine Heads.val (v := ?_) rfl (fun wv hwv => ?_) ?_; rotate_left; (go_simp; with_reducible rfl); simp only [Act.put, List.setIfInBounds_toArray, List.set_cons_zero, List.set_cons_succ])
    (refine Heads.val (v := ?_) rfl (fun wv hwv => ?_) ?_; rotate_left; (go_simp; with_reducible rfl); simp only [Act.put, List.setIfInBounds_toArray, List.set_cons_zero, List.set_cons_succ])
    (refine Heads.val (v := ?_) rfl (fun wv hwv => ?_) ?_; rotate_left; (go_simp; with_reducible rfl); simp only [Act.put, List.setIfInBounds_toArray, List.set_cons_zero, List.set_cons_succ])
    (refine Heads.val (v := ?_) rfl (fun wv hwv => ?_) ?_; rotate_left; (go_simp; with_reducible rfl); simp only [Act.put, List.setIfInBounds_toArray, List.set_cons_zero, List.set_cons_succ])
    (refine Heads.val (v := ?_) rfl (fun wv hwv => ?_) ?_; rotate_left; (go_simp; with_reducible rfl); simp only [Act.put, List.setIfInBounds_toArray, List.set_cons_zero, List.set_cons_succ])
    (refine Heads.val (v := ?_) rfl (fun wv hwv => ?_) ?_; rotate_left; (go_simp; with_reducible rfl); simp only [Act.put, List.setIfInBounds_toArray, List.set_cons_zero, List.set_cons_succ])
    refine Heads.nil ?_
    intro w8 hw8
    go_wp2_with fail
    refine (n_help _ _ _ _ (by omega) hn5 hsz).mono ?_
    rintro e w9 ⟨rfl, hh9, x9⟩
    have HB9 := Lib.hid ((hw8.trans x9).keep HB7.out)
    have hub9 := hub7.extR (hw8.trans x9)
    have hbl9 := lt_of_heap HB9.out
    have z8 := hub7.size
    have z9 := hw8.size
    have hbl7 := lt_of_heap HB7.out
    have nhb : w8.heap.size ≠ b := by omega
    have hhW : W.heap.size ≤ w8.heap.size := by omega
    have hhl := lt_of_heap hh9.blk
    generalize w8.heap.size = hb9 at *
    have c_HB9_w9 := fun w' o (k : Ext w9 w') => k.cellOf HB9.out o
    have f_HB9_w9 := fun w' o (k : Ext w9 w') => frozen_of (k.keep HB9.out) o
    have r_HB9_w9 := Ext.refl w9
    clear c_HB7_w7 f_HB7_w7
    go_wp2
    go_end0
    unfold DropRes
    rw [HI.out]
    refine ⟨rfl, (h7.ext (hw8.trans x9)).keep1 ((((Upd.refl [b] _)).set1 _ _).set1 _ _) hb, hub9.trans (((((Upd.refl [b] _)).set1 _ _).set1 _ _).own1 hbF), hb9 :: F, ⟨⟨.pointer (some ⟨hb9, 0, none⟩), G, (heap_set (heap_set HB9.out _ _) _ _).trans (by simp), fun _ => ⟨hb9, by simp, nhb, rfl, hh9.keep ((((Upd.refl [b] _)).set1 _ _).set1 _ _) (by simpa using nhb)⟩, fun q => ?_⟩, by simp [hbF], ?_, ?_, hn, hw, hsl, hgn, hsz, by simp⟩, ?_⟩
    · simp at q
    · intro y hy
      rcases List.mem_cons.1 hy with rfl | hy
      · intro hm; have := hlt _ hm; omega
      · exact hout y hy
    · intro y hy
      rcases List.mem_cons.1 hy with rfl | hy
      · simpa using hhl
      · have := hF7 y hy; have := (hw8.trans x9).size; simp; omega
    · intro y hy
      rcases List.mem_cons.1 hy with rfl | hy
      · exact Or.inr hhW
      · exact Or.inl hy

end Go.Proofs.Ythblhgappldcjaa
