/- The contracts of drop's helper. -/
import Derived.Test.YthblhgappldcjaaE
namespace Go.Proofs.Ythblhgappldcjaa
open Go Go.RowKit
set_option linter.unusedVariables false

structure HelpAt (W : World) (b : Nat) (h : Fl.Help) : Prop where
  blk : W.heap[b]? = some (.cells #[.int .i64 h.slot, .int .u64 (h.w : Nat), .int .i64 h.size, .int .i64 h.i, .int .u64 (h.cell : Nat), .bool h.read, .bool h.won] 132 (0, 0))
  slot : -1 ≤ h.slot ∧ h.slot ≤ 131071
  w : h.w < 18446744073709551616
  size : 0 ≤ h.size ∧ h.size ≤ 65535
  i : 0 ≤ h.i ∧ h.i ≤ 65536
  cell : h.cell < 18446744073709551616

theorem HelpAt.keep {W W' : World} {b : Nat} {h : Fl.Help} {S : List Nat} (k : HelpAt W b h) (hu : Upd S W W') (hn : b ∉ S) : HelpAt W' b h :=
  ⟨hu.keep k.blk hn, k.slot, k.w, k.size, k.i, k.cell⟩

def HelpRes (c : Fl.Cfg) (who : Int) (σ : Fl.Mem) (h : Fl.Help) (l : Loc) (b : Nat) (W : World) (e : Ending) (w' : World) : Prop :=
  e = .returned (.bool (h.step c who σ).1) ∧ MemAt w' l (h.step c who σ).2.2 ∧ HelpAt w' b (h.step c who σ).2.1 ∧ Upd (b :: l.all) W w'

theorem n_help (s : Int) (w : Nat) (z : Int) (W : World) (hs : -1 ≤ s ∧ s ≤ 131071) (hw : w < 18446744073709551616) (hz : 0 ≤ z ∧ z ≤ 65535) :
    Calls Try.prog 47 #[.int .i64 s, .int .u64 w, .int .i64 z] W fun e w' => e = .returned (.pointer (some ⟨W.heap.size, 0, none⟩)) ∧ HelpAt w' W.heap.size (Fl.Help.new s w z) ∧ Ext W w' := by
  have hE := heap_new W (.cells #[.int .i64 s, .int .u64 (w : Nat), .int .i64 z, .int .i64 0, .int .u64 0, .bool false, .bool false] 132)
  have hX := (Ext.refl W).alloc (.cells #[.int .i64 s, .int .u64 (w : Nat), .int .i64 z, .int .i64 0, .int .u64 0, .bool false, .bool false] 132)
  go_enter Try.func47, Try.ntmps47
  go_wp2
  go_ret
  exact ⟨rfl, ⟨hE, hs, hw, hz, by simp [Fl.Help.new], by simp [Fl.Help.new]⟩, hX⟩

theorem h_won (b : Nat) (h : Fl.Help) (W : World) (hh : HelpAt W b h) : Calls Try.prog 49 #[.pointer (some ⟨b, 0, none⟩)] W fun e w' => e = .returned (.bool h.won) ∧ Ext W w' := by
  have c0 := fun o => cell_of hh.blk o
  clear hh
  go_enter Try.func49, Try.ntmps49
  go_wp2
  go_ret
  exact ⟨rfl, Ext.refl _⟩

theorem h_won_nil (W : World) : Calls Try.prog 49 #[.pointer none] W fun e w' => e = .returned (.bool false) ∧ Ext W w' := by
  go_enter Try.func49, Try.ntmps49
  go_wp2
  go_ret
  exact ⟨rfl, Ext.refl _⟩

theorem help0 (c : Fl.Cfg) (who : Int) (σ : Fl.Mem) (h : Fl.Help) (h0 : h.i ≥ h.size) (n : Fl.Sl) (hn : (if (Fl.slotOf h.w).gen ≥ c.gens then ⟨3, 0, (Fl.slotOf h.w).gen, 0⟩ else ⟨0, 0, (Fl.slotOf h.w).gen + 1, 0⟩) = n) (y : Bool) (m : Fl.Mem) (hc : σ.cas who (Fl.pSlot c h.slot) h.w (Fl.putSlot n) = (y, m)) :
    h.step c who σ = (true, { h with won := y }, m) := by
  unfold Fl.Help.step; rw [if_pos h0]; simp only [hn, hc]
theorem help1 (c : Fl.Cfg) (who : Int) (σ : Fl.Mem) (h : Fl.Help) (h0 : ¬ h.i ≥ h.size) (h1 : h.read = false) (x : Nat) (m : Fl.Mem) (hl : σ.load who ((Fl.slotOf h.w).addr + 1 + h.i) = (x, m)) :
    h.step c who σ = if (Fl.cellOf x).frozen = true ∧ (Fl.cellOf x).ver = (Fl.slotOf h.w).ver then (false, { h with cell := x, read := false, i := h.i + 1 }, m) else (false, { h with cell := x, read := true }, m) := by
  unfold Fl.Help.step; rw [if_neg h0, if_pos h1]; simp only [hl]
theorem help2 (c : Fl.Cfg) (who : Int) (σ : Fl.Mem) (h : Fl.Help) (h0 : ¬ h.i ≥ h.size) (h1 : h.read = true) (y : Bool) (m : Fl.Mem) (hc : σ.cas who ((Fl.slotOf h.w).addr + 1 + h.i) h.cell (Fl.putCell ⟨(Fl.cellOf h.cell).value, true, (Fl.slotOf h.w).ver⟩) = (y, m)) :
    h.step c who σ = (false, { h with read := false, i := if y = true then h.i + 1 else h.i }, m) := by
  unfold Fl.Help.step; rw [if_neg h0, if_neg (by rw [h1]; decide)]; simp only [hc]

set_option maxHeartbeats 2000000 in
set_option maxRecDepth 100000 in
theorem h_step (c : Fl.Cfg) (l : Loc) (σ : Fl.Mem) (who : Int) (b : Nat) (q : Fl.Help) (W : World) (gc : GoodC c) (h : MemAt W l σ) (hs : 0 ≤ σ.steps ∧ σ.steps < 4611686018427387904)
    (hh : HelpAt W b q) (hb : b ∉ l.all) :
    Calls Try.prog 48 #[.pointer (some ⟨b, 0, none⟩), .agg #[.int .i64 c.threads, .int .i64 c.slots, .int .i64 c.chunks, .int .i64 c.words, .int .i64 c.gens, .int .i64 c.sparse, .int .i64 c.tries, .pointer (some ⟨l.m, 0, none⟩), .int .i64 who]] W (HelpRes c who σ q l b W) := by
  obtain ⟨hB, k1, k2, k3, k4, k5⟩ := hh
  have hlt := h.lt
  have hbl := lt_of_heap hB
  have hE := heap_new W (.cells #[.int .i64 c.threads, .int .i64 c.slots, .int .i64 c.chunks, .int .i64 c.words, .int .i64 c.gens, .int .i64 c.sparse, .int .i64 c.tries, .pointer (some ⟨l.m, 0, none⟩), .int .i64 who] 27)
  have hX := (Ext.refl W).alloc (.cells #[.int .i64 c.threads, .int .i64 c.slots, .int .i64 c.chunks, .int .i64 c.words, .int .i64 c.gens, .int .i64 c.sparse, .int .i64 c.tries, .pointer (some ⟨l.m, 0, none⟩), .int .i64 who] 27)
  have hsE := lt_of_heap hE
  have HB1 := Lib.hid (hX.keep hB)
  have c0 := fun w' o (k : Ext W w') => k.cellOf hB o
  have H0 := Lib.hid (fun h0 => help0 c who σ q h0 _ rfl)
  have H1 := Lib.hid (fun h0 h1 => help1 c who σ q h0 h1)
  have H2 := Lib.hid (fun h0 h1 => help2 c who σ q h0 h1)
  clear hB
  go_enter Try.func48, Try.ntmps48
  go_wp2_with fail
  generalize W.alloc (.cells #[.int .i64 c.threads, .int .i64 c.slots, .int .i64 c.chunks, .int .i64 c.words, .int .i64 c.gens, .int .i64 c.sparse, .int .i64 c.tries, .pointer (some ⟨l.m, 0, none⟩), .int .i64 who] 27) = w1 at *
  have cE := fun w' o (k : Ext w1 w') => k.cellOf hE o
  have cb1 := fun w' o (k : Ext w1 w') => c0 w' o (hX.trans k)
  have r1 := Ext.refl w1
  have c_HB1_w1 := fun w' o (k : Ext w1 w') => k.cellOf HB1.out o
  have f_HB1_w1 := fun w' o (k : Ext w1 w') => frozen_of (k.keep HB1.out) o
  have r_HB1_w1 := Ext.refl w1
  refine (c_slot _ _ k2).mono ?_
  rintro e w2 ⟨rfl, x2⟩
  obtain ⟨r1, r2, r3, r4, r5, r6, r7, r8⟩ := Fl.slotOf_range q.w
  generalize hsl : Fl.slotOf q.w = s at *
  have HS := Lib.hid hsl
  clear hsl
  go_wp2_with fail
  have HC := Lib.hid (heap_new w2 (.cells #[.int .i64 s.state, .int .i64 s.addr, .int .i64 s.gen, .int .i64 s.ver] 44))
  have x3 := x2.alloc (.cells #[.int .i64 s.state, .int .i64 s.addr, .int .i64 s.gen, .int .i64 s.ver] 44)
  have z2 := x2.size
  generalize w2.alloc (.cells #[.int .i64 s.state, .int .i64 s.addr, .int .i64 s.gen, .int .i64 s.ver] 44) = w3 at *
  generalize w2.heap.size = bs at *
  have HB3 := Lib.hid (x3.keep HB1.out)
  have E3 := x3.keep hE
  have c_HB3_w3 := fun w' o (k : Ext w3 w') => k.cellOf HB3.out o
  have f_HB3_w3 := fun w' o (k : Ext w3 w') => frozen_of (k.keep HB3.out) o
  have r_HB3_w3 := Ext.refl w3
  have c_HC_w3 := fun w' o (k : Ext w3 w') => k.cellOf HC.out o
  have f_HC_w3 := fun w' o (k : Ext w3 w') => frozen_of (k.keep HC.out) o
  have r_HC_w3 := Ext.refl w3
  have cE3 := fun w' o (k : Ext w3 w') => k.cellOf E3 o
  clear c0 cb1 cE c_HB1_w1 f_HB1_w1
  obtain ⟨ea1, ea2⟩ : IntKind.i64.wrap (s.addr + 1) = s.addr + 1 ∧ IntKind.i64.wrap (s.addr + 1 + q.i) = s.addr + 1 + q.i := ⟨IntWalk.i64_in _ (by omega), IntWalk.i64_in _ (by omega)⟩
  refine wp_region_plan (Ext w3) [] [0, 1, 2, 3, 4, 5, 6, 7] 8 [] Try.mixed (by kernel_rfl) (by intro c a d v w h; cases d <;> exact h) (Ext.refl _).drew ?_
  simp only [opsAt, List.filterMap_cons, List.filterMap_nil, List.getElem?_toArray, List.getElem?_cons_zero, List.getElem?_cons_succ]
  refine Firsts.nil ?_
  (refine Heads.val (v := ?_) rfl (fun wv hwv => ?_) ?_; rotate_left; (go_simp; with_reducible rfl); simp only [Act.put, List.setIfInBounds_toArray, List.set_cons_zero, List.set_cons_succ])
  (refine Heads.val (v := ?_) rfl (fun wv hwv => ?_) ?_; rotate_left; (go_simp; with_reducible rfl); simp only [Act.put, List.setIfInBounds_toArray, List.set_cons_zero, List.set_cons_succ])
  (refine Heads.val (v := ?_) rfl (fun wv hwv => ?_) ?_; rotate_left; (go_simp; with_reducible rfl); simp only [Act.put, List.setIfInBounds_toArray, List.set_cons_zero, List.set_cons_succ])
  (refine Heads.val (v := ?_) rfl (fun wv hwv => ?_) ?_; rotate_left; (go_simp; with_reducible rfl); simp only [Act.put, List.setIfInBounds_toArray, List.set_cons_zero, List.set_cons_succ])
  (refine Heads.val (v := ?_) rfl (fun wv hwv => ?_) ?_; rotate_left; (go_simp; with_reducible rfl); simp only [Act.put, List.setIfInBounds_toArray, List.set_cons_zero, List.set_cons_succ])
  (refine Heads.val (v := ?_) rfl (fun wv hwv => ?_) ?_; rotate_left; (go_simp; with_reducible rfl); simp only [Act.put, List.setIfInBounds_toArray, List.set_cons_zero, List.set_cons_succ])
  (refine Heads.val (v := ?_) rfl (fun wv hwv => ?_) ?_; rotate_left; (go_simp; with_reducible rfl); simp only [Act.put, List.setIfInBounds_toArray, List.set_cons_zero, List.set_cons_succ])
  (refine Heads.val (v := ?_) rfl (fun wv hwv => ?_) ?_; rotate_left; (go_simp; with_reducible rfl); simp only [Act.put, List.setIfInBounds_toArray, List.set_cons_zero, List.set_cons_succ])
  refine Heads.nil ?_
  intro w4 hw4
  clear ea1 ea2
  go_wp2_with fail
  refine (c_cell _ _ k5).mono ?_
  rintro e w5 ⟨rfl, x5⟩
  obtain ⟨r9, r10, r11, r12⟩ := Fl.cellOf_range q.cell
  generalize hcl : Fl.cellOf q.cell = cl at *
  have HK := Lib.hid hcl
  clear hcl
  go_wp2_with fail
  have x45 := hw4.trans x5
  have HD := Lib.hid (heap_new w5 (.cells #[.int .i64 cl.value, .bool cl.frozen, .int .i64 cl.ver] 91))
  have x6 := x45.alloc (.cells #[.int .i64 cl.value, .bool cl.frozen, .int .i64 cl.ver] 91)
  have z5 := x45.size
  generalize w5.alloc (.cells #[.int .i64 cl.value, .bool cl.frozen, .int .i64 cl.ver] 91) = w6 at *
  generalize w5.heap.size = bc at *
  have HB6 := Lib.hid (x6.keep HB3.out)
  have HC6 := Lib.hid (x6.keep HC.out)
  have E6 := x6.keep E3
  have c_HB6_w6 := fun w' o (k : Ext w6 w') => k.cellOf HB6.out o
  have f_HB6_w6 := fun w' o (k : Ext w6 w') => frozen_of (k.keep HB6.out) o
  have r_HB6_w6 := Ext.refl w6
  have c_HC6_w6 := fun w' o (k : Ext w6 w') => k.cellOf HC6.out o
  have f_HC6_w6 := fun w' o (k : Ext w6 w') => frozen_of (k.keep HC6.out) o
  have r_HC6_w6 := Ext.refl w6
  have c_HD_w6 := fun w' o (k : Ext w6 w') => k.cellOf HD.out o
  have f_HD_w6 := fun w' o (k : Ext w6 w') => frozen_of (k.keep HD.out) o
  have r_HD_w6 := Ext.refl w6
  have cE6 := fun w' o (k : Ext w6 w') => k.cellOf E6 o
  clear c_HB3_w3 f_HB3_w3 c_HC_w3 f_HC_w3 cE3
  by_cases h0 : q.i ≥ q.size
  · have b0 : decide (q.i ≥ q.size) = true := decide_eq_true h0
    refine wp_region_plan (Ext w6) [] [0, 1, 2, 3, 4, 5, 6, 7, 8] 9 [] Try.mixed (by kernel_rfl) (by intro c a d v w h; cases d <;> exact h) (Ext.refl _).drew ?_
    simp only [opsAt, List.filterMap_cons, List.filterMap_nil, List.getElem?_toArray, List.getElem?_cons_zero, List.getElem?_cons_succ]
    refine Firsts.nil ?_
    (refine Heads.val (v := ?_) rfl (fun wv hwv => ?_) ?_; rotate_left; (go_simp; with_reducible rfl); simp only [Act.put, List.setIfInBounds_toArray, List.set_cons_zero, List.set_cons_succ])
    (refine Heads.val (v := ?_) rfl (fun wv hwv => ?_) ?_; rotate_left; (go_simp; with_reducible rfl); simp only [Act.put, List.setIfInBounds_toArray, List.set_cons_zero, List.set_cons_succ])
    (refine Heads.val (v := ?_) rfl (fun wv hwv => ?_) ?_; rotate_left; (go_simp; with_reducible rfl); simp only [Act.put, List.setIfInBounds_toArray, List.set_cons_zero, List.set_cons_succ])
    (refine Heads.val (v := ?_) rfl (fun wv hwv => ?_) ?_; rotate_left; (go_simp; with_reducible rfl); simp only [Act.put, List.setIfInBounds_toArray, List.set_cons_zero, List.set_cons_succ])
    (refine Heads.val (v := ?_) rfl (fun wv hwv => ?_) ?_; rotate_left; (go_simp; with_reducible rfl); simp only [Act.put, List.setIfInBounds_toArray, List.set_cons_zero, List.set_cons_succ])
    (refine Heads.val (v := ?_) rfl (fun wv hwv => ?_) ?_; rotate_left; (go_simp; with_reducible rfl); simp only [Act.put, List.setIfInBounds_toArray, List.set_cons_zero, List.set_cons_succ])
    (refine Heads.val (v := ?_) rfl (fun wv hwv => ?_) ?_; rotate_left; (go_simp; with_reducible rfl); simp only [Act.put, List.setIfInBounds_toArray, List.set_cons_zero, List.set_cons_succ])
    (refine Heads.val (v := ?_) rfl (fun wv hwv => ?_) ?_; rotate_left; (go_simp; with_reducible rfl); simp only [Act.put, List.setIfInBounds_toArray, List.set_cons_zero, List.set_cons_succ])
    (refine Heads.val (v := ?_) rfl (fun wv hwv => ?_) ?_; rotate_left; (go_simp; with_reducible rfl); simp only [Act.put, List.setIfInBounds_toArray, List.set_cons_zero, List.set_cons_succ])
    refine Heads.nil ?_
    intro w7 hw7
    have HR := Lib.hid (H0.out h0)
    clear H0 H1 H2
    have HB7 := Lib.hid (hw7.keep HB6.out)
    have HC7 := Lib.hid (hw7.keep HC6.out)
    have E7 := hw7.keep E6
    have c_HB7_w7 := fun w' o (k : Ext w7 w') => k.cellOf HB7.out o
    have f_HB7_w7 := fun w' o (k : Ext w7 w') => frozen_of (k.keep HB7.out) o
    have r_HB7_w7 := Ext.refl w7
    have c_HC7_w7 := fun w' o (k : Ext w7 w') => k.cellOf HC7.out o
    have f_HC7_w7 := fun w' o (k : Ext w7 w') => frozen_of (k.keep HC7.out) o
    have r_HC7_w7 := Ext.refl w7
    have cE7 := fun w' o (k : Ext w7 w') => k.cellOf E7 o
    clear c_HB6_w6 f_HB6_w6 c_HC6_w6 f_HC6_w6 cE6 c_HD_w6 f_HD_w6
    have a7 := fun o => (Ext.refl w7).alloc o
    by_cases g0 : s.gen ≥ c.gens
    · have b1 : decide (s.gen ≥ c.gens) = true := decide_eq_true g0
      have HQ := Lib.hid (by have k := HR.out; rw [if_pos g0] at k; exact k)
      clear HR
      go_wp2_with fail
      have HD8 := Lib.hid (heap_new w7 (.cells #[.int .i64 3, .int .i64 0, .int .i64 s.gen, .int .i64 0] 44))
      have x8 := hw7.alloc (.cells #[.int .i64 3, .int .i64 0, .int .i64 s.gen, .int .i64 0] 44)
      have y8 := (Ext.refl w7).alloc (.cells #[.int .i64 3, .int .i64 0, .int .i64 s.gen, .int .i64 0] 44)
      generalize w7.alloc (.cells #[.int .i64 3, .int .i64 0, .int .i64 s.gen, .int .i64 0] 44) = w8 at *
      generalize w7.heap.size = bn at *
      have HB8 := Lib.hid (y8.keep HB7.out)
      have E8 := y8.keep E7
      have c_HB8_w8 := fun w' o (k : Ext w8 w') => k.cellOf HB8.out o
      have f_HB8_w8 := fun w' o (k : Ext w8 w') => frozen_of (k.keep HB8.out) o
      have r_HB8_w8 := Ext.refl w8
      have c_HD8_w8 := fun w' o (k : Ext w8 w') => k.cellOf HD8.out o
      have f_HD8_w8 := fun w' o (k : Ext w8 w') => frozen_of (k.keep HD8.out) o
      have r_HD8_w8 := Ext.refl w8
      have cE8 := fun w' o (k : Ext w8 w') => k.cellOf E8 o
      clear c_HB7_w7 f_HB7_w7 c_HC7_w7 f_HC7_w7 cE7
      refine wp_region_plan (Ext w8) [0] [1, 2, 3, 4, 5, 6, 7, 8, 9, 10, 11, 12, 13, 14] 15 [16, 17, 18] Try.mixed (by kernel_rfl) (by intro c a d v w h; cases d <;> exact h) (Ext.refl _).drew ?_
      simp only [opsAt, List.filterMap_cons, List.filterMap_nil, List.getElem?_toArray, List.getElem?_cons_zero, List.getElem?_cons_succ]
      (refine Firsts.val (v := ?_) rfl (fun _ => ?_) ?_; rotate_left; (go_simp; with_reducible rfl); simp only [Act.put, List.setIfInBounds_toArray, List.set_cons_zero, List.set_cons_succ])
      refine Firsts.nil ?_
      (refine Heads.val (v := ?_) rfl (fun wv hwv => ?_) ?_; rotate_left; (go_simp; with_reducible rfl); simp only [Act.put, List.setIfInBounds_toArray, List.set_cons_zero, List.set_cons_succ])
      (refine Heads.val (v := ?_) rfl (fun wv hwv => ?_) ?_; rotate_left; (go_simp; with_reducible rfl); simp only [Act.put, List.setIfInBounds_toArray, List.set_cons_zero, List.set_cons_succ])
      (refine Heads.val (v := ?_) rfl (fun wv hwv => ?_) ?_; rotate_left; (go_simp; with_reducible rfl); simp only [Act.put, List.setIfInBounds_toArray, List.set_cons_zero, List.set_cons_succ])
      (refine Heads.val (v := ?_) rfl (fun wv hwv => ?_) ?_; rotate_left; (go_simp; with_reducible rfl); simp only [Act.put, List.setIfInBounds_toArray, List.set_cons_zero, List.set_cons_succ])
      (refine Heads.val (v := ?_) rfl (fun wv hwv => ?_) ?_; rotate_left; (go_simp; with_reducible rfl); simp only [Act.put, List.setIfInBounds_toArray, List.set_cons_zero, List.set_cons_succ])
      (refine Heads.val (v := ?_) rfl (fun wv hwv => ?_) ?_; rotate_left; (go_simp; with_reducible rfl); simp only [Act.put, List.setIfInBounds_toArray, List.set_cons_zero, List.set_cons_succ])
      (refine Heads.val (v := ?_) rfl (fun wv hwv => ?_) ?_; rotate_left; (go_simp; with_reducible rfl); simp only [Act.put, List.setIfInBounds_toArray, List.set_cons_zero, List.set_cons_succ])
      (refine Heads.call (v := ?_) rfl (fun wv hwv => ?_) ?_; rotate_left; (go_simp; simp only [GivesUpon.enter]; refine (c_pSlot c _ _ gc (by omega)).mono ?_; rintro e w' ⟨rfl, hh⟩; refine ⟨?_, hwv.trans hh⟩; with_reducible rfl); simp only [Act.put, List.setIfInBounds_toArray, List.set_cons_zero, List.set_cons_succ])
      (refine Heads.val (v := ?_) rfl (fun wv hwv => ?_) ?_; rotate_left; (go_simp; with_reducible rfl); simp only [Act.put, List.setIfInBounds_toArray, List.set_cons_zero, List.set_cons_succ])
      (refine Heads.val (v := ?_) rfl (fun wv hwv => ?_) ?_; rotate_left; (go_simp; with_reducible rfl); simp only [Act.put, List.setIfInBounds_toArray, List.set_cons_zero, List.set_cons_succ])
      (refine Heads.val (v := ?_) rfl (fun wv hwv => ?_) ?_; rotate_left; (go_simp; with_reducible rfl); simp only [Act.put, List.setIfInBounds_toArray, List.set_cons_zero, List.set_cons_succ])
      (refine Heads.val (v := ?_) rfl (fun wv hwv => ?_) ?_; rotate_left; (go_simp; with_reducible rfl); simp only [Act.put, List.setIfInBounds_toArray, List.set_cons_zero, List.set_cons_succ])
      (refine Heads.val (v := ?_) rfl (fun wv hwv => ?_) ?_; rotate_left; (go_simp; with_reducible rfl); simp only [Act.put, List.setIfInBounds_toArray, List.set_cons_zero, List.set_cons_succ])
      (refine Heads.call (v := ?_) rfl (fun wv hwv => ?_) ?_; rotate_left; (go_simp; simp only [GivesUpon.enter]; refine (c_putSlot _ _ _ _ _).mono ?_; rintro e w' ⟨rfl, hh⟩; refine ⟨?_, hwv.trans hh⟩; with_reducible rfl); simp only [Act.put, List.setIfInBounds_toArray, List.set_cons_zero, List.set_cons_succ])
      refine Heads.nil ?_
      intro w9 hw9
      go_wp2_with fail
      have hx9 := hX.trans (x3.trans (x6.trans (x8.trans hw9)))
      refine (e_cas c l σ who _ _ _ _ (h.ext hx9) hs (Fl.putSlot_lt _)).mono ?_
      rintro e wa ⟨rfl, ha, ua⟩
      generalize hl : σ.cas who (Fl.pSlot c q.slot) q.w (Fl.putSlot ⟨3, 0, s.gen, 0⟩) = lx at *
      obtain ⟨y, σ'⟩ := lx
      simp only at ha
      have HE := Lib.hid (HQ.out y σ' rfl)
      have HBa := Lib.hid (ua.keep (hw9.keep HB8.out) hb)
      have hub : Upd (b :: l.all) W wa := (hx9.upd _).trans ua.tl
      have c_HBa_wa := fun w' o (k : Ext wa w') => k.cellOf HBa.out o
      have f_HBa_wa := fun w' o (k : Ext wa w') => frozen_of (k.keep HBa.out) o
      have r_HBa_wa := Ext.refl wa
      clear c_HB8_w8 f_HB8_w8 cE8 c_HD8_w8 f_HD8_w8 HQ hl
      go_wp2
      go_ret
      unfold HelpRes
      rw [HE.out]
      exact ⟨rfl, ha.keep1 (((Upd.refl [b] _)).set1 _ _) hb, ⟨(heap_set HBa.out _ _).trans (by simp), k1, k2, k3, k4, k5⟩, hub.trans (((Upd.refl [b] _)).set1 _ _).hd⟩
    · have b1 : decide (s.gen ≥ c.gens) = false := decide_eq_false g0
      have HQ := Lib.hid (by have k := HR.out; rw [if_neg g0] at k; exact k)
      clear HR
      go_wp2_with fail
      have HD8 := Lib.hid (heap_new w7 (.cells #[.int .i64 0, .int .i64 0, .int .i64 (s.gen + 1), .int .i64 0] 44))
      have x8 := hw7.alloc (.cells #[.int .i64 0, .int .i64 0, .int .i64 (s.gen + 1), .int .i64 0] 44)
      have y8 := (Ext.refl w7).alloc (.cells #[.int .i64 0, .int .i64 0, .int .i64 (s.gen + 1), .int .i64 0] 44)
      generalize w7.alloc (.cells #[.int .i64 0, .int .i64 0, .int .i64 (s.gen + 1), .int .i64 0] 44) = w8 at *
      generalize w7.heap.size = bn at *
      have HB8 := Lib.hid (y8.keep HB7.out)
      have E8 := y8.keep E7
      have c_HB8_w8 := fun w' o (k : Ext w8 w') => k.cellOf HB8.out o
      have f_HB8_w8 := fun w' o (k : Ext w8 w') => frozen_of (k.keep HB8.out) o
      have r_HB8_w8 := Ext.refl w8
      have c_HD8_w8 := fun w' o (k : Ext w8 w') => k.cellOf HD8.out o
      have f_HD8_w8 := fun w' o (k : Ext w8 w') => frozen_of (k.keep HD8.out) o
      have r_HD8_w8 := Ext.refl w8
      have cE8 := fun w' o (k : Ext w8 w') => k.cellOf E8 o
      clear c_HB7_w7 f_HB7_w7 c_HC7_w7 f_HC7_w7 cE7
      refine wp_region_plan (Ext w8) [0] [1, 2, 3, 4, 5, 6, 7, 8, 9, 10, 11, 12, 13, 14] 15 [16, 17, 18] Try.mixed (by kernel_rfl) (by intro c a d v w h; cases d <;> exact h) (Ext.refl _).drew ?_
      simp only [opsAt, List.filterMap_cons, List.filterMap_nil, List.getElem?_toArray, List.getElem?_cons_zero, List.getElem?_cons_succ]
      (refine Firsts.val (v := ?_) rfl (fun _ => ?_) ?_; rotate_left; (go_simp; with_reducible rfl); simp only [Act.put, List.setIfInBounds_toArray, List.set_cons_zero, List.set_cons_succ])
      refine Firsts.nil ?_
      (refine Heads.val (v := ?_) rfl (fun wv hwv => ?_) ?_; rotate_left; (go_simp; with_reducible rfl); simp only [Act.put, List.setIfInBounds_toArray, List.set_cons_zero, List.set_cons_succ])
      (refine Heads.val (v := ?_) rfl (fun wv hwv => ?_) ?_; rotate_left; (go_simp; with_reducible rfl); simp only [Act.put, List.setIfInBounds_toArray, List.set_cons_zero, List.set_cons_succ])
      (refine Heads.val (v := ?_) rfl (fun wv hwv => ?_) ?_; rotate_left; (go_simp; with_reducible rfl); simp only [Act.put, List.setIfInBounds_toArray, List.set_cons_zero, List.set_cons_succ])
      (refine Heads.val (v := ?_) rfl (fun wv hwv => ?_) ?_; rotate_left; (go_simp; with_reducible rfl); simp only [Act.put, List.setIfInBounds_toArray, List.set_cons_zero, List.set_cons_succ])
      (refine Heads.val (v := ?_) rfl (fun wv hwv => ?_) ?_; rotate_left; (go_simp; with_reducible rfl); simp only [Act.put, List.setIfInBounds_toArray, List.set_cons_zero, List.set_cons_succ])
      (refine Heads.val (v := ?_) rfl (fun wv hwv => ?_) ?_; rotate_left; (go_simp; with_reducible rfl); simp only [Act.put, List.setIfInBounds_toArray, List.set_cons_zero, List.set_cons_succ])
      (refine Heads.val (v := ?_) rfl (fun wv hwv => ?_) ?_; rotate_left; (go_simp; with_reducible rfl); simp only [Act.put, List.setIfInBounds_toArray, List.set_cons_zero, List.set_cons_succ])
      (refine Heads.call (v := ?_) rfl (fun wv hwv => ?_) ?_; rotate_left; (go_simp; simp only [GivesUpon.enter]; refine (c_pSlot c _ _ gc (by omega)).mono ?_; rintro e w' ⟨rfl, hh⟩; refine ⟨?_, hwv.trans hh⟩; with_reducible rfl); simp only [Act.put, List.setIfInBounds_toArray, List.set_cons_zero, List.set_cons_succ])
      (refine Heads.val (v := ?_) rfl (fun wv hwv => ?_) ?_; rotate_left; (go_simp; with_reducible rfl); simp only [Act.put, List.setIfInBounds_toArray, List.set_cons_zero, List.set_cons_succ])
      (refine Heads.val (v := ?_) rfl (fun wv hwv => ?_) ?_; rotate_left; (go_simp; with_reducible rfl); simp only [Act.put, List.setIfInBounds_toArray, List.set_cons_zero, List.set_cons_succ])
      (refine Heads.val (v := ?_) rfl (fun wv hwv => ?_) ?_; rotate_left; (go_simp; with_reducible rfl); simp only [Act.put, List.setIfInBounds_toArray, List.set_cons_zero, List.set_cons_succ])
      (refine Heads.val (v := ?_) rfl (fun wv hwv => ?_) ?_; rotate_left; (go_simp; with_reducible rfl); simp only [Act.put, List.setIfInBounds_toArray, List.set_cons_zero, List.set_cons_succ])
      (refine Heads.val (v := ?_) rfl (fun wv hwv => ?_) ?_; rotate_left; (go_simp; with_reducible rfl); simp only [Act.put, List.setIfInBounds_toArray, List.set_cons_zero, List.set_cons_succ])
      (refine Heads.call (v := ?_) rfl (fun wv hwv => ?_) ?_; rotate_left; (go_simp; simp only [GivesUpon.enter]; refine (c_putSlot _ _ _ _ _).mono ?_; rintro e w' ⟨rfl, hh⟩; refine ⟨?_, hwv.trans hh⟩; with_reducible rfl); simp only [Act.put, List.setIfInBounds_toArray, List.set_cons_zero, List.set_cons_succ])
      refine Heads.nil ?_
      intro w9 hw9
      go_wp2_with fail
      have hx9 := hX.trans (x3.trans (x6.trans (x8.trans hw9)))
      refine (e_cas c l σ who _ _ _ _ (h.ext hx9) hs (Fl.putSlot_lt _)).mono ?_
      rintro e wa ⟨rfl, ha, ua⟩
      generalize hl : σ.cas who (Fl.pSlot c q.slot) q.w (Fl.putSlot ⟨0, 0, (s.gen + 1), 0⟩) = lx at *
      obtain ⟨y, σ'⟩ := lx
      simp only at ha
      have HE := Lib.hid (HQ.out y σ' rfl)
      have HBa := Lib.hid (ua.keep (hw9.keep HB8.out) hb)
      have hub : Upd (b :: l.all) W wa := (hx9.upd _).trans ua.tl
      have c_HBa_wa := fun w' o (k : Ext wa w') => k.cellOf HBa.out o
      have f_HBa_wa := fun w' o (k : Ext wa w') => frozen_of (k.keep HBa.out) o
      have r_HBa_wa := Ext.refl wa
      clear c_HB8_w8 f_HB8_w8 cE8 c_HD8_w8 f_HD8_w8 HQ hl
      go_wp2
      go_ret
      unfold HelpRes
      rw [HE.out]
      exact ⟨rfl, ha.keep1 (((Upd.refl [b] _)).set1 _ _) hb, ⟨(heap_set HBa.out _ _).trans (by simp), k1, k2, k3, k4, k5⟩, hub.trans (((Upd.refl [b] _)).set1 _ _).hd⟩
  · have b0 : decide (q.i ≥ q.size) = false := decide_eq_false h0
    refine wp_region_plan (Ext w6) [] [0, 1, 2, 3, 4, 5, 6, 7, 8] 9 [] Try.mixed (by kernel_rfl) (by intro c a d v w h; cases d <;> exact h) (Ext.refl _).drew ?_
    simp only [opsAt, List.filterMap_cons, List.filterMap_nil, List.getElem?_toArray, List.getElem?_cons_zero, List.getElem?_cons_succ]
    refine Firsts.nil ?_
    (refine Heads.val (v := ?_) rfl (fun wv hwv => ?_) ?_; rotate_left; (go_simp; with_reducible rfl); simp only [Act.put, List.setIfInBounds_toArray, List.set_cons_zero, List.set_cons_succ])
    (refine Heads.val (v := ?_) rfl (fun wv hwv => ?_) ?_; rotate_left; (go_simp; with_reducible rfl); simp only [Act.put, List.setIfInBounds_toArray, List.set_cons_zero, List.set_cons_succ])
    (refine Heads.val (v := ?_) rfl (fun wv hwv => ?_) ?_; rotate_left; (go_simp; with_reducible rfl); simp only [Act.put, List.setIfInBounds_toArray, List.set_cons_zero, List.set_cons_succ])
    (refine Heads.val (v := ?_) rfl (fun wv hwv => ?_) ?_; rotate_left; (go_simp; with_reducible rfl); simp only [Act.put, List.setIfInBounds_toArray, List.set_cons_zero, List.set_cons_succ])
    (refine Heads.val (v := ?_) rfl (fun wv hwv => ?_) ?_; rotate_left; (go_simp; with_reducible rfl); simp only [Act.put, List.setIfInBounds_toArray, List.set_cons_zero, List.set_cons_succ])
    (refine Heads.val (v := ?_) rfl (fun wv hwv => ?_) ?_; rotate_left; (go_simp; with_reducible rfl); simp only [Act.put, List.setIfInBounds_toArray, List.set_cons_zero, List.set_cons_succ])
    (refine Heads.val (v := ?_) rfl (fun wv hwv => ?_) ?_; rotate_left; (go_simp; with_reducible rfl); simp only [Act.put, List.setIfInBounds_toArray, List.set_cons_zero, List.set_cons_succ])
    (refine Heads.val (v := ?_) rfl (fun wv hwv => ?_) ?_; rotate_left; (go_simp; with_reducible rfl); simp only [Act.put, List.setIfInBounds_toArray, List.set_cons_zero, List.set_cons_succ])
    (refine Heads.val (v := ?_) rfl (fun wv hwv => ?_) ?_; rotate_left; (go_simp; with_reducible rfl); simp only [Act.put, List.setIfInBounds_toArray, List.set_cons_zero, List.set_cons_succ])
    refine Heads.nil ?_
    intro w7 hw7
    have HB7 := Lib.hid (hw7.keep HB6.out)
    have HC7 := Lib.hid (hw7.keep HC6.out)
    have HD7 := Lib.hid (hw7.keep HD.out)
    have E7 := hw7.keep E6
    have c_HB7_w7 := fun w' o (k : Ext w7 w') => k.cellOf HB7.out o
    have f_HB7_w7 := fun w' o (k : Ext w7 w') => frozen_of (k.keep HB7.out) o
    have r_HB7_w7 := Ext.refl w7
    have c_HC7_w7 := fun w' o (k : Ext w7 w') => k.cellOf HC7.out o
    have f_HC7_w7 := fun w' o (k : Ext w7 w') => frozen_of (k.keep HC7.out) o
    have r_HC7_w7 := Ext.refl w7
    have c_HD7_w7 := fun w' o (k : Ext w7 w') => k.cellOf HD7.out o
    have f_HD7_w7 := fun w' o (k : Ext w7 w') => frozen_of (k.keep HD7.out) o
    have r_HD7_w7 := Ext.refl w7
    have cE7 := fun w' o (k : Ext w7 w') => k.cellOf E7 o
    clear c_HB6_w6 f_HB6_w6 c_HC6_w6 f_HC6_w6 cE6 c_HD_w6 f_HD_w6
    have hx7 := hX.trans (x3.trans (x6.trans hw7))
    have bl7 := hx7.size
    have hbsz := lt_of_heap HC7.out
    have hbcz := lt_of_heap HD7.out
    have hbs : bs ∉ l.all := fun hm => by have := hlt _ hm; have := hX.size; omega
    have hbc : bc ∉ l.all := fun hm => by have := hlt _ hm; have := hX.size; have := x3.size; omega
    have nbc : b ≠ bc := by have := hX.size; have := x3.size; omega
    have nsc : bs ≠ bc := by have := lt_of_heap HC.out; omega
    have nbs : b ≠ bs := by have := hX.size; omega
    have n1 := nbc.symm
    have n2 := nbs.symm
    have n3 := nsc.symm
    have k4' : 0 ≤ q.i + 1 ∧ q.i + 1 ≤ 65536 := by omega
    cases hr : q.read
    · have HR := Lib.hid (H1.out (by omega) hr)
      clear H0 H1 H2
      go_wp2_with fail
      have hll := load_lt h who (s.addr + 1 + q.i)
      refine (e_load c l σ who _ _ (h.ext hx7) hs).mono ?_
      rintro e w8 ⟨rfl, h8, u8⟩
      generalize hl : σ.load who (s.addr + 1 + q.i) = lx at *
      obtain ⟨x, σ'⟩ := lx
      simp only at hll h8
      have HE := Lib.hid (HR.out x σ' rfl)
      have HB8 := Lib.hid (u8.keep HB7.out hb)
      have HC8 := Lib.hid (u8.keep HC7.out hbs)
      have HD8 := Lib.hid (u8.keep HD7.out hbc)
      have hub : Upd (b :: l.all) W w8 := (hx7.upd _).trans u8.tl
      have c_HB8_w8 := fun w' o (k : Ext w8 w') => k.cellOf HB8.out o
      have f_HB8_w8 := fun w' o (k : Ext w8 w') => frozen_of (k.keep HB8.out) o
      have r_HB8_w8 := Ext.refl w8
      clear c_HB7_w7 f_HB7_w7 c_HC7_w7 f_HC7_w7 c_HD7_w7 f_HD7_w7 cE7 HR hl
      go_wp2_with fail
      have HC9 := Lib.hid (heap_far HC8.out (p := ⟨b, 4, none⟩) nbs.symm (.int .u64 (x : Nat)))
      have HD9 := Lib.hid (heap_far HD8.out (p := ⟨b, 4, none⟩) nbc.symm (.int .u64 (x : Nat)))
      have HB9 := Lib.hid (heap_set HB8.out 4 (.int .u64 (x : Nat)))
      have u_w9 := ((Upd.refl [b] w8).set1 4 (.int .u64 (x : Nat)))
      have h9 := h8.keep1 u_w9 hb
      generalize (World.setCell w8 ⟨b, 4, none⟩ (.int .u64 (x : Nat))) = w9 at *
      simp only [List.setIfInBounds_toArray, List.set_cons_zero, List.set_cons_succ] at HB9
      refine (c_cell _ _ hll).mono ?_
      rintro e wa ⟨rfl, xa⟩
      obtain ⟨r9, r10, r11, r12⟩ := Fl.cellOf_range x
      generalize hcx : Fl.cellOf x = cx at *
      clear hcx
      obtain ⟨cv, cf, cr⟩ := cx
      simp only at r9 r10 r11 r12
      have HBa := Lib.hid (xa.keep HB9.out)
      have HCa := Lib.hid (xa.keep HC9.out)
      have HDa := Lib.hid (xa.keep HD9.out)
      have huba := (hub.trans u_w9.hd).extR xa
      have c_HBa_wa := fun w' o (k : Ext wa w') => k.cellOf HBa.out o
      have f_HBa_wa := fun w' o (k : Ext wa w') => frozen_of (k.keep HBa.out) o
      have r_HBa_wa := Ext.refl wa
      have c_HCa_wa := fun w' o (k : Ext wa w') => k.cellOf HCa.out o
      have f_HCa_wa := fun w' o (k : Ext wa w') => frozen_of (k.keep HCa.out) o
      have r_HCa_wa := Ext.refl wa
      have c_HDa_wa := fun w' o (k : Ext wa w') => k.cellOf HDa.out o
      have f_HDa_wa := fun w' o (k : Ext wa w') => frozen_of (k.keep HDa.out) o
      have r_HDa_wa := Ext.refl wa
      clear c_HB8_w8 f_HB8_w8
      have hbcW : W.heap.size ≤ bc := by have := hX.size; have := x3.size; omega
      cases cf
      · have HF := Lib.hid (HE.out.trans (if_neg (by simp)))
        clear HE
        go_wp2
        go_ret
        unfold HelpRes
        rw [HF.out]
        have hSS : ∀ x, x ∈ [b, bc] → x ∉ l.all := by
          intro x hx
          simp only [List.mem_cons, List.not_mem_nil, or_false] at hx
          rcases hx with rfl | rfl
          · exact hb
          · exact hbc
        refine ⟨rfl, (h9.ext xa).keepS (Upd.set (Upd.set (Upd.set (Upd.set (Upd.refl [b, bc] _) (Or.inl (by simp)) _) (Or.inl (by simp)) _) (Or.inl (by simp)) _) (Or.inl (by simp)) _) hSS, ⟨(heap_set (heap_far (heap_far (heap_far HBa.out nbc _) nbc _) nbc _) _ _).trans (by simp), k1, k2, k3, k4, hll⟩, huba.then (Upd.set (Upd.set (Upd.set (Upd.set (Upd.refl [b, bc] _) (Or.inl (by simp)) _) (Or.inl (by simp)) _) (Or.inl (by simp)) _) (Or.inl (by simp)) _) ?_⟩
        intro x hx
        simp only [List.mem_cons, List.not_mem_nil, or_false] at hx
        rcases hx with rfl | rfl
        · exact Or.inl (List.mem_cons_self ..)
        · exact Or.inr hbcW
      · by_cases v0 : cr = s.ver
        · have b1 : (cr != s.ver) = false := by simp [v0]
          have HF := Lib.hid (HE.out.trans (if_pos ⟨rfl, v0⟩))
          clear HE
          go_wp2
          go_ret
          unfold HelpRes
          rw [HF.out]
          have hSS : ∀ x, x ∈ [b, bc] → x ∉ l.all := by
            intro x hx
            simp only [List.mem_cons, List.not_mem_nil, or_false] at hx
            rcases hx with rfl | rfl
            · exact hb
            · exact hbc
          refine ⟨rfl, (h9.ext xa).keepS (Upd.set (Upd.set (Upd.set (Upd.set (Upd.set (Upd.refl [b, bc] _) (Or.inl (by simp)) _) (Or.inl (by simp)) _) (Or.inl (by simp)) _) (Or.inl (by simp)) _) (Or.inl (by simp)) _) hSS, ⟨(heap_set (heap_set (heap_far (heap_far (heap_far HBa.out nbc _) nbc _) nbc _) _ _) _ _).trans (by simp), k1, k2, k3, k4', hll⟩, huba.then (Upd.set (Upd.set (Upd.set (Upd.set (Upd.set (Upd.refl [b, bc] _) (Or.inl (by simp)) _) (Or.inl (by simp)) _) (Or.inl (by simp)) _) (Or.inl (by simp)) _) (Or.inl (by simp)) _) ?_⟩
          intro x hx
          simp only [List.mem_cons, List.not_mem_nil, or_false] at hx
          rcases hx with rfl | rfl
          · exact Or.inl (List.mem_cons_self ..)
          · exact Or.inr hbcW
        · have b1 : (cr != s.ver) = true := by simpa using v0
          have HF := Lib.hid (HE.out.trans (if_neg (fun hh => v0 hh.2)))
          clear HE
          go_wp2
          go_ret
          unfold HelpRes
          rw [HF.out]
          have hSS : ∀ x, x ∈ [b, bc] → x ∉ l.all := by
            intro x hx
            simp only [List.mem_cons, List.not_mem_nil, or_false] at hx
            rcases hx with rfl | rfl
            · exact hb
            · exact hbc
          refine ⟨rfl, (h9.ext xa).keepS (Upd.set (Upd.set (Upd.set (Upd.set (Upd.refl [b, bc] _) (Or.inl (by simp)) _) (Or.inl (by simp)) _) (Or.inl (by simp)) _) (Or.inl (by simp)) _) hSS, ⟨(heap_set (heap_far (heap_far (heap_far HBa.out nbc _) nbc _) nbc _) _ _).trans (by simp), k1, k2, k3, k4, hll⟩, huba.then (Upd.set (Upd.set (Upd.set (Upd.set (Upd.refl [b, bc] _) (Or.inl (by simp)) _) (Or.inl (by simp)) _) (Or.inl (by simp)) _) (Or.inl (by simp)) _) ?_⟩
          intro x hx
          simp only [List.mem_cons, List.not_mem_nil, or_false] at hx
          rcases hx with rfl | rfl
          · exact Or.inl (List.mem_cons_self ..)
          · exact Or.inr hbcW
    · have HR := Lib.hid (H2.out (by omega) hr)
      clear H0 H1 H2
      go_wp2_with fail
      have HC8 := Lib.hid (heap_far HC7.out (p := ⟨b, 5, none⟩) n2 (.bool false))
      have HD8 := Lib.hid (heap_far HD7.out (p := ⟨b, 5, none⟩) n1 (.bool false))
      have E8 := heap_far E7 (p := ⟨b, 5, none⟩) (show W.heap.size ≠ b by omega) (.bool false)
      have h7 := h.ext hx7
      have HB8 := Lib.hid (heap_set HB7.out 5 (.bool false))
      have u_w8 := ((Upd.refl [b] w7).set1 5 (.bool false))
      have h8 := h7.keep1 u_w8 hb
      generalize (World.setCell w7 ⟨b, 5, none⟩ (.bool false)) = w8 at *
      simp only [List.setIfInBounds_toArray, List.set_cons_zero, List.set_cons_succ] at HB8
      have hub8 : Upd (b :: l.all) W w8 := (hx7.upd _).trans u_w8.hd
      have c_HB8_w8 := fun w' o (k : Ext w8 w') => k.cellOf HB8.out o
      have f_HB8_w8 := fun w' o (k : Ext w8 w') => frozen_of (k.keep HB8.out) o
      have r_HB8_w8 := Ext.refl w8
      have c_HC8_w8 := fun w' o (k : Ext w8 w') => k.cellOf HC8.out o
      have f_HC8_w8 := fun w' o (k : Ext w8 w') => frozen_of (k.keep HC8.out) o
      have r_HC8_w8 := Ext.refl w8
      have c_HD8_w8 := fun w' o (k : Ext w8 w') => k.cellOf HD8.out o
      have f_HD8_w8 := fun w' o (k : Ext w8 w') => frozen_of (k.keep HD8.out) o
      have r_HD8_w8 := Ext.refl w8
      have cE8 := fun w' o (k : Ext w8 w') => k.cellOf E8 o
      clear c_HB7_w7 f_HB7_w7 c_HC7_w7 f_HC7_w7 c_HD7_w7 f_HD7_w7 cE7
      refine wp_region_plan (Ext w8) [] [0, 1, 2, 3, 4, 5, 6, 7, 8, 9, 10, 11] 12 [] Try.mixed (by kernel_rfl) (by intro c a d v w h; cases d <;> exact h) (Ext.refl _).drew ?_
      simp only [opsAt, List.filterMap_cons, List.filterMap_nil, List.getElem?_toArray, List.getElem?_cons_zero, List.getElem?_cons_succ]
      refine Firsts.nil ?_
      (refine Heads.val (v := ?_) rfl (fun wv hwv => ?_) ?_; rotate_left; (go_simp; with_reducible rfl); simp only [Act.put, List.setIfInBounds_toArray, List.set_cons_zero, List.set_cons_succ])
      (refine Heads.val (v := ?_) rfl (fun wv hwv => ?_) ?_; rotate_left; (go_simp; with_reducible rfl); simp only [Act.put, List.setIfInBounds_toArray, List.set_cons_zero, List.set_cons_succ])
      (refine Heads.val (v := ?_) rfl (fun wv hwv => ?_) ?_; rotate_left; (go_simp; with_reducible rfl); simp only [Act.put, List.setIfInBounds_toArray, List.set_cons_zero, List.set_cons_succ])
      (refine Heads.val (v := ?_) rfl (fun wv hwv => ?_) ?_; rotate_left; (go_simp; with_reducible rfl); simp only [Act.put, List.setIfInBounds_toArray, List.set_cons_zero, List.set_cons_succ])
      (refine Heads.val (v := ?_) rfl (fun wv hwv => ?_) ?_; rotate_left; (go_simp; with_reducible rfl); simp only [Act.put, List.setIfInBounds_toArray, List.set_cons_zero, List.set_cons_succ])
      (refine Heads.val (v := ?_) rfl (fun wv hwv => ?_) ?_; rotate_left; (go_simp; with_reducible rfl); simp only [Act.put, List.setIfInBounds_toArray, List.set_cons_zero, List.set_cons_succ])
      (refine Heads.val (v := ?_) rfl (fun wv hwv => ?_) ?_; rotate_left; (go_simp; with_reducible rfl); simp only [Act.put, List.setIfInBounds_toArray, List.set_cons_zero, List.set_cons_succ])
      (refine Heads.val (v := ?_) rfl (fun wv hwv => ?_) ?_; rotate_left; (go_simp; with_reducible rfl); simp only [Act.put, List.setIfInBounds_toArray, List.set_cons_zero, List.set_cons_succ])
      (refine Heads.val (v := ?_) rfl (fun wv hwv => ?_) ?_; rotate_left; (go_simp; with_reducible rfl); simp only [Act.put, List.setIfInBounds_toArray, List.set_cons_zero, List.set_cons_succ])
      (refine Heads.val (v := ?_) rfl (fun wv hwv => ?_) ?_; rotate_left; (go_simp; with_reducible rfl); simp only [Act.put, List.setIfInBounds_toArray, List.set_cons_zero, List.set_cons_succ])
      (refine Heads.val (v := ?_) rfl (fun wv hwv => ?_) ?_; rotate_left; (go_simp; with_reducible rfl); simp only [Act.put, List.setIfInBounds_toArray, List.set_cons_zero, List.set_cons_succ])
      (refine Heads.call (v := ?_) rfl (fun wv hwv => ?_) ?_; rotate_left; (go_simp; simp only [GivesUpon.enter]; refine (c_putCell _ _ _ _).mono ?_; rintro e w' ⟨rfl, hh⟩; refine ⟨?_, hwv.trans hh⟩; with_reducible rfl); simp only [Act.put, List.setIfInBounds_toArray, List.set_cons_zero, List.set_cons_succ])
      refine Heads.nil ?_
      intro w9 hw9
      go_wp2_with fail
      refine (e_cas c l σ who _ _ _ _ (h8.ext hw9) hs (Fl.putCell_lt _)).mono ?_
      rintro e wa ⟨rfl, ha, ua⟩
      generalize hl : σ.cas who (s.addr + 1 + q.i) q.cell (Fl.putCell ⟨cl.value, true, s.ver⟩) = lx at *
      obtain ⟨y, σ'⟩ := lx
      simp only at ha
      have HE := Lib.hid (HR.out y σ' rfl)
      have HBa := Lib.hid (ua.keep (hw9.keep HB8.out) hb)
      have hub : Upd (b :: l.all) W wa := (hub8.extR hw9).trans ua.tl
      have c_HBa_wa := fun w' o (k : Ext wa w') => k.cellOf HBa.out o
      have f_HBa_wa := fun w' o (k : Ext wa w') => frozen_of (k.keep HBa.out) o
      have r_HBa_wa := Ext.refl wa
      clear c_HB8_w8 f_HB8_w8 cE8 c_HD8_w8 f_HD8_w8 HR hl
      cases y
      · have HF := Lib.hid HE.out
        simp only [Bool.false_eq_true, if_false] at HF
        clear HE
        go_wp2
        go_ret
        unfold HelpRes
        rw [HF.out]
        exact ⟨rfl, ha, ⟨HBa.out, k1, k2, k3, k4, k5⟩, hub⟩
      · have HF := Lib.hid HE.out
        simp only [if_true] at HF
        clear HE
        go_wp2
        go_ret
        unfold HelpRes
        rw [HF.out]
        exact ⟨rfl, ha.keep1 (((Upd.refl [b] _)).set1 _ _) hb, ⟨(heap_set HBa.out _ _).trans (by simp), k1, k2, k3, k4', k5⟩, hub.trans (((Upd.refl [b] _)).set1 _ _).hd⟩

end Go.Proofs.Ythblhgappldcjaa
