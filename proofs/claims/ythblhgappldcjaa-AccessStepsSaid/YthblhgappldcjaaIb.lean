/- The contracts of drop, on. -/
import Derived.Test.YthblhgappldcjaaIa
import Derived.BigQuiet
namespace Go.Proofs.Ythblhgappldcjaa
open Go Go.RowKit
set_option linter.unusedVariables false

theorem DropAt.ext {W W' : World} {l : Loc} {F : List Nat} {b : Nat} {d : Fl.Drop} (h : DropAt W l F b d) (x : Ext W W') : DropAt W' l F b d := by
  obtain ⟨⟨H, G, hB, hH, hG⟩, hbF, hout, hFl, hn, hw, hsl, hgn, hsz, hpc⟩ := h
  refine ⟨⟨H, G, x.keep hB, fun q => ?_, fun q => ?_⟩, hbF, hout, fun y hy => Nat.lt_of_lt_of_le (hFl y hy) x.size, hn, hw, hsl, hgn, hsz, hpc⟩
  · obtain ⟨p, h1, h2, h3, h4⟩ := hH q
    exact ⟨p, h1, h2, h3, h4.keep (x.upd []) (by simp)⟩
  · obtain ⟨p, h1, h2, h3, h4⟩ := hG q
    exact ⟨p, h1, h2, h3, h4.keep (x.upd []) (by simp)⟩

theorem drop1 (c : Fl.Cfg) (who : Int) (σ : Fl.Mem) (d : Fl.Drop) (p0 : d.pc = 1) (x : Nat) (m : Fl.Mem) (hl : σ.load who (Fl.slotOf d.w).addr = (x, m)) :
    d.step c who σ = if (Fl.headOf x).own ≠ d.own then d.invalid m else if (Fl.slotOf d.w).state = 4 then (false, { d with size := (Fl.headOf x).size, help := Fl.Help.new d.h.slot d.w (Fl.headOf x).size, pc := 4 }, m) else (false, { d with size := (Fl.headOf x).size, pc := 2 }, m) := by
  unfold Fl.Drop.step; rw [if_neg (by omega), if_pos p0]; simp only [hl]
theorem drop3 (c : Fl.Cfg) (who : Int) (σ : Fl.Mem) (d : Fl.Drop) (p0 : d.pc = 3) (y : Bool) (q : Fl.Help) (m : Fl.Mem) (hl : d.help.step c who σ = (y, q, m)) :
    d.step c who σ = if y = true then (false, { d with help := q, out := ⟨0, 0, 0, m.wh (Fl.pSlot c d.h.slot)⟩, pc := 5 }, m) else (false, { d with help := q }, m) := by
  unfold Fl.Drop.step; rw [if_neg (by omega), if_neg (by omega), if_neg (by omega), if_pos p0]; simp only [hl]
theorem drop4 (c : Fl.Cfg) (who : Int) (σ : Fl.Mem) (d : Fl.Drop) (p0 : d.pc = 4) (y : Bool) (q : Fl.Help) (m : Fl.Mem) (hl : d.help.step c who σ = (y, q, m)) :
    d.step c who σ = if y = true then (false, { d with help := q, pc := 0 }, m) else (false, { d with help := q }, m) := by
  unfold Fl.Drop.step; rw [if_neg (by omega), if_neg (by omega), if_neg (by omega), if_neg (by omega), if_pos p0]; simp only [hl]
theorem drop5 (c : Fl.Cfg) (who : Int) (σ : Fl.Mem) (d : Fl.Drop) (p0 : d.pc = 5) :
    d.step c who σ = (decide (d.h.gen ≥ c.gens), { d with give := ⟨0, d.h.slot, 0⟩, pc := 6 }, σ.add who (Fl.pChunk c (Fl.pOf c (Fl.slotOf d.w).addr) + 1) (-(Fl.room (Fl.cls d.size)))) := by
  unfold Fl.Drop.step; rw [if_neg (by omega), if_neg (by omega), if_neg (by omega), if_neg (by omega), if_neg (by omega), if_pos p0]
theorem drop6 (c : Fl.Cfg) (who : Int) (σ : Fl.Mem) (d : Fl.Drop) (p0 : d.pc = 6) (y : Bool) (g : Fl.Give) (m : Fl.Mem) (hl : d.give.step c who σ = (y, g, m)) :
    d.step c who σ = (y, { d with give := g }, m) := by
  unfold Fl.Drop.step; rw [if_neg (by omega), if_neg (by omega), if_neg (by omega), if_neg (by omega), if_neg (by omega), if_neg (by omega)]; simp only [hl]


set_option maxHeartbeats 2000000 in
set_option maxRecDepth 100000 in
theorem d_step0 (c : Fl.Cfg) (l : Loc) (σ : Fl.Mem) (who : Int) (F : List Nat) (b : Nat) (d : Fl.Drop) (W : World) (gc : GoodC c) (h : MemAt W l σ) (hs : 0 ≤ σ.steps ∧ σ.steps < 4611686018427387904)
    (hd : DropAt W l F b d) (p0 : d.pc = 0) :
    Calls Try.prog 32 #[.pointer (some ⟨b, 0, none⟩), .agg #[.int .i64 c.threads, .int .i64 c.slots, .int .i64 c.chunks, .int .i64 c.words, .int .i64 c.gens, .int .i64 c.sparse, .int .i64 c.tries, .pointer (some ⟨l.m, 0, none⟩), .int .i64 who]] W (DropRes (.bool (d.step c who σ).1) c who σ d l F b W) := by
  have hd' := hd
  have HP0 := Lib.hid p0
  obtain ⟨⟨H, G, hB, hH, hG⟩, hbF, hout, hFl, hn, hw, hsl, hgn, hsz, hpc⟩ := hd
  have hb := hout b hbF
  have hlt := h.lt
  have hbl := lt_of_heap hB
  have hE := heap_new W (.cells #[.int .i64 c.threads, .int .i64 c.slots, .int .i64 c.chunks, .int .i64 c.words, .int .i64 c.gens, .int .i64 c.sparse, .int .i64 c.tries, .pointer (some ⟨l.m, 0, none⟩), .int .i64 who] 27)
  have hX := (Ext.refl W).alloc (.cells #[.int .i64 c.threads, .int .i64 c.slots, .int .i64 c.chunks, .int .i64 c.words, .int .i64 c.gens, .int .i64 c.sparse, .int .i64 c.tries, .pointer (some ⟨l.m, 0, none⟩), .int .i64 who] 27)
  have hsE := lt_of_heap hE
  rw [p0] at hB
  have HB1 := Lib.hid (hX.keep hB)
  have c0 := fun w' o (k : Ext W w') => k.cellOf hB o
  have HPG := Lib.hid (And.intro hH hG)
  clear hB hH hG
  go_enter Try.func32, Try.ntmps32
  go_wp2_with fail
  generalize W.alloc (.cells #[.int .i64 c.threads, .int .i64 c.slots, .int .i64 c.chunks, .int .i64 c.words, .int .i64 c.gens, .int .i64 c.sparse, .int .i64 c.tries, .pointer (some ⟨l.m, 0, none⟩), .int .i64 who] 27) = w1 at *
  have cE := fun w' o (k : Ext w1 w') => k.cellOf hE o
  have cb1 := fun w' o (k : Ext w1 w') => c0 w' o (hX.trans k)
  have r1 := Ext.refl w1
  have c_HB1_w1 := fun w' o (k : Ext w1 w') => k.cellOf HB1.out o
  have f_HB1_w1 := fun w' o (k : Ext w1 w') => frozen_of (k.keep HB1.out) o
  have r_HB1_w1 := Ext.refl w1
  refine wp_region_plan (Ext w1) [] [0, 1, 2, 3, 4, 5, 6, 7] 8 [] Try.mixed (by kernel_rfl) (by intro c a d v w h; cases d <;> exact h) (Ext.refl _).drew ?_
  simp only [opsAt, List.filterMap_cons, List.filterMap_nil, List.getElem?_toArray, List.getElem?_cons_zero, List.getElem?_cons_succ]
  refine Firsts.nil ?_
  (refine Heads.val (v := ?_) rfl (fun wv hwv => ?_) ?_; rotate_left; (go_simp; with_reducible rfl); simp only [Act.put, List.setIfInBounds_toArray, List.set_cons_zero, List.set_cons_succ])
  (refine Heads.val (v := ?_) rfl (fun wv hwv => ?_) ?_; rotate_left; (go_simp; with_reducible rfl); simp only [Act.put, List.setIfInBounds_toArray, List.set_cons_zero, List.set_cons_succ])
  (refine Heads.val (v := ?_) rfl (fun wv hwv => ?_) ?_; rotate_left; (go_simp; with_reducible rfl); simp only [Act.put, List.setIfInBounds_toArray, List.set_cons_zero, List.set_cons_succ])
  (refine Heads.val (v := ?_) rfl (fun wv hwv => ?_) ?_; rotate_left; (go_simp; with_reducible rfl); simp only [Act.put, List.setIfInBounds_toArray, List.set_cons_zero, List.set_cons_succ])
  (refine Heads.val (v := ?_) rfl (fun wv hwv => ?_) ?_; rotate_left; (go_simp; with_reducible rfl); simp only [Act.put, List.setIfInBounds_toArray, List.set_cons_zero, List.set_cons_succ])
  (refine Heads.val (v := ?_) rfl (fun wv hwv => ?_) ?_; rotate_left; (go_simp; with_reducible rfl); simp only [Act.put, List.setIfInBounds_toArray, List.set_cons_zero, List.set_cons_succ])
  (refine Heads.val (v := ?_) rfl (fun wv hwv => ?_) ?_; rotate_left; (go_simp; with_reducible rfl); simp only [Act.put, List.setIfInBounds_toArray, List.set_cons_zero, List.set_cons_succ])
  (refine Heads.call (v := ?_) rfl (fun wv hwv => ?_) ?_; rotate_left; (go_simp; simp only [GivesUpon.enter]; refine (c_pSlot c _ _ gc (by omega)).mono ?_; rintro e w' ⟨rfl, hh⟩; refine ⟨?_, hwv.trans hh⟩; with_reducible rfl); simp only [Act.put, List.setIfInBounds_toArray, List.set_cons_zero, List.set_cons_succ])
  refine Heads.nil ?_
  intro w2 hw2
  go_wp2_with fail
  have hx2 := hX.trans hw2
  refine (d_see c l σ who F b d _ gc (h.ext hx2) hs (hd'.ext hx2) p0).mono ?_
  rintro e w3 ⟨rfl, h3, u3, F', hd3, hF'⟩
  go_wp2
  go_ret
  refine ⟨rfl, h3, Upd.extL hx2 u3, F', hd3, fun x hx => ?_⟩
  rcases hF' x hx with h1 | h1
  · exact Or.inl h1
  · have := hx2.size; exact Or.inr (by omega)

set_option maxHeartbeats 2000000 in
set_option maxRecDepth 100000 in
theorem d_step2 (c : Fl.Cfg) (l : Loc) (σ : Fl.Mem) (who : Int) (F : List Nat) (b : Nat) (d : Fl.Drop) (W : World) (gc : GoodC c) (h : MemAt W l σ) (hs : 0 ≤ σ.steps ∧ σ.steps < 4611686018427387904)
    (hd : DropAt W l F b d) (p0 : d.pc = 2) :
    Calls Try.prog 32 #[.pointer (some ⟨b, 0, none⟩), .agg #[.int .i64 c.threads, .int .i64 c.slots, .int .i64 c.chunks, .int .i64 c.words, .int .i64 c.gens, .int .i64 c.sparse, .int .i64 c.tries, .pointer (some ⟨l.m, 0, none⟩), .int .i64 who]] W (DropRes (.bool (d.step c who σ).1) c who σ d l F b W) := by
  have hf : (d.step c who σ).1 = false := by
    cases hl : σ.cas who (Fl.pSlot c d.h.slot) d.w (Fl.putSlot ⟨4, (Fl.slotOf d.w).addr, (Fl.slotOf d.w).gen, (Fl.slotOf d.w).ver + 1⟩) with
    | mk y m => rw [drop2 c who σ d p0 _ rfl y m hl]; cases y <;> rfl
  rw [hf]
  have hd' := hd
  have HP0 := Lib.hid p0
  obtain ⟨⟨H, G, hB, hH, hG⟩, hbF, hout, hFl, hn, hw, hsl, hgn, hsz, hpc⟩ := hd
  have hb := hout b hbF
  have hlt := h.lt
  have hbl := lt_of_heap hB
  have hE := heap_new W (.cells #[.int .i64 c.threads, .int .i64 c.slots, .int .i64 c.chunks, .int .i64 c.words, .int .i64 c.gens, .int .i64 c.sparse, .int .i64 c.tries, .pointer (some ⟨l.m, 0, none⟩), .int .i64 who] 27)
  have hX := (Ext.refl W).alloc (.cells #[.int .i64 c.threads, .int .i64 c.slots, .int .i64 c.chunks, .int .i64 c.words, .int .i64 c.gens, .int .i64 c.sparse, .int .i64 c.tries, .pointer (some ⟨l.m, 0, none⟩), .int .i64 who] 27)
  have hsE := lt_of_heap hE
  rw [p0] at hB
  have HB1 := Lib.hid (hX.keep hB)
  have c0 := fun w' o (k : Ext W w') => k.cellOf hB o
  have HPG := Lib.hid (And.intro hH hG)
  clear hB hH hG
  go_enter Try.func32, Try.ntmps32
  go_wp2_with fail
  generalize W.alloc (.cells #[.int .i64 c.threads, .int .i64 c.slots, .int .i64 c.chunks, .int .i64 c.words, .int .i64 c.gens, .int .i64 c.sparse, .int .i64 c.tries, .pointer (some ⟨l.m, 0, none⟩), .int .i64 who] 27) = w1 at *
  have cE := fun w' o (k : Ext w1 w') => k.cellOf hE o
  have cb1 := fun w' o (k : Ext w1 w') => c0 w' o (hX.trans k)
  have r1 := Ext.refl w1
  have c_HB1_w1 := fun w' o (k : Ext w1 w') => k.cellOf HB1.out o
  have f_HB1_w1 := fun w' o (k : Ext w1 w') => frozen_of (k.keep HB1.out) o
  have r_HB1_w1 := Ext.refl w1
  refine wp_region_plan (Ext w1) [] [0, 1, 2, 3, 4, 5, 6, 7] 8 [] Try.mixed (by kernel_rfl) (by intro c a d v w h; cases d <;> exact h) (Ext.refl _).drew ?_
  simp only [opsAt, List.filterMap_cons, List.filterMap_nil, List.getElem?_toArray, List.getElem?_cons_zero, List.getElem?_cons_succ]
  refine Firsts.nil ?_
  (refine Heads.val (v := ?_) rfl (fun wv hwv => ?_) ?_; rotate_left; (go_simp; with_reducible rfl); simp only [Act.put, List.setIfInBounds_toArray, List.set_cons_zero, List.set_cons_succ])
  (refine Heads.val (v := ?_) rfl (fun wv hwv => ?_) ?_; rotate_left; (go_simp; with_reducible rfl); simp only [Act.put, List.setIfInBounds_toArray, List.set_cons_zero, List.set_cons_succ])
  (refine Heads.val (v := ?_) rfl (fun wv hwv => ?_) ?_; rotate_left; (go_simp; with_reducible rfl); simp only [Act.put, List.setIfInBounds_toArray, List.set_cons_zero, List.set_cons_succ])
  (refine Heads.val (v := ?_) rfl (fun wv hwv => ?_) ?_; rotate_left; (go_simp; with_reducible rfl); simp only [Act.put, List.setIfInBounds_toArray, List.set_cons_zero, List.set_cons_succ])
  (refine Heads.val (v := ?_) rfl (fun wv hwv => ?_) ?_; rotate_left; (go_simp; with_reducible rfl); simp only [Act.put, List.setIfInBounds_toArray, List.set_cons_zero, List.set_cons_succ])
  (refine Heads.val (v := ?_) rfl (fun wv hwv => ?_) ?_; rotate_left; (go_simp; with_reducible rfl); simp only [Act.put, List.setIfInBounds_toArray, List.set_cons_zero, List.set_cons_succ])
  (refine Heads.val (v := ?_) rfl (fun wv hwv => ?_) ?_; rotate_left; (go_simp; with_reducible rfl); simp only [Act.put, List.setIfInBounds_toArray, List.set_cons_zero, List.set_cons_succ])
  (refine Heads.call (v := ?_) rfl (fun wv hwv => ?_) ?_; rotate_left; (go_simp; simp only [GivesUpon.enter]; refine (c_pSlot c _ _ gc (by omega)).mono ?_; rintro e w' ⟨rfl, hh⟩; refine ⟨?_, hwv.trans hh⟩; with_reducible rfl); simp only [Act.put, List.setIfInBounds_toArray, List.set_cons_zero, List.set_cons_succ])
  refine Heads.nil ?_
  intro w2 hw2
  go_wp2_with fail
  have hx2 := hX.trans hw2
  refine (d_claim c l σ who F b d _ gc (h.ext hx2) hs (hd'.ext hx2) p0).mono ?_
  rintro e w3 ⟨rfl, h3, u3, F', hd3, hF'⟩
  go_wp2
  go_ret
  refine ⟨rfl, h3, Upd.extL hx2 u3, F', hd3, fun x hx => ?_⟩
  rcases hF' x hx with h1 | h1
  · exact Or.inl h1
  · have := hx2.size; exact Or.inr (by omega)

set_option maxHeartbeats 2000000 in
set_option maxRecDepth 100000 in
theorem d_step1 (c : Fl.Cfg) (l : Loc) (σ : Fl.Mem) (who : Int) (F : List Nat) (b : Nat) (d : Fl.Drop) (W : World) (gc : GoodC c) (h : MemAt W l σ) (hs : 0 ≤ σ.steps ∧ σ.steps < 4611686018427387904)
    (hd : DropAt W l F b d) (p0 : d.pc = 1) :
    Calls Try.prog 32 #[.pointer (some ⟨b, 0, none⟩), .agg #[.int .i64 c.threads, .int .i64 c.slots, .int .i64 c.chunks, .int .i64 c.words, .int .i64 c.gens, .int .i64 c.sparse, .int .i64 c.tries, .pointer (some ⟨l.m, 0, none⟩), .int .i64 who]] W (DropRes (.bool (d.step c who σ).1) c who σ d l F b W) := by
  have HA := Lib.hid (drop1 c who σ d p0)
  have hd' := hd
  have HP0 := Lib.hid p0
  obtain ⟨⟨H, G, hB, hH, hG⟩, hbF, hout, hFl, hn, hw, hsl, hgn, hsz, hpc⟩ := hd
  have hb := hout b hbF
  have hlt := h.lt
  have hbl := lt_of_heap hB
  have hE := heap_new W (.cells #[.int .i64 c.threads, .int .i64 c.slots, .int .i64 c.chunks, .int .i64 c.words, .int .i64 c.gens, .int .i64 c.sparse, .int .i64 c.tries, .pointer (some ⟨l.m, 0, none⟩), .int .i64 who] 27)
  have hX := (Ext.refl W).alloc (.cells #[.int .i64 c.threads, .int .i64 c.slots, .int .i64 c.chunks, .int .i64 c.words, .int .i64 c.gens, .int .i64 c.sparse, .int .i64 c.tries, .pointer (some ⟨l.m, 0, none⟩), .int .i64 who] 27)
  have hsE := lt_of_heap hE
  rw [p0] at hB
  have HB1 := Lib.hid (hX.keep hB)
  have c0 := fun w' o (k : Ext W w') => k.cellOf hB o
  have HPG := Lib.hid (And.intro hH hG)
  clear hB hH hG
  go_enter Try.func32, Try.ntmps32
  go_wp2_with fail
  generalize W.alloc (.cells #[.int .i64 c.threads, .int .i64 c.slots, .int .i64 c.chunks, .int .i64 c.words, .int .i64 c.gens, .int .i64 c.sparse, .int .i64 c.tries, .pointer (some ⟨l.m, 0, none⟩), .int .i64 who] 27) = w1 at *
  have cE := fun w' o (k : Ext w1 w') => k.cellOf hE o
  have cb1 := fun w' o (k : Ext w1 w') => c0 w' o (hX.trans k)
  have r1 := Ext.refl w1
  have c_HB1_w1 := fun w' o (k : Ext w1 w') => k.cellOf HB1.out o
  have f_HB1_w1 := fun w' o (k : Ext w1 w') => frozen_of (k.keep HB1.out) o
  have r_HB1_w1 := Ext.refl w1
  refine wp_region_plan (Ext w1) [] [0, 1, 2, 3, 4, 5, 6, 7] 8 [] Try.mixed (by kernel_rfl) (by intro c a d v w h; cases d <;> exact h) (Ext.refl _).drew ?_
  simp only [opsAt, List.filterMap_cons, List.filterMap_nil, List.getElem?_toArray, List.getElem?_cons_zero, List.getElem?_cons_succ]
  refine Firsts.nil ?_
  (refine Heads.val (v := ?_) rfl (fun wv hwv => ?_) ?_; rotate_left; (go_simp; with_reducible rfl); simp only [Act.put, List.setIfInBounds_toArray, List.set_cons_zero, List.set_cons_succ])
  (refine Heads.val (v := ?_) rfl (fun wv hwv => ?_) ?_; rotate_left; (go_simp; with_reducible rfl); simp only [Act.put, List.setIfInBounds_toArray, List.set_cons_zero, List.set_cons_succ])
  (refine Heads.val (v := ?_) rfl (fun wv hwv => ?_) ?_; rotate_left; (go_simp; with_reducible rfl); simp only [Act.put, List.setIfInBounds_toArray, List.set_cons_zero, List.set_cons_succ])
  (refine Heads.val (v := ?_) rfl (fun wv hwv => ?_) ?_; rotate_left; (go_simp; with_reducible rfl); simp only [Act.put, List.setIfInBounds_toArray, List.set_cons_zero, List.set_cons_succ])
  (refine Heads.val (v := ?_) rfl (fun wv hwv => ?_) ?_; rotate_left; (go_simp; with_reducible rfl); simp only [Act.put, List.setIfInBounds_toArray, List.set_cons_zero, List.set_cons_succ])
  (refine Heads.val (v := ?_) rfl (fun wv hwv => ?_) ?_; rotate_left; (go_simp; with_reducible rfl); simp only [Act.put, List.setIfInBounds_toArray, List.set_cons_zero, List.set_cons_succ])
  (refine Heads.val (v := ?_) rfl (fun wv hwv => ?_) ?_; rotate_left; (go_simp; with_reducible rfl); simp only [Act.put, List.setIfInBounds_toArray, List.set_cons_zero, List.set_cons_succ])
  (refine Heads.call (v := ?_) rfl (fun wv hwv => ?_) ?_; rotate_left; (go_simp; simp only [GivesUpon.enter]; refine (c_pSlot c _ _ gc (by omega)).mono ?_; rintro e w' ⟨rfl, hh⟩; refine ⟨?_, hwv.trans hh⟩; with_reducible rfl); simp only [Act.put, List.setIfInBounds_toArray, List.set_cons_zero, List.set_cons_succ])
  refine Heads.nil ?_
  intro w2 hw2
  go_wp2_with fail
  have hx2 := hX.trans hw2
  have hsr := Fl.slotOf_range d.w
  have HB2 := Lib.hid (hw2.keep HB1.out)
  have E2 := hw2.keep hE
  have c_HB2_w2 := fun w' o (k : Ext w2 w') => k.cellOf HB2.out o
  have f_HB2_w2 := fun w' o (k : Ext w2 w') => frozen_of (k.keep HB2.out) o
  have r_HB2_w2 := Ext.refl w2
  have cE2 := fun w' o (k : Ext w2 w') => k.cellOf E2 o
  clear c0 cb1 cE c_HB1_w1 f_HB1_w1
  have hll := load_lt h who (Fl.slotOf d.w).addr
  have fld := field_slot1
  have hlt2 : ∀ x, x ∈ l.all → x < w2.heap.size := fun x hx => by have := hlt x hx; have := hx2.size; omega
  refine wp_region_float1 w2.heap.size (Ext w2) 9 (some 6) (.cells #[.int .i64 0, .int .i64 0, .int .i64 0, .int .i64 0, .bool false] 98) [0, 1, 2, 3, 4, 5, 6] [7, 8] 10 [] Try.mixed (by kernel_rfl) rfl (Makes.one rfl rfl rfl (fun a w => by go_simp) (by kernel_rfl)) (by intro c a d v w h; cases d <;> exact h) (Ext.refl _).drew (fun w ob hh => hh.alloc ob) (fun w hh => hh.size) ?_
  simp only [opsAt, List.filterMap_cons, List.filterMap_nil, List.getElem?_toArray, List.getElem?_cons_zero, List.getElem?_cons_succ]
  (refine HeadsP.val (v := ?_) rfl (fun wv hwv => ?_) ?_; rotate_left; (go_simp; with_reducible rfl); simp only [Act.put, List.setIfInBounds_toArray, List.set_cons_zero, List.set_cons_succ])
  (refine HeadsP.val (v := ?_) rfl (fun wv hwv => ?_) ?_; rotate_left; (go_simp; with_reducible rfl); simp only [Act.put, List.setIfInBounds_toArray, List.set_cons_zero, List.set_cons_succ])
  (refine HeadsP.val (v := ?_) rfl (fun wv hwv => ?_) ?_; rotate_left; (go_simp; with_reducible rfl); simp only [Act.put, List.setIfInBounds_toArray, List.set_cons_zero, List.set_cons_succ])
  (refine HeadsP.val (v := ?_) rfl (fun wv hwv => ?_) ?_; rotate_left; (go_simp; with_reducible rfl); simp only [Act.put, List.setIfInBounds_toArray, List.set_cons_zero, List.set_cons_succ])
  (refine HeadsP.val (v := ?_) rfl (fun wv hwv => ?_) ?_; rotate_left; (go_simp; with_reducible rfl); simp only [Act.put, List.setIfInBounds_toArray, List.set_cons_zero, List.set_cons_succ])
  (refine HeadsP.call (v := ?_) rfl (fun wv hwv => ?_) ?_; rotate_left; (go_simp; simp only [GivesUpon.enter]; refine (c_slot _ _ hw).mono ?_; rintro e w' ⟨rfl, hh⟩; refine ⟨?_, hwv.trans hh, KeepN.ext hh⟩; with_reducible rfl); simp only [Act.put, List.setIfInBounds_toArray, List.set_cons_zero, List.set_cons_succ])
  (refine HeadsP.val (v := ?_) rfl (fun wv hwv => ?_) ?_; rotate_left; (go_simp; with_reducible rfl); simp only [Act.put, List.setIfInBounds_toArray, List.set_cons_zero, List.set_cons_succ])
  refine HeadsP.nil ?_
  (refine ChainP.call (fun w => MemAt w l (σ.load who (Fl.slotOf d.w).addr).2 ∧ Upd l.all w2 w) (v := ?_) rfl (fun w ob hh => ⟨hh.1.ext ((Ext.refl _).alloc ob), hh.2.alloc ob⟩) (fun w hh => hh.2.size) (fun wv hwv => ?_) ?_; rotate_left; (go_simp; simp only [GivesUpon.enter]; refine (e_load c l σ who _ _ (h.ext (hx2.trans hwv)) hs).mono ?_; rintro e w' ⟨rfl, hh1, hh2⟩; refine ⟨?_, ⟨hh1, (hwv.upd _).trans hh2⟩, KeepN.upd hh2 hlt2⟩; with_reducible rfl); simp only [Act.put, List.setIfInBounds_toArray, List.set_cons_zero, List.set_cons_succ])
  (refine ChainP.call (fun w => MemAt w l (σ.load who (Fl.slotOf d.w).addr).2 ∧ Upd l.all w2 w) (v := ?_) rfl (fun w ob hh => ⟨hh.1.ext ((Ext.refl _).alloc ob), hh.2.alloc ob⟩) (fun w hh => hh.2.size) (fun wv hwv => ?_) ?_; rotate_left; (go_simp; simp only [GivesUpon.enter]; refine (c_head _ _ hll).mono ?_; rintro e w' ⟨rfl, hh⟩; refine ⟨?_, ⟨hwv.1.ext hh, hwv.2.extR hh⟩, KeepN.ext hh⟩; with_reducible rfl); simp only [Act.put, List.setIfInBounds_toArray, List.set_cons_zero, List.set_cons_succ])
  refine ChainP.nil ?_
  intro kx w5 hkx HX hS5
  simp only [List.setIfInBounds_toArray, List.set_cons_zero, List.set_cons_succ]
  obtain ⟨h5, u5⟩ := hS5
  generalize hl : σ.load who (Fl.slotOf d.w).addr = lx at *
  obtain ⟨x, σ'⟩ := lx
  simp only at hll h5
  have HE := Lib.hid (HA.out x σ' rfl)
  have hxr := Fl.headOf_range x
  generalize Fl.headOf x = k at *
  clear HA hl
  have hbl2 := lt_of_heap HB2.out
  have nbx : b ≠ kx := by omega
  have nxb : kx ≠ b := by omega
  have neb : W.heap.size ≠ b := by omega
  have nex : W.heap.size ≠ kx := by have := lt_of_heap E2; omega
  have HB5 := Lib.hid (u5.keep HB2.out hb)
  have E5 := u5.keep E2 (by intro hm; have := hlt _ hm; omega)
  have HXh := Lib.hid HX
  have hub5 : Upd (F ++ l.all) W w5 := (hx2.upd _).trans u5.mem
  have c_HB5_w5 := fun w' o (k : Ext w5 w') => k.cellOf HB5.out o
  have f_HB5_w5 := fun w' o (k : Ext w5 w') => frozen_of (k.keep HB5.out) o
  have r_HB5_w5 := Ext.refl w5
  have c_HXh_w5 := fun w' o (k : Ext w5 w') => k.cellOf HXh.out o
  have f_HXh_w5 := fun w' o (k : Ext w5 w') => frozen_of (k.keep HXh.out) o
  have r_HXh_w5 := Ext.refl w5
  have cE5 := fun w' o (k : Ext w5 w') => k.cellOf E5 o
  clear c_HB2_w2 f_HB2_w2 cE2
  go_wp2_with fail
  have HX6 := Lib.hid (heap_set (heap_set (heap_set (heap_set (heap_set HXh.out 0 (.int .i64 k.kind)) 1 (.int .i64 k.size)) 2 (.int .i64 k.slot)) 3 (.int .i64 k.gen)) 4 (.bool k.own))
  have HB6 := Lib.hid (heap_far (heap_far (heap_far (heap_far (heap_far HB5.out (p := ⟨kx, 0, none⟩) nbx (.int .i64 k.kind)) (p := ⟨kx, 1, none⟩) nbx (.int .i64 k.size)) (p := ⟨kx, 2, none⟩) nbx (.int .i64 k.slot)) (p := ⟨kx, 3, none⟩) nbx (.int .i64 k.gen)) (p := ⟨kx, 4, none⟩) nbx (.bool k.own))
  have E6 := (heap_far (heap_far (heap_far (heap_far (heap_far E5 (p := ⟨kx, 0, none⟩) nex (.int .i64 k.kind)) (p := ⟨kx, 1, none⟩) nex (.int .i64 k.size)) (p := ⟨kx, 2, none⟩) nex (.int .i64 k.slot)) (p := ⟨kx, 3, none⟩) nex (.int .i64 k.gen)) (p := ⟨kx, 4, none⟩) nex (.bool k.own))
  have u6 := ((((((Upd.refl [kx] w5).set1 0 (.int .i64 k.kind)).set1 1 (.int .i64 k.size)).set1 2 (.int .i64 k.slot)).set1 3 (.int .i64 k.gen)).set1 4 (.bool k.own))
  generalize (World.setCell (World.setCell (World.setCell (World.setCell (World.setCell w5 ⟨kx, 0, none⟩ (.int .i64 k.kind)) ⟨kx, 1, none⟩ (.int .i64 k.size)) ⟨kx, 2, none⟩ (.int .i64 k.slot)) ⟨kx, 3, none⟩ (.int .i64 k.gen)) ⟨kx, 4, none⟩ (.bool k.own)) = w6 at *
  simp only [List.setIfInBounds_toArray, List.set_cons_zero, List.set_cons_succ] at HX6
  have hkl : kx ∉ l.all := fun hm => by have := hlt2 _ hm; omega
  have h6 := h5.keep1 u6 hkl
  have hub6 : Upd (F ++ l.all) W w6 := hub5.then u6 (fun x hx => by rw [List.mem_singleton.1 hx]; exact Or.inr (by have := hx2.size; omega))
  have c_HB6_w6 := fun w' o (k : Ext w6 w') => k.cellOf HB6.out o
  have f_HB6_w6 := fun w' o (k : Ext w6 w') => frozen_of (k.keep HB6.out) o
  have r_HB6_w6 := Ext.refl w6
  have c_HX6_w6 := fun w' o (k : Ext w6 w') => k.cellOf HX6.out o
  have f_HX6_w6 := fun w' o (k : Ext w6 w') => frozen_of (k.keep HX6.out) o
  have r_HX6_w6 := Ext.refl w6
  have cE6 := fun w' o (k : Ext w6 w') => k.cellOf E6 o
  clear c_HB5_w5 f_HB5_w5 c_HXh_w5 f_HXh_w5 cE5
  refine wp_region_plan (Ext w6) [] [0, 1, 2, 3, 4, 5] 6 [] Try.mixed (by kernel_rfl) (by intro c a d v w h; cases d <;> exact h) (Ext.refl _).drew ?_
  simp only [opsAt, List.filterMap_cons, List.filterMap_nil, List.getElem?_toArray, List.getElem?_cons_zero, List.getElem?_cons_succ]
  refine Firsts.nil ?_
  (refine Heads.val (v := ?_) rfl (fun wv hwv => ?_) ?_; rotate_left; (go_simp; with_reducible rfl); simp only [Act.put, List.setIfInBounds_toArray, List.set_cons_zero, List.set_cons_succ])
  (refine Heads.val (v := ?_) rfl (fun wv hwv => ?_) ?_; rotate_left; (go_simp; with_reducible rfl); simp only [Act.put, List.setIfInBounds_toArray, List.set_cons_zero, List.set_cons_succ])
  (refine Heads.val (v := ?_) rfl (fun wv hwv => ?_) ?_; rotate_left; (go_simp; with_reducible rfl); simp only [Act.put, List.setIfInBounds_toArray, List.set_cons_zero, List.set_cons_succ])
  (refine Heads.val (v := ?_) rfl (fun wv hwv => ?_) ?_; rotate_left; (go_simp; with_reducible rfl); simp only [Act.put, List.setIfInBounds_toArray, List.set_cons_zero, List.set_cons_succ])
  (refine Heads.val (v := ?_) rfl (fun wv hwv => ?_) ?_; rotate_left; (go_simp; with_reducible rfl); simp only [Act.put, List.setIfInBounds_toArray, List.set_cons_zero, List.set_cons_succ])
  (refine Heads.val (v := ?_) rfl (fun wv hwv => ?_) ?_; rotate_left; (go_simp; with_reducible rfl); simp only [Act.put, List.setIfInBounds_toArray, List.set_cons_zero, List.set_cons_succ])
  refine Heads.nil ?_
  intro w7 hw7
  have HB7 := Lib.hid (hw7.keep HB6.out)
  have HX7 := Lib.hid (hw7.keep HX6.out)
  have E7 := hw7.keep E6
  have c_HB7_w7 := fun w' o (k : Ext w7 w') => k.cellOf HB7.out o
  have f_HB7_w7 := fun w' o (k : Ext w7 w') => frozen_of (k.keep HB7.out) o
  have r_HB7_w7 := Ext.refl w7
  have c_HX7_w7 := fun w' o (k : Ext w7 w') => k.cellOf HX7.out o
  have f_HX7_w7 := fun w' o (k : Ext w7 w') => frozen_of (k.keep HX7.out) o
  have r_HX7_w7 := Ext.refl w7
  have cE7 := fun w' o (k : Ext w7 w') => k.cellOf E7 o
  clear c_HB6_w6 f_HB6_w6 c_HX6_w6 f_HX6_w6 cE6
  have h7 := h6.ext hw7
  have hub7 := hub6.extR hw7
  have hF7 : ∀ x, x ∈ F → x < w7.heap.size := fun x hx => by have := hFl x hx; have := hub7.size; omega
  by_cases o0 : k.own = d.own
  · have o1 : (k.own == d.own) = true := by rw [o0]; simp
    have HF := Lib.hid (HE.out.trans (if_neg (by rw [o0]; simp)))
    clear HE
    go_wp2_with fail
    have HB8 := Lib.hid (heap_set (heap_set HB7.out 6 (.int .i64 k.size)) 4 (.int .i64 2))
    have E8 := (heap_far (heap_far E7 (p := ⟨b, 6, none⟩) neb (.int .i64 k.size)) (p := ⟨b, 4, none⟩) neb (.int .i64 2))
    have u8 := (((Upd.refl [b] w7).set1 6 (.int .i64 k.size)).set1 4 (.int .i64 2))
    generalize (World.setCell (World.setCell w7 ⟨b, 6, none⟩ (.int .i64 k.size)) ⟨b, 4, none⟩ (.int .i64 2)) = w8 at *
    simp only [List.setIfInBounds_toArray, List.set_cons_zero, List.set_cons_succ] at HB8
    refine (c_slot _ _ hw).mono ?_
    rintro e w9 ⟨rfl, x9⟩
    have hub8 := hub7.trans (u8.own1 hbF)
    have HB9 := Lib.hid (x9.keep HB8.out)
    have E9 := x9.keep E8
    have h9 := (h7.keep1 u8 hb).ext x9
    have hub9 := hub8.extR x9
    have hF9 : ∀ x, x ∈ F → x < w9.heap.size := fun x hx => by have := hFl x hx; have := hub9.size; omega
    clear c_HB7_w7 f_HB7_w7 c_HX7_w7 f_HX7_w7 cE7
    have c_HB9_w9 := fun w' o (k : Ext w9 w') => k.cellOf HB9.out o
    have f_HB9_w9 := fun w' o (k : Ext w9 w') => frozen_of (k.keep HB9.out) o
    have r_HB9_w9 := Ext.refl w9
    have fl0 := field_slot0
    by_cases s0 : (Fl.slotOf d.w).state = 4
    · have s1 : ((Fl.slotOf d.w).state == 4) = true := by simpa using s0
      have HI := Lib.hid (HF.out.trans (if_pos s0))
      clear HF
      go_wp2_with fail
      refine wp_region_plan (Ext w9) [0, 1] [2, 3, 4, 5, 6, 7, 8, 9, 10, 11, 12, 13, 14] 15 [16, 17, 18, 19, 20, 21] Try.mixed (by kernel_rfl) (by intro c a d v w h; cases d <;> exact h) (Ext.refl _).drew ?_
      simp only [opsAt, List.filterMap_cons, List.filterMap_nil, List.getElem?_toArray, List.getElem?_cons_zero, List.getElem?_cons_succ]
      (refine Firsts.val (v := ?_) rfl (fun _ => ?_) ?_; rotate_left; (go_simp; with_reducible rfl); simp only [Act.put, List.setIfInBounds_toArray, List.set_cons_zero, List.set_cons_succ])
      (refine Firsts.val (v := ?_) rfl (fun _ => ?_) ?_; rotate_left; (go_simp; with_reducible rfl); simp only [Act.put, List.setIfInBounds_toArray, List.set_cons_zero, List.set_cons_succ])
      refine Firsts.nil ?_
      (refine Heads.val (v := ?_) rfl (fun wv hwv => ?_) ?_; rotate_left; (go_simp; with_reducible rfl); simp only [Act.put, List.setIfInBounds_toArray, List.set_cons_zero, List.set_cons_succ])
      (refine Heads.val (v := ?_) rfl (fun wv hwv => ?_) ?_; rotate_left; (go_simp; with_reducible rfl); simp only [Act.put, List.setIfInBounds_toArray, List.set_cons_zero, List.set_cons_succ])
      (refine Heads.val (v := ?_) rfl (fun wv hwv => ?_) ?_; rotate_left; (go_simp; with_reducible rfl); simp only [Act.put, List.setIfInBounds_toArray, List.set_cons_zero, List.set_cons_succ])
      (refine Heads.val (v := ?_) rfl (fun wv hwv => ?_) ?_; rotate_left; (go_simp; with_reducible rfl); simp only [Act.put, List.setIfInBounds_toArray, List.set_cons_zero, List.set_cons_succ])
      (refine Heads.val (v := ?_) rfl (fun wv hwv => ?_) ?_; rotate_left; (go_simp; with_reducible rfl); simp only [Act.put, List.setIfInBounds_toArray, List.set_cons_zero, List.set_cons_succ])
      (refine Heads.val (v := ?_) rfl (fun wv hwv => ?_) ?_; rotate_left; (go_simp; with_reducible rfl); simp only [Act.put, List.setIfInBounds_toArray, List.set_cons_zero, List.set_cons_succ])
      (refine Heads.val (v := ?_) rfl (fun wv hwv => ?_) ?_; rotate_left; (go_simp; with_reducible rfl); simp only [Act.put, List.setIfInBounds_toArray, List.set_cons_zero, List.set_cons_succ])
      (refine Heads.val (v := ?_) rfl (fun wv hwv => ?_) ?_; rotate_left; (go_simp; with_reducible rfl); simp only [Act.put, List.setIfInBounds_toArray, List.set_cons_zero, List.set_cons_succ])
      (refine Heads.val (v := ?_) rfl (fun wv hwv => ?_) ?_; rotate_left; (go_simp; with_reducible rfl); simp only [Act.put, List.setIfInBounds_toArray, List.set_cons_zero, List.set_cons_succ])
      (refine Heads.val (v := ?_) rfl (fun wv hwv => ?_) ?_; rotate_left; (go_simp; with_reducible rfl); simp only [Act.put, List.setIfInBounds_toArray, List.set_cons_zero, List.set_cons_succ])
      (refine Heads.val (v := ?_) rfl (fun wv hwv => ?_) ?_; rotate_left; (go_simp; with_reducible rfl); simp only [Act.put, List.setIfInBounds_toArray, List.set_cons_zero, List.set_cons_succ])
      (refine Heads.val (v := ?_) rfl (fun wv hwv => ?_) ?_; rotate_left; (go_simp; with_reducible rfl); simp only [Act.put, List.setIfInBounds_toArray, List.set_cons_zero, List.set_cons_succ])
      (refine Heads.val (v := ?_) rfl (fun wv hwv => ?_) ?_; rotate_left; (go_simp; with_reducible rfl); simp only [Act.put, List.setIfInBounds_toArray, List.set_cons_zero, List.set_cons_succ])
      refine Heads.nil ?_
      intro wa hwa
      go_wp2_with fail
      refine (n_help _ _ _ _ (by omega) hw (by omega)).mono ?_
      rintro e wb ⟨rfl, hhb, xb⟩
      have hxb := hwa.trans xb
      have HBb := Lib.hid (hxb.keep HB9.out)
      have hubb := hub9.extR hxb
      have z1 := hub9.size
      have z2 := hwa.size
      have hbl9 := lt_of_heap HB9.out
      have nhb : wa.heap.size ≠ b := by omega
      have hhW : W.heap.size ≤ wa.heap.size := by omega
      have hhl := lt_of_heap hhb.blk
      generalize wa.heap.size = ph at *
      have c_HBb_wb := fun w' o (k : Ext wb w') => k.cellOf HBb.out o
      have f_HBb_wb := fun w' o (k : Ext wb w') => frozen_of (k.keep HBb.out) o
      have r_HBb_wb := Ext.refl wb
      clear c_HB9_w9 f_HB9_w9
      go_wp2
      go_ret
      unfold DropRes
      rw [HI.out]
      refine ⟨rfl, (h9.ext hxb).keep1 ((((Upd.refl [b] _)).set1 _ _).set1 _ _) hb, hubb.trans (((((Upd.refl [b] _)).set1 _ _).set1 _ _).own1 hbF), ph :: F, ⟨⟨.pointer (some ⟨ph, 0, none⟩), G, (heap_set (heap_set HBb.out _ _) _ _).trans (by simp), fun _ => ⟨ph, by simp, nhb, rfl, hhb.keep ((((Upd.refl [b] _)).set1 _ _).set1 _ _) (by simpa using nhb)⟩, fun q => ?_⟩, by simp [hbF], ?_, ?_, hn, hw, hsl, hgn, ⟨hxr.2.2.1, hxr.2.2.2.1⟩, by simp⟩, ?_⟩
      · simp at q
      · intro y hy
        rcases List.mem_cons.1 hy with rfl | hy
        · intro hm; have := hlt _ hm; omega
        · exact hout y hy
      · intro y hy
        rcases List.mem_cons.1 hy with rfl | hy
        · simpa using hhl
        · have := hF9 y hy; have := hxb.size; simp; omega
      · intro y hy
        rcases List.mem_cons.1 hy with rfl | hy
        · exact Or.inr hhW
        · exact Or.inl hy
    · have s1 : ((Fl.slotOf d.w).state == 4) = false := by simpa using s0
      have HI := Lib.hid (HF.out.trans (if_neg s0))
      clear HF
      go_wp2
      go_ret
      unfold DropRes
      rw [HI.out]
      refine ⟨rfl, h9, hub9, F, ⟨⟨H, G, HB9.out, fun q => ?_, fun q => ?_⟩, hbF, hout, hF9, hn, hw, hsl, hgn, ⟨hxr.2.2.1, hxr.2.2.2.1⟩, by simp⟩, fun x hx => Or.inl hx⟩
      · simp at q
      · simp at q
  · have o1 : (k.own == d.own) = false := by simpa using o0
    have HF := Lib.hid (HE.out.trans (if_pos o0))
    clear HE
    go_wp2_with fail
    have HD7 : DropAt w7 l F b d := ⟨⟨H, G, by rw [HP0.out]; exact HB7.out, fun q => by simp only [HP0.out] at q; omega, fun q => by simp only [HP0.out] at q; omega⟩, hbF, hout, hF7, hn, hw, hsl, hgn, hsz, hpc⟩
    refine (d_inv c l σ' who F b _ w7 h7 HD7).mono ?_
    rintro e w8 ⟨rfl, h8, hd8, u8⟩
    go_wp2
    go_ret
    unfold DropRes
    rw [HF.out]
    exact ⟨rfl, h8, hub7.trans (u8.own1 hbF), F, hd8, fun x hx => Or.inl hx⟩

set_option maxHeartbeats 2000000 in
set_option maxRecDepth 100000 in
theorem d_step3 (c : Fl.Cfg) (l : Loc) (σ : Fl.Mem) (who : Int) (F : List Nat) (b : Nat) (d : Fl.Drop) (W : World) (gc : GoodC c) (h : MemAt W l σ) (hs : 0 ≤ σ.steps ∧ σ.steps < 4611686018427387904)
    (hd : DropAt W l F b d) (p0 : d.pc = 3) :
    Calls Try.prog 32 #[.pointer (some ⟨b, 0, none⟩), .agg #[.int .i64 c.threads, .int .i64 c.slots, .int .i64 c.chunks, .int .i64 c.words, .int .i64 c.gens, .int .i64 c.sparse, .int .i64 c.tries, .pointer (some ⟨l.m, 0, none⟩), .int .i64 who]] W (DropRes (.bool (d.step c who σ).1) c who σ d l F b W) := by
  have HA := Lib.hid (drop3 c who σ d p0)
  have hd' := hd
  have HP0 := Lib.hid p0
  obtain ⟨⟨H, G, hB, hH, hG⟩, hbF, hout, hFl, hn, hw, hsl, hgn, hsz, hpc⟩ := hd
  have hb := hout b hbF
  have hlt := h.lt
  have hbl := lt_of_heap hB
  have hE := heap_new W (.cells #[.int .i64 c.threads, .int .i64 c.slots, .int .i64 c.chunks, .int .i64 c.words, .int .i64 c.gens, .int .i64 c.sparse, .int .i64 c.tries, .pointer (some ⟨l.m, 0, none⟩), .int .i64 who] 27)
  have hX := (Ext.refl W).alloc (.cells #[.int .i64 c.threads, .int .i64 c.slots, .int .i64 c.chunks, .int .i64 c.words, .int .i64 c.gens, .int .i64 c.sparse, .int .i64 c.tries, .pointer (some ⟨l.m, 0, none⟩), .int .i64 who] 27)
  have hsE := lt_of_heap hE
  rw [p0] at hB
  have HB1 := Lib.hid (hX.keep hB)
  have c0 := fun w' o (k : Ext W w') => k.cellOf hB o
  have HPG := Lib.hid (And.intro hH hG)
  clear hB hH hG
  obtain ⟨ph, hpF, hpb, rfl, hph⟩ := HPG.out.1 (Or.inl HP0.out)
  go_enter Try.func32, Try.ntmps32
  go_wp2_with fail
  generalize W.alloc (.cells #[.int .i64 c.threads, .int .i64 c.slots, .int .i64 c.chunks, .int .i64 c.words, .int .i64 c.gens, .int .i64 c.sparse, .int .i64 c.tries, .pointer (some ⟨l.m, 0, none⟩), .int .i64 who] 27) = w1 at *
  have cE := fun w' o (k : Ext w1 w') => k.cellOf hE o
  have cb1 := fun w' o (k : Ext w1 w') => c0 w' o (hX.trans k)
  have r1 := Ext.refl w1
  have c_HB1_w1 := fun w' o (k : Ext w1 w') => k.cellOf HB1.out o
  have f_HB1_w1 := fun w' o (k : Ext w1 w') => frozen_of (k.keep HB1.out) o
  have r_HB1_w1 := Ext.refl w1
  refine wp_region_plan (Ext w1) [] [0, 1, 2, 3, 4, 5, 6, 7] 8 [] Try.mixed (by kernel_rfl) (by intro c a d v w h; cases d <;> exact h) (Ext.refl _).drew ?_
  simp only [opsAt, List.filterMap_cons, List.filterMap_nil, List.getElem?_toArray, List.getElem?_cons_zero, List.getElem?_cons_succ]
  refine Firsts.nil ?_
  (refine Heads.val (v := ?_) rfl (fun wv hwv => ?_) ?_; rotate_left; (go_simp; with_reducible rfl); simp only [Act.put, List.setIfInBounds_toArray, List.set_cons_zero, List.set_cons_succ])
  (refine Heads.val (v := ?_) rfl (fun wv hwv => ?_) ?_; rotate_left; (go_simp; with_reducible rfl); simp only [Act.put, List.setIfInBounds_toArray, List.set_cons_zero, List.set_cons_succ])
  (refine Heads.val (v := ?_) rfl (fun wv hwv => ?_) ?_; rotate_left; (go_simp; with_reducible rfl); simp only [Act.put, List.setIfInBounds_toArray, List.set_cons_zero, List.set_cons_succ])
  (refine Heads.val (v := ?_) rfl (fun wv hwv => ?_) ?_; rotate_left; (go_simp; with_reducible rfl); simp only [Act.put, List.setIfInBounds_toArray, List.set_cons_zero, List.set_cons_succ])
  (refine Heads.val (v := ?_) rfl (fun wv hwv => ?_) ?_; rotate_left; (go_simp; with_reducible rfl); simp only [Act.put, List.setIfInBounds_toArray, List.set_cons_zero, List.set_cons_succ])
  (refine Heads.val (v := ?_) rfl (fun wv hwv => ?_) ?_; rotate_left; (go_simp; with_reducible rfl); simp only [Act.put, List.setIfInBounds_toArray, List.set_cons_zero, List.set_cons_succ])
  (refine Heads.val (v := ?_) rfl (fun wv hwv => ?_) ?_; rotate_left; (go_simp; with_reducible rfl); simp only [Act.put, List.setIfInBounds_toArray, List.set_cons_zero, List.set_cons_succ])
  (refine Heads.call (v := ?_) rfl (fun wv hwv => ?_) ?_; rotate_left; (go_simp; simp only [GivesUpon.enter]; refine (c_pSlot c _ _ gc (by omega)).mono ?_; rintro e w' ⟨rfl, hh⟩; refine ⟨?_, hwv.trans hh⟩; with_reducible rfl); simp only [Act.put, List.setIfInBounds_toArray, List.set_cons_zero, List.set_cons_succ])
  refine Heads.nil ?_
  intro w2 hw2
  have HB2 := Lib.hid (hw2.keep HB1.out)
  have E2 := hw2.keep hE
  have c_HB2_w2 := fun w' o (k : Ext w2 w') => k.cellOf HB2.out o
  have f_HB2_w2 := fun w' o (k : Ext w2 w') => frozen_of (k.keep HB2.out) o
  have r_HB2_w2 := Ext.refl w2
  have cE2 := fun w' o (k : Ext w2 w') => k.cellOf E2 o
  clear c0 cb1 cE c_HB1_w1 f_HB1_w1
  go_wp2_with fail
  refine wp_region_plan (Ext w2) [] [0, 1, 2, 3, 4] 5 [] Try.mixed (by kernel_rfl) (by intro c a d v w h; cases d <;> exact h) (Ext.refl _).drew ?_
  simp only [opsAt, List.filterMap_cons, List.filterMap_nil, List.getElem?_toArray, List.getElem?_cons_zero, List.getElem?_cons_succ]
  refine Firsts.nil ?_
  (refine Heads.val (v := ?_) rfl (fun wv hwv => ?_) ?_; rotate_left; (go_simp; with_reducible rfl); simp only [Act.put, List.setIfInBounds_toArray, List.set_cons_zero, List.set_cons_succ])
  (refine Heads.val (v := ?_) rfl (fun wv hwv => ?_) ?_; rotate_left; (go_simp; with_reducible rfl); simp only [Act.put, List.setIfInBounds_toArray, List.set_cons_zero, List.set_cons_succ])
  (refine Heads.val (v := ?_) rfl (fun wv hwv => ?_) ?_; rotate_left; (go_simp; with_reducible rfl); simp only [Act.put, List.setIfInBounds_toArray, List.set_cons_zero, List.set_cons_succ])
  (refine Heads.val (v := ?_) rfl (fun wv hwv => ?_) ?_; rotate_left; (go_simp; with_reducible rfl); simp only [Act.put, List.setIfInBounds_toArray, List.set_cons_zero, List.set_cons_succ])
  (refine Heads.val (v := ?_) rfl (fun wv hwv => ?_) ?_; rotate_left; (go_simp; with_reducible rfl); simp only [Act.put, List.setIfInBounds_toArray, List.set_cons_zero, List.set_cons_succ])
  refine Heads.nil ?_
  intro w3 hw3
  go_wp2_with fail
  have hx3 := hX.trans (hw2.trans hw3)
  refine (h_step c l σ who ph d.help _ gc (h.ext hx3) hs (hph.keep (hx3.upd []) (by simp)) (hout ph hpF)).mono ?_
  rintro e w4 ⟨rfl, h4, hp4, u4⟩
  generalize hst : d.help.step c who σ = st at *
  obtain ⟨y, q, σ'⟩ := st
  simp only at h4 hp4
  have HE := Lib.hid (HA.out y q σ' rfl)
  have hbp : b ∉ ph :: l.all := by
    intro hm
    rcases List.mem_cons.1 hm with hm | hm
    · exact hpb hm.symm
    · exact hb hm
  have HB4 := Lib.hid (u4.keep (hw3.keep HB2.out) hbp)
  have hpl4 := hFl ph hpF
  have E4 := u4.keep (hw3.keep E2) (by
    intro hm
    rcases List.mem_cons.1 hm with hm | hm
    · omega
    · have := hlt _ hm; omega)
  have hub : Upd (F ++ l.all) W w4 := (hx3.upd _).trans (u4.own hpF)
  have hF4 : ∀ x, x ∈ F → x < w4.heap.size := fun x hx => by have := hFl x hx; have := hub.size; omega
  have c_HB4_w4 := fun w' o (k : Ext w4 w') => k.cellOf HB4.out o
  have f_HB4_w4 := fun w' o (k : Ext w4 w') => frozen_of (k.keep HB4.out) o
  have r_HB4_w4 := Ext.refl w4
  have cE4 := fun w' o (k : Ext w4 w') => k.cellOf E4 o
  clear c_HB2_w2 f_HB2_w2 cE2 HA hst
  cases y
  · have HF := Lib.hid (HE.out.trans (if_neg (by decide)))
    clear HE
    go_wp2
    go_ret
    unfold DropRes
    rw [HF.out]
    refine ⟨rfl, h4, hub, F, ⟨⟨_, G, by rw [HP0.out]; exact HB4.out, fun q => ⟨ph, hpF, hpb, rfl, hp4⟩, fun q => ?_⟩, hbF, hout, hF4, hn, hw, hsl, hgn, hsz, hpc⟩, fun x hx => Or.inl hx⟩
    · simp only [HP0.out] at q; omega
  · have HF := Lib.hid (HE.out.trans (if_pos rfl))
    clear HE
    go_wp2_with fail
    refine (c_when l σ' _ _ h4).mono ?_
    rintro e w5 ⟨rfl, x5⟩
    have HB5 := Lib.hid (x5.keep HB4.out)
    have c_HB5_w5 := fun w' o (k : Ext w5 w') => k.cellOf HB5.out o
    have f_HB5_w5 := fun w' o (k : Ext w5 w') => frozen_of (k.keep HB5.out) o
    have r_HB5_w5 := Ext.refl w5
    clear c_HB4_w4 f_HB4_w4 cE4
    go_wp2
    go_ret
    unfold DropRes
    rw [HF.out]
    refine ⟨rfl, (h4.ext x5).keep1 (((((((Upd.refl [b] _)).set1 _ _).set1 _ _).set1 _ _).set1 _ _).set1 _ _) hb, (hub.extR x5).trans ((((((((Upd.refl [b] _)).set1 _ _).set1 _ _).set1 _ _).set1 _ _).set1 _ _).own1 hbF), F, ⟨⟨.pointer (some ⟨ph, 0, none⟩), G, (heap_set (heap_set (heap_set (heap_set (heap_set HB5.out _ _) _ _) _ _) _ _) _ _).trans (by simp), fun q => ?_, fun q => ?_⟩, hbF, hout, fun x hx => by have := hF4 x hx; have := x5.size; simp; omega, hn, hw, hsl, hgn, hsz, by simp⟩, fun x hx => Or.inl hx⟩
    · simp at q
    · simp at q

set_option maxHeartbeats 2000000 in
set_option maxRecDepth 100000 in
theorem d_step4 (c : Fl.Cfg) (l : Loc) (σ : Fl.Mem) (who : Int) (F : List Nat) (b : Nat) (d : Fl.Drop) (W : World) (gc : GoodC c) (h : MemAt W l σ) (hs : 0 ≤ σ.steps ∧ σ.steps < 4611686018427387904)
    (hd : DropAt W l F b d) (p0 : d.pc = 4) :
    Calls Try.prog 32 #[.pointer (some ⟨b, 0, none⟩), .agg #[.int .i64 c.threads, .int .i64 c.slots, .int .i64 c.chunks, .int .i64 c.words, .int .i64 c.gens, .int .i64 c.sparse, .int .i64 c.tries, .pointer (some ⟨l.m, 0, none⟩), .int .i64 who]] W (DropRes (.bool (d.step c who σ).1) c who σ d l F b W) := by
  have HA := Lib.hid (drop4 c who σ d p0)
  have hd' := hd
  have HP0 := Lib.hid p0
  obtain ⟨⟨H, G, hB, hH, hG⟩, hbF, hout, hFl, hn, hw, hsl, hgn, hsz, hpc⟩ := hd
  have hb := hout b hbF
  have hlt := h.lt
  have hbl := lt_of_heap hB
  have hE := heap_new W (.cells #[.int .i64 c.threads, .int .i64 c.slots, .int .i64 c.chunks, .int .i64 c.words, .int .i64 c.gens, .int .i64 c.sparse, .int .i64 c.tries, .pointer (some ⟨l.m, 0, none⟩), .int .i64 who] 27)
  have hX := (Ext.refl W).alloc (.cells #[.int .i64 c.threads, .int .i64 c.slots, .int .i64 c.chunks, .int .i64 c.words, .int .i64 c.gens, .int .i64 c.sparse, .int .i64 c.tries, .pointer (some ⟨l.m, 0, none⟩), .int .i64 who] 27)
  have hsE := lt_of_heap hE
  rw [p0] at hB
  have HB1 := Lib.hid (hX.keep hB)
  have c0 := fun w' o (k : Ext W w') => k.cellOf hB o
  have HPG := Lib.hid (And.intro hH hG)
  clear hB hH hG
  obtain ⟨ph, hpF, hpb, rfl, hph⟩ := HPG.out.1 (Or.inr HP0.out)
  go_enter Try.func32, Try.ntmps32
  go_wp2_with fail
  generalize W.alloc (.cells #[.int .i64 c.threads, .int .i64 c.slots, .int .i64 c.chunks, .int .i64 c.words, .int .i64 c.gens, .int .i64 c.sparse, .int .i64 c.tries, .pointer (some ⟨l.m, 0, none⟩), .int .i64 who] 27) = w1 at *
  have cE := fun w' o (k : Ext w1 w') => k.cellOf hE o
  have cb1 := fun w' o (k : Ext w1 w') => c0 w' o (hX.trans k)
  have r1 := Ext.refl w1
  have c_HB1_w1 := fun w' o (k : Ext w1 w') => k.cellOf HB1.out o
  have f_HB1_w1 := fun w' o (k : Ext w1 w') => frozen_of (k.keep HB1.out) o
  have r_HB1_w1 := Ext.refl w1
  refine wp_region_plan (Ext w1) [] [0, 1, 2, 3, 4, 5, 6, 7] 8 [] Try.mixed (by kernel_rfl) (by intro c a d v w h; cases d <;> exact h) (Ext.refl _).drew ?_
  simp only [opsAt, List.filterMap_cons, List.filterMap_nil, List.getElem?_toArray, List.getElem?_cons_zero, List.getElem?_cons_succ]
  refine Firsts.nil ?_
  (refine Heads.val (v := ?_) rfl (fun wv hwv => ?_) ?_; rotate_left; (go_simp; with_reducible rfl); simp only [Act.put, List.setIfInBounds_toArray, List.set_cons_zero, List.set_cons_succ])
  (refine Heads.val (v := ?_) rfl (fun wv hwv => ?_) ?_; rotate_left; (go_simp; with_reducible rfl); simp only [Act.put, List.setIfInBounds_toArray, List.set_cons_zero, List.set_cons_succ])
  (refine Heads.val (v := ?_) rfl (fun wv hwv => ?_) ?_; rotate_left; (go_simp; with_reducible rfl); simp only [Act.put, List.setIfInBounds_toArray, List.set_cons_zero, List.set_cons_succ])
  (refine Heads.val (v := ?_) rfl (fun wv hwv => ?_) ?_; rotate_left; (go_simp; with_reducible rfl); simp only [Act.put, List.setIfInBounds_toArray, List.set_cons_zero, List.set_cons_succ])
  (refine Heads.val (v := ?_) rfl (fun wv hwv => ?_) ?_; rotate_left; (go_simp; with_reducible rfl); simp only [Act.put, List.setIfInBounds_toArray, List.set_cons_zero, List.set_cons_succ])
  (refine Heads.val (v := ?_) rfl (fun wv hwv => ?_) ?_; rotate_left; (go_simp; with_reducible rfl); simp only [Act.put, List.setIfInBounds_toArray, List.set_cons_zero, List.set_cons_succ])
  (refine Heads.val (v := ?_) rfl (fun wv hwv => ?_) ?_; rotate_left; (go_simp; with_reducible rfl); simp only [Act.put, List.setIfInBounds_toArray, List.set_cons_zero, List.set_cons_succ])
  (refine Heads.call (v := ?_) rfl (fun wv hwv => ?_) ?_; rotate_left; (go_simp; simp only [GivesUpon.enter]; refine (c_pSlot c _ _ gc (by omega)).mono ?_; rintro e w' ⟨rfl, hh⟩; refine ⟨?_, hwv.trans hh⟩; with_reducible rfl); simp only [Act.put, List.setIfInBounds_toArray, List.set_cons_zero, List.set_cons_succ])
  refine Heads.nil ?_
  intro w2 hw2
  have HB2 := Lib.hid (hw2.keep HB1.out)
  have E2 := hw2.keep hE
  have c_HB2_w2 := fun w' o (k : Ext w2 w') => k.cellOf HB2.out o
  have f_HB2_w2 := fun w' o (k : Ext w2 w') => frozen_of (k.keep HB2.out) o
  have r_HB2_w2 := Ext.refl w2
  have cE2 := fun w' o (k : Ext w2 w') => k.cellOf E2 o
  clear c0 cb1 cE c_HB1_w1 f_HB1_w1
  go_wp2_with fail
  refine wp_region_plan (Ext w2) [] [0, 1, 2, 3, 4] 5 [] Try.mixed (by kernel_rfl) (by intro c a d v w h; cases d <;> exact h) (Ext.refl _).drew ?_
  simp only [opsAt, List.filterMap_cons, List.filterMap_nil, List.getElem?_toArray, List.getElem?_cons_zero, List.getElem?_cons_succ]
  refine Firsts.nil ?_
  (refine Heads.val (v := ?_) rfl (fun wv hwv => ?_) ?_; rotate_left; (go_simp; with_reducible rfl); simp only [Act.put, List.setIfInBounds_toArray, List.set_cons_zero, List.set_cons_succ])
  (refine Heads.val (v := ?_) rfl (fun wv hwv => ?_) ?_; rotate_left; (go_simp; with_reducible rfl); simp only [Act.put, List.setIfInBounds_toArray, List.set_cons_zero, List.set_cons_succ])
  (refine Heads.val (v := ?_) rfl (fun wv hwv => ?_) ?_; rotate_left; (go_simp; with_reducible rfl); simp only [Act.put, List.setIfInBounds_toArray, List.set_cons_zero, List.set_cons_succ])
  (refine Heads.val (v := ?_) rfl (fun wv hwv => ?_) ?_; rotate_left; (go_simp; with_reducible rfl); simp only [Act.put, List.setIfInBounds_toArray, List.set_cons_zero, List.set_cons_succ])
  (refine Heads.val (v := ?_) rfl (fun wv hwv => ?_) ?_; rotate_left; (go_simp; with_reducible rfl); simp only [Act.put, List.setIfInBounds_toArray, List.set_cons_zero, List.set_cons_succ])
  refine Heads.nil ?_
  intro w3 hw3
  go_wp2_with fail
  have hx3 := hX.trans (hw2.trans hw3)
  refine (h_step c l σ who ph d.help _ gc (h.ext hx3) hs (hph.keep (hx3.upd []) (by simp)) (hout ph hpF)).mono ?_
  rintro e w4 ⟨rfl, h4, hp4, u4⟩
  generalize hst : d.help.step c who σ = st at *
  obtain ⟨y, q, σ'⟩ := st
  simp only at h4 hp4
  have HE := Lib.hid (HA.out y q σ' rfl)
  have hbp : b ∉ ph :: l.all := by
    intro hm
    rcases List.mem_cons.1 hm with hm | hm
    · exact hpb hm.symm
    · exact hb hm
  have HB4 := Lib.hid (u4.keep (hw3.keep HB2.out) hbp)
  have hpl4 := hFl ph hpF
  have E4 := u4.keep (hw3.keep E2) (by
    intro hm
    rcases List.mem_cons.1 hm with hm | hm
    · omega
    · have := hlt _ hm; omega)
  have hub : Upd (F ++ l.all) W w4 := (hx3.upd _).trans (u4.own hpF)
  have hF4 : ∀ x, x ∈ F → x < w4.heap.size := fun x hx => by have := hFl x hx; have := hub.size; omega
  have c_HB4_w4 := fun w' o (k : Ext w4 w') => k.cellOf HB4.out o
  have f_HB4_w4 := fun w' o (k : Ext w4 w') => frozen_of (k.keep HB4.out) o
  have r_HB4_w4 := Ext.refl w4
  have cE4 := fun w' o (k : Ext w4 w') => k.cellOf E4 o
  clear c_HB2_w2 f_HB2_w2 cE2 HA hst
  cases y
  · have HF := Lib.hid (HE.out.trans (if_neg (by decide)))
    clear HE
    go_wp2
    go_ret
    unfold DropRes
    rw [HF.out]
    refine ⟨rfl, h4, hub, F, ⟨⟨_, G, by rw [HP0.out]; exact HB4.out, fun q => ⟨ph, hpF, hpb, rfl, hp4⟩, fun q => ?_⟩, hbF, hout, hF4, hn, hw, hsl, hgn, hsz, hpc⟩, fun x hx => Or.inl hx⟩
    · simp only [HP0.out] at q; omega
  · have HF := Lib.hid (HE.out.trans (if_pos rfl))
    clear HE
    go_wp2
    go_ret
    unfold DropRes
    rw [HF.out]
    refine ⟨rfl, h4.keep1 (((Upd.refl [b] _)).set1 _ _) hb, hub.trans ((((Upd.refl [b] _)).set1 _ _).own1 hbF), F, ⟨⟨.pointer (some ⟨ph, 0, none⟩), G, (heap_set HB4.out _ _).trans (by simp), fun q => ?_, fun q => ?_⟩, hbF, hout, fun x hx => by have := hF4 x hx; simp; omega, hn, hw, hsl, hgn, hsz, by simp⟩, fun x hx => Or.inl hx⟩
    · simp at q
    · simp at q

theorem pOf_range {c : Fl.Cfg} (g : GoodC c) {a : Int} (h0 : 0 ≤ a) (h1 : a ≤ 1048575) : -1 ≤ Fl.pOf c a ∧ Fl.pOf c a ≤ 1048575 := by
  have hb := pBase_range g (k := 0) (by decide) (by decide)
  obtain ⟨v1, v2⟩ := g.words
  unfold Fl.pOf
  split
  · omega
  · rename_i hc
    have hc' : 0 ≤ a - Fl.pBase c 0 := by omega
    refine ⟨by have := Int.ediv_nonneg hc' (show 0 ≤ c.words by omega); omega, ?_⟩
    have h2 := Int.ediv_le_self c.words hc'
    omega

set_option maxHeartbeats 2000000 in
set_option maxRecDepth 100000 in
theorem d_step5 (c : Fl.Cfg) (l : Loc) (σ : Fl.Mem) (who : Int) (F : List Nat) (b : Nat) (d : Fl.Drop) (W : World) (gc : GoodC c) (h : MemAt W l σ) (hs : 0 ≤ σ.steps ∧ σ.steps < 4611686018427387904)
    (hd : DropAt W l F b d) (p0 : d.pc = 5) :
    Calls Try.prog 32 #[.pointer (some ⟨b, 0, none⟩), .agg #[.int .i64 c.threads, .int .i64 c.slots, .int .i64 c.chunks, .int .i64 c.words, .int .i64 c.gens, .int .i64 c.sparse, .int .i64 c.tries, .pointer (some ⟨l.m, 0, none⟩), .int .i64 who]] W (DropRes (.bool (d.step c who σ).1) c who σ d l F b W) := by
  have HA := Lib.hid (drop5 c who σ d p0)
  have hd' := hd
  have HP0 := Lib.hid p0
  obtain ⟨⟨H, G, hB, hH, hG⟩, hbF, hout, hFl, hn, hw, hsl, hgn, hsz, hpc⟩ := hd
  have hb := hout b hbF
  have hlt := h.lt
  have hbl := lt_of_heap hB
  have hE := heap_new W (.cells #[.int .i64 c.threads, .int .i64 c.slots, .int .i64 c.chunks, .int .i64 c.words, .int .i64 c.gens, .int .i64 c.sparse, .int .i64 c.tries, .pointer (some ⟨l.m, 0, none⟩), .int .i64 who] 27)
  have hX := (Ext.refl W).alloc (.cells #[.int .i64 c.threads, .int .i64 c.slots, .int .i64 c.chunks, .int .i64 c.words, .int .i64 c.gens, .int .i64 c.sparse, .int .i64 c.tries, .pointer (some ⟨l.m, 0, none⟩), .int .i64 who] 27)
  have hsE := lt_of_heap hE
  rw [p0] at hB
  have HB1 := Lib.hid (hX.keep hB)
  have c0 := fun w' o (k : Ext W w') => k.cellOf hB o
  have HPG := Lib.hid (And.intro hH hG)
  clear hB hH hG
  go_enter Try.func32, Try.ntmps32
  go_wp2_with fail
  generalize W.alloc (.cells #[.int .i64 c.threads, .int .i64 c.slots, .int .i64 c.chunks, .int .i64 c.words, .int .i64 c.gens, .int .i64 c.sparse, .int .i64 c.tries, .pointer (some ⟨l.m, 0, none⟩), .int .i64 who] 27) = w1 at *
  have cE := fun w' o (k : Ext w1 w') => k.cellOf hE o
  have cb1 := fun w' o (k : Ext w1 w') => c0 w' o (hX.trans k)
  have r1 := Ext.refl w1
  have c_HB1_w1 := fun w' o (k : Ext w1 w') => k.cellOf HB1.out o
  have f_HB1_w1 := fun w' o (k : Ext w1 w') => frozen_of (k.keep HB1.out) o
  have r_HB1_w1 := Ext.refl w1
  refine wp_region_plan (Ext w1) [] [0, 1, 2, 3, 4, 5, 6, 7] 8 [] Try.mixed (by kernel_rfl) (by intro c a d v w h; cases d <;> exact h) (Ext.refl _).drew ?_
  simp only [opsAt, List.filterMap_cons, List.filterMap_nil, List.getElem?_toArray, List.getElem?_cons_zero, List.getElem?_cons_succ]
  refine Firsts.nil ?_
  (refine Heads.val (v := ?_) rfl (fun wv hwv => ?_) ?_; rotate_left; (go_simp; with_reducible rfl); simp only [Act.put, List.setIfInBounds_toArray, List.set_cons_zero, List.set_cons_succ])
  (refine Heads.val (v := ?_) rfl (fun wv hwv => ?_) ?_; rotate_left; (go_simp; with_reducible rfl); simp only [Act.put, List.setIfInBounds_toArray, List.set_cons_zero, List.set_cons_succ])
  (refine Heads.val (v := ?_) rfl (fun wv hwv => ?_) ?_; rotate_left; (go_simp; with_reducible rfl); simp only [Act.put, List.setIfInBounds_toArray, List.set_cons_zero, List.set_cons_succ])
  (refine Heads.val (v := ?_) rfl (fun wv hwv => ?_) ?_; rotate_left; (go_simp; with_reducible rfl); simp only [Act.put, List.setIfInBounds_toArray, List.set_cons_zero, List.set_cons_succ])
  (refine Heads.val (v := ?_) rfl (fun wv hwv => ?_) ?_; rotate_left; (go_simp; with_reducible rfl); simp only [Act.put, List.setIfInBounds_toArray, List.set_cons_zero, List.set_cons_succ])
  (refine Heads.val (v := ?_) rfl (fun wv hwv => ?_) ?_; rotate_left; (go_simp; with_reducible rfl); simp only [Act.put, List.setIfInBounds_toArray, List.set_cons_zero, List.set_cons_succ])
  (refine Heads.val (v := ?_) rfl (fun wv hwv => ?_) ?_; rotate_left; (go_simp; with_reducible rfl); simp only [Act.put, List.setIfInBounds_toArray, List.set_cons_zero, List.set_cons_succ])
  (refine Heads.call (v := ?_) rfl (fun wv hwv => ?_) ?_; rotate_left; (go_simp; simp only [GivesUpon.enter]; refine (c_pSlot c _ _ gc (by omega)).mono ?_; rintro e w' ⟨rfl, hh⟩; refine ⟨?_, hwv.trans hh⟩; with_reducible rfl); simp only [Act.put, List.setIfInBounds_toArray, List.set_cons_zero, List.set_cons_succ])
  refine Heads.nil ?_
  intro w2 hw2
  have HB2 := Lib.hid (hw2.keep HB1.out)
  have E2 := hw2.keep hE
  have c_HB2_w2 := fun w' o (k : Ext w2 w') => k.cellOf HB2.out o
  have f_HB2_w2 := fun w' o (k : Ext w2 w') => frozen_of (k.keep HB2.out) o
  have r_HB2_w2 := Ext.refl w2
  have cE2 := fun w' o (k : Ext w2 w') => k.cellOf E2 o
  clear c0 cb1 cE c_HB1_w1 f_HB1_w1
  obtain ⟨r1, r2, r3, r4, r5, r6, r7, r8⟩ := Fl.slotOf_range d.w
  obtain ⟨o1, o2⟩ := pOf_range gc r3 r4
  obtain ⟨q1, q2⟩ := pChunk_range gc (k := Fl.pOf c (Fl.slotOf d.w).addr) (by omega) (by omega)
  have hcr := Fl.cls_range d.size
  have hrm := Fl.room_range hcr.2
  have fl1 := field_slot1
  go_wp2_with fail
  refine wp_region_plan (Ext w2) [] [0, 1, 2, 3, 4, 5, 6, 7, 8] 9 [] Try.mixed (by kernel_rfl) (by intro c a d v w h; cases d <;> exact h) (Ext.refl _).drew ?_
  simp only [opsAt, List.filterMap_cons, List.filterMap_nil, List.getElem?_toArray, List.getElem?_cons_zero, List.getElem?_cons_succ]
  refine Firsts.nil ?_
  (refine Heads.val (v := ?_) rfl (fun wv hwv => ?_) ?_; rotate_left; (go_simp; with_reducible rfl); simp only [Act.put, List.setIfInBounds_toArray, List.set_cons_zero, List.set_cons_succ])
  (refine Heads.val (v := ?_) rfl (fun wv hwv => ?_) ?_; rotate_left; (go_simp; with_reducible rfl); simp only [Act.put, List.setIfInBounds_toArray, List.set_cons_zero, List.set_cons_succ])
  (refine Heads.val (v := ?_) rfl (fun wv hwv => ?_) ?_; rotate_left; (go_simp; with_reducible rfl); simp only [Act.put, List.setIfInBounds_toArray, List.set_cons_zero, List.set_cons_succ])
  (refine Heads.val (v := ?_) rfl (fun wv hwv => ?_) ?_; rotate_left; (go_simp; with_reducible rfl); simp only [Act.put, List.setIfInBounds_toArray, List.set_cons_zero, List.set_cons_succ])
  (refine Heads.val (v := ?_) rfl (fun wv hwv => ?_) ?_; rotate_left; (go_simp; with_reducible rfl); simp only [Act.put, List.setIfInBounds_toArray, List.set_cons_zero, List.set_cons_succ])
  (refine Heads.val (v := ?_) rfl (fun wv hwv => ?_) ?_; rotate_left; (go_simp; with_reducible rfl); simp only [Act.put, List.setIfInBounds_toArray, List.set_cons_zero, List.set_cons_succ])
  (refine Heads.call (v := ?_) rfl (fun wv hwv => ?_) ?_; rotate_left; (go_simp; simp only [GivesUpon.enter]; refine (c_slot _ _ hw).mono ?_; rintro e w' ⟨rfl, hh⟩; refine ⟨?_, hwv.trans hh⟩; with_reducible rfl); simp only [Act.put, List.setIfInBounds_toArray, List.set_cons_zero, List.set_cons_succ])
  (refine Heads.val (v := ?_) rfl (fun wv hwv => ?_) ?_; rotate_left; (go_simp; with_reducible rfl); simp only [Act.put, List.setIfInBounds_toArray, List.set_cons_zero, List.set_cons_succ])
  (refine Heads.call (v := ?_) rfl (fun wv hwv => ?_) ?_; rotate_left; (go_simp; simp only [GivesUpon.enter]; refine (c_pOf c _ _ gc (by omega)).mono ?_; rintro e w' ⟨rfl, hh⟩; refine ⟨?_, hwv.trans hh⟩; with_reducible rfl); simp only [Act.put, List.setIfInBounds_toArray, List.set_cons_zero, List.set_cons_succ])
  refine Heads.nil ?_
  intro w3 hw3
  go_wp2_with fail
  have HB3 := Lib.hid (hw3.keep HB2.out)
  have E3 := hw3.keep E2
  have c_HB3_w3 := fun w' o (k : Ext w3 w') => k.cellOf HB3.out o
  have f_HB3_w3 := fun w' o (k : Ext w3 w') => frozen_of (k.keep HB3.out) o
  have r_HB3_w3 := Ext.refl w3
  have cE3 := fun w' o (k : Ext w3 w') => k.cellOf E3 o
  clear c_HB2_w2 f_HB2_w2 cE2
  obtain ⟨ew, ev⟩ : IntKind.i64.wrap (Fl.pChunk c (Fl.pOf c (Fl.slotOf d.w).addr) + 1) = Fl.pChunk c (Fl.pOf c (Fl.slotOf d.w).addr) + 1 ∧ IntKind.i64.wrap (-(Fl.room (Fl.cls d.size))) = -(Fl.room (Fl.cls d.size)) := ⟨IntWalk.i64_in _ (by omega), IntWalk.i64_in _ (by omega)⟩
  refine wp_region_plan (Ext w3) [] [0, 1, 2, 3, 4, 5, 6, 7, 8, 9, 10, 11, 12] 13 [] Try.mixed (by kernel_rfl) (by intro c a d v w h; cases d <;> exact h) (Ext.refl _).drew ?_
  simp only [opsAt, List.filterMap_cons, List.filterMap_nil, List.getElem?_toArray, List.getElem?_cons_zero, List.getElem?_cons_succ]
  refine Firsts.nil ?_
  (refine Heads.val (v := ?_) rfl (fun wv hwv => ?_) ?_; rotate_left; (go_simp; with_reducible rfl); simp only [Act.put, List.setIfInBounds_toArray, List.set_cons_zero, List.set_cons_succ])
  (refine Heads.val (v := ?_) rfl (fun wv hwv => ?_) ?_; rotate_left; (go_simp; with_reducible rfl); simp only [Act.put, List.setIfInBounds_toArray, List.set_cons_zero, List.set_cons_succ])
  (refine Heads.val (v := ?_) rfl (fun wv hwv => ?_) ?_; rotate_left; (go_simp; with_reducible rfl); simp only [Act.put, List.setIfInBounds_toArray, List.set_cons_zero, List.set_cons_succ])
  (refine Heads.val (v := ?_) rfl (fun wv hwv => ?_) ?_; rotate_left; (go_simp; with_reducible rfl); simp only [Act.put, List.setIfInBounds_toArray, List.set_cons_zero, List.set_cons_succ])
  (refine Heads.call (v := ?_) rfl (fun wv hwv => ?_) ?_; rotate_left; (go_simp; simp only [GivesUpon.enter]; refine (c_pChunk c _ _ gc (by omega)).mono ?_; rintro e w' ⟨rfl, hh⟩; refine ⟨?_, hwv.trans hh⟩; with_reducible rfl); simp only [Act.put, List.setIfInBounds_toArray, List.set_cons_zero, List.set_cons_succ])
  (refine Heads.val (v := ?_) rfl (fun wv hwv => ?_) ?_; rotate_left; (go_simp; with_reducible rfl); simp only [Act.put, List.setIfInBounds_toArray, List.set_cons_zero, List.set_cons_succ])
  (refine Heads.val (v := ?_) rfl (fun wv hwv => ?_) ?_; rotate_left; (go_simp; with_reducible rfl); simp only [Act.put, List.setIfInBounds_toArray, List.set_cons_zero, List.set_cons_succ])
  (refine Heads.val (v := ?_) rfl (fun wv hwv => ?_) ?_; rotate_left; (go_simp; with_reducible rfl); simp only [Act.put, List.setIfInBounds_toArray, List.set_cons_zero, List.set_cons_succ])
  (refine Heads.val (v := ?_) rfl (fun wv hwv => ?_) ?_; rotate_left; (go_simp; with_reducible rfl); simp only [Act.put, List.setIfInBounds_toArray, List.set_cons_zero, List.set_cons_succ])
  (refine Heads.val (v := ?_) rfl (fun wv hwv => ?_) ?_; rotate_left; (go_simp; with_reducible rfl); simp only [Act.put, List.setIfInBounds_toArray, List.set_cons_zero, List.set_cons_succ])
  (refine Heads.call (v := ?_) rfl (fun wv hwv => ?_) ?_; rotate_left; (go_simp; simp only [GivesUpon.enter]; refine (c_cls _ _).mono ?_; rintro e w' ⟨rfl, hh⟩; refine ⟨?_, hwv.trans hh⟩; with_reducible rfl); simp only [Act.put, List.setIfInBounds_toArray, List.set_cons_zero, List.set_cons_succ])
  (refine Heads.call (v := ?_) rfl (fun wv hwv => ?_) ?_; rotate_left; (go_simp; simp only [GivesUpon.enter]; refine (c_room _ _ hcr).mono ?_; rintro e w' ⟨rfl, hh⟩; refine ⟨?_, hwv.trans hh⟩; with_reducible rfl); simp only [Act.put, List.setIfInBounds_toArray, List.set_cons_zero, List.set_cons_succ])
  (refine Heads.val (v := ?_) rfl (fun wv hwv => ?_) ?_; rotate_left; (go_simp; with_reducible rfl); simp only [Act.put, List.setIfInBounds_toArray, List.set_cons_zero, List.set_cons_succ])
  refine Heads.nil ?_
  intro w4 hw4
  clear ew ev
  go_wp2_with fail
  have hx4 := hX.trans (hw2.trans (hw3.trans hw4))
  refine (e_add c l σ who _ _ _ (h.ext hx4) hs).mono ?_
  rintro e w5 ⟨rfl, h5, u5⟩
  generalize σ.add who (Fl.pChunk c (Fl.pOf c (Fl.slotOf d.w).addr) + 1) (-(Fl.room (Fl.cls d.size))) = σ' at *
  have HB5 := Lib.hid (u5.keep (hw4.keep HB3.out) hb)
  have E5 := u5.keep (hw4.keep E3) (by intro hm; have := hlt _ hm; omega)
  have hub5 : Upd (F ++ l.all) W w5 := (hx4.upd _).trans u5.mem
  have c_HB5_w5 := fun w' o (k : Ext w5 w') => k.cellOf HB5.out o
  have f_HB5_w5 := fun w' o (k : Ext w5 w') => frozen_of (k.keep HB5.out) o
  have r_HB5_w5 := Ext.refl w5
  clear c_HB3_w3 f_HB3_w3 cE3
  go_wp2_with fail
  refine (n_give _ _ (by omega)).mono ?_
  rintro e w6 ⟨rfl, hg6, x6⟩
  have hsz6 := lt_of_heap hg6.blk
  have hbl5 := lt_of_heap HB5.out
  have z5 := hub5.size
  have nhb : w5.heap.size ≠ b := by omega
  have nbh : b ≠ w5.heap.size := by omega
  have neb : W.heap.size ≠ b := by omega
  have hgW : W.heap.size ≤ w5.heap.size := z5
  generalize w5.heap.size = pg at *
  have HB6 := Lib.hid (x6.keep HB5.out)
  have E6 := x6.keep E5
  have hub6 := hub5.extR x6
  have c_HB6_w6 := fun w' o (k : Ext w6 w') => k.cellOf HB6.out o
  have f_HB6_w6 := fun w' o (k : Ext w6 w') => frozen_of (k.keep HB6.out) o
  have r_HB6_w6 := Ext.refl w6
  clear c_HB5_w5 f_HB5_w5
  go_wp2_with fail
  have hg7 := hg6.keep (((Upd.refl [b] w6).set1 8 (.pointer (some ⟨pg, 0, none⟩))).set1 4 (.int .i64 6)) (by simpa using nhb)
  have h6 := h5.ext x6
  have HB7 := Lib.hid (heap_set (heap_set HB6.out 8 (.pointer (some ⟨pg, 0, none⟩))) 4 (.int .i64 6))
  have E7 := (heap_far (heap_far E6 (p := ⟨b, 8, none⟩) neb (.pointer (some ⟨pg, 0, none⟩))) (p := ⟨b, 4, none⟩) neb (.int .i64 6))
  have u7 := (((Upd.refl [b] w6).set1 8 (.pointer (some ⟨pg, 0, none⟩))).set1 4 (.int .i64 6))
  generalize (World.setCell (World.setCell w6 ⟨b, 8, none⟩ (.pointer (some ⟨pg, 0, none⟩))) ⟨b, 4, none⟩ (.int .i64 6)) = w7 at *
  simp only [List.setIfInBounds_toArray, List.set_cons_zero, List.set_cons_succ] at HB7
  have h7 := h6.keep1 u7 hb
  have hub7 := hub6.trans (u7.own1 hbF)
  have c_HB7_w7 := fun w' o (k : Ext w7 w') => k.cellOf HB7.out o
  have f_HB7_w7 := fun w' o (k : Ext w7 w') => frozen_of (k.keep HB7.out) o
  have r_HB7_w7 := Ext.refl w7
  have cE7 := fun w' o (k : Ext w7 w') => k.cellOf E7 o
  clear c_HB6_w6 f_HB6_w6
  refine wp_region_plan (Ext w7) [] [0, 1, 2, 3, 4, 5, 6, 7, 8] 9 [] Try.mixed (by kernel_rfl) (by intro c a d v w h; cases d <;> exact h) (Ext.refl _).drew ?_
  simp only [opsAt, List.filterMap_cons, List.filterMap_nil, List.getElem?_toArray, List.getElem?_cons_zero, List.getElem?_cons_succ]
  refine Firsts.nil ?_
  (refine Heads.val (v := ?_) rfl (fun wv hwv => ?_) ?_; rotate_left; (go_simp; with_reducible rfl); simp only [Act.put, List.setIfInBounds_toArray, List.set_cons_zero, List.set_cons_succ])
  (refine Heads.val (v := ?_) rfl (fun wv hwv => ?_) ?_; rotate_left; (go_simp; with_reducible rfl); simp only [Act.put, List.setIfInBounds_toArray, List.set_cons_zero, List.set_cons_succ])
  (refine Heads.val (v := ?_) rfl (fun wv hwv => ?_) ?_; rotate_left; (go_simp; with_reducible rfl); simp only [Act.put, List.setIfInBounds_toArray, List.set_cons_zero, List.set_cons_succ])
  (refine Heads.val (v := ?_) rfl (fun wv hwv => ?_) ?_; rotate_left; (go_simp; with_reducible rfl); simp only [Act.put, List.setIfInBounds_toArray, List.set_cons_zero, List.set_cons_succ])
  (refine Heads.val (v := ?_) rfl (fun wv hwv => ?_) ?_; rotate_left; (go_simp; with_reducible rfl); simp only [Act.put, List.setIfInBounds_toArray, List.set_cons_zero, List.set_cons_succ])
  (refine Heads.val (v := ?_) rfl (fun wv hwv => ?_) ?_; rotate_left; (go_simp; with_reducible rfl); simp only [Act.put, List.setIfInBounds_toArray, List.set_cons_zero, List.set_cons_succ])
  (refine Heads.val (v := ?_) rfl (fun wv hwv => ?_) ?_; rotate_left; (go_simp; with_reducible rfl); simp only [Act.put, List.setIfInBounds_toArray, List.set_cons_zero, List.set_cons_succ])
  (refine Heads.val (v := ?_) rfl (fun wv hwv => ?_) ?_; rotate_left; (go_simp; with_reducible rfl); simp only [Act.put, List.setIfInBounds_toArray, List.set_cons_zero, List.set_cons_succ])
  (refine Heads.val (v := ?_) rfl (fun wv hwv => ?_) ?_; rotate_left; (go_simp; with_reducible rfl); simp only [Act.put, List.setIfInBounds_toArray, List.set_cons_zero, List.set_cons_succ])
  refine Heads.nil ?_
  intro w8 hw8
  go_wp2
  go_ret
  unfold DropRes
  rw [HA.out]
  have hx7 := hub7.size
  have hx6 := u7.size
  refine ⟨rfl, h7.ext hw8, hub7.extR hw8, pg :: F, ⟨⟨H, .pointer (some ⟨pg, 0, none⟩), (hw8.keep HB7.out), fun q => ?_, fun _ => ⟨pg, by simp, nhb, rfl, hg7.keep (hw8.upd []) (by simp)⟩⟩, by simp [hbF], ?_, ?_, hn, hw, hsl, hgn, hsz, by simp⟩, ?_⟩
  · simp at q
  · intro y hy
    rcases List.mem_cons.1 hy with rfl | hy
    · intro hm; have := hlt _ hm; omega
    · exact hout y hy
  · intro y hy
    have := hw8.size
    rcases List.mem_cons.1 hy with rfl | hy
    · omega
    · have := hFl y hy; omega
  · intro y hy
    rcases List.mem_cons.1 hy with rfl | hy
    · exact Or.inr hgW
    · exact Or.inl hy

set_option maxHeartbeats 2000000 in
set_option maxRecDepth 100000 in
theorem d_step6 (c : Fl.Cfg) (l : Loc) (σ : Fl.Mem) (who : Int) (F : List Nat) (b : Nat) (d : Fl.Drop) (W : World) (gc : GoodC c) (h : MemAt W l σ) (hs : 0 ≤ σ.steps ∧ σ.steps < 4611686018427387904)
    (hd : DropAt W l F b d) (p0 : d.pc = 6) :
    Calls Try.prog 32 #[.pointer (some ⟨b, 0, none⟩), .agg #[.int .i64 c.threads, .int .i64 c.slots, .int .i64 c.chunks, .int .i64 c.words, .int .i64 c.gens, .int .i64 c.sparse, .int .i64 c.tries, .pointer (some ⟨l.m, 0, none⟩), .int .i64 who]] W (DropRes (.bool (d.step c who σ).1) c who σ d l F b W) := by
  have HA := Lib.hid (drop6 c who σ d p0)
  have hd' := hd
  have HP0 := Lib.hid p0
  obtain ⟨⟨H, G, hB, hH, hG⟩, hbF, hout, hFl, hn, hw, hsl, hgn, hsz, hpc⟩ := hd
  have hb := hout b hbF
  have hlt := h.lt
  have hbl := lt_of_heap hB
  have hE := heap_new W (.cells #[.int .i64 c.threads, .int .i64 c.slots, .int .i64 c.chunks, .int .i64 c.words, .int .i64 c.gens, .int .i64 c.sparse, .int .i64 c.tries, .pointer (some ⟨l.m, 0, none⟩), .int .i64 who] 27)
  have hX := (Ext.refl W).alloc (.cells #[.int .i64 c.threads, .int .i64 c.slots, .int .i64 c.chunks, .int .i64 c.words, .int .i64 c.gens, .int .i64 c.sparse, .int .i64 c.tries, .pointer (some ⟨l.m, 0, none⟩), .int .i64 who] 27)
  have hsE := lt_of_heap hE
  rw [p0] at hB
  have HB1 := Lib.hid (hX.keep hB)
  have c0 := fun w' o (k : Ext W w') => k.cellOf hB o
  have HPG := Lib.hid (And.intro hH hG)
  clear hB hH hG
  obtain ⟨pg, hpF, hpb, rfl, hpg⟩ := HPG.out.2 HP0.out
  go_enter Try.func32, Try.ntmps32
  go_wp2_with fail
  generalize W.alloc (.cells #[.int .i64 c.threads, .int .i64 c.slots, .int .i64 c.chunks, .int .i64 c.words, .int .i64 c.gens, .int .i64 c.sparse, .int .i64 c.tries, .pointer (some ⟨l.m, 0, none⟩), .int .i64 who] 27) = w1 at *
  have cE := fun w' o (k : Ext w1 w') => k.cellOf hE o
  have cb1 := fun w' o (k : Ext w1 w') => c0 w' o (hX.trans k)
  have r1 := Ext.refl w1
  have c_HB1_w1 := fun w' o (k : Ext w1 w') => k.cellOf HB1.out o
  have f_HB1_w1 := fun w' o (k : Ext w1 w') => frozen_of (k.keep HB1.out) o
  have r_HB1_w1 := Ext.refl w1
  refine wp_region_plan (Ext w1) [] [0, 1, 2, 3, 4, 5, 6, 7] 8 [] Try.mixed (by kernel_rfl) (by intro c a d v w h; cases d <;> exact h) (Ext.refl _).drew ?_
  simp only [opsAt, List.filterMap_cons, List.filterMap_nil, List.getElem?_toArray, List.getElem?_cons_zero, List.getElem?_cons_succ]
  refine Firsts.nil ?_
  (refine Heads.val (v := ?_) rfl (fun wv hwv => ?_) ?_; rotate_left; (go_simp; with_reducible rfl); simp only [Act.put, List.setIfInBounds_toArray, List.set_cons_zero, List.set_cons_succ])
  (refine Heads.val (v := ?_) rfl (fun wv hwv => ?_) ?_; rotate_left; (go_simp; with_reducible rfl); simp only [Act.put, List.setIfInBounds_toArray, List.set_cons_zero, List.set_cons_succ])
  (refine Heads.val (v := ?_) rfl (fun wv hwv => ?_) ?_; rotate_left; (go_simp; with_reducible rfl); simp only [Act.put, List.setIfInBounds_toArray, List.set_cons_zero, List.set_cons_succ])
  (refine Heads.val (v := ?_) rfl (fun wv hwv => ?_) ?_; rotate_left; (go_simp; with_reducible rfl); simp only [Act.put, List.setIfInBounds_toArray, List.set_cons_zero, List.set_cons_succ])
  (refine Heads.val (v := ?_) rfl (fun wv hwv => ?_) ?_; rotate_left; (go_simp; with_reducible rfl); simp only [Act.put, List.setIfInBounds_toArray, List.set_cons_zero, List.set_cons_succ])
  (refine Heads.val (v := ?_) rfl (fun wv hwv => ?_) ?_; rotate_left; (go_simp; with_reducible rfl); simp only [Act.put, List.setIfInBounds_toArray, List.set_cons_zero, List.set_cons_succ])
  (refine Heads.val (v := ?_) rfl (fun wv hwv => ?_) ?_; rotate_left; (go_simp; with_reducible rfl); simp only [Act.put, List.setIfInBounds_toArray, List.set_cons_zero, List.set_cons_succ])
  (refine Heads.call (v := ?_) rfl (fun wv hwv => ?_) ?_; rotate_left; (go_simp; simp only [GivesUpon.enter]; refine (c_pSlot c _ _ gc (by omega)).mono ?_; rintro e w' ⟨rfl, hh⟩; refine ⟨?_, hwv.trans hh⟩; with_reducible rfl); simp only [Act.put, List.setIfInBounds_toArray, List.set_cons_zero, List.set_cons_succ])
  refine Heads.nil ?_
  intro w2 hw2
  have HB2 := Lib.hid (hw2.keep HB1.out)
  have E2 := hw2.keep hE
  have c_HB2_w2 := fun w' o (k : Ext w2 w') => k.cellOf HB2.out o
  have f_HB2_w2 := fun w' o (k : Ext w2 w') => frozen_of (k.keep HB2.out) o
  have r_HB2_w2 := Ext.refl w2
  have cE2 := fun w' o (k : Ext w2 w') => k.cellOf E2 o
  clear c0 cb1 cE c_HB1_w1 f_HB1_w1
  go_wp2_with fail
  refine wp_region_plan (Ext w2) [] [0, 1, 2, 3, 4] 5 [6] Try.mixed (by kernel_rfl) (by intro c a d v w h; cases d <;> exact h) (Ext.refl _).drew ?_
  simp only [opsAt, List.filterMap_cons, List.filterMap_nil, List.getElem?_toArray, List.getElem?_cons_zero, List.getElem?_cons_succ]
  refine Firsts.nil ?_
  (refine Heads.val (v := ?_) rfl (fun wv hwv => ?_) ?_; rotate_left; (go_simp; with_reducible rfl); simp only [Act.put, List.setIfInBounds_toArray, List.set_cons_zero, List.set_cons_succ])
  (refine Heads.val (v := ?_) rfl (fun wv hwv => ?_) ?_; rotate_left; (go_simp; with_reducible rfl); simp only [Act.put, List.setIfInBounds_toArray, List.set_cons_zero, List.set_cons_succ])
  (refine Heads.val (v := ?_) rfl (fun wv hwv => ?_) ?_; rotate_left; (go_simp; with_reducible rfl); simp only [Act.put, List.setIfInBounds_toArray, List.set_cons_zero, List.set_cons_succ])
  (refine Heads.val (v := ?_) rfl (fun wv hwv => ?_) ?_; rotate_left; (go_simp; with_reducible rfl); simp only [Act.put, List.setIfInBounds_toArray, List.set_cons_zero, List.set_cons_succ])
  (refine Heads.val (v := ?_) rfl (fun wv hwv => ?_) ?_; rotate_left; (go_simp; with_reducible rfl); simp only [Act.put, List.setIfInBounds_toArray, List.set_cons_zero, List.set_cons_succ])
  refine Heads.nil ?_
  intro w3 hw3
  go_wp2_with fail
  have hx3 := hX.trans (hw2.trans hw3)
  refine (s_give c l σ who pg d.give _ gc (h.ext hx3) hs (hpg.keep (hx3.upd []) (by simp)) (hout pg hpF)).mono ?_
  rintro e w4 ⟨rfl, h4, hg4, u4⟩
  generalize hst : d.give.step c who σ = st at *
  obtain ⟨y, g, σ'⟩ := st
  simp only at h4 hg4
  have HE := Lib.hid (HA.out y g σ' rfl)
  have HB4 := Lib.hid (u4.keep (hw3.keep HB2.out) (by
    intro hm
    rcases List.mem_cons.1 hm with hm | hm
    · exact hpb hm.symm
    · exact hb hm))
  have hub : Upd (F ++ l.all) W w4 := (hx3.upd _).trans (u4.own hpF)
  have hF4 : ∀ x, x ∈ F → x < w4.heap.size := fun x hx => by have := hFl x hx; have := hub.size; omega
  clear c_HB2_w2 f_HB2_w2 cE2 HA hst
  go_wp2
  go_ret
  unfold DropRes
  rw [HE.out]
  refine ⟨rfl, h4, hub, F, ⟨⟨H, _, by rw [HP0.out]; exact HB4.out, fun q => ?_, fun q => ⟨pg, hpF, hpb, rfl, hg4⟩⟩, hbF, hout, hF4, hn, hw, hsl, hgn, hsz, hpc⟩, fun x hx => Or.inl hx⟩
  · simp only [HP0.out] at q; omega

theorem d_step (c : Fl.Cfg) (l : Loc) (σ : Fl.Mem) (who : Int) (F : List Nat) (b : Nat) (d : Fl.Drop) (W : World) (gc : GoodC c) (h : MemAt W l σ) (hs : 0 ≤ σ.steps ∧ σ.steps < 4611686018427387904)
    (hd : DropAt W l F b d) :
    Calls Try.prog 32 #[.pointer (some ⟨b, 0, none⟩), .agg #[.int .i64 c.threads, .int .i64 c.slots, .int .i64 c.chunks, .int .i64 c.words, .int .i64 c.gens, .int .i64 c.sparse, .int .i64 c.tries, .pointer (some ⟨l.m, 0, none⟩), .int .i64 who]] W (DropRes (.bool (d.step c who σ).1) c who σ d l F b W) := by
  obtain ⟨p0, p1⟩ := hd.pc
  have : d.pc = 0 ∨ d.pc = 1 ∨ d.pc = 2 ∨ d.pc = 3 ∨ d.pc = 4 ∨ d.pc = 5 ∨ d.pc = 6 := by omega
  rcases this with p | p | p | p | p | p | p
  · exact d_step0 c l σ who F b d W gc h hs hd p
  · exact d_step1 c l σ who F b d W gc h hs hd p
  · exact d_step2 c l σ who F b d W gc h hs hd p
  · exact d_step3 c l σ who F b d W gc h hs hd p
  · exact d_step4 c l σ who F b d W gc h hs hd p
  · exact d_step5 c l σ who F b d W gc h hs hd p
  · exact d_step6 c l σ who F b d W gc h hs hd p

end Go.Proofs.Ythblhgappldcjaa
