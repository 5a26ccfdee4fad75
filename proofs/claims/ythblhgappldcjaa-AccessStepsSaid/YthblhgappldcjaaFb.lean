/- The contract of place's step. -/
import Derived.Test.YthblhgappldcjaaFa
namespace Go.Proofs.Ythblhgappldcjaa
open Go Go.RowKit
set_option linter.unusedVariables false

theorem place0 (c : Fl.Cfg) (who : Int) (σ : Fl.Mem) (p : Fl.Place) (h : p.pc = 0) (x : Nat) (m : Fl.Mem) (hl : σ.load who (Fl.pOpen p.cls) = (x, m)) :
    p.step c who σ = if (x : Int) - 1 < 0 then (false, { p with opn := x, at_ := 0, pc := 3 }, m) else (false, { p with opn := x, at_ := (x : Int) - 1, pc := 1 }, m) := by
  unfold Fl.Place.step; rw [if_pos h]; simp only [hl]
theorem place1 (c : Fl.Cfg) (who : Int) (σ : Fl.Mem) (p : Fl.Place) (h : p.pc = 1) (x : Nat) (m : Fl.Mem) (hl : σ.load who (Fl.pChunk c p.at_) = (x, m)) :
    p.step c who σ = if (Fl.chunkOf x).state ≠ 1 ∨ (Fl.chunkOf x).cls ≠ p.cls ∨ (Fl.chunkOf x).used + Fl.room p.cls > c.words then (false, { p with w := x, at_ := 0, pc := 3 }, m) else (false, { p with w := x, pc := 2 }, m) := by
  unfold Fl.Place.step; rw [if_neg (by omega), if_pos h]; simp only [hl]
theorem place3 (c : Fl.Cfg) (who : Int) (σ : Fl.Mem) (p : Fl.Place) (h : p.pc = 3) (x : Nat) (m : Fl.Mem) (hl : σ.load who (Fl.pChunk c p.at_) = (x, m)) :
    p.step c who σ = if (Fl.chunkOf x).state ≠ 0 then (({ p with w := x } : Fl.Place).on c |>.1, ({ p with w := x } : Fl.Place).on c |>.2, m) else (false, { p with w := x, pc := 4 }, m) := by
  unfold Fl.Place.step; rw [if_neg (by omega), if_neg (by omega), if_neg (by omega), if_pos h]; simp only [hl]
theorem place4 (c : Fl.Cfg) (who : Int) (σ : Fl.Mem) (p : Fl.Place) (h : p.pc = 4) (y : Bool) (m : Fl.Mem) (hl : σ.cas who (Fl.pChunk c p.at_) p.w p.fresh = (y, m)) :
    p.step c who σ = if y = false then ((p.on c).1, (p.on c).2, m) else (false, { p with pc := 5 }, m) := by
  unfold Fl.Place.step; rw [if_neg (by omega), if_neg (by omega), if_neg (by omega), if_neg (by omega), if_pos h]; simp only [hl]; cases y <;> rfl
theorem place5 (c : Fl.Cfg) (who : Int) (σ : Fl.Mem) (p : Fl.Place) (h : p.pc = 5) (y : Bool) (m : Fl.Mem) (hl : σ.cas who (Fl.pOpen p.cls) p.opn (Fl.u64 (p.at_ + 1)) = (y, m)) :
    p.step c who σ = if y = true then (false, { p with pc := 0 }, m) else (false, { p with pc := 6 }, m) := by
  unfold Fl.Place.step; rw [if_neg (by omega), if_neg (by omega), if_neg (by omega), if_neg (by omega), if_neg (by omega), if_pos h]; simp only [hl]
theorem place6 (c : Fl.Cfg) (who : Int) (σ : Fl.Mem) (p : Fl.Place) (h : p.pc ≠ 0 ∧ p.pc ≠ 1 ∧ p.pc ≠ 2 ∧ p.pc ≠ 3 ∧ p.pc ≠ 4 ∧ p.pc ≠ 5) :
    p.step c who σ = (false, { p with pc := 0 }, (σ.cas who (Fl.pChunk c p.at_) p.fresh (Fl.putChunk ⟨0, 0, 0, (Fl.chunkOf p.w).stamp + 2⟩)).2) := by
  unfold Fl.Place.step; rw [if_neg (by omega), if_neg (by omega), if_neg (by omega), if_neg (by omega), if_neg (by omega), if_neg (by omega)]

set_option maxHeartbeats 1000000 in
set_option maxRecDepth 100000 in
theorem p_step0 (c : Fl.Cfg) (l : Loc) (σ : Fl.Mem) (who : Int) (b : Nat) (p : Fl.Place) (W : World) (gc : GoodC c) (h : MemAt W l σ) (hs : 0 ≤ σ.steps ∧ σ.steps < 4611686018427387904)
    (hp : PlaceAt W b p) (hb : b ∉ l.all) (hsafe : placeSafe who σ p) (p0 : p.pc = 0) :
    Calls Try.prog 96 #[.pointer (some ⟨b, 0, none⟩), .agg #[.int .i64 c.threads, .int .i64 c.slots, .int .i64 c.chunks, .int .i64 c.words, .int .i64 c.gens, .int .i64 c.sparse, .int .i64 c.tries, .pointer (some ⟨l.m, 0, none⟩), .int .i64 who]] W (PlaceRes c who σ p l b W) := by
  have hx0 := hsafe.2 p0
  have HP := Lib.hid (place0 c who σ p p0)
  obtain ⟨hB, k1, k2, k3, k4, k5⟩ := hp
  have hlt := h.lt
  have hbl := lt_of_heap hB
  have hE := heap_new W (.cells #[.int .i64 c.threads, .int .i64 c.slots, .int .i64 c.chunks, .int .i64 c.words, .int .i64 c.gens, .int .i64 c.sparse, .int .i64 c.tries, .pointer (some ⟨l.m, 0, none⟩), .int .i64 who] 27)
  have hX := (Ext.refl W).alloc (.cells #[.int .i64 c.threads, .int .i64 c.slots, .int .i64 c.chunks, .int .i64 c.words, .int .i64 c.gens, .int .i64 c.sparse, .int .i64 c.tries, .pointer (some ⟨l.m, 0, none⟩), .int .i64 who] 27)
  have hsE := lt_of_heap hE
  rw [p0] at hB
  have HB1 := Lib.hid (hX.keep hB)
  have c0 := fun w' o (k : Ext W w') => k.cellOf hB o
  clear hB
  go_enter Try.func96, Try.ntmps96
  go_wp2_with fail
  generalize W.alloc (.cells #[.int .i64 c.threads, .int .i64 c.slots, .int .i64 c.chunks, .int .i64 c.words, .int .i64 c.gens, .int .i64 c.sparse, .int .i64 c.tries, .pointer (some ⟨l.m, 0, none⟩), .int .i64 who] 27) = w1 at *
  have cE := fun w' o (k : Ext w1 w') => k.cellOf hE o
  have cb1 := fun w' o (k : Ext w1 w') => c0 w' o (hX.trans k)
  have r1 := Ext.refl w1
  have c_HB1_w1 := fun w' o (k : Ext w1 w') => k.cellOf HB1.out o
  have f_HB1_w1 := fun w' o (k : Ext w1 w') => frozen_of (k.keep HB1.out) o
  have r_HB1_w1 := Ext.refl w1
  refine wp_region_plan (Ext w1) [0] [1, 2, 3, 4, 5, 6] 7 [8, 9, 10] Try.mixed (by kernel_rfl) (by intro c a d v w h; cases d <;> exact h) (r1).drew ?_
  simp only [opsAt, List.filterMap_cons, List.filterMap_nil, List.getElem?_toArray, List.getElem?_cons_zero, List.getElem?_cons_succ]
  (refine Firsts.val (v := ?_) rfl (fun _ => ?_) ?_; rotate_left; (go_simp; with_reducible rfl); simp only [Act.put, List.setIfInBounds_toArray, List.set_cons_zero, List.set_cons_succ])
  refine Firsts.nil ?_
  (refine Heads.val (v := ?_) rfl (fun wv hwv => ?_) ?_; rotate_left; (go_simp; with_reducible rfl); simp only [Act.put, List.setIfInBounds_toArray, List.set_cons_zero, List.set_cons_succ])
  (refine Heads.val (v := ?_) rfl (fun wv hwv => ?_) ?_; rotate_left; (go_simp; with_reducible rfl); simp only [Act.put, List.setIfInBounds_toArray, List.set_cons_zero, List.set_cons_succ])
  (refine Heads.val (v := ?_) rfl (fun wv hwv => ?_) ?_; rotate_left; (go_simp; with_reducible rfl); simp only [Act.put, List.setIfInBounds_toArray, List.set_cons_zero, List.set_cons_succ])
  (refine Heads.val (v := ?_) rfl (fun wv hwv => ?_) ?_; rotate_left; (go_simp; with_reducible rfl); simp only [Act.put, List.setIfInBounds_toArray, List.set_cons_zero, List.set_cons_succ])
  (refine Heads.val (v := ?_) rfl (fun wv hwv => ?_) ?_; rotate_left; (go_simp; with_reducible rfl); simp only [Act.put, List.setIfInBounds_toArray, List.set_cons_zero, List.set_cons_succ])
  (refine Heads.call (v := ?_) rfl (fun wv hwv => ?_) ?_; rotate_left; (go_simp; simp only [GivesUpon.enter]; refine (c_pOpen _ _ (by omega)).mono ?_; rintro e w' ⟨rfl, hh⟩; refine ⟨?_, hwv.trans hh⟩; with_reducible rfl); simp only [Act.put, List.setIfInBounds_toArray, List.set_cons_zero, List.set_cons_succ])
  refine Heads.nil ?_
  intro w3 hw3
  go_wp2_with fail
  have hll := load_lt h who (Fl.pOpen p.cls)
  refine (e_load c l σ who _ _ (h.ext (hX.trans hw3)) hs).mono ?_
  rintro e w4 ⟨rfl, h4, u4⟩
  generalize hl : σ.load who (Fl.pOpen p.cls) = lx at *
  obtain ⟨x, σ'⟩ := lx
  simp only at hx0 hll h4
  have HB4 := Lib.hid (u4.keep (hw3.keep HB1.out) hb)
  have hub : Upd (b :: l.all) W w4 := ((hX.trans hw3).upd _).trans u4.tl
  have HE := Lib.hid (HP.out x σ' rfl)
  have c_HB4_w4 := fun w' o (k : Ext w4 w') => k.cellOf HB4.out o
  have f_HB4_w4 := fun w' o (k : Ext w4 w') => frozen_of (k.keep HB4.out) o
  have r_HB4_w4 := Ext.refl w4
  clear c0 cb1 cE c_HB1_w1 f_HB1_w1 HP hl
  by_cases hx : x = 0
  · subst hx
    go_wp2
    go_ret
    unfold PlaceRes
    rw [HE.out, if_pos (by decide)]
    exact ⟨rfl, h4.keep1 (((((((Upd.refl [b] _)).set1 _ _).set1 _ _).set1 _ _).set1 _ _).set1 _ _) hb, ⟨(heap_set (heap_set (heap_set (heap_set (heap_set HB4.out _ _) _ _) _ _) _ _) _ _).trans (by simp), k1, (by simp), (by simp), k4, k5⟩, hub.trans (((((((Upd.refl [b] _)).set1 _ _).set1 _ _).set1 _ _).set1 _ _).set1 _ _).hd⟩
  · have hlt0 : ¬ ((x : Int) - 1 < 0) := by omega
    go_wp2
    go_ret
    unfold PlaceRes
    rw [HE.out, if_neg (by omega)]
    exact ⟨rfl, h4.keep1 (((((Upd.refl [b] _)).set1 _ _).set1 _ _).set1 _ _) hb, ⟨(heap_set (heap_set (heap_set HB4.out _ _) _ _) _ _).trans (by simp), k1, (by simp only; omega), hll, k4, k5⟩, hub.trans (((((Upd.refl [b] _)).set1 _ _).set1 _ _).set1 _ _).hd⟩

set_option maxHeartbeats 1000000 in
set_option maxRecDepth 100000 in
theorem p_step1 (c : Fl.Cfg) (l : Loc) (σ : Fl.Mem) (who : Int) (b : Nat) (p : Fl.Place) (W : World) (gc : GoodC c) (h : MemAt W l σ) (hs : 0 ≤ σ.steps ∧ σ.steps < 4611686018427387904)
    (hp : PlaceAt W b p) (hb : b ∉ l.all) (hsafe : placeSafe who σ p) (p0 : p.pc = 1) :
    Calls Try.prog 96 #[.pointer (some ⟨b, 0, none⟩), .agg #[.int .i64 c.threads, .int .i64 c.slots, .int .i64 c.chunks, .int .i64 c.words, .int .i64 c.gens, .int .i64 c.sparse, .int .i64 c.tries, .pointer (some ⟨l.m, 0, none⟩), .int .i64 who]] W (PlaceRes c who σ p l b W) := by
  have ha := hsafe.1
  have HP := Lib.hid (place1 c who σ p p0)
  obtain ⟨hB, k1, k2, k3, k4, k5⟩ := hp
  have hlt := h.lt
  have hbl := lt_of_heap hB
  have hE := heap_new W (.cells #[.int .i64 c.threads, .int .i64 c.slots, .int .i64 c.chunks, .int .i64 c.words, .int .i64 c.gens, .int .i64 c.sparse, .int .i64 c.tries, .pointer (some ⟨l.m, 0, none⟩), .int .i64 who] 27)
  have hX := (Ext.refl W).alloc (.cells #[.int .i64 c.threads, .int .i64 c.slots, .int .i64 c.chunks, .int .i64 c.words, .int .i64 c.gens, .int .i64 c.sparse, .int .i64 c.tries, .pointer (some ⟨l.m, 0, none⟩), .int .i64 who] 27)
  have hsE := lt_of_heap hE
  rw [p0] at hB
  have HB1 := Lib.hid (hX.keep hB)
  have c0 := fun w' o (k : Ext W w') => k.cellOf hB o
  clear hB
  have hro := Fl.room_range k1.2
  go_enter Try.func96, Try.ntmps96
  go_wp2_with fail
  generalize W.alloc (.cells #[.int .i64 c.threads, .int .i64 c.slots, .int .i64 c.chunks, .int .i64 c.words, .int .i64 c.gens, .int .i64 c.sparse, .int .i64 c.tries, .pointer (some ⟨l.m, 0, none⟩), .int .i64 who] 27) = w1 at *
  have cE := fun w' o (k : Ext w1 w') => k.cellOf hE o
  have cb1 := fun w' o (k : Ext w1 w') => c0 w' o (hX.trans k)
  have r1 := Ext.refl w1
  have c_HB1_w1 := fun w' o (k : Ext w1 w') => k.cellOf HB1.out o
  have f_HB1_w1 := fun w' o (k : Ext w1 w') => frozen_of (k.keep HB1.out) o
  have r_HB1_w1 := Ext.refl w1
  refine wp_region_plan (Ext w1) [0] [1, 2, 3, 4, 5, 6, 7, 8] 9 [10, 11, 12] Try.mixed (by kernel_rfl) (by intro c a d v w h; cases d <;> exact h) (r1).drew ?_
  simp only [opsAt, List.filterMap_cons, List.filterMap_nil, List.getElem?_toArray, List.getElem?_cons_zero, List.getElem?_cons_succ]
  (refine Firsts.val (v := ?_) rfl (fun _ => ?_) ?_; rotate_left; (go_simp; with_reducible rfl); simp only [Act.put, List.setIfInBounds_toArray, List.set_cons_zero, List.set_cons_succ])
  refine Firsts.nil ?_
  (refine Heads.val (v := ?_) rfl (fun wv hwv => ?_) ?_; rotate_left; (go_simp; with_reducible rfl); simp only [Act.put, List.setIfInBounds_toArray, List.set_cons_zero, List.set_cons_succ])
  (refine Heads.val (v := ?_) rfl (fun wv hwv => ?_) ?_; rotate_left; (go_simp; with_reducible rfl); simp only [Act.put, List.setIfInBounds_toArray, List.set_cons_zero, List.set_cons_succ])
  (refine Heads.val (v := ?_) rfl (fun wv hwv => ?_) ?_; rotate_left; (go_simp; with_reducible rfl); simp only [Act.put, List.setIfInBounds_toArray, List.set_cons_zero, List.set_cons_succ])
  (refine Heads.val (v := ?_) rfl (fun wv hwv => ?_) ?_; rotate_left; (go_simp; with_reducible rfl); simp only [Act.put, List.setIfInBounds_toArray, List.set_cons_zero, List.set_cons_succ])
  (refine Heads.val (v := ?_) rfl (fun wv hwv => ?_) ?_; rotate_left; (go_simp; with_reducible rfl); simp only [Act.put, List.setIfInBounds_toArray, List.set_cons_zero, List.set_cons_succ])
  (refine Heads.val (v := ?_) rfl (fun wv hwv => ?_) ?_; rotate_left; (go_simp; with_reducible rfl); simp only [Act.put, List.setIfInBounds_toArray, List.set_cons_zero, List.set_cons_succ])
  (refine Heads.val (v := ?_) rfl (fun wv hwv => ?_) ?_; rotate_left; (go_simp; with_reducible rfl); simp only [Act.put, List.setIfInBounds_toArray, List.set_cons_zero, List.set_cons_succ])
  (refine Heads.call (v := ?_) rfl (fun wv hwv => ?_) ?_; rotate_left; (go_simp; simp only [GivesUpon.enter]; refine (c_pChunk c _ _ gc (by omega)).mono ?_; rintro e w' ⟨rfl, hh⟩; refine ⟨?_, hwv.trans hh⟩; with_reducible rfl); simp only [Act.put, List.setIfInBounds_toArray, List.set_cons_zero, List.set_cons_succ])
  refine Heads.nil ?_
  intro w3 hw3
  go_wp2_with fail
  have hll := load_lt h who (Fl.pChunk c p.at_)
  refine (e_load c l σ who _ _ (h.ext (hX.trans hw3)) hs).mono ?_
  rintro e w4 ⟨rfl, h4, u4⟩
  generalize hl : σ.load who (Fl.pChunk c p.at_) = lx at *
  obtain ⟨x, σ'⟩ := lx
  simp only at hll h4
  have HB4 := Lib.hid (u4.keep (hw3.keep HB1.out) hb)
  have E4 := u4.keep (hw3.keep hE) (by intro hm; have := hlt _ hm; omega)
  have hub : Upd (b :: l.all) W w4 := ((hX.trans hw3).upd _).trans u4.tl
  have HE := Lib.hid (HP.out x σ' rfl)
  have c_HB4_w4 := fun w' o (k : Ext w4 w') => k.cellOf HB4.out o
  have f_HB4_w4 := fun w' o (k : Ext w4 w') => frozen_of (k.keep HB4.out) o
  have r_HB4_w4 := Ext.refl w4
  clear c0 cb1 cE c_HB1_w1 f_HB1_w1 HP hl
  go_wp2_with fail
  have HB5 := Lib.hid (heap_set HB4.out 4 (.int .u64 (x : Nat)))
  have u_w5 := ((Upd.refl [b] w4).set1 4 (.int .u64 (x : Nat)))
  have h5 := h4.keep1 u_w5 hb
  generalize (World.setCell w4 ⟨b, 4, none⟩ (.int .u64 (x : Nat))) = w5 at *
  simp only [List.setIfInBounds_toArray, List.set_cons_zero, List.set_cons_succ] at HB5
  have E5 := u_w5.keep E4 (by simp; omega)
  have c_HB5_w5 := fun w' o (k : Ext w5 w') => k.cellOf HB5.out o
  have f_HB5_w5 := fun w' o (k : Ext w5 w') => frozen_of (k.keep HB5.out) o
  have r_HB5_w5 := Ext.refl w5
  clear c_HB4_w4 f_HB4_w4 r_HB4_w4
  have hr := Fl.chunkOf_range x
  refine (c_chunk _ _ hll).mono ?_
  rintro e w6 ⟨rfl, x6⟩
  generalize hk : Fl.chunkOf x = k at *
  have hb6 := x6.keep HB5.out
  have s6 := lt_of_heap hb6
  have sE6 := lt_of_heap (x6.keep E5)
  have hE7 := heap_old (o' := .cells #[.int .i64 k.state, .int .i64 k.cls, .int .i64 k.used, .int .i64 k.stamp] 107) (heap_far (x6.keep E5) (p := ⟨b, 1, none⟩) (by simp; omega) (.int .i64 2))
  have HB7 := Lib.hid (heap_old (o' := .cells #[.int .i64 k.state, .int .i64 k.cls, .int .i64 k.used, .int .i64 k.stamp] 107) (heap_set hb6 1 (.int .i64 2)))
  have HC7 := Lib.hid (heap_new (w6.setCell ⟨b, 1, none⟩ (.int .i64 2)) (.cells #[.int .i64 k.state, .int .i64 k.cls, .int .i64 k.used, .int .i64 k.stamp] 107))
  have u7 := ((Upd.refl [b] w6).set1 1 (.int .i64 2)).alloc (.cells #[.int .i64 k.state, .int .i64 k.cls, .int .i64 k.used, .int .i64 k.stamp] 107)
  have h7 := (h5.ext x6).keep1 u7 hb
  have hub7 := (((hub.trans u_w5.hd).extR x6).trans u7.hd)
  simp only [World.size_setCell] at HC7
  simp only [List.setIfInBounds_toArray, List.set_cons_zero, List.set_cons_succ] at HB7
  have f6 := fun o => frozen_of hb6 o
  clear hb6
  go_wp2_with fail
  generalize (w6.setCell ⟨b, 1, none⟩ (.int .i64 2)).alloc (.cells #[.int .i64 k.state, .int .i64 k.cls, .int .i64 k.used, .int .i64 k.stamp] 107) = w7 at *
  generalize hbc : w6.heap.size = bc at *
  have c_HB7_w7 := fun w' o (k : Ext w7 w') => k.cellOf HB7.out o
  have f_HB7_w7 := fun w' o (k : Ext w7 w') => frozen_of (k.keep HB7.out) o
  have r_HB7_w7 := Ext.refl w7
  have c_HC7_w7 := fun w' o (k : Ext w7 w') => k.cellOf HC7.out o
  have f_HC7_w7 := fun w' o (k : Ext w7 w') => frozen_of (k.keep HC7.out) o
  have r_HC7_w7 := Ext.refl w7
  have cE7 := fun w' o (k : Ext w7 w') => k.cellOf hE7 o
  clear c_HB5_w5 f_HB5_w5 f6 hbc
  by_cases t1 : k.state = 1
  · have e1 : (k.state != 1) = false := by rw [bne_eq_false_iff_eq]; exact t1
    by_cases t2 : k.cls = p.cls
    · have e2 : (k.cls != p.cls) = false := by rw [bne_eq_false_iff_eq]; exact t2
      by_cases t3 : k.used + Fl.room p.cls > c.words
      · have e3 : decide (c.words < k.used + Fl.room p.cls) = true := by simp; omega
        have HF := Lib.hid (HE.out.trans (if_pos (Or.inr (Or.inr t3))))
        clear t1 t2 HE
        refine wp_region_plan (Ext w7) [] [0, 1, 2, 3, 4, 5, 6, 7, 8, 9, 10, 11, 12, 13, 14, 15, 16, 17, 18, 19, 20, 21, 22, 23, 24] 25 [] Try.mixed (by kernel_rfl) (by intro c a d v w h; cases d <;> exact h) (Ext.refl _).drew ?_
        simp only [opsAt, List.filterMap_cons, List.filterMap_nil, List.getElem?_toArray, List.getElem?_cons_zero, List.getElem?_cons_succ]
        refine Firsts.nil ?_
        (refine Heads.val (v := ?_) rfl (fun wv hwv => ?_) ?_; rotate_left; (go_simp; with_reducible rfl); simp only [Act.put, List.setIfInBounds_toArray, List.set_cons_zero, List.set_cons_succ])
        (refine Heads.val (v := ?_) rfl (fun wv hwv => ?_) ?_; rotate_left; (go_simp; with_reducible rfl); simp only [Act.put, List.setIfInBounds_toArray, List.set_cons_zero, List.set_cons_succ])
        (refine Heads.val (v := ?_) rfl (fun wv hwv => ?_) ?_; rotate_left; (go_simp; with_reducible rfl); simp only [Act.put, List.setIfInBounds_toArray, List.set_cons_zero, List.set_cons_succ])
        (refine Heads.val (v := ?_) rfl (fun wv hwv => ?_) ?_; rotate_left; (go_simp; with_reducible rfl); simp only [Act.put, List.setIfInBounds_toArray, List.set_cons_zero, List.set_cons_succ])
        (first | (refine Heads.val (v := ?_) rfl (fun wv hwv => ?_) ?_; rotate_left; (go_simp; with_reducible rfl); simp only [Act.put, List.setIfInBounds_toArray, List.set_cons_zero, List.set_cons_succ]) | (refine Heads.skip rfl ?_; simp only [Act.put, List.setIfInBounds_toArray, List.set_cons_zero, List.set_cons_succ]))
        (first | (refine Heads.val (v := ?_) rfl (fun wv hwv => ?_) ?_; rotate_left; (go_simp; with_reducible rfl); simp only [Act.put, List.setIfInBounds_toArray, List.set_cons_zero, List.set_cons_succ]) | (refine Heads.skip rfl ?_; simp only [Act.put, List.setIfInBounds_toArray, List.set_cons_zero, List.set_cons_succ]))
        (first | (refine Heads.val (v := ?_) rfl (fun wv hwv => ?_) ?_; rotate_left; (go_simp; with_reducible rfl); simp only [Act.put, List.setIfInBounds_toArray, List.set_cons_zero, List.set_cons_succ]) | (refine Heads.skip rfl ?_; simp only [Act.put, List.setIfInBounds_toArray, List.set_cons_zero, List.set_cons_succ]))
        (first | (refine Heads.val (v := ?_) rfl (fun wv hwv => ?_) ?_; rotate_left; (go_simp; with_reducible rfl); simp only [Act.put, List.setIfInBounds_toArray, List.set_cons_zero, List.set_cons_succ]) | (refine Heads.skip rfl ?_; simp only [Act.put, List.setIfInBounds_toArray, List.set_cons_zero, List.set_cons_succ]))
        (first | (refine Heads.val (v := ?_) rfl (fun wv hwv => ?_) ?_; rotate_left; (go_simp; with_reducible rfl); simp only [Act.put, List.setIfInBounds_toArray, List.set_cons_zero, List.set_cons_succ]) | (refine Heads.skip rfl ?_; simp only [Act.put, List.setIfInBounds_toArray, List.set_cons_zero, List.set_cons_succ]))
        (first | (refine Heads.val (v := ?_) rfl (fun wv hwv => ?_) ?_; rotate_left; (go_simp; with_reducible rfl); simp only [Act.put, List.setIfInBounds_toArray, List.set_cons_zero, List.set_cons_succ]) | (refine Heads.skip rfl ?_; simp only [Act.put, List.setIfInBounds_toArray, List.set_cons_zero, List.set_cons_succ]))
        (first | (refine Heads.val (v := ?_) rfl (fun wv hwv => ?_) ?_; rotate_left; (go_simp; with_reducible rfl); simp only [Act.put, List.setIfInBounds_toArray, List.set_cons_zero, List.set_cons_succ]) | (refine Heads.skip rfl ?_; simp only [Act.put, List.setIfInBounds_toArray, List.set_cons_zero, List.set_cons_succ]))
        (refine Heads.val (v := ?_) rfl (fun wv hwv => ?_) ?_; rotate_left; (go_simp; with_reducible rfl); simp only [Act.put, List.setIfInBounds_toArray, List.set_cons_zero, List.set_cons_succ])
        (refine Heads.val (v := ?_) rfl (fun wv hwv => ?_) ?_; rotate_left; (go_simp; with_reducible rfl); simp only [Act.put, List.setIfInBounds_toArray, List.set_cons_zero, List.set_cons_succ])
        (first | (refine Heads.val (v := ?_) rfl (fun wv hwv => ?_) ?_; rotate_left; (go_simp; with_reducible rfl); simp only [Act.put, List.setIfInBounds_toArray, List.set_cons_zero, List.set_cons_succ]) | (refine Heads.skip rfl ?_; simp only [Act.put, List.setIfInBounds_toArray, List.set_cons_zero, List.set_cons_succ]))
        (first | (refine Heads.val (v := ?_) rfl (fun wv hwv => ?_) ?_; rotate_left; (go_simp; with_reducible rfl); simp only [Act.put, List.setIfInBounds_toArray, List.set_cons_zero, List.set_cons_succ]) | (refine Heads.skip rfl ?_; simp only [Act.put, List.setIfInBounds_toArray, List.set_cons_zero, List.set_cons_succ]))
        (first | (refine Heads.val (v := ?_) rfl (fun wv hwv => ?_) ?_; rotate_left; (go_simp; with_reducible rfl); simp only [Act.put, List.setIfInBounds_toArray, List.set_cons_zero, List.set_cons_succ]) | (refine Heads.skip rfl ?_; simp only [Act.put, List.setIfInBounds_toArray, List.set_cons_zero, List.set_cons_succ]))
        (first | (refine Heads.val (v := ?_) rfl (fun wv hwv => ?_) ?_; rotate_left; (go_simp; with_reducible rfl); simp only [Act.put, List.setIfInBounds_toArray, List.set_cons_zero, List.set_cons_succ]) | (refine Heads.skip rfl ?_; simp only [Act.put, List.setIfInBounds_toArray, List.set_cons_zero, List.set_cons_succ]))
        (first | (refine Heads.val (v := ?_) rfl (fun wv hwv => ?_) ?_; rotate_left; (go_simp; with_reducible rfl); simp only [Act.put, List.setIfInBounds_toArray, List.set_cons_zero, List.set_cons_succ]) | (refine Heads.skip rfl ?_; simp only [Act.put, List.setIfInBounds_toArray, List.set_cons_zero, List.set_cons_succ]))
        (first | (refine Heads.val (v := ?_) rfl (fun wv hwv => ?_) ?_; rotate_left; (go_simp; with_reducible rfl); simp only [Act.put, List.setIfInBounds_toArray, List.set_cons_zero, List.set_cons_succ]) | (refine Heads.skip rfl ?_; simp only [Act.put, List.setIfInBounds_toArray, List.set_cons_zero, List.set_cons_succ]))
        (first | (refine Heads.call (v := ?_) rfl (fun wv hwv => ?_) ?_; rotate_left; (go_simp; simp only [GivesUpon.enter]; refine (c_room _ _ k1).mono ?_; rintro e w' ⟨rfl, hh⟩; refine ⟨?_, hwv.trans hh⟩; with_reducible rfl); simp only [Act.put, List.setIfInBounds_toArray, List.set_cons_zero, List.set_cons_succ]) | (refine Heads.skip rfl ?_; simp only [Act.put, List.setIfInBounds_toArray, List.set_cons_zero, List.set_cons_succ]))
        (first | (refine Heads.val (v := ?_) rfl (fun wv hwv => ?_) ?_; rotate_left; (go_simp; with_reducible rfl); simp only [Act.put, List.setIfInBounds_toArray, List.set_cons_zero, List.set_cons_succ]) | (refine Heads.skip rfl ?_; simp only [Act.put, List.setIfInBounds_toArray, List.set_cons_zero, List.set_cons_succ]))
        (first | (refine Heads.val (v := ?_) rfl (fun wv hwv => ?_) ?_; rotate_left; (go_simp; with_reducible rfl); simp only [Act.put, List.setIfInBounds_toArray, List.set_cons_zero, List.set_cons_succ]) | (refine Heads.skip rfl ?_; simp only [Act.put, List.setIfInBounds_toArray, List.set_cons_zero, List.set_cons_succ]))
        (first | (refine Heads.val (v := ?_) rfl (fun wv hwv => ?_) ?_; rotate_left; (go_simp; with_reducible rfl); simp only [Act.put, List.setIfInBounds_toArray, List.set_cons_zero, List.set_cons_succ]) | (refine Heads.skip rfl ?_; simp only [Act.put, List.setIfInBounds_toArray, List.set_cons_zero, List.set_cons_succ]))
        (first | (refine Heads.val (v := ?_) rfl (fun wv hwv => ?_) ?_; rotate_left; (go_simp; with_reducible rfl); simp only [Act.put, List.setIfInBounds_toArray, List.set_cons_zero, List.set_cons_succ]) | (refine Heads.skip rfl ?_; simp only [Act.put, List.setIfInBounds_toArray, List.set_cons_zero, List.set_cons_succ]))
        (first | (refine Heads.val (v := ?_) rfl (fun wv hwv => ?_) ?_; rotate_left; (go_simp; with_reducible rfl); simp only [Act.put, List.setIfInBounds_toArray, List.set_cons_zero, List.set_cons_succ]) | (refine Heads.skip rfl ?_; simp only [Act.put, List.setIfInBounds_toArray, List.set_cons_zero, List.set_cons_succ]))
        refine Heads.nil ?_
        intro w8 hw8
        have HB8 := Lib.hid (hw8.keep HB7.out)
        have c_HB8_w8 := fun w' o (k : Ext w8 w') => k.cellOf HB8.out o
        have f_HB8_w8 := fun w' o (k : Ext w8 w') => frozen_of (k.keep HB8.out) o
        have r_HB8_w8 := Ext.refl w8
        clear c_HB7_w7 f_HB7_w7 c_HC7_w7 f_HC7_w7 cE7
        go_wp2
        go_ret
        unfold PlaceRes
        rw [HF.out]
        exact ⟨rfl, (h7.ext hw8).keep1 ((((Upd.refl [b] _)).set1 _ _).set1 _ _) hb, ⟨(heap_set (heap_set HB8.out _ _) _ _).trans (by simp), k1, (by simp), k3, hll, k5⟩, (hub7.extR hw8).trans ((((Upd.refl [b] _)).set1 _ _).set1 _ _).hd⟩
      · have e3 : decide (c.words < k.used + Fl.room p.cls) = false := by simp; omega
        have HF := Lib.hid (HE.out.trans (if_neg (by omega)))
        clear t1 t2 HE
        refine wp_region_plan (Ext w7) [] [0, 1, 2, 3, 4, 5, 6, 7, 8, 9, 10, 11, 12, 13, 14, 15, 16, 17, 18, 19, 20, 21, 22, 23, 24] 25 [] Try.mixed (by kernel_rfl) (by intro c a d v w h; cases d <;> exact h) (Ext.refl _).drew ?_
        simp only [opsAt, List.filterMap_cons, List.filterMap_nil, List.getElem?_toArray, List.getElem?_cons_zero, List.getElem?_cons_succ]
        refine Firsts.nil ?_
        (refine Heads.val (v := ?_) rfl (fun wv hwv => ?_) ?_; rotate_left; (go_simp; with_reducible rfl); simp only [Act.put, List.setIfInBounds_toArray, List.set_cons_zero, List.set_cons_succ])
        (refine Heads.val (v := ?_) rfl (fun wv hwv => ?_) ?_; rotate_left; (go_simp; with_reducible rfl); simp only [Act.put, List.setIfInBounds_toArray, List.set_cons_zero, List.set_cons_succ])
        (refine Heads.val (v := ?_) rfl (fun wv hwv => ?_) ?_; rotate_left; (go_simp; with_reducible rfl); simp only [Act.put, List.setIfInBounds_toArray, List.set_cons_zero, List.set_cons_succ])
        (refine Heads.val (v := ?_) rfl (fun wv hwv => ?_) ?_; rotate_left; (go_simp; with_reducible rfl); simp only [Act.put, List.setIfInBounds_toArray, List.set_cons_zero, List.set_cons_succ])
        (first | (refine Heads.val (v := ?_) rfl (fun wv hwv => ?_) ?_; rotate_left; (go_simp; with_reducible rfl); simp only [Act.put, List.setIfInBounds_toArray, List.set_cons_zero, List.set_cons_succ]) | (refine Heads.skip rfl ?_; simp only [Act.put, List.setIfInBounds_toArray, List.set_cons_zero, List.set_cons_succ]))
        (first | (refine Heads.val (v := ?_) rfl (fun wv hwv => ?_) ?_; rotate_left; (go_simp; with_reducible rfl); simp only [Act.put, List.setIfInBounds_toArray, List.set_cons_zero, List.set_cons_succ]) | (refine Heads.skip rfl ?_; simp only [Act.put, List.setIfInBounds_toArray, List.set_cons_zero, List.set_cons_succ]))
        (first | (refine Heads.val (v := ?_) rfl (fun wv hwv => ?_) ?_; rotate_left; (go_simp; with_reducible rfl); simp only [Act.put, List.setIfInBounds_toArray, List.set_cons_zero, List.set_cons_succ]) | (refine Heads.skip rfl ?_; simp only [Act.put, List.setIfInBounds_toArray, List.set_cons_zero, List.set_cons_succ]))
        (first | (refine Heads.val (v := ?_) rfl (fun wv hwv => ?_) ?_; rotate_left; (go_simp; with_reducible rfl); simp only [Act.put, List.setIfInBounds_toArray, List.set_cons_zero, List.set_cons_succ]) | (refine Heads.skip rfl ?_; simp only [Act.put, List.setIfInBounds_toArray, List.set_cons_zero, List.set_cons_succ]))
        (first | (refine Heads.val (v := ?_) rfl (fun wv hwv => ?_) ?_; rotate_left; (go_simp; with_reducible rfl); simp only [Act.put, List.setIfInBounds_toArray, List.set_cons_zero, List.set_cons_succ]) | (refine Heads.skip rfl ?_; simp only [Act.put, List.setIfInBounds_toArray, List.set_cons_zero, List.set_cons_succ]))
        (first | (refine Heads.val (v := ?_) rfl (fun wv hwv => ?_) ?_; rotate_left; (go_simp; with_reducible rfl); simp only [Act.put, List.setIfInBounds_toArray, List.set_cons_zero, List.set_cons_succ]) | (refine Heads.skip rfl ?_; simp only [Act.put, List.setIfInBounds_toArray, List.set_cons_zero, List.set_cons_succ]))
        (first | (refine Heads.val (v := ?_) rfl (fun wv hwv => ?_) ?_; rotate_left; (go_simp; with_reducible rfl); simp only [Act.put, List.setIfInBounds_toArray, List.set_cons_zero, List.set_cons_succ]) | (refine Heads.skip rfl ?_; simp only [Act.put, List.setIfInBounds_toArray, List.set_cons_zero, List.set_cons_succ]))
        (refine Heads.val (v := ?_) rfl (fun wv hwv => ?_) ?_; rotate_left; (go_simp; with_reducible rfl); simp only [Act.put, List.setIfInBounds_toArray, List.set_cons_zero, List.set_cons_succ])
        (refine Heads.val (v := ?_) rfl (fun wv hwv => ?_) ?_; rotate_left; (go_simp; with_reducible rfl); simp only [Act.put, List.setIfInBounds_toArray, List.set_cons_zero, List.set_cons_succ])
        (first | (refine Heads.val (v := ?_) rfl (fun wv hwv => ?_) ?_; rotate_left; (go_simp; with_reducible rfl); simp only [Act.put, List.setIfInBounds_toArray, List.set_cons_zero, List.set_cons_succ]) | (refine Heads.skip rfl ?_; simp only [Act.put, List.setIfInBounds_toArray, List.set_cons_zero, List.set_cons_succ]))
        (first | (refine Heads.val (v := ?_) rfl (fun wv hwv => ?_) ?_; rotate_left; (go_simp; with_reducible rfl); simp only [Act.put, List.setIfInBounds_toArray, List.set_cons_zero, List.set_cons_succ]) | (refine Heads.skip rfl ?_; simp only [Act.put, List.setIfInBounds_toArray, List.set_cons_zero, List.set_cons_succ]))
        (first | (refine Heads.val (v := ?_) rfl (fun wv hwv => ?_) ?_; rotate_left; (go_simp; with_reducible rfl); simp only [Act.put, List.setIfInBounds_toArray, List.set_cons_zero, List.set_cons_succ]) | (refine Heads.skip rfl ?_; simp only [Act.put, List.setIfInBounds_toArray, List.set_cons_zero, List.set_cons_succ]))
        (first | (refine Heads.val (v := ?_) rfl (fun wv hwv => ?_) ?_; rotate_left; (go_simp; with_reducible rfl); simp only [Act.put, List.setIfInBounds_toArray, List.set_cons_zero, List.set_cons_succ]) | (refine Heads.skip rfl ?_; simp only [Act.put, List.setIfInBounds_toArray, List.set_cons_zero, List.set_cons_succ]))
        (first | (refine Heads.val (v := ?_) rfl (fun wv hwv => ?_) ?_; rotate_left; (go_simp; with_reducible rfl); simp only [Act.put, List.setIfInBounds_toArray, List.set_cons_zero, List.set_cons_succ]) | (refine Heads.skip rfl ?_; simp only [Act.put, List.setIfInBounds_toArray, List.set_cons_zero, List.set_cons_succ]))
        (first | (refine Heads.val (v := ?_) rfl (fun wv hwv => ?_) ?_; rotate_left; (go_simp; with_reducible rfl); simp only [Act.put, List.setIfInBounds_toArray, List.set_cons_zero, List.set_cons_succ]) | (refine Heads.skip rfl ?_; simp only [Act.put, List.setIfInBounds_toArray, List.set_cons_zero, List.set_cons_succ]))
        (first | (refine Heads.call (v := ?_) rfl (fun wv hwv => ?_) ?_; rotate_left; (go_simp; simp only [GivesUpon.enter]; refine (c_room _ _ k1).mono ?_; rintro e w' ⟨rfl, hh⟩; refine ⟨?_, hwv.trans hh⟩; with_reducible rfl); simp only [Act.put, List.setIfInBounds_toArray, List.set_cons_zero, List.set_cons_succ]) | (refine Heads.skip rfl ?_; simp only [Act.put, List.setIfInBounds_toArray, List.set_cons_zero, List.set_cons_succ]))
        (first | (refine Heads.val (v := ?_) rfl (fun wv hwv => ?_) ?_; rotate_left; (go_simp; with_reducible rfl); simp only [Act.put, List.setIfInBounds_toArray, List.set_cons_zero, List.set_cons_succ]) | (refine Heads.skip rfl ?_; simp only [Act.put, List.setIfInBounds_toArray, List.set_cons_zero, List.set_cons_succ]))
        (first | (refine Heads.val (v := ?_) rfl (fun wv hwv => ?_) ?_; rotate_left; (go_simp; with_reducible rfl); simp only [Act.put, List.setIfInBounds_toArray, List.set_cons_zero, List.set_cons_succ]) | (refine Heads.skip rfl ?_; simp only [Act.put, List.setIfInBounds_toArray, List.set_cons_zero, List.set_cons_succ]))
        (first | (refine Heads.val (v := ?_) rfl (fun wv hwv => ?_) ?_; rotate_left; (go_simp; with_reducible rfl); simp only [Act.put, List.setIfInBounds_toArray, List.set_cons_zero, List.set_cons_succ]) | (refine Heads.skip rfl ?_; simp only [Act.put, List.setIfInBounds_toArray, List.set_cons_zero, List.set_cons_succ]))
        (first | (refine Heads.val (v := ?_) rfl (fun wv hwv => ?_) ?_; rotate_left; (go_simp; with_reducible rfl); simp only [Act.put, List.setIfInBounds_toArray, List.set_cons_zero, List.set_cons_succ]) | (refine Heads.skip rfl ?_; simp only [Act.put, List.setIfInBounds_toArray, List.set_cons_zero, List.set_cons_succ]))
        (first | (refine Heads.val (v := ?_) rfl (fun wv hwv => ?_) ?_; rotate_left; (go_simp; with_reducible rfl); simp only [Act.put, List.setIfInBounds_toArray, List.set_cons_zero, List.set_cons_succ]) | (refine Heads.skip rfl ?_; simp only [Act.put, List.setIfInBounds_toArray, List.set_cons_zero, List.set_cons_succ]))
        refine Heads.nil ?_
        intro w8 hw8
        have HB8 := Lib.hid (hw8.keep HB7.out)
        go_wp2
        go_ret
        unfold PlaceRes
        rw [HF.out]
        exact ⟨rfl, h7.ext hw8, ⟨HB8.out, k1, k2, k3, hll, k5⟩, hub7.extR hw8⟩
    · have e2 : (k.cls != p.cls) = true := by rw [bne_iff_ne]; exact t2
      have HF := Lib.hid (HE.out.trans (if_pos (Or.inr (Or.inl t2))))
      clear t1 t2 HE
      refine wp_region_plan (Ext w7) [] [0, 1, 2, 3, 4, 5, 6, 7, 8, 9, 10, 11, 12, 13, 14, 15, 16, 17, 18, 19, 20, 21, 22, 23, 24] 25 [] Try.mixed (by kernel_rfl) (by intro c a d v w h; cases d <;> exact h) (Ext.refl _).drew ?_
      simp only [opsAt, List.filterMap_cons, List.filterMap_nil, List.getElem?_toArray, List.getElem?_cons_zero, List.getElem?_cons_succ]
      refine Firsts.nil ?_
      (refine Heads.val (v := ?_) rfl (fun wv hwv => ?_) ?_; rotate_left; (go_simp; with_reducible rfl); simp only [Act.put, List.setIfInBounds_toArray, List.set_cons_zero, List.set_cons_succ])
      (refine Heads.val (v := ?_) rfl (fun wv hwv => ?_) ?_; rotate_left; (go_simp; with_reducible rfl); simp only [Act.put, List.setIfInBounds_toArray, List.set_cons_zero, List.set_cons_succ])
      (refine Heads.val (v := ?_) rfl (fun wv hwv => ?_) ?_; rotate_left; (go_simp; with_reducible rfl); simp only [Act.put, List.setIfInBounds_toArray, List.set_cons_zero, List.set_cons_succ])
      (refine Heads.val (v := ?_) rfl (fun wv hwv => ?_) ?_; rotate_left; (go_simp; with_reducible rfl); simp only [Act.put, List.setIfInBounds_toArray, List.set_cons_zero, List.set_cons_succ])
      (first | (refine Heads.val (v := ?_) rfl (fun wv hwv => ?_) ?_; rotate_left; (go_simp; with_reducible rfl); simp only [Act.put, List.setIfInBounds_toArray, List.set_cons_zero, List.set_cons_succ]) | (refine Heads.skip rfl ?_; simp only [Act.put, List.setIfInBounds_toArray, List.set_cons_zero, List.set_cons_succ]))
      (first | (refine Heads.val (v := ?_) rfl (fun wv hwv => ?_) ?_; rotate_left; (go_simp; with_reducible rfl); simp only [Act.put, List.setIfInBounds_toArray, List.set_cons_zero, List.set_cons_succ]) | (refine Heads.skip rfl ?_; simp only [Act.put, List.setIfInBounds_toArray, List.set_cons_zero, List.set_cons_succ]))
      (first | (refine Heads.val (v := ?_) rfl (fun wv hwv => ?_) ?_; rotate_left; (go_simp; with_reducible rfl); simp only [Act.put, List.setIfInBounds_toArray, List.set_cons_zero, List.set_cons_succ]) | (refine Heads.skip rfl ?_; simp only [Act.put, List.setIfInBounds_toArray, List.set_cons_zero, List.set_cons_succ]))
      (first | (refine Heads.val (v := ?_) rfl (fun wv hwv => ?_) ?_; rotate_left; (go_simp; with_reducible rfl); simp only [Act.put, List.setIfInBounds_toArray, List.set_cons_zero, List.set_cons_succ]) | (refine Heads.skip rfl ?_; simp only [Act.put, List.setIfInBounds_toArray, List.set_cons_zero, List.set_cons_succ]))
      (first | (refine Heads.val (v := ?_) rfl (fun wv hwv => ?_) ?_; rotate_left; (go_simp; with_reducible rfl); simp only [Act.put, List.setIfInBounds_toArray, List.set_cons_zero, List.set_cons_succ]) | (refine Heads.skip rfl ?_; simp only [Act.put, List.setIfInBounds_toArray, List.set_cons_zero, List.set_cons_succ]))
      (first | (refine Heads.val (v := ?_) rfl (fun wv hwv => ?_) ?_; rotate_left; (go_simp; with_reducible rfl); simp only [Act.put, List.setIfInBounds_toArray, List.set_cons_zero, List.set_cons_succ]) | (refine Heads.skip rfl ?_; simp only [Act.put, List.setIfInBounds_toArray, List.set_cons_zero, List.set_cons_succ]))
      (first | (refine Heads.val (v := ?_) rfl (fun wv hwv => ?_) ?_; rotate_left; (go_simp; with_reducible rfl); simp only [Act.put, List.setIfInBounds_toArray, List.set_cons_zero, List.set_cons_succ]) | (refine Heads.skip rfl ?_; simp only [Act.put, List.setIfInBounds_toArray, List.set_cons_zero, List.set_cons_succ]))
      (refine Heads.val (v := ?_) rfl (fun wv hwv => ?_) ?_; rotate_left; (go_simp; with_reducible rfl); simp only [Act.put, List.setIfInBounds_toArray, List.set_cons_zero, List.set_cons_succ])
      (refine Heads.val (v := ?_) rfl (fun wv hwv => ?_) ?_; rotate_left; (go_simp; with_reducible rfl); simp only [Act.put, List.setIfInBounds_toArray, List.set_cons_zero, List.set_cons_succ])
      (first | (refine Heads.val (v := ?_) rfl (fun wv hwv => ?_) ?_; rotate_left; (go_simp; with_reducible rfl); simp only [Act.put, List.setIfInBounds_toArray, List.set_cons_zero, List.set_cons_succ]) | (refine Heads.skip rfl ?_; simp only [Act.put, List.setIfInBounds_toArray, List.set_cons_zero, List.set_cons_succ]))
      (first | (refine Heads.val (v := ?_) rfl (fun wv hwv => ?_) ?_; rotate_left; (go_simp; with_reducible rfl); simp only [Act.put, List.setIfInBounds_toArray, List.set_cons_zero, List.set_cons_succ]) | (refine Heads.skip rfl ?_; simp only [Act.put, List.setIfInBounds_toArray, List.set_cons_zero, List.set_cons_succ]))
      (first | (refine Heads.val (v := ?_) rfl (fun wv hwv => ?_) ?_; rotate_left; (go_simp; with_reducible rfl); simp only [Act.put, List.setIfInBounds_toArray, List.set_cons_zero, List.set_cons_succ]) | (refine Heads.skip rfl ?_; simp only [Act.put, List.setIfInBounds_toArray, List.set_cons_zero, List.set_cons_succ]))
      (first | (refine Heads.val (v := ?_) rfl (fun wv hwv => ?_) ?_; rotate_left; (go_simp; with_reducible rfl); simp only [Act.put, List.setIfInBounds_toArray, List.set_cons_zero, List.set_cons_succ]) | (refine Heads.skip rfl ?_; simp only [Act.put, List.setIfInBounds_toArray, List.set_cons_zero, List.set_cons_succ]))
      (first | (refine Heads.val (v := ?_) rfl (fun wv hwv => ?_) ?_; rotate_left; (go_simp; with_reducible rfl); simp only [Act.put, List.setIfInBounds_toArray, List.set_cons_zero, List.set_cons_succ]) | (refine Heads.skip rfl ?_; simp only [Act.put, List.setIfInBounds_toArray, List.set_cons_zero, List.set_cons_succ]))
      (first | (refine Heads.val (v := ?_) rfl (fun wv hwv => ?_) ?_; rotate_left; (go_simp; with_reducible rfl); simp only [Act.put, List.setIfInBounds_toArray, List.set_cons_zero, List.set_cons_succ]) | (refine Heads.skip rfl ?_; simp only [Act.put, List.setIfInBounds_toArray, List.set_cons_zero, List.set_cons_succ]))
      (first | (refine Heads.call (v := ?_) rfl (fun wv hwv => ?_) ?_; rotate_left; (go_simp; simp only [GivesUpon.enter]; refine (c_room _ _ k1).mono ?_; rintro e w' ⟨rfl, hh⟩; refine ⟨?_, hwv.trans hh⟩; with_reducible rfl); simp only [Act.put, List.setIfInBounds_toArray, List.set_cons_zero, List.set_cons_succ]) | (refine Heads.skip rfl ?_; simp only [Act.put, List.setIfInBounds_toArray, List.set_cons_zero, List.set_cons_succ]))
      (first | (refine Heads.val (v := ?_) rfl (fun wv hwv => ?_) ?_; rotate_left; (go_simp; with_reducible rfl); simp only [Act.put, List.setIfInBounds_toArray, List.set_cons_zero, List.set_cons_succ]) | (refine Heads.skip rfl ?_; simp only [Act.put, List.setIfInBounds_toArray, List.set_cons_zero, List.set_cons_succ]))
      (first | (refine Heads.val (v := ?_) rfl (fun wv hwv => ?_) ?_; rotate_left; (go_simp; with_reducible rfl); simp only [Act.put, List.setIfInBounds_toArray, List.set_cons_zero, List.set_cons_succ]) | (refine Heads.skip rfl ?_; simp only [Act.put, List.setIfInBounds_toArray, List.set_cons_zero, List.set_cons_succ]))
      (first | (refine Heads.val (v := ?_) rfl (fun wv hwv => ?_) ?_; rotate_left; (go_simp; with_reducible rfl); simp only [Act.put, List.setIfInBounds_toArray, List.set_cons_zero, List.set_cons_succ]) | (refine Heads.skip rfl ?_; simp only [Act.put, List.setIfInBounds_toArray, List.set_cons_zero, List.set_cons_succ]))
      (first | (refine Heads.val (v := ?_) rfl (fun wv hwv => ?_) ?_; rotate_left; (go_simp; with_reducible rfl); simp only [Act.put, List.setIfInBounds_toArray, List.set_cons_zero, List.set_cons_succ]) | (refine Heads.skip rfl ?_; simp only [Act.put, List.setIfInBounds_toArray, List.set_cons_zero, List.set_cons_succ]))
      (first | (refine Heads.val (v := ?_) rfl (fun wv hwv => ?_) ?_; rotate_left; (go_simp; with_reducible rfl); simp only [Act.put, List.setIfInBounds_toArray, List.set_cons_zero, List.set_cons_succ]) | (refine Heads.skip rfl ?_; simp only [Act.put, List.setIfInBounds_toArray, List.set_cons_zero, List.set_cons_succ]))
      refine Heads.nil ?_
      intro w8 hw8
      have HB8 := Lib.hid (hw8.keep HB7.out)
      have c_HB8_w8 := fun w' o (k : Ext w8 w') => k.cellOf HB8.out o
      have f_HB8_w8 := fun w' o (k : Ext w8 w') => frozen_of (k.keep HB8.out) o
      have r_HB8_w8 := Ext.refl w8
      clear c_HB7_w7 f_HB7_w7 c_HC7_w7 f_HC7_w7 cE7
      go_wp2
      go_ret
      unfold PlaceRes
      rw [HF.out]
      exact ⟨rfl, (h7.ext hw8).keep1 ((((Upd.refl [b] _)).set1 _ _).set1 _ _) hb, ⟨(heap_set (heap_set HB8.out _ _) _ _).trans (by simp), k1, (by simp), k3, hll, k5⟩, (hub7.extR hw8).trans ((((Upd.refl [b] _)).set1 _ _).set1 _ _).hd⟩
  · have e1 : (k.state != 1) = true := by rw [bne_iff_ne]; exact t1
    have HF := Lib.hid (HE.out.trans (if_pos (Or.inl t1)))
    clear t1 HE
    refine wp_region_plan (Ext w7) [] [0, 1, 2, 3, 4, 5, 6, 7, 8, 9, 10, 11, 12, 13, 14, 15, 16, 17, 18, 19, 20, 21, 22, 23, 24] 25 [] Try.mixed (by kernel_rfl) (by intro c a d v w h; cases d <;> exact h) (Ext.refl _).drew ?_
    simp only [opsAt, List.filterMap_cons, List.filterMap_nil, List.getElem?_toArray, List.getElem?_cons_zero, List.getElem?_cons_succ]
    refine Firsts.nil ?_
    (refine Heads.val (v := ?_) rfl (fun wv hwv => ?_) ?_; rotate_left; (go_simp; with_reducible rfl); simp only [Act.put, List.setIfInBounds_toArray, List.set_cons_zero, List.set_cons_succ])
    (refine Heads.val (v := ?_) rfl (fun wv hwv => ?_) ?_; rotate_left; (go_simp; with_reducible rfl); simp only [Act.put, List.setIfInBounds_toArray, List.set_cons_zero, List.set_cons_succ])
    (refine Heads.val (v := ?_) rfl (fun wv hwv => ?_) ?_; rotate_left; (go_simp; with_reducible rfl); simp only [Act.put, List.setIfInBounds_toArray, List.set_cons_zero, List.set_cons_succ])
    (refine Heads.val (v := ?_) rfl (fun wv hwv => ?_) ?_; rotate_left; (go_simp; with_reducible rfl); simp only [Act.put, List.setIfInBounds_toArray, List.set_cons_zero, List.set_cons_succ])
    (first | (refine Heads.val (v := ?_) rfl (fun wv hwv => ?_) ?_; rotate_left; (go_simp; with_reducible rfl); simp only [Act.put, List.setIfInBounds_toArray, List.set_cons_zero, List.set_cons_succ]) | (refine Heads.skip rfl ?_; simp only [Act.put, List.setIfInBounds_toArray, List.set_cons_zero, List.set_cons_succ]))
    (first | (refine Heads.val (v := ?_) rfl (fun wv hwv => ?_) ?_; rotate_left; (go_simp; with_reducible rfl); simp only [Act.put, List.setIfInBounds_toArray, List.set_cons_zero, List.set_cons_succ]) | (refine Heads.skip rfl ?_; simp only [Act.put, List.setIfInBounds_toArray, List.set_cons_zero, List.set_cons_succ]))
    (first | (refine Heads.val (v := ?_) rfl (fun wv hwv => ?_) ?_; rotate_left; (go_simp; with_reducible rfl); simp only [Act.put, List.setIfInBounds_toArray, List.set_cons_zero, List.set_cons_succ]) | (refine Heads.skip rfl ?_; simp only [Act.put, List.setIfInBounds_toArray, List.set_cons_zero, List.set_cons_succ]))
    (first | (refine Heads.val (v := ?_) rfl (fun wv hwv => ?_) ?_; rotate_left; (go_simp; with_reducible rfl); simp only [Act.put, List.setIfInBounds_toArray, List.set_cons_zero, List.set_cons_succ]) | (refine Heads.skip rfl ?_; simp only [Act.put, List.setIfInBounds_toArray, List.set_cons_zero, List.set_cons_succ]))
    (first | (refine Heads.val (v := ?_) rfl (fun wv hwv => ?_) ?_; rotate_left; (go_simp; with_reducible rfl); simp only [Act.put, List.setIfInBounds_toArray, List.set_cons_zero, List.set_cons_succ]) | (refine Heads.skip rfl ?_; simp only [Act.put, List.setIfInBounds_toArray, List.set_cons_zero, List.set_cons_succ]))
    (first | (refine Heads.val (v := ?_) rfl (fun wv hwv => ?_) ?_; rotate_left; (go_simp; with_reducible rfl); simp only [Act.put, List.setIfInBounds_toArray, List.set_cons_zero, List.set_cons_succ]) | (refine Heads.skip rfl ?_; simp only [Act.put, List.setIfInBounds_toArray, List.set_cons_zero, List.set_cons_succ]))
    (first | (refine Heads.val (v := ?_) rfl (fun wv hwv => ?_) ?_; rotate_left; (go_simp; with_reducible rfl); simp only [Act.put, List.setIfInBounds_toArray, List.set_cons_zero, List.set_cons_succ]) | (refine Heads.skip rfl ?_; simp only [Act.put, List.setIfInBounds_toArray, List.set_cons_zero, List.set_cons_succ]))
    (refine Heads.val (v := ?_) rfl (fun wv hwv => ?_) ?_; rotate_left; (go_simp; with_reducible rfl); simp only [Act.put, List.setIfInBounds_toArray, List.set_cons_zero, List.set_cons_succ])
    (refine Heads.val (v := ?_) rfl (fun wv hwv => ?_) ?_; rotate_left; (go_simp; with_reducible rfl); simp only [Act.put, List.setIfInBounds_toArray, List.set_cons_zero, List.set_cons_succ])
    (first | (refine Heads.val (v := ?_) rfl (fun wv hwv => ?_) ?_; rotate_left; (go_simp; with_reducible rfl); simp only [Act.put, List.setIfInBounds_toArray, List.set_cons_zero, List.set_cons_succ]) | (refine Heads.skip rfl ?_; simp only [Act.put, List.setIfInBounds_toArray, List.set_cons_zero, List.set_cons_succ]))
    (first | (refine Heads.val (v := ?_) rfl (fun wv hwv => ?_) ?_; rotate_left; (go_simp; with_reducible rfl); simp only [Act.put, List.setIfInBounds_toArray, List.set_cons_zero, List.set_cons_succ]) | (refine Heads.skip rfl ?_; simp only [Act.put, List.setIfInBounds_toArray, List.set_cons_zero, List.set_cons_succ]))
    (first | (refine Heads.val (v := ?_) rfl (fun wv hwv => ?_) ?_; rotate_left; (go_simp; with_reducible rfl); simp only [Act.put, List.setIfInBounds_toArray, List.set_cons_zero, List.set_cons_succ]) | (refine Heads.skip rfl ?_; simp only [Act.put, List.setIfInBounds_toArray, List.set_cons_zero, List.set_cons_succ]))
    (first | (refine Heads.val (v := ?_) rfl (fun wv hwv => ?_) ?_; rotate_left; (go_simp; with_reducible rfl); simp only [Act.put, List.setIfInBounds_toArray, List.set_cons_zero, List.set_cons_succ]) | (refine Heads.skip rfl ?_; simp only [Act.put, List.setIfInBounds_toArray, List.set_cons_zero, List.set_cons_succ]))
    (first | (refine Heads.val (v := ?_) rfl (fun wv hwv => ?_) ?_; rotate_left; (go_simp; with_reducible rfl); simp only [Act.put, List.setIfInBounds_toArray, List.set_cons_zero, List.set_cons_succ]) | (refine Heads.skip rfl ?_; simp only [Act.put, List.setIfInBounds_toArray, List.set_cons_zero, List.set_cons_succ]))
    (first | (refine Heads.val (v := ?_) rfl (fun wv hwv => ?_) ?_; rotate_left; (go_simp; with_reducible rfl); simp only [Act.put, List.setIfInBounds_toArray, List.set_cons_zero, List.set_cons_succ]) | (refine Heads.skip rfl ?_; simp only [Act.put, List.setIfInBounds_toArray, List.set_cons_zero, List.set_cons_succ]))
    (first | (refine Heads.call (v := ?_) rfl (fun wv hwv => ?_) ?_; rotate_left; (go_simp; simp only [GivesUpon.enter]; refine (c_room _ _ k1).mono ?_; rintro e w' ⟨rfl, hh⟩; refine ⟨?_, hwv.trans hh⟩; with_reducible rfl); simp only [Act.put, List.setIfInBounds_toArray, List.set_cons_zero, List.set_cons_succ]) | (refine Heads.skip rfl ?_; simp only [Act.put, List.setIfInBounds_toArray, List.set_cons_zero, List.set_cons_succ]))
    (first | (refine Heads.val (v := ?_) rfl (fun wv hwv => ?_) ?_; rotate_left; (go_simp; with_reducible rfl); simp only [Act.put, List.setIfInBounds_toArray, List.set_cons_zero, List.set_cons_succ]) | (refine Heads.skip rfl ?_; simp only [Act.put, List.setIfInBounds_toArray, List.set_cons_zero, List.set_cons_succ]))
    (first | (refine Heads.val (v := ?_) rfl (fun wv hwv => ?_) ?_; rotate_left; (go_simp; with_reducible rfl); simp only [Act.put, List.setIfInBounds_toArray, List.set_cons_zero, List.set_cons_succ]) | (refine Heads.skip rfl ?_; simp only [Act.put, List.setIfInBounds_toArray, List.set_cons_zero, List.set_cons_succ]))
    (first | (refine Heads.val (v := ?_) rfl (fun wv hwv => ?_) ?_; rotate_left; (go_simp; with_reducible rfl); simp only [Act.put, List.setIfInBounds_toArray, List.set_cons_zero, List.set_cons_succ]) | (refine Heads.skip rfl ?_; simp only [Act.put, List.setIfInBounds_toArray, List.set_cons_zero, List.set_cons_succ]))
    (first | (refine Heads.val (v := ?_) rfl (fun wv hwv => ?_) ?_; rotate_left; (go_simp; with_reducible rfl); simp only [Act.put, List.setIfInBounds_toArray, List.set_cons_zero, List.set_cons_succ]) | (refine Heads.skip rfl ?_; simp only [Act.put, List.setIfInBounds_toArray, List.set_cons_zero, List.set_cons_succ]))
    (first | (refine Heads.val (v := ?_) rfl (fun wv hwv => ?_) ?_; rotate_left; (go_simp; with_reducible rfl); simp only [Act.put, List.setIfInBounds_toArray, List.set_cons_zero, List.set_cons_succ]) | (refine Heads.skip rfl ?_; simp only [Act.put, List.setIfInBounds_toArray, List.set_cons_zero, List.set_cons_succ]))
    refine Heads.nil ?_
    intro w8 hw8
    have HB8 := Lib.hid (hw8.keep HB7.out)
    have c_HB8_w8 := fun w' o (k : Ext w8 w') => k.cellOf HB8.out o
    have f_HB8_w8 := fun w' o (k : Ext w8 w') => frozen_of (k.keep HB8.out) o
    have r_HB8_w8 := Ext.refl w8
    clear c_HB7_w7 f_HB7_w7 c_HC7_w7 f_HC7_w7 cE7
    go_wp2
    go_ret
    unfold PlaceRes
    rw [HF.out]
    exact ⟨rfl, (h7.ext hw8).keep1 ((((Upd.refl [b] _)).set1 _ _).set1 _ _) hb, ⟨(heap_set (heap_set HB8.out _ _) _ _).trans (by simp), k1, (by simp), k3, hll, k5⟩, (hub7.extR hw8).trans ((((Upd.refl [b] _)).set1 _ _).set1 _ _).hd⟩

set_option maxHeartbeats 1000000 in
set_option maxRecDepth 100000 in
theorem p_step3 (c : Fl.Cfg) (l : Loc) (σ : Fl.Mem) (who : Int) (b : Nat) (p : Fl.Place) (W : World) (gc : GoodC c) (h : MemAt W l σ) (hs : 0 ≤ σ.steps ∧ σ.steps < 4611686018427387904)
    (hp : PlaceAt W b p) (hb : b ∉ l.all) (hsafe : placeSafe who σ p) (p0 : p.pc = 3) :
    Calls Try.prog 96 #[.pointer (some ⟨b, 0, none⟩), .agg #[.int .i64 c.threads, .int .i64 c.slots, .int .i64 c.chunks, .int .i64 c.words, .int .i64 c.gens, .int .i64 c.sparse, .int .i64 c.tries, .pointer (some ⟨l.m, 0, none⟩), .int .i64 who]] W (PlaceRes c who σ p l b W) := by
  have ha := hsafe.1
  have HP := Lib.hid (place3 c who σ p p0)
  have HP0 := Lib.hid p0
  obtain ⟨hB, k1, k2, k3, k4, k5⟩ := hp
  have hlt := h.lt
  have hbl := lt_of_heap hB
  have hE := heap_new W (.cells #[.int .i64 c.threads, .int .i64 c.slots, .int .i64 c.chunks, .int .i64 c.words, .int .i64 c.gens, .int .i64 c.sparse, .int .i64 c.tries, .pointer (some ⟨l.m, 0, none⟩), .int .i64 who] 27)
  have hX := (Ext.refl W).alloc (.cells #[.int .i64 c.threads, .int .i64 c.slots, .int .i64 c.chunks, .int .i64 c.words, .int .i64 c.gens, .int .i64 c.sparse, .int .i64 c.tries, .pointer (some ⟨l.m, 0, none⟩), .int .i64 who] 27)
  have hsE := lt_of_heap hE
  rw [p0] at hB
  have HB1 := Lib.hid (hX.keep hB)
  have c0 := fun w' o (k : Ext W w') => k.cellOf hB o
  clear hB
  have fld := field_chunk0
  go_enter Try.func96, Try.ntmps96
  go_wp2_with fail
  generalize W.alloc (.cells #[.int .i64 c.threads, .int .i64 c.slots, .int .i64 c.chunks, .int .i64 c.words, .int .i64 c.gens, .int .i64 c.sparse, .int .i64 c.tries, .pointer (some ⟨l.m, 0, none⟩), .int .i64 who] 27) = w1 at *
  have cE := fun w' o (k : Ext w1 w') => k.cellOf hE o
  have cb1 := fun w' o (k : Ext w1 w') => c0 w' o (hX.trans k)
  have r1 := Ext.refl w1
  have c_HB1_w1 := fun w' o (k : Ext w1 w') => k.cellOf HB1.out o
  have f_HB1_w1 := fun w' o (k : Ext w1 w') => frozen_of (k.keep HB1.out) o
  have r_HB1_w1 := Ext.refl w1
  refine wp_region_plan (Ext w1) [0] [1, 2, 3, 4, 5, 6, 7, 8] 9 [10, 11, 12] Try.mixed (by kernel_rfl) (by intro c a d v w h; cases d <;> exact h) (r1).drew ?_
  simp only [opsAt, List.filterMap_cons, List.filterMap_nil, List.getElem?_toArray, List.getElem?_cons_zero, List.getElem?_cons_succ]
  (refine Firsts.val (v := ?_) rfl (fun _ => ?_) ?_; rotate_left; (go_simp; with_reducible rfl); simp only [Act.put, List.setIfInBounds_toArray, List.set_cons_zero, List.set_cons_succ])
  refine Firsts.nil ?_
  (refine Heads.val (v := ?_) rfl (fun wv hwv => ?_) ?_; rotate_left; (go_simp; with_reducible rfl); simp only [Act.put, List.setIfInBounds_toArray, List.set_cons_zero, List.set_cons_succ])
  (refine Heads.val (v := ?_) rfl (fun wv hwv => ?_) ?_; rotate_left; (go_simp; with_reducible rfl); simp only [Act.put, List.setIfInBounds_toArray, List.set_cons_zero, List.set_cons_succ])
  (refine Heads.val (v := ?_) rfl (fun wv hwv => ?_) ?_; rotate_left; (go_simp; with_reducible rfl); simp only [Act.put, List.setIfInBounds_toArray, List.set_cons_zero, List.set_cons_succ])
  (refine Heads.val (v := ?_) rfl (fun wv hwv => ?_) ?_; rotate_left; (go_simp; with_reducible rfl); simp only [Act.put, List.setIfInBounds_toArray, List.set_cons_zero, List.set_cons_succ])
  (refine Heads.val (v := ?_) rfl (fun wv hwv => ?_) ?_; rotate_left; (go_simp; with_reducible rfl); simp only [Act.put, List.setIfInBounds_toArray, List.set_cons_zero, List.set_cons_succ])
  (refine Heads.val (v := ?_) rfl (fun wv hwv => ?_) ?_; rotate_left; (go_simp; with_reducible rfl); simp only [Act.put, List.setIfInBounds_toArray, List.set_cons_zero, List.set_cons_succ])
  (refine Heads.val (v := ?_) rfl (fun wv hwv => ?_) ?_; rotate_left; (go_simp; with_reducible rfl); simp only [Act.put, List.setIfInBounds_toArray, List.set_cons_zero, List.set_cons_succ])
  (refine Heads.call (v := ?_) rfl (fun wv hwv => ?_) ?_; rotate_left; (go_simp; simp only [GivesUpon.enter]; refine (c_pChunk c _ _ gc (by omega)).mono ?_; rintro e w' ⟨rfl, hh⟩; refine ⟨?_, hwv.trans hh⟩; with_reducible rfl); simp only [Act.put, List.setIfInBounds_toArray, List.set_cons_zero, List.set_cons_succ])
  refine Heads.nil ?_
  intro w3 hw3
  go_wp2_with fail
  have hll := load_lt h who (Fl.pChunk c p.at_)
  refine (e_load c l σ who _ _ (h.ext (hX.trans hw3)) hs).mono ?_
  rintro e w4 ⟨rfl, h4, u4⟩
  generalize hl : σ.load who (Fl.pChunk c p.at_) = lx at *
  obtain ⟨x, σ'⟩ := lx
  simp only at hll h4
  have HB4 := Lib.hid (u4.keep (hw3.keep HB1.out) hb)
  have E4 := u4.keep (hw3.keep hE) (by intro hm; have := hlt _ hm; omega)
  have hub : Upd (b :: l.all) W w4 := ((hX.trans hw3).upd _).trans u4.tl
  have HE := Lib.hid (HP.out x σ' rfl)
  have c_HB4_w4 := fun w' o (k : Ext w4 w') => k.cellOf HB4.out o
  have f_HB4_w4 := fun w' o (k : Ext w4 w') => frozen_of (k.keep HB4.out) o
  have r_HB4_w4 := Ext.refl w4
  clear c0 cb1 cE c_HB1_w1 f_HB1_w1 HP hl
  go_wp2_with fail
  have HB5 := Lib.hid (heap_set HB4.out 4 (.int .u64 (x : Nat)))
  have u_w5 := ((Upd.refl [b] w4).set1 4 (.int .u64 (x : Nat)))
  have h5 := h4.keep1 u_w5 hb
  generalize (World.setCell w4 ⟨b, 4, none⟩ (.int .u64 (x : Nat))) = w5 at *
  simp only [List.setIfInBounds_toArray, List.set_cons_zero, List.set_cons_succ] at HB5
  have E5 := u_w5.keep E4 (by simp; omega)
  have c_HB5_w5 := fun w' o (k : Ext w5 w') => k.cellOf HB5.out o
  have f_HB5_w5 := fun w' o (k : Ext w5 w') => frozen_of (k.keep HB5.out) o
  have r_HB5_w5 := Ext.refl w5
  have cE5 := fun w' o (k : Ext w5 w') => k.cellOf E5 o
  clear c_HB4_w4 f_HB4_w4 r_HB4_w4
  refine (c_chunk _ _ hll).mono ?_
  rintro e w6 ⟨rfl, x6⟩
  have HB6 := Lib.hid (x6.keep HB5.out)
  have c_HB6_w6 := fun w' o (k : Ext w6 w') => k.cellOf HB6.out o
  have f_HB6_w6 := fun w' o (k : Ext w6 w') => frozen_of (k.keep HB6.out) o
  have r_HB6_w6 := Ext.refl w6
  by_cases t1 : (Fl.chunkOf x).state = 0
  · have e1 : ((Fl.chunkOf x).state != 0) = false := by rw [bne_eq_false_iff_eq]; exact t1
    have HF := Lib.hid (HE.out.trans (if_neg (by omega)))
    clear t1 HE
    go_wp2
    go_ret
    unfold PlaceRes
    rw [HF.out]
    exact ⟨rfl, (h5.ext x6).keep1 (((Upd.refl [b] _)).set1 _ _) hb, ⟨(heap_set HB6.out _ _).trans (by simp), k1, k2, k3, hll, k5⟩, ((hub.trans u_w5.hd).extR x6).trans (((Upd.refl [b] _)).set1 _ _).hd⟩
  · have e1 : ((Fl.chunkOf x).state != 0) = true := by rw [bne_iff_ne]; exact t1
    have HF := Lib.hid (HE.out.trans (if_pos t1))
    clear t1 HE
    go_wp2_with fail
    refine (p_on c l who b { p with w := x } _ ⟨by rw [HP0.out]; exact HB6.out, k1, k2, k3, hll, k5⟩ ha).mono ?_
    rintro e w7 ⟨rfl, hp7, u7⟩
    go_wp2
    go_ret
    unfold PlaceRes
    rw [HF.out]
    exact ⟨rfl, (h5.ext x6).keep1 u7 hb, hp7, ((hub.trans u_w5.hd).extR x6).trans u7.hd⟩

theorem fresh_lt (p : Fl.Place) : p.fresh < 18446744073709551616 := Fl.putChunk_lt _

set_option maxHeartbeats 1000000 in
set_option maxRecDepth 100000 in
theorem p_step4 (c : Fl.Cfg) (l : Loc) (σ : Fl.Mem) (who : Int) (b : Nat) (p : Fl.Place) (W : World) (gc : GoodC c) (h : MemAt W l σ) (hs : 0 ≤ σ.steps ∧ σ.steps < 4611686018427387904)
    (hp : PlaceAt W b p) (hb : b ∉ l.all) (hsafe : placeSafe who σ p) (p0 : p.pc = 4) :
    Calls Try.prog 96 #[.pointer (some ⟨b, 0, none⟩), .agg #[.int .i64 c.threads, .int .i64 c.slots, .int .i64 c.chunks, .int .i64 c.words, .int .i64 c.gens, .int .i64 c.sparse, .int .i64 c.tries, .pointer (some ⟨l.m, 0, none⟩), .int .i64 who]] W (PlaceRes c who σ p l b W) := by
  have ha := hsafe.1
  have HP := Lib.hid (place4 c who σ p p0)
  have hp' := hp
  obtain ⟨hB, k1, k2, k3, k4, k5⟩ := hp
  have hlt := h.lt
  have hbl := lt_of_heap hB
  have hE := heap_new W (.cells #[.int .i64 c.threads, .int .i64 c.slots, .int .i64 c.chunks, .int .i64 c.words, .int .i64 c.gens, .int .i64 c.sparse, .int .i64 c.tries, .pointer (some ⟨l.m, 0, none⟩), .int .i64 who] 27)
  have hX := (Ext.refl W).alloc (.cells #[.int .i64 c.threads, .int .i64 c.slots, .int .i64 c.chunks, .int .i64 c.words, .int .i64 c.gens, .int .i64 c.sparse, .int .i64 c.tries, .pointer (some ⟨l.m, 0, none⟩), .int .i64 who] 27)
  have hsE := lt_of_heap hE
  rw [p0] at hB
  have HB1 := Lib.hid (hX.keep hB)
  have c0 := fun w' o (k : Ext W w') => k.cellOf hB o
  clear hB
  go_enter Try.func96, Try.ntmps96
  go_wp2_with fail
  generalize W.alloc (.cells #[.int .i64 c.threads, .int .i64 c.slots, .int .i64 c.chunks, .int .i64 c.words, .int .i64 c.gens, .int .i64 c.sparse, .int .i64 c.tries, .pointer (some ⟨l.m, 0, none⟩), .int .i64 who] 27) = w1 at *
  have cE := fun w' o (k : Ext w1 w') => k.cellOf hE o
  have cb1 := fun w' o (k : Ext w1 w') => c0 w' o (hX.trans k)
  have r1 := Ext.refl w1
  have c_HB1_w1 := fun w' o (k : Ext w1 w') => k.cellOf HB1.out o
  have f_HB1_w1 := fun w' o (k : Ext w1 w') => frozen_of (k.keep HB1.out) o
  have r_HB1_w1 := Ext.refl w1
  have hp1 : PlaceAt w1 b p := ⟨hX.keep hp'.blk, k1, k2, k3, k4, k5⟩
  refine wp_region_plan (Ext w1) [] [0, 1, 2, 3, 4, 5, 6, 7, 8, 9, 10, 11, 12, 13] 14 [15] Try.mixed (by kernel_rfl) (by intro c a d v w h; cases d <;> exact h) (r1).drew ?_
  simp only [opsAt, List.filterMap_cons, List.filterMap_nil, List.getElem?_toArray, List.getElem?_cons_zero, List.getElem?_cons_succ]
  refine Firsts.nil ?_
  (refine Heads.val (v := ?_) rfl (fun wv hwv => ?_) ?_; rotate_left; (go_simp; with_reducible rfl); simp only [Act.put, List.setIfInBounds_toArray, List.set_cons_zero, List.set_cons_succ])
  (refine Heads.val (v := ?_) rfl (fun wv hwv => ?_) ?_; rotate_left; (go_simp; with_reducible rfl); simp only [Act.put, List.setIfInBounds_toArray, List.set_cons_zero, List.set_cons_succ])
  (refine Heads.val (v := ?_) rfl (fun wv hwv => ?_) ?_; rotate_left; (go_simp; with_reducible rfl); simp only [Act.put, List.setIfInBounds_toArray, List.set_cons_zero, List.set_cons_succ])
  (refine Heads.val (v := ?_) rfl (fun wv hwv => ?_) ?_; rotate_left; (go_simp; with_reducible rfl); simp only [Act.put, List.setIfInBounds_toArray, List.set_cons_zero, List.set_cons_succ])
  (refine Heads.val (v := ?_) rfl (fun wv hwv => ?_) ?_; rotate_left; (go_simp; with_reducible rfl); simp only [Act.put, List.setIfInBounds_toArray, List.set_cons_zero, List.set_cons_succ])
  (refine Heads.val (v := ?_) rfl (fun wv hwv => ?_) ?_; rotate_left; (go_simp; with_reducible rfl); simp only [Act.put, List.setIfInBounds_toArray, List.set_cons_zero, List.set_cons_succ])
  (refine Heads.val (v := ?_) rfl (fun wv hwv => ?_) ?_; rotate_left; (go_simp; with_reducible rfl); simp only [Act.put, List.setIfInBounds_toArray, List.set_cons_zero, List.set_cons_succ])
  (refine Heads.call (v := ?_) rfl (fun wv hwv => ?_) ?_; rotate_left; (go_simp; simp only [GivesUpon.enter]; refine (c_pChunk c _ _ gc (by omega)).mono ?_; rintro e w' ⟨rfl, hh⟩; refine ⟨?_, hwv.trans hh⟩; with_reducible rfl); simp only [Act.put, List.setIfInBounds_toArray, List.set_cons_zero, List.set_cons_succ])
  (refine Heads.val (v := ?_) rfl (fun wv hwv => ?_) ?_; rotate_left; (go_simp; with_reducible rfl); simp only [Act.put, List.setIfInBounds_toArray, List.set_cons_zero, List.set_cons_succ])
  (refine Heads.val (v := ?_) rfl (fun wv hwv => ?_) ?_; rotate_left; (go_simp; with_reducible rfl); simp only [Act.put, List.setIfInBounds_toArray, List.set_cons_zero, List.set_cons_succ])
  (refine Heads.val (v := ?_) rfl (fun wv hwv => ?_) ?_; rotate_left; (go_simp; with_reducible rfl); simp only [Act.put, List.setIfInBounds_toArray, List.set_cons_zero, List.set_cons_succ])
  (refine Heads.val (v := ?_) rfl (fun wv hwv => ?_) ?_; rotate_left; (go_simp; with_reducible rfl); simp only [Act.put, List.setIfInBounds_toArray, List.set_cons_zero, List.set_cons_succ])
  (refine Heads.val (v := ?_) rfl (fun wv hwv => ?_) ?_; rotate_left; (go_simp; with_reducible rfl); simp only [Act.put, List.setIfInBounds_toArray, List.set_cons_zero, List.set_cons_succ])
  (refine Heads.call (v := ?_) rfl (fun wv hwv => ?_) ?_; rotate_left; (go_simp; simp only [GivesUpon.enter]; refine (p_fresh b p _ ⟨hwv.keep hp1.blk, k1, k2, k3, k4, k5⟩).mono ?_; rintro e w' ⟨rfl, hh⟩; refine ⟨?_, hwv.trans hh⟩; with_reducible rfl); simp only [Act.put, List.setIfInBounds_toArray, List.set_cons_zero, List.set_cons_succ])
  refine Heads.nil ?_
  intro w3 hw3
  go_wp2_with fail
  refine (e_cas c l σ who _ _ _ _ (h.ext (hX.trans hw3)) hs (fresh_lt p)).mono ?_
  rintro e w4 ⟨rfl, h4, u4⟩
  have HB4 := Lib.hid (u4.keep (hw3.keep HB1.out) hb)
  have hp4 : PlaceAt w4 b p := ⟨u4.keep (hw3.keep hp1.blk) hb, k1, k2, k3, k4, k5⟩
  have E4 := u4.keep (hw3.keep hE) (by intro hm; have := hlt _ hm; omega)
  have hub : Upd (b :: l.all) W w4 := ((hX.trans hw3).upd _).trans u4.tl
  generalize hcs : σ.cas who (Fl.pChunk c p.at_) p.w p.fresh = cs at *
  obtain ⟨y, σ'⟩ := cs
  have HE := Lib.hid (HP.out y σ' rfl)
  have c_HB4_w4 := fun w' o (k : Ext w4 w') => k.cellOf HB4.out o
  have f_HB4_w4 := fun w' o (k : Ext w4 w') => frozen_of (k.keep HB4.out) o
  have r_HB4_w4 := Ext.refl w4
  have cE4 := fun w' o (k : Ext w4 w') => k.cellOf E4 o
  clear c0 cb1 cE c_HB1_w1 f_HB1_w1 HP hcs
  cases y
  · have HF := Lib.hid (HE.out.trans (if_pos rfl))
    clear HE
    go_wp2_with fail
    refine (p_on c l who b p _ hp4 ha).mono ?_
    rintro e w7 ⟨rfl, hp7, u7⟩
    go_wp2
    go_ret
    unfold PlaceRes
    rw [HF.out]
    exact ⟨rfl, h4.keep1 u7 hb, hp7, hub.trans u7.hd⟩
  · have HF := Lib.hid (HE.out.trans (if_neg (by decide)))
    clear HE
    go_wp2
    go_ret
    unfold PlaceRes
    rw [HF.out]
    exact ⟨rfl, h4.keep1 (((Upd.refl [b] _)).set1 _ _) hb, ⟨(heap_set HB4.out _ _).trans (by simp), k1, k2, k3, k4, k5⟩, hub.trans (((Upd.refl [b] _)).set1 _ _).hd⟩

set_option maxHeartbeats 1000000 in
set_option maxRecDepth 100000 in
theorem p_step5 (c : Fl.Cfg) (l : Loc) (σ : Fl.Mem) (who : Int) (b : Nat) (p : Fl.Place) (W : World) (gc : GoodC c) (h : MemAt W l σ) (hs : 0 ≤ σ.steps ∧ σ.steps < 4611686018427387904)
    (hp : PlaceAt W b p) (hb : b ∉ l.all) (hsafe : placeSafe who σ p) (p0 : p.pc = 5) :
    Calls Try.prog 96 #[.pointer (some ⟨b, 0, none⟩), .agg #[.int .i64 c.threads, .int .i64 c.slots, .int .i64 c.chunks, .int .i64 c.words, .int .i64 c.gens, .int .i64 c.sparse, .int .i64 c.tries, .pointer (some ⟨l.m, 0, none⟩), .int .i64 who]] W (PlaceRes c who σ p l b W) := by
  have ha := hsafe.1
  obtain ⟨hB, k1, k2, k3, k4, k5⟩ := hp
  have hlt := h.lt
  have hbl := lt_of_heap hB
  rw [p0] at hB
  have hE := heap_new (W.setCell ⟨b, 1, none⟩ (.int .i64 6)) (.cells #[.int .i64 c.threads, .int .i64 c.slots, .int .i64 c.chunks, .int .i64 c.words, .int .i64 c.gens, .int .i64 c.sparse, .int .i64 c.tries, .pointer (some ⟨l.m, 0, none⟩), .int .i64 who] 27)
  have hU := ((Upd.refl [b] W).set1 1 (.int .i64 6)).alloc (.cells #[.int .i64 c.threads, .int .i64 c.slots, .int .i64 c.chunks, .int .i64 c.words, .int .i64 c.gens, .int .i64 c.sparse, .int .i64 c.tries, .pointer (some ⟨l.m, 0, none⟩), .int .i64 who] 27)
  have HB1 := Lib.hid (heap_old (o' := .cells #[.int .i64 c.threads, .int .i64 c.slots, .int .i64 c.chunks, .int .i64 c.words, .int .i64 c.gens, .int .i64 c.sparse, .int .i64 c.tries, .pointer (some ⟨l.m, 0, none⟩), .int .i64 who] 27) (heap_set hB 1 (.int .i64 6)))
  have h1 := h.keep1 hU hb
  simp only [World.size_setCell] at hE
  simp only [List.setIfInBounds_toArray, List.set_cons_zero, List.set_cons_succ] at HB1
  have c0 := fun w' o (k : Ext W w') => k.cellOf hB o
  have f0 := fun o => frozen_of hB o
  have r0 := Ext.refl W
  obtain ⟨n, hn⟩ : ∃ n : Nat, p.at_ + 1 = n := ⟨(p.at_ + 1).toNat, by omega⟩
  have hu : Fl.u64 (p.at_ + 1) = n := by unfold Fl.u64; omega
  have hnb : n ≤ 1000001 := by omega
  have hp5 := place5 c who σ p p0
  rw [hu] at hp5
  have HP := Lib.hid hp5
  have HN := Lib.hid hn
  have ew := wrap64_id (n := p.at_ + 1) (by omega) (by omega)
  clear hp5 hn hu
  have hpo : -4294967296 ≤ p.cls ∧ p.cls ≤ 4294967296 := by omega
  clear hB
  go_enter Try.func96, Try.ntmps96
  go_wp2_with fail
  generalize (W.setCell ⟨b, 1, none⟩ (.int .i64 6)).alloc (.cells #[.int .i64 c.threads, .int .i64 c.slots, .int .i64 c.chunks, .int .i64 c.words, .int .i64 c.gens, .int .i64 c.sparse, .int .i64 c.tries, .pointer (some ⟨l.m, 0, none⟩), .int .i64 who] 27) = w1 at *
  have cE := fun w' o (k : Ext w1 w') => k.cellOf hE o
  have c_HB1_w1 := fun w' o (k : Ext w1 w') => k.cellOf HB1.out o
  have f_HB1_w1 := fun w' o (k : Ext w1 w') => frozen_of (k.keep HB1.out) o
  have r_HB1_w1 := Ext.refl w1
  clear c0 f0
  refine wp_region_plan (Ext w1) [] [0, 1, 2, 3, 4, 5, 6, 7, 8, 9, 10, 11, 12, 13, 14, 15] 16 [] Try.mixed (by kernel_rfl) (by intro c a d v w h; cases d <;> exact h) (Ext.refl _).drew ?_
  simp only [opsAt, List.filterMap_cons, List.filterMap_nil, List.getElem?_toArray, List.getElem?_cons_zero, List.getElem?_cons_succ]
  refine Firsts.nil ?_
  (refine Heads.val (v := ?_) rfl (fun wv hwv => ?_) ?_; rotate_left; (go_simp; with_reducible rfl); simp only [Act.put, List.setIfInBounds_toArray, List.set_cons_zero, List.set_cons_succ])
  (refine Heads.val (v := ?_) rfl (fun wv hwv => ?_) ?_; rotate_left; (go_simp; with_reducible rfl); simp only [Act.put, List.setIfInBounds_toArray, List.set_cons_zero, List.set_cons_succ])
  (refine Heads.val (v := ?_) rfl (fun wv hwv => ?_) ?_; rotate_left; (go_simp; with_reducible rfl); simp only [Act.put, List.setIfInBounds_toArray, List.set_cons_zero, List.set_cons_succ])
  (refine Heads.val (v := ?_) rfl (fun wv hwv => ?_) ?_; rotate_left; (go_simp; with_reducible rfl); simp only [Act.put, List.setIfInBounds_toArray, List.set_cons_zero, List.set_cons_succ])
  (refine Heads.val (v := ?_) rfl (fun wv hwv => ?_) ?_; rotate_left; (go_simp; with_reducible rfl); simp only [Act.put, List.setIfInBounds_toArray, List.set_cons_zero, List.set_cons_succ])
  (refine Heads.call (v := ?_) rfl (fun wv hwv => ?_) ?_; rotate_left; (go_simp; simp only [GivesUpon.enter]; refine (c_pOpen _ _ hpo).mono ?_; rintro e w' ⟨rfl, hh⟩; refine ⟨?_, hwv.trans hh⟩; with_reducible rfl); simp only [Act.put, List.setIfInBounds_toArray, List.set_cons_zero, List.set_cons_succ])
  (refine Heads.val (v := ?_) rfl (fun wv hwv => ?_) ?_; rotate_left; (go_simp; with_reducible rfl); simp only [Act.put, List.setIfInBounds_toArray, List.set_cons_zero, List.set_cons_succ])
  (refine Heads.val (v := ?_) rfl (fun wv hwv => ?_) ?_; rotate_left; (go_simp; with_reducible rfl); simp only [Act.put, List.setIfInBounds_toArray, List.set_cons_zero, List.set_cons_succ])
  (refine Heads.val (v := ?_) rfl (fun wv hwv => ?_) ?_; rotate_left; (go_simp; with_reducible rfl); simp only [Act.put, List.setIfInBounds_toArray, List.set_cons_zero, List.set_cons_succ])
  (refine Heads.val (v := ?_) rfl (fun wv hwv => ?_) ?_; rotate_left; (go_simp; with_reducible rfl); simp only [Act.put, List.setIfInBounds_toArray, List.set_cons_zero, List.set_cons_succ])
  (refine Heads.val (v := ?_) rfl (fun wv hwv => ?_) ?_; rotate_left; (go_simp; with_reducible rfl); simp only [Act.put, List.setIfInBounds_toArray, List.set_cons_zero, List.set_cons_succ])
  (refine Heads.val (v := ?_) rfl (fun wv hwv => ?_) ?_; rotate_left; (go_simp; with_reducible rfl); simp only [Act.put, List.setIfInBounds_toArray, List.set_cons_zero, List.set_cons_succ])
  (refine Heads.val (v := ?_) rfl (fun wv hwv => ?_) ?_; rotate_left; (go_simp; with_reducible rfl); simp only [Act.put, List.setIfInBounds_toArray, List.set_cons_zero, List.set_cons_succ])
  (refine Heads.val (v := ?_) rfl (fun wv hwv => ?_) ?_; rotate_left; (go_simp; with_reducible rfl); simp only [Act.put, List.setIfInBounds_toArray, List.set_cons_zero, List.set_cons_succ])
  (refine Heads.val (v := ?_) rfl (fun wv hwv => ?_) ?_; rotate_left; (go_simp; with_reducible rfl); simp only [Act.put, List.setIfInBounds_toArray, List.set_cons_zero, List.set_cons_succ])
  (refine Heads.val (v := ?_) rfl (fun wv hwv => ?_) ?_; rotate_left; (go_simp; with_reducible rfl); simp only [Act.put, List.setIfInBounds_toArray, List.set_cons_zero, List.set_cons_succ])
  refine Heads.nil ?_
  intro w3 hw3
  go_wp2_with fail
  rw [HN.out]
  refine (e_cas c l σ who _ _ n _ (h1.ext hw3) hs (by omega)).mono ?_
  rintro e w4 ⟨rfl, h4, u4⟩
  have HB4 := Lib.hid (u4.keep (hw3.keep HB1.out) hb)
  have hub : Upd (b :: l.all) W w4 := ((hU.hd).extR hw3).trans u4.tl
  generalize hcs : σ.cas who (Fl.pOpen p.cls) p.opn n = cs at *
  obtain ⟨y, σ'⟩ := cs
  have HE := Lib.hid (HP.out y σ' rfl)
  have c_HB4_w4 := fun w' o (k : Ext w4 w') => k.cellOf HB4.out o
  have f_HB4_w4 := fun w' o (k : Ext w4 w') => frozen_of (k.keep HB4.out) o
  have r_HB4_w4 := Ext.refl w4
  clear cE c_HB1_w1 f_HB1_w1 HP hcs
  cases y
  · have HF := Lib.hid (HE.out.trans (if_neg (by decide)))
    clear HE
    go_wp2
    go_ret
    unfold PlaceRes
    rw [HF.out]
    exact ⟨rfl, h4, ⟨HB4.out, k1, k2, k3, k4, k5⟩, hub⟩
  · have HF := Lib.hid (HE.out.trans (if_pos rfl))
    clear HE
    go_wp2
    go_ret
    unfold PlaceRes
    rw [HF.out]
    exact ⟨rfl, h4.keep1 (((Upd.refl [b] _)).set1 _ _) hb, ⟨(heap_set HB4.out _ _).trans (by simp), k1, k2, k3, k4, k5⟩, hub.trans (((Upd.refl [b] _)).set1 _ _).hd⟩

set_option maxHeartbeats 1000000 in
set_option maxRecDepth 100000 in
theorem p_step6 (c : Fl.Cfg) (l : Loc) (σ : Fl.Mem) (who : Int) (b : Nat) (p : Fl.Place) (W : World) (gc : GoodC c) (h : MemAt W l σ) (hs : 0 ≤ σ.steps ∧ σ.steps < 4611686018427387904)
    (hp : PlaceAt W b p) (hb : b ∉ l.all) (hsafe : placeSafe who σ p) (hq : p.pc ≠ 0 ∧ p.pc ≠ 1 ∧ p.pc ≠ 2 ∧ p.pc ≠ 3 ∧ p.pc ≠ 4 ∧ p.pc ≠ 5) :
    Calls Try.prog 96 #[.pointer (some ⟨b, 0, none⟩), .agg #[.int .i64 c.threads, .int .i64 c.slots, .int .i64 c.chunks, .int .i64 c.words, .int .i64 c.gens, .int .i64 c.sparse, .int .i64 c.tries, .pointer (some ⟨l.m, 0, none⟩), .int .i64 who]] W (PlaceRes c who σ p l b W) := by
  have ha := hsafe.1
  have HP := Lib.hid (place6 c who σ p hq)
  have e0 : (p.pc == 0) = false := by rw [beq_eq_false_iff_ne]; exact hq.1
  have e1 : (p.pc == 1) = false := by rw [beq_eq_false_iff_ne]; exact hq.2.1
  have e2 : (p.pc == 2) = false := by rw [beq_eq_false_iff_ne]; exact hq.2.2.1
  have e3 : (p.pc == 3) = false := by rw [beq_eq_false_iff_ne]; exact hq.2.2.2.1
  have e4 : (p.pc == 4) = false := by rw [beq_eq_false_iff_ne]; exact hq.2.2.2.2.1
  have e5 : (p.pc == 5) = false := by rw [beq_eq_false_iff_ne]; exact hq.2.2.2.2.2
  clear hq
  have hp' := hp
  obtain ⟨hB, k1, k2, k3, k4, k5⟩ := hp
  have hlt := h.lt
  have hbl := lt_of_heap hB
  have hE := heap_new W (.cells #[.int .i64 c.threads, .int .i64 c.slots, .int .i64 c.chunks, .int .i64 c.words, .int .i64 c.gens, .int .i64 c.sparse, .int .i64 c.tries, .pointer (some ⟨l.m, 0, none⟩), .int .i64 who] 27)
  have hX := (Ext.refl W).alloc (.cells #[.int .i64 c.threads, .int .i64 c.slots, .int .i64 c.chunks, .int .i64 c.words, .int .i64 c.gens, .int .i64 c.sparse, .int .i64 c.tries, .pointer (some ⟨l.m, 0, none⟩), .int .i64 who] 27)
  have hsE := lt_of_heap hE
  have HB1 := Lib.hid (hX.keep hB)
  have c0 := fun w' o (k : Ext W w') => k.cellOf hB o
  clear hB
  have fld := field_chunk3
  have hr := Fl.chunkOf_range p.w
  go_enter Try.func96, Try.ntmps96
  go_wp2_with fail
  generalize W.alloc (.cells #[.int .i64 c.threads, .int .i64 c.slots, .int .i64 c.chunks, .int .i64 c.words, .int .i64 c.gens, .int .i64 c.sparse, .int .i64 c.tries, .pointer (some ⟨l.m, 0, none⟩), .int .i64 who] 27) = w1 at *
  have cE := fun w' o (k : Ext w1 w') => k.cellOf hE o
  have cb1 := fun w' o (k : Ext w1 w') => c0 w' o (hX.trans k)
  have r1 := Ext.refl w1
  have c_HB1_w1 := fun w' o (k : Ext w1 w') => k.cellOf HB1.out o
  have f_HB1_w1 := fun w' o (k : Ext w1 w') => frozen_of (k.keep HB1.out) o
  have r_HB1_w1 := Ext.refl w1
  have hp1 : PlaceAt w1 b p := ⟨hX.keep hp'.blk, k1, k2, k3, k4, k5⟩
  refine (c_chunk _ _ k4).mono ?_
  rintro e w2 ⟨rfl, x2⟩
  go_wp2_with fail
  refine (c_putChunk _ _ _ _ _).mono ?_
  rintro e w3 ⟨rfl, x3⟩
  have x23 := x2.trans x3
  go_wp2_with fail
  refine wp_region_plan (Ext w1) [] [0, 1, 2, 3, 4, 5, 6, 7, 8, 9, 10] 11 [] Try.mixed (by kernel_rfl) (by intro c a d v w h; cases d <;> exact h) (x23).drew ?_
  simp only [opsAt, List.filterMap_cons, List.filterMap_nil, List.getElem?_toArray, List.getElem?_cons_zero, List.getElem?_cons_succ]
  refine Firsts.nil ?_
  (refine Heads.val (v := ?_) rfl (fun wv hwv => ?_) ?_; rotate_left; (go_simp; with_reducible rfl); simp only [Act.put, List.setIfInBounds_toArray, List.set_cons_zero, List.set_cons_succ])
  (refine Heads.val (v := ?_) rfl (fun wv hwv => ?_) ?_; rotate_left; (go_simp; with_reducible rfl); simp only [Act.put, List.setIfInBounds_toArray, List.set_cons_zero, List.set_cons_succ])
  (refine Heads.val (v := ?_) rfl (fun wv hwv => ?_) ?_; rotate_left; (go_simp; with_reducible rfl); simp only [Act.put, List.setIfInBounds_toArray, List.set_cons_zero, List.set_cons_succ])
  (refine Heads.val (v := ?_) rfl (fun wv hwv => ?_) ?_; rotate_left; (go_simp; with_reducible rfl); simp only [Act.put, List.setIfInBounds_toArray, List.set_cons_zero, List.set_cons_succ])
  (refine Heads.val (v := ?_) rfl (fun wv hwv => ?_) ?_; rotate_left; (go_simp; with_reducible rfl); simp only [Act.put, List.setIfInBounds_toArray, List.set_cons_zero, List.set_cons_succ])
  (refine Heads.val (v := ?_) rfl (fun wv hwv => ?_) ?_; rotate_left; (go_simp; with_reducible rfl); simp only [Act.put, List.setIfInBounds_toArray, List.set_cons_zero, List.set_cons_succ])
  (refine Heads.val (v := ?_) rfl (fun wv hwv => ?_) ?_; rotate_left; (go_simp; with_reducible rfl); simp only [Act.put, List.setIfInBounds_toArray, List.set_cons_zero, List.set_cons_succ])
  (refine Heads.call (v := ?_) rfl (fun wv hwv => ?_) ?_; rotate_left; (go_simp; simp only [GivesUpon.enter]; refine (c_pChunk c _ _ gc (by omega)).mono ?_; rintro e w' ⟨rfl, hh⟩; refine ⟨?_, hwv.trans hh⟩; with_reducible rfl); simp only [Act.put, List.setIfInBounds_toArray, List.set_cons_zero, List.set_cons_succ])
  (refine Heads.val (v := ?_) rfl (fun wv hwv => ?_) ?_; rotate_left; (go_simp; with_reducible rfl); simp only [Act.put, List.setIfInBounds_toArray, List.set_cons_zero, List.set_cons_succ])
  (refine Heads.call (v := ?_) rfl (fun wv hwv => ?_) ?_; rotate_left; (go_simp; simp only [GivesUpon.enter]; refine (p_fresh b p _ ⟨hwv.keep hp1.blk, k1, k2, k3, k4, k5⟩).mono ?_; rintro e w' ⟨rfl, hh⟩; refine ⟨?_, hwv.trans hh⟩; with_reducible rfl); simp only [Act.put, List.setIfInBounds_toArray, List.set_cons_zero, List.set_cons_succ])
  (refine Heads.val (v := ?_) rfl (fun wv hwv => ?_) ?_; rotate_left; (go_simp; with_reducible rfl); simp only [Act.put, List.setIfInBounds_toArray, List.set_cons_zero, List.set_cons_succ])
  refine Heads.nil ?_
  intro w4 hw4
  go_wp2_with fail
  refine (e_cas c l σ who _ _ _ _ (h.ext (hX.trans hw4)) hs (Fl.putChunk_lt ⟨0, 0, 0, (Fl.chunkOf p.w).stamp + 2⟩)).mono ?_
  rintro e w5 ⟨rfl, h5, u5⟩
  have HB5 := Lib.hid (u5.keep (hw4.keep HB1.out) hb)
  have hub : Upd (b :: l.all) W w5 := ((hX.trans hw4).upd _).trans u5.tl
  have c_HB5_w5 := fun w' o (k : Ext w5 w') => k.cellOf HB5.out o
  have f_HB5_w5 := fun w' o (k : Ext w5 w') => frozen_of (k.keep HB5.out) o
  have r_HB5_w5 := Ext.refl w5
  clear c0 cb1 cE c_HB1_w1 f_HB1_w1
  go_wp2
  go_ret
  unfold PlaceRes
  rw [HP.out]
  exact ⟨rfl, h5.keep1 (((Upd.refl [b] _)).set1 _ _) hb, ⟨(heap_set HB5.out _ _).trans (by simp), k1, k2, k3, k4, k5⟩, hub.trans (((Upd.refl [b] _)).set1 _ _).hd⟩

set_option maxHeartbeats 1000000 in
set_option maxRecDepth 100000 in
theorem p_step2 (c : Fl.Cfg) (l : Loc) (σ : Fl.Mem) (who : Int) (b : Nat) (p : Fl.Place) (W : World) (gc : GoodC c) (h : MemAt W l σ) (hs : 0 ≤ σ.steps ∧ σ.steps < 4611686018427387904)
    (hp : PlaceAt W b p) (hb : b ∉ l.all) (hsafe : placeSafe who σ p) (p0 : p.pc = 2) :
    Calls Try.prog 96 #[.pointer (some ⟨b, 0, none⟩), .agg #[.int .i64 c.threads, .int .i64 c.slots, .int .i64 c.chunks, .int .i64 c.words, .int .i64 c.gens, .int .i64 c.sparse, .int .i64 c.tries, .pointer (some ⟨l.m, 0, none⟩), .int .i64 who]] W (PlaceRes c who σ p l b W) := by
  have ha := hsafe.1
  have HP0 := Lib.hid p0
  have hp' := hp
  obtain ⟨hB, k1, k2, k3, k4, k5⟩ := hp
  have hlt := h.lt
  have hbl := lt_of_heap hB
  have hE := heap_new W (.cells #[.int .i64 c.threads, .int .i64 c.slots, .int .i64 c.chunks, .int .i64 c.words, .int .i64 c.gens, .int .i64 c.sparse, .int .i64 c.tries, .pointer (some ⟨l.m, 0, none⟩), .int .i64 who] 27)
  have hX := (Ext.refl W).alloc (.cells #[.int .i64 c.threads, .int .i64 c.slots, .int .i64 c.chunks, .int .i64 c.words, .int .i64 c.gens, .int .i64 c.sparse, .int .i64 c.tries, .pointer (some ⟨l.m, 0, none⟩), .int .i64 who] 27)
  have hsE := lt_of_heap hE
  rw [p0] at hB
  have HB1 := Lib.hid (hX.keep hB)
  have c0 := fun w' o (k : Ext W w') => k.cellOf hB o
  clear hB
  go_enter Try.func96, Try.ntmps96
  go_wp2_with fail
  generalize W.alloc (.cells #[.int .i64 c.threads, .int .i64 c.slots, .int .i64 c.chunks, .int .i64 c.words, .int .i64 c.gens, .int .i64 c.sparse, .int .i64 c.tries, .pointer (some ⟨l.m, 0, none⟩), .int .i64 who] 27) = w1 at *
  have cE := fun w' o (k : Ext w1 w') => k.cellOf hE o
  have cb1 := fun w' o (k : Ext w1 w') => c0 w' o (hX.trans k)
  have r1 := Ext.refl w1
  have hp1 : PlaceAt w1 b p := ⟨hX.keep hp'.blk, k1, k2, k3, k4, k5⟩
  refine (p_get c l σ who b p _ gc (h.ext hX) hs hp1 hb ha HP0.out).mono ?_
  rintro e w2 ⟨rfl, h2, hp2, u2⟩
  go_wp2
  go_ret
  exact ⟨rfl, h2, hp2, Upd.extL hX u2⟩

/-- place's step: what the plain step says. -/
theorem p_step (c : Fl.Cfg) (l : Loc) (σ : Fl.Mem) (who : Int) (b : Nat) (p : Fl.Place) (W : World) (gc : GoodC c) (h : MemAt W l σ) (hs : 0 ≤ σ.steps ∧ σ.steps < 4611686018427387904)
    (hp : PlaceAt W b p) (hb : b ∉ l.all) (hsafe : placeSafe who σ p) :
    Calls Try.prog 96 #[.pointer (some ⟨b, 0, none⟩), .agg #[.int .i64 c.threads, .int .i64 c.slots, .int .i64 c.chunks, .int .i64 c.words, .int .i64 c.gens, .int .i64 c.sparse, .int .i64 c.tries, .pointer (some ⟨l.m, 0, none⟩), .int .i64 who]] W (PlaceRes c who σ p l b W) := by
  by_cases q0 : p.pc = 0
  · exact p_step0 c l σ who b p W gc h hs hp hb hsafe q0
  by_cases q1 : p.pc = 1
  · exact p_step1 c l σ who b p W gc h hs hp hb hsafe q1
  by_cases q2 : p.pc = 2
  · exact p_step2 c l σ who b p W gc h hs hp hb hsafe q2
  by_cases q3 : p.pc = 3
  · exact p_step3 c l σ who b p W gc h hs hp hb hsafe q3
  by_cases q4 : p.pc = 4
  · exact p_step4 c l σ who b p W gc h hs hp hb hsafe q4
  by_cases q5 : p.pc = 5
  · exact p_step5 c l σ who b p W gc h hs hp hb hsafe q5
  exact p_step6 c l σ who b p W gc h hs hp hb hsafe ⟨q0, q1, q2, q3, q4, q5⟩

end Go.Proofs.Ythblhgappldcjaa
