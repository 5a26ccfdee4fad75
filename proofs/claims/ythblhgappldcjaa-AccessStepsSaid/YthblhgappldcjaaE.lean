/- The contracts of slot: somebody who takes a slot, or gives one back. -/
import Derived.Test.YthblhgappldcjaaD
namespace Go.Proofs.Ythblhgappldcjaa
open Go Go.RowKit

theorem load_lt {W : World} {l : Loc} {σ : Fl.Mem} (h : MemAt W l σ) (who a : Int) : (σ.load who a).1 < 18446744073709551616 := by
  rcases inb_or σ a with ha | ha
  · rw [load_in who ha]; exact getD_mem_lt h.hb _
  · rw [load_out who ha]; simp only; decide

theorem Upd.tl {S : List Nat} {x : Nat} {a b : World} (h : Upd S a b) : Upd (x :: S) a b := h.mono (fun _ hy => List.mem_cons_of_mem _ hy)
theorem Upd.hd {S : List Nat} {x : Nat} {a b : World} (h : Upd [x] a b) : Upd (x :: S) a b := h.mono (fun _ hy => by rw [List.mem_singleton.1 hy]; exact List.mem_cons_self ..)
theorem Upd.set1 {b : Nat} {a w : World} (h : Upd [b] a w) (o : Nat) (v : Value) : Upd [b] a (w.setCell ⟨b, o, none⟩ v) := h.set (Or.inl (List.mem_singleton.2 rfl)) v
theorem MemAt.keepS {W W' : World} {l : Loc} {σ : Fl.Mem} {S : List Nat} (h : MemAt W l σ) (hu : Upd S W W') (hS : ∀ x, x ∈ S → x ∉ l.all) : MemAt W' l σ :=
  h.keep hu (fun x hx => by
    have := hS x hx
    simp only [Loc.all, List.mem_cons, List.not_mem_nil, or_false, not_or] at this
    exact this)
theorem MemAt.keep1 {W W' : World} {l : Loc} {σ : Fl.Mem} {b : Nat} (h : MemAt W l σ) (hu : Upd [b] W W') (hb : b ∉ l.all) : MemAt W' l σ :=
  h.keepS hu (fun x hx => by rw [List.mem_singleton.1 hx]; exact hb)
theorem Loc.not_new {l : Loc} {σ : Fl.Mem} {W : World} (h : MemAt W l σ) : W.heap.size ∉ l.all := fun hm => by have := h.lt _ hm; omega

theorem pSlot_range {c : Fl.Cfg} (g : GoodC c) {k : Int} (h0 : -1 ≤ k) (h1 : k ≤ 131071) : 0 ≤ Fl.pSlot c k ∧ Fl.pSlot c k ≤ 262200 := by
  obtain ⟨t1, t2⟩ := g.threads
  unfold Fl.pSlot; omega
theorem pChunk_range {c : Fl.Cfg} (g : GoodC c) {k : Int} (h0 : -1 ≤ k) (h1 : k ≤ 1048576) : 0 ≤ Fl.pChunk c k ∧ Fl.pChunk c k ≤ 3300000 := by
  obtain ⟨t1, t2⟩ := g.threads
  obtain ⟨u1, u2⟩ := g.slots
  unfold Fl.pChunk; omega

structure GiveAt (W : World) (b : Nat) (g : Fl.Give) : Prop where
  blk : W.heap[b]? = some (.cells #[.int .i64 g.pc, .int .i64 g.slot, .int .u64 (g.top : Nat)] 159 (0, 0))
  slot : -1 ≤ g.slot ∧ g.slot ≤ 131071
  top : g.top < 18446744073709551616

theorem give0 (c : Fl.Cfg) (who : Int) (σ : Fl.Mem) (g : Fl.Give) (h : g.pc = 0) : g.step c who σ = (false, { g with top := (σ.load who 1).1, pc := 1 }, (σ.load who 1).2) := by
  unfold Fl.Give.step; rw [if_pos h]
theorem give1 (c : Fl.Cfg) (who : Int) (σ : Fl.Mem) (g : Fl.Give) (h : g.pc = 1) : g.step c who σ = (false, { g with pc := 2 }, σ.store who (Fl.pSlot c g.slot + 1) (Fl.putTop (Fl.topOf g.top).1 0)) := by
  unfold Fl.Give.step; rw [if_neg (by omega), if_pos h]
theorem give2 (c : Fl.Cfg) (who : Int) (σ : Fl.Mem) (g : Fl.Give) (h0 : g.pc ≠ 0) (h1 : g.pc ≠ 1) : g.step c who σ = ((σ.cas who 1 g.top (Fl.putTop g.slot ((Fl.topOf g.top).2 + 1))).1, { g with pc := 0 }, (σ.cas who 1 g.top (Fl.putTop g.slot ((Fl.topOf g.top).2 + 1))).2) := by
  unfold Fl.Give.step; rw [if_neg h0, if_neg h1]

set_option maxHeartbeats 400000 in
theorem s_give (c : Fl.Cfg) (l : Loc) (σ : Fl.Mem) (who : Int) (b : Nat) (g : Fl.Give) (W : World) (gc : GoodC c) (h : MemAt W l σ) (hs : 0 ≤ σ.steps ∧ σ.steps < 4611686018427387904)
    (hg : GiveAt W b g) (hb : b ∉ l.all) :
    Calls Try.prog 85 #[.pointer (some ⟨b, 0, none⟩), .agg #[.int .i64 c.threads, .int .i64 c.slots, .int .i64 c.chunks, .int .i64 c.words, .int .i64 c.gens, .int .i64 c.sparse, .int .i64 c.tries, .pointer (some ⟨l.m, 0, none⟩), .int .i64 who]] W fun e w' => e = .returned (.bool (g.step c who σ).1) ∧ MemAt w' l (g.step c who σ).2.2 ∧ GiveAt w' b (g.step c who σ).2.1 ∧ Upd (b :: l.all) W w' := by
  have hr := Fl.topOf_range g.top
  have hlt := h.lt
  obtain ⟨hB, hsl, htop⟩ := hg
  have hbl := lt_of_heap hB
  have hE := heap_new W (.cells #[.int .i64 c.threads, .int .i64 c.slots, .int .i64 c.chunks, .int .i64 c.words, .int .i64 c.gens, .int .i64 c.sparse, .int .i64 c.tries, .pointer (some ⟨l.m, 0, none⟩), .int .i64 who] 27)
  have hX := (Ext.refl W).alloc (.cells #[.int .i64 c.threads, .int .i64 c.slots, .int .i64 c.chunks, .int .i64 c.words, .int .i64 c.gens, .int .i64 c.sparse, .int .i64 c.tries, .pointer (some ⟨l.m, 0, none⟩), .int .i64 who] 27)
  have HB := Lib.hid hB
  by_cases p0 : g.pc = 0
  · have HE := Lib.hid (give0 c who σ g p0)
    have c0 := fun w' o (k : Ext W w') => k.cellOf hB o
    rw [p0] at c0
    clear p0 hB
    go_enter Try.func85, Try.ntmps85
    go_wp2_with fail
    generalize W.alloc (.cells #[.int .i64 c.threads, .int .i64 c.slots, .int .i64 c.chunks, .int .i64 c.words, .int .i64 c.gens, .int .i64 c.sparse, .int .i64 c.tries, .pointer (some ⟨l.m, 0, none⟩), .int .i64 who] 27) = w1 at *
    have cE := fun w' o (k : Ext w1 w') => k.cellOf hE o
    have cb1 := fun w' o (k : Ext w1 w') => c0 w' o (hX.trans k)
    refine (c_topOf _ _ htop).mono ?_
    rintro e w2 ⟨rfl, h2⟩
    go_wp2_with fail
    refine wp_region_plan (Ext w1) [0, 1] [2, 3] 4 [5, 6, 7, 8, 9, 10] Try.mixed (by kernel_rfl) (by intro c a d v w h; cases d <;> exact h) (h2).drew ?_
    simp only [opsAt, List.filterMap_cons, List.filterMap_nil, List.getElem?_toArray, List.getElem?_cons_zero, List.getElem?_cons_succ]
    (refine Firsts.val (v := ?_) rfl (fun _ => ?_) ?_; rotate_left; (go_simp; with_reducible rfl); simp only [Act.put, List.setIfInBounds_toArray, List.set_cons_zero, List.set_cons_succ])
    (refine Firsts.val (v := ?_) rfl (fun _ => ?_) ?_; rotate_left; (go_simp; with_reducible rfl); simp only [Act.put, List.setIfInBounds_toArray, List.set_cons_zero, List.set_cons_succ])
    refine Firsts.nil ?_
    (refine Heads.val (v := ?_) rfl (fun wv hwv => ?_) ?_; rotate_left; (go_simp; with_reducible rfl); simp only [Act.put, List.setIfInBounds_toArray, List.set_cons_zero, List.set_cons_succ])
    (refine Heads.call (v := ?_) rfl (fun wv hwv => ?_) ?_; rotate_left; (go_simp; simp only [GivesUpon.enter]; refine (c_pTop _).mono ?_; rintro e w' ⟨rfl, hh⟩; refine ⟨?_, hwv.trans hh⟩; with_reducible rfl); simp only [Act.put, List.setIfInBounds_toArray, List.set_cons_zero, List.set_cons_succ])
    refine Heads.nil ?_
    intro w3 hw3
    go_wp2_with fail
    refine (e_load c l σ who 1 _ (h.ext (hX.trans hw3)) hs).mono ?_
    rintro e w4 ⟨rfl, h4, u4⟩
    have hB4 := u4.keep ((hX.trans hw3).keep HB.out) hb
    have hE4 := u4.keep (hw3.keep hE) (by intro hm; have := hlt _ hm; omega)
    have c4 := fun o => cell_of hB4 o
    have f4 := fun o => frozen_of hB4 o
    have HB4 := Lib.hid hB4
    clear hB4
    go_wp2
    go_ret
    rw [HE.out]
    exact ⟨rfl, h4.keep1 ((((Upd.refl [b] _)).set1 _ _).set1 _ _) hb, ⟨(heap_set (heap_set HB4.out _ _) _ _).trans (by simp), hsl, load_lt h who 1⟩, (((hX.trans hw3).upd _).trans u4.tl).trans (((((Upd.refl [b] _)).set1 _ _).set1 _ _).hd)⟩
  · by_cases p1 : g.pc = 1
    · obtain ⟨q1, q2⟩ := pSlot_range gc (k := g.slot) (by omega) (by omega)
      have HE := Lib.hid (give1 c who σ g p1)
      have c0 := fun w' o (k : Ext W w') => k.cellOf hB o
      rw [p1] at c0
      clear p0 p1 hB
      go_enter Try.func85, Try.ntmps85
      go_wp2_with fail
      generalize W.alloc (.cells #[.int .i64 c.threads, .int .i64 c.slots, .int .i64 c.chunks, .int .i64 c.words, .int .i64 c.gens, .int .i64 c.sparse, .int .i64 c.tries, .pointer (some ⟨l.m, 0, none⟩), .int .i64 who] 27) = w1 at *
      have cE := fun w' o (k : Ext w1 w') => k.cellOf hE o
      have cb1 := fun w' o (k : Ext w1 w') => c0 w' o (hX.trans k)
      refine (c_topOf _ _ htop).mono ?_
      rintro e w2 ⟨rfl, h2⟩
      go_wp2_with fail
      refine wp_region_plan (Ext w1) [] [0, 1, 2, 3, 4, 5, 6, 7, 8, 9, 10] 11 [] Try.mixed (by kernel_rfl) (by intro c a d v w h; cases d <;> exact h) (h2).drew ?_
      simp only [opsAt, List.filterMap_cons, List.filterMap_nil, List.getElem?_toArray, List.getElem?_cons_zero, List.getElem?_cons_succ]
      refine Firsts.nil ?_
      (refine Heads.val (v := ?_) rfl (fun wv hwv => ?_) ?_; rotate_left; (go_simp; with_reducible rfl); simp only [Act.put, List.setIfInBounds_toArray, List.set_cons_zero, List.set_cons_succ])
      (refine Heads.val (v := ?_) rfl (fun wv hwv => ?_) ?_; rotate_left; (go_simp; with_reducible rfl); simp only [Act.put, List.setIfInBounds_toArray, List.set_cons_zero, List.set_cons_succ])
      (refine Heads.val (v := ?_) rfl (fun wv hwv => ?_) ?_; rotate_left; (go_simp; with_reducible rfl); simp only [Act.put, List.setIfInBounds_toArray, List.set_cons_zero, List.set_cons_succ])
      (refine Heads.val (v := ?_) rfl (fun wv hwv => ?_) ?_; rotate_left; (go_simp; with_reducible rfl); simp only [Act.put, List.setIfInBounds_toArray, List.set_cons_zero, List.set_cons_succ])
      (refine Heads.val (v := ?_) rfl (fun wv hwv => ?_) ?_; rotate_left; (go_simp; with_reducible rfl); simp only [Act.put, List.setIfInBounds_toArray, List.set_cons_zero, List.set_cons_succ])
      (refine Heads.val (v := ?_) rfl (fun wv hwv => ?_) ?_; rotate_left; (go_simp; with_reducible rfl); simp only [Act.put, List.setIfInBounds_toArray, List.set_cons_zero, List.set_cons_succ])
      (refine Heads.val (v := ?_) rfl (fun wv hwv => ?_) ?_; rotate_left; (go_simp; with_reducible rfl); simp only [Act.put, List.setIfInBounds_toArray, List.set_cons_zero, List.set_cons_succ])
      (refine Heads.call (v := ?_) rfl (fun wv hwv => ?_) ?_; rotate_left; (go_simp; simp only [GivesUpon.enter]; refine (c_pSlot c _ _ gc (by omega)).mono ?_; rintro e w' ⟨rfl, hh⟩; refine ⟨?_, hwv.trans hh⟩; with_reducible rfl); simp only [Act.put, List.setIfInBounds_toArray, List.set_cons_zero, List.set_cons_succ])
      (refine Heads.val (v := ?_) rfl (fun wv hwv => ?_) ?_; rotate_left; (go_simp; with_reducible rfl); simp only [Act.put, List.setIfInBounds_toArray, List.set_cons_zero, List.set_cons_succ])
      (refine Heads.val (v := ?_) rfl (fun wv hwv => ?_) ?_; rotate_left; (go_simp; with_reducible rfl); simp only [Act.put, List.setIfInBounds_toArray, List.set_cons_zero, List.set_cons_succ])
      (refine Heads.call (v := ?_) rfl (fun wv hwv => ?_) ?_; rotate_left; (go_simp; simp only [GivesUpon.enter]; refine (c_putTop _ _ _ (by omega)).mono ?_; rintro e w' ⟨rfl, hh⟩; refine ⟨?_, hwv.trans hh⟩; with_reducible rfl); simp only [Act.put, List.setIfInBounds_toArray, List.set_cons_zero, List.set_cons_succ])
      refine Heads.nil ?_
      intro w3 hw3
      go_wp2_with fail
      refine (e_store c l σ who _ _ _ (h.ext (hX.trans hw3)) hs (Fl.putTop_lt _ _)).mono ?_
      rintro e w4 ⟨rfl, h4, u4⟩
      have hB4 := u4.keep ((hX.trans hw3).keep HB.out) hb
      have c4 := fun o => cell_of hB4 o
      have f4 := fun o => frozen_of hB4 o
      have HB4 := Lib.hid hB4
      clear hB4
      go_wp2
      go_ret
      rw [HE.out]
      exact ⟨rfl, h4.keep1 (((Upd.refl [b] _)).set1 _ _) hb, ⟨(heap_set HB4.out _ _).trans (by simp), hsl, htop⟩, (((hX.trans hw3).upd _).trans u4.tl).trans ((((Upd.refl [b] _)).set1 _ _).hd)⟩
    · have HE := Lib.hid (give2 c who σ g p0 p1)
      have e0 : (g.pc == 0) = false := by rw [beq_eq_false_iff_ne]; exact p0
      have e1 : (g.pc == 1) = false := by rw [beq_eq_false_iff_ne]; exact p1
      have c0 := fun w' o (k : Ext W w') => k.cellOf hB o
      clear p0 p1 hB
      go_enter Try.func85, Try.ntmps85
      go_wp2_with fail
      generalize W.alloc (.cells #[.int .i64 c.threads, .int .i64 c.slots, .int .i64 c.chunks, .int .i64 c.words, .int .i64 c.gens, .int .i64 c.sparse, .int .i64 c.tries, .pointer (some ⟨l.m, 0, none⟩), .int .i64 who] 27) = w1 at *
      have cE := fun w' o (k : Ext w1 w') => k.cellOf hE o
      have cb1 := fun w' o (k : Ext w1 w') => c0 w' o (hX.trans k)
      have HB1 := Lib.hid (hX.keep HB.out)
      refine (c_topOf _ _ htop).mono ?_
      rintro e w2 ⟨rfl, h2⟩
      have f2 := fun o => frozen_of (h2.keep HB1.out) o
      go_wp2_with fail
      have HB2 := Lib.hid (heap_set (h2.keep HB1.out) 0 (.int .i64 0))
      have hU2 := (Upd.refl [b] w2).set1 0 (.int .i64 0)
      have hE2 := hU2.keep (h2.keep hE) (by simp; omega)
      have h5 := (h.ext (hX.trans h2)).keep1 hU2 hb
      generalize w2.setCell ⟨b, 0, none⟩ (.int .i64 0) = w5 at *
      simp only [List.setIfInBounds_toArray, List.set_cons_zero] at HB2
      have cE5 := fun w' o (k : Ext w5 w') => k.cellOf hE2 o
      have cb5 := fun w' o (k : Ext w5 w') => k.cellOf HB2.out o
      clear cE cb1 c0 f2
      refine wp_region_plan (Ext w5) [] [0, 1, 2, 3, 4, 5, 6, 7, 8, 9, 10, 11, 12] 13 [14] Try.mixed (by kernel_rfl) (by intro c a d v w h; cases d <;> exact h) (Ext.refl _).drew ?_
      simp only [opsAt, List.filterMap_cons, List.filterMap_nil, List.getElem?_toArray, List.getElem?_cons_zero, List.getElem?_cons_succ]
      refine Firsts.nil ?_
      (refine Heads.val (v := ?_) rfl (fun wv hwv => ?_) ?_; rotate_left; (go_simp; with_reducible rfl); simp only [Act.put, List.setIfInBounds_toArray, List.set_cons_zero, List.set_cons_succ])
      (refine Heads.call (v := ?_) rfl (fun wv hwv => ?_) ?_; rotate_left; (go_simp; simp only [GivesUpon.enter]; refine (c_pTop _).mono ?_; rintro e w' ⟨rfl, hh⟩; refine ⟨?_, hwv.trans hh⟩; with_reducible rfl); simp only [Act.put, List.setIfInBounds_toArray, List.set_cons_zero, List.set_cons_succ])
      (refine Heads.val (v := ?_) rfl (fun wv hwv => ?_) ?_; rotate_left; (go_simp; with_reducible rfl); simp only [Act.put, List.setIfInBounds_toArray, List.set_cons_zero, List.set_cons_succ])
      (refine Heads.val (v := ?_) rfl (fun wv hwv => ?_) ?_; rotate_left; (go_simp; with_reducible rfl); simp only [Act.put, List.setIfInBounds_toArray, List.set_cons_zero, List.set_cons_succ])
      (refine Heads.val (v := ?_) rfl (fun wv hwv => ?_) ?_; rotate_left; (go_simp; with_reducible rfl); simp only [Act.put, List.setIfInBounds_toArray, List.set_cons_zero, List.set_cons_succ])
      (refine Heads.val (v := ?_) rfl (fun wv hwv => ?_) ?_; rotate_left; (go_simp; with_reducible rfl); simp only [Act.put, List.setIfInBounds_toArray, List.set_cons_zero, List.set_cons_succ])
      (refine Heads.val (v := ?_) rfl (fun wv hwv => ?_) ?_; rotate_left; (go_simp; with_reducible rfl); simp only [Act.put, List.setIfInBounds_toArray, List.set_cons_zero, List.set_cons_succ])
      (refine Heads.val (v := ?_) rfl (fun wv hwv => ?_) ?_; rotate_left; (go_simp; with_reducible rfl); simp only [Act.put, List.setIfInBounds_toArray, List.set_cons_zero, List.set_cons_succ])
      (refine Heads.val (v := ?_) rfl (fun wv hwv => ?_) ?_; rotate_left; (go_simp; with_reducible rfl); simp only [Act.put, List.setIfInBounds_toArray, List.set_cons_zero, List.set_cons_succ])
      (refine Heads.val (v := ?_) rfl (fun wv hwv => ?_) ?_; rotate_left; (go_simp; with_reducible rfl); simp only [Act.put, List.setIfInBounds_toArray, List.set_cons_zero, List.set_cons_succ])
      (refine Heads.val (v := ?_) rfl (fun wv hwv => ?_) ?_; rotate_left; (go_simp; with_reducible rfl); simp only [Act.put, List.setIfInBounds_toArray, List.set_cons_zero, List.set_cons_succ])
      (refine Heads.val (v := ?_) rfl (fun wv hwv => ?_) ?_; rotate_left; (go_simp; with_reducible rfl); simp only [Act.put, List.setIfInBounds_toArray, List.set_cons_zero, List.set_cons_succ])
      (refine Heads.call (v := ?_) rfl (fun wv hwv => ?_) ?_; rotate_left; (go_simp; simp only [GivesUpon.enter]; refine (c_putTop _ _ _ (by omega)).mono ?_; rintro e w' ⟨rfl, hh⟩; refine ⟨?_, hwv.trans hh⟩; with_reducible rfl); simp only [Act.put, List.setIfInBounds_toArray, List.set_cons_zero, List.set_cons_succ])
      refine Heads.nil ?_
      intro w3 hw3
      go_wp2_with fail
      refine (e_cas c l σ who _ _ _ _ (h5.ext hw3) hs (Fl.putTop_lt _ _)).mono ?_
      rintro e w4 ⟨rfl, h4, u4⟩
      have HB4 := Lib.hid (u4.keep (hw3.keep HB2.out) hb)
      go_wp2
      go_ret
      rw [HE.out]
      exact ⟨rfl, h4, ⟨HB4.out, hsl, htop⟩, ((((hX.trans h2).upd _).trans hU2.hd).trans (hw3.upd _)).trans u4.tl⟩

/-! ### Somebody who takes a slot: a part of another struct -/

structure TakeOk (t : Fl.Take) : Prop where
  slot : -1 ≤ t.slot ∧ t.slot ≤ 131071
  next : -1 ≤ t.next ∧ t.next ≤ 131071
  top : t.top < 18446744073709551616

theorem take0 (c : Fl.Cfg) (who : Int) (σ : Fl.Mem) (t : Fl.Take) (h : t.pc = 0) : t.step c who σ = (decide ((Fl.topOf (σ.load who 1).1).1 < 0), { t with top := (σ.load who 1).1, slot := (Fl.topOf (σ.load who 1).1).1, pc := 1 }, (σ.load who 1).2) := by
  unfold Fl.Take.step; rw [if_pos h]
theorem take1 (c : Fl.Cfg) (who : Int) (σ : Fl.Mem) (t : Fl.Take) (h : t.pc = 1) : t.step c who σ = (t.ok, { t with next := (Fl.topOf (σ.load who (Fl.pSlot c t.slot + 1)).1).1, pc := 2 }, (σ.load who (Fl.pSlot c t.slot + 1)).2) := by
  unfold Fl.Take.step; rw [if_neg (by omega), if_pos h]
theorem take2 (c : Fl.Cfg) (who : Int) (σ : Fl.Mem) (t : Fl.Take) (h0 : t.pc ≠ 0) (h1 : t.pc ≠ 1) : t.step c who σ = ((σ.cas who 1 t.top (Fl.putTop t.next ((Fl.topOf t.top).2 + 1))).1, { t with pc := 0, ok := (σ.cas who 1 t.top (Fl.putTop t.next ((Fl.topOf t.top).2 + 1))).1 }, (σ.cas who 1 t.top (Fl.putTop t.next ((Fl.topOf t.top).2 + 1))).2) := by
  unfold Fl.Take.step; rw [if_neg h0, if_neg h1]

set_option maxHeartbeats 800000 in
theorem s_take (c : Fl.Cfg) (l : Loc) (σ : Fl.Mem) (who : Int) (b : Nat) (t : Fl.Take) (x0 x1 x2 y8 y9 y10 y11 y12 y13 y14 y15 y16 y17 : Value) (W : World) (gc : GoodC c) (h : MemAt W l σ) (hs : 0 ≤ σ.steps ∧ σ.steps < 4611686018427387904)
    (hB : W.heap[b]? = some (.cells #[x0, x1, x2, .int .i64 t.pc, .int .u64 (t.top : Nat), .int .i64 t.next, .int .i64 t.slot, .bool t.ok, y8, y9, y10, y11, y12, y13, y14, y15, y16, y17] 148 (0, 0))) (ht : TakeOk t) (hb : b ∉ l.all) :
    Calls Try.prog 111 #[.pointer (some ⟨b, 3, none⟩), .agg #[.int .i64 c.threads, .int .i64 c.slots, .int .i64 c.chunks, .int .i64 c.words, .int .i64 c.gens, .int .i64 c.sparse, .int .i64 c.tries, .pointer (some ⟨l.m, 0, none⟩), .int .i64 who]] W fun e w' => e = .returned (.bool (t.step c who σ).1) ∧ MemAt w' l (t.step c who σ).2.2 ∧
      w'.heap[b]? = some (.cells #[x0, x1, x2, .int .i64 (t.step c who σ).2.1.pc, .int .u64 ((t.step c who σ).2.1.top : Nat), .int .i64 (t.step c who σ).2.1.next, .int .i64 (t.step c who σ).2.1.slot, .bool (t.step c who σ).2.1.ok, y8, y9, y10, y11, y12, y13, y14, y15, y16, y17] 148 (0, 0)) ∧
      TakeOk (t.step c who σ).2.1 ∧ Upd (b :: l.all) W w' := by
  have hlt := h.lt
  have hbl := lt_of_heap hB
  have hE := heap_new W (.cells #[.int .i64 c.threads, .int .i64 c.slots, .int .i64 c.chunks, .int .i64 c.words, .int .i64 c.gens, .int .i64 c.sparse, .int .i64 c.tries, .pointer (some ⟨l.m, 0, none⟩), .int .i64 who] 27)
  have hX := (Ext.refl W).alloc (.cells #[.int .i64 c.threads, .int .i64 c.slots, .int .i64 c.chunks, .int .i64 c.words, .int .i64 c.gens, .int .i64 c.sparse, .int .i64 c.tries, .pointer (some ⟨l.m, 0, none⟩), .int .i64 who] 27)
  have HB := Lib.hid hB
  obtain ⟨hsl, hnx, htop⟩ := ht
  by_cases p0 : t.pc = 0
  · have HE := Lib.hid (take0 c who σ t p0)
    have c0 := fun w' o (k : Ext W w') => k.cellOf hB o
    rw [p0] at c0
    clear p0 hB
    go_enter Try.func111, Try.ntmps111
    go_wp2_with fail
    generalize W.alloc (.cells #[.int .i64 c.threads, .int .i64 c.slots, .int .i64 c.chunks, .int .i64 c.words, .int .i64 c.gens, .int .i64 c.sparse, .int .i64 c.tries, .pointer (some ⟨l.m, 0, none⟩), .int .i64 who] 27) = w1 at *
    have cE := fun w' o (k : Ext w1 w') => k.cellOf hE o
    have cb1 := fun w' o (k : Ext w1 w') => c0 w' o (hX.trans k)
    have r1 := Ext.refl w1
    refine wp_region_plan (Ext w1) [0] [1, 2] 3 [4, 5, 6] Try.mixed (by kernel_rfl) (by intro c a d v w h; cases d <;> exact h) (Ext.refl _).drew ?_
    simp only [opsAt, List.filterMap_cons, List.filterMap_nil, List.getElem?_toArray, List.getElem?_cons_zero, List.getElem?_cons_succ]
    (refine Firsts.val (v := ?_) rfl (fun _ => ?_) ?_; rotate_left; (go_simp; with_reducible rfl); simp only [Act.put, List.setIfInBounds_toArray, List.set_cons_zero, List.set_cons_succ])
    refine Firsts.nil ?_
    (refine Heads.val (v := ?_) rfl (fun wv hwv => ?_) ?_; rotate_left; (go_simp; with_reducible rfl); simp only [Act.put, List.setIfInBounds_toArray, List.set_cons_zero, List.set_cons_succ])
    (refine Heads.call (v := ?_) rfl (fun wv hwv => ?_) ?_; rotate_left; (go_simp; simp only [GivesUpon.enter]; refine (c_pTop _).mono ?_; rintro e w' ⟨rfl, hh⟩; refine ⟨?_, hwv.trans hh⟩; with_reducible rfl); simp only [Act.put, List.setIfInBounds_toArray, List.set_cons_zero, List.set_cons_succ])
    refine Heads.nil ?_
    intro w3 hw3
    go_wp2_with fail
    refine (e_load c l σ who 1 _ (h.ext (hX.trans hw3)) hs).mono ?_
    rintro e w4 ⟨rfl, h4, u4⟩
    have HB4 := Lib.hid (u4.keep ((hX.trans hw3).keep HB.out) hb)
    have c_HB4_w4 := fun w' o (k : Ext w4 w') => k.cellOf HB4.out o
    have f_HB4_w4 := fun w' o (k : Ext w4 w') => frozen_of (k.keep HB4.out) o
    have r_HB4_w4 := Ext.refl w4
    have hr := Fl.topOf_range (σ.load who 1).1
    have hll := load_lt h who 1
    clear c0 cE cb1
    go_wp2_with fail
    have HB5 := Lib.hid (heap_set HB4.out 4 (.int .u64 ((σ.load who 1).1 : Nat)))
    have u_w5 := ((Upd.refl [b] w4).set1 4 (.int .u64 ((σ.load who 1).1 : Nat)))
    have h5 := h4.keep1 u_w5 hb
    generalize (World.setCell w4 ⟨b, 4, none⟩ (.int .u64 ((σ.load who 1).1 : Nat))) = w5 at *
    simp only [List.setIfInBounds_toArray, List.set_cons_zero, List.set_cons_succ] at HB5
    have c_HB5_w5 := fun w' o (k : Ext w5 w') => k.cellOf HB5.out o
    have f_HB5_w5 := fun w' o (k : Ext w5 w') => frozen_of (k.keep HB5.out) o
    have r_HB5_w5 := Ext.refl w5
    clear c_HB4_w4 f_HB4_w4 r_HB4_w4
    refine (c_topOf _ _ hll).mono ?_
    rintro e w6 ⟨rfl, h6⟩
    go_wp2
    go_ret
    rw [HE.out]
    exact ⟨rfl, (h5.ext h6).keep1 ((((Upd.refl [b] _)).set1 _ _).set1 _ _) hb, (heap_set (heap_set (h6.keep HB5.out) _ _) _ _).trans (by simp), ⟨by simp only; omega, hnx, hll⟩, (((((hX.trans hw3).upd _).trans u4.tl).trans u_w5.hd).trans (h6.upd _)).trans ((((Upd.refl [b] _)).set1 _ _).set1 _ _).hd⟩
  · by_cases p1 : t.pc = 1
    · obtain ⟨q1, q2⟩ := pSlot_range gc (k := t.slot) (by omega) (by omega)
      have HE := Lib.hid (take1 c who σ t p1)
      have c0 := fun w' o (k : Ext W w') => k.cellOf hB o
      rw [p1] at c0
      clear p0 p1 hB
      go_enter Try.func111, Try.ntmps111
      go_wp2_with fail
      generalize W.alloc (.cells #[.int .i64 c.threads, .int .i64 c.slots, .int .i64 c.chunks, .int .i64 c.words, .int .i64 c.gens, .int .i64 c.sparse, .int .i64 c.tries, .pointer (some ⟨l.m, 0, none⟩), .int .i64 who] 27) = w1 at *
      have cE := fun w' o (k : Ext w1 w') => k.cellOf hE o
      have cb1 := fun w' o (k : Ext w1 w') => c0 w' o (hX.trans k)
      have r1 := Ext.refl w1
      have HB1 := Lib.hid (hX.keep HB.out)
      have hll := load_lt h who (Fl.pSlot c t.slot + 1)
      have hr := Fl.topOf_range (σ.load who (Fl.pSlot c t.slot + 1)).1
      have ew := wrap64_id (n := Fl.pSlot c t.slot + 1) (by omega) (by omega)
      refine wp_region_plan (Ext w1) [0] [1, 2, 3, 4, 5, 6, 7, 8, 9] 10 [11, 12, 13, 14, 15, 16, 17] Try.mixed (by kernel_rfl) (by intro c a d v w h; cases d <;> exact h) (Ext.refl _).drew ?_
      simp only [opsAt, List.filterMap_cons, List.filterMap_nil, List.getElem?_toArray, List.getElem?_cons_zero, List.getElem?_cons_succ]
      (refine Firsts.val (v := ?_) rfl (fun _ => ?_) ?_; rotate_left; (go_simp; with_reducible rfl); simp only [Act.put, List.setIfInBounds_toArray, List.set_cons_zero, List.set_cons_succ])
      refine Firsts.nil ?_
      (refine Heads.val (v := ?_) rfl (fun wv hwv => ?_) ?_; rotate_left; (go_simp; with_reducible rfl); simp only [Act.put, List.setIfInBounds_toArray, List.set_cons_zero, List.set_cons_succ])
      (refine Heads.val (v := ?_) rfl (fun wv hwv => ?_) ?_; rotate_left; (go_simp; with_reducible rfl); simp only [Act.put, List.setIfInBounds_toArray, List.set_cons_zero, List.set_cons_succ])
      (refine Heads.val (v := ?_) rfl (fun wv hwv => ?_) ?_; rotate_left; (go_simp; with_reducible rfl); simp only [Act.put, List.setIfInBounds_toArray, List.set_cons_zero, List.set_cons_succ])
      (refine Heads.val (v := ?_) rfl (fun wv hwv => ?_) ?_; rotate_left; (go_simp; with_reducible rfl); simp only [Act.put, List.setIfInBounds_toArray, List.set_cons_zero, List.set_cons_succ])
      (refine Heads.val (v := ?_) rfl (fun wv hwv => ?_) ?_; rotate_left; (go_simp; with_reducible rfl); simp only [Act.put, List.setIfInBounds_toArray, List.set_cons_zero, List.set_cons_succ])
      (refine Heads.val (v := ?_) rfl (fun wv hwv => ?_) ?_; rotate_left; (go_simp; with_reducible rfl); simp only [Act.put, List.setIfInBounds_toArray, List.set_cons_zero, List.set_cons_succ])
      (refine Heads.val (v := ?_) rfl (fun wv hwv => ?_) ?_; rotate_left; (go_simp; with_reducible rfl); simp only [Act.put, List.setIfInBounds_toArray, List.set_cons_zero, List.set_cons_succ])
      (refine Heads.call (v := ?_) rfl (fun wv hwv => ?_) ?_; rotate_left; (go_simp; simp only [GivesUpon.enter]; refine (c_pSlot c _ _ gc (by omega)).mono ?_; rintro e w' ⟨rfl, hh⟩; refine ⟨?_, hwv.trans hh⟩; with_reducible rfl); simp only [Act.put, List.setIfInBounds_toArray, List.set_cons_zero, List.set_cons_succ])
      (refine Heads.val (v := ?_) rfl (fun wv hwv => ?_) ?_; rotate_left; (go_simp; with_reducible rfl); simp only [Act.put, List.setIfInBounds_toArray, List.set_cons_zero, List.set_cons_succ])
      refine Heads.nil ?_
      intro w3 hw3
      go_wp2_with fail
      refine (e_load c l σ who _ _ (h.ext (hX.trans hw3)) hs).mono ?_
      rintro e w4 ⟨rfl, h4, u4⟩
      have HB4 := Lib.hid (u4.keep ((hX.trans hw3).keep HB.out) hb)
      have c_HB4_w4 := fun w' o (k : Ext w4 w') => k.cellOf HB4.out o
      have f_HB4_w4 := fun w' o (k : Ext w4 w') => frozen_of (k.keep HB4.out) o
      have r_HB4_w4 := Ext.refl w4
      clear c0 cE cb1
      go_wp2_with fail
      refine (c_topOf _ _ hll).mono ?_
      rintro e w6 ⟨rfl, h6⟩
      go_wp2
      go_ret
      rw [HE.out]
      exact ⟨rfl, (h4.ext h6).keep1 ((((Upd.refl [b] _)).set1 _ _).set1 _ _) hb, (heap_set (heap_set (h6.keep HB4.out) _ _) _ _).trans (by simp), ⟨hsl, by simp only; omega, htop⟩, ((((hX.trans hw3).upd _).trans u4.tl).trans (h6.upd _)).trans ((((Upd.refl [b] _)).set1 _ _).set1 _ _).hd⟩
    · have hr := Fl.topOf_range t.top
      have HE := Lib.hid (take2 c who σ t p0 p1)
      have e0 : (t.pc == 0) = false := by rw [beq_eq_false_iff_ne]; exact p0
      have e1 : (t.pc == 1) = false := by rw [beq_eq_false_iff_ne]; exact p1
      have c0 := fun w' o (k : Ext W w') => k.cellOf hB o
      clear p0 p1 hB
      go_enter Try.func111, Try.ntmps111
      go_wp2_with fail
      generalize W.alloc (.cells #[.int .i64 c.threads, .int .i64 c.slots, .int .i64 c.chunks, .int .i64 c.words, .int .i64 c.gens, .int .i64 c.sparse, .int .i64 c.tries, .pointer (some ⟨l.m, 0, none⟩), .int .i64 who] 27) = w1 at *
      have cE := fun w' o (k : Ext w1 w') => k.cellOf hE o
      have cb1 := fun w' o (k : Ext w1 w') => c0 w' o (hX.trans k)
      have r1 := Ext.refl w1
      have HB1 := Lib.hid (hX.keep HB.out)
      refine (c_topOf _ _ htop).mono ?_
      rintro e w2 ⟨rfl, h2⟩
      have HB2 := Lib.hid (h2.keep HB1.out)
      have c_HB2_w2 := fun w' o (k : Ext w2 w') => k.cellOf HB2.out o
      have f_HB2_w2 := fun w' o (k : Ext w2 w') => frozen_of (k.keep HB2.out) o
      have r_HB2_w2 := Ext.refl w2
      go_wp2_with fail
      have m2 := h.ext (hX.trans h2)
      have E2 := h2.keep hE
      have HB5 := Lib.hid (heap_set HB2.out 3 (.int .i64 0))
      have u_w5 := ((Upd.refl [b] w2).set1 3 (.int .i64 0))
      have h5 := m2.keep1 u_w5 hb
      generalize (World.setCell w2 ⟨b, 3, none⟩ (.int .i64 0)) = w5 at *
      simp only [List.setIfInBounds_toArray, List.set_cons_zero, List.set_cons_succ] at HB5
      have E5 := u_w5.keep E2 (by simp; omega)
      have cE5 := fun w' o (k : Ext w5 w') => k.cellOf E5 o
      have c_HB5_w5 := fun w' o (k : Ext w5 w') => k.cellOf HB5.out o
      have f_HB5_w5 := fun w' o (k : Ext w5 w') => frozen_of (k.keep HB5.out) o
      have r_HB5_w5 := Ext.refl w5
      clear cE cb1 c0 c_HB2_w2 f_HB2_w2 r_HB2_w2
      refine wp_region_plan (Ext w5) [0] [1, 2, 3, 4, 5, 6, 7, 8, 9, 10, 11, 12, 13] 14 [15, 16, 17] Try.mixed (by kernel_rfl) (by intro c a d v w h; cases d <;> exact h) (Ext.refl _).drew ?_
      simp only [opsAt, List.filterMap_cons, List.filterMap_nil, List.getElem?_toArray, List.getElem?_cons_zero, List.getElem?_cons_succ]
      (refine Firsts.val (v := ?_) rfl (fun _ => ?_) ?_; rotate_left; (go_simp; with_reducible rfl); simp only [Act.put, List.setIfInBounds_toArray, List.set_cons_zero, List.set_cons_succ])
      refine Firsts.nil ?_
      (refine Heads.val (v := ?_) rfl (fun wv hwv => ?_) ?_; rotate_left; (go_simp; with_reducible rfl); simp only [Act.put, List.setIfInBounds_toArray, List.set_cons_zero, List.set_cons_succ])
      (refine Heads.call (v := ?_) rfl (fun wv hwv => ?_) ?_; rotate_left; (go_simp; simp only [GivesUpon.enter]; refine (c_pTop _).mono ?_; rintro e w' ⟨rfl, hh⟩; refine ⟨?_, hwv.trans hh⟩; with_reducible rfl); simp only [Act.put, List.setIfInBounds_toArray, List.set_cons_zero, List.set_cons_succ])
      (refine Heads.val (v := ?_) rfl (fun wv hwv => ?_) ?_; rotate_left; (go_simp; with_reducible rfl); simp only [Act.put, List.setIfInBounds_toArray, List.set_cons_zero, List.set_cons_succ])
      (refine Heads.val (v := ?_) rfl (fun wv hwv => ?_) ?_; rotate_left; (go_simp; with_reducible rfl); simp only [Act.put, List.setIfInBounds_toArray, List.set_cons_zero, List.set_cons_succ])
      (refine Heads.val (v := ?_) rfl (fun wv hwv => ?_) ?_; rotate_left; (go_simp; with_reducible rfl); simp only [Act.put, List.setIfInBounds_toArray, List.set_cons_zero, List.set_cons_succ])
      (refine Heads.val (v := ?_) rfl (fun wv hwv => ?_) ?_; rotate_left; (go_simp; with_reducible rfl); simp only [Act.put, List.setIfInBounds_toArray, List.set_cons_zero, List.set_cons_succ])
      (refine Heads.val (v := ?_) rfl (fun wv hwv => ?_) ?_; rotate_left; (go_simp; with_reducible rfl); simp only [Act.put, List.setIfInBounds_toArray, List.set_cons_zero, List.set_cons_succ])
      (refine Heads.val (v := ?_) rfl (fun wv hwv => ?_) ?_; rotate_left; (go_simp; with_reducible rfl); simp only [Act.put, List.setIfInBounds_toArray, List.set_cons_zero, List.set_cons_succ])
      (refine Heads.val (v := ?_) rfl (fun wv hwv => ?_) ?_; rotate_left; (go_simp; with_reducible rfl); simp only [Act.put, List.setIfInBounds_toArray, List.set_cons_zero, List.set_cons_succ])
      (refine Heads.val (v := ?_) rfl (fun wv hwv => ?_) ?_; rotate_left; (go_simp; with_reducible rfl); simp only [Act.put, List.setIfInBounds_toArray, List.set_cons_zero, List.set_cons_succ])
      (refine Heads.val (v := ?_) rfl (fun wv hwv => ?_) ?_; rotate_left; (go_simp; with_reducible rfl); simp only [Act.put, List.setIfInBounds_toArray, List.set_cons_zero, List.set_cons_succ])
      (refine Heads.val (v := ?_) rfl (fun wv hwv => ?_) ?_; rotate_left; (go_simp; with_reducible rfl); simp only [Act.put, List.setIfInBounds_toArray, List.set_cons_zero, List.set_cons_succ])
      (refine Heads.call (v := ?_) rfl (fun wv hwv => ?_) ?_; rotate_left; (go_simp; simp only [GivesUpon.enter]; refine (c_putTop _ _ _ (by omega)).mono ?_; rintro e w' ⟨rfl, hh⟩; refine ⟨?_, hwv.trans hh⟩; with_reducible rfl); simp only [Act.put, List.setIfInBounds_toArray, List.set_cons_zero, List.set_cons_succ])
      refine Heads.nil ?_
      intro w3 hw3
      go_wp2_with fail
      refine (e_cas c l σ who _ _ _ _ (h5.ext hw3) hs (Fl.putTop_lt _ _)).mono ?_
      rintro e w4 ⟨rfl, h4, u4⟩
      have HB4 := Lib.hid (u4.keep (hw3.keep HB5.out) hb)
      have c_HB4_w4 := fun w' o (k : Ext w4 w') => k.cellOf HB4.out o
      have f_HB4_w4 := fun w' o (k : Ext w4 w') => frozen_of (k.keep HB4.out) o
      have r_HB4_w4 := Ext.refl w4
      clear cE5 c_HB5_w5 f_HB5_w5 r_HB5_w5
      go_wp2
      go_ret
      rw [HE.out]
      exact ⟨rfl, h4.keep1 (((Upd.refl [b] _)).set1 _ _) hb, (heap_set HB4.out _ _).trans (by simp), ⟨hsl, hnx, htop⟩, (((((hX.trans h2).upd _).trans u_w5.hd).trans (hw3.upd _)).trans u4.tl).trans (((Upd.refl [b] _)).set1 _ _).hd⟩

set_option maxHeartbeats 400000 in
theorem s_takeSlot (b : Nat) (t : Fl.Take) (x0 x1 x2 y8 y9 y10 y11 y12 y13 y14 y15 y16 y17 : Value) (W : World)
    (hB : W.heap[b]? = some (.cells #[x0, x1, x2, .int .i64 t.pc, .int .u64 (t.top : Nat), .int .i64 t.next, .int .i64 t.slot, .bool t.ok, y8, y9, y10, y11, y12, y13, y14, y15, y16, y17] 148 (0, 0))) :
    Calls Try.prog 112 #[.pointer (some ⟨b, 3, none⟩)] W fun e w' => e = .returned (.tuple #[.int .i64 (if t.ok = true then t.slot else 0), .bool t.ok]) ∧ Ext W w' := by
  cases ho : t.ok
  · rw [ho] at hB
    have c0 := fun o => cell_of hB o
    simp only [Bool.false_eq_true, if_false]
    clear hB ho
    go_enter Try.func112, Try.ntmps112
    go_wp2
    go_ret2
    exact ⟨rfl, Ext.refl _⟩
  · rw [ho] at hB
    have c0 := fun o => cell_of hB o
    simp only [if_true]
    clear hB ho
    go_enter Try.func112, Try.ntmps112
    go_wp2
    go_ret2
    exact ⟨rfl, Ext.refl _⟩

theorem n_give (s : Int) (W : World) (hs : -1 ≤ s ∧ s ≤ 131071) : Calls Try.prog 84 #[.int .i64 s] W fun e w' => e = .returned (.pointer (some ⟨W.heap.size, 0, none⟩)) ∧ GiveAt w' W.heap.size ⟨0, s, 0⟩ ∧ Ext W w' := by
  have hE := heap_new W (.cells #[.int .i64 0, .int .i64 s, .int .u64 0] 159)
  have hX := (Ext.refl W).alloc (.cells #[.int .i64 0, .int .i64 s, .int .u64 0] 159)
  go_enter Try.func84, Try.ntmps84
  go_wp2
  go_ret
  exact ⟨rfl, ⟨hE, hs, by simp⟩, hX⟩

end Go.Proofs.Ythblhgappldcjaa
