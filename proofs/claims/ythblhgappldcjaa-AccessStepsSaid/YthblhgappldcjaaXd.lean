/- The contracts of access: a step that sees. -/
import Derived.Test.YthblhgappldcjaaXc
namespace Go.Proofs.Ythblhgappldcjaa
open Go Go.RowKit
set_option linter.unusedVariables false

theorem acc0a (c : Fl.Cfg) (who : Int) (σ : Fl.Mem) (a : Fl.Access) (p0 : a.pc = 0) (hc : (Fl.handle a.x.handle).2 = false ∨ (Fl.handle a.x.handle).1.slot ≥ c.slots) :
    a.step c who σ = ({ a with h := (Fl.handle a.x.handle).1 } : Fl.Access).fin σ 3 0 σ.steps := by
  unfold Fl.Access.step; rw [if_pos p0]; simp only [if_pos hc]
theorem acc0b (c : Fl.Cfg) (who : Int) (σ : Fl.Mem) (a : Fl.Access) (p0 : a.pc = 0) (hc : ¬ ((Fl.handle a.x.handle).2 = false ∨ (Fl.handle a.x.handle).1.slot ≥ c.slots))
    (x : Nat) (m : Fl.Mem) (hl : σ.load who (Fl.pSlot c (Fl.handle a.x.handle).1.slot) = (x, m)) :
    a.step c who σ = if Fl.live (Fl.slotOf x) (Fl.handle a.x.handle).1 = false then ({ a with h := (Fl.handle a.x.handle).1, w := x, seen := m.steps, pc := 1 } : Fl.Access).fin m 3 0 m.steps else (false, { a with h := (Fl.handle a.x.handle).1, w := x, seen := m.steps, pc := 1 }, m) := by
  unfold Fl.Access.step; rw [if_pos p0]; simp only [if_neg hc, hl]



set_option maxHeartbeats 4000000 in
set_option maxRecDepth 100000 in
theorem x_step0 (c : Fl.Cfg) (l : Loc) (σ : Fl.Mem) (who : Int) (F : List Nat) (b : Nat) (a : Fl.Access) (W : World) (gc : GoodC c) (h : MemAt W l σ) (hs : 0 ≤ σ.steps ∧ σ.steps < 4611686018427387904)
    (ha : AccessAt W l F b a) (p0 : a.pc = 0) :
    Calls Try.prog 55 #[.pointer (some ⟨b, 0, none⟩), .agg #[.int .i64 c.threads, .int .i64 c.slots, .int .i64 c.chunks, .int .i64 c.words, .int .i64 c.gens, .int .i64 c.sparse, .int .i64 c.tries, .pointer (some ⟨l.m, 0, none⟩), .int .i64 who]] W (AccessRes (.bool (a.step c who σ).1) c who σ a l F b W) := by
  have HA := Lib.hid (fun h1 => acc0a c who σ a p0 h1)
  have HC := Lib.hid (fun h1 => acc0b c who σ a p0 h1)
  have HP0 := Lib.hid p0
  obtain ⟨⟨H, hB, hH⟩, hbF, hout, hFl, hn, hw, hcl, hsl, hgn, hsz, hpc⟩ := ha
  have hb := hout b hbF
  have hlt := h.lt
  have hbl := lt_of_heap hB
  have hE := heap_new W (.cells #[.int .i64 c.threads, .int .i64 c.slots, .int .i64 c.chunks, .int .i64 c.words, .int .i64 c.gens, .int .i64 c.sparse, .int .i64 c.tries, .pointer (some ⟨l.m, 0, none⟩), .int .i64 who] 27)
  have hX := (Ext.refl W).alloc (.cells #[.int .i64 c.threads, .int .i64 c.slots, .int .i64 c.chunks, .int .i64 c.words, .int .i64 c.gens, .int .i64 c.sparse, .int .i64 c.tries, .pointer (some ⟨l.m, 0, none⟩), .int .i64 who] 27)
  have hsE := lt_of_heap hE
  rw [p0] at hB
  have HB1 := Lib.hid (hX.keep hB)
  have c0 := fun w' o (k : Ext W w') => k.cellOf hB o
  have HPG := Lib.hid hH
  clear hB hH
  go_enter Try.func55, Try.ntmps55
  go_wp2_with fail
  generalize W.alloc (.cells #[.int .i64 c.threads, .int .i64 c.slots, .int .i64 c.chunks, .int .i64 c.words, .int .i64 c.gens, .int .i64 c.sparse, .int .i64 c.tries, .pointer (some ⟨l.m, 0, none⟩), .int .i64 who] 27) = w1 at *
  have cE := fun w' o (k : Ext w1 w') => k.cellOf hE o
  have cb1 := fun w' o (k : Ext w1 w') => c0 w' o (hX.trans k)
  have r1 := Ext.refl w1
  have c_HB1_w1 := fun w' o (k : Ext w1 w') => k.cellOf HB1.out o
  have f_HB1_w1 := fun w' o (k : Ext w1 w') => frozen_of (k.keep HB1.out) o
  have r_HB1_w1 := Ext.refl w1
  refine (c_handle _ _ hn).mono ?_
  rintro e w2 ⟨rfl, x2⟩
  obtain ⟨r1, r2, r3, r4⟩ := Fl.handle_range a.x.handle
  generalize hhd : Fl.handle a.x.handle = hd2 at *
  obtain ⟨⟨hs2, hg2⟩, is⟩ := hd2
  simp only at r1 r2 r3 r4
  clear hhd
  have HB2 := Lib.hid (x2.keep HB1.out)
  have E2 := x2.keep hE
  have c_HB2_w2 := fun w' o (k : Ext w2 w') => k.cellOf HB2.out o
  have f_HB2_w2 := fun w' o (k : Ext w2 w') => frozen_of (k.keep HB2.out) o
  have r_HB2_w2 := Ext.refl w2
  have cE2 := fun w' o (k : Ext w2 w') => k.cellOf E2 o
  clear c0 cb1 cE c_HB1_w1 f_HB1_w1
  have a2 := fun o => (Ext.refl w2).alloc o
  cases is
  · have HF := Lib.hid (HA.out (Or.inl rfl))
    clear HA HC
    go_wp2_with fail
    have hbW : W.heap.size ≤ w2.heap.size := (hX.trans x2).size
    have E3 := heap_far (heap_far (heap_old (o' := .cells #[.int .i64 hs2, .int .i64 hg2] 46) E2) (p := ⟨b, 6, none⟩) (show W.heap.size ≠ b by omega) (.int .i64 hs2)) (p := ⟨b, 7, none⟩) (show W.heap.size ≠ b by omega) (.int .i64 hg2)
    have HH3 := Lib.hid (heap_far (heap_far (heap_new w2 (.cells #[.int .i64 hs2, .int .i64 hg2] 46)) (p := ⟨b, 6, none⟩) (show w2.heap.size ≠ b by omega) (.int .i64 hs2)) (p := ⟨b, 7, none⟩) (show w2.heap.size ≠ b by omega) (.int .i64 hg2))
    have HB3 := Lib.hid (heap_set (heap_set (heap_old (o' := .cells #[.int .i64 hs2, .int .i64 hg2] 46) HB2.out) 6 (.int .i64 hs2)) 7 (.int .i64 hg2))
    have u3 := (((Upd.refl [b] w2).alloc (.cells #[.int .i64 hs2, .int .i64 hg2] 46)).set1 6 (.int .i64 hs2)).set1 7 (.int .i64 hg2)
    generalize World.setCell (World.setCell (w2.alloc (.cells #[.int .i64 hs2, .int .i64 hg2] 46)) ⟨b, 6, none⟩ (.int .i64 hs2)) ⟨b, 7, none⟩ (.int .i64 hg2) = w3 at *
    simp only [List.setIfInBounds_toArray, List.set_cons_zero, List.set_cons_succ] at HB3
    have h3 := (h.ext (hX.trans x2)).keep1 u3 hb
    have hub3 : Upd (F ++ l.all) W w3 := ((hX.trans x2).upd _).trans (u3.own1 hbF)
    clear u3
    have nhb : b ≠ w2.heap.size := by omega
    have hhl : w2.heap.size ∉ l.all := fun hm => by have := hlt _ hm; omega
    generalize w2.heap.size = bh at *
    have c_HB3_w3 := fun w' o (k : Ext w3 w') => k.cellOf HB3.out o
    have f_HB3_w3 := fun w' o (k : Ext w3 w') => frozen_of (k.keep HB3.out) o
    have r_HB3_w3 := Ext.refl w3
    have c_HH3_w3 := fun w' o (k : Ext w3 w') => k.cellOf HH3.out o
    have f_HH3_w3 := fun w' o (k : Ext w3 w') => frozen_of (k.keep HH3.out) o
    have r_HH3_w3 := Ext.refl w3
    have cE3 := fun w' o (k : Ext w3 w') => k.cellOf E3 o
    clear c_HB2_w2 f_HB2_w2 cE2
    refine (e_now c l σ who _ h3).mono ?_
    rintro e w4 ⟨rfl, x4⟩
    have h4 := h3.ext x4
    have hub4 := hub3.extR x4
    have HD4 : AccessAt w4 l F b { a with h := ⟨hs2, hg2⟩ } := ⟨⟨H, by rw [HP0.out]; exact x4.keep HB3.out, fun q => by simp only [HP0.out] at q; omega⟩, hbF, hout, fun x hx => by have := hFl x hx; have := hub4.size; omega, hn, hw, hcl, ⟨r1, r2⟩, ⟨r3, r4⟩, hsz, hpc⟩
    go_wp2_with fail
    refine (x_end l F b _ 3 (0) (σ.steps) w4 HD4).mono ?_
    rintro e wz ⟨rfl, hdz, uz⟩
    go_wp2
    go_ret
    unfold AccessRes
    rw [HF.out]
    exact ⟨rfl, h4.keep1 uz hb, hub4.trans (uz.own1 hbF), F, hdz, fun x hx => Or.inl hx⟩
  · by_cases q0 : hs2 ≥ c.slots
    · have b0 : decide (hs2 ≥ c.slots) = true := decide_eq_true q0
      have HF := Lib.hid (HA.out (Or.inr q0))
      clear HA HC
      go_wp2_with fail
      have hbW : W.heap.size ≤ w2.heap.size := (hX.trans x2).size
      have E3 := heap_far (heap_far (heap_old (o' := .cells #[.int .i64 hs2, .int .i64 hg2] 46) E2) (p := ⟨b, 6, none⟩) (show W.heap.size ≠ b by omega) (.int .i64 hs2)) (p := ⟨b, 7, none⟩) (show W.heap.size ≠ b by omega) (.int .i64 hg2)
      have HH3 := Lib.hid (heap_far (heap_far (heap_new w2 (.cells #[.int .i64 hs2, .int .i64 hg2] 46)) (p := ⟨b, 6, none⟩) (show w2.heap.size ≠ b by omega) (.int .i64 hs2)) (p := ⟨b, 7, none⟩) (show w2.heap.size ≠ b by omega) (.int .i64 hg2))
      have HB3 := Lib.hid (heap_set (heap_set (heap_old (o' := .cells #[.int .i64 hs2, .int .i64 hg2] 46) HB2.out) 6 (.int .i64 hs2)) 7 (.int .i64 hg2))
      have u3 := (((Upd.refl [b] w2).alloc (.cells #[.int .i64 hs2, .int .i64 hg2] 46)).set1 6 (.int .i64 hs2)).set1 7 (.int .i64 hg2)
      generalize World.setCell (World.setCell (w2.alloc (.cells #[.int .i64 hs2, .int .i64 hg2] 46)) ⟨b, 6, none⟩ (.int .i64 hs2)) ⟨b, 7, none⟩ (.int .i64 hg2) = w3 at *
      simp only [List.setIfInBounds_toArray, List.set_cons_zero, List.set_cons_succ] at HB3
      have h3 := (h.ext (hX.trans x2)).keep1 u3 hb
      have hub3 : Upd (F ++ l.all) W w3 := ((hX.trans x2).upd _).trans (u3.own1 hbF)
      clear u3
      have nhb : b ≠ w2.heap.size := by omega
      have hhl : w2.heap.size ∉ l.all := fun hm => by have := hlt _ hm; omega
      generalize w2.heap.size = bh at *
      have c_HB3_w3 := fun w' o (k : Ext w3 w') => k.cellOf HB3.out o
      have f_HB3_w3 := fun w' o (k : Ext w3 w') => frozen_of (k.keep HB3.out) o
      have r_HB3_w3 := Ext.refl w3
      have c_HH3_w3 := fun w' o (k : Ext w3 w') => k.cellOf HH3.out o
      have f_HH3_w3 := fun w' o (k : Ext w3 w') => frozen_of (k.keep HH3.out) o
      have r_HH3_w3 := Ext.refl w3
      have cE3 := fun w' o (k : Ext w3 w') => k.cellOf E3 o
      clear c_HB2_w2 f_HB2_w2 cE2
      refine (e_now c l σ who _ h3).mono ?_
      rintro e w4 ⟨rfl, x4⟩
      have h4 := h3.ext x4
      have hub4 := hub3.extR x4
      have HD4 : AccessAt w4 l F b { a with h := ⟨hs2, hg2⟩ } := ⟨⟨H, by rw [HP0.out]; exact x4.keep HB3.out, fun q => by simp only [HP0.out] at q; omega⟩, hbF, hout, fun x hx => by have := hFl x hx; have := hub4.size; omega, hn, hw, hcl, ⟨r1, r2⟩, ⟨r3, r4⟩, hsz, hpc⟩
      go_wp2_with fail
      refine (x_end l F b _ 3 (0) (σ.steps) w4 HD4).mono ?_
      rintro e wz ⟨rfl, hdz, uz⟩
      go_wp2
      go_ret
      unfold AccessRes
      rw [HF.out]
      exact ⟨rfl, h4.keep1 uz hb, hub4.trans (uz.own1 hbF), F, hdz, fun x hx => Or.inl hx⟩
    · have b0 : decide (hs2 ≥ c.slots) = false := decide_eq_false q0
      have HF := Lib.hid (HC.out (by simpa using q0))
      clear HA HC
      go_wp2_with fail
      have hbW : W.heap.size ≤ w2.heap.size := (hX.trans x2).size
      have E3 := heap_far (heap_far (heap_old (o' := .cells #[.int .i64 hs2, .int .i64 hg2] 46) E2) (p := ⟨b, 6, none⟩) (show W.heap.size ≠ b by omega) (.int .i64 hs2)) (p := ⟨b, 7, none⟩) (show W.heap.size ≠ b by omega) (.int .i64 hg2)
      have HH3 := Lib.hid (heap_far (heap_far (heap_new w2 (.cells #[.int .i64 hs2, .int .i64 hg2] 46)) (p := ⟨b, 6, none⟩) (show w2.heap.size ≠ b by omega) (.int .i64 hs2)) (p := ⟨b, 7, none⟩) (show w2.heap.size ≠ b by omega) (.int .i64 hg2))
      have HB3 := Lib.hid (heap_set (heap_set (heap_old (o' := .cells #[.int .i64 hs2, .int .i64 hg2] 46) HB2.out) 6 (.int .i64 hs2)) 7 (.int .i64 hg2))
      have u3 := (((Upd.refl [b] w2).alloc (.cells #[.int .i64 hs2, .int .i64 hg2] 46)).set1 6 (.int .i64 hs2)).set1 7 (.int .i64 hg2)
      generalize World.setCell (World.setCell (w2.alloc (.cells #[.int .i64 hs2, .int .i64 hg2] 46)) ⟨b, 6, none⟩ (.int .i64 hs2)) ⟨b, 7, none⟩ (.int .i64 hg2) = w3 at *
      simp only [List.setIfInBounds_toArray, List.set_cons_zero, List.set_cons_succ] at HB3
      have h3 := (h.ext (hX.trans x2)).keep1 u3 hb
      have hub3 : Upd (F ++ l.all) W w3 := ((hX.trans x2).upd _).trans (u3.own1 hbF)
      clear u3
      have nhb : b ≠ w2.heap.size := by omega
      have hhl : w2.heap.size ∉ l.all := fun hm => by have := hlt _ hm; omega
      generalize w2.heap.size = bh at *
      have c_HB3_w3 := fun w' o (k : Ext w3 w') => k.cellOf HB3.out o
      have f_HB3_w3 := fun w' o (k : Ext w3 w') => frozen_of (k.keep HB3.out) o
      have r_HB3_w3 := Ext.refl w3
      have c_HH3_w3 := fun w' o (k : Ext w3 w') => k.cellOf HH3.out o
      have f_HH3_w3 := fun w' o (k : Ext w3 w') => frozen_of (k.keep HH3.out) o
      have r_HH3_w3 := Ext.refl w3
      have cE3 := fun w' o (k : Ext w3 w') => k.cellOf E3 o
      clear c_HB2_w2 f_HB2_w2 cE2
      clear a2
      refine wp_region_plan (Ext w3) [0] [1, 2, 3, 4, 5, 6] 7 [8, 9, 10] Try.mixed (by kernel_rfl) (by intro c a d v w h; cases d <;> exact h) (Ext.refl _).drew ?_
      simp only [opsAt, List.filterMap_cons, List.filterMap_nil, List.getElem?_toArray, List.getElem?_cons_zero, List.getElem?_cons_succ]
      (refine Firsts.val (v := ?_) rfl (fun _ => ?_) ?_; rotate_left; (go_simp; with_reducible rfl); simp only [Act.put, List.setIfInBounds_toArray, List.set_cons_zero, List.set_cons_succ])
      refine Firsts.nil ?_
      (refine Heads.val (v := ?_) rfl (fun wv hwv => ?_) ?_; rotate_left; (go_simp; with_reducible rfl); simp only [Act.put, List.setIfInBounds_toArray, List.set_cons_zero, List.set_cons_succ])
      (refine Heads.val (v := ?_) rfl (fun wv hwv => ?_) ?_; rotate_left; (go_simp; with_reducible rfl); simp only [Act.put, List.setIfInBounds_toArray, List.set_cons_zero, List.set_cons_succ])
      (refine Heads.val (v := ?_) rfl (fun wv hwv => ?_) ?_; rotate_left; (go_simp; with_reducible rfl); simp only [Act.put, List.setIfInBounds_toArray, List.set_cons_zero, List.set_cons_succ])
      (refine Heads.val (v := ?_) rfl (fun wv hwv => ?_) ?_; rotate_left; (go_simp; with_reducible rfl); simp only [Act.put, List.setIfInBounds_toArray, List.set_cons_zero, List.set_cons_succ])
      (refine Heads.val (v := ?_) rfl (fun wv hwv => ?_) ?_; rotate_left; (go_simp; with_reducible rfl); simp only [Act.put, List.setIfInBounds_toArray, List.set_cons_zero, List.set_cons_succ])
      (refine Heads.call (v := ?_) rfl (fun wv hwv => ?_) ?_; rotate_left; (go_simp; simp only [GivesUpon.enter]; refine (c_pSlot c _ _ gc (by omega)).mono ?_; rintro e w' ⟨rfl, hh⟩; refine ⟨?_, hwv.trans hh⟩; with_reducible rfl); simp only [Act.put, List.setIfInBounds_toArray, List.set_cons_zero, List.set_cons_succ])
      refine Heads.nil ?_
      intro w4 hw4
      go_wp2_with fail
      have hll := load_lt h3 who (Fl.pSlot c hs2)
      refine (e_load c l σ who _ _ (h3.ext hw4) hs).mono ?_
      rintro e w5 ⟨rfl, h5, u5⟩
      generalize hl : σ.load who (Fl.pSlot c hs2) = lx at *
      obtain ⟨x, σ'⟩ := lx
      simp only at hll h5
      have HE := Lib.hid (HF.out x σ' rfl)
      clear HF hl
      have HB5 := Lib.hid (u5.keep (hw4.keep HB3.out) hb)
      have HH5 := Lib.hid (u5.keep (hw4.keep HH3.out) hhl)
      have E5 := u5.keep (hw4.keep E3) (by intro hm; have := hlt _ hm; omega)
      have hub5 : Upd (F ++ l.all) W w5 := (hub3.extR hw4).trans u5.mem
      have c_HB5_w5 := fun w' o (k : Ext w5 w') => k.cellOf HB5.out o
      have f_HB5_w5 := fun w' o (k : Ext w5 w') => frozen_of (k.keep HB5.out) o
      have r_HB5_w5 := Ext.refl w5
      have c_HH5_w5 := fun w' o (k : Ext w5 w') => k.cellOf HH5.out o
      have f_HH5_w5 := fun w' o (k : Ext w5 w') => frozen_of (k.keep HH5.out) o
      have r_HH5_w5 := Ext.refl w5
      have cE5 := fun w' o (k : Ext w5 w') => k.cellOf E5 o
      clear c_HB3_w3 f_HB3_w3 c_HH3_w3 f_HH3_w3 cE3
      have neb : W.heap.size ≠ b := by omega
      have nhb' : bh ≠ b := nhb.symm
      go_wp2_with fail
      have HB6 := Lib.hid (heap_set HB5.out 9 (.int .u64 (x : Nat)))
      have HH6 := Lib.hid (heap_far HH5.out (p := ⟨b, 9, none⟩) nhb' (.int .u64 (x : Nat)))
      have E6 := (heap_far E5 (p := ⟨b, 9, none⟩) neb (.int .u64 (x : Nat)))
      have u6 := ((Upd.refl [b] w5).set1 9 (.int .u64 (x : Nat)))
      generalize (World.setCell w5 ⟨b, 9, none⟩ (.int .u64 (x : Nat))) = w6 at *
      simp only [List.setIfInBounds_toArray, List.set_cons_zero, List.set_cons_succ] at HB6
      have h6 := h5.keep1 u6 hb
      have hub6 := hub5.trans (u6.own1 hbF)
      refine (e_now c l σ' who _ h6).mono ?_
      rintro e w7 ⟨rfl, x7⟩
      have HB7 := Lib.hid (x7.keep HB6.out)
      have HH7 := Lib.hid (x7.keep HH6.out)
      have E7 := x7.keep E6
      have h7 := h6.ext x7
      have hub7 := hub6.extR x7
      have c_HB7_w7 := fun w' o (k : Ext w7 w') => k.cellOf HB7.out o
      have f_HB7_w7 := fun w' o (k : Ext w7 w') => frozen_of (k.keep HB7.out) o
      have r_HB7_w7 := Ext.refl w7
      have c_HH7_w7 := fun w' o (k : Ext w7 w') => k.cellOf HH7.out o
      have f_HH7_w7 := fun w' o (k : Ext w7 w') => frozen_of (k.keep HH7.out) o
      have r_HH7_w7 := Ext.refl w7
      have cE7 := fun w' o (k : Ext w7 w') => k.cellOf E7 o
      clear c_HB5_w5 f_HB5_w5 c_HH5_w5 f_HH5_w5 cE5
      go_wp2_with fail
      have HB8 := Lib.hid (heap_set (heap_set HB7.out 11 (.int .i64 σ'.steps)) 8 (.int .i64 1))
      have HH8 := Lib.hid (heap_far (heap_far HH7.out (p := ⟨b, 11, none⟩) nhb' (.int .i64 σ'.steps)) (p := ⟨b, 8, none⟩) nhb' (.int .i64 1))
      have E8 := (heap_far (heap_far E7 (p := ⟨b, 11, none⟩) neb (.int .i64 σ'.steps)) (p := ⟨b, 8, none⟩) neb (.int .i64 1))
      have u8 := (((Upd.refl [b] w7).set1 11 (.int .i64 σ'.steps)).set1 8 (.int .i64 1))
      generalize (World.setCell (World.setCell w7 ⟨b, 11, none⟩ (.int .i64 σ'.steps)) ⟨b, 8, none⟩ (.int .i64 1)) = w8 at *
      simp only [List.setIfInBounds_toArray, List.set_cons_zero, List.set_cons_succ] at HB8
      have h8 := h7.keep1 u8 hb
      have hub8 := hub7.trans (u8.own1 hbF)
      have c_HB8_w8 := fun w' o (k : Ext w8 w') => k.cellOf HB8.out o
      have f_HB8_w8 := fun w' o (k : Ext w8 w') => frozen_of (k.keep HB8.out) o
      have r_HB8_w8 := Ext.refl w8
      have c_HH8_w8 := fun w' o (k : Ext w8 w') => k.cellOf HH8.out o
      have f_HH8_w8 := fun w' o (k : Ext w8 w') => frozen_of (k.keep HH8.out) o
      have r_HH8_w8 := Ext.refl w8
      have cE8 := fun w' o (k : Ext w8 w') => k.cellOf E8 o
      clear c_HB7_w7 f_HB7_w7 c_HH7_w7 f_HH7_w7 cE7
      refine wp_region_plan (Ext w8) [] [0, 1, 2, 3, 4, 5, 6] 7 [] Try.mixed (by kernel_rfl) (by intro c a d v w h; cases d <;> exact h) (Ext.refl _).drew ?_
      simp only [opsAt, List.filterMap_cons, List.filterMap_nil, List.getElem?_toArray, List.getElem?_cons_zero, List.getElem?_cons_succ]
      refine Firsts.nil ?_
      (refine Heads.val (v := ?_) rfl (fun wv hwv => ?_) ?_; rotate_left; (go_simp; with_reducible rfl); simp only [Act.put, List.setIfInBounds_toArray, List.set_cons_zero, List.set_cons_succ])
      (refine Heads.val (v := ?_) rfl (fun wv hwv => ?_) ?_; rotate_left; (go_simp; with_reducible rfl); simp only [Act.put, List.setIfInBounds_toArray, List.set_cons_zero, List.set_cons_succ])
      (refine Heads.val (v := ?_) rfl (fun wv hwv => ?_) ?_; rotate_left; (go_simp; with_reducible rfl); simp only [Act.put, List.setIfInBounds_toArray, List.set_cons_zero, List.set_cons_succ])
      (refine Heads.val (v := ?_) rfl (fun wv hwv => ?_) ?_; rotate_left; (go_simp; with_reducible rfl); simp only [Act.put, List.setIfInBounds_toArray, List.set_cons_zero, List.set_cons_succ])
      (refine Heads.call (v := ?_) rfl (fun wv hwv => ?_) ?_; rotate_left; (go_simp; simp only [GivesUpon.enter]; refine (c_slot _ _ hll).mono ?_; rintro e w' ⟨rfl, hh⟩; refine ⟨?_, hwv.trans hh⟩; with_reducible rfl); simp only [Act.put, List.setIfInBounds_toArray, List.set_cons_zero, List.set_cons_succ])
      (refine Heads.val (v := ?_) rfl (fun wv hwv => ?_) ?_; rotate_left; (go_simp; with_reducible rfl); simp only [Act.put, List.setIfInBounds_toArray, List.set_cons_zero, List.set_cons_succ])
      (refine Heads.call (v := ?_) rfl (fun wv hwv => ?_) ?_; rotate_left; (go_simp; simp only [GivesUpon.enter]; refine (c_live _ _ _ _ _ _ _).mono ?_; rintro e w' ⟨rfl, hh⟩; refine ⟨?_, hwv.trans hh⟩; with_reducible rfl); simp only [Act.put, List.setIfInBounds_toArray, List.set_cons_zero, List.set_cons_succ])
      refine Heads.nil ?_
      intro w9 hw9
      have HB9 := Lib.hid (hw9.keep HB8.out)
      have E9 := hw9.keep E8
      have c_HB9_w9 := fun w' o (k : Ext w9 w') => k.cellOf HB9.out o
      have f_HB9_w9 := fun w' o (k : Ext w9 w') => frozen_of (k.keep HB9.out) o
      have r_HB9_w9 := Ext.refl w9
      have cE9 := fun w' o (k : Ext w9 w') => k.cellOf E9 o
      clear c_HB8_w8 f_HB8_w8 c_HH8_w8 f_HH8_w8 cE8
      have h9 := h8.ext hw9
      have hub9 := hub8.extR hw9
      cases hlv : Fl.live (Fl.slotOf x) ⟨hs2, hg2⟩
      · have HI := Lib.hid (HE.out.trans (if_pos hlv))
        clear HE
        go_wp2_with fail
        refine (e_now c l σ' who _ h9).mono ?_
        rintro e wa ⟨rfl, xa⟩
        have ha' := h9.ext xa
        have huba := hub9.extR xa
        have HDa : AccessAt wa l F b { a with h := ⟨hs2, hg2⟩, w := x, seen := σ'.steps, pc := 1 } := ⟨⟨H, xa.keep HB9.out, fun q => by simp at q⟩, hbF, hout, fun x hx => by have := hFl x hx; have := huba.size; omega, hn, hll, hcl, ⟨r1, r2⟩, ⟨r3, r4⟩, hsz, by simp⟩
        go_wp2_with fail
        have hwa := ha'
        refine (x_end l F b _ 3 0 σ'.steps wa HDa).mono ?_
        rintro e wz ⟨rfl, hdz, uz⟩
        go_wp2
        go_ret
        unfold AccessRes
        rw [HI.out]
        exact ⟨rfl, hwa.keep1 uz hb, huba.trans (uz.own1 hbF), F, hdz, fun x hx => Or.inl hx⟩
      · have HI := Lib.hid (HE.out.trans (if_neg (by rw [hlv]; decide)))
        clear HE
        go_wp2
        go_ret
        unfold AccessRes
        rw [HI.out]
        refine ⟨rfl, h9, hub9, F, ⟨⟨H, HB9.out, fun q => ?_⟩, hbF, hout, fun x hx => ?_, hn, hll, hcl, ⟨r1, r2⟩, ⟨r3, r4⟩, hsz, by simp⟩, fun x hx => Or.inl hx⟩
        · simp at q
        · have := hFl x hx; have := hub9.size; omega

end Go.Proofs.Ythblhgappldcjaa
