/- The contract of alloc's step, what is left of it. -/
import Derived.Test.YthblhgappldcjaaGb
namespace Go.Proofs.Ythblhgappldcjaa
open Go Go.RowKit
set_option linter.unusedVariables false

set_option maxHeartbeats 1000000 in
set_option maxRecDepth 100000 in
theorem a_step5 (c : Fl.Cfg) (l : Loc) (σ : Fl.Mem) (who : Int) (F : List Nat) (b : Nat) (a : Fl.Alloc) (W : World) (gc : GoodC c) (h : MemAt W l σ) (hs : 0 ≤ σ.steps ∧ σ.steps < 4611686018427387904)
    (ha : AllocAt W l F b a) (p0 : a.pc = 5) :
    Calls Try.prog 76 #[.pointer (some ⟨b, 0, none⟩), .agg #[.int .i64 c.threads, .int .i64 c.slots, .int .i64 c.chunks, .int .i64 c.words, .int .i64 c.gens, .int .i64 c.sparse, .int .i64 c.tries, .pointer (some ⟨l.m, 0, none⟩), .int .i64 who]] W (AllocRes c who σ a l F b W) := by
  have HA := Lib.hid (alloc5 c who σ a p0)
  have HP0 := Lib.hid p0
  obtain ⟨⟨P, G, hB, hP, hG⟩, hbF, hout, hFl, htk, hat, hsp, hpc⟩ := ha
  have hb := hout b hbF
  have hlt := h.lt
  have hbl := lt_of_heap hB
  have hE := heap_new W (.cells #[.int .i64 c.threads, .int .i64 c.slots, .int .i64 c.chunks, .int .i64 c.words, .int .i64 c.gens, .int .i64 c.sparse, .int .i64 c.tries, .pointer (some ⟨l.m, 0, none⟩), .int .i64 who] 27)
  have hX := (Ext.refl W).alloc (.cells #[.int .i64 c.threads, .int .i64 c.slots, .int .i64 c.chunks, .int .i64 c.words, .int .i64 c.gens, .int .i64 c.sparse, .int .i64 c.tries, .pointer (some ⟨l.m, 0, none⟩), .int .i64 who] 27)
  have hsE := lt_of_heap hE
  rw [p0] at hB
  have HB1 := Lib.hid (hX.keep hB)
  have c0 := fun w' o (k : Ext W w') => k.cellOf hB o
  have HPG := Lib.hid (And.intro hP hG)
  clear hB hP hG
  go_enter Try.func76, Try.ntmps76
  go_wp2_with fail
  generalize W.alloc (.cells #[.int .i64 c.threads, .int .i64 c.slots, .int .i64 c.chunks, .int .i64 c.words, .int .i64 c.gens, .int .i64 c.sparse, .int .i64 c.tries, .pointer (some ⟨l.m, 0, none⟩), .int .i64 who] 27) = w1 at *
  have cE := fun w' o (k : Ext w1 w') => k.cellOf hE o
  have cb1 := fun w' o (k : Ext w1 w') => c0 w' o (hX.trans k)
  have r1 := Ext.refl w1
  have c_HB1_w1 := fun w' o (k : Ext w1 w') => k.cellOf HB1.out o
  have f_HB1_w1 := fun w' o (k : Ext w1 w') => frozen_of (k.keep HB1.out) o
  have r_HB1_w1 := Ext.refl w1
  refine wp_region_plan (Ext w1) [] [0, 1, 2, 3, 4, 5, 6, 7, 8, 9, 10, 11, 12, 13, 14, 15, 16, 17, 18] 19 [] Try.mixed (by kernel_rfl) (by intro c a d v w h; cases d <;> exact h) (Ext.refl _).drew ?_
  simp only [opsAt, List.filterMap_cons, List.filterMap_nil, List.getElem?_toArray, List.getElem?_cons_zero, List.getElem?_cons_succ]
  refine Firsts.nil ?_
  (refine Heads.val (v := ?_) rfl (fun wv hwv => ?_) ?_; rotate_left; (go_simp; with_reducible rfl); simp only [Act.put, List.setIfInBounds_toArray, List.set_cons_zero, List.set_cons_succ])
  (refine Heads.val (v := ?_) rfl (fun wv hwv => ?_) ?_; rotate_left; (go_simp; with_reducible rfl); simp only [Act.put, List.setIfInBounds_toArray, List.set_cons_zero, List.set_cons_succ])
  (refine Heads.val (v := ?_) rfl (fun wv hwv => ?_) ?_; rotate_left; (go_simp; with_reducible rfl); simp only [Act.put, List.setIfInBounds_toArray, List.set_cons_zero, List.set_cons_succ])
  (refine Heads.val (v := ?_) rfl (fun wv hwv => ?_) ?_; rotate_left; (go_simp; with_reducible rfl); simp only [Act.put, List.setIfInBounds_toArray, List.set_cons_zero, List.set_cons_succ])
  (refine Heads.val (v := ?_) rfl (fun wv hwv => ?_) ?_; rotate_left; (go_simp; with_reducible rfl); simp only [Act.put, List.setIfInBounds_toArray, List.set_cons_zero, List.set_cons_succ])
  (refine Heads.val (v := ?_) rfl (fun wv hwv => ?_) ?_; rotate_left; (go_simp; with_reducible rfl); simp only [Act.put, List.setIfInBounds_toArray, List.set_cons_zero, List.set_cons_succ])
  (refine Heads.val (v := ?_) rfl (fun wv hwv => ?_) ?_; rotate_left; (go_simp; with_reducible rfl); simp only [Act.put, List.setIfInBounds_toArray, List.set_cons_zero, List.set_cons_succ])
  (refine Heads.call (v := ?_) rfl (fun wv hwv => ?_) ?_; rotate_left; (go_simp; simp only [GivesUpon.enter]; refine (c_pSlot c _ _ gc (by omega)).mono ?_; rintro e w' ⟨rfl, hh⟩; refine ⟨?_, hwv.trans hh⟩; with_reducible rfl); simp only [Act.put, List.setIfInBounds_toArray, List.set_cons_zero, List.set_cons_succ])
  (refine Heads.val (v := ?_) rfl (fun wv hwv => ?_) ?_; rotate_left; (go_simp; with_reducible rfl); simp only [Act.put, List.setIfInBounds_toArray, List.set_cons_zero, List.set_cons_succ])
  (refine Heads.val (v := ?_) rfl (fun wv hwv => ?_) ?_; rotate_left; (go_simp; with_reducible rfl); simp only [Act.put, List.setIfInBounds_toArray, List.set_cons_zero, List.set_cons_succ])
  (refine Heads.val (v := ?_) rfl (fun wv hwv => ?_) ?_; rotate_left; (go_simp; with_reducible rfl); simp only [Act.put, List.setIfInBounds_toArray, List.set_cons_zero, List.set_cons_succ])
  (refine Heads.val (v := ?_) rfl (fun wv hwv => ?_) ?_; rotate_left; (go_simp; with_reducible rfl); simp only [Act.put, List.setIfInBounds_toArray, List.set_cons_zero, List.set_cons_succ])
  (refine Heads.val (v := ?_) rfl (fun wv hwv => ?_) ?_; rotate_left; (go_simp; with_reducible rfl); simp only [Act.put, List.setIfInBounds_toArray, List.set_cons_zero, List.set_cons_succ])
  (refine Heads.val (v := ?_) rfl (fun wv hwv => ?_) ?_; rotate_left; (go_simp; with_reducible rfl); simp only [Act.put, List.setIfInBounds_toArray, List.set_cons_zero, List.set_cons_succ])
  (refine Heads.val (v := ?_) rfl (fun wv hwv => ?_) ?_; rotate_left; (go_simp; with_reducible rfl); simp only [Act.put, List.setIfInBounds_toArray, List.set_cons_zero, List.set_cons_succ])
  (refine Heads.val (v := ?_) rfl (fun wv hwv => ?_) ?_; rotate_left; (go_simp; with_reducible rfl); simp only [Act.put, List.setIfInBounds_toArray, List.set_cons_zero, List.set_cons_succ])
  (refine Heads.val (v := ?_) rfl (fun wv hwv => ?_) ?_; rotate_left; (go_simp; with_reducible rfl); simp only [Act.put, List.setIfInBounds_toArray, List.set_cons_zero, List.set_cons_succ])
  (refine Heads.val (v := ?_) rfl (fun wv hwv => ?_) ?_; rotate_left; (go_simp; with_reducible rfl); simp only [Act.put, List.setIfInBounds_toArray, List.set_cons_zero, List.set_cons_succ])
  (refine Heads.call (v := ?_) rfl (fun wv hwv => ?_) ?_; rotate_left; (go_simp; simp only [GivesUpon.enter]; refine (c_putSlot _ _ _ _ _).mono ?_; rintro e w' ⟨rfl, hh⟩; refine ⟨?_, hwv.trans hh⟩; with_reducible rfl); simp only [Act.put, List.setIfInBounds_toArray, List.set_cons_zero, List.set_cons_succ])
  refine Heads.nil ?_
  intro w3 hw3
  go_wp2_with fail
  have hx3 := hX.trans hw3
  refine (e_store c l σ who _ _ _ (h.ext hx3) hs (Fl.putSlot_lt ⟨1, a.spot.addr, a.gen, 0⟩)).mono ?_
  rintro e w4 ⟨rfl, h4, u4⟩
  have HE := Lib.hid (HA.out _ rfl)
  generalize σ.store who (Fl.pSlot c a.at_) (Fl.putSlot ⟨1, a.spot.addr, a.gen, 0⟩) = σ' at *
  have HB4 := Lib.hid (u4.keep (hw3.keep HB1.out) hb)
  have E4 := u4.keep (hw3.keep hE) (by intro hm; have := hlt _ hm; omega)
  have hub : Upd (F ++ l.all) W w4 := (hx3.upd _).trans u4.mem
  have c_HB4_w4 := fun w' o (k : Ext w4 w') => k.cellOf HB4.out o
  have f_HB4_w4 := fun w' o (k : Ext w4 w') => frozen_of (k.keep HB4.out) o
  have r_HB4_w4 := Ext.refl w4
  have cE4 := fun w' o (k : Ext w4 w') => k.cellOf E4 o
  clear c0 cb1 cE c_HB1_w1 f_HB1_w1 HA
  go_wp2_with fail
  refine wp_region_plan (Ext w4) [] [0, 1, 2, 3, 4, 5, 6, 7, 8, 9, 10, 11, 12, 13, 14, 15] 16 [] Try.mixed (by kernel_rfl) (by intro c a d v w h; cases d <;> exact h) (Ext.refl _).drew ?_
  simp only [opsAt, List.filterMap_cons, List.filterMap_nil, List.getElem?_toArray, List.getElem?_cons_zero, List.getElem?_cons_succ]
  refine Firsts.nil ?_
  (refine Heads.val (v := ?_) rfl (fun wv hwv => ?_) ?_; rotate_left; (go_simp; with_reducible rfl); simp only [Act.put, List.setIfInBounds_toArray, List.set_cons_zero, List.set_cons_succ])
  (refine Heads.val (v := ?_) rfl (fun wv hwv => ?_) ?_; rotate_left; (go_simp; with_reducible rfl); simp only [Act.put, List.setIfInBounds_toArray, List.set_cons_zero, List.set_cons_succ])
  (refine Heads.val (v := ?_) rfl (fun wv hwv => ?_) ?_; rotate_left; (go_simp; with_reducible rfl); simp only [Act.put, List.setIfInBounds_toArray, List.set_cons_zero, List.set_cons_succ])
  (refine Heads.val (v := ?_) rfl (fun wv hwv => ?_) ?_; rotate_left; (go_simp; with_reducible rfl); simp only [Act.put, List.setIfInBounds_toArray, List.set_cons_zero, List.set_cons_succ])
  (refine Heads.val (v := ?_) rfl (fun wv hwv => ?_) ?_; rotate_left; (go_simp; with_reducible rfl); simp only [Act.put, List.setIfInBounds_toArray, List.set_cons_zero, List.set_cons_succ])
  (refine Heads.val (v := ?_) rfl (fun wv hwv => ?_) ?_; rotate_left; (go_simp; with_reducible rfl); simp only [Act.put, List.setIfInBounds_toArray, List.set_cons_zero, List.set_cons_succ])
  (refine Heads.val (v := ?_) rfl (fun wv hwv => ?_) ?_; rotate_left; (go_simp; with_reducible rfl); simp only [Act.put, List.setIfInBounds_toArray, List.set_cons_zero, List.set_cons_succ])
  (refine Heads.val (v := ?_) rfl (fun wv hwv => ?_) ?_; rotate_left; (go_simp; with_reducible rfl); simp only [Act.put, List.setIfInBounds_toArray, List.set_cons_zero, List.set_cons_succ])
  (refine Heads.val (v := ?_) rfl (fun wv hwv => ?_) ?_; rotate_left; (go_simp; with_reducible rfl); simp only [Act.put, List.setIfInBounds_toArray, List.set_cons_zero, List.set_cons_succ])
  (refine Heads.val (v := ?_) rfl (fun wv hwv => ?_) ?_; rotate_left; (go_simp; with_reducible rfl); simp only [Act.put, List.setIfInBounds_toArray, List.set_cons_zero, List.set_cons_succ])
  (refine Heads.call (v := ?_) rfl (fun wv hwv => ?_) ?_; rotate_left; (go_simp; simp only [GivesUpon.enter]; refine (c_putHandle _ _ _).mono ?_; rintro e w' ⟨rfl, hh⟩; refine ⟨?_, hwv.trans hh⟩; with_reducible rfl); simp only [Act.put, List.setIfInBounds_toArray, List.set_cons_zero, List.set_cons_succ])
  (refine Heads.val (v := ?_) rfl (fun wv hwv => ?_) ?_; rotate_left; (go_simp; with_reducible rfl); simp only [Act.put, List.setIfInBounds_toArray, List.set_cons_zero, List.set_cons_succ])
  (refine Heads.call (v := ?_) rfl (fun wv hwv => ?_) ?_; rotate_left; (go_simp; simp only [GivesUpon.enter]; refine (e_now c l σ' who _ (h4.ext hwv)).mono ?_; rintro e w' ⟨rfl, hh⟩; refine ⟨?_, hwv.trans hh⟩; with_reducible rfl); simp only [Act.put, List.setIfInBounds_toArray, List.set_cons_zero, List.set_cons_succ])
  (refine Heads.val (v := ?_) rfl (fun wv hwv => ?_) ?_; rotate_left; (go_simp; with_reducible rfl); simp only [Act.put, List.setIfInBounds_toArray, List.set_cons_zero, List.set_cons_succ])
  (refine Heads.val (v := ?_) rfl (fun wv hwv => ?_) ?_; rotate_left; (go_simp; with_reducible rfl); simp only [Act.put, List.setIfInBounds_toArray, List.set_cons_zero, List.set_cons_succ])
  (refine Heads.val (v := ?_) rfl (fun wv hwv => ?_) ?_; rotate_left; (go_simp; with_reducible rfl); simp only [Act.put, List.setIfInBounds_toArray, List.set_cons_zero, List.set_cons_succ])
  refine Heads.nil ?_
  intro w5 hw5
  have HB5 := Lib.hid (hw5.keep HB4.out)
  have c_HB5_w5 := fun w' o (k : Ext w5 w') => k.cellOf HB5.out o
  have f_HB5_w5 := fun w' o (k : Ext w5 w') => frozen_of (k.keep HB5.out) o
  have r_HB5_w5 := Ext.refl w5
  clear c_HB4_w4 f_HB4_w4 cE4
  go_wp2
  go_ret
  unfold AllocRes
  rw [HE.out]
  refine ⟨rfl, (h4.ext hw5).keep1 (((((((Upd.refl [b] _)).set1 _ _).set1 _ _).set1 _ _).set1 _ _).set1 _ _) hb, (hub.extR hw5).trans ((((((((Upd.refl [b] _)).set1 _ _).set1 _ _).set1 _ _).set1 _ _).set1 _ _).own1 hbF), F, ⟨⟨P, G, (heap_set (heap_set (heap_set (heap_set (heap_set HB5.out _ _) _ _) _ _) _ _) _ _).trans (by simp), fun q => ?_, fun q => ?_⟩, hbF, hout, fun x hx => ?_, htk, hat, hsp, by simp⟩, fun x hx => Or.inl hx⟩
  · simp at q
  · simp at q
  · have := hFl x hx; have := hub.size; have := hw5.size; simp; omega

set_option maxHeartbeats 1000000 in
set_option maxRecDepth 100000 in
theorem a_step2 (c : Fl.Cfg) (l : Loc) (σ : Fl.Mem) (who : Int) (F : List Nat) (b : Nat) (a : Fl.Alloc) (W : World) (gc : GoodC c) (h : MemAt W l σ) (hs : 0 ≤ σ.steps ∧ σ.steps < 4611686018427387904)
    (ha : AllocAt W l F b a) (p0 : a.pc = 2) (hsafe : allocSafe who σ a) :
    Calls Try.prog 76 #[.pointer (some ⟨b, 0, none⟩), .agg #[.int .i64 c.threads, .int .i64 c.slots, .int .i64 c.chunks, .int .i64 c.words, .int .i64 c.gens, .int .i64 c.sparse, .int .i64 c.tries, .pointer (some ⟨l.m, 0, none⟩), .int .i64 who]] W (AllocRes c who σ a l F b W) := by
  have HA := Lib.hid (alloc2 c who σ a p0)
  have hsf := hsafe p0
  have HP0 := Lib.hid p0
  obtain ⟨⟨P, G, hB, hP, hG⟩, hbF, hout, hFl, htk, hat, hsp, hpc⟩ := ha
  have hb := hout b hbF
  have hlt := h.lt
  have hbl := lt_of_heap hB
  have hE := heap_new W (.cells #[.int .i64 c.threads, .int .i64 c.slots, .int .i64 c.chunks, .int .i64 c.words, .int .i64 c.gens, .int .i64 c.sparse, .int .i64 c.tries, .pointer (some ⟨l.m, 0, none⟩), .int .i64 who] 27)
  have hX := (Ext.refl W).alloc (.cells #[.int .i64 c.threads, .int .i64 c.slots, .int .i64 c.chunks, .int .i64 c.words, .int .i64 c.gens, .int .i64 c.sparse, .int .i64 c.tries, .pointer (some ⟨l.m, 0, none⟩), .int .i64 who] 27)
  have hsE := lt_of_heap hE
  rw [p0] at hB
  have HB1 := Lib.hid (hX.keep hB)
  have c0 := fun w' o (k : Ext W w') => k.cellOf hB o
  have HPG := Lib.hid (And.intro hP hG)
  clear hB hP hG
  obtain ⟨pb, hpF, hpb, rfl, hpl⟩ := HPG.out.1 HP0.out
  go_enter Try.func76, Try.ntmps76
  go_wp2_with fail
  generalize W.alloc (.cells #[.int .i64 c.threads, .int .i64 c.slots, .int .i64 c.chunks, .int .i64 c.words, .int .i64 c.gens, .int .i64 c.sparse, .int .i64 c.tries, .pointer (some ⟨l.m, 0, none⟩), .int .i64 who] 27) = w1 at *
  have cE := fun w' o (k : Ext w1 w') => k.cellOf hE o
  have cb1 := fun w' o (k : Ext w1 w') => c0 w' o (hX.trans k)
  have r1 := Ext.refl w1
  have c_HB1_w1 := fun w' o (k : Ext w1 w') => k.cellOf HB1.out o
  have f_HB1_w1 := fun w' o (k : Ext w1 w') => frozen_of (k.keep HB1.out) o
  have r_HB1_w1 := Ext.refl w1
  refine wp_region_plan (Ext w1) [] [0, 1, 2, 3, 4] 5 [] Try.mixed (by kernel_rfl) (by intro c a d v w h; cases d <;> exact h) (Ext.refl _).drew ?_
  simp only [opsAt, List.filterMap_cons, List.filterMap_nil, List.getElem?_toArray, List.getElem?_cons_zero, List.getElem?_cons_succ]
  refine Firsts.nil ?_
  (refine Heads.val (v := ?_) rfl (fun wv hwv => ?_) ?_; rotate_left; (go_simp; with_reducible rfl); simp only [Act.put, List.setIfInBounds_toArray, List.set_cons_zero, List.set_cons_succ])
  (refine Heads.val (v := ?_) rfl (fun wv hwv => ?_) ?_; rotate_left; (go_simp; with_reducible rfl); simp only [Act.put, List.setIfInBounds_toArray, List.set_cons_zero, List.set_cons_succ])
  (refine Heads.val (v := ?_) rfl (fun wv hwv => ?_) ?_; rotate_left; (go_simp; with_reducible rfl); simp only [Act.put, List.setIfInBounds_toArray, List.set_cons_zero, List.set_cons_succ])
  (refine Heads.val (v := ?_) rfl (fun wv hwv => ?_) ?_; rotate_left; (go_simp; with_reducible rfl); simp only [Act.put, List.setIfInBounds_toArray, List.set_cons_zero, List.set_cons_succ])
  (refine Heads.val (v := ?_) rfl (fun wv hwv => ?_) ?_; rotate_left; (go_simp; with_reducible rfl); simp only [Act.put, List.setIfInBounds_toArray, List.set_cons_zero, List.set_cons_succ])
  refine Heads.nil ?_
  intro w3 hw3
  go_wp2_with fail
  have hx3 := hX.trans hw3
  refine (p_step c l σ who pb a.p _ gc (h.ext hx3) hs (hpl.keep (hx3.upd []) (by simp)) (hout pb hpF) hsf).mono ?_
  rintro e w4 ⟨rfl, h4, hp4, u4⟩
  generalize hst : a.p.step c who σ = st at *
  obtain ⟨y, p, σ'⟩ := st
  simp only at h4 hp4
  have HE := Lib.hid (HA.out y p σ' rfl)
  have HB4 := Lib.hid (u4.keep (hw3.keep HB1.out) (by
    intro hm
    rcases List.mem_cons.1 hm with hm | hm
    · exact hpb hm.symm
    · exact hb hm))
  have hpl4 := hFl pb hpF
  have E4 := u4.keep (hw3.keep hE) (by
    intro hm
    rcases List.mem_cons.1 hm with hm | hm
    · omega
    · have := hlt _ hm; omega)
  have hub : Upd (F ++ l.all) W w4 := (hx3.upd _).trans (u4.own hpF)
  have hF4 : ∀ x, x ∈ F → x < w4.heap.size := fun x hx => by have := hFl x hx; have := hub.size; omega
  have c_HB4_w4 := fun w' o (k : Ext w4 w') => k.cellOf HB4.out o
  have f_HB4_w4 := fun w' o (k : Ext w4 w') => frozen_of (k.keep HB4.out) o
  have r_HB4_w4 := Ext.refl w4
  have cE4 := fun w' o (k : Ext w4 w') => k.cellOf E4 o
  clear c0 cb1 cE c_HB1_w1 f_HB1_w1 HA hst
  cases y
  · have HF := Lib.hid (HE.out.trans (if_neg (by decide)))
    clear HE
    go_wp2
    go_ret
    unfold AllocRes
    rw [HF.out]
    refine ⟨rfl, h4, hub, F, ⟨⟨_, G, ?_, fun q => ⟨pb, hpF, hpb, rfl, hp4⟩, fun q => ?_⟩, hbF, hout, hF4, htk, hat, hsp, hpc⟩, fun x hx => Or.inl hx⟩
    · rw [HP0.out]; exact HB4.out
    · simp only [HP0.out] at q; omega
  · have HE2 := Lib.hid (HE.out.trans (if_pos rfl))
    clear HE
    have hsp4 := hp4.spot
    go_wp2_with fail
    refine (p_spot pb p _ hp4).mono ?_
    rintro e w5 ⟨rfl, x5⟩
    have HB5 := Lib.hid (x5.keep HB4.out)
    have E5 := x5.keep E4
    have hbl5 := lt_of_heap HB5.out
    have hsE5 := lt_of_heap E5
    have c_HB5_w5 := fun w' o (k : Ext w5 w') => k.cellOf HB5.out o
    have f_HB5_w5 := fun w' o (k : Ext w5 w') => frozen_of (k.keep HB5.out) o
    have r_HB5_w5 := Ext.refl w5
    have cE5 := fun w' o (k : Ext w5 w') => k.cellOf E5 o
    clear c_HB4_w4 f_HB4_w4 cE4
    have hsz5 := x5.size
    have huw := hub.size
    cases hok : p.ok
    · have HF := Lib.hid (HE2.out.trans (if_neg (by rw [hok]; decide)))
      clear HE2
      go_wp2_with fail
      have HB6 := Lib.hid (heap_old (o' := .cells #[.int .i64 0, .int .i64 0] 112) (heap_set (heap_set (heap_set HB5.out 11 (.int .i64 0)) 12 (.int .i64 0)) 2 (.int .i64 3)))
      have u6 := ((((Upd.refl [b] w5).set1 11 (.int .i64 0)).set1 12 (.int .i64 0)).set1 2 (.int .i64 3)).alloc (.cells #[.int .i64 0, .int .i64 0] 112)
      simp only [List.setIfInBounds_toArray, List.set_cons_zero, List.set_cons_succ] at HB6
      have h6 := (h4.ext x5).keep1 u6 hb
      refine (a_end c l σ' who b _ _ _ _ _ _ _ _ _ _ _ _ _ _ _ _ _ _ _ _ h6 hb HB6.out).mono ?_
      rintro e w7 ⟨rfl, hb7, u7⟩
      have hub7 := ((hub.extR x5).trans (u6.own1 hbF)).trans (u7.own1 hbF)
      have h7 := h6.keep1 u7 hb
      have hbl7 := lt_of_heap hb7
      have HB7 := Lib.hid hb7
      have hp7 := ((hp4.keep (x5.upd []) (by simp)).keep u6 (by simpa using hpb)).keep u7 (by simpa using hpb)
      have c_HB7_w7 := fun w' o (k : Ext w7 w') => k.cellOf HB7.out o
      have f_HB7_w7 := fun w' o (k : Ext w7 w') => frozen_of (k.keep HB7.out) o
      have r_HB7_w7 := Ext.refl w7
      clear hb7 c_HB5_w5 f_HB5_w5 cE5
      go_wp2_with fail
      refine (n_give _ _ hat).mono ?_
      rintro e w8 ⟨rfl, hg8, x8⟩
      have HB8 := Lib.hid (x8.keep HB7.out)
      have s7 := hub7.size
      generalize hgb : w7.heap.size = gb at *
      have hgbn : gb ≠ b := by omega
      have hgbW : W.heap.size ≤ gb := by omega
      have c_HB8_w8 := fun w' o (k : Ext w8 w') => k.cellOf HB8.out o
      have f_HB8_w8 := fun w' o (k : Ext w8 w') => frozen_of (k.keep HB8.out) o
      have r_HB8_w8 := Ext.refl w8
      clear c_HB7_w7 f_HB7_w7
      go_wp2
      go_ret
      unfold AllocRes
      rw [HF.out]
      have hgl := lt_of_heap hg8.blk
      refine ⟨rfl, (h7.ext x8).keep1 ((((Upd.refl [b] _)).set1 _ _).set1 _ _) hb, (hub7.extR x8).trans (((((Upd.refl [b] _)).set1 _ _).set1 _ _).own1 hbF), gb :: F, ⟨⟨.pointer (some ⟨pb, 0, none⟩), .pointer (some ⟨gb, 0, none⟩), (heap_set (heap_set HB8.out _ _) _ _).trans (by simp), fun q => ?_, fun _ => ⟨gb, by simp, hgbn, rfl, hg8.keep ((((Upd.refl [b] _)).set1 _ _).set1 _ _) (by simpa using hgbn)⟩⟩, by simp [hbF], ?_, ?_, htk, hat, by simp, by simp⟩, ?_⟩
      · simp at q
      · intro y hy
        rcases List.mem_cons.1 hy with rfl | hy
        · intro hm; have := hlt _ hm; omega
        · exact hout y hy
      · intro y hy
        rcases List.mem_cons.1 hy with rfl | hy
        · simp; exact hgl
        · have := hFl y hy; have := hub7.size; have := x8.size; simp; omega
      · intro y hy
        rcases List.mem_cons.1 hy with rfl | hy
        · exact Or.inr hgbW
        · exact Or.inl hy
    · have HF := Lib.hid (HE2.out.trans (if_pos hok))
      clear HE2
      go_wp2
      go_ret
      unfold AllocRes
      rw [HF.out]
      have HB6 := Lib.hid (heap_old (o' := .cells #[.int .i64 p.spot.addr, .int .i64 p.spot.chunk] 112) (heap_set (heap_set (heap_set HB5.out 11 (.int .i64 p.spot.addr)) 12 (.int .i64 p.spot.chunk)) 2 (.int .i64 3)))
      have u6 := ((((Upd.refl [b] w5).set1 11 (.int .i64 p.spot.addr)).set1 12 (.int .i64 p.spot.chunk)).set1 2 (.int .i64 3)).alloc (.cells #[.int .i64 p.spot.addr, .int .i64 p.spot.chunk] 112)
      simp only [List.setIfInBounds_toArray, List.set_cons_zero, List.set_cons_succ] at HB6
      refine ⟨rfl, (h4.ext x5).keep1 u6 hb, (hub.extR x5).trans (u6.own1 hbF), F, ⟨⟨_, G, HB6.out, fun q => ?_, fun q => ?_⟩, hbF, hout, fun x hx => ?_, htk, hat, hsp4, by simp⟩, fun x hx => Or.inl hx⟩
      · simp at q
      · simp at q
      · have := hF4 x hx; simp; omega

theorem a_step (c : Fl.Cfg) (l : Loc) (σ : Fl.Mem) (who : Int) (F : List Nat) (b : Nat) (a : Fl.Alloc) (W : World) (gc : GoodC c) (h : MemAt W l σ) (hs : 0 ≤ σ.steps ∧ σ.steps < 4611686018427387904)
    (ha : AllocAt W l F b a) (hsafe : allocSafe who σ a) :
    Calls Try.prog 76 #[.pointer (some ⟨b, 0, none⟩), .agg #[.int .i64 c.threads, .int .i64 c.slots, .int .i64 c.chunks, .int .i64 c.words, .int .i64 c.gens, .int .i64 c.sparse, .int .i64 c.tries, .pointer (some ⟨l.m, 0, none⟩), .int .i64 who]] W (AllocRes c who σ a l F b W) := by
  have hpc := ha.pc
  by_cases q0 : a.pc = 0
  · exact a_step0 c l σ who F b a W gc h hs ha q0
  by_cases q1 : a.pc = 1
  · exact a_step1 c l σ who F b a W gc h hs ha q1
  by_cases q2 : a.pc = 2
  · exact a_step2 c l σ who F b a W gc h hs ha q2 hsafe
  by_cases q3 : a.pc = 3
  · exact a_step3 c l σ who F b a W gc h hs ha q3
  by_cases q4 : a.pc = 4
  · exact a_step4 c l σ who F b a W gc h hs ha q4
  by_cases q5 : a.pc = 5
  · exact a_step5 c l σ who F b a W gc h hs ha q5
  by_cases q6 : a.pc = 6
  · exact a_step6 c l σ who F b a W gc h hs ha q6
  exact a_step7 c l σ who F b a W gc h hs ha (by omega)
end Go.Proofs.Ythblhgappldcjaa
