/- The contract of alloc's step, place by place. -/
import Derived.Test.YthblhgappldcjaaGa
namespace Go.Proofs.Ythblhgappldcjaa
open Go Go.RowKit
set_option linter.unusedVariables false

theorem PlaceAt.keep {W W' : World} {b : Nat} {p : Fl.Place} {S : List Nat} (h : PlaceAt W b p) (hu : Upd S W W') (hn : b ∉ S) : PlaceAt W' b p :=
  ⟨hu.keep h.blk hn, h.cls, h.at_, h.opn, h.w, h.spot⟩
theorem AllocAt.ext {W W' : World} {l : Loc} {F : List Nat} {b : Nat} {a : Fl.Alloc} (h : AllocAt W l F b a) (x : Ext W W') : AllocAt W' l F b a := by
  obtain ⟨⟨P, G, hB, hP, hG⟩, hbF, hout, hFl, htk, hat, hsp, hpc⟩ := h
  refine ⟨⟨P, G, x.keep hB, fun q => ?_, fun q => ?_⟩, hbF, hout, fun y hy => Nat.lt_of_lt_of_le (hFl y hy) x.size, htk, hat, hsp, hpc⟩
  · obtain ⟨pb, h1, h2, h3, h4⟩ := hP q
    exact ⟨pb, h1, h2, h3, h4.keep (x.upd []) (by simp)⟩
  · obtain ⟨pb, h1, h2, h3, h4⟩ := hG q
    exact ⟨pb, h1, h2, h3, ⟨x.keep h4.blk, h4.slot, h4.top⟩⟩
theorem GiveAt.keep {W W' : World} {b : Nat} {g : Fl.Give} {S : List Nat} (h : GiveAt W b g) (hu : Upd S W W') (hn : b ∉ S) : GiveAt W' b g :=
  ⟨hu.keep h.blk hn, h.slot, h.top⟩

set_option maxHeartbeats 1000000 in
set_option maxRecDepth 100000 in
theorem a_step1 (c : Fl.Cfg) (l : Loc) (σ : Fl.Mem) (who : Int) (F : List Nat) (b : Nat) (a : Fl.Alloc) (W : World) (gc : GoodC c) (h : MemAt W l σ) (hs : 0 ≤ σ.steps ∧ σ.steps < 4611686018427387904)
    (ha : AllocAt W l F b a) (p0 : a.pc = 1) :
    Calls Try.prog 76 #[.pointer (some ⟨b, 0, none⟩), .agg #[.int .i64 c.threads, .int .i64 c.slots, .int .i64 c.chunks, .int .i64 c.words, .int .i64 c.gens, .int .i64 c.sparse, .int .i64 c.tries, .pointer (some ⟨l.m, 0, none⟩), .int .i64 who]] W (AllocRes c who σ a l F b W) := by
  have HA := Lib.hid (alloc1 c who σ a p0)
  have HP0 := Lib.hid p0
  obtain ⟨⟨P, G, hB, hP, hG⟩, hbF, hout, hFl, htk, hat, hsp, hpc⟩ := ha
  have hb := hout b hbF
  have hlt := h.lt
  have hbl := lt_of_heap hB
  have hE := heap_new W (.cells #[.int .i64 c.threads, .int .i64 c.slots, .int .i64 c.chunks, .int .i64 c.words, .int .i64 c.gens, .int .i64 c.sparse, .int .i64 c.tries, .pointer (some ⟨l.m, 0, none⟩), .int .i64 who] 27)
  have hX := (Ext.refl W).alloc (.cells #[.int .i64 c.threads, .int .i64 c.slots, .int .i64 c.chunks, .int .i64 c.words, .int .i64 c.gens, .int .i64 c.sparse, .int .i64 c.tries, .pointer (some ⟨l.m, 0, none⟩), .int .i64 who] 27)
  have hsE := lt_of_heap hE
  rw [p0] at hB
  have HB1 := Lib.hid (hX.keep hB)
  have c0 := fun w' o (k : Ext W w') => k.cellOf hB o
  have HPG := Lib.hid (And.intro hP hG)
  clear hB hP hG
  have fld := field_slot2
  go_enter Try.func76, Try.ntmps76
  go_wp2_with fail
  generalize W.alloc (.cells #[.int .i64 c.threads, .int .i64 c.slots, .int .i64 c.chunks, .int .i64 c.words, .int .i64 c.gens, .int .i64 c.sparse, .int .i64 c.tries, .pointer (some ⟨l.m, 0, none⟩), .int .i64 who] 27) = w1 at *
  have cE := fun w' o (k : Ext w1 w') => k.cellOf hE o
  have cb1 := fun w' o (k : Ext w1 w') => c0 w' o (hX.trans k)
  have r1 := Ext.refl w1
  have c_HB1_w1 := fun w' o (k : Ext w1 w') => k.cellOf HB1.out o
  have f_HB1_w1 := fun w' o (k : Ext w1 w') => frozen_of (k.keep HB1.out) o
  have r_HB1_w1 := Ext.refl w1
  refine wp_region_plan (Ext w1) [0, 1] [2, 3, 4, 5, 6, 7, 8, 9] 10 [11, 12, 13, 14, 15, 16, 17, 18] Try.mixed (by kernel_rfl) (by intro c a d v w h; cases d <;> exact h) (Ext.refl _).drew ?_
  simp only [opsAt, List.filterMap_cons, List.filterMap_nil, List.getElem?_toArray, List.getElem?_cons_zero, List.getElem?_cons_succ]
  (refine Firsts.val (v := ?_) rfl (fun _ => ?_) ?_; rotate_left; (go_simp; with_reducible rfl); simp only [Act.put, List.setIfInBounds_toArray, List.set_cons_zero, List.set_cons_succ])
  (refine Firsts.val (v := ?_) rfl (fun _ => ?_) ?_; rotate_left; (go_simp; with_reducible rfl); simp only [Act.put, List.setIfInBounds_toArray, List.set_cons_zero, List.set_cons_succ])
  refine Firsts.nil ?_
  (refine Heads.val (v := ?_) rfl (fun wv hwv => ?_) ?_; rotate_left; (go_simp; with_reducible rfl); simp only [Act.put, List.setIfInBounds_toArray, List.set_cons_zero, List.set_cons_succ])
  (refine Heads.val (v := ?_) rfl (fun wv hwv => ?_) ?_; rotate_left; (go_simp; with_reducible rfl); simp only [Act.put, List.setIfInBounds_toArray, List.set_cons_zero, List.set_cons_succ])
  (refine Heads.val (v := ?_) rfl (fun wv hwv => ?_) ?_; rotate_left; (go_simp; with_reducible rfl); simp only [Act.put, List.setIfInBounds_toArray, List.set_cons_zero, List.set_cons_succ])
  (refine Heads.val (v := ?_) rfl (fun wv hwv => ?_) ?_; rotate_left; (go_simp; with_reducible rfl); simp only [Act.put, List.setIfInBounds_toArray, List.set_cons_zero, List.set_cons_succ])
  (refine Heads.val (v := ?_) rfl (fun wv hwv => ?_) ?_; rotate_left; (go_simp; with_reducible rfl); simp only [Act.put, List.setIfInBounds_toArray, List.set_cons_zero, List.set_cons_succ])
  (refine Heads.val (v := ?_) rfl (fun wv hwv => ?_) ?_; rotate_left; (go_simp; with_reducible rfl); simp only [Act.put, List.setIfInBounds_toArray, List.set_cons_zero, List.set_cons_succ])
  (refine Heads.val (v := ?_) rfl (fun wv hwv => ?_) ?_; rotate_left; (go_simp; with_reducible rfl); simp only [Act.put, List.setIfInBounds_toArray, List.set_cons_zero, List.set_cons_succ])
  (refine Heads.call (v := ?_) rfl (fun wv hwv => ?_) ?_; rotate_left; (go_simp; simp only [GivesUpon.enter]; refine (c_pSlot c _ _ gc (by omega)).mono ?_; rintro e w' ⟨rfl, hh⟩; refine ⟨?_, hwv.trans hh⟩; with_reducible rfl); simp only [Act.put, List.setIfInBounds_toArray, List.set_cons_zero, List.set_cons_succ])
  refine Heads.nil ?_
  intro w3 hw3
  go_wp2_with fail
  have hx3 := hX.trans hw3
  have hll := load_lt h who (Fl.pSlot c a.at_)
  refine (e_load c l σ who _ _ (h.ext hx3) hs).mono ?_
  rintro e w4 ⟨rfl, h4, u4⟩
  generalize hl : σ.load who (Fl.pSlot c a.at_) = lx at *
  obtain ⟨x, σ'⟩ := lx
  simp only at hll h4
  have HE := Lib.hid (HA.out x σ' rfl)
  have HB4 := Lib.hid (u4.keep (hw3.keep HB1.out) hb)
  have hub : Upd (F ++ l.all) W w4 := (hx3.upd _).trans u4.mem
  have c_HB4_w4 := fun w' o (k : Ext w4 w') => k.cellOf HB4.out o
  have f_HB4_w4 := fun w' o (k : Ext w4 w') => frozen_of (k.keep HB4.out) o
  have r_HB4_w4 := Ext.refl w4
  clear c0 cb1 cE c_HB1_w1 f_HB1_w1 HA hl
  go_wp2_with fail
  refine (c_slot _ _ hll).mono ?_
  rintro e w5 ⟨rfl, x5⟩
  have HB5 := Lib.hid (x5.keep HB4.out)
  go_wp2_with fail
  have h5 := h4.ext x5
  have HB6 := Lib.hid (heap_set (heap_set HB5.out 9 (.int .i64 (Fl.slotOf x).gen)) 2 (.int .i64 2))
  have u_w6 := (((Upd.refl [b] w5).set1 9 (.int .i64 (Fl.slotOf x).gen)).set1 2 (.int .i64 2))
  have h6 := h5.keep1 u_w6 hb
  generalize (World.setCell (World.setCell w5 ⟨b, 9, none⟩ (.int .i64 (Fl.slotOf x).gen)) ⟨b, 2, none⟩ (.int .i64 2)) = w6 at *
  simp only [List.setIfInBounds_toArray, List.set_cons_zero, List.set_cons_succ] at HB6
  have c_HB6_w6 := fun w' o (k : Ext w6 w') => k.cellOf HB6.out o
  have f_HB6_w6 := fun w' o (k : Ext w6 w') => frozen_of (k.keep HB6.out) o
  have r_HB6_w6 := Ext.refl w6
  clear c_HB4_w4 f_HB4_w4
  refine (c_cls _ _).mono ?_
  rintro e w7 ⟨rfl, x7⟩
  have hcr := Fl.cls_range a.size
  go_wp2_with fail
  refine (n_place _ _ hcr).mono ?_
  rintro e w8 ⟨rfl, hp8, x8⟩
  have HB8 := Lib.hid ((x7.trans x8).keep HB6.out)
  have s7 := x7.size
  have hbl6 := lt_of_heap HB6.out
  have hub8 : Upd (F ++ l.all) W w8 := ((hub.extR x5).trans (u_w6.own1 hbF)).extR (x7.trans x8)
  generalize hpb : w7.heap.size = pb at *
  have hpbn : pb ≠ b := by omega
  have hpbW : W.heap.size ≤ pb := by
    have h1 := hub.size
    have h2 := x5.size
    have h3 := u_w6.size
    omega
  have c_HB8_w8 := fun w' o (k : Ext w8 w') => k.cellOf HB8.out o
  have f_HB8_w8 := fun w' o (k : Ext w8 w') => frozen_of (k.keep HB8.out) o
  have r_HB8_w8 := Ext.refl w8
  clear c_HB6_w6 f_HB6_w6
  go_wp2
  go_ret
  unfold AllocRes
  rw [HE.out]
  have hpb8 := lt_of_heap hp8.blk
  refine ⟨rfl, (h6.ext (x7.trans x8)).keep1 (((Upd.refl [b] _)).set1 _ _) hb, hub8.trans ((((Upd.refl [b] _)).set1 _ _).own1 hbF), pb :: F, ⟨⟨.pointer (some ⟨pb, 0, none⟩), G, (heap_set HB8.out _ _).trans (by simp), fun _ => ⟨pb, by simp, hpbn, rfl, hp8.keep (((Upd.refl [b] _)).set1 _ _) (by simpa using hpbn)⟩, fun q => ?_⟩, by simp [hbF], ?_, ?_, htk, hat, hsp, by simp⟩, ?_⟩
  · simp at q
  · intro y hy
    rcases List.mem_cons.1 hy with rfl | hy
    · intro hm; have := hlt _ hm; omega
    · exact hout y hy
  · intro y hy
    rcases List.mem_cons.1 hy with rfl | hy
    · simp; exact hpb8
    · have := hFl y hy; have := hub8.size; simp; omega
  · intro y hy
    rcases List.mem_cons.1 hy with rfl | hy
    · exact Or.inr hpbW
    · exact Or.inl hy

set_option maxHeartbeats 1000000 in
set_option maxRecDepth 100000 in
theorem a_step3 (c : Fl.Cfg) (l : Loc) (σ : Fl.Mem) (who : Int) (F : List Nat) (b : Nat) (a : Fl.Alloc) (W : World) (gc : GoodC c) (h : MemAt W l σ) (hs : 0 ≤ σ.steps ∧ σ.steps < 4611686018427387904)
    (ha : AllocAt W l F b a) (p0 : a.pc = 3) :
    Calls Try.prog 76 #[.pointer (some ⟨b, 0, none⟩), .agg #[.int .i64 c.threads, .int .i64 c.slots, .int .i64 c.chunks, .int .i64 c.words, .int .i64 c.gens, .int .i64 c.sparse, .int .i64 c.tries, .pointer (some ⟨l.m, 0, none⟩), .int .i64 who]] W (AllocRes c who σ a l F b W) := by
  have HE := Lib.hid (alloc3 c who σ a p0)
  have HP0 := Lib.hid p0
  obtain ⟨⟨P, G, hB, hP, hG⟩, hbF, hout, hFl, htk, hat, hsp, hpc⟩ := ha
  have hb := hout b hbF
  have hlt := h.lt
  have hbl := lt_of_heap hB
  have hE := heap_new W (.cells #[.int .i64 c.threads, .int .i64 c.slots, .int .i64 c.chunks, .int .i64 c.words, .int .i64 c.gens, .int .i64 c.sparse, .int .i64 c.tries, .pointer (some ⟨l.m, 0, none⟩), .int .i64 who] 27)
  have hX := (Ext.refl W).alloc (.cells #[.int .i64 c.threads, .int .i64 c.slots, .int .i64 c.chunks, .int .i64 c.words, .int .i64 c.gens, .int .i64 c.sparse, .int .i64 c.tries, .pointer (some ⟨l.m, 0, none⟩), .int .i64 who] 27)
  have hsE := lt_of_heap hE
  rw [p0] at hB
  have HB1 := Lib.hid (hX.keep hB)
  have c0 := fun w' o (k : Ext W w') => k.cellOf hB o
  have HPG := Lib.hid (And.intro hP hG)
  clear hB hP hG
  obtain ⟨q1, q2⟩ := pChunk_range gc (k := a.spot.chunk) (by omega) (by omega)
  have hcr := Fl.cls_range a.size
  go_enter Try.func76, Try.ntmps76
  go_wp2_with fail
  generalize W.alloc (.cells #[.int .i64 c.threads, .int .i64 c.slots, .int .i64 c.chunks, .int .i64 c.words, .int .i64 c.gens, .int .i64 c.sparse, .int .i64 c.tries, .pointer (some ⟨l.m, 0, none⟩), .int .i64 who] 27) = w1 at *
  have cE := fun w' o (k : Ext w1 w') => k.cellOf hE o
  have cb1 := fun w' o (k : Ext w1 w') => c0 w' o (hX.trans k)
  have r1 := Ext.refl w1
  have c_HB1_w1 := fun w' o (k : Ext w1 w') => k.cellOf HB1.out o
  have f_HB1_w1 := fun w' o (k : Ext w1 w') => frozen_of (k.keep HB1.out) o
  have r_HB1_w1 := Ext.refl w1
  have ew := wrap64_id (n := Fl.pChunk c a.spot.chunk + 1) (by omega) (by omega)
  refine wp_region_plan (Ext w1) [] [0, 1, 2, 3, 4, 5, 6, 7, 8, 9, 10, 11, 12, 13, 14, 15] 16 [] Try.mixed (by kernel_rfl) (by intro c a d v w h; cases d <;> exact h) (Ext.refl _).drew ?_
  simp only [opsAt, List.filterMap_cons, List.filterMap_nil, List.getElem?_toArray, List.getElem?_cons_zero, List.getElem?_cons_succ]
  refine Firsts.nil ?_
  (refine Heads.val (v := ?_) rfl (fun wv hwv => ?_) ?_; rotate_left; (go_simp; with_reducible rfl); simp only [Act.put, List.setIfInBounds_toArray, List.set_cons_zero, List.set_cons_succ])
  (refine Heads.val (v := ?_) rfl (fun wv hwv => ?_) ?_; rotate_left; (go_simp; with_reducible rfl); simp only [Act.put, List.setIfInBounds_toArray, List.set_cons_zero, List.set_cons_succ])
  (refine Heads.val (v := ?_) rfl (fun wv hwv => ?_) ?_; rotate_left; (go_simp; with_reducible rfl); simp only [Act.put, List.setIfInBounds_toArray, List.set_cons_zero, List.set_cons_succ])
  (refine Heads.val (v := ?_) rfl (fun wv hwv => ?_) ?_; rotate_left; (go_simp; with_reducible rfl); simp only [Act.put, List.setIfInBounds_toArray, List.set_cons_zero, List.set_cons_succ])
  (refine Heads.val (v := ?_) rfl (fun wv hwv => ?_) ?_; rotate_left; (go_simp; with_reducible rfl); simp only [Act.put, List.setIfInBounds_toArray, List.set_cons_zero, List.set_cons_succ])
  (refine Heads.val (v := ?_) rfl (fun wv hwv => ?_) ?_; rotate_left; (go_simp; with_reducible rfl); simp only [Act.put, List.setIfInBounds_toArray, List.set_cons_zero, List.set_cons_succ])
  (refine Heads.val (v := ?_) rfl (fun wv hwv => ?_) ?_; rotate_left; (go_simp; with_reducible rfl); simp only [Act.put, List.setIfInBounds_toArray, List.set_cons_zero, List.set_cons_succ])
  (refine Heads.val (v := ?_) rfl (fun wv hwv => ?_) ?_; rotate_left; (go_simp; with_reducible rfl); simp only [Act.put, List.setIfInBounds_toArray, List.set_cons_zero, List.set_cons_succ])
  (refine Heads.call (v := ?_) rfl (fun wv hwv => ?_) ?_; rotate_left; (go_simp; simp only [GivesUpon.enter]; refine (c_pChunk c _ _ gc (by omega)).mono ?_; rintro e w' ⟨rfl, hh⟩; refine ⟨?_, hwv.trans hh⟩; with_reducible rfl); simp only [Act.put, List.setIfInBounds_toArray, List.set_cons_zero, List.set_cons_succ])
  (refine Heads.val (v := ?_) rfl (fun wv hwv => ?_) ?_; rotate_left; (go_simp; with_reducible rfl); simp only [Act.put, List.setIfInBounds_toArray, List.set_cons_zero, List.set_cons_succ])
  (refine Heads.val (v := ?_) rfl (fun wv hwv => ?_) ?_; rotate_left; (go_simp; with_reducible rfl); simp only [Act.put, List.setIfInBounds_toArray, List.set_cons_zero, List.set_cons_succ])
  (refine Heads.val (v := ?_) rfl (fun wv hwv => ?_) ?_; rotate_left; (go_simp; with_reducible rfl); simp only [Act.put, List.setIfInBounds_toArray, List.set_cons_zero, List.set_cons_succ])
  (refine Heads.val (v := ?_) rfl (fun wv hwv => ?_) ?_; rotate_left; (go_simp; with_reducible rfl); simp only [Act.put, List.setIfInBounds_toArray, List.set_cons_zero, List.set_cons_succ])
  (refine Heads.val (v := ?_) rfl (fun wv hwv => ?_) ?_; rotate_left; (go_simp; with_reducible rfl); simp only [Act.put, List.setIfInBounds_toArray, List.set_cons_zero, List.set_cons_succ])
  (refine Heads.call (v := ?_) rfl (fun wv hwv => ?_) ?_; rotate_left; (go_simp; simp only [GivesUpon.enter]; refine (c_cls _ _).mono ?_; rintro e w' ⟨rfl, hh⟩; refine ⟨?_, hwv.trans hh⟩; with_reducible rfl); simp only [Act.put, List.setIfInBounds_toArray, List.set_cons_zero, List.set_cons_succ])
  (refine Heads.call (v := ?_) rfl (fun wv hwv => ?_) ?_; rotate_left; (go_simp; simp only [GivesUpon.enter]; refine (c_room _ _ hcr).mono ?_; rintro e w' ⟨rfl, hh⟩; refine ⟨?_, hwv.trans hh⟩; with_reducible rfl); simp only [Act.put, List.setIfInBounds_toArray, List.set_cons_zero, List.set_cons_succ])
  refine Heads.nil ?_
  intro w3 hw3
  go_wp2_with fail
  have hx3 := hX.trans hw3
  refine (e_add c l σ who _ _ _ (h.ext hx3) hs).mono ?_
  rintro e w4 ⟨rfl, h4, u4⟩
  have HB4 := Lib.hid (u4.keep (hw3.keep HB1.out) hb)
  have hub : Upd (F ++ l.all) W w4 := (hx3.upd _).trans u4.mem
  have c_HB4_w4 := fun w' o (k : Ext w4 w') => k.cellOf HB4.out o
  have f_HB4_w4 := fun w' o (k : Ext w4 w') => frozen_of (k.keep HB4.out) o
  have r_HB4_w4 := Ext.refl w4
  clear c0 cb1 cE c_HB1_w1 f_HB1_w1
  go_wp2
  go_ret
  unfold AllocRes
  rw [HE.out]
  refine ⟨rfl, h4.keep1 (((Upd.refl [b] _)).set1 _ _) hb, hub.trans ((((Upd.refl [b] _)).set1 _ _).own1 hbF), F, ⟨⟨P, G, (heap_set HB4.out _ _).trans (by simp), fun q => ?_, fun q => ?_⟩, hbF, hout, fun x hx => ?_, htk, hat, hsp, by simp⟩, fun x hx => Or.inl hx⟩
  · simp at q
  · simp at q
  · have := hFl x hx; have := hub.size; simp; omega

set_option maxHeartbeats 1000000 in
set_option maxRecDepth 100000 in
theorem a_step4 (c : Fl.Cfg) (l : Loc) (σ : Fl.Mem) (who : Int) (F : List Nat) (b : Nat) (a : Fl.Alloc) (W : World) (gc : GoodC c) (h : MemAt W l σ) (hs : 0 ≤ σ.steps ∧ σ.steps < 4611686018427387904)
    (ha : AllocAt W l F b a) (p0 : a.pc = 4) :
    Calls Try.prog 76 #[.pointer (some ⟨b, 0, none⟩), .agg #[.int .i64 c.threads, .int .i64 c.slots, .int .i64 c.chunks, .int .i64 c.words, .int .i64 c.gens, .int .i64 c.sparse, .int .i64 c.tries, .pointer (some ⟨l.m, 0, none⟩), .int .i64 who]] W (AllocRes c who σ a l F b W) := by
  have HE := Lib.hid (alloc4 c who σ a p0)
  have ha' := ha
  have HP0 := Lib.hid p0
  obtain ⟨⟨P, G, hB, hP, hG⟩, hbF, hout, hFl, htk, hat, hsp, hpc⟩ := ha
  have hb := hout b hbF
  have hlt := h.lt
  have hbl := lt_of_heap hB
  have hE := heap_new W (.cells #[.int .i64 c.threads, .int .i64 c.slots, .int .i64 c.chunks, .int .i64 c.words, .int .i64 c.gens, .int .i64 c.sparse, .int .i64 c.tries, .pointer (some ⟨l.m, 0, none⟩), .int .i64 who] 27)
  have hX := (Ext.refl W).alloc (.cells #[.int .i64 c.threads, .int .i64 c.slots, .int .i64 c.chunks, .int .i64 c.words, .int .i64 c.gens, .int .i64 c.sparse, .int .i64 c.tries, .pointer (some ⟨l.m, 0, none⟩), .int .i64 who] 27)
  have hsE := lt_of_heap hE
  rw [p0] at hB
  have HB1 := Lib.hid (hX.keep hB)
  have c0 := fun w' o (k : Ext W w') => k.cellOf hB o
  have HPG := Lib.hid (And.intro hP hG)
  clear hB hP hG
  go_enter Try.func76, Try.ntmps76
  go_wp2_with fail
  generalize W.alloc (.cells #[.int .i64 c.threads, .int .i64 c.slots, .int .i64 c.chunks, .int .i64 c.words, .int .i64 c.gens, .int .i64 c.sparse, .int .i64 c.tries, .pointer (some ⟨l.m, 0, none⟩), .int .i64 who] 27) = w1 at *
  have cE := fun w' o (k : Ext w1 w') => k.cellOf hE o
  have cb1 := fun w' o (k : Ext w1 w') => c0 w' o (hX.trans k)
  have r1 := Ext.refl w1
  have c_HB1_w1 := fun w' o (k : Ext w1 w') => k.cellOf HB1.out o
  have f_HB1_w1 := fun w' o (k : Ext w1 w') => frozen_of (k.keep HB1.out) o
  have r_HB1_w1 := Ext.refl w1
  refine wp_region_plan (Ext w1) [] [0, 1, 2, 3, 4, 5, 6, 7] 8 [] Try.mixed (by kernel_rfl) (by intro c a d v w h; cases d <;> exact h) (Ext.refl _).drew ?_
  simp only [opsAt, List.filterMap_cons, List.filterMap_nil, List.getElem?_toArray, List.getElem?_cons_zero, List.getElem?_cons_succ]
  refine Firsts.nil ?_
  (refine Heads.val (v := ?_) rfl (fun wv hwv => ?_) ?_; rotate_left; (go_simp; with_reducible rfl); simp only [Act.put, List.setIfInBounds_toArray, List.set_cons_zero, List.set_cons_succ])
  (refine Heads.val (v := ?_) rfl (fun wv hwv => ?_) ?_; rotate_left; (go_simp; with_reducible rfl); simp only [Act.put, List.setIfInBounds_toArray, List.set_cons_zero, List.set_cons_succ])
  (refine Heads.val (v := ?_) rfl (fun wv hwv => ?_) ?_; rotate_left; (go_simp; with_reducible rfl); simp only [Act.put, List.setIfInBounds_toArray, List.set_cons_zero, List.set_cons_succ])
  (refine Heads.val (v := ?_) rfl (fun wv hwv => ?_) ?_; rotate_left; (go_simp; with_reducible rfl); simp only [Act.put, List.setIfInBounds_toArray, List.set_cons_zero, List.set_cons_succ])
  (refine Heads.val (v := ?_) rfl (fun wv hwv => ?_) ?_; rotate_left; (go_simp; with_reducible rfl); simp only [Act.put, List.setIfInBounds_toArray, List.set_cons_zero, List.set_cons_succ])
  (refine Heads.val (v := ?_) rfl (fun wv hwv => ?_) ?_; rotate_left; (go_simp; with_reducible rfl); simp only [Act.put, List.setIfInBounds_toArray, List.set_cons_zero, List.set_cons_succ])
  (refine Heads.val (v := ?_) rfl (fun wv hwv => ?_) ?_; rotate_left; (go_simp; with_reducible rfl); simp only [Act.put, List.setIfInBounds_toArray, List.set_cons_zero, List.set_cons_succ])
  (refine Heads.call (v := ?_) rfl (fun wv hwv => ?_) ?_; rotate_left; (go_simp; simp only [GivesUpon.enter]; refine (a_head l F b a _ _ (ha'.ext (hX.trans hwv))).mono ?_; rintro e w' ⟨rfl, hh⟩; refine ⟨?_, hwv.trans hh⟩; with_reducible rfl); simp only [Act.put, List.setIfInBounds_toArray, List.set_cons_zero, List.set_cons_succ])
  refine Heads.nil ?_
  intro w3 hw3
  go_wp2_with fail
  have hx3 := hX.trans hw3
  refine (e_store c l σ who _ _ _ (h.ext hx3) hs (Fl.putHead_lt ⟨1, a.size, a.at_, a.gen, a.own⟩)).mono ?_
  rintro e w4 ⟨rfl, h4, u4⟩
  have HB4 := Lib.hid (u4.keep (hw3.keep HB1.out) hb)
  have hub : Upd (F ++ l.all) W w4 := (hx3.upd _).trans u4.mem
  have c_HB4_w4 := fun w' o (k : Ext w4 w') => k.cellOf HB4.out o
  have f_HB4_w4 := fun w' o (k : Ext w4 w') => frozen_of (k.keep HB4.out) o
  have r_HB4_w4 := Ext.refl w4
  clear c0 cb1 cE c_HB1_w1 f_HB1_w1
  go_wp2
  go_ret
  unfold AllocRes
  rw [HE.out]
  refine ⟨rfl, h4.keep1 (((Upd.refl [b] _)).set1 _ _) hb, hub.trans ((((Upd.refl [b] _)).set1 _ _).own1 hbF), F, ⟨⟨P, G, (heap_set HB4.out _ _).trans (by simp), fun q => ?_, fun q => ?_⟩, hbF, hout, fun x hx => ?_, htk, hat, hsp, by simp⟩, fun x hx => Or.inl hx⟩
  · simp at q
  · simp at q
  · have := hFl x hx; have := hub.size; simp; omega

set_option maxHeartbeats 1000000 in
set_option maxRecDepth 100000 in
theorem a_step6 (c : Fl.Cfg) (l : Loc) (σ : Fl.Mem) (who : Int) (F : List Nat) (b : Nat) (a : Fl.Alloc) (W : World) (gc : GoodC c) (h : MemAt W l σ) (hs : 0 ≤ σ.steps ∧ σ.steps < 4611686018427387904)
    (ha : AllocAt W l F b a) (p0 : a.pc = 6) :
    Calls Try.prog 76 #[.pointer (some ⟨b, 0, none⟩), .agg #[.int .i64 c.threads, .int .i64 c.slots, .int .i64 c.chunks, .int .i64 c.words, .int .i64 c.gens, .int .i64 c.sparse, .int .i64 c.tries, .pointer (some ⟨l.m, 0, none⟩), .int .i64 who]] W (AllocRes c who σ a l F b W) := by
  have HE := Lib.hid (alloc6 c who σ a p0)
  have ha' := ha
  have HP0 := Lib.hid p0
  obtain ⟨⟨P, G, hB, hP, hG⟩, hbF, hout, hFl, htk, hat, hsp, hpc⟩ := ha
  have hb := hout b hbF
  have hlt := h.lt
  have hbl := lt_of_heap hB
  have hE := heap_new W (.cells #[.int .i64 c.threads, .int .i64 c.slots, .int .i64 c.chunks, .int .i64 c.words, .int .i64 c.gens, .int .i64 c.sparse, .int .i64 c.tries, .pointer (some ⟨l.m, 0, none⟩), .int .i64 who] 27)
  have hX := (Ext.refl W).alloc (.cells #[.int .i64 c.threads, .int .i64 c.slots, .int .i64 c.chunks, .int .i64 c.words, .int .i64 c.gens, .int .i64 c.sparse, .int .i64 c.tries, .pointer (some ⟨l.m, 0, none⟩), .int .i64 who] 27)
  have hsE := lt_of_heap hE
  rw [p0] at hB
  have HB1 := Lib.hid (hX.keep hB)
  have c0 := fun w' o (k : Ext W w') => k.cellOf hB o
  have HPG := Lib.hid (And.intro hP hG)
  clear hB hP hG
  go_enter Try.func76, Try.ntmps76
  go_wp2_with fail
  generalize W.alloc (.cells #[.int .i64 c.threads, .int .i64 c.slots, .int .i64 c.chunks, .int .i64 c.words, .int .i64 c.gens, .int .i64 c.sparse, .int .i64 c.tries, .pointer (some ⟨l.m, 0, none⟩), .int .i64 who] 27) = w1 at *
  have cE := fun w' o (k : Ext w1 w') => k.cellOf hE o
  have cb1 := fun w' o (k : Ext w1 w') => c0 w' o (hX.trans k)
  have r1 := Ext.refl w1
  have c_HB1_w1 := fun w' o (k : Ext w1 w') => k.cellOf HB1.out o
  have f_HB1_w1 := fun w' o (k : Ext w1 w') => frozen_of (k.keep HB1.out) o
  have r_HB1_w1 := Ext.refl w1
  refine wp_region_plan (Ext w1) [] [0, 1, 2, 3, 4, 5, 6, 7] 8 [] Try.mixed (by kernel_rfl) (by intro c a d v w h; cases d <;> exact h) (Ext.refl _).drew ?_
  simp only [opsAt, List.filterMap_cons, List.filterMap_nil, List.getElem?_toArray, List.getElem?_cons_zero, List.getElem?_cons_succ]
  refine Firsts.nil ?_
  (refine Heads.val (v := ?_) rfl (fun wv hwv => ?_) ?_; rotate_left; (go_simp; with_reducible rfl); simp only [Act.put, List.setIfInBounds_toArray, List.set_cons_zero, List.set_cons_succ])
  (refine Heads.val (v := ?_) rfl (fun wv hwv => ?_) ?_; rotate_left; (go_simp; with_reducible rfl); simp only [Act.put, List.setIfInBounds_toArray, List.set_cons_zero, List.set_cons_succ])
  (refine Heads.val (v := ?_) rfl (fun wv hwv => ?_) ?_; rotate_left; (go_simp; with_reducible rfl); simp only [Act.put, List.setIfInBounds_toArray, List.set_cons_zero, List.set_cons_succ])
  (refine Heads.val (v := ?_) rfl (fun wv hwv => ?_) ?_; rotate_left; (go_simp; with_reducible rfl); simp only [Act.put, List.setIfInBounds_toArray, List.set_cons_zero, List.set_cons_succ])
  (refine Heads.val (v := ?_) rfl (fun wv hwv => ?_) ?_; rotate_left; (go_simp; with_reducible rfl); simp only [Act.put, List.setIfInBounds_toArray, List.set_cons_zero, List.set_cons_succ])
  (refine Heads.val (v := ?_) rfl (fun wv hwv => ?_) ?_; rotate_left; (go_simp; with_reducible rfl); simp only [Act.put, List.setIfInBounds_toArray, List.set_cons_zero, List.set_cons_succ])
  (refine Heads.val (v := ?_) rfl (fun wv hwv => ?_) ?_; rotate_left; (go_simp; with_reducible rfl); simp only [Act.put, List.setIfInBounds_toArray, List.set_cons_zero, List.set_cons_succ])
  (refine Heads.call (v := ?_) rfl (fun wv hwv => ?_) ?_; rotate_left; (go_simp; simp only [GivesUpon.enter]; refine (a_head l F b a _ _ (ha'.ext (hX.trans hwv))).mono ?_; rintro e w' ⟨rfl, hh⟩; refine ⟨?_, hwv.trans hh⟩; with_reducible rfl); simp only [Act.put, List.setIfInBounds_toArray, List.set_cons_zero, List.set_cons_succ])
  refine Heads.nil ?_
  intro w3 hw3
  go_wp2_with fail
  have hx3 := hX.trans hw3
  refine (e_store c l σ who _ _ _ (h.ext hx3) hs (Fl.putHead_lt ⟨2, a.size, a.at_, a.gen, a.own⟩)).mono ?_
  rintro e w4 ⟨rfl, h4, u4⟩
  have HB4 := Lib.hid (u4.keep (hw3.keep HB1.out) hb)
  have hub : Upd (F ++ l.all) W w4 := (hx3.upd _).trans u4.mem
  clear c0 cb1 cE c_HB1_w1 f_HB1_w1
  go_wp2
  go_ret
  unfold AllocRes
  rw [HE.out]
  refine ⟨rfl, h4, hub, F, ⟨⟨P, G, ?_, fun q => ?_, fun q => ?_⟩, hbF, hout, fun x hx => ?_, htk, hat, hsp, hpc⟩, fun x hx => Or.inl hx⟩
  · rw [HP0.out]; exact HB4.out
  · simp only [HP0.out] at q; omega
  · simp only [HP0.out] at q; omega
  · have := hFl x hx; have := hub.size; omega

set_option maxHeartbeats 1000000 in
set_option maxRecDepth 100000 in
theorem a_step7 (c : Fl.Cfg) (l : Loc) (σ : Fl.Mem) (who : Int) (F : List Nat) (b : Nat) (a : Fl.Alloc) (W : World) (gc : GoodC c) (h : MemAt W l σ) (hs : 0 ≤ σ.steps ∧ σ.steps < 4611686018427387904)
    (ha : AllocAt W l F b a) (p0 : a.pc = 7) :
    Calls Try.prog 76 #[.pointer (some ⟨b, 0, none⟩), .agg #[.int .i64 c.threads, .int .i64 c.slots, .int .i64 c.chunks, .int .i64 c.words, .int .i64 c.gens, .int .i64 c.sparse, .int .i64 c.tries, .pointer (some ⟨l.m, 0, none⟩), .int .i64 who]] W (AllocRes c who σ a l F b W) := by
  have HE := Lib.hid (alloc7 c who σ a p0)
  have HP0 := Lib.hid p0
  obtain ⟨⟨P, G, hB, hP, hG⟩, hbF, hout, hFl, htk, hat, hsp, hpc⟩ := ha
  have hb := hout b hbF
  have hlt := h.lt
  have hbl := lt_of_heap hB
  have hE := heap_new W (.cells #[.int .i64 c.threads, .int .i64 c.slots, .int .i64 c.chunks, .int .i64 c.words, .int .i64 c.gens, .int .i64 c.sparse, .int .i64 c.tries, .pointer (some ⟨l.m, 0, none⟩), .int .i64 who] 27)
  have hX := (Ext.refl W).alloc (.cells #[.int .i64 c.threads, .int .i64 c.slots, .int .i64 c.chunks, .int .i64 c.words, .int .i64 c.gens, .int .i64 c.sparse, .int .i64 c.tries, .pointer (some ⟨l.m, 0, none⟩), .int .i64 who] 27)
  have hsE := lt_of_heap hE
  rw [p0] at hB
  have HB1 := Lib.hid (hX.keep hB)
  have c0 := fun w' o (k : Ext W w') => k.cellOf hB o
  have HPG := Lib.hid (And.intro hP hG)
  clear hB hP hG
  obtain ⟨gb, hgF, hgb, rfl, hgi⟩ := HPG.out.2 HP0.out
  go_enter Try.func76, Try.ntmps76
  go_wp2_with fail
  generalize W.alloc (.cells #[.int .i64 c.threads, .int .i64 c.slots, .int .i64 c.chunks, .int .i64 c.words, .int .i64 c.gens, .int .i64 c.sparse, .int .i64 c.tries, .pointer (some ⟨l.m, 0, none⟩), .int .i64 who] 27) = w1 at *
  have cE := fun w' o (k : Ext w1 w') => k.cellOf hE o
  have cb1 := fun w' o (k : Ext w1 w') => c0 w' o (hX.trans k)
  have r1 := Ext.refl w1
  have c_HB1_w1 := fun w' o (k : Ext w1 w') => k.cellOf HB1.out o
  have f_HB1_w1 := fun w' o (k : Ext w1 w') => frozen_of (k.keep HB1.out) o
  have r_HB1_w1 := Ext.refl w1
  refine wp_region_plan (Ext w1) [] [0, 1, 2, 3, 4] 5 [6] Try.mixed (by kernel_rfl) (by intro c a d v w h; cases d <;> exact h) (Ext.refl _).drew ?_
  simp only [opsAt, List.filterMap_cons, List.filterMap_nil, List.getElem?_toArray, List.getElem?_cons_zero, List.getElem?_cons_succ]
  refine Firsts.nil ?_
  (refine Heads.val (v := ?_) rfl (fun wv hwv => ?_) ?_; rotate_left; (go_simp; with_reducible rfl); simp only [Act.put, List.setIfInBounds_toArray, List.set_cons_zero, List.set_cons_succ])
  (refine Heads.val (v := ?_) rfl (fun wv hwv => ?_) ?_; rotate_left; (go_simp; with_reducible rfl); simp only [Act.put, List.setIfInBounds_toArray, List.set_cons_zero, List.set_cons_succ])
  (refine Heads.val (v := ?_) rfl (fun wv hwv => ?_) ?_; rotate_left; (go_simp; with_reducible rfl); simp only [Act.put, List.setIfInBounds_toArray, List.set_cons_zero, List.set_cons_succ])
  (refine Heads.val (v := ?_) rfl (fun wv hwv => ?_) ?_; rotate_left; (go_simp; with_reducible rfl); simp only [Act.put, List.setIfInBounds_toArray, List.set_cons_zero, List.set_cons_succ])
  (refine Heads.val (v := ?_) rfl (fun wv hwv => ?_) ?_; rotate_left; (go_simp; with_reducible rfl); simp only [Act.put, List.setIfInBounds_toArray, List.set_cons_zero, List.set_cons_succ])
  refine Heads.nil ?_
  intro w3 hw3
  go_wp2_with fail
  have hx3 := hX.trans hw3
  refine (s_give c l σ who gb a.give _ gc (h.ext hx3) hs (hgi.keep (hx3.upd []) (by simp)) (hout gb hgF)).mono ?_
  rintro e w4 ⟨rfl, h4, hg4, u4⟩
  have HB4 := Lib.hid (u4.keep (hw3.keep HB1.out) (by
    intro hm
    rcases List.mem_cons.1 hm with hm | hm
    · exact hgb hm.symm
    · exact hb hm))
  have hub : Upd (F ++ l.all) W w4 := (hx3.upd _).trans (u4.own hgF)
  clear c0 cb1 cE c_HB1_w1 f_HB1_w1
  go_wp2
  go_ret
  unfold AllocRes
  rw [HE.out _ _ _ rfl]
  refine ⟨rfl, h4, hub, F, ⟨⟨P, _, ?_, fun q => ?_, fun q => ⟨gb, hgF, hgb, rfl, hg4⟩⟩, hbF, hout, fun x hx => ?_, htk, hat, hsp, hpc⟩, fun x hx => Or.inl hx⟩
  · rw [HP0.out]; exact HB4.out
  · simp only [HP0.out] at q; omega
  · have := hFl x hx; have := hub.size; omega
end Go.Proofs.Ythblhgappldcjaa
