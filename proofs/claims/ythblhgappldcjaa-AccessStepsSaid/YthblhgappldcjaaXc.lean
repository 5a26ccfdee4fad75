/- The contracts of access: the check. -/
import Derived.Test.YthblhgappldcjaaXb
namespace Go.Proofs.Ythblhgappldcjaa
open Go Go.RowKit
set_option linter.unusedVariables false

theorem acc6 (c : Fl.Cfg) (who : Int) (σ : Fl.Mem) (a : Fl.Access) (p0 : a.pc = 6) (x : Nat) (m : Fl.Mem) (hl : σ.load who (Fl.pSlot c a.h.slot) = (x, m)) :
    a.step c who σ = if Fl.live (Fl.slotOf x) a.h = false then a.fin m 3 0 m.steps else if (Fl.slotOf x).addr ≠ (Fl.slotOf a.w).addr then (false, { a with pc := 0 }, m) else if a.x.kind = 3 then a.fin m 8 (Fl.cellOf a.cell).value a.read else a.fin m 0 (Fl.cellOf a.cell).value a.read := by
  unfold Fl.Access.step; rw [if_neg (by omega), if_neg (by omega), if_neg (by omega), if_neg (by omega), if_neg (by omega), if_neg (by omega)]; simp only [hl]


set_option maxHeartbeats 4000000 in
set_option maxRecDepth 100000 in
theorem x_check (c : Fl.Cfg) (l : Loc) (σ : Fl.Mem) (who : Int) (F : List Nat) (b : Nat) (a : Fl.Access) (W : World) (gc : GoodC c) (h : MemAt W l σ) (hs : 0 ≤ σ.steps ∧ σ.steps < 4611686018427387904)
    (ha : AccessAt W l F b a) (p0 : a.pc = 6) :
    Calls Try.prog 94 #[.pointer (some ⟨b, 0, none⟩), .agg #[.int .i64 c.threads, .int .i64 c.slots, .int .i64 c.chunks, .int .i64 c.words, .int .i64 c.gens, .int .i64 c.sparse, .int .i64 c.tries, .pointer (some ⟨l.m, 0, none⟩), .int .i64 who]] W (AccessRes (.bool (a.step c who σ).1) c who σ a l F b W) := by
  have HA := Lib.hid (fun x m => acc6 c who σ a p0 x m)
  have HP0 := Lib.hid p0
  obtain ⟨⟨H, hB, hH⟩, hbF, hout, hFl, hn, hw, hcl, hsl, hgn, hsz, hpc⟩ := ha
  have hb := hout b hbF
  have hlt := h.lt
  have hbl := lt_of_heap hB
  have hE := heap_new W (.cells #[.int .i64 c.threads, .int .i64 c.slots, .int .i64 c.chunks, .int .i64 c.words, .int .i64 c.gens, .int .i64 c.sparse, .int .i64 c.tries, .pointer (some ⟨l.m, 0, none⟩), .int .i64 who] 27)
  have hX := (Ext.refl W).alloc (.cells #[.int .i64 c.threads, .int .i64 c.slots, .int .i64 c.chunks, .int .i64 c.words, .int .i64 c.gens, .int .i64 c.sparse, .int .i64 c.tries, .pointer (some ⟨l.m, 0, none⟩), .int .i64 who] 27)
  have hsE := lt_of_heap hE
  rw [p0] at hB
  have HB1 := Lib.hid (hX.keep hB)
  have c0 := fun w' o (k : Ext W w') => k.cellOf hB o
  have HPG := Lib.hid hH
  clear hB hH
  go_enter Try.func94, Try.ntmps94
  go_wp2_with fail
  generalize W.alloc (.cells #[.int .i64 c.threads, .int .i64 c.slots, .int .i64 c.chunks, .int .i64 c.words, .int .i64 c.gens, .int .i64 c.sparse, .int .i64 c.tries, .pointer (some ⟨l.m, 0, none⟩), .int .i64 who] 27) = w1 at *
  have cE := fun w' o (k : Ext w1 w') => k.cellOf hE o
  have cb1 := fun w' o (k : Ext w1 w') => c0 w' o (hX.trans k)
  have r1 := Ext.refl w1
  have c_HB1_w1 := fun w' o (k : Ext w1 w') => k.cellOf HB1.out o
  have f_HB1_w1 := fun w' o (k : Ext w1 w') => frozen_of (k.keep HB1.out) o
  have r_HB1_w1 := Ext.refl w1
  have hll := load_lt h who (Fl.pSlot c a.h.slot)
  have hlt1 : ∀ x, x ∈ l.all → x < w1.heap.size := fun x hx => by have := hlt x hx; have := hX.size; omega
  refine wp_region_float1 w1.heap.size (Ext w1) 11 (some 5) (.cells #[.int .i64 0, .int .i64 0, .int .i64 0, .int .i64 0] 44) [0, 1, 2, 3, 4, 5, 6, 7, 8] [9, 10] 12 [] Try.mixed (by kernel_rfl) rfl (Makes.one rfl rfl rfl (fun a w => by go_simp) (by kernel_rfl)) (by intro c a d v w h; cases d <;> exact h) (Ext.refl _).drew (fun w ob hh => hh.alloc ob) (fun w hh => hh.size) ?_
  simp only [opsAt, List.filterMap_cons, List.filterMap_nil, List.getElem?_toArray, List.getElem?_cons_zero, List.getElem?_cons_succ]
  (refine HeadsP.val (v := ?_) rfl (fun wv hwv => ?_) ?_; rotate_left; (go_simp; with_reducible rfl); simp only [Act.put, List.setIfInBounds_toArray, List.set_cons_zero, List.set_cons_succ])
  (refine HeadsP.val (v := ?_) rfl (fun wv hwv => ?_) ?_; rotate_left; (go_simp; with_reducible rfl); simp only [Act.put, List.setIfInBounds_toArray, List.set_cons_zero, List.set_cons_succ])
  (refine HeadsP.val (v := ?_) rfl (fun wv hwv => ?_) ?_; rotate_left; (go_simp; with_reducible rfl); simp only [Act.put, List.setIfInBounds_toArray, List.set_cons_zero, List.set_cons_succ])
  (refine HeadsP.val (v := ?_) rfl (fun wv hwv => ?_) ?_; rotate_left; (go_simp; with_reducible rfl); simp only [Act.put, List.setIfInBounds_toArray, List.set_cons_zero, List.set_cons_succ])
  (refine HeadsP.val (v := ?_) rfl (fun wv hwv => ?_) ?_; rotate_left; (go_simp; with_reducible rfl); simp only [Act.put, List.setIfInBounds_toArray, List.set_cons_zero, List.set_cons_succ])
  (refine HeadsP.val (v := ?_) rfl (fun wv hwv => ?_) ?_; rotate_left; (go_simp; with_reducible rfl); simp only [Act.put, List.setIfInBounds_toArray, List.set_cons_zero, List.set_cons_succ])
  (refine HeadsP.val (v := ?_) rfl (fun wv hwv => ?_) ?_; rotate_left; (go_simp; with_reducible rfl); simp only [Act.put, List.setIfInBounds_toArray, List.set_cons_zero, List.set_cons_succ])
  (refine HeadsP.val (v := ?_) rfl (fun wv hwv => ?_) ?_; rotate_left; (go_simp; with_reducible rfl); simp only [Act.put, List.setIfInBounds_toArray, List.set_cons_zero, List.set_cons_succ])
  (refine HeadsP.call (v := ?_) rfl (fun wv hwv => ?_) ?_; rotate_left; (go_simp; simp only [GivesUpon.enter]; refine (c_pSlot c _ _ gc (by omega)).mono ?_; rintro e w' ⟨rfl, hh⟩; refine ⟨?_, hwv.trans hh, KeepN.ext hh⟩; with_reducible rfl); simp only [Act.put, List.setIfInBounds_toArray, List.set_cons_zero, List.set_cons_succ])
  refine HeadsP.nil ?_
  (refine ChainP.call (fun w => MemAt w l (σ.load who (Fl.pSlot c a.h.slot)).2 ∧ Upd l.all w1 w) (v := ?_) rfl (fun w ob hh => ⟨hh.1.ext ((Ext.refl _).alloc ob), hh.2.alloc ob⟩) (fun w hh => hh.2.size) (fun wv hwv => ?_) ?_; rotate_left; (go_simp; simp only [GivesUpon.enter]; refine (e_load c l σ who _ _ (h.ext (hX.trans hwv)) hs).mono ?_; rintro e w' ⟨rfl, hh1, hh2⟩; refine ⟨?_, ⟨hh1, (hwv.upd _).trans hh2⟩, KeepN.upd hh2 hlt1⟩; with_reducible rfl); simp only [Act.put, List.setIfInBounds_toArray, List.set_cons_zero, List.set_cons_succ])
  (refine ChainP.call (fun w => MemAt w l (σ.load who (Fl.pSlot c a.h.slot)).2 ∧ Upd l.all w1 w) (v := ?_) rfl (fun w ob hh => ⟨hh.1.ext ((Ext.refl _).alloc ob), hh.2.alloc ob⟩) (fun w hh => hh.2.size) (fun wv hwv => ?_) ?_; rotate_left; (go_simp; simp only [GivesUpon.enter]; refine (c_slot _ _ hll).mono ?_; rintro e w' ⟨rfl, hh⟩; refine ⟨?_, ⟨hwv.1.ext hh, hwv.2.extR hh⟩, KeepN.ext hh⟩; with_reducible rfl); simp only [Act.put, List.setIfInBounds_toArray, List.set_cons_zero, List.set_cons_succ])
  refine ChainP.nil ?_
  intro kx w5 hkx HX hS5
  simp only [List.setIfInBounds_toArray, List.set_cons_zero, List.set_cons_succ]
  obtain ⟨h5, u5⟩ := hS5
  generalize hl : σ.load who (Fl.pSlot c a.h.slot) = lx at *
  obtain ⟨x, σ'⟩ := lx
  simp only at hll h5
  have HE := Lib.hid (HA.out x σ' rfl)
  have hxr := Fl.slotOf_range x
  generalize Fl.slotOf x = s at *
  obtain ⟨ss, sa, sg, sv⟩ := s
  clear HA hl
  have hbl1 := lt_of_heap HB1.out
  have nbx : b ≠ kx := by omega
  have nxb : kx ≠ b := by omega
  have neb : W.heap.size ≠ b := by omega
  have nex : W.heap.size ≠ kx := by omega
  have hkl : kx ∉ l.all := fun hm => by have := hlt1 _ hm; omega
  have HB5 := Lib.hid (u5.keep HB1.out hb)
  have E5 := u5.keep hE (by intro hm; have := hlt _ hm; omega)
  have HXh := Lib.hid HX
  have hub5 : Upd (F ++ l.all) W w5 := (hX.upd _).trans u5.mem
  have fld := field_cell0
  have fls := field_slot1
  have c_HB5_w5 := fun w' o (k : Ext w5 w') => k.cellOf HB5.out o
  have f_HB5_w5 := fun w' o (k : Ext w5 w') => frozen_of (k.keep HB5.out) o
  have r_HB5_w5 := Ext.refl w5
  have c_HXh_w5 := fun w' o (k : Ext w5 w') => k.cellOf HXh.out o
  have f_HXh_w5 := fun w' o (k : Ext w5 w') => frozen_of (k.keep HXh.out) o
  have r_HXh_w5 := Ext.refl w5
  have cE5 := fun w' o (k : Ext w5 w') => k.cellOf E5 o
  clear c0 cb1 cE c_HB1_w1 f_HB1_w1 HX hE
  go_wp2_with fail
  have HX6 := Lib.hid (heap_set (heap_set (heap_set (heap_set HXh.out 0 (.int .i64 ss)) 1 (.int .i64 sa)) 2 (.int .i64 sg)) 3 (.int .i64 sv))
  have HB6 := Lib.hid (heap_far (heap_far (heap_far (heap_far HB5.out (p := ⟨kx, 0, none⟩) nbx (.int .i64 ss)) (p := ⟨kx, 1, none⟩) nbx (.int .i64 sa)) (p := ⟨kx, 2, none⟩) nbx (.int .i64 sg)) (p := ⟨kx, 3, none⟩) nbx (.int .i64 sv))
  have E6 := (heap_far (heap_far (heap_far (heap_far E5 (p := ⟨kx, 0, none⟩) nex (.int .i64 ss)) (p := ⟨kx, 1, none⟩) nex (.int .i64 sa)) (p := ⟨kx, 2, none⟩) nex (.int .i64 sg)) (p := ⟨kx, 3, none⟩) nex (.int .i64 sv))
  have u6 := (((((Upd.refl [kx] w5).set1 0 (.int .i64 ss)).set1 1 (.int .i64 sa)).set1 2 (.int .i64 sg)).set1 3 (.int .i64 sv))
  generalize (World.setCell (World.setCell (World.setCell (World.setCell w5 ⟨kx, 0, none⟩ (.int .i64 ss)) ⟨kx, 1, none⟩ (.int .i64 sa)) ⟨kx, 2, none⟩ (.int .i64 sg)) ⟨kx, 3, none⟩ (.int .i64 sv)) = w6 at *
  simp only [List.setIfInBounds_toArray, List.set_cons_zero, List.set_cons_succ] at HX6
  have h6 := h5.keep1 u6 hkl
  have hub6 : Upd (F ++ l.all) W w6 := hub5.then u6 (fun x hx => by rw [List.mem_singleton.1 hx]; exact Or.inr (by have := hX.size; omega))
  clear c_HB5_w5 f_HB5_w5 c_HXh_w5 f_HXh_w5 cE5
  refine (c_cell _ _ hcl).mono ?_
  rintro e w7 ⟨rfl, x7⟩
  have HB7 := Lib.hid (x7.keep HB6.out)
  have HX7 := Lib.hid (x7.keep HX6.out)
  have E7 := x7.keep E6
  have h7 := h6.ext x7
  have hub7 := hub6.extR x7
  have c_HB7_w7 := fun w' o (k : Ext w7 w') => k.cellOf HB7.out o
  have f_HB7_w7 := fun w' o (k : Ext w7 w') => frozen_of (k.keep HB7.out) o
  have r_HB7_w7 := Ext.refl w7
  have c_HX7_w7 := fun w' o (k : Ext w7 w') => k.cellOf HX7.out o
  have f_HX7_w7 := fun w' o (k : Ext w7 w') => frozen_of (k.keep HX7.out) o
  have r_HX7_w7 := Ext.refl w7
  have cE7 := fun w' o (k : Ext w7 w') => k.cellOf E7 o
  go_wp2_with fail
  refine wp_region_plan (Ext w7) [] [0, 1, 2, 3, 4, 5, 6] 7 [] Try.mixed (by kernel_rfl) (by intro c a d v w h; cases d <;> exact h) (Ext.refl _).drew ?_
  simp only [opsAt, List.filterMap_cons, List.filterMap_nil, List.getElem?_toArray, List.getElem?_cons_zero, List.getElem?_cons_succ]
  refine Firsts.nil ?_
  (refine Heads.val (v := ?_) rfl (fun wv hwv => ?_) ?_; rotate_left; (go_simp; with_reducible rfl); simp only [Act.put, List.setIfInBounds_toArray, List.set_cons_zero, List.set_cons_succ])
  (refine Heads.val (v := ?_) rfl (fun wv hwv => ?_) ?_; rotate_left; (go_simp; with_reducible rfl); simp only [Act.put, List.setIfInBounds_toArray, List.set_cons_zero, List.set_cons_succ])
  (refine Heads.val (v := ?_) rfl (fun wv hwv => ?_) ?_; rotate_left; (go_simp; with_reducible rfl); simp only [Act.put, List.setIfInBounds_toArray, List.set_cons_zero, List.set_cons_succ])
  (refine Heads.val (v := ?_) rfl (fun wv hwv => ?_) ?_; rotate_left; (go_simp; with_reducible rfl); simp only [Act.put, List.setIfInBounds_toArray, List.set_cons_zero, List.set_cons_succ])
  (refine Heads.val (v := ?_) rfl (fun wv hwv => ?_) ?_; rotate_left; (go_simp; with_reducible rfl); simp only [Act.put, List.setIfInBounds_toArray, List.set_cons_zero, List.set_cons_succ])
  (refine Heads.call (v := ?_) rfl (fun wv hwv => ?_) ?_; rotate_left; (go_simp; simp only [GivesUpon.enter]; refine (c_live _ _ _ _ _ _ _).mono ?_; rintro e w' ⟨rfl, hh⟩; refine ⟨?_, hwv.trans hh⟩; with_reducible rfl); simp only [Act.put, List.setIfInBounds_toArray, List.set_cons_zero, List.set_cons_succ])
  (refine Heads.val (v := ?_) rfl (fun wv hwv => ?_) ?_; rotate_left; (go_simp; with_reducible rfl); simp only [Act.put, List.setIfInBounds_toArray, List.set_cons_zero, List.set_cons_succ])
  refine Heads.nil ?_
  intro w8 hw8
  have HB8 := Lib.hid (hw8.keep HB7.out)
  have HX8 := Lib.hid (hw8.keep HX7.out)
  have E8 := hw8.keep E7
  have h8 := h7.ext hw8
  have hub8 := hub7.extR hw8
  clear c_HB7_w7 f_HB7_w7 c_HX7_w7 f_HX7_w7 cE7
  have c_HB8_w8 := fun w' o (k : Ext w8 w') => k.cellOf HB8.out o
  have f_HB8_w8 := fun w' o (k : Ext w8 w') => frozen_of (k.keep HB8.out) o
  have r_HB8_w8 := Ext.refl w8
  have c_HX8_w8 := fun w' o (k : Ext w8 w') => k.cellOf HX8.out o
  have f_HX8_w8 := fun w' o (k : Ext w8 w') => frozen_of (k.keep HX8.out) o
  have r_HX8_w8 := Ext.refl w8
  have cE8 := fun w' o (k : Ext w8 w') => k.cellOf E8 o
  cases hlv : Fl.live ⟨ss, sa, sg, sv⟩ a.h
  · have HI := Lib.hid (HE.out.trans (if_pos hlv))
    clear HE
    go_wp2_with fail
    refine (e_now c l σ' who _ h8).mono ?_
    rintro e w9 ⟨rfl, x9⟩
    have HB9 := Lib.hid (x9.keep HB8.out)
    have h9 := h8.ext x9
    have hub9 := hub8.extR x9
    have hF9 : ∀ x, x ∈ F → x < w9.heap.size := fun x hx => by have := hFl x hx; have := hub9.size; omega
    go_wp2_with fail
    have HDz : AccessAt w9 l F b a := ⟨⟨H, by rw [HP0.out]; exact HB9.out, fun q => by rw [HP0.out] at q; omega⟩, hbF, hout, hF9, hn, hw, hcl, hsl, hgn, hsz, hpc⟩
    refine (x_end l F b a 3 (0) (σ'.steps) w9 HDz).mono ?_
    rintro e wz ⟨rfl, hdz, uz⟩
    go_wp2
    go_ret
    unfold AccessRes
    rw [HI.out]
    exact ⟨rfl, h9.keep1 uz hb, hub9.trans (uz.own1 hbF), F, hdz, fun x hx => Or.inl hx⟩
  · have HI := Lib.hid (HE.out.trans (if_neg (by rw [hlv]; decide)))
    clear HE
    by_cases q1 : sa = (Fl.slotOf a.w).addr
    · have e1 : (sa == (Fl.slotOf a.w).addr) = true := by simpa using q1
      have HJ := Lib.hid (HI.out.trans (if_neg (by simpa using q1)))
      clear HI
      go_wp2_with fail
      refine wp_region_plan (Ext w8) [] [0, 1, 2, 3, 4, 5, 6, 7, 8] 9 [] Try.mixed (by kernel_rfl) (by intro c a d v w h; cases d <;> exact h) (Ext.refl _).drew ?_
      simp only [opsAt, List.filterMap_cons, List.filterMap_nil, List.getElem?_toArray, List.getElem?_cons_zero, List.getElem?_cons_succ]
      refine Firsts.nil ?_
      (refine Heads.val (v := ?_) rfl (fun wv hwv => ?_) ?_; rotate_left; (go_simp; with_reducible rfl); simp only [Act.put, List.setIfInBounds_toArray, List.set_cons_zero, List.set_cons_succ])
      (refine Heads.val (v := ?_) rfl (fun wv hwv => ?_) ?_; rotate_left; (go_simp; with_reducible rfl); simp only [Act.put, List.setIfInBounds_toArray, List.set_cons_zero, List.set_cons_succ])
      (refine Heads.val (v := ?_) rfl (fun wv hwv => ?_) ?_; rotate_left; (go_simp; with_reducible rfl); simp only [Act.put, List.setIfInBounds_toArray, List.set_cons_zero, List.set_cons_succ])
      (refine Heads.val (v := ?_) rfl (fun wv hwv => ?_) ?_; rotate_left; (go_simp; with_reducible rfl); simp only [Act.put, List.setIfInBounds_toArray, List.set_cons_zero, List.set_cons_succ])
      (refine Heads.val (v := ?_) rfl (fun wv hwv => ?_) ?_; rotate_left; (go_simp; with_reducible rfl); simp only [Act.put, List.setIfInBounds_toArray, List.set_cons_zero, List.set_cons_succ])
      (refine Heads.val (v := ?_) rfl (fun wv hwv => ?_) ?_; rotate_left; (go_simp; with_reducible rfl); simp only [Act.put, List.setIfInBounds_toArray, List.set_cons_zero, List.set_cons_succ])
      (refine Heads.call (v := ?_) rfl (fun wv hwv => ?_) ?_; rotate_left; (go_simp; simp only [GivesUpon.enter]; refine (c_slot _ _ hw).mono ?_; rintro e w' ⟨rfl, hh⟩; refine ⟨?_, hwv.trans hh⟩; with_reducible rfl); simp only [Act.put, List.setIfInBounds_toArray, List.set_cons_zero, List.set_cons_succ])
      (refine Heads.val (v := ?_) rfl (fun wv hwv => ?_) ?_; rotate_left; (go_simp; with_reducible rfl); simp only [Act.put, List.setIfInBounds_toArray, List.set_cons_zero, List.set_cons_succ])
      (refine Heads.val (v := ?_) rfl (fun wv hwv => ?_) ?_; rotate_left; (go_simp; with_reducible rfl); simp only [Act.put, List.setIfInBounds_toArray, List.set_cons_zero, List.set_cons_succ])
      refine Heads.nil ?_
      intro w9 hw9
      have HB9 := Lib.hid (hw9.keep HB8.out)
      have h9 := h8.ext hw9
      have hub9 := hub8.extR hw9
      have hF9 : ∀ x, x ∈ F → x < w9.heap.size := fun x hx => by have := hFl x hx; have := hub9.size; omega
      clear c_HB8_w8 f_HB8_w8 c_HX8_w8 f_HX8_w8 cE8
      have c_HB9_w9 := fun w' o (k : Ext w9 w') => k.cellOf HB9.out o
      have f_HB9_w9 := fun w' o (k : Ext w9 w') => frozen_of (k.keep HB9.out) o
      have r_HB9_w9 := Ext.refl w9
      by_cases q2 : a.x.kind = 3
      · have e2 : (a.x.kind == 3) = true := by simpa using q2
        have HK := Lib.hid (HJ.out.trans (if_pos q2))
        clear HJ
        go_wp2_with fail
        have HDz : AccessAt w9 l F b a := ⟨⟨H, by rw [HP0.out]; exact HB9.out, fun q => by rw [HP0.out] at q; omega⟩, hbF, hout, hF9, hn, hw, hcl, hsl, hgn, hsz, hpc⟩
        refine (x_end l F b a 8 ((Fl.cellOf a.cell).value) (a.read) w9 HDz).mono ?_
        rintro e wz ⟨rfl, hdz, uz⟩
        go_wp2
        go_ret
        unfold AccessRes
        rw [HK.out]
        exact ⟨rfl, h9.keep1 uz hb, hub9.trans (uz.own1 hbF), F, hdz, fun x hx => Or.inl hx⟩
      · have e2 : (a.x.kind == 3) = false := by simpa using q2
        have HK := Lib.hid (HJ.out.trans (if_neg q2))
        clear HJ
        go_wp2_with fail
        have HDz : AccessAt w9 l F b a := ⟨⟨H, by rw [HP0.out]; exact HB9.out, fun q => by rw [HP0.out] at q; omega⟩, hbF, hout, hF9, hn, hw, hcl, hsl, hgn, hsz, hpc⟩
        refine (x_end l F b a 0 ((Fl.cellOf a.cell).value) (a.read) w9 HDz).mono ?_
        rintro e wz ⟨rfl, hdz, uz⟩
        go_wp2
        go_ret
        unfold AccessRes
        rw [HK.out]
        exact ⟨rfl, h9.keep1 uz hb, hub9.trans (uz.own1 hbF), F, hdz, fun x hx => Or.inl hx⟩
    · have e1 : (sa == (Fl.slotOf a.w).addr) = false := by simpa using q1
      have HJ := Lib.hid (HI.out.trans (if_pos (by simpa using q1)))
      clear HI
      go_wp2_with fail
      refine wp_region_plan (Ext w8) [] [0, 1, 2, 3, 4, 5, 6, 7, 8] 9 [] Try.mixed (by kernel_rfl) (by intro c a d v w h; cases d <;> exact h) (Ext.refl _).drew ?_
      simp only [opsAt, List.filterMap_cons, List.filterMap_nil, List.getElem?_toArray, List.getElem?_cons_zero, List.getElem?_cons_succ]
      refine Firsts.nil ?_
      (refine Heads.val (v := ?_) rfl (fun wv hwv => ?_) ?_; rotate_left; (go_simp; with_reducible rfl); simp only [Act.put, List.setIfInBounds_toArray, List.set_cons_zero, List.set_cons_succ])
      (refine Heads.val (v := ?_) rfl (fun wv hwv => ?_) ?_; rotate_left; (go_simp; with_reducible rfl); simp only [Act.put, List.setIfInBounds_toArray, List.set_cons_zero, List.set_cons_succ])
      (refine Heads.val (v := ?_) rfl (fun wv hwv => ?_) ?_; rotate_left; (go_simp; with_reducible rfl); simp only [Act.put, List.setIfInBounds_toArray, List.set_cons_zero, List.set_cons_succ])
      (refine Heads.val (v := ?_) rfl (fun wv hwv => ?_) ?_; rotate_left; (go_simp; with_reducible rfl); simp only [Act.put, List.setIfInBounds_toArray, List.set_cons_zero, List.set_cons_succ])
      (refine Heads.val (v := ?_) rfl (fun wv hwv => ?_) ?_; rotate_left; (go_simp; with_reducible rfl); simp only [Act.put, List.setIfInBounds_toArray, List.set_cons_zero, List.set_cons_succ])
      (refine Heads.val (v := ?_) rfl (fun wv hwv => ?_) ?_; rotate_left; (go_simp; with_reducible rfl); simp only [Act.put, List.setIfInBounds_toArray, List.set_cons_zero, List.set_cons_succ])
      (refine Heads.call (v := ?_) rfl (fun wv hwv => ?_) ?_; rotate_left; (go_simp; simp only [GivesUpon.enter]; refine (c_slot _ _ hw).mono ?_; rintro e w' ⟨rfl, hh⟩; refine ⟨?_, hwv.trans hh⟩; with_reducible rfl); simp only [Act.put, List.setIfInBounds_toArray, List.set_cons_zero, List.set_cons_succ])
      (refine Heads.val (v := ?_) rfl (fun wv hwv => ?_) ?_; rotate_left; (go_simp; with_reducible rfl); simp only [Act.put, List.setIfInBounds_toArray, List.set_cons_zero, List.set_cons_succ])
      (refine Heads.val (v := ?_) rfl (fun wv hwv => ?_) ?_; rotate_left; (go_simp; with_reducible rfl); simp only [Act.put, List.setIfInBounds_toArray, List.set_cons_zero, List.set_cons_succ])
      refine Heads.nil ?_
      intro w9 hw9
      have HB9 := Lib.hid (hw9.keep HB8.out)
      have h9 := h8.ext hw9
      have hub9 := hub8.extR hw9
      clear c_HB8_w8 f_HB8_w8 c_HX8_w8 f_HX8_w8 cE8
      have c_HB9_w9 := fun w' o (k : Ext w9 w') => k.cellOf HB9.out o
      have f_HB9_w9 := fun w' o (k : Ext w9 w') => frozen_of (k.keep HB9.out) o
      have r_HB9_w9 := Ext.refl w9
      go_wp2
      go_ret
      unfold AccessRes
      rw [HJ.out]
      refine ⟨rfl, h9.keep1 (((Upd.refl [b] _)).set1 _ _) hb, hub9.trans ((((Upd.refl [b] _)).set1 _ _).own1 hbF), F, ⟨⟨H, (heap_set HB9.out _ _).trans (by simp), fun q => ?_⟩, hbF, hout, fun x hx => ?_, hn, hw, hcl, hsl, hgn, hsz, by simp⟩, fun x hx => Or.inl hx⟩
      · simp at q
      · have := hFl x hx; have := hub9.size; simp; omega

end Go.Proofs.Ythblhgappldcjaa
