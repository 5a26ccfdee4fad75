/- DropMoving: the walk. -/
import Derived.Test.YthblhgappldcjaaNa
import Derived.Test.YthblhgappldcjaaPd
import Derived.Test.YthblhgappldcjaaSa
import Derived.Test.YthblhgappldcjaaSb
import Derived.Test.YthblhgappldcjaaVa
import Derived.BigQuiet
namespace Go.Proofs.Ythblhgappldcjaa
open Go Go.RowKit
set_option linter.unusedVariables false

theorem goodM : GoodC Fl.cM := ⟨by simp [Fl.cM], by simp [Fl.cM], by simp [Fl.cM], by simp [Fl.cM], by simp [Fl.cM], by simp [Fl.cM], by simp [Fl.cM]⟩
theorem pSlotM : Fl.pSlot Fl.cM 0 = 7 := by simp [Fl.pSlot, Fl.cM]

set_option maxHeartbeats 4000000 in
set_option maxRecDepth 100000 in
theorem w_dropMoving (size ver : Int) (W : World) : Calls Try.prog 7 #[.int .i64 size, .int .i64 ver] W fun e w' => e = .returned (.bool true) ∧ Ext W w' := by
  have fl0 := field_done0
  have fl1 := field_done1
  have ia := iand15 size
  have ib := iand65535 ver
  obtain ⟨n, hn, hn1⟩ : ∃ n : Nat, 1 + size % 16 = (n : Int) ∧ 1 ≤ n ∧ n ≤ 16 := ⟨(1 + size % 16).toNat, by omega, by omega, by omega⟩
  obtain ⟨v, hv, hv1⟩ : ∃ n : Nat, ver % 65536 = (n : Int) ∧ 0 ≤ n ∧ n ≤ 65535 := ⟨(ver % 65536).toNat, by omega, by omega, by omega⟩
  have hw : IntKind.i64.wrap (n : Int) = (n : Int) := IntWalk.i64_in _ (by omega)
  have HK := Lib.hid (Fl.mov_ok (n := n) (v := v) (by omega) (by omega))
  have HN1 := Lib.hid hn1
  have HV1 := Lib.hid hv1
  clear hn1 hv1
  have gc := goodM
  go_enter Try.func7, Try.ntmps7
  go_wp2_with fail
  refine (n_arena 1 4 4 20 _ goodM).mono ?_
  rintro e w1 ⟨l, rfl, h1, x1, hnew⟩
  have hE := heap_new w1 (.cells #[.int .i64 1, .int .i64 4, .int .i64 4, .int .i64 20, .int .i64 100, .int .i64 600, .int .i64 3, .pointer (some ⟨l.m, 0, none⟩), .int .i64 0] 27)
  have hX := (Ext.refl w1).alloc (.cells #[.int .i64 1, .int .i64 4, .int .i64 4, .int .i64 20, .int .i64 100, .int .i64 600, .int .i64 3, .pointer (some ⟨l.m, 0, none⟩), .int .i64 0] 27)
  have hlt := h1.lt
  go_wp2_with fail
  generalize w1.alloc (.cells #[.int .i64 1, .int .i64 4, .int .i64 4, .int .i64 20, .int .i64 100, .int .i64 600, .int .i64 3, .pointer (some ⟨l.m, 0, none⟩), .int .i64 0] 27) = w2 at *
  have hb1 : W.heap.size ≤ w1.heap.size := x1.size
  have hbe : w1.heap.size ∉ l.all := fun hm => by have := hlt _ hm; omega
  generalize w1.heap.size = eb at *
  refine (awake9 _).mono ?_
  rintro e w3 ⟨rfl, x3⟩
  have HE3 := Lib.hid (x3.keep hE)
  have h3 := h1.ext (hX.trans x3)
  have X3 := x1.trans (hX.trans x3)
  clear hE h1 hX x3 x1
  have c_HE3_w3 := fun w' o (k : Ext w3 w') => k.cellOf HE3.out o
  have f_HE3_w3 := fun w' o (k : Ext w3 w') => frozen_of (k.keep HE3.out) o
  have r_HE3_w3 := Ext.refl w3
  go_wp2_with fail
  refine (n_make Fl.cM l (Fl.fresh Fl.cM) 0 n false w3 gc h3 HK.out.s1).mono ?_
  rintro e w4 ⟨rfl, h4', u4⟩
  have h4 : MemAt w4 l (Fl.movA n).2 := h4'
  clear h4'
  rw [show (Fl.Alloc.loop Fl.cM 0 400 (Fl.fresh Fl.cM) (Fl.Alloc.new n false)).1.out.handle = 65536 from HK.out.h1]
  have HE4 := Lib.hid (u4.keep HE3.out hbe)
  have hu4 := u4
  clear c_HE3_w3 f_HE3_w3 r_HE3_w3
  have c_HE4_w4 := fun w' o (k : Ext w4 w') => k.cellOf HE4.out o
  have f_HE4_w4 := fun w' o (k : Ext w4 w') => frozen_of (k.keep HE4.out) o
  have r_HE4_w4 := Ext.refl w4
  go_wp2_with fail
  refine wp_region_float1 w4.heap.size (Ext w4) 7 (some 8) (.cells #[.int .i64 0, .int .i64 0, .int .i64 0, .int .i64 0] 44) [0, 1, 2, 3, 4, 5, 6] [] 8 [] Try.mixed (by kernel_rfl) rfl (Makes.one rfl rfl rfl (fun a w => by go_simp) (by kernel_rfl)) (by intro c a d v w h; cases d <;> exact h) (Ext.refl _).drew (fun w ob hh => hh.alloc ob) (fun w hh => hh.size) ?_
  simp only [opsAt, List.filterMap_cons, List.filterMap_nil, List.getElem?_toArray, List.getElem?_cons_zero, List.getElem?_cons_succ]
  (refine HeadsP.val (v := ?_) rfl (fun wv hwv => ?_) ?_; rotate_left; (go_simp; with_reducible rfl); simp only [Act.put, List.setIfInBounds_toArray, List.set_cons_zero, List.set_cons_succ])
  (refine HeadsP.val (v := ?_) rfl (fun wv hwv => ?_) ?_; rotate_left; (go_simp; with_reducible rfl); simp only [Act.put, List.setIfInBounds_toArray, List.set_cons_zero, List.set_cons_succ])
  (refine HeadsP.val (v := ?_) rfl (fun wv hwv => ?_) ?_; rotate_left; (go_simp; with_reducible rfl); simp only [Act.put, List.setIfInBounds_toArray, List.set_cons_zero, List.set_cons_succ])
  (refine HeadsP.val (v := ?_) rfl (fun wv hwv => ?_) ?_; rotate_left; (go_simp; with_reducible rfl); simp only [Act.put, List.setIfInBounds_toArray, List.set_cons_zero, List.set_cons_succ])
  (refine HeadsP.call (v := ?_) rfl (fun wv hwv => ?_) ?_; rotate_left; (go_simp; simp only [GivesUpon.enter]; refine (v_pSlot Fl.cM 0 7 _ pSlotM gc (by omega)).mono ?_; rintro e w' ⟨rfl, hh⟩; refine ⟨?_, hwv.trans hh, KeepN.ext hh⟩; with_reducible rfl); simp only [Act.put, List.setIfInBounds_toArray, List.set_cons_zero, List.set_cons_succ])
  (refine HeadsP.call (v := ?_) rfl (fun wv hwv => ?_) ?_; rotate_left; (go_simp; simp only [GivesUpon.enter]; refine (c_peek l _ _ _ (h4.ext hwv)).mono ?_; rintro e w' ⟨rfl, hh⟩; refine ⟨?_, hwv.trans hh, KeepN.ext hh⟩; with_reducible rfl); simp only [Act.put, List.setIfInBounds_toArray, List.set_cons_zero, List.set_cons_succ])
  (refine HeadsP.call (v := ?_) rfl (fun wv hwv => ?_) ?_; rotate_left; (go_simp; simp only [GivesUpon.enter]; refine (c_slot _ _ (peek_lt h4 _)).mono ?_; rintro e w' ⟨rfl, hh⟩; refine ⟨?_, hwv.trans hh, KeepN.ext hh⟩; with_reducible rfl); simp only [Act.put, List.setIfInBounds_toArray, List.set_cons_zero, List.set_cons_succ])
  refine HeadsP.nil ?_
  refine ChainP.nil ?_
  intro kx w5 hkx HX hS5
  simp only [List.setIfInBounds_toArray, List.set_cons_zero, List.set_cons_succ]
  have hS : Fl.movS n v = ⟨2, (Fl.slotOf ((Fl.movA n).2.peek 7)).addr, (Fl.slotOf ((Fl.movA n).2.peek 7)).gen, v⟩ := rfl
  generalize Fl.slotOf ((Fl.movA n).2.peek 7) = sl at *
  have HS := Lib.hid hS
  clear hS
  have HXh := Lib.hid HX
  have HE5 := Lib.hid (hS5.keep HE4.out)
  have hbr := lt_of_heap HE4.out
  have nex : eb ≠ kx := by omega
  have nxe : kx ≠ eb := by omega
  have hkl : kx ∉ l.all := fun hm => by have := hlt _ hm; omega
  have c_HXh_w5 := fun w' o (k : Ext w5 w') => k.cellOf HXh.out o
  have f_HXh_w5 := fun w' o (k : Ext w5 w') => frozen_of (k.keep HXh.out) o
  have r_HXh_w5 := Ext.refl w5
  have c_HE5_w5 := fun w' o (k : Ext w5 w') => k.cellOf HE5.out o
  have f_HE5_w5 := fun w' o (k : Ext w5 w') => frozen_of (k.keep HE5.out) o
  have r_HE5_w5 := Ext.refl w5
  clear c_HE4_w4 f_HE4_w4 r_HE4_w4 HX
  go_wp2_with fail
  have HX6 := Lib.hid (heap_set (heap_set (heap_set (heap_set (heap_set (heap_set HXh.out 0 (.int .i64 sl.state)) 1 (.int .i64 sl.addr)) 2 (.int .i64 sl.gen)) 3 (.int .i64 sl.ver)) 0 (.int .i64 2)) 3 (.int .i64 (v : Int)))
  have HE6 := Lib.hid (heap_far (heap_far (heap_far (heap_far (heap_far (heap_far HE5.out (p := ⟨kx, 0, none⟩) nex (.int .i64 sl.state)) (p := ⟨kx, 1, none⟩) nex (.int .i64 sl.addr)) (p := ⟨kx, 2, none⟩) nex (.int .i64 sl.gen)) (p := ⟨kx, 3, none⟩) nex (.int .i64 sl.ver)) (p := ⟨kx, 0, none⟩) nex (.int .i64 2)) (p := ⟨kx, 3, none⟩) nex (.int .i64 (v : Int)))
  have u6 := (((((((Upd.refl [kx] w5).set1 0 (.int .i64 sl.state)).set1 1 (.int .i64 sl.addr)).set1 2 (.int .i64 sl.gen)).set1 3 (.int .i64 sl.ver)).set1 0 (.int .i64 2)).set1 3 (.int .i64 (v : Int)))
  generalize (World.setCell (World.setCell (World.setCell (World.setCell (World.setCell (World.setCell w5 ⟨kx, 0, none⟩ (.int .i64 sl.state)) ⟨kx, 1, none⟩ (.int .i64 sl.addr)) ⟨kx, 2, none⟩ (.int .i64 sl.gen)) ⟨kx, 3, none⟩ (.int .i64 sl.ver)) ⟨kx, 0, none⟩ (.int .i64 2)) ⟨kx, 3, none⟩ (.int .i64 (v : Int))) = w6 at *
  simp only [List.setIfInBounds_toArray, List.set_cons_zero, List.set_cons_succ] at HX6
  have h6 := (h4.ext hS5).keep1 u6 hkl
  have U6 := (hu4.extR hS5).then u6 (fun x hx => by rw [List.mem_singleton.1 hx]; exact Or.inr (by have := hu4.size; omega))
  clear c_HXh_w5 f_HXh_w5 r_HXh_w5 c_HE5_w5 f_HE5_w5 r_HE5_w5
  have c_HX6_w6 := fun w' o (k : Ext w6 w') => k.cellOf HX6.out o
  have f_HX6_w6 := fun w' o (k : Ext w6 w') => frozen_of (k.keep HX6.out) o
  have r_HX6_w6 := Ext.refl w6
  have c_HE6_w6 := fun w' o (k : Ext w6 w') => k.cellOf HE6.out o
  have f_HE6_w6 := fun w' o (k : Ext w6 w') => frozen_of (k.keep HE6.out) o
  have r_HE6_w6 := Ext.refl w6
  refine wp_region_plan (Ext w6) [] [0, 1, 2, 3, 4, 5, 6] 7 [] Try.mixed (by kernel_rfl) (by intro c a d v w h; cases d <;> exact h) (Ext.refl _).drew ?_
  simp only [opsAt, List.filterMap_cons, List.filterMap_nil, List.getElem?_toArray, List.getElem?_cons_zero, List.getElem?_cons_succ]
  refine Firsts.nil ?_
  (refine Heads.val (v := ?_) rfl (fun wv hwv => ?_) ?_; rotate_left; (go_simp; with_reducible rfl); simp only [Act.put, List.setIfInBounds_toArray, List.set_cons_zero, List.set_cons_succ])
  (refine Heads.val (v := ?_) rfl (fun wv hwv => ?_) ?_; rotate_left; (go_simp; with_reducible rfl); simp only [Act.put, List.setIfInBounds_toArray, List.set_cons_zero, List.set_cons_succ])
  (refine Heads.val (v := ?_) rfl (fun wv hwv => ?_) ?_; rotate_left; (go_simp; with_reducible rfl); simp only [Act.put, List.setIfInBounds_toArray, List.set_cons_zero, List.set_cons_succ])
  (refine Heads.val (v := ?_) rfl (fun wv hwv => ?_) ?_; rotate_left; (go_simp; with_reducible rfl); simp only [Act.put, List.setIfInBounds_toArray, List.set_cons_zero, List.set_cons_succ])
  (refine Heads.call (v := ?_) rfl (fun wv hwv => ?_) ?_; rotate_left; (go_simp; simp only [GivesUpon.enter]; refine (v_pSlot Fl.cM 0 7 _ pSlotM gc (by omega)).mono ?_; rintro e w' ⟨rfl, hh⟩; refine ⟨?_, hwv.trans hh⟩; with_reducible rfl); simp only [Act.put, List.setIfInBounds_toArray, List.set_cons_zero, List.set_cons_succ])
  (refine Heads.val (v := ?_) rfl (fun wv hwv => ?_) ?_; rotate_left; (go_simp; with_reducible rfl); simp only [Act.put, List.setIfInBounds_toArray, List.set_cons_zero, List.set_cons_succ])
  (refine Heads.call (v := ?_) rfl (fun wv hwv => ?_) ?_; rotate_left; (go_simp; simp only [GivesUpon.enter]; refine (c_putSlot _ _ _ _ _).mono ?_; rintro e w' ⟨rfl, hh⟩; refine ⟨?_, hwv.trans hh⟩; with_reducible rfl); simp only [Act.put, List.setIfInBounds_toArray, List.set_cons_zero, List.set_cons_succ])
  refine Heads.nil ?_
  intro w7 hw7
  go_wp2_with fail
  refine (c_mstore l _ 7 _ _ (h6.ext hw7) HK.out.t1 (Fl.putSlot_lt _)).mono ?_
  rintro e w8 ⟨⟨x8, rfl⟩, h8', u8⟩
  have h8 : MemAt w8 l (Fl.movM n v) := by rw [Fl.movM, HS.out]; exact h8'
  clear h8'
  have HE8 := Lib.hid (u8.keep (hw7.keep HE6.out) hbe)
  have U8 := (U6.extR hw7).trans u8
  clear c_HX6_w6 f_HX6_w6 r_HX6_w6 c_HE6_w6 f_HE6_w6 r_HE6_w6
  have c_HE8_w8 := fun w' o (k : Ext w8 w') => k.cellOf HE8.out o
  have f_HE8_w8 := fun w' o (k : Ext w8 w') => frozen_of (k.keep HE8.out) o
  have r_HE8_w8 := Ext.refl w8
  go_wp2_with fail
  refine wp_region_stages (Ext w8) [([0, 1], 2), ([3, 4, 5, 6, 7, 8, 9, 10, 11, 12, 13, 14, 15, 16, 17, 18], 19), ([20, 21], 22)] [23] Try.mixed (by kernel_rfl) (by intro c a d v w h; cases d <;> exact h) (Ext.refl _).drew ?_
  refine StagesP.cons ?_
  simp only [opsAt, List.filterMap_cons, List.filterMap_nil, List.getElem?_toArray, List.getElem?_cons_zero, List.getElem?_cons_succ]
  (refine Heads.val (v := ?_) rfl (fun wv hwv => ?_) ?_; rotate_left; (go_simp; with_reducible rfl); simp only [Act.put, List.setIfInBounds_toArray, List.set_cons_zero, List.set_cons_succ])
  (refine Heads.val (v := ?_) rfl (fun wv hwv => ?_) ?_; rotate_left; (go_simp; with_reducible rfl); simp only [Act.put, List.setIfInBounds_toArray, List.set_cons_zero, List.set_cons_succ])
  refine Heads.nil ?_
  (refine Stage.call (fun w => MemAt w l (Fl.movD n v).2 ∧ Upd l.all w8 w ∧ w.heap[eb]? = some (.cells #[.int .i64 1, .int .i64 4, .int .i64 4, .int .i64 20, .int .i64 100, .int .i64 600, .int .i64 3, .pointer (some ⟨l.m, 0, none⟩), .int .i64 0] 27 (0, 0))) (v := ?_) rfl rfl (fun wv hwv => ?_) ?_; rotate_left; (go_simp; simp only [GivesUpon.enter]; refine (n_let Fl.cM l (Fl.movM n v) 0 65536 false wv gc (h8.ext hwv) (by decide) HK.out.s2).mono ?_; rintro e w' ⟨rfl, hh, uu⟩; rw [show (Fl.Drop.loop Fl.cM 0 200 (Fl.movM n v) (Fl.Drop.new 65536 false)).1.out.e = 0 from HK.out.e2]; refine ⟨?_, hh, (hwv.upd _).trans uu, uu.keep (hwv.keep HE8.out) hbe⟩; with_reducible rfl); simp only [Act.put, List.setIfInBounds_toArray, List.set_cons_zero, List.set_cons_succ])
  refine StagesP.cons ?_
  simp only [opsAt, List.filterMap_cons, List.filterMap_nil, List.getElem?_toArray, List.getElem?_cons_zero, List.getElem?_cons_succ]
  (refine Heads.val (v := ?_) rfl (fun wv hwv => ?_) ?_; rotate_left; (have cE := fun o => cell_of hwv.2.2 o; have fE := fun o => frozen_of hwv.2.2 o; go_simp; with_reducible rfl); simp only [Act.put, List.setIfInBounds_toArray, List.set_cons_zero, List.set_cons_succ])
  (refine Heads.val (v := ?_) rfl (fun wv hwv => ?_) ?_; rotate_left; (have cE := fun o => cell_of hwv.2.2 o; have fE := fun o => frozen_of hwv.2.2 o; go_simp; with_reducible rfl); simp only [Act.put, List.setIfInBounds_toArray, List.set_cons_zero, List.set_cons_succ])
  (refine Heads.val (v := ?_) rfl (fun wv hwv => ?_) ?_; rotate_left; (have cE := fun o => cell_of hwv.2.2 o; have fE := fun o => frozen_of hwv.2.2 o; go_simp; with_reducible rfl); simp only [Act.put, List.setIfInBounds_toArray, List.set_cons_zero, List.set_cons_succ])
  (first | (refine Heads.val (v := ?_) rfl (fun wv hwv => ?_) ?_; rotate_left; (have cE := fun o => cell_of hwv.2.2 o; have fE := fun o => frozen_of hwv.2.2 o; go_simp; with_reducible rfl); simp only [Act.put, List.setIfInBounds_toArray, List.set_cons_zero, List.set_cons_succ]) | (refine Heads.skip rfl ?_; simp only [Act.put, List.setIfInBounds_toArray, List.set_cons_zero, List.set_cons_succ]))
  (first | (refine Heads.val (v := ?_) rfl (fun wv hwv => ?_) ?_; rotate_left; (have cE := fun o => cell_of hwv.2.2 o; have fE := fun o => frozen_of hwv.2.2 o; go_simp; with_reducible rfl); simp only [Act.put, List.setIfInBounds_toArray, List.set_cons_zero, List.set_cons_succ]) | (refine Heads.skip rfl ?_; simp only [Act.put, List.setIfInBounds_toArray, List.set_cons_zero, List.set_cons_succ]))
  (first | (refine Heads.val (v := ?_) rfl (fun wv hwv => ?_) ?_; rotate_left; (have cE := fun o => cell_of hwv.2.2 o; have fE := fun o => frozen_of hwv.2.2 o; go_simp; with_reducible rfl); simp only [Act.put, List.setIfInBounds_toArray, List.set_cons_zero, List.set_cons_succ]) | (refine Heads.skip rfl ?_; simp only [Act.put, List.setIfInBounds_toArray, List.set_cons_zero, List.set_cons_succ]))
  (first | (refine Heads.val (v := ?_) rfl (fun wv hwv => ?_) ?_; rotate_left; (have cE := fun o => cell_of hwv.2.2 o; have fE := fun o => frozen_of hwv.2.2 o; go_simp; with_reducible rfl); simp only [Act.put, List.setIfInBounds_toArray, List.set_cons_zero, List.set_cons_succ]) | (refine Heads.skip rfl ?_; simp only [Act.put, List.setIfInBounds_toArray, List.set_cons_zero, List.set_cons_succ]))
  (first | (refine Heads.call (v := ?_) rfl (fun wv hwv => ?_) ?_; rotate_left; (have cE := fun o => cell_of hwv.2.2 o; have fE := fun o => frozen_of hwv.2.2 o; go_simp; simp only [GivesUpon.enter]; refine (v_pSlot Fl.cM 0 7 _ pSlotM gc (by omega)).mono ?_; rintro e w' ⟨rfl, hh⟩; refine ⟨?_, ⟨hwv.1.ext hh, hwv.2.1.extR hh, hh.keep hwv.2.2⟩⟩; with_reducible rfl); simp only [Act.put, List.setIfInBounds_toArray, List.set_cons_zero, List.set_cons_succ]) | (refine Heads.skip rfl ?_; simp only [Act.put, List.setIfInBounds_toArray, List.set_cons_zero, List.set_cons_succ]))
  (first | (refine Heads.call (v := ?_) rfl (fun wv hwv => ?_) ?_; rotate_left; (have cE := fun o => cell_of hwv.2.2 o; have fE := fun o => frozen_of hwv.2.2 o; go_simp; simp only [GivesUpon.enter]; refine (c_peek l _ _ _ hwv.1).mono ?_; rintro e w' ⟨rfl, hh⟩; refine ⟨?_, ⟨hwv.1.ext hh, hwv.2.1.extR hh, hh.keep hwv.2.2⟩⟩; with_reducible rfl); simp only [Act.put, List.setIfInBounds_toArray, List.set_cons_zero, List.set_cons_succ]) | (refine Heads.skip rfl ?_; simp only [Act.put, List.setIfInBounds_toArray, List.set_cons_zero, List.set_cons_succ]))
  (first | (refine Heads.call (v := ?_) rfl (fun wv hwv => ?_) ?_; rotate_left; (have cE := fun o => cell_of hwv.2.2 o; have fE := fun o => frozen_of hwv.2.2 o; go_simp; simp only [GivesUpon.enter]; refine (v_slot _ ⟨0, 0, 2, 0⟩ _ HK.out.w2 (peek_lt hwv.1 _)).mono ?_; rintro e w' ⟨rfl, hh⟩; refine ⟨?_, ⟨hwv.1.ext hh, hwv.2.1.extR hh, hh.keep hwv.2.2⟩⟩; with_reducible rfl); simp only [Act.put, List.setIfInBounds_toArray, List.set_cons_zero, List.set_cons_succ]) | (refine Heads.skip rfl ?_; simp only [Act.put, List.setIfInBounds_toArray, List.set_cons_zero, List.set_cons_succ]))
  (first | (refine Heads.val (v := ?_) rfl (fun wv hwv => ?_) ?_; rotate_left; (have cE := fun o => cell_of hwv.2.2 o; have fE := fun o => frozen_of hwv.2.2 o; go_simp; with_reducible rfl); simp only [Act.put, List.setIfInBounds_toArray, List.set_cons_zero, List.set_cons_succ]) | (refine Heads.skip rfl ?_; simp only [Act.put, List.setIfInBounds_toArray, List.set_cons_zero, List.set_cons_succ]))
  (first | (refine Heads.val (v := ?_) rfl (fun wv hwv => ?_) ?_; rotate_left; (have cE := fun o => cell_of hwv.2.2 o; have fE := fun o => frozen_of hwv.2.2 o; go_simp; with_reducible rfl); simp only [Act.put, List.setIfInBounds_toArray, List.set_cons_zero, List.set_cons_succ]) | (refine Heads.skip rfl ?_; simp only [Act.put, List.setIfInBounds_toArray, List.set_cons_zero, List.set_cons_succ]))
  (refine Heads.val (v := ?_) rfl (fun wv hwv => ?_) ?_; rotate_left; (have cE := fun o => cell_of hwv.2.2 o; have fE := fun o => frozen_of hwv.2.2 o; go_simp; with_reducible rfl); simp only [Act.put, List.setIfInBounds_toArray, List.set_cons_zero, List.set_cons_succ])
  (refine Heads.val (v := ?_) rfl (fun wv hwv => ?_) ?_; rotate_left; (have cE := fun o => cell_of hwv.2.2 o; have fE := fun o => frozen_of hwv.2.2 o; go_simp; with_reducible rfl); simp only [Act.put, List.setIfInBounds_toArray, List.set_cons_zero, List.set_cons_succ])
  (first | (refine Heads.val (v := ?_) rfl (fun wv hwv => ?_) ?_; rotate_left; (have cE := fun o => cell_of hwv.2.2 o; have fE := fun o => frozen_of hwv.2.2 o; go_simp; with_reducible rfl); simp only [Act.put, List.setIfInBounds_toArray, List.set_cons_zero, List.set_cons_succ]) | (refine Heads.skip rfl ?_; simp only [Act.put, List.setIfInBounds_toArray, List.set_cons_zero, List.set_cons_succ]))
  (first | (refine Heads.val (v := ?_) rfl (fun wv hwv => ?_) ?_; rotate_left; (have cE := fun o => cell_of hwv.2.2 o; have fE := fun o => frozen_of hwv.2.2 o; go_simp; with_reducible rfl); simp only [Act.put, List.setIfInBounds_toArray, List.set_cons_zero, List.set_cons_succ]) | (refine Heads.skip rfl ?_; simp only [Act.put, List.setIfInBounds_toArray, List.set_cons_zero, List.set_cons_succ]))
  refine Heads.nil ?_
  (first | (refine Stage.call (fun w => Upd l.all w8 w) (v := ?_) rfl rfl (fun wv hwv => ?_) ?_; rotate_left; (have cE := fun o => cell_of hwv.2.2 o; have fE := fun o => frozen_of hwv.2.2 o; go_simp; simp only [GivesUpon.enter]; refine (n_let Fl.cM l (Fl.movD n v).2 0 65536 false wv gc hwv.1 (by decide) HK.out.s3).mono ?_; rintro e w' ⟨rfl, hh, uu⟩; rw [show (Fl.Drop.loop Fl.cM 0 200 (Fl.movD n v).2 (Fl.Drop.new 65536 false)).1.out.e = 3 from HK.out.e3]; refine ⟨?_, hwv.2.1.trans uu⟩; with_reducible rfl); simp only [Act.put, List.setIfInBounds_toArray, List.set_cons_zero, List.set_cons_succ]) | (refine Stage.skip rfl rfl ?_; simp only [Act.put, List.setIfInBounds_toArray, List.set_cons_zero, List.set_cons_succ]))
  refine StagesP.cons ?_
  simp only [opsAt, List.filterMap_cons, List.filterMap_nil, List.getElem?_toArray, List.getElem?_cons_zero, List.getElem?_cons_succ]
  (first | (refine Heads.val (v := ?_) rfl (fun wv hwv => ?_) ?_; rotate_left; (skip; go_simp; with_reducible rfl); simp only [Act.put, List.setIfInBounds_toArray, List.set_cons_zero, List.set_cons_succ]) | (refine Heads.skip rfl ?_; simp only [Act.put, List.setIfInBounds_toArray, List.set_cons_zero, List.set_cons_succ]))
  (first | (refine Heads.val (v := ?_) rfl (fun wv hwv => ?_) ?_; rotate_left; (skip; go_simp; with_reducible rfl); simp only [Act.put, List.setIfInBounds_toArray, List.set_cons_zero, List.set_cons_succ]) | (refine Heads.skip rfl ?_; simp only [Act.put, List.setIfInBounds_toArray, List.set_cons_zero, List.set_cons_succ]))
  refine Heads.nil ?_
  (refine Stage.val (v := ?_) rfl rfl (fun wv hwv => ?_) ?_; rotate_left; (skip; go_simp; with_reducible rfl); simp only [Act.put, List.setIfInBounds_toArray, List.set_cons_zero, List.set_cons_succ])
  refine StagesP.nil ?_
  intro w9 hw9
  try simp only [opsAt, List.filterMap_cons, List.filterMap_nil, List.getElem?_toArray, List.getElem?_cons_zero, List.getElem?_cons_succ]
  have X9 := X3.updNew (U8.trans hw9) hnew
  go_wp2
  go_ret
  exact ⟨rfl, X9⟩

end Go.Proofs.Ythblhgappldcjaa
