/- AccessStops: the walk. -/
import Derived.Test.YthblhgappldcjaaXh
import Derived.Test.YthblhgappldcjaaPg
import Derived.Test.YthblhgappldcjaaSb
import Derived.Test.YthblhgappldcjaaVa
namespace Go.Proofs.Ythblhgappldcjaa
open Go Go.RowKit
set_option linter.unusedVariables false

theorem pSlotA : Fl.pSlot Fl.cA 0 = 7 := by simp [Fl.pSlot, Fl.cA]
theorem v_cell (n : Nat) (k : Fl.Cl) (w : World) (h : Fl.cellOf n = k) (hn : n < 18446744073709551616) :
    Calls Try.prog 61 #[.int .u64 n] w fun e w' => e = .returned (.agg #[.int .i64 k.value, .bool k.frozen, .int .i64 k.ver]) ∧ Ext w w' := by
  subst h; exact c_cell n w hn



set_option maxHeartbeats 8000000 in
set_option maxRecDepth 100000 in
theorem w_accessStops (kind ver : Int) (fz : Bool) (W : World) : Calls Try.prog 16 #[.int .i64 kind, .int .i64 ver, .bool fz] W fun e w' => e = .returned (.bool true) ∧ Ext W w' := by
  have fl1 := field_done1
  have ib := iand65535 ver
  obtain ⟨v, hv, hv1⟩ : ∃ n : Nat, ver % 65536 = (n : Int) ∧ n ≤ 65535 := ⟨(ver % 65536).toNat, by omega, by omega⟩
  have ia := iand1 kind
  have hk2 : kind % 2 = 0 ∨ kind % 2 = 1 := by omega
  have HB0 := Lib.hid (Fl.stops_ok (k := 0) (v := v) false (by omega) (by omega))
  have gc := goodA
  go_enter Try.func16, Try.ntmps16
  go_wp2_with fail
  refine (n_arena 1 4 2 20 _ goodA).mono ?_
  rintro e w1 ⟨l, rfl, h1, x1, hnew⟩
  have hE := heap_new w1 (.cells #[.int .i64 1, .int .i64 4, .int .i64 2, .int .i64 20, .int .i64 100, .int .i64 600, .int .i64 3, .pointer (some ⟨l.m, 0, none⟩), .int .i64 0] 27)
  have hX := (Ext.refl w1).alloc (.cells #[.int .i64 1, .int .i64 4, .int .i64 2, .int .i64 20, .int .i64 100, .int .i64 600, .int .i64 3, .pointer (some ⟨l.m, 0, none⟩), .int .i64 0] 27)
  have hlt := h1.lt
  go_wp2_with fail
  generalize w1.alloc (.cells #[.int .i64 1, .int .i64 4, .int .i64 2, .int .i64 20, .int .i64 100, .int .i64 600, .int .i64 3, .pointer (some ⟨l.m, 0, none⟩), .int .i64 0] 27) = w2 at *
  have hb1 : W.heap.size ≤ w1.heap.size := x1.size
  have hbe : w1.heap.size ∉ l.all := fun hm => by have := hlt _ hm; omega
  generalize w1.heap.size = eb at *
  refine (awake10 _).mono ?_
  rintro e w3 ⟨rfl, x3⟩
  have HE3 := Lib.hid (x3.keep hE)
  have h3 := h1.ext (hX.trans x3)
  have X3 := x1.trans (hX.trans x3)
  clear hE h1 hX x3 x1
  have c_HE3_w3 := fun w' o (k : Ext w3 w') => k.cellOf HE3.out o
  have f_HE3_w3 := fun w' o (k : Ext w3 w') => frozen_of (k.keep HE3.out) o
  have r_HE3_w3 := Ext.refl w3
  go_wp2_with fail
  refine (n_make Fl.cA l (Fl.fresh Fl.cA) 0 2 false w3 goodA h3 (Fl.Alloc.safe_of _ _ _ Fl.safe1A)).mono ?_
  rintro e w4 ⟨rfl, h4', u4⟩
  have h4 : MemAt w4 l Fl.m1A := h4'
  clear h4'
  rw [Fl.out1A]
  have HE4 := Lib.hid (u4.keep HE3.out hbe)
  clear c_HE3_w3 f_HE3_w3 r_HE3_w3
  have c_HE4_w4 := fun w' o (k : Ext w4 w') => k.cellOf HE4.out o
  have f_HE4_w4 := fun w' o (k : Ext w4 w') => frozen_of (k.keep HE4.out) o
  have r_HE4_w4 := Ext.refl w4
  go_wp2_with fail
  refine (v_pSlot Fl.cA 0 7 _ pSlotA gc (by omega)).mono ?_
  rintro e w5 ⟨rfl, x5⟩
  have HE5 := Lib.hid (x5.keep HE4.out)
  have h5 := h4.ext x5
  clear c_HE4_w4 f_HE4_w4 r_HE4_w4
  have c_HE5_w5 := fun w' o (k : Ext w5 w') => k.cellOf HE5.out o
  have f_HE5_w5 := fun w' o (k : Ext w5 w') => frozen_of (k.keep HE5.out) o
  have r_HE5_w5 := Ext.refl w5
  go_wp2_with fail
  refine (c_peek l Fl.m1A 7 _ h5).mono ?_
  rintro e w6 ⟨rfl, x6⟩
  have HE6 := Lib.hid (x6.keep HE5.out)
  clear c_HE5_w5 f_HE5_w5 r_HE5_w5
  have c_HE6_w6 := fun w' o (k : Ext w6 w') => k.cellOf HE6.out o
  have f_HE6_w6 := fun w' o (k : Ext w6 w') => frozen_of (k.keep HE6.out) o
  have r_HE6_w6 := Ext.refl w6
  go_wp2_with fail
  refine (v_slot _ ⟨1, 21, 1, 0⟩ _ HB0.out.s1 (peek_lt h5 _)).mono ?_
  rintro e w7 ⟨rfl, x7⟩
  have HE7 := Lib.hid (x7.keep HE6.out)
  have h7 := h5.ext (x6.trans x7)
  have U7 := u4.extR (x5.trans (x6.trans x7))
  clear c_HE6_w6 f_HE6_w6 r_HE6_w6
  have c_HE7_w7 := fun w' o (k : Ext w7 w') => k.cellOf HE7.out o
  have f_HE7_w7 := fun w' o (k : Ext w7 w') => frozen_of (k.keep HE7.out) o
  have r_HE7_w7 := Ext.refl w7
  have a7 := fun o => (Ext.refl w7).alloc o
  go_wp2_with fail
  have hS := heap_new w7 (.cells #[.int .i64 2, .int .i64 21, .int .i64 1, .int .i64 (v : Int)] 44)
  have x8 := a7 (.cells #[.int .i64 2, .int .i64 21, .int .i64 1, .int .i64 (v : Int)] 44)
  generalize w7.alloc (.cells #[.int .i64 2, .int .i64 21, .int .i64 1, .int .i64 (v : Int)] 44) = w8 at *
  have hkl : w7.heap.size ∉ l.all := fun hm => by have := h7.lt _ hm; omega
  generalize w7.heap.size = kx at *
  have HE8 := Lib.hid (x8.keep HE7.out)
  have HS8 := Lib.hid hS
  have h8 := h7.ext x8
  have U8 := U7.extR x8
  clear c_HE7_w7 f_HE7_w7 r_HE7_w7 hS a7
  have c_HE8_w8 := fun w' o (k : Ext w8 w') => k.cellOf HE8.out o
  have f_HE8_w8 := fun w' o (k : Ext w8 w') => frozen_of (k.keep HE8.out) o
  have r_HE8_w8 := Ext.refl w8
  have c_HS8_w8 := fun w' o (k : Ext w8 w') => k.cellOf HS8.out o
  have f_HS8_w8 := fun w' o (k : Ext w8 w') => frozen_of (k.keep HS8.out) o
  have r_HS8_w8 := Ext.refl w8
  refine wp_region_plan (Ext w8) [] [0, 1, 2, 3, 4] 5 [] Try.mixed (by kernel_rfl) (by intro c a d v w h; cases d <;> exact h) (Ext.refl _).drew ?_
  simp only [opsAt, List.filterMap_cons, List.filterMap_nil, List.getElem?_toArray, List.getElem?_cons_zero, List.getElem?_cons_succ]
  refine Firsts.nil ?_
  (refine Heads.val (v := ?_) rfl (fun wv hwv => ?_) ?_; rotate_left; (go_simp; with_reducible rfl); simp only [Act.put, List.setIfInBounds_toArray, List.set_cons_zero, List.set_cons_succ])
  (refine Heads.val (v := ?_) rfl (fun wv hwv => ?_) ?_; rotate_left; (go_simp; with_reducible rfl); simp only [Act.put, List.setIfInBounds_toArray, List.set_cons_zero, List.set_cons_succ])
  (refine Heads.val (v := ?_) rfl (fun wv hwv => ?_) ?_; rotate_left; (go_simp; with_reducible rfl); simp only [Act.put, List.setIfInBounds_toArray, List.set_cons_zero, List.set_cons_succ])
  (refine Heads.val (v := ?_) rfl (fun wv hwv => ?_) ?_; rotate_left; (go_simp; with_reducible rfl); simp only [Act.put, List.setIfInBounds_toArray, List.set_cons_zero, List.set_cons_succ])
  (refine Heads.call (v := ?_) rfl (fun wv hwv => ?_) ?_; rotate_left; (go_simp; simp only [GivesUpon.enter]; refine (c_putSlot _ _ _ _ _).mono ?_; rintro e w' ⟨rfl, hh⟩; refine ⟨?_, hwv.trans hh⟩; with_reducible rfl); simp only [Act.put, List.setIfInBounds_toArray, List.set_cons_zero, List.set_cons_succ])
  refine Heads.nil ?_
  intro w9 hw9
  go_wp2_with fail
  refine (c_mstore l _ 7 _ _ (h8.ext hw9) HB0.out.t1 (Fl.putSlot_lt _)).mono ?_
  rintro e wc ⟨⟨xc, rfl⟩, hc', uc⟩
  have hc : MemAt wc l (Fl.st1 v) := hc'
  clear hc'
  have HEc := Lib.hid (uc.keep (hw9.keep HE8.out) hbe)
  have HSc := Lib.hid (uc.keep (hw9.keep HS8.out) hkl)
  have Uc := (U8.extR hw9).trans uc
  clear c_HE8_w8 f_HE8_w8 r_HE8_w8 c_HS8_w8 f_HS8_w8 r_HS8_w8
  have c_HEc_wc := fun w' o (k : Ext wc w') => k.cellOf HEc.out o
  have f_HEc_wc := fun w' o (k : Ext wc w') => frozen_of (k.keep HEc.out) o
  have r_HEc_wc := Ext.refl wc
  have c_HSc_wc := fun w' o (k : Ext wc w') => k.cellOf HSc.out o
  have f_HSc_wc := fun w' o (k : Ext wc w') => frozen_of (k.keep HSc.out) o
  have r_HSc_wc := Ext.refl wc
  rcases hk2 with hk2 | hk2
  · cases fz
    · have HK := Lib.hid (Fl.stops_ok (k := 0) (v := v) false (by omega) (by omega))
      go_wp2_with fail
      refine (n_do Fl.cA l (Fl.st2 v false) 0 (Fl.stX 0) false wc goodA (show MemAt wc l (Fl.st2 v false) from hc) (by decide) HK.out.t3).mono ?_
      rintro e wa ⟨rfl, ha', ua⟩
      have ha : MemAt wa l (Fl.stD 0 v false).2 := ha'
      clear ha'
      rw [show (Fl.Access.loop Fl.cA 0 200 (Fl.st2 v false) (Fl.Access.new (Fl.stX 0) false)).1.out.e = 0 from HK.out.e]
      rw [show (Fl.Access.loop Fl.cA 0 200 (Fl.st2 v false) (Fl.Access.new (Fl.stX 0) false)).1.out.value = 0 from HK.out.value]
      generalize (Fl.Access.loop Fl.cA 0 200 (Fl.st2 v false) (Fl.Access.new (Fl.stX 0) false)).1.out.handle = q1
      generalize (Fl.Access.loop Fl.cA 0 200 (Fl.st2 v false) (Fl.Access.new (Fl.stX 0) false)).1.out.stamp = q3
      have HEa := Lib.hid (ua.keep HEc.out hbe)
      have HSa := Lib.hid (ua.keep HSc.out hkl)
      have Ua := Uc.trans ua
      have hD := heap_new wa (.cells #[.int .i64 0, .int .u64 (q1 : Nat), .int .i64 0, .int .i64 q3] 34)
      have xb := (Ext.refl wa).alloc (.cells #[.int .i64 0, .int .u64 (q1 : Nat), .int .i64 0, .int .i64 q3] 34)
      have zb : wa.heap.size < (wa.alloc (.cells #[.int .i64 0, .int .u64 (q1 : Nat), .int .i64 0, .int .i64 q3] 34)).heap.size := by simp
      go_wp2_with fail
      generalize wa.alloc (.cells #[.int .i64 0, .int .u64 (q1 : Nat), .int .i64 0, .int .i64 q3] 34) = wb at *
      generalize wa.heap.size = db at *
      have HEb := Lib.hid (xb.keep HEa.out)
      have HSb := Lib.hid (xb.keep HSa.out)
      have HDb := Lib.hid hD
      have hb' := ha.ext xb
      have Ub := Ua.extR xb
      clear hD
      have c_HEb_wb := fun w' o (k : Ext wb w') => k.cellOf HEb.out o
      have f_HEb_wb := fun w' o (k : Ext wb w') => frozen_of (k.keep HEb.out) o
      have r_HEb_wb := Ext.refl wb
      have c_HSb_wb := fun w' o (k : Ext wb w') => k.cellOf HSb.out o
      have f_HSb_wb := fun w' o (k : Ext wb w') => frozen_of (k.keep HSb.out) o
      have r_HSb_wb := Ext.refl wb
      have c_HDb_wb := fun w' o (k : Ext wb w') => k.cellOf HDb.out o
      have f_HDb_wb := fun w' o (k : Ext wb w') => frozen_of (k.keep HDb.out) o
      have r_HDb_wb := Ext.refl wb
      have hw22 : IntKind.i64.wrap ((21 : Int) + 1) = 22 := by decide
      refine wp_region_float2 wb.heap.size (Ext wb) 12 13 (some 13) (some 14) (.cells #[.int .i64 0, .int .i64 0, .int .i64 0, .int .i64 0] 44) (.cells #[.int .i64 0, .bool false, .int .i64 0] 91) [0, 1, 2, 3, 4, 5, 6, 7, 8, 9, 10, 11] [] 14 [15] Try.mixed (by kernel_rfl) rfl rfl (by decide) (Makes.two rfl rfl rfl (fun a w => by go_simp) rfl rfl rfl (fun a w => by go_simp) (by decide) (by intro d h h'; have h1 := Option.some.inj h; have h2 := Option.some.inj h'; omega) (by kernel_rfl)) (by intro c a d v w h; cases d <;> exact h) (Ext.refl _).drew (fun w ob hh => hh.alloc ob) (fun w hh => hh.size) ?_
      simp only [opsAt, List.filterMap_cons, List.filterMap_nil, List.getElem?_toArray, List.getElem?_cons_zero, List.getElem?_cons_succ]
      (refine HeadsP.val (v := ?_) rfl (fun wv hwv => ?_) ?_; rotate_left; (go_simp; with_reducible rfl); simp only [Act.put, List.setIfInBounds_toArray, List.set_cons_zero, List.set_cons_succ])
      (refine HeadsP.val (v := ?_) rfl (fun wv hwv => ?_) ?_; rotate_left; (go_simp; with_reducible rfl); simp only [Act.put, List.setIfInBounds_toArray, List.set_cons_zero, List.set_cons_succ])
      (refine HeadsP.val (v := ?_) rfl (fun wv hwv => ?_) ?_; rotate_left; (go_simp; with_reducible rfl); simp only [Act.put, List.setIfInBounds_toArray, List.set_cons_zero, List.set_cons_succ])
      (refine HeadsP.call (v := ?_) rfl (fun wv hwv => ?_) ?_; rotate_left; (go_simp; simp only [GivesUpon.enter]; refine (c_peek l _ _ _ (hb'.ext hwv)).mono ?_; rintro e w' ⟨rfl, hh⟩; refine ⟨?_, hwv.trans hh, KeepN.ext hh⟩; with_reducible rfl); simp only [Act.put, List.setIfInBounds_toArray, List.set_cons_zero, List.set_cons_succ])
      (refine HeadsP.call (v := ?_) rfl (fun wv hwv => ?_) ?_; rotate_left; (go_simp; simp only [GivesUpon.enter]; refine (v_slot _ ⟨2, 21, 1, v⟩ _ HK.out.now (peek_lt hb' _)).mono ?_; rintro e w' ⟨rfl, hh⟩; refine ⟨?_, hwv.trans hh, KeepN.ext hh⟩; with_reducible rfl); simp only [Act.put, List.setIfInBounds_toArray, List.set_cons_zero, List.set_cons_succ])
      (refine HeadsP.val (v := ?_) rfl (fun wv hwv => ?_) ?_; rotate_left; (go_simp; with_reducible rfl); simp only [Act.put, List.setIfInBounds_toArray, List.set_cons_zero, List.set_cons_succ])
      (refine HeadsP.val (v := ?_) rfl (fun wv hwv => ?_) ?_; rotate_left; (go_simp; with_reducible rfl); simp only [Act.put, List.setIfInBounds_toArray, List.set_cons_zero, List.set_cons_succ])
      (refine HeadsP.val (v := ?_) rfl (fun wv hwv => ?_) ?_; rotate_left; (go_simp; with_reducible rfl); simp only [Act.put, List.setIfInBounds_toArray, List.set_cons_zero, List.set_cons_succ])
      (refine HeadsP.val (v := ?_) rfl (fun wv hwv => ?_) ?_; rotate_left; (go_simp; with_reducible rfl); simp only [Act.put, List.setIfInBounds_toArray, List.set_cons_zero, List.set_cons_succ])
      (refine HeadsP.val (v := ?_) rfl (fun wv hwv => ?_) ?_; rotate_left; (go_simp; with_reducible rfl); simp only [Act.put, List.setIfInBounds_toArray, List.set_cons_zero, List.set_cons_succ])
      (refine HeadsP.call (v := ?_) rfl (fun wv hwv => ?_) ?_; rotate_left; (go_simp; simp only [GivesUpon.enter]; refine (c_peek l _ _ _ (hb'.ext hwv)).mono ?_; rintro e w' ⟨rfl, hh⟩; refine ⟨?_, hwv.trans hh, KeepN.ext hh⟩; with_reducible rfl); simp only [Act.put, List.setIfInBounds_toArray, List.set_cons_zero, List.set_cons_succ])
      (refine HeadsP.call (v := ?_) rfl (fun wv hwv => ?_) ?_; rotate_left; (go_simp; simp only [GivesUpon.enter]; refine (v_cell _ ⟨0, false, 0⟩ _ HK.out.cell (peek_lt hb' _)).mono ?_; rintro e w' ⟨rfl, hh⟩; refine ⟨?_, hwv.trans hh, KeepN.ext hh⟩; with_reducible rfl); simp only [Act.put, List.setIfInBounds_toArray, List.set_cons_zero, List.set_cons_succ])
      refine HeadsP.nil ?_
      refine ChainP.nil ?_
      intro ky kz wq hky HY hkz HZ hyz hSq
      simp only [List.setIfInBounds_toArray, List.set_cons_zero, List.set_cons_succ]
      have HYq := Lib.hid HY
      have HZq := Lib.hid HZ
      have HSq := Lib.hid (hSq.keep HSb.out)
      have HDq := Lib.hid (hSq.keep HDb.out)
      have n1 := lt_of_heap HSb.out
      have n2 := lt_of_heap HDb.out
      have nsy : kx ≠ ky := by omega
      have nsz : kx ≠ kz := by omega
      have ndy : db ≠ ky := by omega
      have ndz : db ≠ kz := by omega
      have nzy : kz ≠ ky := fun q => hyz q.symm
      clear c_HEb_wb f_HEb_wb r_HEb_wb c_HSb_wb f_HSb_wb r_HSb_wb c_HDb_wb f_HDb_wb r_HDb_wb HY HZ
      have c_HYq_wq := fun w' o (k : Ext wq w') => k.cellOf HYq.out o
      have f_HYq_wq := fun w' o (k : Ext wq w') => frozen_of (k.keep HYq.out) o
      have r_HYq_wq := Ext.refl wq
      have c_HZq_wq := fun w' o (k : Ext wq w') => k.cellOf HZq.out o
      have f_HZq_wq := fun w' o (k : Ext wq w') => frozen_of (k.keep HZq.out) o
      have r_HZq_wq := Ext.refl wq
      have c_HSq_wq := fun w' o (k : Ext wq w') => k.cellOf HSq.out o
      have f_HSq_wq := fun w' o (k : Ext wq w') => frozen_of (k.keep HSq.out) o
      have r_HSq_wq := Ext.refl wq
      have c_HDq_wq := fun w' o (k : Ext wq w') => k.cellOf HDq.out o
      have f_HDq_wq := fun w' o (k : Ext wq w') => frozen_of (k.keep HDq.out) o
      have r_HDq_wq := Ext.refl wq
      have Xq := X3.updNew (Ub.extR hSq) hnew
      have hzW : W.heap.size ≤ ky ∧ W.heap.size ≤ kz := by
        have := X3.size
        have := Ub.size
        omega
      go_wp2
      go_ret
      exact ⟨rfl, (((((((show Ext W wq from Xq).setNew hzW.1 _).setNew hzW.1 _).setNew hzW.1 _).setNew hzW.1 _).setNew hzW.2 _).setNew hzW.2 _).setNew hzW.2 _⟩
    · have HK := Lib.hid (Fl.stops_ok (k := 0) (v := v) true (by omega) (by omega))
      have hw22 : IntKind.i64.wrap ((21 : Int) + 1) = 22 := by decide
      go_wp2_with fail
      refine wp_region_plan (Ext wc) [] [0, 1, 2, 3, 4, 5, 6, 7, 8] 9 [] Try.mixed (by kernel_rfl) (by intro c a d v w h; cases d <;> exact h) (Ext.refl _).drew ?_
      simp only [opsAt, List.filterMap_cons, List.filterMap_nil, List.getElem?_toArray, List.getElem?_cons_zero, List.getElem?_cons_succ]
      refine Firsts.nil ?_
      (refine Heads.val (v := ?_) rfl (fun wv hwv => ?_) ?_; rotate_left; (go_simp; with_reducible rfl); simp only [Act.put, List.setIfInBounds_toArray, List.set_cons_zero, List.set_cons_succ])
      (refine Heads.val (v := ?_) rfl (fun wv hwv => ?_) ?_; rotate_left; (go_simp; with_reducible rfl); simp only [Act.put, List.setIfInBounds_toArray, List.set_cons_zero, List.set_cons_succ])
      (refine Heads.val (v := ?_) rfl (fun wv hwv => ?_) ?_; rotate_left; (go_simp; with_reducible rfl); simp only [Act.put, List.setIfInBounds_toArray, List.set_cons_zero, List.set_cons_succ])
      (refine Heads.val (v := ?_) rfl (fun wv hwv => ?_) ?_; rotate_left; (go_simp; with_reducible rfl); simp only [Act.put, List.setIfInBounds_toArray, List.set_cons_zero, List.set_cons_succ])
      (refine Heads.val (v := ?_) rfl (fun wv hwv => ?_) ?_; rotate_left; (go_simp; with_reducible rfl); simp only [Act.put, List.setIfInBounds_toArray, List.set_cons_zero, List.set_cons_succ])
      (refine Heads.val (v := ?_) rfl (fun wv hwv => ?_) ?_; rotate_left; (go_simp; with_reducible rfl); simp only [Act.put, List.setIfInBounds_toArray, List.set_cons_zero, List.set_cons_succ])
      (refine Heads.val (v := ?_) rfl (fun wv hwv => ?_) ?_; rotate_left; (go_simp; with_reducible rfl); simp only [Act.put, List.setIfInBounds_toArray, List.set_cons_zero, List.set_cons_succ])
      (refine Heads.val (v := ?_) rfl (fun wv hwv => ?_) ?_; rotate_left; (go_simp; with_reducible rfl); simp only [Act.put, List.setIfInBounds_toArray, List.set_cons_zero, List.set_cons_succ])
      (refine Heads.call (v := ?_) rfl (fun wv hwv => ?_) ?_; rotate_left; (go_simp; simp only [GivesUpon.enter]; refine (c_putCell _ _ _ _).mono ?_; rintro e w' ⟨rfl, hh⟩; refine ⟨?_, hwv.trans hh⟩; with_reducible rfl); simp only [Act.put, List.setIfInBounds_toArray, List.set_cons_zero, List.set_cons_succ])
      refine Heads.nil ?_
      intro wd hwd
      go_wp2_with fail
      refine (c_mstore l _ 22 _ _ (hc.ext hwd) HB0.out.t2 (Fl.putCell_lt _)).mono ?_
      rintro e we ⟨⟨xe, rfl⟩, he', ue⟩
      have he : MemAt we l (Fl.st2 v true) := he'
      clear he'
      have HEe := Lib.hid (ue.keep (hwd.keep HEc.out) hbe)
      have HSe := Lib.hid (ue.keep (hwd.keep HSc.out) hkl)
      have Ue := (Uc.extR hwd).trans ue
      clear c_HEc_wc f_HEc_wc r_HEc_wc c_HSc_wc f_HSc_wc r_HSc_wc
      have c_HEe_we := fun w' o (k : Ext we w') => k.cellOf HEe.out o
      have f_HEe_we := fun w' o (k : Ext we w') => frozen_of (k.keep HEe.out) o
      have r_HEe_we := Ext.refl we
      have c_HSe_we := fun w' o (k : Ext we w') => k.cellOf HSe.out o
      have f_HSe_we := fun w' o (k : Ext we w') => frozen_of (k.keep HSe.out) o
      have r_HSe_we := Ext.refl we
      go_wp2_with fail
      refine (n_do Fl.cA l (Fl.st2 v true) 0 (Fl.stX 0) false we goodA (show MemAt we l (Fl.st2 v true) from he) (by decide) HK.out.t3).mono ?_
      rintro e wa ⟨rfl, ha', ua⟩
      have ha : MemAt wa l (Fl.stD 0 v true).2 := ha'
      clear ha'
      rw [show (Fl.Access.loop Fl.cA 0 200 (Fl.st2 v true) (Fl.Access.new (Fl.stX 0) false)).1.out.e = 0 from HK.out.e]
      rw [show (Fl.Access.loop Fl.cA 0 200 (Fl.st2 v true) (Fl.Access.new (Fl.stX 0) false)).1.out.value = 3 from HK.out.value]
      generalize (Fl.Access.loop Fl.cA 0 200 (Fl.st2 v true) (Fl.Access.new (Fl.stX 0) false)).1.out.handle = q1
      generalize (Fl.Access.loop Fl.cA 0 200 (Fl.st2 v true) (Fl.Access.new (Fl.stX 0) false)).1.out.stamp = q3
      have HEa := Lib.hid (ua.keep HEe.out hbe)
      have HSa := Lib.hid (ua.keep HSe.out hkl)
      have Ua := Ue.trans ua
      have hD := heap_new wa (.cells #[.int .i64 0, .int .u64 (q1 : Nat), .int .i64 3, .int .i64 q3] 34)
      have xb := (Ext.refl wa).alloc (.cells #[.int .i64 0, .int .u64 (q1 : Nat), .int .i64 3, .int .i64 q3] 34)
      have zb : wa.heap.size < (wa.alloc (.cells #[.int .i64 0, .int .u64 (q1 : Nat), .int .i64 3, .int .i64 q3] 34)).heap.size := by simp
      go_wp2_with fail
      generalize wa.alloc (.cells #[.int .i64 0, .int .u64 (q1 : Nat), .int .i64 3, .int .i64 q3] 34) = wb at *
      generalize wa.heap.size = db at *
      have HEb := Lib.hid (xb.keep HEa.out)
      have HSb := Lib.hid (xb.keep HSa.out)
      have HDb := Lib.hid hD
      have hb' := ha.ext xb
      have Ub := Ua.extR xb
      clear hD
      have c_HEb_wb := fun w' o (k : Ext wb w') => k.cellOf HEb.out o
      have f_HEb_wb := fun w' o (k : Ext wb w') => frozen_of (k.keep HEb.out) o
      have r_HEb_wb := Ext.refl wb
      have c_HSb_wb := fun w' o (k : Ext wb w') => k.cellOf HSb.out o
      have f_HSb_wb := fun w' o (k : Ext wb w') => frozen_of (k.keep HSb.out) o
      have r_HSb_wb := Ext.refl wb
      have c_HDb_wb := fun w' o (k : Ext wb w') => k.cellOf HDb.out o
      have f_HDb_wb := fun w' o (k : Ext wb w') => frozen_of (k.keep HDb.out) o
      have r_HDb_wb := Ext.refl wb
      have hw22 : IntKind.i64.wrap ((21 : Int) + 1) = 22 := by decide
      refine wp_region_float2 wb.heap.size (Ext wb) 12 13 (some 13) (some 14) (.cells #[.int .i64 0, .int .i64 0, .int .i64 0, .int .i64 0] 44) (.cells #[.int .i64 0, .bool false, .int .i64 0] 91) [0, 1, 2, 3, 4, 5, 6, 7, 8, 9, 10, 11] [] 14 [15] Try.mixed (by kernel_rfl) rfl rfl (by decide) (Makes.two rfl rfl rfl (fun a w => by go_simp) rfl rfl rfl (fun a w => by go_simp) (by decide) (by intro d h h'; have h1 := Option.some.inj h; have h2 := Option.some.inj h'; omega) (by kernel_rfl)) (by intro c a d v w h; cases d <;> exact h) (Ext.refl _).drew (fun w ob hh => hh.alloc ob) (fun w hh => hh.size) ?_
      simp only [opsAt, List.filterMap_cons, List.filterMap_nil, List.getElem?_toArray, List.getElem?_cons_zero, List.getElem?_cons_succ]
      (refine HeadsP.val (v := ?_) rfl (fun wv hwv => ?_) ?_; rotate_left; (go_simp; with_reducible rfl); simp only [Act.put, List.setIfInBounds_toArray, List.set_cons_zero, List.set_cons_succ])
      (refine HeadsP.val (v := ?_) rfl (fun wv hwv => ?_) ?_; rotate_left; (go_simp; with_reducible rfl); simp only [Act.put, List.setIfInBounds_toArray, List.set_cons_zero, List.set_cons_succ])
      (refine HeadsP.val (v := ?_) rfl (fun wv hwv => ?_) ?_; rotate_left; (go_simp; with_reducible rfl); simp only [Act.put, List.setIfInBounds_toArray, List.set_cons_zero, List.set_cons_succ])
      (refine HeadsP.call (v := ?_) rfl (fun wv hwv => ?_) ?_; rotate_left; (go_simp; simp only [GivesUpon.enter]; refine (c_peek l _ _ _ (hb'.ext hwv)).mono ?_; rintro e w' ⟨rfl, hh⟩; refine ⟨?_, hwv.trans hh, KeepN.ext hh⟩; with_reducible rfl); simp only [Act.put, List.setIfInBounds_toArray, List.set_cons_zero, List.set_cons_succ])
      (refine HeadsP.call (v := ?_) rfl (fun wv hwv => ?_) ?_; rotate_left; (go_simp; simp only [GivesUpon.enter]; refine (v_slot _ ⟨2, 21, 1, v⟩ _ HK.out.now (peek_lt hb' _)).mono ?_; rintro e w' ⟨rfl, hh⟩; refine ⟨?_, hwv.trans hh, KeepN.ext hh⟩; with_reducible rfl); simp only [Act.put, List.setIfInBounds_toArray, List.set_cons_zero, List.set_cons_succ])
      (refine HeadsP.val (v := ?_) rfl (fun wv hwv => ?_) ?_; rotate_left; (go_simp; with_reducible rfl); simp only [Act.put, List.setIfInBounds_toArray, List.set_cons_zero, List.set_cons_succ])
      (refine HeadsP.val (v := ?_) rfl (fun wv hwv => ?_) ?_; rotate_left; (go_simp; with_reducible rfl); simp only [Act.put, List.setIfInBounds_toArray, List.set_cons_zero, List.set_cons_succ])
      (refine HeadsP.val (v := ?_) rfl (fun wv hwv => ?_) ?_; rotate_left; (go_simp; with_reducible rfl); simp only [Act.put, List.setIfInBounds_toArray, List.set_cons_zero, List.set_cons_succ])
      (refine HeadsP.val (v := ?_) rfl (fun wv hwv => ?_) ?_; rotate_left; (go_simp; with_reducible rfl); simp only [Act.put, List.setIfInBounds_toArray, List.set_cons_zero, List.set_cons_succ])
      (refine HeadsP.val (v := ?_) rfl (fun wv hwv => ?_) ?_; rotate_left; (go_simp; with_reducible rfl); simp only [Act.put, List.setIfInBounds_toArray, List.set_cons_zero, List.set_cons_succ])
      (refine HeadsP.call (v := ?_) rfl (fun wv hwv => ?_) ?_; rotate_left; (go_simp; simp only [GivesUpon.enter]; refine (c_peek l _ _ _ (hb'.ext hwv)).mono ?_; rintro e w' ⟨rfl, hh⟩; refine ⟨?_, hwv.trans hh, KeepN.ext hh⟩; with_reducible rfl); simp only [Act.put, List.setIfInBounds_toArray, List.set_cons_zero, List.set_cons_succ])
      (refine HeadsP.call (v := ?_) rfl (fun wv hwv => ?_) ?_; rotate_left; (go_simp; simp only [GivesUpon.enter]; refine (v_cell _ ⟨3, true, v⟩ _ HK.out.cell (peek_lt hb' _)).mono ?_; rintro e w' ⟨rfl, hh⟩; refine ⟨?_, hwv.trans hh, KeepN.ext hh⟩; with_reducible rfl); simp only [Act.put, List.setIfInBounds_toArray, List.set_cons_zero, List.set_cons_succ])
      refine HeadsP.nil ?_
      refine ChainP.nil ?_
      intro ky kz wq hky HY hkz HZ hyz hSq
      simp only [List.setIfInBounds_toArray, List.set_cons_zero, List.set_cons_succ]
      have HYq := Lib.hid HY
      have HZq := Lib.hid HZ
      have HSq := Lib.hid (hSq.keep HSb.out)
      have HDq := Lib.hid (hSq.keep HDb.out)
      have n1 := lt_of_heap HSb.out
      have n2 := lt_of_heap HDb.out
      have nsy : kx ≠ ky := by omega
      have nsz : kx ≠ kz := by omega
      have ndy : db ≠ ky := by omega
      have ndz : db ≠ kz := by omega
      have nzy : kz ≠ ky := fun q => hyz q.symm
      clear c_HEb_wb f_HEb_wb r_HEb_wb c_HSb_wb f_HSb_wb r_HSb_wb c_HDb_wb f_HDb_wb r_HDb_wb HY HZ
      have c_HYq_wq := fun w' o (k : Ext wq w') => k.cellOf HYq.out o
      have f_HYq_wq := fun w' o (k : Ext wq w') => frozen_of (k.keep HYq.out) o
      have r_HYq_wq := Ext.refl wq
      have c_HZq_wq := fun w' o (k : Ext wq w') => k.cellOf HZq.out o
      have f_HZq_wq := fun w' o (k : Ext wq w') => frozen_of (k.keep HZq.out) o
      have r_HZq_wq := Ext.refl wq
      have c_HSq_wq := fun w' o (k : Ext wq w') => k.cellOf HSq.out o
      have f_HSq_wq := fun w' o (k : Ext wq w') => frozen_of (k.keep HSq.out) o
      have r_HSq_wq := Ext.refl wq
      have c_HDq_wq := fun w' o (k : Ext wq w') => k.cellOf HDq.out o
      have f_HDq_wq := fun w' o (k : Ext wq w') => frozen_of (k.keep HDq.out) o
      have r_HDq_wq := Ext.refl wq
      have Xq := X3.updNew (Ub.extR hSq) hnew
      have hzW : W.heap.size ≤ ky ∧ W.heap.size ≤ kz := by
        have := X3.size
        have := Ub.size
        omega
      go_wp2
      go_ret
      exact ⟨rfl, (((((((show Ext W wq from Xq).setNew hzW.1 _).setNew hzW.1 _).setNew hzW.1 _).setNew hzW.1 _).setNew hzW.2 _).setNew hzW.2 _).setNew hzW.2 _⟩
  · cases fz
    · have HK := Lib.hid (Fl.stops_ok (k := 1) (v := v) false (by omega) (by omega))
      go_wp2_with fail
      refine (n_do Fl.cA l (Fl.st2 v false) 0 (Fl.stX 1) false wc goodA (show MemAt wc l (Fl.st2 v false) from hc) (by decide) HK.out.t3).mono ?_
      rintro e wa ⟨rfl, ha', ua⟩
      have ha : MemAt wa l (Fl.stD 1 v false).2 := ha'
      clear ha'
      rw [show (Fl.Access.loop Fl.cA 0 200 (Fl.st2 v false) (Fl.Access.new (Fl.stX 1) false)).1.out.e = 0 from HK.out.e]
      rw [show (Fl.Access.loop Fl.cA 0 200 (Fl.st2 v false) (Fl.Access.new (Fl.stX 1) false)).1.out.value = 0 from HK.out.value]
      generalize (Fl.Access.loop Fl.cA 0 200 (Fl.st2 v false) (Fl.Access.new (Fl.stX 1) false)).1.out.handle = q1
      generalize (Fl.Access.loop Fl.cA 0 200 (Fl.st2 v false) (Fl.Access.new (Fl.stX 1) false)).1.out.stamp = q3
      have HEa := Lib.hid (ua.keep HEc.out hbe)
      have HSa := Lib.hid (ua.keep HSc.out hkl)
      have Ua := Uc.trans ua
      have hD := heap_new wa (.cells #[.int .i64 0, .int .u64 (q1 : Nat), .int .i64 0, .int .i64 q3] 34)
      have xb := (Ext.refl wa).alloc (.cells #[.int .i64 0, .int .u64 (q1 : Nat), .int .i64 0, .int .i64 q3] 34)
      have zb : wa.heap.size < (wa.alloc (.cells #[.int .i64 0, .int .u64 (q1 : Nat), .int .i64 0, .int .i64 q3] 34)).heap.size := by simp
      go_wp2_with fail
      generalize wa.alloc (.cells #[.int .i64 0, .int .u64 (q1 : Nat), .int .i64 0, .int .i64 q3] 34) = wb at *
      generalize wa.heap.size = db at *
      have HEb := Lib.hid (xb.keep HEa.out)
      have HSb := Lib.hid (xb.keep HSa.out)
      have HDb := Lib.hid hD
      have hb' := ha.ext xb
      have Ub := Ua.extR xb
      clear hD
      have c_HEb_wb := fun w' o (k : Ext wb w') => k.cellOf HEb.out o
      have f_HEb_wb := fun w' o (k : Ext wb w') => frozen_of (k.keep HEb.out) o
      have r_HEb_wb := Ext.refl wb
      have c_HSb_wb := fun w' o (k : Ext wb w') => k.cellOf HSb.out o
      have f_HSb_wb := fun w' o (k : Ext wb w') => frozen_of (k.keep HSb.out) o
      have r_HSb_wb := Ext.refl wb
      have c_HDb_wb := fun w' o (k : Ext wb w') => k.cellOf HDb.out o
      have f_HDb_wb := fun w' o (k : Ext wb w') => frozen_of (k.keep HDb.out) o
      have r_HDb_wb := Ext.refl wb
      have hw22 : IntKind.i64.wrap ((21 : Int) + 1) = 22 := by decide
      refine wp_region_float2 wb.heap.size (Ext wb) 12 13 (some 13) (some 14) (.cells #[.int .i64 0, .int .i64 0, .int .i64 0, .int .i64 0] 44) (.cells #[.int .i64 0, .bool false, .int .i64 0] 91) [0, 1, 2, 3, 4, 5, 6, 7, 8, 9, 10, 11] [] 14 [15] Try.mixed (by kernel_rfl) rfl rfl (by decide) (Makes.two rfl rfl rfl (fun a w => by go_simp) rfl rfl rfl (fun a w => by go_simp) (by decide) (by intro d h h'; have h1 := Option.some.inj h; have h2 := Option.some.inj h'; omega) (by kernel_rfl)) (by intro c a d v w h; cases d <;> exact h) (Ext.refl _).drew (fun w ob hh => hh.alloc ob) (fun w hh => hh.size) ?_
      simp only [opsAt, List.filterMap_cons, List.filterMap_nil, List.getElem?_toArray, List.getElem?_cons_zero, List.getElem?_cons_succ]
      (refine HeadsP.val (v := ?_) rfl (fun wv hwv => ?_) ?_; rotate_left; (go_simp; with_reducible rfl); simp only [Act.put, List.setIfInBounds_toArray, List.set_cons_zero, List.set_cons_succ])
      (refine HeadsP.val (v := ?_) rfl (fun wv hwv => ?_) ?_; rotate_left; (go_simp; with_reducible rfl); simp only [Act.put, List.setIfInBounds_toArray, List.set_cons_zero, List.set_cons_succ])
      (refine HeadsP.val (v := ?_) rfl (fun wv hwv => ?_) ?_; rotate_left; (go_simp; with_reducible rfl); simp only [Act.put, List.setIfInBounds_toArray, List.set_cons_zero, List.set_cons_succ])
      (refine HeadsP.call (v := ?_) rfl (fun wv hwv => ?_) ?_; rotate_left; (go_simp; simp only [GivesUpon.enter]; refine (c_peek l _ _ _ (hb'.ext hwv)).mono ?_; rintro e w' ⟨rfl, hh⟩; refine ⟨?_, hwv.trans hh, KeepN.ext hh⟩; with_reducible rfl); simp only [Act.put, List.setIfInBounds_toArray, List.set_cons_zero, List.set_cons_succ])
      (refine HeadsP.call (v := ?_) rfl (fun wv hwv => ?_) ?_; rotate_left; (go_simp; simp only [GivesUpon.enter]; refine (v_slot _ ⟨2, 21, 1, v⟩ _ HK.out.now (peek_lt hb' _)).mono ?_; rintro e w' ⟨rfl, hh⟩; refine ⟨?_, hwv.trans hh, KeepN.ext hh⟩; with_reducible rfl); simp only [Act.put, List.setIfInBounds_toArray, List.set_cons_zero, List.set_cons_succ])
      (refine HeadsP.val (v := ?_) rfl (fun wv hwv => ?_) ?_; rotate_left; (go_simp; with_reducible rfl); simp only [Act.put, List.setIfInBounds_toArray, List.set_cons_zero, List.set_cons_succ])
      (refine HeadsP.val (v := ?_) rfl (fun wv hwv => ?_) ?_; rotate_left; (go_simp; with_reducible rfl); simp only [Act.put, List.setIfInBounds_toArray, List.set_cons_zero, List.set_cons_succ])
      (refine HeadsP.val (v := ?_) rfl (fun wv hwv => ?_) ?_; rotate_left; (go_simp; with_reducible rfl); simp only [Act.put, List.setIfInBounds_toArray, List.set_cons_zero, List.set_cons_succ])
      (refine HeadsP.val (v := ?_) rfl (fun wv hwv => ?_) ?_; rotate_left; (go_simp; with_reducible rfl); simp only [Act.put, List.setIfInBounds_toArray, List.set_cons_zero, List.set_cons_succ])
      (refine HeadsP.val (v := ?_) rfl (fun wv hwv => ?_) ?_; rotate_left; (go_simp; with_reducible rfl); simp only [Act.put, List.setIfInBounds_toArray, List.set_cons_zero, List.set_cons_succ])
      (refine HeadsP.call (v := ?_) rfl (fun wv hwv => ?_) ?_; rotate_left; (go_simp; simp only [GivesUpon.enter]; refine (c_peek l _ _ _ (hb'.ext hwv)).mono ?_; rintro e w' ⟨rfl, hh⟩; refine ⟨?_, hwv.trans hh, KeepN.ext hh⟩; with_reducible rfl); simp only [Act.put, List.setIfInBounds_toArray, List.set_cons_zero, List.set_cons_succ])
      (refine HeadsP.call (v := ?_) rfl (fun wv hwv => ?_) ?_; rotate_left; (go_simp; simp only [GivesUpon.enter]; refine (v_cell _ ⟨9, false, 0⟩ _ HK.out.cell (peek_lt hb' _)).mono ?_; rintro e w' ⟨rfl, hh⟩; refine ⟨?_, hwv.trans hh, KeepN.ext hh⟩; with_reducible rfl); simp only [Act.put, List.setIfInBounds_toArray, List.set_cons_zero, List.set_cons_succ])
      refine HeadsP.nil ?_
      refine ChainP.nil ?_
      intro ky kz wq hky HY hkz HZ hyz hSq
      simp only [List.setIfInBounds_toArray, List.set_cons_zero, List.set_cons_succ]
      have HYq := Lib.hid HY
      have HZq := Lib.hid HZ
      have HSq := Lib.hid (hSq.keep HSb.out)
      have HDq := Lib.hid (hSq.keep HDb.out)
      have n1 := lt_of_heap HSb.out
      have n2 := lt_of_heap HDb.out
      have nsy : kx ≠ ky := by omega
      have nsz : kx ≠ kz := by omega
      have ndy : db ≠ ky := by omega
      have ndz : db ≠ kz := by omega
      have nzy : kz ≠ ky := fun q => hyz q.symm
      clear c_HEb_wb f_HEb_wb r_HEb_wb c_HSb_wb f_HSb_wb r_HSb_wb c_HDb_wb f_HDb_wb r_HDb_wb HY HZ
      have c_HYq_wq := fun w' o (k : Ext wq w') => k.cellOf HYq.out o
      have f_HYq_wq := fun w' o (k : Ext wq w') => frozen_of (k.keep HYq.out) o
      have r_HYq_wq := Ext.refl wq
      have c_HZq_wq := fun w' o (k : Ext wq w') => k.cellOf HZq.out o
      have f_HZq_wq := fun w' o (k : Ext wq w') => frozen_of (k.keep HZq.out) o
      have r_HZq_wq := Ext.refl wq
      have c_HSq_wq := fun w' o (k : Ext wq w') => k.cellOf HSq.out o
      have f_HSq_wq := fun w' o (k : Ext wq w') => frozen_of (k.keep HSq.out) o
      have r_HSq_wq := Ext.refl wq
      have c_HDq_wq := fun w' o (k : Ext wq w') => k.cellOf HDq.out o
      have f_HDq_wq := fun w' o (k : Ext wq w') => frozen_of (k.keep HDq.out) o
      have r_HDq_wq := Ext.refl wq
      have Xq := X3.updNew (Ub.extR hSq) hnew
      have hzW : W.heap.size ≤ ky ∧ W.heap.size ≤ kz := by
        have := X3.size
        have := Ub.size
        omega
      go_wp2
      go_ret
      exact ⟨rfl, (((((((show Ext W wq from Xq).setNew hzW.1 _).setNew hzW.1 _).setNew hzW.1 _).setNew hzW.1 _).setNew hzW.2 _).setNew hzW.2 _).setNew hzW.2 _⟩
    · have HK := Lib.hid (Fl.stops_ok (k := 1) (v := v) true (by omega) (by omega))
      have hw22 : IntKind.i64.wrap ((21 : Int) + 1) = 22 := by decide
      go_wp2_with fail
      refine wp_region_plan (Ext wc) [] [0, 1, 2, 3, 4, 5, 6, 7, 8] 9 [] Try.mixed (by kernel_rfl) (by intro c a d v w h; cases d <;> exact h) (Ext.refl _).drew ?_
      simp only [opsAt, List.filterMap_cons, List.filterMap_nil, List.getElem?_toArray, List.getElem?_cons_zero, List.getElem?_cons_succ]
      refine Firsts.nil ?_
      (refine Heads.val (v := ?_) rfl (fun wv hwv => ?_) ?_; rotate_left; (go_simp; with_reducible rfl); simp only [Act.put, List.setIfInBounds_toArray, List.set_cons_zero, List.set_cons_succ])
      (refine Heads.val (v := ?_) rfl (fun wv hwv => ?_) ?_; rotate_left; (go_simp; with_reducible rfl); simp only [Act.put, List.setIfInBounds_toArray, List.set_cons_zero, List.set_cons_succ])
      (refine Heads.val (v := ?_) rfl (fun wv hwv => ?_) ?_; rotate_left; (go_simp; with_reducible rfl); simp only [Act.put, List.setIfInBounds_toArray, List.set_cons_zero, List.set_cons_succ])
      (refine Heads.val (v := ?_) rfl (fun wv hwv => ?_) ?_; rotate_left; (go_simp; with_reducible rfl); simp only [Act.put, List.setIfInBounds_toArray, List.set_cons_zero, List.set_cons_succ])
      (refine Heads.val (v := ?_) rfl (fun wv hwv => ?_) ?_; rotate_left; (go_simp; with_reducible rfl); simp only [Act.put, List.setIfInBounds_toArray, List.set_cons_zero, List.set_cons_succ])
      (refine Heads.val (v := ?_) rfl (fun wv hwv => ?_) ?_; rotate_left; (go_simp; with_reducible rfl); simp only [Act.put, List.setIfInBounds_toArray, List.set_cons_zero, List.set_cons_succ])
      (refine Heads.val (v := ?_) rfl (fun wv hwv => ?_) ?_; rotate_left; (go_simp; with_reducible rfl); simp only [Act.put, List.setIfInBounds_toArray, List.set_cons_zero, List.set_cons_succ])
      (refine Heads.val (v := ?_) rfl (fun wv hwv => ?_) ?_; rotate_left; (go_simp; with_reducible rfl); simp only [Act.put, List.setIfInBounds_toArray, List.set_cons_zero, List.set_cons_succ])
      (refine Heads.call (v := ?_) rfl (fun wv hwv => ?_) ?_; rotate_left; (go_simp; simp only [GivesUpon.enter]; refine (c_putCell _ _ _ _).mono ?_; rintro e w' ⟨rfl, hh⟩; refine ⟨?_, hwv.trans hh⟩; with_reducible rfl); simp only [Act.put, List.setIfInBounds_toArray, List.set_cons_zero, List.set_cons_succ])
      refine Heads.nil ?_
      intro wd hwd
      go_wp2_with fail
      refine (c_mstore l _ 22 _ _ (hc.ext hwd) HB0.out.t2 (Fl.putCell_lt _)).mono ?_
      rintro e we ⟨⟨xe, rfl⟩, he', ue⟩
      have he : MemAt we l (Fl.st2 v true) := he'
      clear he'
      have HEe := Lib.hid (ue.keep (hwd.keep HEc.out) hbe)
      have HSe := Lib.hid (ue.keep (hwd.keep HSc.out) hkl)
      have Ue := (Uc.extR hwd).trans ue
      clear c_HEc_wc f_HEc_wc r_HEc_wc c_HSc_wc f_HSc_wc r_HSc_wc
      have c_HEe_we := fun w' o (k : Ext we w') => k.cellOf HEe.out o
      have f_HEe_we := fun w' o (k : Ext we w') => frozen_of (k.keep HEe.out) o
      have r_HEe_we := Ext.refl we
      have c_HSe_we := fun w' o (k : Ext we w') => k.cellOf HSe.out o
      have f_HSe_we := fun w' o (k : Ext we w') => frozen_of (k.keep HSe.out) o
      have r_HSe_we := Ext.refl we
      go_wp2_with fail
      refine (n_do Fl.cA l (Fl.st2 v true) 0 (Fl.stX 1) false we goodA (show MemAt we l (Fl.st2 v true) from he) (by decide) HK.out.t3).mono ?_
      rintro e wa ⟨rfl, ha', ua⟩
      have ha : MemAt wa l (Fl.stD 1 v true).2 := ha'
      clear ha'
      rw [show (Fl.Access.loop Fl.cA 0 200 (Fl.st2 v true) (Fl.Access.new (Fl.stX 1) false)).1.out.e = 0 from HK.out.e]
      rw [show (Fl.Access.loop Fl.cA 0 200 (Fl.st2 v true) (Fl.Access.new (Fl.stX 1) false)).1.out.value = 3 from HK.out.value]
      generalize (Fl.Access.loop Fl.cA 0 200 (Fl.st2 v true) (Fl.Access.new (Fl.stX 1) false)).1.out.handle = q1
      generalize (Fl.Access.loop Fl.cA 0 200 (Fl.st2 v true) (Fl.Access.new (Fl.stX 1) false)).1.out.stamp = q3
      have HEa := Lib.hid (ua.keep HEe.out hbe)
      have HSa := Lib.hid (ua.keep HSe.out hkl)
      have Ua := Ue.trans ua
      have hD := heap_new wa (.cells #[.int .i64 0, .int .u64 (q1 : Nat), .int .i64 3, .int .i64 q3] 34)
      have xb := (Ext.refl wa).alloc (.cells #[.int .i64 0, .int .u64 (q1 : Nat), .int .i64 3, .int .i64 q3] 34)
      have zb : wa.heap.size < (wa.alloc (.cells #[.int .i64 0, .int .u64 (q1 : Nat), .int .i64 3, .int .i64 q3] 34)).heap.size := by simp
      go_wp2_with fail
      generalize wa.alloc (.cells #[.int .i64 0, .int .u64 (q1 : Nat), .int .i64 3, .int .i64 q3] 34) = wb at *
      generalize wa.heap.size = db at *
      have HEb := Lib.hid (xb.keep HEa.out)
      have HSb := Lib.hid (xb.keep HSa.out)
      have HDb := Lib.hid hD
      have hb' := ha.ext xb
      have Ub := Ua.extR xb
      clear hD
      have c_HEb_wb := fun w' o (k : Ext wb w') => k.cellOf HEb.out o
      have f_HEb_wb := fun w' o (k : Ext wb w') => frozen_of (k.keep HEb.out) o
      have r_HEb_wb := Ext.refl wb
      have c_HSb_wb := fun w' o (k : Ext wb w') => k.cellOf HSb.out o
      have f_HSb_wb := fun w' o (k : Ext wb w') => frozen_of (k.keep HSb.out) o
      have r_HSb_wb := Ext.refl wb
      have c_HDb_wb := fun w' o (k : Ext wb w') => k.cellOf HDb.out o
      have f_HDb_wb := fun w' o (k : Ext wb w') => frozen_of (k.keep HDb.out) o
      have r_HDb_wb := Ext.refl wb
      have hw22 : IntKind.i64.wrap ((21 : Int) + 1) = 22 := by decide
      refine wp_region_float2 wb.heap.size (Ext wb) 12 13 (some 13) (some 14) (.cells #[.int .i64 0, .int .i64 0, .int .i64 0, .int .i64 0] 44) (.cells #[.int .i64 0, .bool false, .int .i64 0] 91) [0, 1, 2, 3, 4, 5, 6, 7, 8, 9, 10, 11] [] 14 [15] Try.mixed (by kernel_rfl) rfl rfl (by decide) (Makes.two rfl rfl rfl (fun a w => by go_simp) rfl rfl rfl (fun a w => by go_simp) (by decide) (by intro d h h'; have h1 := Option.some.inj h; have h2 := Option.some.inj h'; omega) (by kernel_rfl)) (by intro c a d v w h; cases d <;> exact h) (Ext.refl _).drew (fun w ob hh => hh.alloc ob) (fun w hh => hh.size) ?_
      simp only [opsAt, List.filterMap_cons, List.filterMap_nil, List.getElem?_toArray, List.getElem?_cons_zero, List.getElem?_cons_succ]
      (refine HeadsP.val (v := ?_) rfl (fun wv hwv => ?_) ?_; rotate_left; (go_simp; with_reducible rfl); simp only [Act.put, List.setIfInBounds_toArray, List.set_cons_zero, List.set_cons_succ])
      (refine HeadsP.val (v := ?_) rfl (fun wv hwv => ?_) ?_; rotate_left; (go_simp; with_reducible rfl); simp only [Act.put, List.setIfInBounds_toArray, List.set_cons_zero, List.set_cons_succ])
      (refine HeadsP.val (v := ?_) rfl (fun wv hwv => ?_) ?_; rotate_left; (go_simp; with_reducible rfl); simp only [Act.put, List.setIfInBounds_toArray, List.set_cons_zero, List.set_cons_succ])
      (refine HeadsP.call (v := ?_) rfl (fun wv hwv => ?_) ?_; rotate_left; (go_simp; simp only [GivesUpon.enter]; refine (c_peek l _ _ _ (hb'.ext hwv)).mono ?_; rintro e w' ⟨rfl, hh⟩; refine ⟨?_, hwv.trans hh, KeepN.ext hh⟩; with_reducible rfl); simp only [Act.put, List.setIfInBounds_toArray, List.set_cons_zero, List.set_cons_succ])
      (refine HeadsP.call (v := ?_) rfl (fun wv hwv => ?_) ?_; rotate_left; (go_simp; simp only [GivesUpon.enter]; refine (v_slot _ ⟨1, 21, 1, v + 1⟩ _ HK.out.now (peek_lt hb' _)).mono ?_; rintro e w' ⟨rfl, hh⟩; refine ⟨?_, hwv.trans hh, KeepN.ext hh⟩; with_reducible rfl); simp only [Act.put, List.setIfInBounds_toArray, List.set_cons_zero, List.set_cons_succ])
      (refine HeadsP.val (v := ?_) rfl (fun wv hwv => ?_) ?_; rotate_left; (go_simp; with_reducible rfl); simp only [Act.put, List.setIfInBounds_toArray, List.set_cons_zero, List.set_cons_succ])
      (refine HeadsP.val (v := ?_) rfl (fun wv hwv => ?_) ?_; rotate_left; (go_simp; with_reducible rfl); simp only [Act.put, List.setIfInBounds_toArray, List.set_cons_zero, List.set_cons_succ])
      (refine HeadsP.val (v := ?_) rfl (fun wv hwv => ?_) ?_; rotate_left; (go_simp; with_reducible rfl); simp only [Act.put, List.setIfInBounds_toArray, List.set_cons_zero, List.set_cons_succ])
      (refine HeadsP.val (v := ?_) rfl (fun wv hwv => ?_) ?_; rotate_left; (go_simp; with_reducible rfl); simp only [Act.put, List.setIfInBounds_toArray, List.set_cons_zero, List.set_cons_succ])
      (refine HeadsP.val (v := ?_) rfl (fun wv hwv => ?_) ?_; rotate_left; (go_simp; with_reducible rfl); simp only [Act.put, List.setIfInBounds_toArray, List.set_cons_zero, List.set_cons_succ])
      (refine HeadsP.call (v := ?_) rfl (fun wv hwv => ?_) ?_; rotate_left; (go_simp; simp only [GivesUpon.enter]; refine (c_peek l _ _ _ (hb'.ext hwv)).mono ?_; rintro e w' ⟨rfl, hh⟩; refine ⟨?_, hwv.trans hh, KeepN.ext hh⟩; with_reducible rfl); simp only [Act.put, List.setIfInBounds_toArray, List.set_cons_zero, List.set_cons_succ])
      (refine HeadsP.call (v := ?_) rfl (fun wv hwv => ?_) ?_; rotate_left; (go_simp; simp only [GivesUpon.enter]; refine (v_cell _ ⟨9, false, 0⟩ _ HK.out.cell (peek_lt hb' _)).mono ?_; rintro e w' ⟨rfl, hh⟩; refine ⟨?_, hwv.trans hh, KeepN.ext hh⟩; with_reducible rfl); simp only [Act.put, List.setIfInBounds_toArray, List.set_cons_zero, List.set_cons_succ])
      refine HeadsP.nil ?_
      refine ChainP.nil ?_
      intro ky kz wq hky HY hkz HZ hyz hSq
      simp only [List.setIfInBounds_toArray, List.set_cons_zero, List.set_cons_succ]
      have HYq := Lib.hid HY
      have HZq := Lib.hid HZ
      have HSq := Lib.hid (hSq.keep HSb.out)
      have HDq := Lib.hid (hSq.keep HDb.out)
      have n1 := lt_of_heap HSb.out
      have n2 := lt_of_heap HDb.out
      have nsy : kx ≠ ky := by omega
      have nsz : kx ≠ kz := by omega
      have ndy : db ≠ ky := by omega
      have ndz : db ≠ kz := by omega
      have nzy : kz ≠ ky := fun q => hyz q.symm
      clear c_HEb_wb f_HEb_wb r_HEb_wb c_HSb_wb f_HSb_wb r_HSb_wb c_HDb_wb f_HDb_wb r_HDb_wb HY HZ
      have c_HYq_wq := fun w' o (k : Ext wq w') => k.cellOf HYq.out o
      have f_HYq_wq := fun w' o (k : Ext wq w') => frozen_of (k.keep HYq.out) o
      have r_HYq_wq := Ext.refl wq
      have c_HZq_wq := fun w' o (k : Ext wq w') => k.cellOf HZq.out o
      have f_HZq_wq := fun w' o (k : Ext wq w') => frozen_of (k.keep HZq.out) o
      have r_HZq_wq := Ext.refl wq
      have c_HSq_wq := fun w' o (k : Ext wq w') => k.cellOf HSq.out o
      have f_HSq_wq := fun w' o (k : Ext wq w') => frozen_of (k.keep HSq.out) o
      have r_HSq_wq := Ext.refl wq
      have c_HDq_wq := fun w' o (k : Ext wq w') => k.cellOf HDq.out o
      have f_HDq_wq := fun w' o (k : Ext wq w') => frozen_of (k.keep HDq.out) o
      have r_HDq_wq := Ext.refl wq
      have Xq := X3.updNew (Ub.extR hSq) hnew
      have hzW : W.heap.size ≤ ky ∧ W.heap.size ≤ kz := by
        have := X3.size
        have := Ub.size
        omega
      go_wp2
      go_ret
      exact ⟨rfl, (((((((show Ext W wq from Xq).setNew hzW.1 _).setNew hzW.1 _).setNew hzW.1 _).setNew hzW.1 _).setNew hzW.2 _).setNew hzW.2 _).setNew hzW.2 _⟩

end Go.Proofs.Ythblhgappldcjaa
