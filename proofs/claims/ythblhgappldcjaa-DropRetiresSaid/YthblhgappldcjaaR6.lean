/- DropRetires: the walk. -/
import Derived.Test.YthblhgappldcjaaNa
import Derived.Test.YthblhgappldcjaaPc
import Derived.Test.YthblhgappldcjaaSb
import Derived.BigQuiet
namespace Go.Proofs.Ythblhgappldcjaa
open Go Go.RowKit
set_option linter.unusedVariables false

theorem goodR (n : Int) (h : 1 ≤ n ∧ n ≤ 65535) : GoodC (Fl.cR n) := ⟨by simp [Fl.cR], by simp [Fl.cR], by simp [Fl.cR], by simp [Fl.cR], by simpa [Fl.cR] using h, by simp [Fl.cR], by simp [Fl.cR]⟩

theorem field_slotst (x0 x1 x2 x3 : Value) (w : World) : (Instr.field 44 (.agg #[x0, x1, x2, x3]) 0).run Try.prog w = .ok x0 w := by
  simp [go_sem, Instr.field, asAgg]

theorem peek_lt {W : World} {l : Loc} {σ : Fl.Mem} (h : MemAt W l σ) (a : Int) : σ.peek a < 18446744073709551616 := by
  have := load_lt h 0 a
  unfold Fl.Mem.load at this
  unfold Fl.Mem.peek
  split <;> simp_all

set_option maxHeartbeats 2000000 in
set_option maxRecDepth 100000 in
theorem w_dropRetires (gens : Int) (W : World) : Calls Try.prog 6 #[.int .i64 gens] W fun e w' => e = .returned (.bool true) ∧ Ext W w' := by
  have fl0 := field_done0
  have fl1 := field_done1
  have ia := iand31 gens
  obtain ⟨n, hn, hn1⟩ : ∃ n : Nat, 1 + gens % 32 = (n : Int) ∧ 1 ≤ n ∧ n ≤ 32 := ⟨(1 + gens % 32).toNat, by omega, by omega, by omega⟩
  have hw : IntKind.i64.wrap (n : Int) = (n : Int) := IntWalk.i64_in _ (by omega)
  have HR := Lib.hid ((Fl.ret_all hn1 n (Nat.le_refl n)).1)
  have HE := Lib.hid (Fl.ret_end hn1)
  have gc := goodR n (by omega)
  go_enter Try.func6, Try.ntmps6
  go_wp2_with fail
  refine (n_arena 1 1 60 40 _ (goodR 100 (by omega))).mono ?_
  rintro e w1 ⟨l, rfl, h1, x1, hnew⟩
  have hE := heap_new w1 (.cells #[.int .i64 1, .int .i64 1, .int .i64 60, .int .i64 40, .int .i64 100, .int .i64 600, .int .i64 3, .pointer (some ⟨l.m, 0, none⟩), .int .i64 0] 27)
  have hX := (Ext.refl w1).alloc (.cells #[.int .i64 1, .int .i64 1, .int .i64 60, .int .i64 40, .int .i64 100, .int .i64 600, .int .i64 3, .pointer (some ⟨l.m, 0, none⟩), .int .i64 0] 27)
  have hlt := h1.lt
  go_wp2_with fail
  generalize w1.alloc (.cells #[.int .i64 1, .int .i64 1, .int .i64 60, .int .i64 40, .int .i64 100, .int .i64 600, .int .i64 3, .pointer (some ⟨l.m, 0, none⟩), .int .i64 0] 27) = w2 at *
  have hb1 : W.heap.size ≤ w1.heap.size := x1.size
  generalize w1.heap.size = eb at *
  refine (awake9 _).mono ?_
  rintro e w3 ⟨rfl, x3⟩
  have HE3 := Lib.hid (x3.keep hE)
  have h3 := h1.ext (hX.trans x3)
  have X3 := x1.trans (hX.trans x3)
  clear hE
  have c_HE3_w3 := fun w' o (k : Ext w3 w') => k.cellOf HE3.out o
  have f_HE3_w3 := fun w' o (k : Ext w3 w') => frozen_of (k.keep HE3.out) o
  have r_HE3_w3 := Ext.refl w3
  go_wp2_with fail
  have HE4 := Lib.hid (heap_set HE3.out 4 (.int .i64 (n : Int)))
  have u4 := ((Upd.refl [eb] w3).set1 4 (.int .i64 (n : Int)))
  generalize (World.setCell w3 ⟨eb, 4, none⟩ (.int .i64 (n : Int))) = w4 at *
  simp only [List.setIfInBounds_toArray, List.set_cons_zero, List.set_cons_succ] at HE4
  have hbe : eb ∉ l.all := fun hm => by have := hlt _ hm; omega
  have h4 : MemAt w4 l (Fl.retM n 0) := by
    have := h3.keep1 u4 hbe
    rwa [Fl.fresh_gens 1 1 60 40 100 n 600 3] at this
  have X4 := X3.updNew u4 (fun x hx => by rw [List.mem_singleton.1 hx]; exact hb1)
  clear h1 h3 hX x3 c_HE3_w3 f_HE3_w3 r_HE3_w3 x1 X3 u4 HE3
  have c_HE4_w4 := fun w' o (k : Ext w4 w') => k.cellOf HE4.out o
  have f_HE4_w4 := fun w' o (k : Ext w4 w') => frozen_of (k.keep HE4.out) o
  have r_HE4_w4 := Ext.refl w4
  have hbe4 := lt_of_heap HE4.out
  go_wp2_with fail
  go_loopg [6] n (fun k i wr => ∃ j : Nat, i = .int .i64 ((j : Int) + 1) ∧ j + k = n ∧ MemAt wr l (Fl.retM n j) ∧ Upd l.all w4 wr)
  case atStart => exact ⟨0, rfl, by omega, h4, Upd.refl _ _⟩
  case round =>
    obtain ⟨j, rfl, hj, hr, hu⟩ := hrel
    have HEr := Lib.hid (hu.keep HE4.out hbe)
    clear c_HE4_w4 f_HE4_w4 r_HE4_w4
    have c_HEr_wr := fun w' o (k : Ext wr w') => k.cellOf HEr.out o
    have f_HEr_wr := fun w' o (k : Ext wr w') => frozen_of (k.keep HEr.out) o
    have r_HEr_wr := Ext.refl wr
    cases gk with
    | zero =>
      have hjn : j = n := hj
      have b0 : decide ((j : Int) + 1 ≤ n) = false := decide_eq_false (by omega)
      clear hj
      subst hjn
      go_wp2_with fail
      refine wp_region_float1 wr.heap.size (Ext wr) 7 (some 8) (.cells #[.int .i64 0, .int .i64 0, .int .i64 0, .int .i64 0] 44) [0, 1, 2, 3, 4, 5, 6] [] 8 [] Try.mixed (by kernel_rfl) rfl (Makes.one rfl rfl rfl (fun a w => by go_simp) (by kernel_rfl)) (by intro c a d v w h; cases d <;> exact h) (Ext.refl _).drew (fun w ob hh => hh.alloc ob) (fun w hh => hh.size) ?_
      simp only [opsAt, List.filterMap_cons, List.filterMap_nil, List.getElem?_toArray, List.getElem?_cons_zero, List.getElem?_cons_succ]
      (refine HeadsP.val (v := ?_) rfl (fun wv hwv => ?_) ?_; rotate_left; (go_simp; with_reducible rfl); simp only [Act.put, List.setIfInBounds_toArray, List.set_cons_zero, List.set_cons_succ])
      (refine HeadsP.val (v := ?_) rfl (fun wv hwv => ?_) ?_; rotate_left; (go_simp; with_reducible rfl); simp only [Act.put, List.setIfInBounds_toArray, List.set_cons_zero, List.set_cons_succ])
      (refine HeadsP.val (v := ?_) rfl (fun wv hwv => ?_) ?_; rotate_left; (go_simp; with_reducible rfl); simp only [Act.put, List.setIfInBounds_toArray, List.set_cons_zero, List.set_cons_succ])
      (refine HeadsP.val (v := ?_) rfl (fun wv hwv => ?_) ?_; rotate_left; (go_simp; with_reducible rfl); simp only [Act.put, List.setIfInBounds_toArray, List.set_cons_zero, List.set_cons_succ])
      (refine HeadsP.call (v := ?_) rfl (fun wv hwv => ?_) ?_; rotate_left; (go_simp; simp only [GivesUpon.enter]; refine (c_pSlot (Fl.cR j) 0 _ gc (by omega)).mono ?_; rintro e w' ⟨rfl, hh⟩; refine ⟨?_, hwv.trans hh, KeepN.ext hh⟩; with_reducible rfl); simp only [Act.put, List.setIfInBounds_toArray, List.set_cons_zero, List.set_cons_succ])
      (refine HeadsP.call (v := ?_) rfl (fun wv hwv => ?_) ?_; rotate_left; (go_simp; simp only [GivesUpon.enter]; refine (c_peek l (Fl.retM j j) _ _ (hr.ext hwv)).mono ?_; rintro e w' ⟨rfl, hh⟩; refine ⟨?_, hwv.trans hh, KeepN.ext hh⟩; with_reducible rfl); simp only [Act.put, List.setIfInBounds_toArray, List.set_cons_zero, List.set_cons_succ])
      (refine HeadsP.call (v := ?_) rfl (fun wv hwv => ?_) ?_; rotate_left; (go_simp; simp only [GivesUpon.enter]; refine (c_slot _ _ (peek_lt hr _)).mono ?_; rintro e w' ⟨rfl, hh⟩; refine ⟨?_, hwv.trans hh, KeepN.ext hh⟩; with_reducible rfl); simp only [Act.put, List.setIfInBounds_toArray, List.set_cons_zero, List.set_cons_succ])
      refine HeadsP.nil ?_
      refine ChainP.nil ?_
      intro kx w5 hkx HX hS5
      simp only [List.setIfInBounds_toArray, List.set_cons_zero, List.set_cons_succ]
      have hst : (Fl.slotOf ((Fl.retM j j).peek (Fl.pSlot (Fl.cR j) 0))).state = 3 := by
        have := HE.out.state
        rwa [show Fl.pSlot (Fl.cR j) 0 = 7 from by simp [Fl.pSlot, Fl.cR]]
      generalize Fl.slotOf ((Fl.retM j j).peek (Fl.pSlot (Fl.cR j) 0)) = sl at *
      obtain ⟨sa, sb, sc, sd⟩ := sl
      simp only at hst
      subst hst
      have HXh := Lib.hid HX
      have E5 := hS5.keep HEr.out
      have hbr := lt_of_heap HEr.out
      have nex : eb ≠ kx := by omega
      have nxe : kx ≠ eb := by omega
      have HE5 := Lib.hid E5
      have c_HXh_w5 := fun w' o (k : Ext w5 w') => k.cellOf HXh.out o
      have f_HXh_w5 := fun w' o (k : Ext w5 w') => frozen_of (k.keep HXh.out) o
      have r_HXh_w5 := Ext.refl w5
      have c_HE5_w5 := fun w' o (k : Ext w5 w') => k.cellOf HE5.out o
      have f_HE5_w5 := fun w' o (k : Ext w5 w') => frozen_of (k.keep HE5.out) o
      have r_HE5_w5 := Ext.refl w5
      clear c_HEr_wr f_HEr_wr r_HEr_wr HX
      go_wp2_with fail
      have HX6 := Lib.hid (heap_set (heap_set (heap_set (heap_set HXh.out 0 (.int .i64 3)) 1 (.int .i64 sb)) 2 (.int .i64 sc)) 3 (.int .i64 sd))
      have E6 := (heap_far (heap_far (heap_far (heap_far E5 (p := ⟨kx, 0, none⟩) nex (.int .i64 3)) (p := ⟨kx, 1, none⟩) nex (.int .i64 sb)) (p := ⟨kx, 2, none⟩) nex (.int .i64 sc)) (p := ⟨kx, 3, none⟩) nex (.int .i64 sd))
      have u6 := (((((Upd.refl [kx] w5).set1 0 (.int .i64 3)).set1 1 (.int .i64 sb)).set1 2 (.int .i64 sc)).set1 3 (.int .i64 sd))
      generalize (World.setCell (World.setCell (World.setCell (World.setCell w5 ⟨kx, 0, none⟩ (.int .i64 3)) ⟨kx, 1, none⟩ (.int .i64 sb)) ⟨kx, 2, none⟩ (.int .i64 sc)) ⟨kx, 3, none⟩ (.int .i64 sd)) = w6 at *
      simp only [List.setIfInBounds_toArray, List.set_cons_zero, List.set_cons_succ] at HX6
      have hkl : kx ∉ l.all := fun hm => by have := hlt _ hm; omega
      have h6 := (hr.ext hS5).keep1 u6 hkl
      have U6 := (hu.extR hS5).then u6 (fun x hx => by rw [List.mem_singleton.1 hx]; exact Or.inr (by have := hu.size; omega))
      have HE6 := Lib.hid E6
      clear E5 E6 HE5 c_HXh_w5 f_HXh_w5 r_HXh_w5 c_HE5_w5 f_HE5_w5 r_HE5_w5
      have c_HX6_w6 := fun w' o (k : Ext w6 w') => k.cellOf HX6.out o
      have f_HX6_w6 := fun w' o (k : Ext w6 w') => frozen_of (k.keep HX6.out) o
      have r_HX6_w6 := Ext.refl w6
      have c_HE6_w6 := fun w' o (k : Ext w6 w') => k.cellOf HE6.out o
      have f_HE6_w6 := fun w' o (k : Ext w6 w') => frozen_of (k.keep HE6.out) o
      have r_HE6_w6 := Ext.refl w6
      have hq : (j : Int) * 65536 = ((j * 65536 : Nat) : Int) := by omega
      have hvl : j * 65536 < 18446744073709551616 := by omega
      obtain ⟨_, s1, e1, s2, e2⟩ := HE.out
      generalize j * 65536 = hv at *
      have OK := Lib.hid (And.intro s1 (And.intro e1 (And.intro s2 e2)))
      clear s1 e1 s2 e2
      refine (n_make (Fl.cR j) l (Fl.retM j j) 0 2 false w6 gc h6 OK.out.1).mono ?_
      rintro e w7 ⟨rfl, h7, u7⟩
      rw [OK.out.2.1]
      have HE7 := Lib.hid (u7.keep HE6.out hbe)
      have U7 := U6.trans u7
      clear c_HE6_w6 f_HE6_w6 r_HE6_w6 c_HX6_w6 f_HX6_w6 r_HX6_w6
      have c_HE7_w7 := fun w' o (k : Ext w7 w') => k.cellOf HE7.out o
      have f_HE7_w7 := fun w' o (k : Ext w7 w') => frozen_of (k.keep HE7.out) o
      have r_HE7_w7 := Ext.refl w7
      go_wp2_with fail
      refine (n_let (Fl.cR j) l _ 0 hv false w7 gc h7 hvl OK.out.2.2.1).mono ?_
      rintro e w8 ⟨rfl, h8, u8⟩
      rw [OK.out.2.2.2]
      have X8 := X4.updNew (U7.trans u8) hnew
      go_wp2
      go_ret
      exact ⟨rfl, X8⟩
    | succ k =>
      have b0 : decide ((j : Int) + 1 ≤ n) = true := decide_eq_true (by omega)
      have ok := HR.out j (by omega)
      have hw1 : IntKind.i64.wrap ((j : Int) + 1 + 1) = (j : Int) + 1 + 1 := IntWalk.i64_in _ (by omega)
      have hq : ((j : Int) + 1) * 65536 = (((j + 1) * 65536 : Nat) : Int) := by omega
      have hvl : (j + 1) * 65536 < 18446744073709551616 := by omega
      obtain ⟨s1, e1, o1, s2, e2⟩ := ok
      have hM : Fl.retM n (j + 1) = (Fl.Drop.loop (Fl.cR n) 0 200 (Fl.Alloc.loop (Fl.cR n) 0 400 (Fl.retM n j) (Fl.Alloc.new 2 false)).2 (Fl.Drop.new ((j + 1) * 65536) false)).2 := rfl
      generalize (j + 1) * 65536 = hv at *
      have OK := Lib.hid (And.intro s1 (And.intro e1 (And.intro o1 (And.intro s2 e2))))
      have HM := Lib.hid hM
      clear s1 e1 o1 s2 e2 hM
      go_wp2_with fail
      refine (n_make (Fl.cR n) l (Fl.retM n j) 0 2 false wr gc hr OK.out.1).mono ?_
      rintro e w5 ⟨rfl, h5, u5⟩
      rw [OK.out.2.1, OK.out.2.2.1]
      generalize (Fl.Alloc.loop (Fl.cR n) 0 400 (Fl.retM n j) (Fl.Alloc.new 2 false)).1.out.value = q1
      generalize (Fl.Alloc.loop (Fl.cR n) 0 400 (Fl.retM n j) (Fl.Alloc.new 2 false)).1.out.stamp = q2
      have HE5 := Lib.hid (u5.keep HEr.out hbe)
      have hu5 := hu.trans u5
      have c_HE5_w5 := fun w' o (k : Ext w5 w') => k.cellOf HE5.out o
      have f_HE5_w5 := fun w' o (k : Ext w5 w') => frozen_of (k.keep HE5.out) o
      have r_HE5_w5 := Ext.refl w5
      clear c_HEr_wr f_HEr_wr r_HEr_wr
      have a5 := fun o => (Ext.refl w5).alloc o
      go_wp2_with fail
      have X6 := a5 (.cells #[.int .i64 0, .int .u64 (hv : Nat), .int .i64 q1, .int .i64 q2] 34)
      generalize w5.alloc (.cells #[.int .i64 0, .int .u64 (hv : Nat), .int .i64 q1, .int .i64 q2] 34) = w6 at *
      refine (n_let (Fl.cR n) l _ 0 hv false w6 gc (h5.ext X6) hvl OK.out.2.2.2.1).mono ?_
      rintro e w7 ⟨rfl, h7, u7⟩
      rw [OK.out.2.2.2.2]
      have hu7 := (hu5.extR X6).trans u7
      clear a5
      go_wp2_with fail
      go_roundg k
      case measure => omega
      case rel =>
        refine ⟨j + 1, by simp, by omega, ?_, hu7⟩
        rw [HM.out]
        exact h7

end Go.Proofs.Ythblhgappldcjaa
