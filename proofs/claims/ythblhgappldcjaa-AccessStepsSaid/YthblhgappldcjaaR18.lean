/- AccessForged: the walk. -/
import Derived.Test.YthblhgappldcjaaXh
import Derived.Test.YthblhgappldcjaaJa
import Derived.Test.YthblhgappldcjaaWb
import Derived.Test.YthblhgappldcjaaR14
import Derived.Test.YthblhgappldcjaaSb
import Derived.Test.YthblhgappldcjaaVa
import Derived.Deep.CutBlock
import Derived.Deep.DeepCutAuto
import Derived.Deep.OwnRows
import Derived.Deep.Slices
namespace Go.Proofs.Ythblhgappldcjaa
open Go Go.RowKit
set_option linter.unusedVariables false

theorem iand40 (n : Int) : bits .and .i64 n 1099511627775 = n % 1099511627776 := by
  have h127 : (BitVec.ofInt 64 1099511627775).toNat = 2 ^ 40 - 1 := by decide
  have key : (BitVec.ofInt 64 n &&& BitVec.ofInt 64 1099511627775).toNat = (n % ((2 ^ 64 : Nat) : Int)).toNat % 2 ^ 40 := by
    rw [BitVec.toNat_and, BitVec.toNat_ofInt, h127, Nat.and_two_pow_sub_one_eq_mod]
  show IntKind.i64.wrap ((BitVec.ofInt 64 n &&& BitVec.ofInt 64 1099511627775).toNat : Nat) = n % 1099511627776
  rw [key, IntKind.wrap_i64]
  omega
theorem n_value (n : Int) (W : World) : Calls Try.prog 51 #[.int .i64 n] W fun e w' => e = .returned (.int .i64 (n % 1099511627776)) ∧ Ext W w' := by
  have ia := iand40 n
  go_enter Try.func51, Try.ntmps51
  go_wp2
  go_ret
  exact ⟨rfl, Ext.refl _⟩



set_option maxHeartbeats 8000000 in
set_option maxRecDepth 100000 in
theorem w_accessForged (q : Option Addr) (len cap : Nat) (z : Nat → Int) (ka : Int) (h : Nat) (ix vx ox : Int) (own : Bool) (W : World)
    (hq : ∀ i, i < len → ∃ a, q = some a ∧ a.block < W.heap.size ∧ W.cell? (a.add i) = some (.int .i64 (z i))) (hh : h < 18446744073709551616) :
    Calls Try.prog 18 #[.slice q len cap, .agg #[.int .i64 ka, .int .u64 (h : Int), .int .i64 ix, .int .i64 vx, .int .i64 ox], .bool own] W fun e w' => e = .returned (.bool true) ∧ Ext W w' := by
  have hA := heap_new W (.cells #[.int .i64 ka, .int .u64 (h : Int), .int .i64 ix, .int .i64 vx, .int .i64 ox] 74)
  have hXA := (Ext.refl W).alloc (.cells #[.int .i64 ka, .int .u64 (h : Int), .int .i64 ix, .int .i64 vx, .int .i64 ox] 74)
  have fl1 := field_done1
  have fl0 := field_done0
  have HQ := Lib.hid hq
  clear hq
  have gc := goodW4
  go_enter Try.func18, Try.ntmps18
  go_wp2_with fail
  generalize W.alloc (.cells #[.int .i64 ka, .int .u64 (h : Int), .int .i64 ix, .int .i64 vx, .int .i64 ox] 74) = w0 at *
  refine (n_arena 1 8 4 40 _ goodW4).mono ?_
  rintro e w1 ⟨l, rfl, h1, x1, hnew⟩
  have hE := heap_new w1 (.cells #[.int .i64 1, .int .i64 8, .int .i64 4, .int .i64 40, .int .i64 100, .int .i64 600, .int .i64 3, .pointer (some ⟨l.m, 0, none⟩), .int .i64 0] 27)
  have hX := (Ext.refl w1).alloc (.cells #[.int .i64 1, .int .i64 8, .int .i64 4, .int .i64 40, .int .i64 100, .int .i64 600, .int .i64 3, .pointer (some ⟨l.m, 0, none⟩), .int .i64 0] 27)
  have hlt := h1.lt
  go_wp2_with fail
  generalize w1.alloc (.cells #[.int .i64 1, .int .i64 8, .int .i64 4, .int .i64 40, .int .i64 100, .int .i64 600, .int .i64 3, .pointer (some ⟨l.m, 0, none⟩), .int .i64 0] 27) = w2 at *
  have hb1 : W.heap.size ≤ w1.heap.size := by have := hXA.size; have := x1.size; omega
  have hl0 := lt_of_heap hA
  have hba : W.heap.size ∉ l.all := fun hm => by have := hnew _ hm; omega
  have nea : w1.heap.size ≠ W.heap.size := by have := x1.size; omega
  have hbe : w1.heap.size ∉ l.all := fun hm => by have := hlt _ hm; omega
  generalize w1.heap.size = eb at *
  refine (awake10 _).mono ?_
  rintro e w3 ⟨rfl, x3⟩
  have HE3 := Lib.hid (x3.keep hE)
  have h3 := h1.ext (hX.trans x3)
  have HA3 := Lib.hid ((x1.trans (hX.trans x3)).keep hA)
  have X3 := hXA.trans (x1.trans (hX.trans x3))
  have hnewW : ∀ x, x ∈ l.all → W.heap.size ≤ x := fun x hx => by have := hnew x hx; have := hXA.size; omega
  clear hE h1 hX x3 x1 hA hnew
  have hnew := hnewW
  obtain ⟨xb, hxe⟩ : ∃ xb, W.heap.size = xb := ⟨_, rfl⟩
  have hxW : W.heap.size ≤ xb := by omega
  rw [hxe] at HA3 hba nea ⊢
  have c_HE3_w3 := fun w' o (k : Ext w3 w') => k.cellOf HE3.out o
  have f_HE3_w3 := fun w' o (k : Ext w3 w') => frozen_of (k.keep HE3.out) o
  have r_HE3_w3 := Ext.refl w3
  go_upto_block 0 with fail
  go_cut [9, 10] from 25 to 68 (fun i dv wx => ∃ (j : Nat) (σ : Fl.Mem), j ≤ 6 ∧ Fl.Forged h own j σ ∧ MemAt wx l σ ∧ wx.heap[eb]? = some (.cells #[.int .i64 1, .int .i64 8, .int .i64 4, .int .i64 40, .int .i64 100, .int .i64 600, .int .i64 3, .pointer (some ⟨l.m, 0, none⟩), .int .i64 0] 27) ∧ wx.heap[xb]? = some (.cells #[.int .i64 ka, .int .u64 (h : Int), .int .i64 ix, .int .i64 vx, .int .i64 ox] 74) ∧ Ext W wx)
  case first =>
    go_wp2_with fail
    go_loopg [9, 10] (min len 6) (fun kk i dv wr => ∃ (j : Nat) (σ : Fl.Mem), i = .int .i64 (j : Int) ∧ j + kk = min len 6 ∧ Fl.Forged h own j σ ∧ MemAt wr l σ ∧ wr.heap[eb]? = some (.cells #[.int .i64 1, .int .i64 8, .int .i64 4, .int .i64 40, .int .i64 100, .int .i64 600, .int .i64 3, .pointer (some ⟨l.m, 0, none⟩), .int .i64 0] 27) ∧ wr.heap[xb]? = some (.cells #[.int .i64 ka, .int .u64 (h : Int), .int .i64 ix, .int .i64 vx, .int .i64 ox] 74) ∧ Ext W wr)
    case atStart => exact ⟨0, _, rfl, by omega, Fl.Forged.start h own, h3, HE3.out, HA3.out, X3⟩
    case round =>
      clear c_HE3_w3 f_HE3_w3 r_HE3_w3 HE3 h3 X3 HA3
      obtain ⟨j, σ, rfl, hj, hI, hr, hE, hA, Xr⟩ := hrel
      have HI := Lib.hid hI
      have HEr := Lib.hid hE
      have HAr := Lib.hid hA
      clear hE hI hA
      have c_HEr_wr := fun w' o (k : Ext wr w') => k.cellOf HEr.out o
      have f_HEr_wr := fun w' o (k : Ext wr w') => frozen_of (k.keep HEr.out) o
      have r_HEr_wr := Ext.refl wr
      have c_HAr_wr := fun w' o (k : Ext wr w') => k.cellOf HAr.out o
      have f_HAr_wr := fun w' o (k : Ext wr w') => frozen_of (k.keep HAr.out) o
      have r_HAr_wr := Ext.refl wr
      have iw : IntKind.i64.wrap ((j : Int) + 1) = (j : Int) + 1 := IntWalk.i64_in _ (by omega)
      cases gk with
      | zero =>
        have hjm : j = min len 6 := hj
        by_cases hl : j < len
        · have c1 : decide ((j : Int) < len) = true := decide_eq_true (by omega)
          have d1 : decide ((j : Int) < 6) = false := decide_eq_false (by omega)
          go_wp2_with fail
          go_meet
          case rel => exact ⟨j, σ, by omega, HI.out, hr, HEr.out, HAr.out, Xr⟩
        · have c1 : decide ((j : Int) < len) = false := decide_eq_false (by omega)
          go_wp2_with fail
          go_meet
          case rel => exact ⟨j, σ, by omega, HI.out, hr, HEr.out, HAr.out, Xr⟩
      | succ kk =>
        have hj5 : j < len ∧ j < 6 := by omega
        have c1 : decide ((j : Int) < len) = true := decide_eq_true (by omega)
        have d1 : decide ((j : Int) < 6) = true := decide_eq_true (by omega)
        obtain ⟨aa, rfl, hblk, hc2⟩ := HQ.out j hj5.1
        have hk1 : ∀ n, (aa.add n).block < W.heap.size := fun n => by rw [addr_block]; exact hblk
        have q2 := fun w' (u : Ext wr w') => (cell_kept (a := aa.add j) ((Xr.trans u).block (hk1 j))).trans hc2
        have ia := iand15 (z j)
        have hz : 0 ≤ z j % 16 ∧ z j % 16 < 16 := by omega
        have iw1 : IntKind.i64.wrap (1 + z j % 16) = 1 + z j % 16 := IntWalk.i64_in _ (by omega)
        have hsafe := HI.out.make (size := 1 + z j % 16) (o := (z j).tmod 2 == 0) (by omega) (by omega)
        have hlt2 : ∀ x, x ∈ l.all → x < wr.heap.size := hr.lt
        go_wp2_with fail
        refine wp_region_float1 wr.heap.size (Ext wr) 14 (some 10) (.cells #[.int .i64 0, .int .u64 0, .int .i64 0, .int .i64 0] 34) [0, 1, 2, 3, 4, 5, 6, 7, 8, 9, 10, 11, 12] [13] 15 [] Try.mixed (by kernel_rfl) rfl (Makes.one rfl rfl rfl (fun a w => by go_simp) (by kernel_rfl)) (by intro c a d v w h; cases d <;> exact h) (Ext.refl _).drew (fun w ob hh => hh.alloc ob) (fun w hh => hh.size) ?_
        simp only [opsAt, List.filterMap_cons, List.filterMap_nil, List.getElem?_toArray, List.getElem?_cons_zero, List.getElem?_cons_succ]
        (refine HeadsP.val (v := ?_) rfl (fun wv hwv => ?_) ?_; rotate_left; (go_simp; with_reducible rfl); simp only [Act.put, List.setIfInBounds_toArray, List.set_cons_zero, List.set_cons_succ])
        (refine HeadsP.val (v := ?_) rfl (fun wv hwv => ?_) ?_; rotate_left; (go_simp; with_reducible rfl); simp only [Act.put, List.setIfInBounds_toArray, List.set_cons_zero, List.set_cons_succ])
        (refine HeadsP.val (v := ?_) rfl (fun wv hwv => ?_) ?_; rotate_left; (go_simp; with_reducible rfl); simp only [Act.put, List.setIfInBounds_toArray, List.set_cons_zero, List.set_cons_succ])
        (refine HeadsP.val (v := ?_) rfl (fun wv hwv => ?_) ?_; rotate_left; (go_simp; with_reducible rfl); simp only [Act.put, List.setIfInBounds_toArray, List.set_cons_zero, List.set_cons_succ])
        (refine HeadsP.val (v := ?_) rfl (fun wv hwv => ?_) ?_; rotate_left; (go_simp; with_reducible rfl); simp only [Act.put, List.setIfInBounds_toArray, List.set_cons_zero, List.set_cons_succ])
        (refine HeadsP.val (v := ?_) rfl (fun wv hwv => ?_) ?_; rotate_left; (go_simp; with_reducible rfl); simp only [Act.put, List.setIfInBounds_toArray, List.set_cons_zero, List.set_cons_succ])
        (refine HeadsP.val (v := ?_) rfl (fun wv hwv => ?_) ?_; rotate_left; (go_simp; with_reducible rfl); simp only [Act.put, List.setIfInBounds_toArray, List.set_cons_zero, List.set_cons_succ])
        (refine HeadsP.val (v := ?_) rfl (fun wv hwv => ?_) ?_; rotate_left; (go_simp; with_reducible rfl); simp only [Act.put, List.setIfInBounds_toArray, List.set_cons_zero, List.set_cons_succ])
        (refine HeadsP.val (v := ?_) rfl (fun wv hwv => ?_) ?_; rotate_left; (go_simp; with_reducible rfl); simp only [Act.put, List.setIfInBounds_toArray, List.set_cons_zero, List.set_cons_succ])
        (refine HeadsP.val (v := ?_) rfl (fun wv hwv => ?_) ?_; rotate_left; (go_simp; with_reducible rfl); simp only [Act.put, List.setIfInBounds_toArray, List.set_cons_zero, List.set_cons_succ])
        (refine HeadsP.val (v := ?_) rfl (fun wv hwv => ?_) ?_; rotate_left; (go_simp; with_reducible rfl); simp only [Act.put, List.setIfInBounds_toArray, List.set_cons_zero, List.set_cons_succ])
        (refine HeadsP.val (v := ?_) rfl (fun wv hwv => ?_) ?_; rotate_left; (go_simp; with_reducible rfl); simp only [Act.put, List.setIfInBounds_toArray, List.set_cons_zero, List.set_cons_succ])
        (refine HeadsP.val (v := ?_) rfl (fun wv hwv => ?_) ?_; rotate_left; (go_simp; with_reducible rfl); simp only [Act.put, List.setIfInBounds_toArray, List.set_cons_zero, List.set_cons_succ])
        refine HeadsP.nil ?_
        (refine ChainP.call (fun w => MemAt w l (Fl.Alloc.loop (Fl.cW 4) 0 400 σ (Fl.Alloc.new (1 + z j % 16) ((z j).tmod 2 == 0))).2 ∧ Upd l.all wr w) (v := ?_) rfl (fun w ob hh => ⟨hh.1.ext ((Ext.refl _).alloc ob), hh.2.alloc ob⟩) (fun w hh => hh.2.size) (fun wv hwv => ?_) ?_; rotate_left; (go_simp; simp only [GivesUpon.enter]; refine (n_make (Fl.cW 4) l σ 0 (1 + z j % 16) ((z j).tmod 2 == 0) _ gc (hr.ext hwv) hsafe.1).mono ?_; rintro e w' ⟨rfl, hh1, hh2⟩; refine ⟨?_, ⟨hh1, (hwv.upd _).trans hh2⟩, KeepN.upd hh2 hlt2⟩; with_reducible rfl); simp only [Act.put, List.setIfInBounds_toArray, List.set_cons_zero, List.set_cons_succ])
        refine ChainP.nil ?_
        intro kx w5 hkx HX hS5
        simp only [List.setIfInBounds_toArray, List.set_cons_zero, List.set_cons_succ]
        obtain ⟨h5, u5⟩ := hS5
        have hnext := hsafe.2
        clear hsafe
        generalize Fl.Alloc.loop (Fl.cW 4) 0 400 σ (Fl.Alloc.new (1 + z j % 16) ((z j).tmod 2 == 0)) = r at *
        obtain ⟨a', σ'⟩ := r
        simp only at hnext h5
        have HN := Lib.hid hnext
        have X5 := Xr.updNew u5 hnew
        have HE5 := Lib.hid (u5.keep HEr.out hbe)
        have HX5 := Lib.hid HX
        have hkW : W.heap.size ≤ kx := by have := Xr.size; omega
        have hkl : kx ∉ l.all := fun hm => by have := hlt2 _ hm; omega
        have nek : eb ≠ kx := by have := lt_of_heap HEr.out; omega
        have HA5 := Lib.hid (u5.keep HAr.out hba)
        have nak : xb ≠ kx := by have := lt_of_heap HAr.out; omega
        clear q2
        have q2 := fun w' (u : Ext w5 w') => (cell_kept (a := aa.add j) ((X5.trans u).block (hk1 j))).trans hc2
        clear hnext HX c_HEr_wr f_HEr_wr r_HEr_wr c_HAr_wr f_HAr_wr r_HAr_wr
        have c_HX5_w5 := fun w' o (k : Ext w5 w') => k.cellOf HX5.out o
        have f_HX5_w5 := fun w' o (k : Ext w5 w') => frozen_of (k.keep HX5.out) o
        have r_HX5_w5 := Ext.refl w5
        by_cases e0 : a'.out.e = 0
        · by_cases e1 : a'.out.handle = h
          · by_cases e2 : ((z j).tmod 2 == 0) = own
            · rw [e0, e1]
              have u6 := ((((Upd.refl [kx] w5).set1 0 (.int .i64 0)).set1 1 (.int .u64 (h : Int))).set1 2 (.int .i64 a'.out.value)).set1 3 (.int .i64 a'.out.stamp)
              have q6 := (cell_kept (a := aa.add j) (u6.block _ (Nat.lt_of_lt_of_le (hk1 j) X5.size) (by simp only [List.mem_singleton]; have := hk1 j; omega))).trans (q2 w5 (Ext.refl w5))
              have p6 := (cell_of (u6.keep HA5.out (by simp only [List.mem_singleton]; exact nak)) 1).trans (show _ = some (Value.int .u64 (h : Int)) from rfl)
              go_wp2_with fail
              go_ret
              exact ⟨rfl, X5.updNew u6 (by intro x hx; rw [List.mem_singleton.1 hx]; exact hkW)⟩
            · rw [e0, e1]
              have g2 : (((z j).tmod 2 == 0) == own) = false := beq_eq_false_iff_ne.2 e2
              have u6 := ((((Upd.refl [kx] w5).set1 0 (.int .i64 0)).set1 1 (.int .u64 (h : Int))).set1 2 (.int .i64 a'.out.value)).set1 3 (.int .i64 a'.out.stamp)
              have q6 := (cell_kept (a := aa.add j) (u6.block _ (Nat.lt_of_lt_of_le (hk1 j) X5.size) (by simp only [List.mem_singleton]; have := hk1 j; omega))).trans (q2 w5 (Ext.refl w5))
              have p6 := (cell_of (u6.keep HA5.out (by simp only [List.mem_singleton]; exact nak)) 1).trans (show _ = some (Value.int .u64 (h : Int)) from rfl)
              go_wp2_with fail
              have HE6 := Lib.hid (u6.keep HE5.out (by simp only [List.mem_singleton]; exact nek))
              have HA6 := Lib.hid (u6.keep HA5.out (by simp only [List.mem_singleton]; exact nak))
              have X6 := X5.updNew u6 (by intro x hx; rw [List.mem_singleton.1 hx]; exact hkW)
              have h6 := h5.keep u6 (by intro x hx; rw [List.mem_singleton.1 hx]; refine ⟨?_, ?_, ?_⟩ <;> (intro hm; apply hkl; rw [hm]; simp [Loc.all]))
              generalize World.setCell (World.setCell (World.setCell (World.setCell w5 ⟨kx, 0, none⟩ (.int .i64 0)) ⟨kx, 1, none⟩ (.int .u64 (h : Int))) ⟨kx, 2, none⟩ (.int .i64 a'.out.value)) ⟨kx, 3, none⟩ (.int .i64 a'.out.stamp) = w6 at *
              go_roundg kk
              case measure => omega
              case rel => exact ⟨j + 1, σ', by simp, by omega, HN.out (by intro hc; first | exact e2 hc.2.2 | exact e1 hc.2.1 | exact e0 hc.1), h6, HE6.out, HA6.out, X6⟩
          · rw [e0]
            have g1 : ((a'.out.handle : Int) == (h : Int)) = false := beq_eq_false_iff_ne.2 (by omega)
            have u6 := ((((Upd.refl [kx] w5).set1 0 (.int .i64 0)).set1 1 (.int .u64 (a'.out.handle : Int))).set1 2 (.int .i64 a'.out.value)).set1 3 (.int .i64 a'.out.stamp)
            have q6 := (cell_kept (a := aa.add j) (u6.block _ (Nat.lt_of_lt_of_le (hk1 j) X5.size) (by simp only [List.mem_singleton]; have := hk1 j; omega))).trans (q2 w5 (Ext.refl w5))
            have p6 := (cell_of (u6.keep HA5.out (by simp only [List.mem_singleton]; exact nak)) 1).trans (show _ = some (Value.int .u64 (h : Int)) from rfl)
            go_wp2_with fail
            have HE6 := Lib.hid (u6.keep HE5.out (by simp only [List.mem_singleton]; exact nek))
            have HA6 := Lib.hid (u6.keep HA5.out (by simp only [List.mem_singleton]; exact nak))
            have X6 := X5.updNew u6 (by intro x hx; rw [List.mem_singleton.1 hx]; exact hkW)
            have h6 := h5.keep u6 (by intro x hx; rw [List.mem_singleton.1 hx]; refine ⟨?_, ?_, ?_⟩ <;> (intro hm; apply hkl; rw [hm]; simp [Loc.all]))
            generalize World.setCell (World.setCell (World.setCell (World.setCell w5 ⟨kx, 0, none⟩ (.int .i64 0)) ⟨kx, 1, none⟩ (.int .u64 (a'.out.handle : Int))) ⟨kx, 2, none⟩ (.int .i64 a'.out.value)) ⟨kx, 3, none⟩ (.int .i64 a'.out.stamp) = w6 at *
            go_roundg kk
            case measure => omega
            case rel => exact ⟨j + 1, σ', by simp, by omega, HN.out (by intro hc; first | exact e2 hc.2.2 | exact e1 hc.2.1 | exact e0 hc.1), h6, HE6.out, HA6.out, X6⟩
        · have g0 : (a'.out.e == 0) = false := beq_eq_false_iff_ne.2 e0
          have u6 := ((((Upd.refl [kx] w5).set1 0 (.int .i64 a'.out.e)).set1 1 (.int .u64 (a'.out.handle : Int))).set1 2 (.int .i64 a'.out.value)).set1 3 (.int .i64 a'.out.stamp)
          have q6 := (cell_kept (a := aa.add j) (u6.block _ (Nat.lt_of_lt_of_le (hk1 j) X5.size) (by simp only [List.mem_singleton]; have := hk1 j; omega))).trans (q2 w5 (Ext.refl w5))
          have p6 := (cell_of (u6.keep HA5.out (by simp only [List.mem_singleton]; exact nak)) 1).trans (show _ = some (Value.int .u64 (h : Int)) from rfl)
          go_wp2_with fail
          have HE6 := Lib.hid (u6.keep HE5.out (by simp only [List.mem_singleton]; exact nek))
          have HA6 := Lib.hid (u6.keep HA5.out (by simp only [List.mem_singleton]; exact nak))
          have X6 := X5.updNew u6 (by intro x hx; rw [List.mem_singleton.1 hx]; exact hkW)
          have h6 := h5.keep u6 (by intro x hx; rw [List.mem_singleton.1 hx]; refine ⟨?_, ?_, ?_⟩ <;> (intro hm; apply hkl; rw [hm]; simp [Loc.all]))
          generalize World.setCell (World.setCell (World.setCell (World.setCell w5 ⟨kx, 0, none⟩ (.int .i64 a'.out.e)) ⟨kx, 1, none⟩ (.int .u64 (a'.out.handle : Int))) ⟨kx, 2, none⟩ (.int .i64 a'.out.value)) ⟨kx, 3, none⟩ (.int .i64 a'.out.stamp) = w6 at *
          go_roundg kk
          case measure => omega
          case rel => exact ⟨j + 1, σ', by simp, by omega, HN.out (by intro hc; first | exact e2 hc.2.2 | exact e1 hc.2.1 | exact e0 hc.1), h6, HE6.out, HA6.out, X6⟩
  case rest =>
    obtain ⟨j, σ, hj8, hI, hr, hE, hA, Xc⟩ := hcut

    have HI := Lib.hid hI
    have HEc := Lib.hid hE
    have HAc := Lib.hid hA
    clear hE hI hA c_HE3_w3 f_HE3_w3 r_HE3_w3 HE3 h3 X3 HA3
    have hst := HI.out.steps
    obtain ⟨n, hn⟩ : ∃ n, n = σ.w.length := ⟨_, rfl⟩
    have hnn := hr.hn
    rw [← hn] at hnn
    have HNL := Lib.hid hn
    clear hn
    have hkm : ∀ w : World, (Instr.makeSlice 49 (.int .i64 (n : Int)) (.int .i64 (n : Int))).run Try.prog w = .ok (.slice (some ⟨w.heap.size, 0, none⟩) n n) (w.alloc (.cells ((Fl.part σ n 0).map u64v).toArray 32)) := fun w => by
      rw [Fl.part_zero, ← made_u64]; exact run_make_row' (P := Try.prog) 49 32 (.int .u64 0) 8 (by kernel_rfl) (by kernel_rfl) rfl .i64 .i64 n (by omega) (by omega) w
    have c_HEc_wc := fun w' o (k : Ext wc w') => k.cellOf HEc.out o
    have f_HEc_wc := fun w' o (k : Ext wc w') => frozen_of (k.keep HEc.out) o
    have r_HEc_wc := Ext.refl wc
    go_wp2_with fail
    refine (c_mlen l σ _ hr).mono ?_
    rintro e w4 ⟨rfl, x4⟩
    rw [← HNL.out]
    go_wp2_with fail
    have hS := heap_new w4 (.cells ((Fl.part σ n 0).map u64v).toArray 32)
    have xS := (Ext.refl w4).alloc (.cells ((Fl.part σ n 0).map u64v).toArray 32)
    have hr5 := (hr.ext x4).ext xS
    have HE5 := Lib.hid ((x4.trans xS).keep HEc.out)
    have HA5 := Lib.hid ((x4.trans xS).keep HAc.out)
    have zA : xb < w4.heap.size := Nat.lt_of_lt_of_le (lt_of_heap HAc.out) x4.size
    have X5 := Xc.trans (x4.trans xS)
    have zS : eb < w4.heap.size := Nat.lt_of_lt_of_le (lt_of_heap HEc.out) x4.size
    have zW : W.heap.size ≤ w4.heap.size := (Xc.trans x4).size
    have zl : ∀ x, x ∈ l.all → x < w4.heap.size := (hr.ext x4).lt
    have HS5 := Lib.hid hS
    clear hS xS x4 hr HEc HAc c_HEc_wc f_HEc_wc r_HEc_wc Xc
    generalize w4.alloc (.cells ((Fl.part σ n 0).map u64v).toArray 32) = w5 at *
    have hsl : w4.heap.size ∉ l.all := fun hm => by have := zl _ hm; omega
    have nes : eb ≠ w4.heap.size := by omega
    have nas : xb ≠ w4.heap.size := by omega
    generalize w4.heap.size = sb at *
    go_loopg [12] n (fun kk i wr => ∃ j : Nat, i = .int .i64 (j : Int) ∧ j + kk = n ∧ MemAt wr l σ ∧ wr.heap[eb]? = some (.cells #[.int .i64 1, .int .i64 8, .int .i64 4, .int .i64 40, .int .i64 100, .int .i64 600, .int .i64 3, .pointer (some ⟨l.m, 0, none⟩), .int .i64 0] 27) ∧ wr.heap[sb]? = some (.cells ((Fl.part σ n j).map u64v).toArray 32 (0, 0)) ∧ wr.heap[xb]? = some (.cells #[.int .i64 ka, .int .u64 (h : Int), .int .i64 ix, .int .i64 vx, .int .i64 ox] 74) ∧ Ext W wr)
    case atStart => exact ⟨0, rfl, by omega, hr5, HE5.out, HS5.out, HA5.out, X5⟩
    case round =>
      clear hr5 HE5 HS5 X5 HA5
      obtain ⟨j, rfl, hj, hr, hE, hS, hA, Xr⟩ := hrel
      have HAr := Lib.hid hA
      clear hA
      have HEr := Lib.hid hE
      have HSr := Lib.hid hS
      clear hE hS
      have c_HEr_wr := fun w' o (k : Ext wr w') => k.cellOf HEr.out o
      have f_HEr_wr := fun w' o (k : Ext wr w') => frozen_of (k.keep HEr.out) o
      have r_HEr_wr := Ext.refl wr
      have iw : IntKind.i64.wrap ((j : Int) + 1) = (j : Int) + 1 := IntWalk.i64_in _ (by omega)
      cases gk with
      | succ kk =>
        have hjn : j < n := by omega
        have hji : (j : Int) < (n : Int) := by omega
        have b0 : decide ((j : Int) < (n : Int)) = true := decide_eq_true hji
        go_wp2_with fail
        refine (c_peek l σ (j : Int) _ hr).mono ?_
        rintro e w6 ⟨rfl, x6⟩
        have HE6 := Lib.hid (x6.keep HEr.out)
        have HS6 := Lib.hid (x6.keep HSr.out)
        have cS := fun w' (u : Ext w6 w') => part_cell (σ := σ) (i := j) HS6.out hjn u
        have fS := fun w' (u : Ext w6 w') => frozen_of (u.keep HS6.out) j
        have r6 := Ext.refl w6
        clear c_HEr_wr f_HEr_wr r_HEr_wr
        go_wp2_with fail
        have HS7 := Lib.hid (heap_set HS6.out j (.int .u64 ((σ.peek (j : Int) : Nat) : Int)))
        have HA7 := Lib.hid (heap_far (x6.keep HAr.out) (p := ⟨sb, j, none⟩) nas (.int .u64 ((σ.peek (j : Int) : Nat) : Int)))
        have HE7 := Lib.hid (heap_far HE6.out (p := ⟨sb, j, none⟩) nes (.int .u64 ((σ.peek (j : Int) : Nat) : Int)))
        have u7 := (Upd.refl [sb] w6).set1 j (.int .u64 ((σ.peek (j : Int) : Nat) : Int))
        rw [part_sets] at HS7
        have X7 := (Xr.trans x6).updNew u7 (by intro x hx; rw [List.mem_singleton.1 hx]; exact zW)
        have h7 := (hr.ext x6).keep1 u7 hsl
        generalize World.setCell w6 ⟨sb, j, none⟩ (.int .u64 ((σ.peek (j : Int) : Nat) : Int)) = w7 at *
        go_roundg kk
        case measure => omega
        case rel => exact ⟨j + 1, by simp, by omega, h7, HE7.out, HS7.out, HA7.out, X7⟩
      | zero =>
        have hjn : j = n := hj
        have b0 : decide ((j : Int) < (n : Int)) = false := decide_eq_false (by omega)
        subst hjn
        have c_HAr_wr := fun w' o (k : Ext wr w') => k.cellOf HAr.out o
        have f_HAr_wr := fun w' o (k : Ext wr w') => frozen_of (k.keep HAr.out) o
        have r_HAr_wr := Ext.refl wr
        go_wp2_with fail
        refine wp_region_plan (Ext wr) [] [0, 1, 2, 3, 4, 5, 6, 7, 8, 9, 10, 11, 12] 13 [14, 15, 16, 17] Try.mixed (by kernel_rfl) (by intro c a d v w h; cases d <;> exact h) (Ext.refl _).drew ?_
        simp only [opsAt, List.filterMap_cons, List.filterMap_nil, List.getElem?_toArray, List.getElem?_cons_zero, List.getElem?_cons_succ]
        refine Firsts.nil ?_
        (refine Heads.val (v := ?_) rfl (fun wv hwv => ?_) ?_; rotate_left; (go_simp; with_reducible rfl); simp only [Act.put, List.setIfInBounds_toArray, List.set_cons_zero, List.set_cons_succ])
        (refine Heads.val (v := ?_) rfl (fun wv hwv => ?_) ?_; rotate_left; (go_simp; with_reducible rfl); simp only [Act.put, List.setIfInBounds_toArray, List.set_cons_zero, List.set_cons_succ])
        (refine Heads.val (v := ?_) rfl (fun wv hwv => ?_) ?_; rotate_left; (go_simp; with_reducible rfl); simp only [Act.put, List.setIfInBounds_toArray, List.set_cons_zero, List.set_cons_succ])
        (refine Heads.val (v := ?_) rfl (fun wv hwv => ?_) ?_; rotate_left; (go_simp; with_reducible rfl); simp only [Act.put, List.setIfInBounds_toArray, List.set_cons_zero, List.set_cons_succ])
        (refine Heads.val (v := ?_) rfl (fun wv hwv => ?_) ?_; rotate_left; (go_simp; with_reducible rfl); simp only [Act.put, List.setIfInBounds_toArray, List.set_cons_zero, List.set_cons_succ])
        (refine Heads.val (v := ?_) rfl (fun wv hwv => ?_) ?_; rotate_left; (go_simp; with_reducible rfl); simp only [Act.put, List.setIfInBounds_toArray, List.set_cons_zero, List.set_cons_succ])
        (refine Heads.val (v := ?_) rfl (fun wv hwv => ?_) ?_; rotate_left; (go_simp; with_reducible rfl); simp only [Act.put, List.setIfInBounds_toArray, List.set_cons_zero, List.set_cons_succ])
        (refine Heads.val (v := ?_) rfl (fun wv hwv => ?_) ?_; rotate_left; (go_simp; with_reducible rfl); simp only [Act.put, List.setIfInBounds_toArray, List.set_cons_zero, List.set_cons_succ])
        (refine Heads.call (v := ?_) rfl (fun wv hwv => ?_) ?_; rotate_left; (go_simp; simp only [GivesUpon.enter]; refine (n_value _ _).mono ?_; rintro e w' ⟨rfl, hh⟩; refine ⟨?_, hwv.trans hh⟩; with_reducible rfl); simp only [Act.put, List.setIfInBounds_toArray, List.set_cons_zero, List.set_cons_succ])
        (refine Heads.val (v := ?_) rfl (fun wv hwv => ?_) ?_; rotate_left; (go_simp; with_reducible rfl); simp only [Act.put, List.setIfInBounds_toArray, List.set_cons_zero, List.set_cons_succ])
        (refine Heads.val (v := ?_) rfl (fun wv hwv => ?_) ?_; rotate_left; (go_simp; with_reducible rfl); simp only [Act.put, List.setIfInBounds_toArray, List.set_cons_zero, List.set_cons_succ])
        (refine Heads.call (v := ?_) rfl (fun wv hwv => ?_) ?_; rotate_left; (go_simp; simp only [GivesUpon.enter]; refine (n_value _ _).mono ?_; rintro e w' ⟨rfl, hh⟩; refine ⟨?_, hwv.trans hh⟩; with_reducible rfl); simp only [Act.put, List.setIfInBounds_toArray, List.set_cons_zero, List.set_cons_succ])
        (refine Heads.val (v := ?_) rfl (fun wv hwv => ?_) ?_; rotate_left; (go_simp; with_reducible rfl); simp only [Act.put, List.setIfInBounds_toArray, List.set_cons_zero, List.set_cons_succ])
        refine Heads.nil ?_
        intro w6 hw6
        go_wp2_with fail
        generalize wrap64 (1 + (wrap64 (ka.tmod 3 + 3)).tmod 3) = K at *
        have u7 := (((Upd.refl [xb] w6).set1 0 (.int .i64 K)).set1 3 (.int .i64 (vx % 1099511627776))).set1 4 (.int .i64 (ox % 1099511627776))
        have HE7 := Lib.hid (u7.keep (hw6.keep HEr.out) (by simp only [List.mem_singleton]; exact nea))
        have HS7 := Lib.hid (u7.keep (hw6.keep HSr.out) (by simp only [List.mem_singleton]; exact nas.symm))
        have h7 := (hr.ext hw6).keep1 u7 hba
        have X7 := (Xr.trans hw6).updNew u7 (by intro x hx; rw [List.mem_singleton.1 hx]; exact hxW)
        generalize World.setCell (World.setCell (World.setCell w6 ⟨xb, 0, none⟩ (.int .i64 K)) ⟨xb, 3, none⟩ (.int .i64 (vx % 1099511627776))) ⟨xb, 4, none⟩ (.int .i64 (ox % 1099511627776)) = w7 at *
        generalize vx % 1099511627776 = V at *
        generalize ox % 1099511627776 = O at *
        have hI' : Fl.Forged (⟨K, h, ix, V, O⟩ : Fl.Want).handle own _ σ := HI.out
        obtain ⟨hd1, hd2, hd3⟩ := hI'.access
        refine (n_do (Fl.cW 4) l σ 0 ⟨K, h, ix, V, O⟩ own _ gc h7 hh (by omega)).mono ?_
        rintro e w8 ⟨rfl, h8, u8⟩
        rw [hd1, hd2]
        have HE8 := Lib.hid (u8.keep HE7.out hbe)
        have HS8 := Lib.hid (u8.keep HS7.out hsl)
        have X8 := X7.updNew u8 hnew
        clear hd1 hd2
        generalize (Fl.Access.loop (Fl.cW 4) 0 200 σ (Fl.Access.new ⟨K, h, ix, V, O⟩ own)) = r at *
        obtain ⟨d', σ2⟩ := r
        simp only at h8 hd3
        have HP := Lib.hid hd3
        clear hd3 c_HEr_wr f_HEr_wr r_HEr_wr c_HAr_wr f_HAr_wr r_HAr_wr HEr HSr HAr hr Xr h7 X7 HE7 HS7
        go_wp2_with fail
        have hD := heap_new w8 (.cells #[.int .i64 3, .int .u64 (d'.out.handle : Nat), .int .i64 0, .int .i64 d'.out.stamp] 34)
        have xD := (Ext.refl w8).alloc (.cells #[.int .i64 3, .int .u64 (d'.out.handle : Nat), .int .i64 0, .int .i64 d'.out.stamp] 34)
        have HD9 := Lib.hid hD
        have HE9 := Lib.hid (xD.keep HE8.out)
        have HS9 := Lib.hid (xD.keep HS8.out)
        have h9 := h8.ext xD
        have X9 := X8.trans xD
        clear hD xD
        generalize w8.alloc (.cells #[.int .i64 3, .int .u64 (d'.out.handle : Nat), .int .i64 0, .int .i64 d'.out.stamp] 34) = w9 at *
        generalize w8.heap.size = db at *
        go_loopg [14] j (fun kk i wx => ∃ k : Nat, i = .int .i64 (k : Int) ∧ k + kk = j ∧ MemAt wx l σ2 ∧ wx.heap[eb]? = some (.cells #[.int .i64 1, .int .i64 8, .int .i64 4, .int .i64 40, .int .i64 100, .int .i64 600, .int .i64 3, .pointer (some ⟨l.m, 0, none⟩), .int .i64 0] 27) ∧ wx.heap[sb]? = some (.cells ((Fl.part σ j j).map u64v).toArray 32 (0, 0)) ∧ wx.heap[db]? = some (.cells #[.int .i64 3, .int .u64 (d'.out.handle : Nat), .int .i64 0, .int .i64 d'.out.stamp] 34) ∧ Ext W wx)
        case atStart => exact ⟨0, rfl, by omega, h9, HE9.out, HS9.out, HD9.out, X9⟩
        case round =>
          clear h9 HE9 HS9 X9 HD9
          obtain ⟨k, rfl, hk, hr, hE, hS, hD, Xr⟩ := hrel
          have HEr := Lib.hid hE
          have HSr := Lib.hid hS
          have HDr := Lib.hid hD
          clear hE hS hD
          have iw : IntKind.i64.wrap ((k : Int) + 1) = (k : Int) + 1 := IntWalk.i64_in _ (by omega)
          cases gk with
          | zero =>
            have hkj : k = j := hk
            have b0 : decide ((k : Int) < (j : Int)) = false := decide_eq_false (by omega)
            have c_HDr_wr := fun w' o (k : Ext wr w') => k.cellOf HDr.out o
            have f_HDr_wr := fun w' o (k : Ext wr w') => frozen_of (k.keep HDr.out) o
            have r_HDr_wr := Ext.refl wr
            go_wp2
            go_ret
            exact ⟨rfl, Xr⟩
          | succ kk =>
            have hkj : k < j := by omega
            have hki : (k : Int) < (j : Int) := by omega
            have b0 : decide ((k : Int) < (j : Int)) = true := decide_eq_true hki
            have c_HEr_wr := fun w' o (k : Ext wr w') => k.cellOf HEr.out o
            have f_HEr_wr := fun w' o (k : Ext wr w') => frozen_of (k.keep HEr.out) o
            have r_HEr_wr := Ext.refl wr
            have cS := fun w' (u : Ext wr w') => part_full (σ := σ) HSr.out hkj u
            go_wp2_with fail
            refine wp_region_plan (Ext wr) [] [0, 1, 2, 3, 4, 5, 6, 7] 8 [] Try.mixed (by kernel_rfl) (by intro c a d v w h; cases d <;> exact h) (Ext.refl _).drew ?_
            simp only [opsAt, List.filterMap_cons, List.filterMap_nil, List.getElem?_toArray, List.getElem?_cons_zero, List.getElem?_cons_succ]
            refine Firsts.nil ?_
            (refine Heads.val (v := ?_) rfl (fun wv hwv => ?_) ?_; rotate_left; (go_simp; with_reducible rfl); simp only [Act.put, List.setIfInBounds_toArray, List.set_cons_zero, List.set_cons_succ])
            (refine Heads.val (v := ?_) rfl (fun wv hwv => ?_) ?_; rotate_left; (go_simp; with_reducible rfl); simp only [Act.put, List.setIfInBounds_toArray, List.set_cons_zero, List.set_cons_succ])
            (refine Heads.val (v := ?_) rfl (fun wv hwv => ?_) ?_; rotate_left; (go_simp; with_reducible rfl); simp only [Act.put, List.setIfInBounds_toArray, List.set_cons_zero, List.set_cons_succ])
            (refine Heads.call (v := ?_) rfl (fun wv hwv => ?_) ?_; rotate_left; (go_simp; simp only [GivesUpon.enter]; refine (v_peek l σ2 (k : Int) (σ.peek (k : Int)) _ (HP.out k) (hr.ext hwv)).mono ?_; rintro e w' ⟨rfl, hh⟩; refine ⟨?_, hwv.trans hh⟩; with_reducible rfl); simp only [Act.put, List.setIfInBounds_toArray, List.set_cons_zero, List.set_cons_succ])
            (refine Heads.val (v := ?_) rfl (fun wv hwv => ?_) ?_; rotate_left; (go_simp; with_reducible rfl); simp only [Act.put, List.setIfInBounds_toArray, List.set_cons_zero, List.set_cons_succ])
            (refine Heads.val (v := ?_) rfl (fun wv hwv => ?_) ?_; rotate_left; (go_simp; with_reducible rfl); simp only [Act.put, List.setIfInBounds_toArray, List.set_cons_zero, List.set_cons_succ])
            (refine Heads.val (v := ?_) rfl (fun wv hwv => ?_) ?_; rotate_left; (go_simp; with_reducible rfl); simp only [Act.put, List.setIfInBounds_toArray, List.set_cons_zero, List.set_cons_succ])
            (refine Heads.val (v := ?_) rfl (fun wv hwv => ?_) ?_; rotate_left; (go_simp; with_reducible rfl); simp only [Act.put, List.setIfInBounds_toArray, List.set_cons_zero, List.set_cons_succ])
            refine Heads.nil ?_
            intro w8 hw8
            go_wp2_with fail
            go_roundg kk
            case measure => omega
            case rel => exact ⟨k + 1, by simp, by omega, hr.ext hw8, hw8.keep HEr.out, hw8.keep HSr.out, hw8.keep HDr.out, Xr.trans hw8⟩

end Go.Proofs.Ythblhgappldcjaa
