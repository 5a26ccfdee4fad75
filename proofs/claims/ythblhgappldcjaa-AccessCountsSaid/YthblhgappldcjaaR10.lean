/- AccessCounts: the walk. -/
import Derived.Test.YthblhgappldcjaaXh
import Derived.Test.YthblhgappldcjaaWb
import Derived.Test.YthblhgappldcjaaSb
import Derived.Test.YthblhgappldcjaaVa
import Derived.Deep.CutBlock
import Derived.Deep.DeepCutAuto
namespace Go.Proofs.Ythblhgappldcjaa
open Go Go.RowKit
set_option linter.unusedVariables false

theorem at4_at4 {α : Type} (f : Nat → α) (k : Nat) (v u : α) : Fl.at4 (Fl.at4 f k v) k u = Fl.at4 f k u := by
  funext j; by_cases h : j = k
  · rw [h, Fl.at4_same, Fl.at4_same]
  · rw [Fl.at4_other h, Fl.at4_other h, Fl.at4_other h]

theorem at4_self {α : Type} (f : Nat → α) (k : Nat) : Fl.at4 f k (f k) = f := by
  funext j; by_cases h : j = k
  · rw [h, Fl.at4_same]
  · rw [Fl.at4_other h]




set_option maxHeartbeats 8000000 in
set_option maxRecDepth 100000 in
theorem w_accessCounts (many : Int) (q : Option Addr) (len cap : Nat) (z : Nat → Int) (W : World) (hq : ∀ i, i < len → ∃ a, q = some a ∧ a.block < W.heap.size ∧ W.cell? (a.add i) = some (.int .i64 (z i))) :
    Calls Try.prog 10 #[.int .i64 many, .slice q len cap] W fun e w' => e = .returned (.bool true) ∧ Ext W w' := by
  have fl1 := field_done1
  have fl0 := field_done0
  have fl2 := field_d2
  have HQ := Lib.hid hq
  clear hq
  have gc := goodD4
  go_enter Try.func10, Try.ntmps10
  go_wp2_with fail
  refine (n_arena 4 4 2 20 _ goodD4).mono ?_
  rintro e w1 ⟨l, rfl, h1, x1, hnew⟩
  have hE := heap_new w1 (.cells #[.int .i64 4, .int .i64 4, .int .i64 2, .int .i64 20, .int .i64 100, .int .i64 600, .int .i64 3, .pointer (some ⟨l.m, 0, none⟩), .int .i64 0] 27)
  have hX := (Ext.refl w1).alloc (.cells #[.int .i64 4, .int .i64 4, .int .i64 2, .int .i64 20, .int .i64 100, .int .i64 600, .int .i64 3, .pointer (some ⟨l.m, 0, none⟩), .int .i64 0] 27)
  have hlt := h1.lt
  go_wp2_with fail
  generalize w1.alloc (.cells #[.int .i64 4, .int .i64 4, .int .i64 2, .int .i64 20, .int .i64 100, .int .i64 600, .int .i64 3, .pointer (some ⟨l.m, 0, none⟩), .int .i64 0] 27) = w2 at *
  have hb1 : W.heap.size ≤ w1.heap.size := x1.size
  have hbe : w1.heap.size ∉ l.all := fun hm => by have := hlt _ hm; omega
  generalize w1.heap.size = eb at *
  refine (awake10 _).mono ?_
  rintro e w3 ⟨rfl, x3⟩
  have HE3 := Lib.hid (x3.keep hE)
  have h3 := h1.ext (hX.trans x3)
  have X3 := x1.trans (hX.trans x3)
  clear hE h1 hX x3 x1
  have c_HE3_w3 := fun w' o (k : Ext w3 w') => k.cellOf HE3.out o
  have f_HE3_w3 := fun w' o (k : Ext w3 w') => frozen_of (k.keep HE3.out) o
  have r_HE3_w3 := Ext.refl w3
  go_wp2_with fail
  refine (n_make Fl.cD l (Fl.fresh Fl.cD) 0 1 false w3 gc h3 (Fl.Alloc.safe_of _ _ _ Fl.eA_safe)).mono ?_
  rintro e w4 ⟨rfl, h4', u4⟩
  have h4 : MemAt w4 l Fl.eA.2 := h4'
  clear h4'
  rw [Fl.eA_out]
  have HE4 := Lib.hid (u4.keep HE3.out hbe)
  have z4 := lt_of_heap HE4.out
  have X4 := X3.updNew u4 hnew
  have hlt4 := h4.lt
  clear c_HE3_w3 f_HE3_w3 r_HE3_w3 X3 h3 u4
  have c_HE4_w4 := fun w' o (k : Ext w4 w') => k.cellOf HE4.out o
  have f_HE4_w4 := fun w' o (k : Ext w4 w') => frozen_of (k.keep HE4.out) o
  have r_HE4_w4 := Ext.refl w4
  go_upto_block 0 with fail
  have zo1 : (w4.alloc (.cells #[.pointer none, .pointer none, .pointer none] 78)).heap.size = w4.heap.size + 1 := by simp
  have hO : ((w4.alloc (.cells #[.pointer none, .pointer none, .pointer none] 78)).alloc (.cells #[.int .i64 (-1), .int .i64 (-1), .int .i64 (-1)] 79)).heap[w4.heap.size]? = some (.cells (arr3 (wptr (fun _ => none) (fun _ => 0))) 78 (0, 0)) := heap_old (heap_new w4 _)
  have hD : ((w4.alloc (.cells #[.pointer none, .pointer none, .pointer none] 78)).alloc (.cells #[.int .i64 (-1), .int .i64 (-1), .int .i64 (-1)] 79)).heap[(w4.alloc (.cells #[.pointer none, .pointer none, .pointer none] 78)).heap.size]? = some (.cells (arr3 (fun k => .int .i64 ((fun _ => (-1 : Int)) k))) 79 (0, 0)) := heap_new _ _
  rw [zo1] at hD
  have x6 := ((Ext.refl w4).alloc (.cells #[.pointer none, .pointer none, .pointer none] 78)).alloc (.cells #[.int .i64 (-1), .int .i64 (-1), .int .i64 (-1)] 79)
  clear zo1
  generalize (w4.alloc (.cells #[.pointer none, .pointer none, .pointer none] 78)).alloc (.cells #[.int .i64 (-1), .int .i64 (-1), .int .i64 (-1)] 79) = w6 at *
  have HE6 := Lib.hid (x6.keep HE4.out)
  have h6 := h4.ext x6
  have X6 := X4.trans x6
  have hzW : W.heap.size ≤ w4.heap.size := X4.size
  have nwd : w4.heap.size ≠ w4.heap.size + 1 := by omega
  have nwe : eb ≠ w4.heap.size ∧ eb ≠ w4.heap.size + 1 := by omega
  have hwl : w4.heap.size ∉ l.all ∧ w4.heap.size + 1 ∉ l.all := ⟨fun hm => by have := hlt4 _ hm; omega, fun hm => by have := hlt4 _ hm; omega⟩
  have hWn : W.heap.size ≤ w4.heap.size + 1 := by omega
  generalize w4.heap.size + 1 = ob at *
  generalize w4.heap.size = wb at *
  have HO6 := Lib.hid hO
  have HD6 := Lib.hid hD
  clear hO hD c_HE4_w4 f_HE4_w4 r_HE4_w4 x6 h4
  go_cut [10, 11, 12, 13, 14] from 32 to 113 (fun did i kv xv dv wx => ∃ (who : Nat → Option Fl.Access) (B : Nat → Nat) (Fs : Nat → List Nat) (old : Nat → Int) (dd : Int) (σ : Fl.Mem), did = .int .i64 dd ∧ Fl.CountInv 500 σ who old dd ∧ MemAt wx l σ ∧ Many OptAt (has who) wx l B Fs who W.heap.size [eb, wb, ob] ∧ wx.heap[eb]? = some (.cells #[.int .i64 4, .int .i64 4, .int .i64 2, .int .i64 20, .int .i64 100, .int .i64 600, .int .i64 3, .pointer (some ⟨l.m, 0, none⟩), .int .i64 0] 27) ∧ wx.heap[wb]? = some (.cells (arr3 (wptr who B)) 78 (0, 0)) ∧ wx.heap[ob]? = some (.cells (arr3 (fun k => .int .i64 (old k))) 79 (0, 0)) ∧ Ext W wx)
  case first =>
    go_wp2_with fail
    go_loopg [10, 11, 12, 13, 14] (min len 500) (fun kk did i kv xv dv wr => ∃ (j : Nat) (who : Nat → Option Fl.Access) (B : Nat → Nat) (Fs : Nat → List Nat) (old : Nat → Int) (dd : Int) (σ : Fl.Mem), did = .int .i64 dd ∧ i = .int .i64 (j : Int) ∧ j + kk = min len 500 ∧ Fl.CountInv j σ who old dd ∧ MemAt wr l σ ∧ Many OptAt (has who) wr l B Fs who W.heap.size [eb, wb, ob] ∧ wr.heap[eb]? = some (.cells #[.int .i64 4, .int .i64 4, .int .i64 2, .int .i64 20, .int .i64 100, .int .i64 600, .int .i64 3, .pointer (some ⟨l.m, 0, none⟩), .int .i64 0] 27) ∧ wr.heap[wb]? = some (.cells (arr3 (wptr who B)) 78 (0, 0)) ∧ wr.heap[ob]? = some (.cells (arr3 (fun k => .int .i64 (old k))) 79 (0, 0)) ∧ Ext W wr)
    case atStart =>
      exact ⟨0, fun _ => none, fun _ => 0, fun _ => [], fun _ => -1, 0, _, rfl, rfl, by omega, Fl.CountInv.start, h6, Many.none (fun k hk => by cases hk.2), HE6.out, HO6.out, HD6.out, X6⟩
    case round =>
      obtain ⟨j, who, B, Fs, old, dd, σ, rfl, rfl, hj, hI, hr, hM, hE, hO, hD, Xr⟩ := hrel
      have HI := Lib.hid hI
      have HEr := Lib.hid hE
      have HOr := Lib.hid hO
      have HDr := Lib.hid hD
      clear hE hO hD hI
      have c_HEr_wr := fun w' o (k : Ext wr w') => k.cellOf HEr.out o
      have f_HEr_wr := fun w' o (k : Ext wr w') => frozen_of (k.keep HEr.out) o
      have r_HEr_wr := Ext.refl wr
      have iw : IntKind.i64.wrap ((j : Int) + 1) = (j : Int) + 1 := IntWalk.i64_in _ (by omega)
      cases gk with
      | zero =>
        have hjm : j = min len 500 := hj
        by_cases hl : j < len
        · have c1 : decide ((j : Int) < len) = true := decide_eq_true (by omega)
          have d1 : decide ((j : Int) < 500) = false := decide_eq_false (by omega)
          go_wp2_with fail
          go_meet
          case rel => exact ⟨who, B, Fs, old, dd, σ, rfl, HI.out.later 500 (by omega), hr, hM, HEr.out, HOr.out, HDr.out, Xr⟩
        · have c1 : decide ((j : Int) < len) = false := decide_eq_false (by omega)
          go_wp2_with fail
          go_meet
          case rel => exact ⟨who, B, Fs, old, dd, σ, rfl, HI.out.later 500 (by omega), hr, hM, HEr.out, HOr.out, HDr.out, Xr⟩
      | succ kk =>
        have hj5 : j < len ∧ j < 500 := by omega
        have c1 : decide ((j : Int) < len) = true := decide_eq_true (by omega)
        have d1 : decide ((j : Int) < 500) = true := decide_eq_true (by omega)
        obtain ⟨aa, rfl, hblk, hcell⟩ := HQ.out j hj5.1
        have hcl : wr.cell? (aa.add j) = some (.int .i64 (z j)) := (cell_kept (by rw [addr_block]; exact Xr.block hblk)).trans hcell
        obtain ⟨k, hk3, hpk, r1, r2⟩ := pick_rem (z j) 3 (by omega)
        rw [show ((3 : Nat) : Int) = 3 from rfl] at hpk r1 r2
        have hki : (k : Int) < 3 := by omega
        have ck := fun w' (u : Ext wr w') => arr3_cell HDr.out hk3 u
        have cw := fun w' (u : Ext wr w') => arr3_cell HOr.out hk3 u
        have rr := Ext.refl wr
        have hbo := HI.out.small
        have hob := hbo.2.2 k hk3
        have iwo : IntKind.i64.wrap (old k + 1) = old k + 1 := IntWalk.i64_in _ (by omega)
        cases hwk : who k with
        | none =>
          have ew : wptr who B k = .pointer none := by unfold wptr; rw [hwk]
          rw [ew] at cw
          by_cases ho : old k < 0
          · have hcx := Fl.cX_read ho
            have g0 : decide (old k ≥ 0) = false := decide_eq_false (by omega)
            have xX := (Ext.refl wr).alloc (.cells #[.int .i64 1, .int .u64 65536, .int .i64 0, .int .i64 0, .int .i64 0] 74)
            have ro := fun o => (Ext.refl wr).alloc o
            go_wp2_with fail
            clear ro
            refine (n_access l ⟨1, 65536, 0, 0, 0⟩ false _ (show (65536 : Nat) < 18446744073709551616 by decide) (hr.ext xX).lt).mono ?_
            rintro e w7 ⟨bb, hbb, rfl, ha7, x7⟩
            rw [← hcx] at ha7
            have x7r := xX.trans x7
            have HO7 := Lib.hid (x7r.keep HOr.out)
            have HE7 := Lib.hid (x7r.keep HEr.out)
            have HD7 := Lib.hid (x7r.keep HDr.out)
            have zz : eb < wr.heap.size ∧ wb < wr.heap.size ∧ ob < wr.heap.size := ⟨lt_of_heap HEr.out, lt_of_heap HOr.out, lt_of_heap HDr.out⟩
            have hM7 := hM.new (j := k) (b := bb) (a := some (Fl.Access.new (Fl.cX (old k)) false)) keepsOpt x7r (by have := xX.size; omega) ⟨_, rfl, ha7⟩ Xr.size (by intro x hx; simp only [List.mem_cons, List.not_mem_nil, or_false] at hx; rcases hx with hx | hx | hx <;> omega) (has (Fl.at4 who k (some (Fl.Access.new (Fl.cX (old k)) false)))) has_new
            have c7 := fun w' (u : Ext w7 w') => arr3_cell HO7.out hk3 u
            have f7 := fun w' (u : Ext w7 w') => frozen_of (u.keep HO7.out) k
            have r7 := Ext.refl w7
            clear ck cw rr
            go_wp2_with fail
            have HO8 := Lib.hid (heap_set HO7.out k (.pointer (some ⟨bb, 0, none⟩)))
            have HE8 := Lib.hid (heap_far HE7.out (p := ⟨wb, k, none⟩) nwe.1 (.pointer (some ⟨bb, 0, none⟩)))
            have HD8 := Lib.hid (heap_far HD7.out (p := ⟨wb, k, none⟩) nwd.symm (.pointer (some ⟨bb, 0, none⟩)))
            have u8 := (Upd.refl [wb] w7).set1 k (.pointer (some ⟨bb, 0, none⟩))
            rw [arr3_set, wptr_new who B k bb (Fl.Access.new (Fl.cX (old k)) false)] at HO8
            have hM8 := hM7.keep keepsOpt u8 (by simp)
            have h8 := (hr.ext x7r).keep1 u8 hwl.1
            have X8 := (Xr.trans x7r).updNew u8 (by intro x hx; rw [List.mem_singleton.1 hx]; exact hzW)
            generalize World.setCell w7 ⟨wb, k, none⟩ (.pointer (some ⟨bb, 0, none⟩)) = w8 at *
            have HI8 := Lib.hid (HI.out.new k)
            have hfirst := HI.out.first (by omega) hk3
            have hwk8 : Fl.at4 who k (some (Fl.Access.new (Fl.cX (old k)) false)) k = some (Fl.Access.new (Fl.cX (old k)) false) := Fl.at4_same ..
            have hnw8 : wptr (Fl.at4 who k (some (Fl.Access.new (Fl.cX (old k)) false))) (Fl.at4 B k bb) k = .pointer (some ⟨bb, 0, none⟩) := by unfold wptr; rw [Fl.at4_same, Fl.at4_same]
            clear HO7 HE7 HD7 hM7 c7 f7 r7 HI hr hM Xr HEr HOr HDr x7r zz
            generalize Fl.at4 who k (some (Fl.Access.new (Fl.cX (old k)) false)) = who at *
            generalize Fl.at4 B k bb = B at *
            generalize Fl.at4 Fs k [bb] = Fs at *
            generalize Fl.Access.new (Fl.cX (old k)) false = a at *
            have HF := Lib.hid hfirst
            clear hfirst
            have cw := fun w' (u : Ext w8 w') => arr3_cell HO8.out hk3 u
            rw [hnw8] at cw
            have ce := fun w' o (u : Ext w8 w') => u.cellOf HE8.out o
            have r8 := Ext.refl w8
            refine wp_region_plan (Ext w8) [] [0, 1, 2, 3] 4 [5] Try.mixed (by kernel_rfl) (by intro c a d v w h; cases d <;> exact h) (Ext.refl _).drew ?_
            simp only [opsAt, List.filterMap_cons, List.filterMap_nil, List.getElem?_toArray, List.getElem?_cons_zero, List.getElem?_cons_succ]
            refine Firsts.nil ?_
            (refine Heads.val (v := ?_) rfl (fun wv hwv => ?_) ?_; rotate_left; (go_simp; with_reducible rfl); simp only [Act.put, List.setIfInBounds_toArray, List.set_cons_zero, List.set_cons_succ])
            (refine Heads.val (v := ?_) rfl (fun wv hwv => ?_) ?_; rotate_left; (go_simp; with_reducible rfl); simp only [Act.put, List.setIfInBounds_toArray, List.set_cons_zero, List.set_cons_succ])
            (refine Heads.val (v := ?_) rfl (fun wv hwv => ?_) ?_; rotate_left; (go_simp; with_reducible rfl); simp only [Act.put, List.setIfInBounds_toArray, List.set_cons_zero, List.set_cons_succ])
            (refine Heads.val (v := ?_) rfl (fun wv hwv => ?_) ?_; rotate_left; (go_simp; with_reducible rfl); simp only [Act.put, List.setIfInBounds_toArray, List.set_cons_zero, List.set_cons_succ])
            refine Heads.nil ?_
            intro w6 hw6
            go_wp2_with fail
            have hst := HI8.out.step (by omega) hk3 hwk8
            refine (x_step Fl.cD l σ 0 (Fs k) bb a _ gc (h8.ext hw6) (by have := HI8.out.steps; omega) (by obtain ⟨a2, e2, hat⟩ := hM8.is k (has_of hk3 hwk8); rw [hwk8] at e2; cases e2; unfold wptr at hnw8; rw [hwk8] at hnw8; simp only [Value.pointer.injEq, Option.some.injEq, Addr.mk.injEq, and_true] at hnw8; rw [hnw8] at hat; exact hat.kept (hw6.upd []) (by simp)) (HI8.out.idx hk3 hwk8)).mono ?_
            rintro e w9 ⟨rfl, h9, u9, F', ha9, hF'⟩
            have hBk : B k = bb := by unfold wptr at hnw8; rw [hwk8] at hnw8; simpa using hnw8
            have u9r := Upd.extL hw6 u9
            have zz : eb < w8.heap.size ∧ wb < w8.heap.size ∧ ob < w8.heap.size := ⟨lt_of_heap HE8.out, lt_of_heap HO8.out, lt_of_heap HD8.out⟩
            have hM9 := hM8.step keepsOpt (has_of hk3 hwk8) u9r (a := some (a.step Fl.cD 0 σ).2.1) ⟨_, rfl, by rw [hBk]; exact ha9⟩ (fun x hx => (hF' x hx).imp id (fun h => Nat.le_trans hw6.size h)) X8.size (by intro x hx; simp only [List.mem_cons, List.not_mem_nil, or_false] at hx; rcases hx with hx | hx | hx <;> omega)
            have hM9' := hM9.less (c' := has (Fl.at4 who k (some (a.step Fl.cD 0 σ).2.1))) (has_step hwk8)
            have HE9 := Lib.hid (u9r.keep HE8.out (hM8.far keepsOpt (has_of hk3 hwk8) (by simp) hbe))
            have HO9 := Lib.hid (u9r.keep HO8.out (hM8.far keepsOpt (has_of hk3 hwk8) (by simp) hwl.1))
            have HD9 := Lib.hid (u9r.keep HD8.out (hM8.far keepsOpt (has_of hk3 hwk8) (by simp) hwl.2))
            have X9 := X8.updNew u9r (fun x hx => by
              rcases List.mem_append.1 hx with h | h
              · exact (hM8.lo k (has_of hk3 hwk8) x h).1
              · exact hnew x h)
            rw [HF.out] at hst
            rw [HF.out]
            rw [← wptr_step B (a.step Fl.cD 0 σ).2.1 hwk8] at HO9
            generalize a.step Fl.cD 0 σ = st at *
            obtain ⟨y, a', σ'⟩ := st
            simp only at h9 hM9' hst HO9
            have hst' : Fl.CountInv (j + 1) σ' (Fl.at4 who k (some a')) old dd := by first | exact hst.1 rfl | exact hst.1 trivial | exact hst.1
            clear hst cw ce
            go_wp2_with fail
            go_roundg kk
            case measure => omega
            case rel => exact ⟨j + 1, _, _, _, old, dd, σ', rfl, by simp, by omega, hst', h9, hM9', HE9.out, HO9.out, HD9.out, X9⟩
          · have hcx := Fl.cX_cas (o := old k) (by omega)
            have g0 : decide (old k ≥ 0) = true := decide_eq_true (by omega)
            have xX := (Ext.refl wr).alloc (.cells #[.int .i64 1, .int .u64 65536, .int .i64 0, .int .i64 0, .int .i64 0] 74)
            have hX10 := heap_new wr (.cells #[.int .i64 1, .int .u64 65536, .int .i64 0, .int .i64 0, .int .i64 0] 74)
            go_wp2_with fail
            have HX10 := Lib.hid hX10
            have HD10 := Lib.hid (xX.keep HDr.out)
            clear hX10
            generalize wr.alloc (.cells #[.int .i64 1, .int .u64 65536, .int .i64 0, .int .i64 0, .int .i64 0] 74) = w10 at *
            have hxb : wr.heap.size ≤ wr.heap.size := Nat.le_refl _
            generalize hxe : wr.heap.size = xb at HX10 ⊢
            have hxb : wr.heap.size ≤ xb := by omega
            have c_HX10_w10 := fun w' o (k : Ext w10 w') => k.cellOf HX10.out o
            have f_HX10_w10 := fun w' o (k : Ext w10 w') => frozen_of (k.keep HX10.out) o
            have r_HX10_w10 := Ext.refl w10
            have ckX := fun w' (u : Ext w10 w') => arr3_cell HD10.out hk3 u
            refine wp_region_plan (Ext w10) [] [0, 1, 2, 3, 4, 5, 6, 7, 8] 9 [] Try.mixed (by kernel_rfl) (by intro c a d v w h; cases d <;> exact h) (Ext.refl _).drew ?_
            simp only [opsAt, List.filterMap_cons, List.filterMap_nil, List.getElem?_toArray, List.getElem?_cons_zero, List.getElem?_cons_succ]
            refine Firsts.nil ?_
            (refine Heads.val (v := ?_) rfl (fun wv hwv => ?_) ?_; rotate_left; (go_simp; with_reducible rfl); simp only [Act.put, List.setIfInBounds_toArray, List.set_cons_zero, List.set_cons_succ])
            (refine Heads.val (v := ?_) rfl (fun wv hwv => ?_) ?_; rotate_left; (go_simp; with_reducible rfl); simp only [Act.put, List.setIfInBounds_toArray, List.set_cons_zero, List.set_cons_succ])
            (refine Heads.val (v := ?_) rfl (fun wv hwv => ?_) ?_; rotate_left; (go_simp; with_reducible rfl); simp only [Act.put, List.setIfInBounds_toArray, List.set_cons_zero, List.set_cons_succ])
            (refine Heads.val (v := ?_) rfl (fun wv hwv => ?_) ?_; rotate_left; (go_simp; with_reducible rfl); simp only [Act.put, List.setIfInBounds_toArray, List.set_cons_zero, List.set_cons_succ])
            (refine Heads.val (v := ?_) rfl (fun wv hwv => ?_) ?_; rotate_left; (go_simp; with_reducible rfl); simp only [Act.put, List.setIfInBounds_toArray, List.set_cons_zero, List.set_cons_succ])
            (refine Heads.val (v := ?_) rfl (fun wv hwv => ?_) ?_; rotate_left; (go_simp; with_reducible rfl); simp only [Act.put, List.setIfInBounds_toArray, List.set_cons_zero, List.set_cons_succ])
            (refine Heads.val (v := ?_) rfl (fun wv hwv => ?_) ?_; rotate_left; (go_simp; with_reducible rfl); simp only [Act.put, List.setIfInBounds_toArray, List.set_cons_zero, List.set_cons_succ])
            (refine Heads.val (v := ?_) rfl (fun wv hwv => ?_) ?_; rotate_left; (go_simp; with_reducible rfl); simp only [Act.put, List.setIfInBounds_toArray, List.set_cons_zero, List.set_cons_succ])
            (refine Heads.val (v := ?_) rfl (fun wv hwv => ?_) ?_; rotate_left; (go_simp; with_reducible rfl); simp only [Act.put, List.setIfInBounds_toArray, List.set_cons_zero, List.set_cons_succ])
            refine Heads.nil ?_
            intro w11 hw11
            go_wp2_with fail
            have xX2 := (((((xX.trans hw11).setNew (p := ⟨xb, 0, none⟩) hxb (.int .i64 3)).setNew (p := ⟨xb, 1, none⟩) hxb (.int .u64 65536)).setNew (p := ⟨xb, 2, none⟩) hxb (.int .i64 0)).setNew (p := ⟨xb, 3, none⟩) hxb (.int .i64 (old k + 1))).setNew (p := ⟨xb, 4, none⟩) hxb (.int .i64 (old k))
            generalize World.setCell (World.setCell (World.setCell (World.setCell (World.setCell w11 ⟨xb, 0, none⟩ (.int .i64 3)) ⟨xb, 1, none⟩ (.int .u64 65536)) ⟨xb, 2, none⟩ (.int .i64 0)) ⟨xb, 3, none⟩ (.int .i64 (old k + 1))) ⟨xb, 4, none⟩ (.int .i64 (old k)) = w12 at *
            clear xX hw11 c_HX10_w10 f_HX10_w10 r_HX10_w10 ckX HX10 HD10
            have xX := xX2
            clear xX2
            refine (n_access l ⟨3, 65536, 0, old k + 1, old k⟩ false _ (show (65536 : Nat) < 18446744073709551616 by decide) (hr.ext xX).lt).mono ?_
            rintro e w7 ⟨bb, hbb, rfl, ha7, x7⟩
            rw [← hcx] at ha7
            have x7r := xX.trans x7
            have HO7 := Lib.hid (x7r.keep HOr.out)
            have HE7 := Lib.hid (x7r.keep HEr.out)
            have HD7 := Lib.hid (x7r.keep HDr.out)
            have zz : eb < wr.heap.size ∧ wb < wr.heap.size ∧ ob < wr.heap.size := ⟨lt_of_heap HEr.out, lt_of_heap HOr.out, lt_of_heap HDr.out⟩
            have hM7 := hM.new (j := k) (b := bb) (a := some (Fl.Access.new (Fl.cX (old k)) false)) keepsOpt x7r (by have := xX.size; omega) ⟨_, rfl, ha7⟩ Xr.size (by intro x hx; simp only [List.mem_cons, List.not_mem_nil, or_false] at hx; rcases hx with hx | hx | hx <;> omega) (has (Fl.at4 who k (some (Fl.Access.new (Fl.cX (old k)) false)))) has_new
            have c7 := fun w' (u : Ext w7 w') => arr3_cell HO7.out hk3 u
            have f7 := fun w' (u : Ext w7 w') => frozen_of (u.keep HO7.out) k
            have r7 := Ext.refl w7
            clear ck cw rr
            go_wp2_with fail
            have HO8 := Lib.hid (heap_set HO7.out k (.pointer (some ⟨bb, 0, none⟩)))
            have HE8 := Lib.hid (heap_far HE7.out (p := ⟨wb, k, none⟩) nwe.1 (.pointer (some ⟨bb, 0, none⟩)))
            have HD8 := Lib.hid (heap_far HD7.out (p := ⟨wb, k, none⟩) nwd.symm (.pointer (some ⟨bb, 0, none⟩)))
            have u8 := (Upd.refl [wb] w7).set1 k (.pointer (some ⟨bb, 0, none⟩))
            rw [arr3_set, wptr_new who B k bb (Fl.Access.new (Fl.cX (old k)) false)] at HO8
            have hM8 := hM7.keep keepsOpt u8 (by simp)
            have h8 := (hr.ext x7r).keep1 u8 hwl.1
            have X8 := (Xr.trans x7r).updNew u8 (by intro x hx; rw [List.mem_singleton.1 hx]; exact hzW)
            generalize World.setCell w7 ⟨wb, k, none⟩ (.pointer (some ⟨bb, 0, none⟩)) = w8 at *
            have HI8 := Lib.hid (HI.out.new k)
            have hfirst := HI.out.first (by omega) hk3
            have hwk8 : Fl.at4 who k (some (Fl.Access.new (Fl.cX (old k)) false)) k = some (Fl.Access.new (Fl.cX (old k)) false) := Fl.at4_same ..
            have hnw8 : wptr (Fl.at4 who k (some (Fl.Access.new (Fl.cX (old k)) false))) (Fl.at4 B k bb) k = .pointer (some ⟨bb, 0, none⟩) := by unfold wptr; rw [Fl.at4_same, Fl.at4_same]
            clear HO7 HE7 HD7 hM7 c7 f7 r7 HI hr hM Xr HEr HOr HDr x7r zz
            generalize Fl.at4 who k (some (Fl.Access.new (Fl.cX (old k)) false)) = who at *
            generalize Fl.at4 B k bb = B at *
            generalize Fl.at4 Fs k [bb] = Fs at *
            generalize Fl.Access.new (Fl.cX (old k)) false = a at *
            have HF := Lib.hid hfirst
            clear hfirst
            have cw := fun w' (u : Ext w8 w') => arr3_cell HO8.out hk3 u
            rw [hnw8] at cw
            have ce := fun w' o (u : Ext w8 w') => u.cellOf HE8.out o
            have r8 := Ext.refl w8
            refine wp_region_plan (Ext w8) [] [0, 1, 2, 3] 4 [5] Try.mixed (by kernel_rfl) (by intro c a d v w h; cases d <;> exact h) (Ext.refl _).drew ?_
            simp only [opsAt, List.filterMap_cons, List.filterMap_nil, List.getElem?_toArray, List.getElem?_cons_zero, List.getElem?_cons_succ]
            refine Firsts.nil ?_
            (refine Heads.val (v := ?_) rfl (fun wv hwv => ?_) ?_; rotate_left; (go_simp; with_reducible rfl); simp only [Act.put, List.setIfInBounds_toArray, List.set_cons_zero, List.set_cons_succ])
            (refine Heads.val (v := ?_) rfl (fun wv hwv => ?_) ?_; rotate_left; (go_simp; with_reducible rfl); simp only [Act.put, List.setIfInBounds_toArray, List.set_cons_zero, List.set_cons_succ])
            (refine Heads.val (v := ?_) rfl (fun wv hwv => ?_) ?_; rotate_left; (go_simp; with_reducible rfl); simp only [Act.put, List.setIfInBounds_toArray, List.set_cons_zero, List.set_cons_succ])
            (refine Heads.val (v := ?_) rfl (fun wv hwv => ?_) ?_; rotate_left; (go_simp; with_reducible rfl); simp only [Act.put, List.setIfInBounds_toArray, List.set_cons_zero, List.set_cons_succ])
            refine Heads.nil ?_
            intro w6 hw6
            go_wp2_with fail
            have hst := HI8.out.step (by omega) hk3 hwk8
            refine (x_step Fl.cD l σ 0 (Fs k) bb a _ gc (h8.ext hw6) (by have := HI8.out.steps; omega) (by obtain ⟨a2, e2, hat⟩ := hM8.is k (has_of hk3 hwk8); rw [hwk8] at e2; cases e2; unfold wptr at hnw8; rw [hwk8] at hnw8; simp only [Value.pointer.injEq, Option.some.injEq, Addr.mk.injEq, and_true] at hnw8; rw [hnw8] at hat; exact hat.kept (hw6.upd []) (by simp)) (HI8.out.idx hk3 hwk8)).mono ?_
            rintro e w9 ⟨rfl, h9, u9, F', ha9, hF'⟩
            have hBk : B k = bb := by unfold wptr at hnw8; rw [hwk8] at hnw8; simpa using hnw8
            have u9r := Upd.extL hw6 u9
            have zz : eb < w8.heap.size ∧ wb < w8.heap.size ∧ ob < w8.heap.size := ⟨lt_of_heap HE8.out, lt_of_heap HO8.out, lt_of_heap HD8.out⟩
            have hM9 := hM8.step keepsOpt (has_of hk3 hwk8) u9r (a := some (a.step Fl.cD 0 σ).2.1) ⟨_, rfl, by rw [hBk]; exact ha9⟩ (fun x hx => (hF' x hx).imp id (fun h => Nat.le_trans hw6.size h)) X8.size (by intro x hx; simp only [List.mem_cons, List.not_mem_nil, or_false] at hx; rcases hx with hx | hx | hx <;> omega)
            have hM9' := hM9.less (c' := has (Fl.at4 who k (some (a.step Fl.cD 0 σ).2.1))) (has_step hwk8)
            have HE9 := Lib.hid (u9r.keep HE8.out (hM8.far keepsOpt (has_of hk3 hwk8) (by simp) hbe))
            have HO9 := Lib.hid (u9r.keep HO8.out (hM8.far keepsOpt (has_of hk3 hwk8) (by simp) hwl.1))
            have HD9 := Lib.hid (u9r.keep HD8.out (hM8.far keepsOpt (has_of hk3 hwk8) (by simp) hwl.2))
            have X9 := X8.updNew u9r (fun x hx => by
              rcases List.mem_append.1 hx with h | h
              · exact (hM8.lo k (has_of hk3 hwk8) x h).1
              · exact hnew x h)
            rw [HF.out] at hst
            rw [HF.out]
            rw [← wptr_step B (a.step Fl.cD 0 σ).2.1 hwk8] at HO9
            generalize a.step Fl.cD 0 σ = st at *
            obtain ⟨y, a', σ'⟩ := st
            simp only at h9 hM9' hst HO9
            have hst' : Fl.CountInv (j + 1) σ' (Fl.at4 who k (some a')) old dd := by first | exact hst.1 rfl | exact hst.1 trivial | exact hst.1
            clear hst cw ce
            go_wp2_with fail
            go_roundg kk
            case measure => omega
            case rel => exact ⟨j + 1, _, _, _, old, dd, σ', rfl, by simp, by omega, hst', h9, hM9', HE9.out, HO9.out, HD9.out, X9⟩
        | some a =>
          have ew : wptr who B k = .pointer (some ⟨B k, 0, none⟩) := by unfold wptr; rw [hwk]
          rw [ew] at cw
          go_wp2_with fail
          refine wp_region_plan (Ext wr) [] [0, 1, 2, 3] 4 [5] Try.mixed (by kernel_rfl) (by intro c a d v w h; cases d <;> exact h) (Ext.refl _).drew ?_
          simp only [opsAt, List.filterMap_cons, List.filterMap_nil, List.getElem?_toArray, List.getElem?_cons_zero, List.getElem?_cons_succ]
          refine Firsts.nil ?_
          (refine Heads.val (v := ?_) rfl (fun wv hwv => ?_) ?_; rotate_left; (go_simp; with_reducible rfl); simp only [Act.put, List.setIfInBounds_toArray, List.set_cons_zero, List.set_cons_succ])
          (refine Heads.val (v := ?_) rfl (fun wv hwv => ?_) ?_; rotate_left; (go_simp; with_reducible rfl); simp only [Act.put, List.setIfInBounds_toArray, List.set_cons_zero, List.set_cons_succ])
          (refine Heads.val (v := ?_) rfl (fun wv hwv => ?_) ?_; rotate_left; (go_simp; with_reducible rfl); simp only [Act.put, List.setIfInBounds_toArray, List.set_cons_zero, List.set_cons_succ])
          (refine Heads.val (v := ?_) rfl (fun wv hwv => ?_) ?_; rotate_left; (go_simp; with_reducible rfl); simp only [Act.put, List.setIfInBounds_toArray, List.set_cons_zero, List.set_cons_succ])
          refine Heads.nil ?_
          intro w6 hw6
          go_wp2_with fail
          have hst := HI.out.step (by omega) hk3 hwk
          have hat := hM.is k (has_of hk3 hwk)
          obtain ⟨a2, e2, hat⟩ := hat
          have e3 : a2 = a := by rw [hwk] at e2; cases e2; rfl
          subst e3
          refine (x_step Fl.cD l σ 0 (Fs k) (B k) a2 _ gc (hr.ext hw6) (by have := HI.out.steps; omega) (hat.kept (hw6.upd []) (by simp)) (HI.out.idx hk3 hwk)).mono ?_
          rintro e w9 ⟨rfl, h9, u9, F', ha9, hF'⟩
          have u9r := Upd.extL hw6 u9
          have zz : eb < wr.heap.size ∧ wb < wr.heap.size ∧ ob < wr.heap.size := ⟨lt_of_heap HEr.out, lt_of_heap HOr.out, lt_of_heap HDr.out⟩
          have hM9 := hM.step keepsOpt (has_of hk3 hwk) u9r (a := some (a2.step Fl.cD 0 σ).2.1) ⟨_, rfl, ha9⟩ (fun x hx => (hF' x hx).imp id (fun h => Nat.le_trans hw6.size h)) Xr.size (by intro x hx; simp only [List.mem_cons, List.not_mem_nil, or_false] at hx; rcases hx with hx | hx | hx <;> omega)
          have hM9' := hM9.less (c' := has (Fl.at4 who k (some (a2.step Fl.cD 0 σ).2.1))) (has_step hwk)
          have HE9 := Lib.hid (u9r.keep HEr.out (hM.far keepsOpt (has_of hk3 hwk) (by simp) hbe))
          have HO9 := Lib.hid (u9r.keep HOr.out (hM.far keepsOpt (has_of hk3 hwk) (by simp) hwl.1))
          have HD9 := Lib.hid (u9r.keep HDr.out (hM.far keepsOpt (has_of hk3 hwk) (by simp) hwl.2))
          have X9 := Xr.updNew u9r (fun x hx => by
            rcases List.mem_append.1 hx with h | h
            · exact (hM.lo k (has_of hk3 hwk) x h).1
            · exact hnew x h)
          clear hM9
          generalize a2.step Fl.cD 0 σ = st at *
          obtain ⟨y, a', σ'⟩ := st
          simp only at h9 hM9' hst ha9
          have HST := Lib.hid hst
          clear hst ck cw c_HEr_wr f_HEr_wr r_HEr_wr rr
          cases y
          · rw [← wptr_step B a' hwk] at HO9
            go_wp2_with fail
            go_roundg kk
            case measure => omega
            case rel => exact ⟨j + 1, _, _, _, old, dd, σ', rfl, by simp, by omega, (by first | exact HST.out.1 rfl | exact HST.out.1 trivial | exact HST.out.1), h9, hM9', HE9.out, HO9.out, HD9.out, X9⟩
          · have cw := fun w' (u : Ext w9 w') => arr3_cell HO9.out hk3 u
            rw [ew] at cw
            have r9 := Ext.refl w9
            go_wp2_with fail
            refine (x_done l F' (B k) a' _ ha9).mono ?_
            rintro e w10 ⟨rfl, x10⟩
            clear cw r9
            have HE10 := Lib.hid (x10.keep HE9.out)
            have HO10 := Lib.hid (x10.keep HO9.out)
            have HD10 := Lib.hid (x10.keep HD9.out)
            have iwd : IntKind.i64.wrap (dd + 1) = dd + 1 := IntWalk.i64_in _ (by omega)
            have hfin := HST.out.2
            have hfin' : (old k ≥ 0 ∧ a'.out.e = 0 ∧ (∀ o, -1 ≤ o → o ≤ old k → Fl.CountInv (j + 1) σ' (Fl.at4 who k none) (Fl.at4 old k o) (dd + 1))) ∨
              ((old k < 0 ∧ a'.out.e = 0 ∨ old k ≥ 0 ∧ a'.out.e = 8) ∧ Fl.CountInv (j + 1) σ' (Fl.at4 who k none) (Fl.at4 old k a'.out.value) dd ∧ Fl.CountInv (j + 1) σ' (Fl.at4 who k none) old dd) := by first | exact hfin rfl | exact hfin trivial | exact hfin
            clear hfin HST
            rcases hfin' with ⟨ho, he, hc⟩ | ⟨⟨ho, he⟩ | ⟨ho, he⟩, hc, _⟩
            · have hc' := Lib.hid (hc (-1) (by omega) (by omega))
              clear hc
              have g0 : decide (old k ≥ 0) = true := decide_eq_true (by omega)
              rw [he]
              have z10 : wb < w10.heap.size ∧ ob < w10.heap.size := ⟨lt_of_heap HO10.out, lt_of_heap HD10.out⟩
              have HOB := Lib.hid (heap_set HO10.out k (.pointer none))
              have HEB := Lib.hid (heap_far HE10.out (p := ⟨wb, k, none⟩) nwe.1 (.pointer none))
              have HDB := Lib.hid (heap_far HD10.out (p := ⟨wb, k, none⟩) nwd.symm (.pointer none))
              have uB := (Upd.refl [wb] w10).set1 k (.pointer none)
              rw [arr3_set, wptr_end] at HOB
              have c10 := fun w' (u : Ext w10 w') => arr3_cell HO10.out hk3 u
              have f10 := fun w' (u : Ext w10 w') => frozen_of (u.keep HO10.out) k
              have ro10 := fun o => (Ext.refl w10).alloc o
              have cOB := fun w' (u : Ext (World.setCell w10 ⟨wb, k, none⟩ (.pointer none)) w') => arr3_cell HDB.out hk3 u
              have fOB := fun w' (u : Ext (World.setCell w10 ⟨wb, k, none⟩ (.pointer none)) w') => frozen_of (u.keep HDB.out) k
              have roB := fun o => (Ext.refl (World.setCell w10 ⟨wb, k, none⟩ (.pointer none))).alloc o
              go_wp2_with fail
              clear c10 f10 ro10 cOB fOB roB
              generalize World.setCell w10 ⟨wb, k, none⟩ (.pointer none) = wB at *
              have HDC := Lib.hid (heap_set HDB.out k (.int .i64 (-1)))
              have HEC := Lib.hid (heap_far HEB.out (p := ⟨ob, k, none⟩) nwe.2 (.int .i64 (-1)))
              have HOC := Lib.hid (heap_far HOB.out (p := ⟨ob, k, none⟩) nwd (.int .i64 (-1)))
              have uC := (Upd.refl [ob] wB).set1 k (.int .i64 (-1))
              rw [arr3_set, ints_next] at HDC
              generalize World.setCell wB ⟨ob, k, none⟩ (.int .i64 (-1)) = wC at *
              have xD := (Ext.refl wC).alloc (.cells #[.int .i64 0, .int .u64 (a'.out.handle : Nat), .int .i64 a'.out.value, .int .i64 a'.out.stamp] 34)
              go_roundg kk
              case measure => omega
              case rel =>
                refine ⟨j + 1, Fl.at4 who k none, B, Fl.at4 Fs k F', Fl.at4 old k (-1), (dd + 1), σ', rfl, by simp, by omega, hc'.out, (((h9.ext x10).keep1 uB hwl.1).keep1 uC hwl.2).ext xD, ?_, xD.keep HEC.out, xD.keep HOC.out, xD.keep HDC.out, ?_⟩
                · have := ((((hM9'.ext keepsOpt x10).keep keepsOpt uB (by simp)).keep keepsOpt uC (by simp)).ext keepsOpt xD).gone k
                  rw [at4_at4] at this
                  exact this
                · exact (((X9.trans x10).updNew uB (by intro x hx; rw [List.mem_singleton.1 hx]; exact hzW)).updNew uC (by intro x hx; rw [List.mem_singleton.1 hx]; exact hWn)).trans xD
            · have hc' := Lib.hid hc
              clear hc
              have g0 : decide (old k ≥ 0) = false := decide_eq_false (by omega)
              rw [he]
              have z10 : wb < w10.heap.size ∧ ob < w10.heap.size := ⟨lt_of_heap HO10.out, lt_of_heap HD10.out⟩
              have HOB := Lib.hid (heap_set HO10.out k (.pointer none))
              have HEB := Lib.hid (heap_far HE10.out (p := ⟨wb, k, none⟩) nwe.1 (.pointer none))
              have HDB := Lib.hid (heap_far HD10.out (p := ⟨wb, k, none⟩) nwd.symm (.pointer none))
              have uB := (Upd.refl [wb] w10).set1 k (.pointer none)
              rw [arr3_set, wptr_end] at HOB
              have c10 := fun w' (u : Ext w10 w') => arr3_cell HO10.out hk3 u
              have f10 := fun w' (u : Ext w10 w') => frozen_of (u.keep HO10.out) k
              have ro10 := fun o => (Ext.refl w10).alloc o
              have cOB := fun w' (u : Ext (World.setCell w10 ⟨wb, k, none⟩ (.pointer none)) w') => arr3_cell HDB.out hk3 u
              have fOB := fun w' (u : Ext (World.setCell w10 ⟨wb, k, none⟩ (.pointer none)) w') => frozen_of (u.keep HDB.out) k
              have roB := fun o => (Ext.refl (World.setCell w10 ⟨wb, k, none⟩ (.pointer none))).alloc o
              go_wp2_with fail
              clear c10 f10 ro10 cOB fOB roB
              generalize World.setCell w10 ⟨wb, k, none⟩ (.pointer none) = wB at *
              have HDC := Lib.hid (heap_set HDB.out k (.int .i64 a'.out.value))
              have HEC := Lib.hid (heap_far HEB.out (p := ⟨ob, k, none⟩) nwe.2 (.int .i64 a'.out.value))
              have HOC := Lib.hid (heap_far HOB.out (p := ⟨ob, k, none⟩) nwd (.int .i64 a'.out.value))
              have uC := (Upd.refl [ob] wB).set1 k (.int .i64 a'.out.value)
              rw [arr3_set, ints_next] at HDC
              generalize World.setCell wB ⟨ob, k, none⟩ (.int .i64 a'.out.value) = wC at *
              have xD := (Ext.refl wC).alloc (.cells #[.int .i64 0, .int .u64 (a'.out.handle : Nat), .int .i64 a'.out.value, .int .i64 a'.out.stamp] 34)
              go_roundg kk
              case measure => omega
              case rel =>
                refine ⟨j + 1, Fl.at4 who k none, B, Fl.at4 Fs k F', Fl.at4 old k a'.out.value, dd, σ', rfl, by simp, by omega, hc'.out, (((h9.ext x10).keep1 uB hwl.1).keep1 uC hwl.2).ext xD, ?_, xD.keep HEC.out, xD.keep HOC.out, xD.keep HDC.out, ?_⟩
                · have := ((((hM9'.ext keepsOpt x10).keep keepsOpt uB (by simp)).keep keepsOpt uC (by simp)).ext keepsOpt xD).gone k
                  rw [at4_at4] at this
                  exact this
                · exact (((X9.trans x10).updNew uB (by intro x hx; rw [List.mem_singleton.1 hx]; exact hzW)).updNew uC (by intro x hx; rw [List.mem_singleton.1 hx]; exact hWn)).trans xD
            · have hc' := Lib.hid hc
              clear hc
              have g0 : decide (old k ≥ 0) = true := decide_eq_true (by omega)
              rw [he]
              have z10 : wb < w10.heap.size ∧ ob < w10.heap.size := ⟨lt_of_heap HO10.out, lt_of_heap HD10.out⟩
              have HOB := Lib.hid (heap_set HO10.out k (.pointer none))
              have HEB := Lib.hid (heap_far HE10.out (p := ⟨wb, k, none⟩) nwe.1 (.pointer none))
              have HDB := Lib.hid (heap_far HD10.out (p := ⟨wb, k, none⟩) nwd.symm (.pointer none))
              have uB := (Upd.refl [wb] w10).set1 k (.pointer none)
              rw [arr3_set, wptr_end] at HOB
              have c10 := fun w' (u : Ext w10 w') => arr3_cell HO10.out hk3 u
              have f10 := fun w' (u : Ext w10 w') => frozen_of (u.keep HO10.out) k
              have ro10 := fun o => (Ext.refl w10).alloc o
              have cOB := fun w' (u : Ext (World.setCell w10 ⟨wb, k, none⟩ (.pointer none)) w') => arr3_cell HDB.out hk3 u
              have fOB := fun w' (u : Ext (World.setCell w10 ⟨wb, k, none⟩ (.pointer none)) w') => frozen_of (u.keep HDB.out) k
              have roB := fun o => (Ext.refl (World.setCell w10 ⟨wb, k, none⟩ (.pointer none))).alloc o
              go_wp2_with fail
              clear c10 f10 ro10 cOB fOB roB
              generalize World.setCell w10 ⟨wb, k, none⟩ (.pointer none) = wB at *
              have HDC := Lib.hid (heap_set HDB.out k (.int .i64 a'.out.value))
              have HEC := Lib.hid (heap_far HEB.out (p := ⟨ob, k, none⟩) nwe.2 (.int .i64 a'.out.value))
              have HOC := Lib.hid (heap_far HOB.out (p := ⟨ob, k, none⟩) nwd (.int .i64 a'.out.value))
              have uC := (Upd.refl [ob] wB).set1 k (.int .i64 a'.out.value)
              rw [arr3_set, ints_next] at HDC
              generalize World.setCell wB ⟨ob, k, none⟩ (.int .i64 a'.out.value) = wC at *
              have xD := (Ext.refl wC).alloc (.cells #[.int .i64 8, .int .u64 (a'.out.handle : Nat), .int .i64 a'.out.value, .int .i64 a'.out.stamp] 34)
              go_roundg kk
              case measure => omega
              case rel =>
                refine ⟨j + 1, Fl.at4 who k none, B, Fl.at4 Fs k F', Fl.at4 old k a'.out.value, dd, σ', rfl, by simp, by omega, hc'.out, (((h9.ext x10).keep1 uB hwl.1).keep1 uC hwl.2).ext xD, ?_, xD.keep HEC.out, xD.keep HOC.out, xD.keep HDC.out, ?_⟩
                · have := ((((hM9'.ext keepsOpt x10).keep keepsOpt uB (by simp)).keep keepsOpt uC (by simp)).ext keepsOpt xD).gone k
                  rw [at4_at4] at this
                  exact this
                · exact (((X9.trans x10).updNew uB (by intro x hx; rw [List.mem_singleton.1 hx]; exact hzW)).updNew uC (by intro x hx; rw [List.mem_singleton.1 hx]; exact hWn)).trans xD
  case rest =>
    obtain ⟨who, B, Fs, old, dd, σ, rfl, hI, hr, hM, hE, hO, hD, Xc⟩ := hcut
    clear HE6 HO6 HD6 X6 h6
    go_wp2_with fail
    go_loopg [10, 15, 16] 3 (fun kk did kv iv wr => ∃ (K : Nat) (who : Nat → Option Fl.Access) (Fs : Nat → List Nat) (dd : Int) (σ : Fl.Mem), did = .int .i64 dd ∧ kv = .int .i64 (K : Int) ∧ K + kk = 3 ∧ Fl.CountInv (500 + 60 * K) σ who old dd ∧ MemAt wr l σ ∧ Many OptAt (has who) wr l B Fs who W.heap.size [eb, wb, ob] ∧ wr.heap[eb]? = some (.cells #[.int .i64 4, .int .i64 4, .int .i64 2, .int .i64 20, .int .i64 100, .int .i64 600, .int .i64 3, .pointer (some ⟨l.m, 0, none⟩), .int .i64 0] 27) ∧ wr.heap[wb]? = some (.cells (arr3 (wptr who B)) 78 (0, 0)) ∧ wr.heap[ob]? = some (.cells (arr3 (fun k => .int .i64 (old k))) 79 (0, 0)) ∧ Ext W wr)
    case atStart => exact ⟨0, who, Fs, dd, σ, rfl, rfl, by omega, hI, hr, hM, hE, hO, hD, Xc⟩
    case round =>
      clear hr hM hE hO hD Xc hI
      obtain ⟨K, who, Fs, dd, σ, rfl, rfl, hK, hI, hr, hM, hE, hO, hD, Xr⟩ := hrel
      have HI := Lib.hid hI
      have HEr := Lib.hid hE
      have HOr := Lib.hid hO
      have HDr := Lib.hid hD
      clear hE hO hD hI
      have iwK : IntKind.i64.wrap ((K : Int) + 1) = (K : Int) + 1 := IntWalk.i64_in _ (by omega)
      cases gk with
      | zero =>
        have hK3 : K = 3 := hK
        have b0 : decide ((K : Int) < 3) = false := decide_eq_false (by omega)
        have hstp := HI.out.steps
        have hv := HI.out.final
        have c_HEr_wr := fun w' o (k : Ext wr w') => k.cellOf HEr.out o
        have f_HEr_wr := fun w' o (k : Ext wr w') => frozen_of (k.keep HEr.out) o
        have r_HEr_wr := Ext.refl wr
        go_wp2_with fail
        refine (n_do Fl.cD l σ 0 ⟨1, 65536, 0, 0, 0⟩ false _ gc hr (by decide) (by omega)).mono ?_
        rintro e wz ⟨rfl, hz, uz⟩
        rw [hv]
        go_wp2
        go_ret
        exact ⟨rfl, Xr.updNew uz hnew⟩
      | succ kk =>
        have b0 : decide ((K : Int) < 3) = true := decide_eq_true (by omega)
        have hk3 : K < 3 := by omega
        have hki : (K : Int) < 3 := by omega
        go_wp2_with fail
        go_loopg [10, 16] 60 (fun kk2 did iv wx => ∃ (j : Nat) (who : Nat → Option Fl.Access) (Fs : Nat → List Nat) (dd : Int) (σ : Fl.Mem), did = .int .i64 dd ∧ iv = .int .i64 (j : Int) ∧ j + kk2 = 60 ∧ Fl.CountInv (500 + 60 * K + j) σ who old dd ∧ MemAt wx l σ ∧ Many OptAt (has who) wx l B Fs who W.heap.size [eb, wb, ob] ∧ wx.heap[eb]? = some (.cells #[.int .i64 4, .int .i64 4, .int .i64 2, .int .i64 20, .int .i64 100, .int .i64 600, .int .i64 3, .pointer (some ⟨l.m, 0, none⟩), .int .i64 0] 27) ∧ wx.heap[wb]? = some (.cells (arr3 (wptr who B)) 78 (0, 0)) ∧ wx.heap[ob]? = some (.cells (arr3 (fun k => .int .i64 (old k))) 79 (0, 0)) ∧ Ext W wx)
        case atStart => exact ⟨0, who, Fs, dd, σ, rfl, rfl, by omega, HI.out, hr, hM, HEr.out, HOr.out, HDr.out, Xr⟩
        case round =>
          clear hr hM HEr HOr HDr Xr HI
          obtain ⟨j, who, Fs, dd, σ, rfl, rfl, hj, hI, hr, hM, hE, hO, hD, Xr⟩ := hrel
          have HI := Lib.hid hI
          have HEr := Lib.hid hE
          have HOr := Lib.hid hO
          have HDr := Lib.hid hD
          clear hE hO hD hI
          have c_HEr_wr := fun w' o (k : Ext wr w') => k.cellOf HEr.out o
          have f_HEr_wr := fun w' o (k : Ext wr w') => frozen_of (k.keep HEr.out) o
          have r_HEr_wr := Ext.refl wr
          have iw : IntKind.i64.wrap ((j : Int) + 1) = (j : Int) + 1 := IntWalk.i64_in _ (by omega)
          have ck := fun w' (u : Ext wr w') => arr3_cell HDr.out hk3 u
          have cw := fun w' (u : Ext wr w') => arr3_cell HOr.out hk3 u
          have rr := Ext.refl wr
          cases gk with
          | zero =>
            have hj6 : j = 60 := hj
            have c1 : decide ((j : Int) < 60) = false := decide_eq_false (by omega)
            go_wp2_with fail
            go_roundg kk
            case measure => omega
            case rel => exact ⟨K + 1, who, Fs, dd, σ, rfl, by simp, by omega, HI.out.later _ (by omega), hr, hM, HEr.out, HOr.out, HDr.out, Xr⟩
          | succ kk2 =>
            have c1 : decide ((j : Int) < 60) = true := decide_eq_true (by omega)
            cases hwk : who K with
            | none =>
              have ew : wptr who B K = .pointer none := by unfold wptr; rw [hwk]
              rw [ew] at cw
              go_wp2_with fail
              go_roundg kk
              case measure => omega
              case rel => exact ⟨K + 1, who, Fs, dd, σ, rfl, by simp, by omega, HI.out.later _ (by omega), hr, hM, HEr.out, HOr.out, HDr.out, Xr⟩
            | some a =>
              have ew : wptr who B K = .pointer (some ⟨B K, 0, none⟩) := by unfold wptr; rw [hwk]
              rw [ew] at cw
              go_wp2_with fail
              refine wp_region_plan (Ext wr) [] [0, 1, 2, 3] 4 [5] Try.mixed (by kernel_rfl) (by intro c a d v w h; cases d <;> exact h) (Ext.refl _).drew ?_
              simp only [opsAt, List.filterMap_cons, List.filterMap_nil, List.getElem?_toArray, List.getElem?_cons_zero, List.getElem?_cons_succ]
              refine Firsts.nil ?_
              (refine Heads.val (v := ?_) rfl (fun wv hwv => ?_) ?_; rotate_left; (go_simp; with_reducible rfl); simp only [Act.put, List.setIfInBounds_toArray, List.set_cons_zero, List.set_cons_succ])
              (refine Heads.val (v := ?_) rfl (fun wv hwv => ?_) ?_; rotate_left; (go_simp; with_reducible rfl); simp only [Act.put, List.setIfInBounds_toArray, List.set_cons_zero, List.set_cons_succ])
              (refine Heads.val (v := ?_) rfl (fun wv hwv => ?_) ?_; rotate_left; (go_simp; with_reducible rfl); simp only [Act.put, List.setIfInBounds_toArray, List.set_cons_zero, List.set_cons_succ])
              (refine Heads.val (v := ?_) rfl (fun wv hwv => ?_) ?_; rotate_left; (go_simp; with_reducible rfl); simp only [Act.put, List.setIfInBounds_toArray, List.set_cons_zero, List.set_cons_succ])
              refine Heads.nil ?_
              intro w6 hw6
              go_wp2_with fail
              have hst := HI.out.step (by omega) hk3 hwk
              have hat := hM.is K (has_of hk3 hwk)
              obtain ⟨a2, e2, hat⟩ := hat
              have e3 : a2 = a := by rw [hwk] at e2; cases e2; rfl
              subst e3
              refine (x_step Fl.cD l σ 0 (Fs K) (B K) a2 _ gc (hr.ext hw6) (by have := HI.out.steps; omega) (hat.kept (hw6.upd []) (by simp)) (HI.out.idx hk3 hwk)).mono ?_
              rintro e w9 ⟨rfl, h9, u9, F', ha9, hF'⟩
              have u9r := Upd.extL hw6 u9
              have zz : eb < wr.heap.size ∧ wb < wr.heap.size ∧ ob < wr.heap.size := ⟨lt_of_heap HEr.out, lt_of_heap HOr.out, lt_of_heap HDr.out⟩
              have hM9 := hM.step keepsOpt (has_of hk3 hwk) u9r (a := some (a2.step Fl.cD 0 σ).2.1) ⟨_, rfl, ha9⟩ (fun x hx => (hF' x hx).imp id (fun h => Nat.le_trans hw6.size h)) Xr.size (by intro x hx; simp only [List.mem_cons, List.not_mem_nil, or_false] at hx; rcases hx with hx | hx | hx <;> omega)
              have hM9' := hM9.less (c' := has (Fl.at4 who K (some (a2.step Fl.cD 0 σ).2.1))) (has_step hwk)
              have HE9 := Lib.hid (u9r.keep HEr.out (hM.far keepsOpt (has_of hk3 hwk) (by simp) hbe))
              have HO9 := Lib.hid (u9r.keep HOr.out (hM.far keepsOpt (has_of hk3 hwk) (by simp) hwl.1))
              have HD9 := Lib.hid (u9r.keep HDr.out (hM.far keepsOpt (has_of hk3 hwk) (by simp) hwl.2))
              have X9 := Xr.updNew u9r (fun x hx => by
                rcases List.mem_append.1 hx with h | h
                · exact (hM.lo K (has_of hk3 hwk) x h).1
                · exact hnew x h)
              clear hM9
              generalize a2.step Fl.cD 0 σ = st at *
              obtain ⟨y, a', σ'⟩ := st
              simp only at h9 hM9' hst ha9
              have HST := Lib.hid hst
              have hbo := HI.out.small
              clear hst ck cw c_HEr_wr f_HEr_wr r_HEr_wr rr
              cases y
              · rw [← wptr_step B a' hwk] at HO9
                go_wp2_with fail
                go_roundg kk2
                case measure => omega
                case rel => exact ⟨j + 1, Fl.at4 who K (some a'), Fl.at4 Fs K F', dd, σ', rfl, by simp, by omega, (by first | exact HST.out.1 rfl | exact HST.out.1 trivial | exact HST.out.1), h9, hM9', HE9.out, HO9.out, HD9.out, X9⟩
              · have cw := fun w' (u : Ext w9 w') => arr3_cell HO9.out hk3 u
                rw [ew] at cw
                have r9 := Ext.refl w9
                go_wp2_with fail
                refine (x_done l F' (B K) a' _ ha9).mono ?_
                rintro e w10 ⟨rfl, x10⟩
                clear cw r9
                have HE10 := Lib.hid (x10.keep HE9.out)
                have HO10 := Lib.hid (x10.keep HO9.out)
                have HD10 := Lib.hid (x10.keep HD9.out)
                have iwd : IntKind.i64.wrap (dd + 1) = dd + 1 := IntWalk.i64_in _ (by omega)
                have hfin := HST.out.2
                have hfin' : (old K ≥ 0 ∧ a'.out.e = 0 ∧ (∀ o, -1 ≤ o → o ≤ old K → Fl.CountInv (500 + 60 * K + j + 1) σ' (Fl.at4 who K none) (Fl.at4 old K o) (dd + 1))) ∨
                  ((old K < 0 ∧ a'.out.e = 0 ∨ old K ≥ 0 ∧ a'.out.e = 8) ∧ Fl.CountInv (500 + 60 * K + j + 1) σ' (Fl.at4 who K none) (Fl.at4 old K a'.out.value) dd ∧ Fl.CountInv (500 + 60 * K + j + 1) σ' (Fl.at4 who K none) old dd) := by first | exact hfin rfl | exact hfin trivial | exact hfin
                clear hfin HST
                rcases hfin' with ⟨ho, he, hc⟩ | ⟨⟨ho, he⟩ | ⟨ho, he⟩, _, hc⟩
                · have hc1 := hc (old K) (hbo.2.2 K hk3).1 (Int.le_refl _)
                  rw [at4_self] at hc1
                  have hc' := Lib.hid hc1
                  clear hc hc1
                  have g0 : decide (old K ≥ 0) = true := decide_eq_true (by omega)
                  rw [he]
                  have HOB := Lib.hid (heap_set HO10.out K (.pointer none))
                  have HEB := Lib.hid (heap_far HE10.out (p := ⟨wb, K, none⟩) nwe.1 (.pointer none))
                  have HDB := Lib.hid (heap_far HD10.out (p := ⟨wb, K, none⟩) nwd.symm (.pointer none))
                  have uB := (Upd.refl [wb] w10).set1 K (.pointer none)
                  rw [arr3_set, wptr_end] at HOB
                  have c10 := fun w' (u : Ext w10 w') => arr3_cell HO10.out hk3 u
                  have d10 := fun w' (u : Ext w10 w') => arr3_cell HD10.out hk3 u
                  have f10 := fun w' (u : Ext w10 w') => frozen_of (u.keep HO10.out) K
                  have r10 := Ext.refl w10
                  go_wp2_with fail
                  clear c10 d10 f10 r10
                  generalize World.setCell w10 ⟨wb, K, none⟩ (.pointer none) = wB at *
                  go_roundg kk2
                  case measure => omega
                  case rel =>
                    refine ⟨j + 1, Fl.at4 who K none, Fl.at4 Fs K F', (dd + 1), σ', rfl, by simp, by omega, hc'.out, (h9.ext x10).keep1 uB hwl.1, ?_, HEB.out, HOB.out, HDB.out, ?_⟩
                    · have := ((hM9'.ext keepsOpt x10).keep keepsOpt uB (by simp)).gone K
                      rw [at4_at4] at this
                      exact this
                    · exact (X9.trans x10).updNew uB (by intro x hx; rw [List.mem_singleton.1 hx]; exact hzW)
                · have hc' := Lib.hid hc
                  clear hc
                  have g0 : decide (old K ≥ 0) = false := decide_eq_false (by omega)
                  rw [he]
                  have HOB := Lib.hid (heap_set HO10.out K (.pointer none))
                  have HEB := Lib.hid (heap_far HE10.out (p := ⟨wb, K, none⟩) nwe.1 (.pointer none))
                  have HDB := Lib.hid (heap_far HD10.out (p := ⟨wb, K, none⟩) nwd.symm (.pointer none))
                  have uB := (Upd.refl [wb] w10).set1 K (.pointer none)
                  rw [arr3_set, wptr_end] at HOB
                  have c10 := fun w' (u : Ext w10 w') => arr3_cell HO10.out hk3 u
                  have d10 := fun w' (u : Ext w10 w') => arr3_cell HD10.out hk3 u
                  have f10 := fun w' (u : Ext w10 w') => frozen_of (u.keep HO10.out) K
                  have r10 := Ext.refl w10
                  go_wp2_with fail
                  clear c10 d10 f10 r10
                  generalize World.setCell w10 ⟨wb, K, none⟩ (.pointer none) = wB at *
                  go_roundg kk2
                  case measure => omega
                  case rel =>
                    refine ⟨j + 1, Fl.at4 who K none, Fl.at4 Fs K F', dd, σ', rfl, by simp, by omega, hc'.out, (h9.ext x10).keep1 uB hwl.1, ?_, HEB.out, HOB.out, HDB.out, ?_⟩
                    · have := ((hM9'.ext keepsOpt x10).keep keepsOpt uB (by simp)).gone K
                      rw [at4_at4] at this
                      exact this
                    · exact (X9.trans x10).updNew uB (by intro x hx; rw [List.mem_singleton.1 hx]; exact hzW)
                · have hc' := Lib.hid hc
                  clear hc
                  have g0 : decide (old K ≥ 0) = true := decide_eq_true (by omega)
                  rw [he]
                  have HOB := Lib.hid (heap_set HO10.out K (.pointer none))
                  have HEB := Lib.hid (heap_far HE10.out (p := ⟨wb, K, none⟩) nwe.1 (.pointer none))
                  have HDB := Lib.hid (heap_far HD10.out (p := ⟨wb, K, none⟩) nwd.symm (.pointer none))
                  have uB := (Upd.refl [wb] w10).set1 K (.pointer none)
                  rw [arr3_set, wptr_end] at HOB
                  have c10 := fun w' (u : Ext w10 w') => arr3_cell HO10.out hk3 u
                  have d10 := fun w' (u : Ext w10 w') => arr3_cell HD10.out hk3 u
                  have f10 := fun w' (u : Ext w10 w') => frozen_of (u.keep HO10.out) K
                  have r10 := Ext.refl w10
                  go_wp2_with fail
                  clear c10 d10 f10 r10
                  generalize World.setCell w10 ⟨wb, K, none⟩ (.pointer none) = wB at *
                  go_roundg kk2
                  case measure => omega
                  case rel =>
                    refine ⟨j + 1, Fl.at4 who K none, Fl.at4 Fs K F', dd, σ', rfl, by simp, by omega, hc'.out, (h9.ext x10).keep1 uB hwl.1, ?_, HEB.out, HOB.out, HDB.out, ?_⟩
                    · have := ((hM9'.ext keepsOpt x10).keep keepsOpt uB (by simp)).gone K
                      rw [at4_at4] at this
                      exact this
                    · exact (X9.trans x10).updNew uB (by intro x hx; rw [List.mem_singleton.1 hx]; exact hzW)

end Go.Proofs.Ythblhgappldcjaa
