/- AccessLast: the walk. -/
import Derived.Test.YthblhgappldcjaaXh
import Derived.Test.YthblhgappldcjaaWa
import Derived.Test.YthblhgappldcjaaPk
import Derived.Test.YthblhgappldcjaaSb
import Derived.Test.YthblhgappldcjaaVa
import Derived.Deep.CutBlock
import Derived.Deep.DeepCutAuto
namespace Go.Proofs.Ythblhgappldcjaa
open Go Go.RowKit
set_option linter.unusedVariables false

theorem field_d3x (x0 x1 x2 x3 : Value) (w : World) : (Instr.field 34 (.agg #[x0, x1, x2, x3]) 2).run Try.prog w = .ok x2 w := by
  simp [go_sem, Instr.field, asAgg]



set_option maxHeartbeats 8000000 in
set_option maxRecDepth 100000 in
theorem w_accessLast (many : Int) (q : Option Addr) (len cap : Nat) (z : Nat → Int) (W : World) (hq : ∀ i, i < len → ∃ a, q = some a ∧ a.block < W.heap.size ∧ W.cell? (a.add i) = some (.int .i64 (z i))) :
    Calls Try.prog 13 #[.int .i64 many, .slice q len cap] W fun e w' => e = .returned (.bool true) ∧ Ext W w' := by
  have fl1 := field_done1
  have fl0 := field_done0
  have fl2 := field_d3x
  have ia := iand3 many
  obtain ⟨n, hn, hn1⟩ : ∃ n : Nat, 1 + many % 4 = (n : Int) ∧ 1 ≤ n ∧ n ≤ 4 := ⟨(1 + many % 4).toNat, by omega, by omega, by omega⟩
  have hwn : IntKind.i64.wrap (n : Int) = (n : Int) := IntWalk.i64_in _ (by omega)
  have HN := Lib.hid hn1
  have HQ := Lib.hid hq
  clear hq hn1
  have gc := goodD4
  go_enter Try.func13, Try.ntmps13
  go_wp2_with fail
  refine (n_arena 4 4 2 20 _ goodD4).mono ?_
  rintro e w1 ⟨l, rfl, h1, x1, hnew⟩
  have hE := heap_new w1 (.cells #[.int .i64 4, .int .i64 4, .int .i64 2, .int .i64 20, .int .i64 100, .int .i64 600, .int .i64 3, .pointer (some ⟨l.m, 0, none⟩), .int .i64 0] 27)
  have hX := (Ext.refl w1).alloc (.cells #[.int .i64 4, .int .i64 4, .int .i64 2, .int .i64 20, .int .i64 100, .int .i64 600, .int .i64 3, .pointer (some ⟨l.m, 0, none⟩), .int .i64 0] 27)
  have hlt := h1.lt
  go_wp2_with fail
  generalize w1.alloc (.cells #[.int .i64 4, .int .i64 4, .int .i64 2, .int .i64 20, .int .i64 100, .int .i64 600, .int .i64 3, .pointer (some ⟨l.m, 0, none⟩), .int .i64 0] 27) = w2 at *
  have hb1 : W.heap.size ≤ w1.heap.size := x1.size
  have hbe : w1.heap.size ∉ l.all := fun hm => by have := hlt _ hm; omega
  generalize w1.heap.size = eb at *
  refine (awake10 _).mono ?_
  rintro e w3 ⟨rfl, x3⟩
  have HE3 := Lib.hid (x3.keep hE)
  have h3 := h1.ext (hX.trans x3)
  have X3 := x1.trans (hX.trans x3)
  clear hE h1 hX x3 x1
  have c_HE3_w3 := fun w' o (k : Ext w3 w') => k.cellOf HE3.out o
  have f_HE3_w3 := fun w' o (k : Ext w3 w') => frozen_of (k.keep HE3.out) o
  have r_HE3_w3 := Ext.refl w3
  go_wp2_with fail
  refine (n_make Fl.cD l (Fl.fresh Fl.cD) 0 1 false w3 gc h3 (Fl.Alloc.safe_of _ _ _ Fl.eA_safe)).mono ?_
  rintro e w4 ⟨rfl, h4', u4⟩
  have h4 : MemAt w4 l Fl.eA.2 := h4'
  clear h4'
  rw [Fl.eA_out]
  have HE4 := Lib.hid (u4.keep HE3.out hbe)
  have z4 := lt_of_heap HE4.out
  have X4 := X3.updNew u4 hnew
  have hlt4 := h4.lt
  clear c_HE3_w3 f_HE3_w3 r_HE3_w3 X3 h3 u4
  have c_HE4_w4 := fun w' o (k : Ext w4 w') => k.cellOf HE4.out o
  have f_HE4_w4 := fun w' o (k : Ext w4 w') => frozen_of (k.keep HE4.out) o
  have r_HE4_w4 := Ext.refl w4
  go_upto_block 0 with fail
  have zo1 : (w4.alloc (.cells #[.pointer none, .pointer none, .pointer none, .pointer none] 82)).heap.size = w4.heap.size + 1 := by simp
  have hO : ((w4.alloc (.cells #[.pointer none, .pointer none, .pointer none, .pointer none] 82)).alloc (.cells #[.bool false, .bool false, .bool false, .bool false] 38)).heap[w4.heap.size]? = some (.cells (arr4 (ptrs 0 (fun _ => 0))) 82 (0, 0)) := heap_old (heap_new w4 _)
  have hD : ((w4.alloc (.cells #[.pointer none, .pointer none, .pointer none, .pointer none] 82)).alloc (.cells #[.bool false, .bool false, .bool false, .bool false] 38)).heap[(w4.alloc (.cells #[.pointer none, .pointer none, .pointer none, .pointer none] 82)).heap.size]? = some (.cells (arr4 (fun k => .bool ((fun _ => false) k))) 38 (0, 0)) := heap_new _ _
  rw [zo1] at hD
  have x6 := ((Ext.refl w4).alloc (.cells #[.pointer none, .pointer none, .pointer none, .pointer none] 82)).alloc (.cells #[.bool false, .bool false, .bool false, .bool false] 38)
  clear zo1
  generalize (w4.alloc (.cells #[.pointer none, .pointer none, .pointer none, .pointer none] 82)).alloc (.cells #[.bool false, .bool false, .bool false, .bool false] 38) = w6 at *
  have HE6 := Lib.hid (x6.keep HE4.out)
  have h6 := h4.ext x6
  have X6 := X4.trans x6
  have hzW : W.heap.size ≤ w4.heap.size := X4.size
  have nwd : w4.heap.size ≠ w4.heap.size + 1 := by omega
  have nwe : eb ≠ w4.heap.size ∧ eb ≠ w4.heap.size + 1 := by omega
  have hwl : w4.heap.size ∉ l.all ∧ w4.heap.size + 1 ∉ l.all := ⟨fun hm => by have := hlt4 _ hm; omega, fun hm => by have := hlt4 _ hm; omega⟩
  have hWn : W.heap.size ≤ w4.heap.size + 1 := by omega
  generalize w4.heap.size + 1 = db at *
  generalize w4.heap.size = wb at *
  have HO6 := Lib.hid hO
  have HD6 := Lib.hid hD
  clear hO hD c_HE4_w4 f_HE4_w4 r_HE4_w4 x6 h4
  go_wp2_with fail
  go_loopg [13] n (fun kk i wr => ∃ (j : Nat) (B : Nat → Nat) (Fs : Nat → List Nat) (ds : Nat → Fl.Access), i = .int .i64 (j : Int) ∧ j + kk = n ∧ MemAt wr l Fl.eA.2 ∧ Many AccessAt (fun k => k < j) wr l B Fs ds W.heap.size [eb, wb, db] ∧ (∀ k, k < j → ds k = Fl.Access.new (Fl.lX k) false) ∧ wr.heap[eb]? = some (.cells #[.int .i64 4, .int .i64 4, .int .i64 2, .int .i64 20, .int .i64 100, .int .i64 600, .int .i64 3, .pointer (some ⟨l.m, 0, none⟩), .int .i64 0] 27) ∧ wr.heap[wb]? = some (.cells (arr4 (ptrs j B)) 82 (0, 0)) ∧ wr.heap[db]? = some (.cells (arr4 (fun k => .bool ((fun _ => false) k))) 38 (0, 0)) ∧ Ext W wr)
  case atStart =>
    exact ⟨0, fun _ => 0, fun _ => [], fun k => Fl.Access.new (Fl.lX k) false, rfl, by omega, h6, Many.none (fun k hk => by omega), fun k hk => by omega, HE6.out, HO6.out, HD6.out, X6⟩
  case round =>
    obtain ⟨j, B, Fs, ds, rfl, hj, hr, hM, hds, hE, hO, hD, Xr⟩ := hrel
    have HEr := Lib.hid hE
    have HOr := Lib.hid hO
    have HDr := Lib.hid hD
    clear hE hO hD
    cases gk with
    | zero =>
      have hjn : n = j := hj.symm
      have b0 : decide ((j : Int) < (n : Int)) = false := decide_eq_false (by omega)
      clear hj
      subst hjn
      have hI0 := Lib.hid (Fl.LastInv.start n ds hds)
      clear hds
      go_wp2_with fail
      go_loopg [11, 12, 14, 15, 16] 400 (fun kk won value i kv dv wr => ∃ (j : Nat) (ds : Nat → Fl.Access) (Fs : Nat → List Nat) (dn : Nat → Bool) (wn vl : Int) (σ : Fl.Mem), won = .int .i64 wn ∧ value = .int .i64 vl ∧ i = .int .i64 (j : Int) ∧ j + kk = 400 ∧ Fl.LastInv n j σ ds dn wn vl ∧ MemAt wr l σ ∧ Many AccessAt (fun k => k < n) wr l B Fs ds W.heap.size [eb, wb, db] ∧ wr.heap[eb]? = some (.cells #[.int .i64 4, .int .i64 4, .int .i64 2, .int .i64 20, .int .i64 100, .int .i64 600, .int .i64 3, .pointer (some ⟨l.m, 0, none⟩), .int .i64 0] 27) ∧ wr.heap[wb]? = some (.cells (arr4 (ptrs n B)) 82 (0, 0)) ∧ wr.heap[db]? = some (.cells (arr4 (fun k => .bool (dn k))) 38 (0, 0)) ∧ Ext W wr)
      case atStart =>
        exact ⟨0, ds, Fs, _, 0, 0, _, rfl, rfl, rfl, by omega, hI0.out, hr, hM, HEr.out, HOr.out, HDr.out, Xr⟩
      case round =>
        clear hr hM HEr HOr HDr Xr
        rename_i wr0
        obtain ⟨j, ds, Fs, dn, wn, vl, σ, rfl, rfl, rfl, hj, hI, hr, hM, hE, hO, hD, Xr⟩ := hrel
        have HI := Lib.hid hI
        have HEr := Lib.hid hE
        have HOr := Lib.hid hO
        have HDr := Lib.hid hD
        clear hE hO hD hI
        have c_HEr_wr := fun w' o (k : Ext wr w') => k.cellOf HEr.out o
        have f_HEr_wr := fun w' o (k : Ext wr w') => frozen_of (k.keep HEr.out) o
        have r_HEr_wr := Ext.refl wr
        have iw : IntKind.i64.wrap ((j : Int) + 1) = (j : Int) + 1 := IntWalk.i64_in _ (by omega)
        cases gk with
        | zero =>
          have hj2 : j = 400 := hj
          have b0 : decide ((j : Int) < 400) = false := decide_eq_false (by omega)
          clear hj
          subst hj2
          obtain ⟨hall, hv1⟩ := HI.out.final HN.out
          have hstp := HI.out.steps
          go_wp2_with fail
          go_loopg [17] n (fun kk i wx => ∃ j : Nat, i = .int .i64 (j : Int) ∧ j + kk = n ∧ wx = wr)
          case atStart => exact ⟨0, rfl, by omega, rfl⟩
          case round =>
            obtain ⟨j, rfl, hj, rfl⟩ := hrel
            have iw : IntKind.i64.wrap ((j : Int) + 1) = (j : Int) + 1 := IntWalk.i64_in _ (by have := HN.out; omega)
            cases gk with
            | zero =>
              have hjn : j = n := hj
              have b0 : decide ((j : Int) < (n : Int)) = false := decide_eq_false (by omega)
              clear hj
              go_wp2_with fail
              refine (n_do Fl.cD l σ 0 ⟨1, 65536, 0, 0, 0⟩ false _ gc hr (by decide) (by omega)).mono ?_
              rintro e wz ⟨rfl, hz, uz⟩
              rw [hv1]
              go_wp2
              go_ret
              exact ⟨rfl, Xr.updNew uz hnew⟩
            | succ kk =>
              have hjn : j < n := by omega
              have b0 : decide ((j : Int) < (n : Int)) = true := decide_eq_true (by omega)
              have hk4 : j < 4 := by have := HN.out; omega
              have hki : (j : Int) < 4 := by omega
              have ck := fun w' (u : Ext wr w') => arr4_cell HDr.out hk4 u
              simp only [hall j hjn] at ck
              have rr := Ext.refl wr
              go_wp2_with fail
              go_roundg kk
              case measure => omega
              case rel => exact ⟨j + 1, by simp, by omega, rfl⟩
        | succ kk =>
          have b0 : decide ((j : Int) < 400) = true := decide_eq_true (by omega)
          by_cases c0 : j < len
          · have c1 : decide ((j : Int) < len) = true := decide_eq_true (by omega)
            by_cases d0 : j < 150
            · have d1 : decide ((j : Int) < 150) = true := decide_eq_true (by omega)
              obtain ⟨aa, rfl, hblk, hcell⟩ := HQ.out j c0
              have hcl : wr.cell? (aa.add j) = some (.int .i64 (z j)) := (cell_kept (by rw [addr_block]; exact Xr.block hblk)).trans hcell
              obtain ⟨k, hk, hpk, r1, r2⟩ := pick_rem (z j) n HN.out
              have hp : j < 150 ∨ k = j % n := Or.inl d0
              go_wp2_with fail
              have hk4 : k < 4 := by have := HN.out; omega
              have hki : (k : Int) < 4 := by omega
              have ck := fun w' (u : Ext wr w') => arr4_cell HDr.out hk4 u
              have ek : ptrs n B k = .pointer (some ⟨B k, 0, none⟩) := if_pos hk
              have cw := fun w' (u : Ext wr w') => arr4_cell HOr.out hk4 u
              rw [ek] at cw
              have HP := Lib.hid hp
              clear hp ek
              cases hdk : dn k
              · simp only [hdk] at ck
                refine wp_region_plan (Ext wr) [] [0, 1, 2, 3, 4, 5, 6, 7] 8 [9, 10] Try.mixed (by kernel_rfl) (by intro c a d v w h; cases d <;> exact h) (Ext.refl _).drew ?_
                simp only [opsAt, List.filterMap_cons, List.filterMap_nil, List.getElem?_toArray, List.getElem?_cons_zero, List.getElem?_cons_succ]
                refine Firsts.nil ?_
                (refine Heads.val (v := ?_) rfl (fun wv hwv => ?_) ?_; rotate_left; (go_simp; with_reducible rfl); simp only [Act.put, List.setIfInBounds_toArray, List.set_cons_zero, List.set_cons_succ])
                (refine Heads.val (v := ?_) rfl (fun wv hwv => ?_) ?_; rotate_left; (go_simp; with_reducible rfl); simp only [Act.put, List.setIfInBounds_toArray, List.set_cons_zero, List.set_cons_succ])
                (refine Heads.val (v := ?_) rfl (fun wv hwv => ?_) ?_; rotate_left; (go_simp; with_reducible rfl); simp only [Act.put, List.setIfInBounds_toArray, List.set_cons_zero, List.set_cons_succ])
                (refine Heads.val (v := ?_) rfl (fun wv hwv => ?_) ?_; rotate_left; (go_simp; with_reducible rfl); simp only [Act.put, List.setIfInBounds_toArray, List.set_cons_zero, List.set_cons_succ])
                (first | (refine Heads.val (v := ?_) rfl (fun wv hwv => ?_) ?_; rotate_left; (go_simp; with_reducible rfl); simp only [Act.put, List.setIfInBounds_toArray, List.set_cons_zero, List.set_cons_succ]) | (refine Heads.skip rfl ?_; simp only [Act.put, List.setIfInBounds_toArray, List.set_cons_zero, List.set_cons_succ]))
                (first | (refine Heads.val (v := ?_) rfl (fun wv hwv => ?_) ?_; rotate_left; (go_simp; with_reducible rfl); simp only [Act.put, List.setIfInBounds_toArray, List.set_cons_zero, List.set_cons_succ]) | (refine Heads.skip rfl ?_; simp only [Act.put, List.setIfInBounds_toArray, List.set_cons_zero, List.set_cons_succ]))
                (first | (refine Heads.val (v := ?_) rfl (fun wv hwv => ?_) ?_; rotate_left; (go_simp; with_reducible rfl); simp only [Act.put, List.setIfInBounds_toArray, List.set_cons_zero, List.set_cons_succ]) | (refine Heads.skip rfl ?_; simp only [Act.put, List.setIfInBounds_toArray, List.set_cons_zero, List.set_cons_succ]))
                (first | (refine Heads.val (v := ?_) rfl (fun wv hwv => ?_) ?_; rotate_left; (go_simp; with_reducible rfl); simp only [Act.put, List.setIfInBounds_toArray, List.set_cons_zero, List.set_cons_succ]) | (refine Heads.skip rfl ?_; simp only [Act.put, List.setIfInBounds_toArray, List.set_cons_zero, List.set_cons_succ]))
                refine Heads.nil ?_
                intro w6 hw6
                go_wp2_with fail
                have hst := HI.out.step HN.out hk HP.out hdk
                refine (x_step Fl.cD l σ 0 (Fs k) (B k) (ds k) _ gc (hr.ext hw6) (by have := HI.out.steps; omega) ((hM.is k hk).kept (hw6.upd []) (by simp)) (HI.out.idx hk hdk)).mono ?_
                rintro e w7 ⟨rfl, h7, u7, F', hd7, hF'⟩
                have u7r := Upd.extL hw6 u7
                have zz : eb < wr.heap.size ∧ wb < wr.heap.size ∧ db < wr.heap.size := ⟨lt_of_heap HEr.out, lt_of_heap HOr.out, lt_of_heap HDr.out⟩
                have hM7 := hM.step keepsAccess hk u7r hd7 (fun x hx => (hF' x hx).imp id (fun h => Nat.le_trans hw6.size h)) Xr.size (by intro x hx; simp only [List.mem_cons, List.not_mem_nil, or_false] at hx; rcases hx with hx | hx | hx <;> omega)
                have HE7 := Lib.hid (u7r.keep HEr.out (hM.far keepsAccess hk (by simp) hbe))
                have HO7 := Lib.hid (u7r.keep HOr.out (hM.far keepsAccess hk (by simp) hwl.1))
                have HD7 := Lib.hid (u7r.keep HDr.out (hM.far keepsAccess hk (by simp) hwl.2))
                have X7 := Xr.updNew u7r (fun x hx => by
                  rcases List.mem_append.1 hx with h | h
                  · exact (hM.lo k hk x h).1
                  · exact hnew x h)
                generalize (ds k).step Fl.cD 0 σ = st at *
                obtain ⟨y, d', σ'⟩ := st
                simp only at h7 hM7 hst hd7
                have HST := Lib.hid hst
                clear hst ck cw
                cases y
                · go_wp2_with fail
                  go_roundg kk
                  case measure => omega
                  case rel => exact ⟨j + 1, _, _, dn, wn, vl, σ', rfl, rfl, by simp, by omega, (by first | exact HST.out.1 rfl | exact HST.out.1 trivial | exact HST.out.1), h7, hM7, HE7.out, HO7.out, HD7.out, X7⟩
                · have ck := fun w' (u : Ext w7 w') => arr4_cell HD7.out hk4 u
                  have fk := fun w' (u : Ext w7 w') => frozen_of (u.keep HD7.out) k
                  have cw := fun w' (u : Ext w7 w') => arr4_cell HO7.out hk4 u
                  rw [show ptrs n B k = .pointer (some ⟨B k, 0, none⟩) from if_pos hk] at cw
                  have r7 := Ext.refl w7
                  go_wp2_with fail
                  have HD8 := Lib.hid (heap_set HD7.out k (.bool true))
                  have HE8 := Lib.hid (heap_far HE7.out (p := ⟨db, k, none⟩) nwe.2 (.bool true))
                  have HO8 := Lib.hid (heap_far HO7.out (p := ⟨db, k, none⟩) nwd (.bool true))
                  have u8 := (Upd.refl [db] w7).set1 k (.bool true)
                  rw [arr4_set, bools_next] at HD8
                  generalize World.setCell w7 ⟨db, k, none⟩ (.bool true) = w8 at *
                  have hM8 := hM7.keep keepsAccess u8 (by simp)
                  have hd8 := hM8.is k hk
                  rw [Fl.at4_same, Fl.at4_same] at hd8
                  have h8 := h7.keep1 u8 hwl.2
                  have X8 := X7.updNew u8 (by intro x hx; rw [List.mem_singleton.1 hx]; exact hWn)
                  refine (x_done l F' (B k) d' _ hd8).mono ?_
                  rintro e w9 ⟨rfl, x9⟩
                  have iwv : IntKind.i64.wrap (10 + (k : Int)) = 10 + (k : Int) := IntWalk.i64_in _ (by omega)
                  clear ck fk cw r7
                  have hfin : d'.out.e = 0 ∧ d'.out.stamp > wn ∧ Fl.LastInv n (j + 1) σ' (Fl.at4 ds k d') (Fl.at4 dn k true) d'.out.stamp (10 + k) := by first | exact HST.out.2 rfl | exact HST.out.2 trivial | exact HST.out.2
                  have xA := (Ext.refl w9).alloc (.cells #[.int .i64 d'.out.e, .int .u64 (d'.out.handle : Nat), .int .i64 d'.out.value, .int .i64 d'.out.stamp] 34)
                  have x10 := x9.trans xA
                  obtain ⟨he, hgt, hI9⟩ := hfin
                  have HI9 := Lib.hid hI9
                  clear hI9 HST
                  have g1 : decide (d'.out.stamp > wn) = true := decide_eq_true hgt
                  have g2 : (d'.out.stamp == wn) = false := beq_eq_false_iff_ne.2 (by omega)
                  have g3 : decide (d'.out.stamp = wn) = false := decide_eq_false (by omega)
                  rw [he]
                  rw [he] at x10
                  go_wp2_with fail
                  go_roundg kk
                  case measure => omega
                  case rel => exact ⟨j + 1, _, _, _, d'.out.stamp, 10 + (k : Int), σ', rfl, rfl, by simp, by omega, HI9.out, h8.ext x10, hM8.ext keepsAccess x10, x10.keep HE8.out, x10.keep HO8.out, x10.keep HD8.out, X8.trans x10⟩
              · simp only [hdk] at ck
                refine wp_region_plan (Ext wr) [] [0, 1, 2, 3, 4, 5, 6, 7] 8 [9, 10] Try.mixed (by kernel_rfl) (by intro c a d v w h; cases d <;> exact h) (Ext.refl _).drew ?_
                simp only [opsAt, List.filterMap_cons, List.filterMap_nil, List.getElem?_toArray, List.getElem?_cons_zero, List.getElem?_cons_succ]
                refine Firsts.nil ?_
                (refine Heads.val (v := ?_) rfl (fun wv hwv => ?_) ?_; rotate_left; (go_simp; with_reducible rfl); simp only [Act.put, List.setIfInBounds_toArray, List.set_cons_zero, List.set_cons_succ])
                (refine Heads.val (v := ?_) rfl (fun wv hwv => ?_) ?_; rotate_left; (go_simp; with_reducible rfl); simp only [Act.put, List.setIfInBounds_toArray, List.set_cons_zero, List.set_cons_succ])
                (refine Heads.val (v := ?_) rfl (fun wv hwv => ?_) ?_; rotate_left; (go_simp; with_reducible rfl); simp only [Act.put, List.setIfInBounds_toArray, List.set_cons_zero, List.set_cons_succ])
                (refine Heads.val (v := ?_) rfl (fun wv hwv => ?_) ?_; rotate_left; (go_simp; with_reducible rfl); simp only [Act.put, List.setIfInBounds_toArray, List.set_cons_zero, List.set_cons_succ])
                (first | (refine Heads.val (v := ?_) rfl (fun wv hwv => ?_) ?_; rotate_left; (go_simp; with_reducible rfl); simp only [Act.put, List.setIfInBounds_toArray, List.set_cons_zero, List.set_cons_succ]) | (refine Heads.skip rfl ?_; simp only [Act.put, List.setIfInBounds_toArray, List.set_cons_zero, List.set_cons_succ]))
                (first | (refine Heads.val (v := ?_) rfl (fun wv hwv => ?_) ?_; rotate_left; (go_simp; with_reducible rfl); simp only [Act.put, List.setIfInBounds_toArray, List.set_cons_zero, List.set_cons_succ]) | (refine Heads.skip rfl ?_; simp only [Act.put, List.setIfInBounds_toArray, List.set_cons_zero, List.set_cons_succ]))
                (first | (refine Heads.val (v := ?_) rfl (fun wv hwv => ?_) ?_; rotate_left; (go_simp; with_reducible rfl); simp only [Act.put, List.setIfInBounds_toArray, List.set_cons_zero, List.set_cons_succ]) | (refine Heads.skip rfl ?_; simp only [Act.put, List.setIfInBounds_toArray, List.set_cons_zero, List.set_cons_succ]))
                (first | (refine Heads.val (v := ?_) rfl (fun wv hwv => ?_) ?_; rotate_left; (go_simp; with_reducible rfl); simp only [Act.put, List.setIfInBounds_toArray, List.set_cons_zero, List.set_cons_succ]) | (refine Heads.skip rfl ?_; simp only [Act.put, List.setIfInBounds_toArray, List.set_cons_zero, List.set_cons_succ]))
                refine Heads.nil ?_
                intro w6 hw6
                go_wp2_with fail
                go_roundg kk
                case measure => omega
                case rel => exact ⟨j + 1, ds, Fs, dn, wn, vl, σ, rfl, rfl, by simp, by omega, HI.out.skip HN.out hk HP.out hdk, hr.ext hw6, hM.ext keepsAccess hw6, hw6.keep HEr.out, hw6.keep HOr.out, hw6.keep HDr.out, Xr.trans hw6⟩
            · have d1 : decide ((j : Int) < 150) = false := decide_eq_false (by omega)
              obtain ⟨k, hkj⟩ : ∃ k, k = j % n := ⟨_, rfl⟩
              have hre : (j : Int) % (n : Int) = (k : Int) := by rw [hkj]; rfl
              have hp : j < 150 ∨ k = j % n := Or.inr hkj
              have hk : k < n := by rw [hkj]; exact Nat.mod_lt _ (by have := HN.out; omega)
              clear hkj
              go_wp2_with fail
              have hk4 : k < 4 := by have := HN.out; omega
              have hki : (k : Int) < 4 := by omega
              have ck := fun w' (u : Ext wr w') => arr4_cell HDr.out hk4 u
              have ek : ptrs n B k = .pointer (some ⟨B k, 0, none⟩) := if_pos hk
              have cw := fun w' (u : Ext wr w') => arr4_cell HOr.out hk4 u
              rw [ek] at cw
              have HP := Lib.hid hp
              clear hp ek
              cases hdk : dn k
              · simp only [hdk] at ck
                refine wp_region_plan (Ext wr) [] [0, 1, 2, 3, 4, 5, 6, 7] 8 [9, 10] Try.mixed (by kernel_rfl) (by intro c a d v w h; cases d <;> exact h) (Ext.refl _).drew ?_
                simp only [opsAt, List.filterMap_cons, List.filterMap_nil, List.getElem?_toArray, List.getElem?_cons_zero, List.getElem?_cons_succ]
                refine Firsts.nil ?_
                (refine Heads.val (v := ?_) rfl (fun wv hwv => ?_) ?_; rotate_left; (go_simp; with_reducible rfl); simp only [Act.put, List.setIfInBounds_toArray, List.set_cons_zero, List.set_cons_succ])
                (refine Heads.val (v := ?_) rfl (fun wv hwv => ?_) ?_; rotate_left; (go_simp; with_reducible rfl); simp only [Act.put, List.setIfInBounds_toArray, List.set_cons_zero, List.set_cons_succ])
                (refine Heads.val (v := ?_) rfl (fun wv hwv => ?_) ?_; rotate_left; (go_simp; with_reducible rfl); simp only [Act.put, List.setIfInBounds_toArray, List.set_cons_zero, List.set_cons_succ])
                (refine Heads.val (v := ?_) rfl (fun wv hwv => ?_) ?_; rotate_left; (go_simp; with_reducible rfl); simp only [Act.put, List.setIfInBounds_toArray, List.set_cons_zero, List.set_cons_succ])
                (first | (refine Heads.val (v := ?_) rfl (fun wv hwv => ?_) ?_; rotate_left; (go_simp; with_reducible rfl); simp only [Act.put, List.setIfInBounds_toArray, List.set_cons_zero, List.set_cons_succ]) | (refine Heads.skip rfl ?_; simp only [Act.put, List.setIfInBounds_toArray, List.set_cons_zero, List.set_cons_succ]))
                (first | (refine Heads.val (v := ?_) rfl (fun wv hwv => ?_) ?_; rotate_left; (go_simp; with_reducible rfl); simp only [Act.put, List.setIfInBounds_toArray, List.set_cons_zero, List.set_cons_succ]) | (refine Heads.skip rfl ?_; simp only [Act.put, List.setIfInBounds_toArray, List.set_cons_zero, List.set_cons_succ]))
                (first | (refine Heads.val (v := ?_) rfl (fun wv hwv => ?_) ?_; rotate_left; (go_simp; with_reducible rfl); simp only [Act.put, List.setIfInBounds_toArray, List.set_cons_zero, List.set_cons_succ]) | (refine Heads.skip rfl ?_; simp only [Act.put, List.setIfInBounds_toArray, List.set_cons_zero, List.set_cons_succ]))
                (first | (refine Heads.val (v := ?_) rfl (fun wv hwv => ?_) ?_; rotate_left; (go_simp; with_reducible rfl); simp only [Act.put, List.setIfInBounds_toArray, List.set_cons_zero, List.set_cons_succ]) | (refine Heads.skip rfl ?_; simp only [Act.put, List.setIfInBounds_toArray, List.set_cons_zero, List.set_cons_succ]))
                refine Heads.nil ?_
                intro w6 hw6
                go_wp2_with fail
                have hst := HI.out.step HN.out hk HP.out hdk
                refine (x_step Fl.cD l σ 0 (Fs k) (B k) (ds k) _ gc (hr.ext hw6) (by have := HI.out.steps; omega) ((hM.is k hk).kept (hw6.upd []) (by simp)) (HI.out.idx hk hdk)).mono ?_
                rintro e w7 ⟨rfl, h7, u7, F', hd7, hF'⟩
                have u7r := Upd.extL hw6 u7
                have zz : eb < wr.heap.size ∧ wb < wr.heap.size ∧ db < wr.heap.size := ⟨lt_of_heap HEr.out, lt_of_heap HOr.out, lt_of_heap HDr.out⟩
                have hM7 := hM.step keepsAccess hk u7r hd7 (fun x hx => (hF' x hx).imp id (fun h => Nat.le_trans hw6.size h)) Xr.size (by intro x hx; simp only [List.mem_cons, List.not_mem_nil, or_false] at hx; rcases hx with hx | hx | hx <;> omega)
                have HE7 := Lib.hid (u7r.keep HEr.out (hM.far keepsAccess hk (by simp) hbe))
                have HO7 := Lib.hid (u7r.keep HOr.out (hM.far keepsAccess hk (by simp) hwl.1))
                have HD7 := Lib.hid (u7r.keep HDr.out (hM.far keepsAccess hk (by simp) hwl.2))
                have X7 := Xr.updNew u7r (fun x hx => by
                  rcases List.mem_append.1 hx with h | h
                  · exact (hM.lo k hk x h).1
                  · exact hnew x h)
                generalize (ds k).step Fl.cD 0 σ = st at *
                obtain ⟨y, d', σ'⟩ := st
                simp only at h7 hM7 hst hd7
                have HST := Lib.hid hst
                clear hst ck cw
                cases y
                · go_wp2_with fail
                  go_roundg kk
                  case measure => omega
                  case rel => exact ⟨j + 1, _, _, dn, wn, vl, σ', rfl, rfl, by simp, by omega, (by first | exact HST.out.1 rfl | exact HST.out.1 trivial | exact HST.out.1), h7, hM7, HE7.out, HO7.out, HD7.out, X7⟩
                · have ck := fun w' (u : Ext w7 w') => arr4_cell HD7.out hk4 u
                  have fk := fun w' (u : Ext w7 w') => frozen_of (u.keep HD7.out) k
                  have cw := fun w' (u : Ext w7 w') => arr4_cell HO7.out hk4 u
                  rw [show ptrs n B k = .pointer (some ⟨B k, 0, none⟩) from if_pos hk] at cw
                  have r7 := Ext.refl w7
                  go_wp2_with fail
                  have HD8 := Lib.hid (heap_set HD7.out k (.bool true))
                  have HE8 := Lib.hid (heap_far HE7.out (p := ⟨db, k, none⟩) nwe.2 (.bool true))
                  have HO8 := Lib.hid (heap_far HO7.out (p := ⟨db, k, none⟩) nwd (.bool true))
                  have u8 := (Upd.refl [db] w7).set1 k (.bool true)
                  rw [arr4_set, bools_next] at HD8
                  generalize World.setCell w7 ⟨db, k, none⟩ (.bool true) = w8 at *
                  have hM8 := hM7.keep keepsAccess u8 (by simp)
                  have hd8 := hM8.is k hk
                  rw [Fl.at4_same, Fl.at4_same] at hd8
                  have h8 := h7.keep1 u8 hwl.2
                  have X8 := X7.updNew u8 (by intro x hx; rw [List.mem_singleton.1 hx]; exact hWn)
                  refine (x_done l F' (B k) d' _ hd8).mono ?_
                  rintro e w9 ⟨rfl, x9⟩
                  have iwv : IntKind.i64.wrap (10 + (k : Int)) = 10 + (k : Int) := IntWalk.i64_in _ (by omega)
                  clear ck fk cw r7
                  have hfin : d'.out.e = 0 ∧ d'.out.stamp > wn ∧ Fl.LastInv n (j + 1) σ' (Fl.at4 ds k d') (Fl.at4 dn k true) d'.out.stamp (10 + k) := by first | exact HST.out.2 rfl | exact HST.out.2 trivial | exact HST.out.2
                  have xA := (Ext.refl w9).alloc (.cells #[.int .i64 d'.out.e, .int .u64 (d'.out.handle : Nat), .int .i64 d'.out.value, .int .i64 d'.out.stamp] 34)
                  have x10 := x9.trans xA
                  obtain ⟨he, hgt, hI9⟩ := hfin
                  have HI9 := Lib.hid hI9
                  clear hI9 HST
                  have g1 : decide (d'.out.stamp > wn) = true := decide_eq_true hgt
                  have g2 : (d'.out.stamp == wn) = false := beq_eq_false_iff_ne.2 (by omega)
                  have g3 : decide (d'.out.stamp = wn) = false := decide_eq_false (by omega)
                  rw [he]
                  rw [he] at x10
                  go_wp2_with fail
                  go_roundg kk
                  case measure => omega
                  case rel => exact ⟨j + 1, _, _, _, d'.out.stamp, 10 + (k : Int), σ', rfl, rfl, by simp, by omega, HI9.out, h8.ext x10, hM8.ext keepsAccess x10, x10.keep HE8.out, x10.keep HO8.out, x10.keep HD8.out, X8.trans x10⟩
              · simp only [hdk] at ck
                refine wp_region_plan (Ext wr) [] [0, 1, 2, 3, 4, 5, 6, 7] 8 [9, 10] Try.mixed (by kernel_rfl) (by intro c a d v w h; cases d <;> exact h) (Ext.refl _).drew ?_
                simp only [opsAt, List.filterMap_cons, List.filterMap_nil, List.getElem?_toArray, List.getElem?_cons_zero, List.getElem?_cons_succ]
                refine Firsts.nil ?_
                (refine Heads.val (v := ?_) rfl (fun wv hwv => ?_) ?_; rotate_left; (go_simp; with_reducible rfl); simp only [Act.put, List.setIfInBounds_toArray, List.set_cons_zero, List.set_cons_succ])
                (refine Heads.val (v := ?_) rfl (fun wv hwv => ?_) ?_; rotate_left; (go_simp; with_reducible rfl); simp only [Act.put, List.setIfInBounds_toArray, List.set_cons_zero, List.set_cons_succ])
                (refine Heads.val (v := ?_) rfl (fun wv hwv => ?_) ?_; rotate_left; (go_simp; with_reducible rfl); simp only [Act.put, List.setIfInBounds_toArray, List.set_cons_zero, List.set_cons_succ])
                (refine Heads.val (v := ?_) rfl (fun wv hwv => ?_) ?_; rotate_left; (go_simp; with_reducible rfl); simp only [Act.put, List.setIfInBounds_toArray, List.set_cons_zero, List.set_cons_succ])
                (first | (refine Heads.val (v := ?_) rfl (fun wv hwv => ?_) ?_; rotate_left; (go_simp; with_reducible rfl); simp only [Act.put, List.setIfInBounds_toArray, List.set_cons_zero, List.set_cons_succ]) | (refine Heads.skip rfl ?_; simp only [Act.put, List.setIfInBounds_toArray, List.set_cons_zero, List.set_cons_succ]))
                (first | (refine Heads.val (v := ?_) rfl (fun wv hwv => ?_) ?_; rotate_left; (go_simp; with_reducible rfl); simp only [Act.put, List.setIfInBounds_toArray, List.set_cons_zero, List.set_cons_succ]) | (refine Heads.skip rfl ?_; simp only [Act.put, List.setIfInBounds_toArray, List.set_cons_zero, List.set_cons_succ]))
                (first | (refine Heads.val (v := ?_) rfl (fun wv hwv => ?_) ?_; rotate_left; (go_simp; with_reducible rfl); simp only [Act.put, List.setIfInBounds_toArray, List.set_cons_zero, List.set_cons_succ]) | (refine Heads.skip rfl ?_; simp only [Act.put, List.setIfInBounds_toArray, List.set_cons_zero, List.set_cons_succ]))
                (first | (refine Heads.val (v := ?_) rfl (fun wv hwv => ?_) ?_; rotate_left; (go_simp; with_reducible rfl); simp only [Act.put, List.setIfInBounds_toArray, List.set_cons_zero, List.set_cons_succ]) | (refine Heads.skip rfl ?_; simp only [Act.put, List.setIfInBounds_toArray, List.set_cons_zero, List.set_cons_succ]))
                refine Heads.nil ?_
                intro w6 hw6
                go_wp2_with fail
                go_roundg kk
                case measure => omega
                case rel => exact ⟨j + 1, ds, Fs, dn, wn, vl, σ, rfl, rfl, by simp, by omega, HI.out.skip HN.out hk HP.out hdk, hr.ext hw6, hM.ext keepsAccess hw6, hw6.keep HEr.out, hw6.keep HOr.out, hw6.keep HDr.out, Xr.trans hw6⟩
          · have c1 : decide ((j : Int) < len) = false := decide_eq_false (by omega)
            obtain ⟨k, hkj⟩ : ∃ k, k = j % n := ⟨_, rfl⟩
            have hre : (j : Int) % (n : Int) = (k : Int) := by rw [hkj]; rfl
            have hp : j < 150 ∨ k = j % n := Or.inr hkj
            have hk : k < n := by rw [hkj]; exact Nat.mod_lt _ (by have := HN.out; omega)
            clear hkj
            go_wp2_with fail
            have hk4 : k < 4 := by have := HN.out; omega
            have hki : (k : Int) < 4 := by omega
            have ck := fun w' (u : Ext wr w') => arr4_cell HDr.out hk4 u
            have ek : ptrs n B k = .pointer (some ⟨B k, 0, none⟩) := if_pos hk
            have cw := fun w' (u : Ext wr w') => arr4_cell HOr.out hk4 u
            rw [ek] at cw
            have HP := Lib.hid hp
            clear hp ek
            cases hdk : dn k
            · simp only [hdk] at ck
              refine wp_region_plan (Ext wr) [] [0, 1, 2, 3, 4, 5, 6, 7] 8 [9, 10] Try.mixed (by kernel_rfl) (by intro c a d v w h; cases d <;> exact h) (Ext.refl _).drew ?_
              simp only [opsAt, List.filterMap_cons, List.filterMap_nil, List.getElem?_toArray, List.getElem?_cons_zero, List.getElem?_cons_succ]
              refine Firsts.nil ?_
              (refine Heads.val (v := ?_) rfl (fun wv hwv => ?_) ?_; rotate_left; (go_simp; with_reducible rfl); simp only [Act.put, List.setIfInBounds_toArray, List.set_cons_zero, List.set_cons_succ])
              (refine Heads.val (v := ?_) rfl (fun wv hwv => ?_) ?_; rotate_left; (go_simp; with_reducible rfl); simp only [Act.put, List.setIfInBounds_toArray, List.set_cons_zero, List.set_cons_succ])
              (refine Heads.val (v := ?_) rfl (fun wv hwv => ?_) ?_; rotate_left; (go_simp; with_reducible rfl); simp only [Act.put, List.setIfInBounds_toArray, List.set_cons_zero, List.set_cons_succ])
              (refine Heads.val (v := ?_) rfl (fun wv hwv => ?_) ?_; rotate_left; (go_simp; with_reducible rfl); simp only [Act.put, List.setIfInBounds_toArray, List.set_cons_zero, List.set_cons_succ])
              (first | (refine Heads.val (v := ?_) rfl (fun wv hwv => ?_) ?_; rotate_left; (go_simp; with_reducible rfl); simp only [Act.put, List.setIfInBounds_toArray, List.set_cons_zero, List.set_cons_succ]) | (refine Heads.skip rfl ?_; simp only [Act.put, List.setIfInBounds_toArray, List.set_cons_zero, List.set_cons_succ]))
              (first | (refine Heads.val (v := ?_) rfl (fun wv hwv => ?_) ?_; rotate_left; (go_simp; with_reducible rfl); simp only [Act.put, List.setIfInBounds_toArray, List.set_cons_zero, List.set_cons_succ]) | (refine Heads.skip rfl ?_; simp only [Act.put, List.setIfInBounds_toArray, List.set_cons_zero, List.set_cons_succ]))
              (first | (refine Heads.val (v := ?_) rfl (fun wv hwv => ?_) ?_; rotate_left; (go_simp; with_reducible rfl); simp only [Act.put, List.setIfInBounds_toArray, List.set_cons_zero, List.set_cons_succ]) | (refine Heads.skip rfl ?_; simp only [Act.put, List.setIfInBounds_toArray, List.set_cons_zero, List.set_cons_succ]))
              (first | (refine Heads.val (v := ?_) rfl (fun wv hwv => ?_) ?_; rotate_left; (go_simp; with_reducible rfl); simp only [Act.put, List.setIfInBounds_toArray, List.set_cons_zero, List.set_cons_succ]) | (refine Heads.skip rfl ?_; simp only [Act.put, List.setIfInBounds_toArray, List.set_cons_zero, List.set_cons_succ]))
              refine Heads.nil ?_
              intro w6 hw6
              go_wp2_with fail
              have hst := HI.out.step HN.out hk HP.out hdk
              refine (x_step Fl.cD l σ 0 (Fs k) (B k) (ds k) _ gc (hr.ext hw6) (by have := HI.out.steps; omega) ((hM.is k hk).kept (hw6.upd []) (by simp)) (HI.out.idx hk hdk)).mono ?_
              rintro e w7 ⟨rfl, h7, u7, F', hd7, hF'⟩
              have u7r := Upd.extL hw6 u7
              have zz : eb < wr.heap.size ∧ wb < wr.heap.size ∧ db < wr.heap.size := ⟨lt_of_heap HEr.out, lt_of_heap HOr.out, lt_of_heap HDr.out⟩
              have hM7 := hM.step keepsAccess hk u7r hd7 (fun x hx => (hF' x hx).imp id (fun h => Nat.le_trans hw6.size h)) Xr.size (by intro x hx; simp only [List.mem_cons, List.not_mem_nil, or_false] at hx; rcases hx with hx | hx | hx <;> omega)
              have HE7 := Lib.hid (u7r.keep HEr.out (hM.far keepsAccess hk (by simp) hbe))
              have HO7 := Lib.hid (u7r.keep HOr.out (hM.far keepsAccess hk (by simp) hwl.1))
              have HD7 := Lib.hid (u7r.keep HDr.out (hM.far keepsAccess hk (by simp) hwl.2))
              have X7 := Xr.updNew u7r (fun x hx => by
                rcases List.mem_append.1 hx with h | h
                · exact (hM.lo k hk x h).1
                · exact hnew x h)
              generalize (ds k).step Fl.cD 0 σ = st at *
              obtain ⟨y, d', σ'⟩ := st
              simp only at h7 hM7 hst hd7
              have HST := Lib.hid hst
              clear hst ck cw
              cases y
              · go_wp2_with fail
                go_roundg kk
                case measure => omega
                case rel => exact ⟨j + 1, _, _, dn, wn, vl, σ', rfl, rfl, by simp, by omega, (by first | exact HST.out.1 rfl | exact HST.out.1 trivial | exact HST.out.1), h7, hM7, HE7.out, HO7.out, HD7.out, X7⟩
              · have ck := fun w' (u : Ext w7 w') => arr4_cell HD7.out hk4 u
                have fk := fun w' (u : Ext w7 w') => frozen_of (u.keep HD7.out) k
                have cw := fun w' (u : Ext w7 w') => arr4_cell HO7.out hk4 u
                rw [show ptrs n B k = .pointer (some ⟨B k, 0, none⟩) from if_pos hk] at cw
                have r7 := Ext.refl w7
                go_wp2_with fail
                have HD8 := Lib.hid (heap_set HD7.out k (.bool true))
                have HE8 := Lib.hid (heap_far HE7.out (p := ⟨db, k, none⟩) nwe.2 (.bool true))
                have HO8 := Lib.hid (heap_far HO7.out (p := ⟨db, k, none⟩) nwd (.bool true))
                have u8 := (Upd.refl [db] w7).set1 k (.bool true)
                rw [arr4_set, bools_next] at HD8
                generalize World.setCell w7 ⟨db, k, none⟩ (.bool true) = w8 at *
                have hM8 := hM7.keep keepsAccess u8 (by simp)
                have hd8 := hM8.is k hk
                rw [Fl.at4_same, Fl.at4_same] at hd8
                have h8 := h7.keep1 u8 hwl.2
                have X8 := X7.updNew u8 (by intro x hx; rw [List.mem_singleton.1 hx]; exact hWn)
                refine (x_done l F' (B k) d' _ hd8).mono ?_
                rintro e w9 ⟨rfl, x9⟩
                have iwv : IntKind.i64.wrap (10 + (k : Int)) = 10 + (k : Int) := IntWalk.i64_in _ (by omega)
                clear ck fk cw r7
                have hfin : d'.out.e = 0 ∧ d'.out.stamp > wn ∧ Fl.LastInv n (j + 1) σ' (Fl.at4 ds k d') (Fl.at4 dn k true) d'.out.stamp (10 + k) := by first | exact HST.out.2 rfl | exact HST.out.2 trivial | exact HST.out.2
                have xA := (Ext.refl w9).alloc (.cells #[.int .i64 d'.out.e, .int .u64 (d'.out.handle : Nat), .int .i64 d'.out.value, .int .i64 d'.out.stamp] 34)
                have x10 := x9.trans xA
                obtain ⟨he, hgt, hI9⟩ := hfin
                have HI9 := Lib.hid hI9
                clear hI9 HST
                have g1 : decide (d'.out.stamp > wn) = true := decide_eq_true hgt
                have g2 : (d'.out.stamp == wn) = false := beq_eq_false_iff_ne.2 (by omega)
                have g3 : decide (d'.out.stamp = wn) = false := decide_eq_false (by omega)
                rw [he]
                rw [he] at x10
                go_wp2_with fail
                go_roundg kk
                case measure => omega
                case rel => exact ⟨j + 1, _, _, _, d'.out.stamp, 10 + (k : Int), σ', rfl, rfl, by simp, by omega, HI9.out, h8.ext x10, hM8.ext keepsAccess x10, x10.keep HE8.out, x10.keep HO8.out, x10.keep HD8.out, X8.trans x10⟩
            · simp only [hdk] at ck
              refine wp_region_plan (Ext wr) [] [0, 1, 2, 3, 4, 5, 6, 7] 8 [9, 10] Try.mixed (by kernel_rfl) (by intro c a d v w h; cases d <;> exact h) (Ext.refl _).drew ?_
              simp only [opsAt, List.filterMap_cons, List.filterMap_nil, List.getElem?_toArray, List.getElem?_cons_zero, List.getElem?_cons_succ]
              refine Firsts.nil ?_
              (refine Heads.val (v := ?_) rfl (fun wv hwv => ?_) ?_; rotate_left; (go_simp; with_reducible rfl); simp only [Act.put, List.setIfInBounds_toArray, List.set_cons_zero, List.set_cons_succ])
              (refine Heads.val (v := ?_) rfl (fun wv hwv => ?_) ?_; rotate_left; (go_simp; with_reducible rfl); simp only [Act.put, List.setIfInBounds_toArray, List.set_cons_zero, List.set_cons_succ])
              (refine Heads.val (v := ?_) rfl (fun wv hwv => ?_) ?_; rotate_left; (go_simp; with_reducible rfl); simp only [Act.put, List.setIfInBounds_toArray, List.set_cons_zero, List.set_cons_succ])
              (refine Heads.val (v := ?_) rfl (fun wv hwv => ?_) ?_; rotate_left; (go_simp; with_reducible rfl); simp only [Act.put, List.setIfInBounds_toArray, List.set_cons_zero, List.set_cons_succ])
              (first | (refine Heads.val (v := ?_) rfl (fun wv hwv => ?_) ?_; rotate_left; (go_simp; with_reducible rfl); simp only [Act.put, List.setIfInBounds_toArray, List.set_cons_zero, List.set_cons_succ]) | (refine Heads.skip rfl ?_; simp only [Act.put, List.setIfInBounds_toArray, List.set_cons_zero, List.set_cons_succ]))
              (first | (refine Heads.val (v := ?_) rfl (fun wv hwv => ?_) ?_; rotate_left; (go_simp; with_reducible rfl); simp only [Act.put, List.setIfInBounds_toArray, List.set_cons_zero, List.set_cons_succ]) | (refine Heads.skip rfl ?_; simp only [Act.put, List.setIfInBounds_toArray, List.set_cons_zero, List.set_cons_succ]))
              (first | (refine Heads.val (v := ?_) rfl (fun wv hwv => ?_) ?_; rotate_left; (go_simp; with_reducible rfl); simp only [Act.put, List.setIfInBounds_toArray, List.set_cons_zero, List.set_cons_succ]) | (refine Heads.skip rfl ?_; simp only [Act.put, List.setIfInBounds_toArray, List.set_cons_zero, List.set_cons_succ]))
              (first | (refine Heads.val (v := ?_) rfl (fun wv hwv => ?_) ?_; rotate_left; (go_simp; with_reducible rfl); simp only [Act.put, List.setIfInBounds_toArray, List.set_cons_zero, List.set_cons_succ]) | (refine Heads.skip rfl ?_; simp only [Act.put, List.setIfInBounds_toArray, List.set_cons_zero, List.set_cons_succ]))
              refine Heads.nil ?_
              intro w6 hw6
              go_wp2_with fail
              go_roundg kk
              case measure => omega
              case rel => exact ⟨j + 1, ds, Fs, dn, wn, vl, σ, rfl, rfl, by simp, by omega, HI.out.skip HN.out hk HP.out hdk, hr.ext hw6, hM.ext keepsAccess hw6, hw6.keep HEr.out, hw6.keep HOr.out, hw6.keep HDr.out, Xr.trans hw6⟩
    | succ kk =>
      have b0 : decide ((j : Int) < (n : Int)) = true := decide_eq_true (by omega)
      have hj4 : j < 4 := by have := HN.out; omega
      have iw : IntKind.i64.wrap ((j : Int) + 1) = (j : Int) + 1 := IntWalk.i64_in _ (by omega)
      go_wp2_with fail
      have iv : IntKind.i64.wrap (10 + (j : Int)) = 10 + (j : Int) := IntWalk.i64_in _ (by omega)
      go_wp2_with fail
      refine (n_access l (Fl.lX j) false _ (show (65536 : Nat) < 18446744073709551616 by decide) hr.lt).mono ?_
      rintro e w7 ⟨bb, hbb, rfl, hd7, x7⟩
      have HO7 := Lib.hid (x7.keep HOr.out)
      have HE7 := Lib.hid (x7.keep HEr.out)
      have HD7 := Lib.hid (x7.keep HDr.out)
      have zz : eb < wr.heap.size ∧ wb < wr.heap.size ∧ db < wr.heap.size := ⟨lt_of_heap HEr.out, lt_of_heap HOr.out, lt_of_heap HDr.out⟩
      have hM7 := hM.new (j := j) keepsAccess x7 hbb hd7 Xr.size (by intro x hx; simp only [List.mem_cons, List.not_mem_nil, or_false] at hx; rcases hx with hx | hx | hx <;> omega) (fun k => k < j + 1) (fun k hk => by omega)
      have c7 := fun w' (u : Ext w7 w') => arr4_cell HO7.out hj4 u
      have f7 := fun w' (u : Ext w7 w') => frozen_of (u.keep HO7.out) j
      have r7 := Ext.refl w7
      go_wp2_with fail
      have HO8 := Lib.hid (heap_set HO7.out j (.pointer (some ⟨bb, 0, none⟩)))
      have HE8 := Lib.hid (heap_far HE7.out (p := ⟨wb, j, none⟩) nwe.1 (.pointer (some ⟨bb, 0, none⟩)))
      have HD8 := Lib.hid (heap_far HD7.out (p := ⟨wb, j, none⟩) nwd.symm (.pointer (some ⟨bb, 0, none⟩)))
      have u8 := (Upd.refl [wb] w7).set1 j (.pointer (some ⟨bb, 0, none⟩))
      rw [arr4_set, ptrs_next] at HO8
      generalize World.setCell w7 ⟨wb, j, none⟩ (.pointer (some ⟨bb, 0, none⟩)) = w8 at *
      go_roundg kk
      case measure => omega
      case rel =>
        refine ⟨j + 1, _, _, _, rfl, by omega, (hr.ext x7).keep1 u8 hwl.1, hM7.keep keepsAccess u8 (by simp), fun k hk => ?_, HE8.out, HO8.out, HD8.out, (Xr.trans x7).updNew u8 (by intro x hx; rw [List.mem_singleton.1 hx]; exact hzW)⟩
        by_cases hkj : k = j
        · rw [hkj, Fl.at4_same]
        · rw [Fl.at4_other hkj]; exact hds k (by omega)

end Go.Proofs.Ythblhgappldcjaa
