/- AccessSteps: the walk. -/
import Derived.Test.YthblhgappldcjaaR18
import Derived.Test.YthblhgappldcjaaKd
import Derived.Test.YthblhgappldcjaaPn
import Derived.Test.YthblhgappldcjaaSc
namespace Go.Proofs.Ythblhgappldcjaa
open Go Go.RowKit
set_option linter.unusedVariables false

theorem goodM4 : GoodC Fl.cM := ⟨by simp [Fl.cM], by simp [Fl.cM], by simp [Fl.cM], by simp [Fl.cM], by simp [Fl.cM], by simp [Fl.cM], by simp [Fl.cM]⟩
theorem kindM {a : Int} (h0 : 27 ≤ a) (h1 : a < Fl.LM) : Fl.kind1 Fl.cM a = 9 :=
  (Fl.kind1_9 (by simp [Fl.cM]) (by simp [Fl.cM]) (by simp [Fl.cM]) a).2 ⟨by simp only [Fl.pBase, Fl.cM]; omega, by simp only [Fl.pLen, Fl.pBase, Fl.cM, Fl.LM] at *; omega⟩

/-- A want stands in a block, with a handle. -/
structure MidS (xb : Nat) (w0 : World) (k i v o : Int) (h : Nat) (w : World) : Prop where
  blk : w.heap[xb]? = some (.cells #[.int .i64 k, .int .u64 (h : Int), .int .i64 i, .int .i64 v, .int .i64 o] 74)
  upd : Upd [xb] w0 w
theorem MidS.ext {xb : Nat} {w0 w w' : World} {k i v o : Int} {h : Nat} (m : MidS xb w0 k i v o h w) (u : Ext w w') : MidS xb w0 k i v o h w' := ⟨u.keep m.blk, m.upd.extR u⟩
theorem MidS.put {xb : Nat} {w0 w : World} {k i v o : Int} {h : Nat} (m : MidS xb w0 k i v o h w) (h' : Nat) : MidS xb w0 k i v o h' (w.setCell ⟨xb, 1, none⟩ (.int .u64 (h' : Int))) := by
  refine ⟨?_, m.upd.set (Or.inl (by simp)) _⟩
  have := heap_set m.blk 1 (.int .u64 (h' : Int))
  simpa only [List.setIfInBounds_toArray, List.set_cons_zero, List.set_cons_succ] using this
theorem midS0 {xb : Nat} {w0 w : World} {k i v o : Int} {h h' : Nat} (m : MidS xb w0 k i v o h w ∨ MidS xb w0 k i v o h' w) : w.cell? ⟨xb, 0, none⟩ = some (.int .i64 k) := by
  rcases m with m | m <;> exact cell_of m.blk 0
theorem midS3 {xb : Nat} {w0 w : World} {k i v o : Int} {h h' : Nat} (m : MidS xb w0 k i v o h w ∨ MidS xb w0 k i v o h' w) : w.cell? ⟨xb, 3, none⟩ = some (.int .i64 v) := by
  rcases m with m | m <;> exact cell_of m.blk 3
theorem midS4 {xb : Nat} {w0 w : World} {k i v o : Int} {h h' : Nat} (m : MidS xb w0 k i v o h w ∨ MidS xb w0 k i v o h' w) : w.cell? ⟨xb, 4, none⟩ = some (.int .i64 o) := by
  rcases m with m | m <;> exact cell_of m.blk 4
theorem midSf {xb : Nat} {w0 w : World} {k i v o : Int} {h h' : Nat} (m : MidS xb w0 k i v o h w ∨ MidS xb w0 k i v o h' w) (c : Nat) : w.frozen? ⟨xb, c, none⟩ = false := by
  rcases m with m | m <;> exact frozen_of m.blk c
theorem midS1 {xb : Nat} {w0 w : World} {k i v o : Int} {h : Nat} (m : MidS xb w0 k i v o h w) : w.cell? ⟨xb, 1, none⟩ = some (.int .u64 (h : Int)) := cell_of m.blk 1


set_option maxHeartbeats 8000000 in
set_option maxRecDepth 100000 in
theorem w_accessSteps (size : Int) (q : Option Addr) (len cap : Nat) (zk : Nat → Int) (zh : Nat → Nat) (zi zv zo : Nat → Int) (W : World)
    (hq : ∀ i, i < len → ∃ a, q = some a ∧ a.block < W.heap.size ∧ (zh i < 18446744073709551616 ∧ (Lit.int .i64 (zi i)).wf = true) ∧ W.cell? (a.add (i * 5 + 0)) = some (.int .i64 (zk i)) ∧ W.cell? (a.add (i * 5 + 1)) = some (.int .u64 ((zh i : Nat) : Int)) ∧ W.cell? (a.add (i * 5 + 2)) = some (.int .i64 (zi i)) ∧ W.cell? (a.add (i * 5 + 3)) = some (.int .i64 (zv i)) ∧ W.cell? (a.add (i * 5 + 4)) = some (.int .i64 (zo i))) :
    Calls Try.prog 17 #[.int .i64 size, .slice q len cap] W fun e w' => e = .returned (.bool true) ∧ Ext W w' := by
  have fl1 := field_done1
  have fl0 := field_done0
  have HQ := Lib.hid hq
  clear hq
  have ia := iand15 size
  obtain ⟨n, hn, hn1⟩ : ∃ n : Int, 1 + size % 16 = n ∧ 1 ≤ n ∧ n ≤ 16 := ⟨_, rfl, by omega, by omega⟩
  have hwn : IntKind.i64.wrap n = n := IntWalk.i64_in _ (by omega)
  have HN := Lib.hid hn1
  clear hn1
  have gc := goodM4
  obtain ⟨_, _, _, _, _, _, hout, hsafe⟩ := Fl.movA_is HN.out
  go_enter Try.func17, Try.ntmps17
  go_wp2_with fail
  refine (n_arena 1 4 4 20 _ goodM4).mono ?_
  rintro e w1 ⟨l, rfl, h1, x1, hnew⟩
  have hE := heap_new w1 (.cells #[.int .i64 1, .int .i64 4, .int .i64 4, .int .i64 20, .int .i64 100, .int .i64 600, .int .i64 3, .pointer (some ⟨l.m, 0, none⟩), .int .i64 0] 27)
  have hX := (Ext.refl w1).alloc (.cells #[.int .i64 1, .int .i64 4, .int .i64 4, .int .i64 20, .int .i64 100, .int .i64 600, .int .i64 3, .pointer (some ⟨l.m, 0, none⟩), .int .i64 0] 27)
  have hlt := h1.lt
  go_wp2_with fail
  generalize w1.alloc (.cells #[.int .i64 1, .int .i64 4, .int .i64 4, .int .i64 20, .int .i64 100, .int .i64 600, .int .i64 3, .pointer (some ⟨l.m, 0, none⟩), .int .i64 0] 27) = w2 at *
  have hb1 : W.heap.size ≤ w1.heap.size := x1.size
  have hbe : w1.heap.size ∉ l.all := fun hm => by have := hlt _ hm; omega
  generalize w1.heap.size = eb at *
  refine (awake10 _).mono ?_
  rintro e w3 ⟨rfl, x3⟩
  have HE3 := Lib.hid (x3.keep hE)
  have h3 := h1.ext (hX.trans x3)
  have X3 := x1.trans (hX.trans x3)
  clear hE h1 hX x3 x1
  have c_HE3_w3 := fun w' o (k : Ext w3 w') => k.cellOf HE3.out o
  have f_HE3_w3 := fun w' o (k : Ext w3 w') => frozen_of (k.keep HE3.out) o
  have r_HE3_w3 := Ext.refl w3
  go_wp2_with fail
  refine (n_make Fl.cM l (Fl.fresh Fl.cM) 0 n false w3 gc h3 hsafe).mono ?_
  rintro e w4 ⟨rfl, h4', u4⟩
  have h4 : MemAt w4 l (Fl.movA n).2 := h4'
  clear h4'
  rw [show (Fl.Alloc.loop Fl.cM 0 400 (Fl.fresh Fl.cM) (Fl.Alloc.new n false)).1.out.handle = 65536 from hout]
  have HE4 := Lib.hid (u4.keep HE3.out hbe)
  have X4 := X3.updNew u4 hnew
  clear c_HE3_w3 f_HE3_w3 r_HE3_w3 X3 h3 u4 hsafe hout HE3
  have c_HE4_w4 := fun w' o (k : Ext w4 w') => k.cellOf HE4.out o
  have f_HE4_w4 := fun w' o (k : Ext w4 w') => frozen_of (k.keep HE4.out) o
  have r_HE4_w4 := Ext.refl w4
  go_wp2_with fail
  go_loopg [8, 9, 10, 11, 12, 13, 14, 15, 16, 17, 18] (min len 30) (fun kk i v9 v10 v11 v12 v13 v14 v15 v16 v17 v18 wr => ∃ (j : Nat) (σ : Fl.Mem), i = .int .i64 (j : Int) ∧ j + kk = min len 30 ∧ Fl.StepsInv n j σ ∧ MemAt wr l σ ∧ wr.heap[eb]? = some (.cells #[.int .i64 1, .int .i64 4, .int .i64 4, .int .i64 20, .int .i64 100, .int .i64 600, .int .i64 3, .pointer (some ⟨l.m, 0, none⟩), .int .i64 0] 27) ∧ Ext W wr)
  case atStart => exact ⟨0, _, rfl, by omega, Fl.StepsInv.start HN.out, h4, HE4.out, X4⟩
  case round =>
    clear h4 HE4 X4 c_HE4_w4 f_HE4_w4 r_HE4_w4
    obtain ⟨j, σ, rfl, hj, hI, hr, hE, Xr⟩ := hrel
    have HI := Lib.hid hI
    have HEr := Lib.hid hE
    clear hE hI
    have c_HEr_wr := fun w' o (k : Ext wr w') => k.cellOf HEr.out o
    have f_HEr_wr := fun w' o (k : Ext wr w') => frozen_of (k.keep HEr.out) o
    have r_HEr_wr := Ext.refl wr
    have iw : IntKind.i64.wrap ((j : Int) + 1) = (j : Int) + 1 := IntWalk.i64_in _ (by omega)
    cases gk with
    | zero =>
      have hjm : j = min len 30 := hj
      by_cases hl : j < len
      · have c1 : decide ((j : Int) < len) = true := decide_eq_true (by omega)
        have d1 : decide ((j : Int) < 30) = false := decide_eq_false (by omega)
        go_wp2
        go_ret
        exact ⟨rfl, Xr⟩
      · have c1 : decide ((j : Int) < len) = false := decide_eq_false (by omega)
        go_wp2
        go_ret
        exact ⟨rfl, Xr⟩
    | succ kk =>
      have hj5 : j < len ∧ j < 30 := by omega
      have c1 : decide ((j : Int) < len) = true := decide_eq_true (by omega)
      have d1 : decide ((j : Int) < 30) = true := decide_eq_true (by omega)
      obtain ⟨aa, rfl, hblk, _, hc0, hc1, hc2, hc3, hc4⟩ := HQ.out j hj5.1
      have hk1 : ∀ n, (aa.add n).block < W.heap.size := fun n => by rw [addr_block]; exact hblk
      rw [← Go.Deep.add_add, addr_field _ (by omega)] at hc1 hc2 hc3 hc4
      have q0 := fun w' (u : Ext wr w') => (cell_kept (a := aa.add (j * 5)) ((Xr.trans u).block (hk1 (j * 5)))).trans hc0
      have q1 := fun w' (u : Ext wr w') => (cell_kept (a := ⟨(aa.add (j * 5)).block, (aa.add (j * 5)).off + 1, none⟩) ((Xr.trans u).block (hk1 (j * 5)))).trans hc1
      have q2 := fun w' (u : Ext wr w') => (cell_kept (a := ⟨(aa.add (j * 5)).block, (aa.add (j * 5)).off + 2, none⟩) ((Xr.trans u).block (hk1 (j * 5)))).trans hc2
      have q3 := fun w' (u : Ext wr w') => (cell_kept (a := ⟨(aa.add (j * 5)).block, (aa.add (j * 5)).off + 3, none⟩) ((Xr.trans u).block (hk1 (j * 5)))).trans hc3
      have q4 := fun w' (u : Ext wr w') => (cell_kept (a := ⟨(aa.add (j * 5)).block, (aa.add (j * 5)).off + 4, none⟩) ((Xr.trans u).block (hk1 (j * 5)))).trans hc4
      go_wp2_with fail
      have hA := heap_new wr (.cells #[.int .i64 (zk j), .int .u64 ((zh j : Nat) : Int), .int .i64 (zi j), .int .i64 (zv j), .int .i64 (zo j)] 74)
      have xA := (Ext.refl wr).alloc (.cells #[.int .i64 (zk j), .int .u64 ((zh j : Nat) : Int), .int .i64 (zi j), .int .i64 (zv j), .int .i64 (zo j)] 74)
      have HA5 := Lib.hid hA
      have HE5 := Lib.hid (xA.keep HEr.out)
      have h5 := hr.ext xA
      have X5 := Xr.trans xA
      have hzr := lt_of_heap HEr.out
      have nex : eb ≠ wr.heap.size := by omega
      have hxl : wr.heap.size ∉ l.all := fun hm => by have := hr.lt _ hm; omega
      have hxW : W.heap.size ≤ wr.heap.size := Xr.size
      clear hA xA q0 q1 q2 q3 q4 c_HEr_wr f_HEr_wr r_HEr_wr hr Xr HEr
      generalize wr.alloc (.cells #[.int .i64 (zk j), .int .u64 ((zh j : Nat) : Int), .int .i64 (zi j), .int .i64 (zv j), .int .i64 (zo j)] 74) = w5 at *
      generalize wr.heap.size = xb at *
      have hmid0 : MidS xb w5 (zk j) (zi j) (zv j) (zo j) (zh j) w5.drew := ⟨((Ext.refl w5).drew).keep HA5.out, ((Ext.refl w5).drew).upd _⟩
      have hmidw := fun w' (h : MidS xb w5 (zk j) (zi j) (zv j) (zo j) (zh j) w') => h.put 65536
      have cX0 := fun w' (h : MidS xb w5 (zk j) (zi j) (zv j) (zo j) (zh j) w' ∨ MidS xb w5 (zk j) (zi j) (zv j) (zo j) 65536 w') => midS0 h
      have cX3 := fun w' (h : MidS xb w5 (zk j) (zi j) (zv j) (zo j) (zh j) w' ∨ MidS xb w5 (zk j) (zi j) (zv j) (zo j) 65536 w') => midS3 h
      have cX4 := fun w' (h : MidS xb w5 (zk j) (zi j) (zv j) (zo j) (zh j) w' ∨ MidS xb w5 (zk j) (zi j) (zv j) (zo j) 65536 w') => midS4 h
      have cX1 := fun w' (h : MidS xb w5 (zk j) (zi j) (zv j) (zo j) (zh j) w' ∨ MidS xb w5 (zk j) (zi j) (zv j) (zo j) 65536 w') => midSf h
      have cX5 := fun w' (h : MidS xb w5 (zk j) (zi j) (zv j) (zo j) (zh j) w') => midS1 h
      refine wp_region_mid 14 (MidS xb w5 (zk j) (zi j) (zv j) (zo j) (zh j)) (MidS xb w5 (zk j) (zi j) (zv j) (zo j) 65536) [0, 1, 2, 3, 4, 5, 6, 7, 8, 9, 10, 11, 12, 13, 14, 15] 16 [17, 18, 19, 20] Try.mixed (by kernel_rfl) (by intro c a d v w h; cases d <;> exact h) ?_ ?_
      · exact hmid0
      (refine HeadsW.val (v := ?_) rfl (by decide) rfl (fun wv hwo => ?_) ?_; rotate_left; (go_simp; with_reducible rfl); simp only [Act.put])
      (refine HeadsW.val (v := ?_) rfl (by decide) rfl (fun wv hwo => ?_) ?_; rotate_left; (go_simp; with_reducible rfl); simp only [Act.put])
      (refine HeadsW.val (v := ?_) rfl (by decide) rfl (fun wv hwo => ?_) ?_; rotate_left; (go_simp; with_reducible rfl); simp only [Act.put])
      (refine HeadsW.val (v := ?_) rfl (by decide) rfl (fun wv hwo => ?_) ?_; rotate_left; (go_simp; with_reducible rfl); simp only [Act.put])
      (refine HeadsW.val (v := ?_) rfl (by decide) rfl (fun wv hwo => ?_) ?_; rotate_left; (go_simp; with_reducible rfl); simp only [Act.put])
      (refine HeadsW.val (v := ?_) rfl (by decide) rfl (fun wv hwo => ?_) ?_; rotate_left; (go_simp; with_reducible rfl); simp only [Act.put])
      (refine HeadsW.val (v := ?_) rfl (by decide) rfl (fun wv hwo => ?_) ?_; rotate_left; (go_simp; with_reducible rfl); simp only [Act.put])
      (refine HeadsW.val (v := ?_) rfl (by decide) rfl (fun wv hwo => ?_) ?_; rotate_left; (go_simp; with_reducible rfl); simp only [Act.put])
      (refine HeadsW.val (v := ?_) rfl (by decide) rfl (fun wv hwo => ?_) ?_; rotate_left; (go_simp; with_reducible rfl); simp only [Act.put])
      (refine HeadsW.cons (v := ?_) rfl (by decide) rfl (fun wv hwv => ?_) (fun wv hwv => ?_) ?_; rotate_left; (have hwo := Or.inl (b := (MidS xb w5 (zk j) (zi j) (zv j) (zo j) 65536) wv) hwv; go_simp; simp only [GivesUpon.enter]; refine (n_value _ _).mono ?_; rintro e w' ⟨rfl, hh⟩; refine ⟨?_, hwv.ext hh⟩; with_reducible rfl); (have hwo := Or.inr (a := (MidS xb w5 (zk j) (zi j) (zv j) (zo j) (zh j)) wv) hwv; go_simp; simp only [GivesUpon.enter]; refine (n_value _ _).mono ?_; rintro e w' ⟨rfl, hh⟩; refine ⟨?_, hwv.ext hh⟩; with_reducible rfl); simp only [Act.put])
      (refine HeadsW.val (v := ?_) rfl (by decide) rfl (fun wv hwo => ?_) ?_; rotate_left; (go_simp; with_reducible rfl); simp only [Act.put])
      (refine HeadsW.val (v := ?_) rfl (by decide) rfl (fun wv hwo => ?_) ?_; rotate_left; (go_simp; with_reducible rfl); simp only [Act.put])
      (refine HeadsW.cons (v := ?_) rfl (by decide) rfl (fun wv hwv => ?_) (fun wv hwv => ?_) ?_; rotate_left; (have hwo := Or.inl (b := (MidS xb w5 (zk j) (zi j) (zv j) (zo j) 65536) wv) hwv; go_simp; simp only [GivesUpon.enter]; refine (n_value _ _).mono ?_; rintro e w' ⟨rfl, hh⟩; refine ⟨?_, hwv.ext hh⟩; with_reducible rfl); (have hwo := Or.inr (a := (MidS xb w5 (zk j) (zi j) (zv j) (zo j) (zh j)) wv) hwv; go_simp; simp only [GivesUpon.enter]; refine (n_value _ _).mono ?_; rintro e w' ⟨rfl, hh⟩; refine ⟨?_, hwv.ext hh⟩; with_reducible rfl); simp only [Act.put])
      (refine HeadsW.val (v := ?_) rfl (by decide) rfl (fun wv hwo => ?_) ?_; rotate_left; (go_simp; with_reducible rfl); simp only [Act.put])
      (refine HeadsW.writes (v := ?_) rfl rfl (fun wv hwv => ?_) ?_; rotate_left; (have hwo := Or.inl (b := (MidS xb w5 (zk j) (zi j) (zv j) (zo j) 65536) wv) hwv; go_simp; refine ⟨?_, hmidw wv hwv⟩; with_reducible rfl); simp only [Act.put])
      (refine HeadsW.val (v := ?_) rfl (by decide) rfl (fun wv hwo => ?_) ?_; rotate_left; (go_simp; with_reducible rfl); simp only [Act.put])
      refine HeadsW.nil ?_
      intro w6 hw6
      simp only [opsAt, List.filterMap_cons, List.filterMap_nil, List.getElem?_toArray, List.getElem?_cons_zero, List.getElem?_cons_succ]
      have HA6 := Lib.hid hw6.blk
      have u6 := hw6.upd
      clear cX0 cX3 cX4 cX1 cX5 hmid0 hmidw hw6
      have c_HA6_w6 := fun w' o (k : Ext w6 w') => k.cellOf HA6.out o
      have f_HA6_w6 := fun w' o (k : Ext w6 w') => frozen_of (k.keep HA6.out) o
      have r_HA6_w6 := Ext.refl w6
      go_wp2_with fail
      obtain ⟨K, hK⟩ : ∃ K, wrap64 (1 + (wrap64 ((zk j).tmod 3 + 3)).tmod 3) = K := ⟨_, rfl⟩
      rw [hK]
      clear hK
      have u7 := (((Upd.refl [xb] w6).set1 0 (.int .i64 K)).set1 3 (.int .i64 (zv j % 1099511627776))).set1 4 (.int .i64 (zo j % 1099511627776))
      have HA7 := Lib.hid (heap_set (heap_set (heap_set HA6.out 0 (.int .i64 K)) 3 (.int .i64 (zv j % 1099511627776))) 4 (.int .i64 (zo j % 1099511627776)))
      simp only [List.setIfInBounds_toArray, List.set_cons_zero, List.set_cons_succ] at HA7
      have HE7 := Lib.hid (u7.keep (u6.keep HE5.out (by simp only [List.mem_singleton]; exact nex)) (by simp only [List.mem_singleton]; exact nex))
      have h7 := (h5.keep1 u6 hxl).keep1 u7 hxl
      have X7 := (X5.updNew u6 (by intro x hx; rw [List.mem_singleton.1 hx]; exact hxW)).updNew u7 (by intro x hx; rw [List.mem_singleton.1 hx]; exact hxW)
      clear c_HA6_w6 f_HA6_w6 r_HA6_w6 h5 X5 HA5 HE5 u7 u6
      generalize World.setCell (World.setCell (World.setCell w6 ⟨xb, 0, none⟩ (.int .i64 K)) ⟨xb, 3, none⟩ (.int .i64 (zv j % 1099511627776))) ⟨xb, 4, none⟩ (.int .i64 (zo j % 1099511627776)) = w7 at *
      have hV : 0 ≤ zv j % 1099511627776 ∧ zv j % 1099511627776 < 1099511627776 := by omega
      generalize zv j % 1099511627776 = V at *
      generalize zo j % 1099511627776 = O at *
      generalize zi j = ix at *
      refine (n_access l ⟨K, 65536, ix, V, O⟩ false _ (show (65536 : Nat) < 18446744073709551616 by decide) h7.lt).mono ?_
      rintro e w8 ⟨ab, hab, rfl, ha8, x8⟩
      have HA8 := Lib.hid (x8.keep HA7.out)
      have HE8 := Lib.hid (x8.keep HE7.out)
      have h8 := h7.ext x8
      have X8 := X7.trans x8
      have hz7 := lt_of_heap HA7.out
      have hz7e := lt_of_heap HE7.out
      have nxa : xb ≠ ab := by omega
      have nea : eb ≠ ab := by omega
      have hal : ab ∉ l.all := fun hm => by have := h7.lt _ hm; omega
      have hz8 : W.heap.size ≤ w7.heap.size := X7.size
      have hM0 := Lib.hid (HI.out.mid ⟨K, 65536, ix, V, O⟩)
      clear h7 X7 HA7 HE7 HI
      have c_HE8_w8 := fun w' o (k : Ext w8 w') => k.cellOf HE8.out o
      have f_HE8_w8 := fun w' o (k : Ext w8 w') => frozen_of (k.keep HE8.out) o
      have r_HE8_w8 := Ext.refl w8
      go_wp2_with fail
      go_loopg [11, 12, 13, 14, 15, 16, 17, 18] 20 (fun kk2 ch kv v13 v14 v15 v16 v17 v18 wx => ∃ (k : Nat) (σ : Fl.Mem) (a : Fl.Access) (F : List Nat), ch = .int .i64 0 ∧ kv = .int .i64 (k : Int) ∧ k + kk2 = 20 ∧ Fl.MidInv n j k ⟨K, 65536, ix, V, O⟩ σ a ∧ MemAt wx l σ ∧ AccessAt wx l F ab a ∧ (∀ x, x ∈ F → x = ab ∨ w7.heap.size ≤ x) ∧ (∀ x, x ∈ F → x ≠ xb ∧ x ≠ eb) ∧ w7.heap.size ≤ wx.heap.size ∧ wx.heap[eb]? = some (.cells #[.int .i64 1, .int .i64 4, .int .i64 4, .int .i64 20, .int .i64 100, .int .i64 600, .int .i64 3, .pointer (some ⟨l.m, 0, none⟩), .int .i64 0] 27) ∧ wx.heap[xb]? = some (.cells #[.int .i64 K, .int .u64 65536, .int .i64 ix, .int .i64 V, .int .i64 O] 74) ∧ Ext W wx)
      case atStart => exact ⟨0, σ, _, [ab], rfl, rfl, by omega, hM0.out, h8, ha8, fun x hx => Or.inl (List.mem_singleton.1 hx), fun x hx => by rw [List.mem_singleton.1 hx]; exact ⟨nxa.symm, nea.symm⟩, x8.size, HE8.out, HA8.out, X8⟩
      case round =>
        clear h8 ha8 HE8 HA8 X8 hM0 c_HE8_w8 f_HE8_w8 r_HE8_w8
        obtain ⟨k, σ, a, F, rfl, rfl, hk, hI, hr, ha, hF, hFn, hsw, hE, hA, Xr⟩ := hrel
        have HI := Lib.hid hI
        have HEr := Lib.hid hE
        have HAr := Lib.hid hA
        clear hE hA hI
        have c_HEr_wr := fun w' o (k : Ext wr w') => k.cellOf HEr.out o
        have f_HEr_wr := fun w' o (k : Ext wr w') => frozen_of (k.keep HEr.out) o
        have r_HEr_wr := Ext.refl wr
        have hsm := HI.out.small
        have iwk : IntKind.i64.wrap ((k : Int) + 1) = (k : Int) + 1 := IntWalk.i64_in _ (by omega)
        cases gk with
        | zero => omega
        | succ kk2 =>
          have b0 : decide ((k : Int) < 20) = true := decide_eq_true (by omega)
          have hstp := HI.out.steps
          go_wp2_with fail
          refine (e_now Fl.cM l σ 0 _ hr).mono ?_
          rintro e wa ⟨rfl, xa⟩
          have hra := hr.ext xa
          have haa := ha.ext xa
          have HEa := Lib.hid (xa.keep HEr.out)
          have HAa := Lib.hid (xa.keep HAr.out)
          have Xa := Xr.trans xa
          have hsz := xa.size
          clear hr ha HEr HAr Xr c_HEr_wr f_HEr_wr r_HEr_wr
          have c_HEa_wa := fun w' o (k : Ext wa w') => k.cellOf HEa.out o
          have f_HEa_wa := fun w' o (k : Ext wa w') => frozen_of (k.keep HEa.out) o
          have r_HEa_wa := Ext.refl wa
          go_wp2_with fail
          refine (x_step Fl.cM l σ 0 F ab a _ gc hra (by omega) haa (HI.out.idx HN.out.2)).mono ?_
          rintro e wb ⟨rfl, hb, ub, F', hab', hF'⟩
          have hst := HI.out.step HN.out rfl hV
          have nF : ∀ y, (y = xb ∨ y = eb) → y ∉ l.all → y ∉ F ++ l.all := by
            intro y hy hyl hm
            rcases List.mem_append.1 hm with hm | hm
            · rcases hy with rfl | rfl
              · exact (hFn _ hm).1 rfl
              · exact (hFn _ hm).2 rfl
            · exact hyl hm
          have HEb := Lib.hid (ub.keep HEa.out (nF eb (Or.inr rfl) hbe))
          have HAb := Lib.hid (ub.keep HAa.out (nF xb (Or.inl rfl) hxl))
          have hsa : w7.heap.size ≤ wa.heap.size := Nat.le_trans hsw hsz
          have Xb := Xa.updNew ub (fun x hx => by
            rcases List.mem_append.1 hx with h | h
            · rcases hF x h with h1 | h1
              · omega
              · omega
            · exact hnew x h)
          have hF2 : ∀ x, x ∈ F' → x = ab ∨ w7.heap.size ≤ x := fun x hx => by
            rcases hF' x hx with h1 | h1
            · exact hF x h1
            · exact Or.inr (by omega)
          have hzx := lt_of_heap HAa.out
          have hze := lt_of_heap HEa.out
          have hFn2 : ∀ x, x ∈ F' → x ≠ xb ∧ x ≠ eb := fun x hx => by
            rcases hF' x hx with h1 | h1
            · exact hFn x h1
            · exact ⟨by omega, by omega⟩
          have hsb : w7.heap.size ≤ wb.heap.size := Nat.le_trans hsa ub.size
          clear hra haa HEa HAa Xa ub hF' hF hFn c_HEa_wa f_HEa_wa r_HEa_wa
          generalize a.step Fl.cM 0 σ = st at *
          obtain ⟨y, a', σ'⟩ := st
          simp only at hb hab' hst
          obtain ⟨hs1, hs2, hs3, hs4, hs5⟩ := hst
          have HS := Lib.hid (And.intro hs4 (And.intro hs5 hs3))
          clear hs4 hs5 hs3
          have c_HEb_wb := fun w' o (k : Ext wb w') => k.cellOf HEb.out o
          have f_HEb_wb := fun w' o (k : Ext wb w') => frozen_of (k.keep HEb.out) o
          have r_HEb_wb := Ext.refl wb
          go_wp2_with fail
          refine (c_mlast l σ' _ hb).mono ?_
          rintro e wc ⟨rfl, xc⟩
          have HTc := heap_new wc (.cells #[.int .i64 σ'.last.addr, .int .i64 σ'.last.who, .bool σ'.last.changed] 87)
          have xt := (Ext.refl wc).alloc (.cells #[.int .i64 σ'.last.addr, .int .i64 σ'.last.who, .bool σ'.last.changed] 87)
          have HTd := Lib.hid HTc
          have HEd := Lib.hid ((xc.trans xt).keep HEb.out)
          have HAd := Lib.hid ((xc.trans xt).keep HAb.out)
          have hd := (hb.ext xc).ext xt
          have had := (hab'.ext xc).ext xt
          have Xd := Xb.trans (xc.trans xt)
          have hsd := Nat.le_trans hsb (xc.trans xt).size
          have HEc := Lib.hid (xc.keep HEb.out)
          have c_HEc_wc := fun w' o (k : Ext wc w') => k.cellOf HEc.out o
          have f_HEc_wc := fun w' o (k : Ext wc w') => frozen_of (k.keep HEc.out) o
          have r_HEc_wc := Ext.refl wc
          have roc := fun o => (Ext.refl wc).alloc o
          clear HTc c_HEb_wb f_HEb_wb r_HEb_wb
          go_wp2_with fail
          clear c_HEc_wc f_HEc_wc r_HEc_wc roc HEc xt hb hab' HEb HAb Xb hsb xc
          generalize wc.alloc (.cells #[.int .i64 σ'.last.addr, .int .i64 σ'.last.who, .bool σ'.last.changed] 87) = wd at *
          generalize wc.heap.size = tb at *
          refine (e_now Fl.cM l σ' 0 _ hd).mono ?_
          rintro e we ⟨rfl, xe⟩
          have HTe := Lib.hid (xe.keep HTd.out)
          have HEe := Lib.hid (xe.keep HEd.out)
          have HAe := Lib.hid (xe.keep HAd.out)
          have he := hd.ext xe
          have hae := had.ext xe
          have Xe := Xd.trans xe
          have hse := Nat.le_trans hsd xe.size
          clear HTd HEd HAd hd had Xd hsd xe
          have iws : IntKind.i64.wrap (σ.steps + 1) = σ.steps + 1 := IntWalk.i64_in _ (by omega)
          rw [hs1]
          have c_HTe_we := fun w' o (k : Ext we w') => k.cellOf HTe.out o
          have f_HTe_we := fun w' o (k : Ext we w') => frozen_of (k.keep HTe.out) o
          have r_HTe_we := Ext.refl we
          have c_HEe_we := fun w' o (k : Ext we w') => k.cellOf HEe.out o
          have f_HEe_we := fun w' o (k : Ext we w') => frozen_of (k.keep HEe.out) o
          have r_HEe_we := Ext.refl we
          have c_HAe_we := fun w' o (k : Ext we w') => k.cellOf HAe.out o
          have f_HAe_we := fun w' o (k : Ext we w') => frozen_of (k.keep HAe.out) o
          have r_HAe_we := Ext.refl we
          cases hc : σ'.last.changed
          · cases y
            · go_wp2_with fail
              go_roundg kk2
              case measure => omega
              case rel => exact ⟨k + 1, σ', a', F', rfl, by simp, by omega, (by first | exact (HS.out.1 rfl).2 | exact (HS.out.1 trivial).2 | exact HS.out.1.2), he, hae, hF2, hFn2, hse, HEe.out, HAe.out, Xe⟩
            · by_cases k1 : K = 1
              · have k2 : (K == 1) = true := by rw [k1]; rfl
                have hI2 := Lib.hid (show Fl.StepsInv n (j + 1) σ' by first | exact HS.out.2.1 rfl | exact HS.out.2.1 trivial | exact HS.out.2.1)
                go_wp2_with fail
                go_roundg kk
                case measure => omega
                case rel => exact ⟨j + 1, σ', by simp, by omega, hI2.out, he, HEe.out, Xe⟩
              · have k2 : (K == 1) = false := beq_eq_false_iff_ne.2 k1
                have hI2 := Lib.hid (show Fl.StepsInv n (j + 1) σ' by first | exact HS.out.2.1 rfl | exact HS.out.2.1 trivial | exact HS.out.2.1)
                go_wp2_with fail
                go_roundg kk
                case measure => omega
                case rel => exact ⟨j + 1, σ', by simp, by omega, hI2.out, he, HEe.out, Xe⟩
          · cases y
            · exfalso
              have := (show σ'.last.changed = false from by first | exact (HS.out.1 rfl).1 | exact (HS.out.1 trivial).1 | exact HS.out.1.1)
              rw [hc] at this; cases this
            · obtain ⟨hk27, hk1⟩ := HS.out.2.2 hc
              have hkd := kindM hk27 hs2.2
              have hLM : Fl.LM = 107 := rfl
              have k2 : (K == 1) = false := beq_eq_false_iff_ne.2 hk1
              rw [hc] at HTe c_HTe_we
              go_wp2_with fail
              refine (n_kind Fl.cM σ'.last.addr _ gc (by omega)).mono ?_
              rintro e wf ⟨p1, p2, rfl, xf⟩
              rw [hkd]
              have HAf := Lib.hid (xf.keep HAe.out)
              clear c_HTe_we f_HTe_we r_HTe_we c_HEe_we f_HEe_we r_HEe_we c_HAe_we f_HAe_we r_HAe_we
              have c_HAf_wf := fun w' o (k : Ext wf w') => k.cellOf HAf.out o
              have f_HAf_wf := fun w' o (k : Ext wf w') => frozen_of (k.keep HAf.out) o
              have r_HAf_wf := Ext.refl wf
              have hI2 := Lib.hid (show Fl.StepsInv n (j + 1) σ' by first | exact HS.out.2.1 rfl | exact HS.out.2.1 trivial | exact HS.out.2.1)
              go_wp2_with fail
              go_roundg kk
              case measure => omega
              case rel => exact ⟨j + 1, σ', by simp, by omega, hI2.out, he.ext xf, xf.keep HEe.out, Xe.trans xf⟩

end Go.Proofs.Ythblhgappldcjaa
