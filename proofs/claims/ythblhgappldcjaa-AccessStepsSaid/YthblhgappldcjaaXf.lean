/- The contracts of access: the other steps. -/
import Derived.Test.YthblhgappldcjaaXe
namespace Go.Proofs.Ythblhgappldcjaa
open Go Go.RowKit
set_option linter.unusedVariables false

theorem next_range (a : Fl.Access) : 0 ≤ a.next ∧ a.next ≤ 6 := by
  have h : ∀ (C : Fl.Cl) (S : Fl.Sl), Fl.cellOf a.cell = C → Fl.slotOf a.w = S → 0 ≤ a.next ∧ a.next ≤ 6 := by
    rintro ⟨cv, cf, cr⟩ ⟨ss, sa, sg, sv⟩ hC hS
    rw [next_of hC hS]
    repeat' split
    all_goals omega
  exact h _ _ rfl rfl

theorem acc2 (c : Fl.Cfg) (who : Int) (σ : Fl.Mem) (a : Fl.Access) (p0 : a.pc = 2) (x : Nat) (m : Fl.Mem) (hl : σ.load who a.at_ = (x, m)) (N : Int) (hN : ({ a with cell := x } : Fl.Access).next = N) :
    a.step c who σ = if N = 4 then (false, { a with cell := x, read := m.steps, pc := N, help := Fl.Help.new a.h.slot a.w a.size }, m) else (false, { a with cell := x, read := m.steps, pc := N }, m) := by
  subst hN
  unfold Fl.Access.step; rw [if_neg (by omega), if_neg (by omega), if_pos p0]; simp only [hl]; rfl
theorem acc3 (c : Fl.Cfg) (who : Int) (σ : Fl.Mem) (a : Fl.Access) (p0 : a.pc = 3) (n : Nat) (hn : Fl.putSlot ⟨1, (Fl.slotOf a.w).addr, (Fl.slotOf a.w).gen, (Fl.slotOf a.w).ver + 1⟩ = n) (y : Bool) (m : Fl.Mem) (hl : σ.cas who (Fl.pSlot c a.h.slot) a.w n = (y, m)) :
    a.step c who σ = (false, { a with pc := 0 }, m) := by
  unfold Fl.Access.step; rw [if_neg (by omega), if_neg (by omega), if_neg (by omega), if_pos p0]; simp only [hn, hl]
theorem acc4 (c : Fl.Cfg) (who : Int) (σ : Fl.Mem) (a : Fl.Access) (p0 : a.pc = 4) (y : Bool) (q : Fl.Help) (m : Fl.Mem) (hl : a.help.step c who σ = (y, q, m)) :
    a.step c who σ = if y = true then (false, { a with help := q, pc := 0 }, m) else (false, { a with help := q }, m) := by
  unfold Fl.Access.step; rw [if_neg (by omega), if_neg (by omega), if_neg (by omega), if_neg (by omega), if_pos p0]; simp only [hl]
theorem acc5 (c : Fl.Cfg) (who : Int) (σ : Fl.Mem) (a : Fl.Access) (p0 : a.pc = 5) (n : Nat) (hn : Fl.putCell ⟨a.x.value, false, 0⟩ = n) (y : Bool) (m : Fl.Mem) (hl : σ.cas who a.at_ a.cell n = (y, m)) :
    a.step c who σ = if y = true then ({ a with pc := 0 } : Fl.Access).fin m 0 (Fl.cellOf a.cell).value m.steps else (false, { a with pc := 0 }, m) := by
  unfold Fl.Access.step; rw [if_neg (by omega), if_neg (by omega), if_neg (by omega), if_neg (by omega), if_neg (by omega), if_pos p0]; simp only [hn, hl]

theorem x_at' (l : Loc) (F : List Nat) (b : Nat) (a : Fl.Access) (p : Int) (W : World) (ha : AccessAt W l F b { a with pc := p }) (hi : 0 ≤ a.x.index ∧ a.x.index ≤ 65535) :
    Calls Try.prog 92 #[.pointer (some ⟨b, 0, none⟩)] W fun e w' => e = .returned (.int .i64 a.at_) ∧ Ext W w' := x_at l F b { a with pc := p } W ha hi


set_option maxHeartbeats 4000000 in
set_option maxRecDepth 100000 in
theorem x_step2 (c : Fl.Cfg) (l : Loc) (σ : Fl.Mem) (who : Int) (F : List Nat) (b : Nat) (a : Fl.Access) (W : World) (gc : GoodC c) (h : MemAt W l σ) (hs : 0 ≤ σ.steps ∧ σ.steps < 4611686018427387904)
    (ha : AccessAt W l F b a) (p0 : a.pc = 2)(hi : 0 ≤ a.x.index ∧ a.x.index ≤ 65535) :
    Calls Try.prog 55 #[.pointer (some ⟨b, 0, none⟩), .agg #[.int .i64 c.threads, .int .i64 c.slots, .int .i64 c.chunks, .int .i64 c.words, .int .i64 c.gens, .int .i64 c.sparse, .int .i64 c.tries, .pointer (some ⟨l.m, 0, none⟩), .int .i64 who]] W (AccessRes (.bool (a.step c who σ).1) c who σ a l F b W) := by
  have HA := Lib.hid (acc2 c who σ a p0)
  have ha' := ha
  have HP0 := Lib.hid p0
  obtain ⟨⟨H, hB, hH⟩, hbF, hout, hFl, hn, hw, hcl, hsl, hgn, hsz, hpc⟩ := ha
  have hb := hout b hbF
  have hlt := h.lt
  have hbl := lt_of_heap hB
  have hE := heap_new W (.cells #[.int .i64 c.threads, .int .i64 c.slots, .int .i64 c.chunks, .int .i64 c.words, .int .i64 c.gens, .int .i64 c.sparse, .int .i64 c.tries, .pointer (some ⟨l.m, 0, none⟩), .int .i64 who] 27)
  have hX := (Ext.refl W).alloc (.cells #[.int .i64 c.threads, .int .i64 c.slots, .int .i64 c.chunks, .int .i64 c.words, .int .i64 c.gens, .int .i64 c.sparse, .int .i64 c.tries, .pointer (some ⟨l.m, 0, none⟩), .int .i64 who] 27)
  have hsE := lt_of_heap hE
  rw [p0] at hB
  have HB1 := Lib.hid (hX.keep hB)
  have c0 := fun w' o (k : Ext W w') => k.cellOf hB o
  have HPG := Lib.hid hH
  clear hB hH
  go_enter Try.func55, Try.ntmps55
  go_wp2_with fail
  generalize W.alloc (.cells #[.int .i64 c.threads, .int .i64 c.slots, .int .i64 c.chunks, .int .i64 c.words, .int .i64 c.gens, .int .i64 c.sparse, .int .i64 c.tries, .pointer (some ⟨l.m, 0, none⟩), .int .i64 who] 27) = w1 at *
  have cE := fun w' o (k : Ext w1 w') => k.cellOf hE o
  have cb1 := fun w' o (k : Ext w1 w') => c0 w' o (hX.trans k)
  have r1 := Ext.refl w1
  have hax := ha'.ext hX
  have c_HB1_w1 := fun w' o (k : Ext w1 w') => k.cellOf HB1.out o
  have f_HB1_w1 := fun w' o (k : Ext w1 w') => frozen_of (k.keep HB1.out) o
  have r_HB1_w1 := Ext.refl w1
  have hll := load_lt h who a.at_
  refine wp_region_plan (Ext w1) [0] [1, 2, 3] 4 [5, 6, 7] Try.mixed (by kernel_rfl) (by intro c a d v w h; cases d <;> exact h) (Ext.refl _).drew ?_
  simp only [opsAt, List.filterMap_cons, List.filterMap_nil, List.getElem?_toArray, List.getElem?_cons_zero, List.getElem?_cons_succ]
  (refine Firsts.val (v := ?_) rfl (fun _ => ?_) ?_; rotate_left; (go_simp; with_reducible rfl); simp only [Act.put, List.setIfInBounds_toArray, List.set_cons_zero, List.set_cons_succ])
  refine Firsts.nil ?_
  (refine Heads.val (v := ?_) rfl (fun wv hwv => ?_) ?_; rotate_left; (go_simp; with_reducible rfl); simp only [Act.put, List.setIfInBounds_toArray, List.set_cons_zero, List.set_cons_succ])
  (refine Heads.val (v := ?_) rfl (fun wv hwv => ?_) ?_; rotate_left; (go_simp; with_reducible rfl); simp only [Act.put, List.setIfInBounds_toArray, List.set_cons_zero, List.set_cons_succ])
  (refine Heads.call (v := ?_) rfl (fun wv hwv => ?_) ?_; rotate_left; (go_simp; simp only [GivesUpon.enter]; refine (x_at l F b a _ (hax.ext hwv) hi).mono ?_; rintro e w' ⟨rfl, hh⟩; refine ⟨?_, hwv.trans hh⟩; with_reducible rfl); simp only [Act.put, List.setIfInBounds_toArray, List.set_cons_zero, List.set_cons_succ])
  refine Heads.nil ?_
  intro w2 hw2
  go_wp2_with fail
  refine (e_load c l σ who _ _ (h.ext (hX.trans hw2)) hs).mono ?_
  rintro e w3 ⟨rfl, h3, u3⟩
  generalize hl : σ.load who a.at_ = lx at *
  obtain ⟨x, σ'⟩ := lx
  simp only at hll h3
  have HE := Lib.hid (HA.out x σ' rfl)
  clear HA hl
  have HB3 := Lib.hid (u3.keep (hw2.keep HB1.out) hb)
  have E3 := u3.keep (hw2.keep hE) (by intro hm; have := hlt _ hm; omega)
  have hub3 : Upd (F ++ l.all) W w3 := ((hX.trans hw2).upd _).trans u3.mem
  have neb : W.heap.size ≠ b := by omega
  have c_HB3_w3 := fun w' o (k : Ext w3 w') => k.cellOf HB3.out o
  have f_HB3_w3 := fun w' o (k : Ext w3 w') => frozen_of (k.keep HB3.out) o
  have r_HB3_w3 := Ext.refl w3
  have cE3 := fun w' o (k : Ext w3 w') => k.cellOf E3 o
  clear c0 cb1 cE c_HB1_w1 f_HB1_w1
  go_wp2_with fail
  have HB4 := Lib.hid (heap_set HB3.out 10 (.int .u64 (x : Nat)))
  have E4 := (heap_far E3 (p := ⟨b, 10, none⟩) neb (.int .u64 (x : Nat)))
  have u4 := ((Upd.refl [b] w3).set1 10 (.int .u64 (x : Nat)))
  generalize (World.setCell w3 ⟨b, 10, none⟩ (.int .u64 (x : Nat))) = w4 at *
  simp only [List.setIfInBounds_toArray, List.set_cons_zero, List.set_cons_succ] at HB4
  have h4 := h3.keep1 u4 hb
  have hub4 := hub3.trans (u4.own1 hbF)
  refine (e_now c l σ' who _ h4).mono ?_
  rintro e w5 ⟨rfl, x5⟩
  have HB5 := Lib.hid (x5.keep HB4.out)
  have E5 := x5.keep E4
  have h5 := h4.ext x5
  have hub5 := hub4.extR x5
  have HD5 : AccessAt w5 l F b { a with cell := x } := ⟨⟨H, by rw [HP0.out]; exact HB5.out, fun q => by simp only [HP0.out] at q; omega⟩, hbF, hout, fun x hx => by have := hFl x hx; have := hub5.size; omega, hn, hw, hll, hsl, hgn, hsz, hpc⟩
  have c_HB5_w5 := fun w' o (k : Ext w5 w') => k.cellOf HB5.out o
  have f_HB5_w5 := fun w' o (k : Ext w5 w') => frozen_of (k.keep HB5.out) o
  have r_HB5_w5 := Ext.refl w5
  have cE5 := fun w' o (k : Ext w5 w') => k.cellOf E5 o
  clear c_HB3_w3 f_HB3_w3 cE3
  go_wp2_with fail
  refine (x_next l F b _ _ HD5).mono ?_
  rintro e w6 ⟨rfl, x6⟩
  have HE2 := Lib.hid (HE.out _ rfl)
  have hnr := next_range { a with cell := x }
  generalize ({ a with cell := x } : Fl.Access).next = N at *
  clear HE
  have HB6 := Lib.hid (x6.keep HB5.out)
  have E6 := x6.keep E5
  have h6 := h5.ext x6
  have hub6 := hub5.extR x6
  have c_HB6_w6 := fun w' o (k : Ext w6 w') => k.cellOf HB6.out o
  have f_HB6_w6 := fun w' o (k : Ext w6 w') => frozen_of (k.keep HB6.out) o
  have r_HB6_w6 := Ext.refl w6
  have cE6 := fun w' o (k : Ext w6 w') => k.cellOf E6 o
  clear c_HB5_w5 f_HB5_w5 cE5
  by_cases n0 : N = 4
  · have n1 : (N == 4) = true := by simpa using n0
    have HI := Lib.hid (HE2.out.trans (if_pos n0))
    clear HE2
    subst n0
    go_wp2_with fail
    have HB7 := Lib.hid (heap_set (heap_set HB6.out 12 (.int .i64 σ'.steps)) 8 (.int .i64 4))
    have E7 := (heap_far (heap_far E6 (p := ⟨b, 12, none⟩) neb (.int .i64 σ'.steps)) (p := ⟨b, 8, none⟩) neb (.int .i64 4))
    have u7 := (((Upd.refl [b] w6).set1 12 (.int .i64 σ'.steps)).set1 8 (.int .i64 4))
    generalize (World.setCell (World.setCell w6 ⟨b, 12, none⟩ (.int .i64 σ'.steps)) ⟨b, 8, none⟩ (.int .i64 4)) = w7 at *
    simp only [List.setIfInBounds_toArray, List.set_cons_zero, List.set_cons_succ] at HB7
    have h7 := h6.keep1 u7 hb
    have hub7 := hub6.trans (u7.own1 hbF)
    clear c_HB6_w6 f_HB6_w6 cE6
    have c_HB7_w7 := fun w' o (k : Ext w7 w') => k.cellOf HB7.out o
    have f_HB7_w7 := fun w' o (k : Ext w7 w') => frozen_of (k.keep HB7.out) o
    have r_HB7_w7 := Ext.refl w7
    have cE7 := fun w' o (k : Ext w7 w') => k.cellOf E7 o
    refine wp_region_plan (Ext w7) [0] [1, 2, 3, 4, 5, 6, 7, 8, 9, 10, 11, 12, 13] 14 [15, 16, 17] Try.mixed (by kernel_rfl) (by intro c a d v w h; cases d <;> exact h) (Ext.refl _).drew ?_
    simp only [opsAt, List.filterMap_cons, List.filterMap_nil, List.getElem?_toArray, List.getElem?_cons_zero, List.getElem?_cons_succ]
    (refine Firsts.val (v := ?_) rfl (fun _ => ?_) ?_; rotate_left; (go_simp; with_reducible rfl); simp only [Act.put, List.setIfInBounds_toArray, List.set_cons_zero, List.set_cons_succ])
    refine Firsts.nil ?_
    (refine Heads.val (v := ?_) rfl (fun wv hwv => ?_) ?_; rotate_left; (go_simp; with_reducible rfl); simp only [Act.put, List.setIfInBounds_toArray, List.set_cons_zero, List.set_cons_succ])
    (refine Heads.val (v := ?_) rfl (fun wv hwv => ?_) ?_; rotate_left; (go_simp; with_reducible rfl); simp only [Act.put, List.setIfInBounds_toArray, List.set_cons_zero, List.set_cons_succ])
    (refine Heads.val (v := ?_) rfl (fun wv hwv => ?_) ?_; rotate_left; (go_simp; with_reducible rfl); simp only [Act.put, List.setIfInBounds_toArray, List.set_cons_zero, List.set_cons_succ])
    (refine Heads.val (v := ?_) rfl (fun wv hwv => ?_) ?_; rotate_left; (go_simp; with_reducible rfl); simp only [Act.put, List.setIfInBounds_toArray, List.set_cons_zero, List.set_cons_succ])
    (refine Heads.val (v := ?_) rfl (fun wv hwv => ?_) ?_; rotate_left; (go_simp; with_reducible rfl); simp only [Act.put, List.setIfInBounds_toArray, List.set_cons_zero, List.set_cons_succ])
    (refine Heads.val (v := ?_) rfl (fun wv hwv => ?_) ?_; rotate_left; (go_simp; with_reducible rfl); simp only [Act.put, List.setIfInBounds_toArray, List.set_cons_zero, List.set_cons_succ])
    (refine Heads.val (v := ?_) rfl (fun wv hwv => ?_) ?_; rotate_left; (go_simp; with_reducible rfl); simp only [Act.put, List.setIfInBounds_toArray, List.set_cons_zero, List.set_cons_succ])
    (refine Heads.val (v := ?_) rfl (fun wv hwv => ?_) ?_; rotate_left; (go_simp; with_reducible rfl); simp only [Act.put, List.setIfInBounds_toArray, List.set_cons_zero, List.set_cons_succ])
    (refine Heads.val (v := ?_) rfl (fun wv hwv => ?_) ?_; rotate_left; (go_simp; with_reducible rfl); simp only [Act.put, List.setIfInBounds_toArray, List.set_cons_zero, List.set_cons_succ])
    (refine Heads.val (v := ?_) rfl (fun wv hwv => ?_) ?_; rotate_left; (go_simp; with_reducible rfl); simp only [Act.put, List.setIfInBounds_toArray, List.set_cons_zero, List.set_cons_succ])
    (refine Heads.val (v := ?_) rfl (fun wv hwv => ?_) ?_; rotate_left; (go_simp; with_reducible rfl); simp only [Act.put, List.setIfInBounds_toArray, List.set_cons_zero, List.set_cons_succ])
    (refine Heads.val (v := ?_) rfl (fun wv hwv => ?_) ?_; rotate_left; (go_simp; with_reducible rfl); simp only [Act.put, List.setIfInBounds_toArray, List.set_cons_zero, List.set_cons_succ])
    (refine Heads.val (v := ?_) rfl (fun wv hwv => ?_) ?_; rotate_left; (go_simp; with_reducible rfl); simp only [Act.put, List.setIfInBounds_toArray, List.set_cons_zero, List.set_cons_succ])
    refine Heads.nil ?_
    intro wa hwa
    go_wp2_with fail
    refine (n_help _ _ _ _ (by omega) hw (by omega)).mono ?_
    rintro e wb ⟨rfl, hhb, xb⟩
    have hxb := hwa.trans xb
    have HBb := Lib.hid (hxb.keep HB7.out)
    have hubb := hub7.extR hxb
    have z1 := hub7.size
    have z2 := hwa.size
    have hbl7 := lt_of_heap HB7.out
    have nhb : wa.heap.size ≠ b := by omega
    have hhW : W.heap.size ≤ wa.heap.size := by omega
    have hhl := lt_of_heap hhb.blk
    generalize wa.heap.size = ph at *
    have c_HBb_wb := fun w' o (k : Ext wb w') => k.cellOf HBb.out o
    have f_HBb_wb := fun w' o (k : Ext wb w') => frozen_of (k.keep HBb.out) o
    have r_HBb_wb := Ext.refl wb
    clear c_HB7_w7 f_HB7_w7 cE7
    go_wp2
    go_ret
    unfold AccessRes
    rw [HI.out]
    refine ⟨rfl, (h7.ext hxb).keep1 (((Upd.refl [b] _)).set1 _ _) hb, hubb.trans ((((Upd.refl [b] _)).set1 _ _).own1 hbF), ph :: F, ⟨⟨.pointer (some ⟨ph, 0, none⟩), (heap_set HBb.out _ _).trans (by simp), fun _ => ⟨ph, by simp, nhb, rfl, hhb.keep (((Upd.refl [b] _)).set1 _ _) (by simpa using nhb)⟩⟩, by simp [hbF], ?_, ?_, hn, hw, hll, hsl, hgn, hsz, hnr⟩, ?_⟩
    · intro y hy
      rcases List.mem_cons.1 hy with rfl | hy
      · intro hm; have := hlt _ hm; omega
      · exact hout y hy
    · intro y hy
      rcases List.mem_cons.1 hy with rfl | hy
      · simpa using hhl
      · have := hFl y hy; have := hubb.size; simp; omega
    · intro y hy
      rcases List.mem_cons.1 hy with rfl | hy
      · exact Or.inr hhW
      · exact Or.inl hy
  · have n1 : (N == 4) = false := by simpa using n0
    have HI := Lib.hid (HE2.out.trans (if_neg n0))
    clear HE2
    go_wp2
    go_ret
    unfold AccessRes
    rw [HI.out]
    refine ⟨rfl, h6.keep1 ((((Upd.refl [b] _)).set1 _ _).set1 _ _) hb, hub6.trans (((((Upd.refl [b] _)).set1 _ _).set1 _ _).own1 hbF), F, ⟨⟨H, (heap_set (heap_set HB6.out _ _) _ _).trans (by simp), fun q => absurd q n0⟩, hbF, hout, fun x hx => ?_, hn, hw, hll, hsl, hgn, hsz, hnr⟩, fun x hx => Or.inl hx⟩
    have := hFl x hx; have := hub6.size; simp; omega

set_option maxHeartbeats 4000000 in
set_option maxRecDepth 100000 in
theorem x_step3 (c : Fl.Cfg) (l : Loc) (σ : Fl.Mem) (who : Int) (F : List Nat) (b : Nat) (a : Fl.Access) (W : World) (gc : GoodC c) (h : MemAt W l σ) (hs : 0 ≤ σ.steps ∧ σ.steps < 4611686018427387904)
    (ha : AccessAt W l F b a) (p0 : a.pc = 3)  :
    Calls Try.prog 55 #[.pointer (some ⟨b, 0, none⟩), .agg #[.int .i64 c.threads, .int .i64 c.slots, .int .i64 c.chunks, .int .i64 c.words, .int .i64 c.gens, .int .i64 c.sparse, .int .i64 c.tries, .pointer (some ⟨l.m, 0, none⟩), .int .i64 who]] W (AccessRes (.bool (a.step c who σ).1) c who σ a l F b W) := by
  have HA := Lib.hid (acc3 c who σ a p0 _ rfl)
  have HP0 := Lib.hid p0
  obtain ⟨⟨H, hB, hH⟩, hbF, hout, hFl, hn, hw, hcl, hsl, hgn, hsz, hpc⟩ := ha
  have hb := hout b hbF
  have hlt := h.lt
  have hbl := lt_of_heap hB
  have hE := heap_new W (.cells #[.int .i64 c.threads, .int .i64 c.slots, .int .i64 c.chunks, .int .i64 c.words, .int .i64 c.gens, .int .i64 c.sparse, .int .i64 c.tries, .pointer (some ⟨l.m, 0, none⟩), .int .i64 who] 27)
  have hX := (Ext.refl W).alloc (.cells #[.int .i64 c.threads, .int .i64 c.slots, .int .i64 c.chunks, .int .i64 c.words, .int .i64 c.gens, .int .i64 c.sparse, .int .i64 c.tries, .pointer (some ⟨l.m, 0, none⟩), .int .i64 who] 27)
  have hsE := lt_of_heap hE
  rw [p0] at hB
  have HB1 := Lib.hid (hX.keep hB)
  have c0 := fun w' o (k : Ext W w') => k.cellOf hB o
  have HPG := Lib.hid hH
  clear hB hH
  go_enter Try.func55, Try.ntmps55
  go_wp2_with fail
  generalize W.alloc (.cells #[.int .i64 c.threads, .int .i64 c.slots, .int .i64 c.chunks, .int .i64 c.words, .int .i64 c.gens, .int .i64 c.sparse, .int .i64 c.tries, .pointer (some ⟨l.m, 0, none⟩), .int .i64 who] 27) = w1 at *
  have cE := fun w' o (k : Ext w1 w') => k.cellOf hE o
  have cb1 := fun w' o (k : Ext w1 w') => c0 w' o (hX.trans k)
  have r1 := Ext.refl w1
  have c_HB1_w1 := fun w' o (k : Ext w1 w') => k.cellOf HB1.out o
  have f_HB1_w1 := fun w' o (k : Ext w1 w') => frozen_of (k.keep HB1.out) o
  have r_HB1_w1 := Ext.refl w1
  go_wp2_with fail
  refine (c_slot _ _ hw).mono ?_
  rintro e w2 ⟨rfl, x2⟩
  obtain ⟨r1, r2, r3, r4, r5, r6, r7, r8⟩ := Fl.slotOf_range a.w
  generalize Fl.slotOf a.w = s at *
  have HB2 := Lib.hid (x2.keep HB1.out)
  have E2 := x2.keep hE
  have c_HB2_w2 := fun w' o (k : Ext w2 w') => k.cellOf HB2.out o
  have f_HB2_w2 := fun w' o (k : Ext w2 w') => frozen_of (k.keep HB2.out) o
  have r_HB2_w2 := Ext.refl w2
  have cE2 := fun w' o (k : Ext w2 w') => k.cellOf E2 o
  clear c0 cb1 cE c_HB1_w1 f_HB1_w1
  have a2 := fun o => (Ext.refl w2).alloc o
  go_wp2_with fail
  clear a2
  have y2 := (Ext.refl w2).alloc (.cells #[.int .i64 1, .int .i64 s.addr, .int .i64 s.gen, .int .i64 (s.ver + 1)] 44)
  have N3 := heap_new w2 (.cells #[.int .i64 1, .int .i64 s.addr, .int .i64 s.gen, .int .i64 (s.ver + 1)] 44)
  generalize w2.alloc (.cells #[.int .i64 1, .int .i64 s.addr, .int .i64 s.gen, .int .i64 (s.ver + 1)] 44) = w3 at *
  generalize w2.heap.size = bs at *
  have x13 := x2.trans y2
  have HB3 := Lib.hid (y2.keep HB2.out)
  have HN3 := Lib.hid N3
  have E3 := y2.keep E2
  have h3 := h.ext (hX.trans x13)
  have hub3 : Upd (F ++ l.all) W w3 := (hX.trans x13).upd _
  clear c_HB2_w2 f_HB2_w2 cE2 N3
  have c_HB3_w3 := fun w' o (k : Ext w3 w') => k.cellOf HB3.out o
  have f_HB3_w3 := fun w' o (k : Ext w3 w') => frozen_of (k.keep HB3.out) o
  have r_HB3_w3 := Ext.refl w3
  have c_HN3_w3 := fun w' o (k : Ext w3 w') => k.cellOf HN3.out o
  have f_HN3_w3 := fun w' o (k : Ext w3 w') => frozen_of (k.keep HN3.out) o
  have r_HN3_w3 := Ext.refl w3
  have cE3 := fun w' o (k : Ext w3 w') => k.cellOf E3 o
  refine wp_region_plan (Ext w3) [] [0, 1, 2, 3, 4, 5, 6, 7, 8, 9, 10, 11, 12, 13, 14] 15 [] Try.mixed (by kernel_rfl) (by intro c a d v w h; cases d <;> exact h) (Ext.refl _).drew ?_
  simp only [opsAt, List.filterMap_cons, List.filterMap_nil, List.getElem?_toArray, List.getElem?_cons_zero, List.getElem?_cons_succ]
  refine Firsts.nil ?_
  (refine Heads.val (v := ?_) rfl (fun wv hwv => ?_) ?_; rotate_left; (go_simp; with_reducible rfl); simp only [Act.put, List.setIfInBounds_toArray, List.set_cons_zero, List.set_cons_succ])
  (refine Heads.val (v := ?_) rfl (fun wv hwv => ?_) ?_; rotate_left; (go_simp; with_reducible rfl); simp only [Act.put, List.setIfInBounds_toArray, List.set_cons_zero, List.set_cons_succ])
  (refine Heads.val (v := ?_) rfl (fun wv hwv => ?_) ?_; rotate_left; (go_simp; with_reducible rfl); simp only [Act.put, List.setIfInBounds_toArray, List.set_cons_zero, List.set_cons_succ])
  (refine Heads.val (v := ?_) rfl (fun wv hwv => ?_) ?_; rotate_left; (go_simp; with_reducible rfl); simp only [Act.put, List.setIfInBounds_toArray, List.set_cons_zero, List.set_cons_succ])
  (refine Heads.val (v := ?_) rfl (fun wv hwv => ?_) ?_; rotate_left; (go_simp; with_reducible rfl); simp only [Act.put, List.setIfInBounds_toArray, List.set_cons_zero, List.set_cons_succ])
  (refine Heads.val (v := ?_) rfl (fun wv hwv => ?_) ?_; rotate_left; (go_simp; with_reducible rfl); simp only [Act.put, List.setIfInBounds_toArray, List.set_cons_zero, List.set_cons_succ])
  (refine Heads.val (v := ?_) rfl (fun wv hwv => ?_) ?_; rotate_left; (go_simp; with_reducible rfl); simp only [Act.put, List.setIfInBounds_toArray, List.set_cons_zero, List.set_cons_succ])
  (refine Heads.val (v := ?_) rfl (fun wv hwv => ?_) ?_; rotate_left; (go_simp; with_reducible rfl); simp only [Act.put, List.setIfInBounds_toArray, List.set_cons_zero, List.set_cons_succ])
  (refine Heads.call (v := ?_) rfl (fun wv hwv => ?_) ?_; rotate_left; (go_simp; simp only [GivesUpon.enter]; refine (c_pSlot c _ _ gc (by omega)).mono ?_; rintro e w' ⟨rfl, hh⟩; refine ⟨?_, hwv.trans hh⟩; with_reducible rfl); simp only [Act.put, List.setIfInBounds_toArray, List.set_cons_zero, List.set_cons_succ])
  (refine Heads.val (v := ?_) rfl (fun wv hwv => ?_) ?_; rotate_left; (go_simp; with_reducible rfl); simp only [Act.put, List.setIfInBounds_toArray, List.set_cons_zero, List.set_cons_succ])
  (refine Heads.val (v := ?_) rfl (fun wv hwv => ?_) ?_; rotate_left; (go_simp; with_reducible rfl); simp only [Act.put, List.setIfInBounds_toArray, List.set_cons_zero, List.set_cons_succ])
  (refine Heads.val (v := ?_) rfl (fun wv hwv => ?_) ?_; rotate_left; (go_simp; with_reducible rfl); simp only [Act.put, List.setIfInBounds_toArray, List.set_cons_zero, List.set_cons_succ])
  (refine Heads.val (v := ?_) rfl (fun wv hwv => ?_) ?_; rotate_left; (go_simp; with_reducible rfl); simp only [Act.put, List.setIfInBounds_toArray, List.set_cons_zero, List.set_cons_succ])
  (refine Heads.val (v := ?_) rfl (fun wv hwv => ?_) ?_; rotate_left; (go_simp; with_reducible rfl); simp only [Act.put, List.setIfInBounds_toArray, List.set_cons_zero, List.set_cons_succ])
  (refine Heads.call (v := ?_) rfl (fun wv hwv => ?_) ?_; rotate_left; (go_simp; simp only [GivesUpon.enter]; refine (c_putSlot _ _ _ _ _).mono ?_; rintro e w' ⟨rfl, hh⟩; refine ⟨?_, hwv.trans hh⟩; with_reducible rfl); simp only [Act.put, List.setIfInBounds_toArray, List.set_cons_zero, List.set_cons_succ])
  refine Heads.nil ?_
  intro w4 hw4
  go_wp2_with fail
  refine (e_cas c l σ who _ _ _ _ (h3.ext hw4) hs (Fl.putSlot_lt _)).mono ?_
  rintro e w5 ⟨rfl, h5, u5⟩
  generalize hl : σ.cas who (Fl.pSlot c a.h.slot) a.w _ = lx at *
  obtain ⟨y, σ'⟩ := lx
  simp only at h5
  have HE := Lib.hid (HA.out y σ' rfl)
  clear HA hl
  have HB5 := Lib.hid (u5.keep (hw4.keep HB3.out) hb)
  have hub5 : Upd (F ++ l.all) W w5 := (hub3.extR hw4).trans u5.mem
  have c_HB5_w5 := fun w' o (k : Ext w5 w') => k.cellOf HB5.out o
  have f_HB5_w5 := fun w' o (k : Ext w5 w') => frozen_of (k.keep HB5.out) o
  have r_HB5_w5 := Ext.refl w5
  clear c_HB3_w3 f_HB3_w3 c_HN3_w3 f_HN3_w3 cE3
  go_wp2
  go_ret
  unfold AccessRes
  rw [HE.out]
  refine ⟨rfl, h5.keep1 (((Upd.refl [b] _)).set1 _ _) hb, hub5.trans ((((Upd.refl [b] _)).set1 _ _).own1 hbF), F, ⟨⟨H, (heap_set HB5.out _ _).trans (by simp), fun q => by simp at q⟩, hbF, hout, fun x hx => ?_, hn, hw, hcl, hsl, hgn, hsz, by simp⟩, fun x hx => Or.inl hx⟩
  have := hFl x hx; have := hub5.size; simp; omega

set_option maxHeartbeats 4000000 in
set_option maxRecDepth 100000 in
theorem x_step4 (c : Fl.Cfg) (l : Loc) (σ : Fl.Mem) (who : Int) (F : List Nat) (b : Nat) (a : Fl.Access) (W : World) (gc : GoodC c) (h : MemAt W l σ) (hs : 0 ≤ σ.steps ∧ σ.steps < 4611686018427387904)
    (ha : AccessAt W l F b a) (p0 : a.pc = 4)  :
    Calls Try.prog 55 #[.pointer (some ⟨b, 0, none⟩), .agg #[.int .i64 c.threads, .int .i64 c.slots, .int .i64 c.chunks, .int .i64 c.words, .int .i64 c.gens, .int .i64 c.sparse, .int .i64 c.tries, .pointer (some ⟨l.m, 0, none⟩), .int .i64 who]] W (AccessRes (.bool (a.step c who σ).1) c who σ a l F b W) := by
  have HA := Lib.hid (acc4 c who σ a p0)
  have HP0 := Lib.hid p0
  obtain ⟨⟨H, hB, hH⟩, hbF, hout, hFl, hn, hw, hcl, hsl, hgn, hsz, hpc⟩ := ha
  have hb := hout b hbF
  have hlt := h.lt
  have hbl := lt_of_heap hB
  have hE := heap_new W (.cells #[.int .i64 c.threads, .int .i64 c.slots, .int .i64 c.chunks, .int .i64 c.words, .int .i64 c.gens, .int .i64 c.sparse, .int .i64 c.tries, .pointer (some ⟨l.m, 0, none⟩), .int .i64 who] 27)
  have hX := (Ext.refl W).alloc (.cells #[.int .i64 c.threads, .int .i64 c.slots, .int .i64 c.chunks, .int .i64 c.words, .int .i64 c.gens, .int .i64 c.sparse, .int .i64 c.tries, .pointer (some ⟨l.m, 0, none⟩), .int .i64 who] 27)
  have hsE := lt_of_heap hE
  rw [p0] at hB
  have HB1 := Lib.hid (hX.keep hB)
  have c0 := fun w' o (k : Ext W w') => k.cellOf hB o
  have HPG := Lib.hid hH
  clear hB hH
  obtain ⟨ph, hpF, hpb, rfl, hph⟩ := HPG.out HP0.out
  go_enter Try.func55, Try.ntmps55
  go_wp2_with fail
  generalize W.alloc (.cells #[.int .i64 c.threads, .int .i64 c.slots, .int .i64 c.chunks, .int .i64 c.words, .int .i64 c.gens, .int .i64 c.sparse, .int .i64 c.tries, .pointer (some ⟨l.m, 0, none⟩), .int .i64 who] 27) = w1 at *
  have cE := fun w' o (k : Ext w1 w') => k.cellOf hE o
  have cb1 := fun w' o (k : Ext w1 w') => c0 w' o (hX.trans k)
  have r1 := Ext.refl w1
  have c_HB1_w1 := fun w' o (k : Ext w1 w') => k.cellOf HB1.out o
  have f_HB1_w1 := fun w' o (k : Ext w1 w') => frozen_of (k.keep HB1.out) o
  have r_HB1_w1 := Ext.refl w1
  go_wp2_with fail
  refine wp_region_plan (Ext w1) [] [0, 1, 2, 3, 4] 5 [] Try.mixed (by kernel_rfl) (by intro c a d v w h; cases d <;> exact h) (Ext.refl _).drew ?_
  simp only [opsAt, List.filterMap_cons, List.filterMap_nil, List.getElem?_toArray, List.getElem?_cons_zero, List.getElem?_cons_succ]
  refine Firsts.nil ?_
  (refine Heads.val (v := ?_) rfl (fun wv hwv => ?_) ?_; rotate_left; (go_simp; with_reducible rfl); simp only [Act.put, List.setIfInBounds_toArray, List.set_cons_zero, List.set_cons_succ])
  (refine Heads.val (v := ?_) rfl (fun wv hwv => ?_) ?_; rotate_left; (go_simp; with_reducible rfl); simp only [Act.put, List.setIfInBounds_toArray, List.set_cons_zero, List.set_cons_succ])
  (refine Heads.val (v := ?_) rfl (fun wv hwv => ?_) ?_; rotate_left; (go_simp; with_reducible rfl); simp only [Act.put, List.setIfInBounds_toArray, List.set_cons_zero, List.set_cons_succ])
  (refine Heads.val (v := ?_) rfl (fun wv hwv => ?_) ?_; rotate_left; (go_simp; with_reducible rfl); simp only [Act.put, List.setIfInBounds_toArray, List.set_cons_zero, List.set_cons_succ])
  (refine Heads.val (v := ?_) rfl (fun wv hwv => ?_) ?_; rotate_left; (go_simp; with_reducible rfl); simp only [Act.put, List.setIfInBounds_toArray, List.set_cons_zero, List.set_cons_succ])
  refine Heads.nil ?_
  intro w3 hw3
  go_wp2_with fail
  have hx3 := hX.trans hw3
  refine (h_step c l σ who ph a.help _ gc (h.ext hx3) hs (hph.keep (hx3.upd []) (by simp)) (hout ph hpF)).mono ?_
  rintro e w4 ⟨rfl, h4, hp4, u4⟩
  generalize hst : a.help.step c who σ = st at *
  obtain ⟨y, q, σ'⟩ := st
  simp only at h4 hp4
  have HE := Lib.hid (HA.out y q σ' rfl)
  have hbp : b ∉ ph :: l.all := by
    intro hm
    rcases List.mem_cons.1 hm with hm | hm
    · exact hpb hm.symm
    · exact hb hm
  have HB4 := Lib.hid (u4.keep (hw3.keep HB1.out) hbp)
  have hub : Upd (F ++ l.all) W w4 := (hx3.upd _).trans (u4.own hpF)
  have hF4 : ∀ x, x ∈ F → x < w4.heap.size := fun x hx => by have := hFl x hx; have := hub.size; omega
  clear c0 cb1 cE c_HB1_w1 f_HB1_w1 HA hst
  have c_HB4_w4 := fun w' o (k : Ext w4 w') => k.cellOf HB4.out o
  have f_HB4_w4 := fun w' o (k : Ext w4 w') => frozen_of (k.keep HB4.out) o
  have r_HB4_w4 := Ext.refl w4
  cases y
  · have HF := Lib.hid (HE.out.trans (if_neg (by decide)))
    clear HE
    go_wp2
    go_ret
    unfold AccessRes
    rw [HF.out]
    exact ⟨rfl, h4, hub, F, ⟨⟨.pointer (some ⟨ph, 0, none⟩), by rw [HP0.out]; exact HB4.out, fun _ => ⟨ph, hpF, hpb, rfl, hp4⟩⟩, hbF, hout, hF4, hn, hw, hcl, hsl, hgn, hsz, hpc⟩, fun x hx => Or.inl hx⟩
  · have HF := Lib.hid (HE.out.trans (if_pos rfl))
    clear HE
    go_wp2
    go_ret
    unfold AccessRes
    rw [HF.out]
    refine ⟨rfl, h4.keep1 (((Upd.refl [b] _)).set1 _ _) hb, hub.trans ((((Upd.refl [b] _)).set1 _ _).own1 hbF), F, ⟨⟨.pointer (some ⟨ph, 0, none⟩), (heap_set HB4.out _ _).trans (by simp), fun q => by simp at q⟩, hbF, hout, fun x hx => ?_, hn, hw, hcl, hsl, hgn, hsz, by simp⟩, fun x hx => Or.inl hx⟩
    have := hF4 x hx; simp; omega

set_option maxHeartbeats 4000000 in
set_option maxRecDepth 100000 in
theorem x_step5 (c : Fl.Cfg) (l : Loc) (σ : Fl.Mem) (who : Int) (F : List Nat) (b : Nat) (a : Fl.Access) (W : World) (gc : GoodC c) (h : MemAt W l σ) (hs : 0 ≤ σ.steps ∧ σ.steps < 4611686018427387904)
    (ha : AccessAt W l F b a) (p0 : a.pc = 5)(hi : 0 ≤ a.x.index ∧ a.x.index ≤ 65535) :
    Calls Try.prog 55 #[.pointer (some ⟨b, 0, none⟩), .agg #[.int .i64 c.threads, .int .i64 c.slots, .int .i64 c.chunks, .int .i64 c.words, .int .i64 c.gens, .int .i64 c.sparse, .int .i64 c.tries, .pointer (some ⟨l.m, 0, none⟩), .int .i64 who]] W (AccessRes (.bool (a.step c who σ).1) c who σ a l F b W) := by
  have HA := Lib.hid (acc5 c who σ a p0 _ rfl)
  obtain ⟨⟨H, hB, hH⟩, hbF, hout, hFl, hn, hw, hcl, hsl, hgn, hsz, hpc⟩ := ha
  have hb := hout b hbF
  have hlt := h.lt
  have hbl := lt_of_heap hB
  rw [p0] at hB
  have f0 := fun w' o (k : Ext W w') => frozen_of (k.keep hB) o
  have c0 := fun w' o (k : Ext W w') => k.cellOf hB o
  have HB2 := Lib.hid (heap_old (o' := .cells #[.int .i64 c.threads, .int .i64 c.slots, .int .i64 c.chunks, .int .i64 c.words, .int .i64 c.gens, .int .i64 c.sparse, .int .i64 c.tries, .pointer (some ⟨l.m, 0, none⟩), .int .i64 who] 27) (heap_set hB 8 (.int .i64 0)))
  have zs : (W.setCell ⟨b, 8, none⟩ (.int .i64 0)).heap.size = W.heap.size := by simp
  have E2 := heap_new (W.setCell ⟨b, 8, none⟩ (.int .i64 0)) (.cells #[.int .i64 c.threads, .int .i64 c.slots, .int .i64 c.chunks, .int .i64 c.words, .int .i64 c.gens, .int .i64 c.sparse, .int .i64 c.tries, .pointer (some ⟨l.m, 0, none⟩), .int .i64 who] 27)
  rw [zs] at E2
  have u2 := ((Upd.refl [b] W).set1 8 (.int .i64 0)).alloc (.cells #[.int .i64 c.threads, .int .i64 c.slots, .int .i64 c.chunks, .int .i64 c.words, .int .i64 c.gens, .int .i64 c.sparse, .int .i64 c.tries, .pointer (some ⟨l.m, 0, none⟩), .int .i64 who] 27)
  have hX := (Ext.refl W).alloc (.cells #[.int .i64 c.threads, .int .i64 c.slots, .int .i64 c.chunks, .int .i64 c.words, .int .i64 c.gens, .int .i64 c.sparse, .int .i64 c.tries, .pointer (some ⟨l.m, 0, none⟩), .int .i64 who] 27)
  clear hB hH zs
  go_enter Try.func55, Try.ntmps55
  go_wp2_with fail
  generalize (W.setCell ⟨b, 8, none⟩ (.int .i64 0)).alloc (.cells #[.int .i64 c.threads, .int .i64 c.slots, .int .i64 c.chunks, .int .i64 c.words, .int .i64 c.gens, .int .i64 c.sparse, .int .i64 c.tries, .pointer (some ⟨l.m, 0, none⟩), .int .i64 who] 27) = w2 at *
  simp only [List.setIfInBounds_toArray, List.set_cons_zero, List.set_cons_succ] at HB2
  have h2 := h.keep1 u2 hb
  have hub2 : Upd (F ++ l.all) W w2 := u2.own1 hbF
  have HD2 : AccessAt w2 l F b { a with pc := 0 } := ⟨⟨H, HB2.out, fun q => by simp at q⟩, hbF, hout, fun x hx => by have := hFl x hx; have := hub2.size; omega, hn, hw, hcl, hsl, hgn, hsz, by simp⟩
  clear c0 f0 hX
  have c_HB2_w2 := fun w' o (k : Ext w2 w') => k.cellOf HB2.out o
  have f_HB2_w2 := fun w' o (k : Ext w2 w') => frozen_of (k.keep HB2.out) o
  have r_HB2_w2 := Ext.refl w2
  have cE2 := fun w' o (k : Ext w2 w') => k.cellOf E2 o
  refine wp_region_plan (Ext w2) [] [0, 1, 2, 3, 4, 5, 6, 7, 8, 9, 10, 11, 12, 13] 14 [] Try.mixed (by kernel_rfl) (by intro c a d v w h; cases d <;> exact h) (Ext.refl _).drew ?_
  simp only [opsAt, List.filterMap_cons, List.filterMap_nil, List.getElem?_toArray, List.getElem?_cons_zero, List.getElem?_cons_succ]
  refine Firsts.nil ?_
  (refine Heads.val (v := ?_) rfl (fun wv hwv => ?_) ?_; rotate_left; (go_simp; with_reducible rfl); simp only [Act.put, List.setIfInBounds_toArray, List.set_cons_zero, List.set_cons_succ])
  (refine Heads.val (v := ?_) rfl (fun wv hwv => ?_) ?_; rotate_left; (go_simp; with_reducible rfl); simp only [Act.put, List.setIfInBounds_toArray, List.set_cons_zero, List.set_cons_succ])
  (refine Heads.call (v := ?_) rfl (fun wv hwv => ?_) ?_; rotate_left; (go_simp; simp only [GivesUpon.enter]; refine (x_at' l F b a 0 _ (HD2.ext hwv) hi).mono ?_; rintro e w' ⟨rfl, hh⟩; refine ⟨?_, hwv.trans hh⟩; with_reducible rfl); simp only [Act.put, List.setIfInBounds_toArray, List.set_cons_zero, List.set_cons_succ])
  (refine Heads.val (v := ?_) rfl (fun wv hwv => ?_) ?_; rotate_left; (go_simp; with_reducible rfl); simp only [Act.put, List.setIfInBounds_toArray, List.set_cons_zero, List.set_cons_succ])
  (refine Heads.val (v := ?_) rfl (fun wv hwv => ?_) ?_; rotate_left; (go_simp; with_reducible rfl); simp only [Act.put, List.setIfInBounds_toArray, List.set_cons_zero, List.set_cons_succ])
  (refine Heads.val (v := ?_) rfl (fun wv hwv => ?_) ?_; rotate_left; (go_simp; with_reducible rfl); simp only [Act.put, List.setIfInBounds_toArray, List.set_cons_zero, List.set_cons_succ])
  (refine Heads.val (v := ?_) rfl (fun wv hwv => ?_) ?_; rotate_left; (go_simp; with_reducible rfl); simp only [Act.put, List.setIfInBounds_toArray, List.set_cons_zero, List.set_cons_succ])
  (refine Heads.val (v := ?_) rfl (fun wv hwv => ?_) ?_; rotate_left; (go_simp; with_reducible rfl); simp only [Act.put, List.setIfInBounds_toArray, List.set_cons_zero, List.set_cons_succ])
  (refine Heads.val (v := ?_) rfl (fun wv hwv => ?_) ?_; rotate_left; (go_simp; with_reducible rfl); simp only [Act.put, List.setIfInBounds_toArray, List.set_cons_zero, List.set_cons_succ])
  (refine Heads.val (v := ?_) rfl (fun wv hwv => ?_) ?_; rotate_left; (go_simp; with_reducible rfl); simp only [Act.put, List.setIfInBounds_toArray, List.set_cons_zero, List.set_cons_succ])
  (refine Heads.val (v := ?_) rfl (fun wv hwv => ?_) ?_; rotate_left; (go_simp; with_reducible rfl); simp only [Act.put, List.setIfInBounds_toArray, List.set_cons_zero, List.set_cons_succ])
  (refine Heads.val (v := ?_) rfl (fun wv hwv => ?_) ?_; rotate_left; (go_simp; with_reducible rfl); simp only [Act.put, List.setIfInBounds_toArray, List.set_cons_zero, List.set_cons_succ])
  (refine Heads.val (v := ?_) rfl (fun wv hwv => ?_) ?_; rotate_left; (go_simp; with_reducible rfl); simp only [Act.put, List.setIfInBounds_toArray, List.set_cons_zero, List.set_cons_succ])
  (refine Heads.call (v := ?_) rfl (fun wv hwv => ?_) ?_; rotate_left; (go_simp; simp only [GivesUpon.enter]; refine (c_putCell _ _ _ _).mono ?_; rintro e w' ⟨rfl, hh⟩; refine ⟨?_, hwv.trans hh⟩; with_reducible rfl); simp only [Act.put, List.setIfInBounds_toArray, List.set_cons_zero, List.set_cons_succ])
  refine Heads.nil ?_
  intro w3 hw3
  go_wp2_with fail
  refine (e_cas c l σ who _ _ _ _ (h2.ext hw3) hs (Fl.putCell_lt _)).mono ?_
  rintro e w4 ⟨rfl, h4, u4⟩
  generalize hl : σ.cas who a.at_ a.cell _ = lx at *
  obtain ⟨y, σ'⟩ := lx
  simp only at h4
  have HE := Lib.hid (HA.out y σ' rfl)
  clear HA hl
  have HB4 := Lib.hid (u4.keep (hw3.keep HB2.out) hb)
  have E4 := u4.keep (hw3.keep E2) (by intro hm; have := hlt _ hm; omega)
  have hub4 : Upd (F ++ l.all) W w4 := (hub2.extR hw3).trans u4.mem
  have fld := field_cell0
  clear c_HB2_w2 f_HB2_w2 cE2
  have c_HB4_w4 := fun w' o (k : Ext w4 w') => k.cellOf HB4.out o
  have f_HB4_w4 := fun w' o (k : Ext w4 w') => frozen_of (k.keep HB4.out) o
  have r_HB4_w4 := Ext.refl w4
  have cE4 := fun w' o (k : Ext w4 w') => k.cellOf E4 o
  cases y
  · have HF := Lib.hid (HE.out.trans (if_neg (by decide)))
    clear HE
    go_wp2
    go_ret
    unfold AccessRes
    rw [HF.out]
    exact ⟨rfl, h4, hub4, F, ⟨⟨H, HB4.out, fun q => by simp at q⟩, hbF, hout, fun x hx => by have := hFl x hx; have := hub4.size; omega, hn, hw, hcl, hsl, hgn, hsz, by simp⟩, fun x hx => Or.inl hx⟩
  · have HF := Lib.hid (HE.out.trans (if_pos rfl))
    clear HE
    go_wp2_with fail
    refine wp_region_plan (Ext w4) [] [0, 1, 2, 3, 4, 5, 6, 7, 8] 9 [10] Try.mixed (by kernel_rfl) (by intro c a d v w h; cases d <;> exact h) (Ext.refl _).drew ?_
    simp only [opsAt, List.filterMap_cons, List.filterMap_nil, List.getElem?_toArray, List.getElem?_cons_zero, List.getElem?_cons_succ]
    refine Firsts.nil ?_
    (refine Heads.val (v := ?_) rfl (fun wv hwv => ?_) ?_; rotate_left; (go_simp; with_reducible rfl); simp only [Act.put, List.setIfInBounds_toArray, List.set_cons_zero, List.set_cons_succ])
    (refine Heads.val (v := ?_) rfl (fun wv hwv => ?_) ?_; rotate_left; (go_simp; with_reducible rfl); simp only [Act.put, List.setIfInBounds_toArray, List.set_cons_zero, List.set_cons_succ])
    (refine Heads.val (v := ?_) rfl (fun wv hwv => ?_) ?_; rotate_left; (go_simp; with_reducible rfl); simp only [Act.put, List.setIfInBounds_toArray, List.set_cons_zero, List.set_cons_succ])
    (refine Heads.val (v := ?_) rfl (fun wv hwv => ?_) ?_; rotate_left; (go_simp; with_reducible rfl); simp only [Act.put, List.setIfInBounds_toArray, List.set_cons_zero, List.set_cons_succ])
    (refine Heads.val (v := ?_) rfl (fun wv hwv => ?_) ?_; rotate_left; (go_simp; with_reducible rfl); simp only [Act.put, List.setIfInBounds_toArray, List.set_cons_zero, List.set_cons_succ])
    (refine Heads.call (v := ?_) rfl (fun wv hwv => ?_) ?_; rotate_left; (go_simp; simp only [GivesUpon.enter]; refine (c_cell _ _ hcl).mono ?_; rintro e w' ⟨rfl, hh⟩; refine ⟨?_, hwv.trans hh⟩; with_reducible rfl); simp only [Act.put, List.setIfInBounds_toArray, List.set_cons_zero, List.set_cons_succ])
    (refine Heads.val (v := ?_) rfl (fun wv hwv => ?_) ?_; rotate_left; (go_simp; with_reducible rfl); simp only [Act.put, List.setIfInBounds_toArray, List.set_cons_zero, List.set_cons_succ])
    (refine Heads.val (v := ?_) rfl (fun wv hwv => ?_) ?_; rotate_left; (go_simp; with_reducible rfl); simp only [Act.put, List.setIfInBounds_toArray, List.set_cons_zero, List.set_cons_succ])
    (refine Heads.call (v := ?_) rfl (fun wv hwv => ?_) ?_; rotate_left; (go_simp; simp only [GivesUpon.enter]; refine (e_now c l σ' who _ (h4.ext hwv)).mono ?_; rintro e w' ⟨rfl, hh⟩; refine ⟨?_, hwv.trans hh⟩; with_reducible rfl); simp only [Act.put, List.setIfInBounds_toArray, List.set_cons_zero, List.set_cons_succ])
    refine Heads.nil ?_
    intro w5 hw5
    have h5 := h4.ext hw5
    have hub5 := hub4.extR hw5
    have HD5 : AccessAt w5 l F b { a with pc := 0 } := ⟨⟨H, hw5.keep HB4.out, fun q => by simp at q⟩, hbF, hout, fun x hx => by have := hFl x hx; have := hub5.size; omega, hn, hw, hcl, hsl, hgn, hsz, by simp⟩
    go_wp2_with fail
    refine (x_end l F b _ 0 ((Fl.cellOf a.cell).value) (σ'.steps) w5 HD5).mono ?_
    rintro e wz ⟨rfl, hdz, uz⟩
    go_wp2
    go_ret
    unfold AccessRes
    rw [HF.out]
    exact ⟨rfl, h5.keep1 uz hb, hub5.trans (uz.own1 hbF), F, hdz, fun x hx => Or.inl hx⟩

set_option maxHeartbeats 4000000 in
set_option maxRecDepth 100000 in
theorem x_step6 (c : Fl.Cfg) (l : Loc) (σ : Fl.Mem) (who : Int) (F : List Nat) (b : Nat) (a : Fl.Access) (W : World) (gc : GoodC c) (h : MemAt W l σ) (hs : 0 ≤ σ.steps ∧ σ.steps < 4611686018427387904)
    (ha : AccessAt W l F b a) (p0 : a.pc = 6)  :
    Calls Try.prog 55 #[.pointer (some ⟨b, 0, none⟩), .agg #[.int .i64 c.threads, .int .i64 c.slots, .int .i64 c.chunks, .int .i64 c.words, .int .i64 c.gens, .int .i64 c.sparse, .int .i64 c.tries, .pointer (some ⟨l.m, 0, none⟩), .int .i64 who]] W (AccessRes (.bool (a.step c who σ).1) c who σ a l F b W) := by
  have ha' := ha
  have HP0 := Lib.hid p0
  obtain ⟨⟨H, hB, hH⟩, hbF, hout, hFl, hn, hw, hcl, hsl, hgn, hsz, hpc⟩ := ha
  have hb := hout b hbF
  have hlt := h.lt
  have hbl := lt_of_heap hB
  have hE := heap_new W (.cells #[.int .i64 c.threads, .int .i64 c.slots, .int .i64 c.chunks, .int .i64 c.words, .int .i64 c.gens, .int .i64 c.sparse, .int .i64 c.tries, .pointer (some ⟨l.m, 0, none⟩), .int .i64 who] 27)
  have hX := (Ext.refl W).alloc (.cells #[.int .i64 c.threads, .int .i64 c.slots, .int .i64 c.chunks, .int .i64 c.words, .int .i64 c.gens, .int .i64 c.sparse, .int .i64 c.tries, .pointer (some ⟨l.m, 0, none⟩), .int .i64 who] 27)
  have hsE := lt_of_heap hE
  rw [p0] at hB
  have HB1 := Lib.hid (hX.keep hB)
  have c0 := fun w' o (k : Ext W w') => k.cellOf hB o
  have HPG := Lib.hid hH
  clear hB hH
  go_enter Try.func55, Try.ntmps55
  go_wp2_with fail
  generalize W.alloc (.cells #[.int .i64 c.threads, .int .i64 c.slots, .int .i64 c.chunks, .int .i64 c.words, .int .i64 c.gens, .int .i64 c.sparse, .int .i64 c.tries, .pointer (some ⟨l.m, 0, none⟩), .int .i64 who] 27) = w1 at *
  have cE := fun w' o (k : Ext w1 w') => k.cellOf hE o
  have cb1 := fun w' o (k : Ext w1 w') => c0 w' o (hX.trans k)
  have r1 := Ext.refl w1
  have c_HB1_w1 := fun w' o (k : Ext w1 w') => k.cellOf HB1.out o
  have f_HB1_w1 := fun w' o (k : Ext w1 w') => frozen_of (k.keep HB1.out) o
  have r_HB1_w1 := Ext.refl w1
  go_wp2_with fail
  refine (x_check c l σ who F b a _ gc (h.ext hX) hs (ha'.ext hX) p0).mono ?_
  rintro e w3 ⟨rfl, h3, u3, F', hd3, hF'⟩
  go_wp2
  go_ret
  refine ⟨rfl, h3, Upd.extL hX u3, F', hd3, fun x hx => ?_⟩
  rcases hF' x hx with h1 | h1
  · exact Or.inl h1
  · have := hX.size; exact Or.inr (by omega)

theorem x_step (c : Fl.Cfg) (l : Loc) (σ : Fl.Mem) (who : Int) (F : List Nat) (b : Nat) (a : Fl.Access) (W : World) (gc : GoodC c) (h : MemAt W l σ) (hs : 0 ≤ σ.steps ∧ σ.steps < 4611686018427387904)
    (ha : AccessAt W l F b a) (hi : 2 ≤ a.pc → 0 ≤ a.x.index ∧ a.x.index ≤ 65535) :
    Calls Try.prog 55 #[.pointer (some ⟨b, 0, none⟩), .agg #[.int .i64 c.threads, .int .i64 c.slots, .int .i64 c.chunks, .int .i64 c.words, .int .i64 c.gens, .int .i64 c.sparse, .int .i64 c.tries, .pointer (some ⟨l.m, 0, none⟩), .int .i64 who]] W (AccessRes (.bool (a.step c who σ).1) c who σ a l F b W) := by
  have hp := ha.pc
  have : a.pc = 0 ∨ a.pc = 1 ∨ a.pc = 2 ∨ a.pc = 3 ∨ a.pc = 4 ∨ a.pc = 5 ∨ a.pc = 6 := by omega
  rcases this with p | p | p | p | p | p | p
  · exact x_step0 c l σ who F b a W gc h hs ha p
  · exact x_step1 c l σ who F b a W gc h hs ha p
  · exact x_step2 c l σ who F b a W gc h hs ha p (hi (by omega))
  · exact x_step3 c l σ who F b a W gc h hs ha p
  · exact x_step4 c l σ who F b a W gc h hs ha p
  · exact x_step5 c l σ who F b a W gc h hs ha p (hi (by omega))
  · exact x_step6 c l σ who F b a W gc h hs ha p

end Go.Proofs.Ythblhgappldcjaa
