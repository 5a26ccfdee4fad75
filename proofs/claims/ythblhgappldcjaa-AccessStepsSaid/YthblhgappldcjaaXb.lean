/- The contracts of access: what is next. -/
import Derived.Test.YthblhgappldcjaaXa
import Derived.Test.YthblhgappldcjaaJb
namespace Go.Proofs.Ythblhgappldcjaa
open Go Go.RowKit
set_option linter.unusedVariables false

theorem next_of {a : Fl.Access} {cv cr ss sa sg sv : Int} {cf : Bool} (gC : Fl.cellOf a.cell = ⟨cv, cf, cr⟩) (gS : Fl.slotOf a.w = ⟨ss, sa, sg, sv⟩) :
    a.next = if a.x.kind = 1 ∨ (a.x.kind = 3 ∧ cv ≠ a.x.old) then 6 else if ss = 4 then 4 else if cf = false ∨ cr < sv then 5 else if cr = sv ∧ ss = 2 then 3 else 0 := by
  unfold Fl.Access.next; rw [gC, gS]


set_option maxHeartbeats 4000000 in
set_option maxRecDepth 100000 in
theorem x_next (l : Loc) (F : List Nat) (b : Nat) (a : Fl.Access) (W : World) (ha : AccessAt W l F b a) :
    Calls Try.prog 93 #[.pointer (some ⟨b, 0, none⟩)] W fun e w' => e = .returned (.int .i64 a.next) ∧ Ext W w' := by
  obtain ⟨⟨H, hB, hH⟩, hbF, hout, hFl, hn, hw, hcl, hsl, hgn, hsz, hpc⟩ := ha
  have HB1 := Lib.hid hB
  have hbl := lt_of_heap hB
  clear hB hH hpc
  have c_HB1_W := fun w' o (k : Ext W w') => k.cellOf HB1.out o
  have f_HB1_W := fun w' o (k : Ext W w') => frozen_of (k.keep HB1.out) o
  have r_HB1_W := Ext.refl W
  go_enter Try.func93, Try.ntmps93
  go_wp2_with fail
  refine wp_region_float2 W.heap.size (Ext W) 10 11 (some 3) (some 4) (.cells #[.int .i64 0, .bool false, .int .i64 0] 91) (.cells #[.int .i64 0, .int .i64 0, .int .i64 0, .int .i64 0] 44) [0, 1, 2, 3, 4, 5, 6, 7, 8, 9] [] 12 [13] Try.mixed (by kernel_rfl) rfl rfl (by decide) (Makes.two rfl rfl rfl (fun a w => by go_simp) rfl rfl rfl (fun a w => by go_simp) (by decide) (by intro d h h'; have h1 := Option.some.inj h; have h2 := Option.some.inj h'; omega) (by kernel_rfl)) (by intro c a d v w h; cases d <;> exact h) (Ext.refl _).drew (fun w ob hh => hh.alloc ob) (fun w hh => hh.size) ?_
  simp only [opsAt, List.filterMap_cons, List.filterMap_nil, List.getElem?_toArray, List.getElem?_cons_zero, List.getElem?_cons_succ]
  (refine HeadsP.val (v := ?_) rfl (fun wv hwv => ?_) ?_; rotate_left; (go_simp; with_reducible rfl); simp only [Act.put, List.setIfInBounds_toArray, List.set_cons_zero, List.set_cons_succ])
  (refine HeadsP.val (v := ?_) rfl (fun wv hwv => ?_) ?_; rotate_left; (go_simp; with_reducible rfl); simp only [Act.put, List.setIfInBounds_toArray, List.set_cons_zero, List.set_cons_succ])
  (refine HeadsP.val (v := ?_) rfl (fun wv hwv => ?_) ?_; rotate_left; (go_simp; with_reducible rfl); simp only [Act.put, List.setIfInBounds_toArray, List.set_cons_zero, List.set_cons_succ])
  (refine HeadsP.val (v := ?_) rfl (fun wv hwv => ?_) ?_; rotate_left; (go_simp; with_reducible rfl); simp only [Act.put, List.setIfInBounds_toArray, List.set_cons_zero, List.set_cons_succ])
  (refine HeadsP.call (v := ?_) rfl (fun wv hwv => ?_) ?_; rotate_left; (go_simp; simp only [GivesUpon.enter]; refine (c_cell _ _ hcl).mono ?_; rintro e w' ⟨rfl, hh⟩; refine ⟨?_, hwv.trans hh, KeepN.ext hh⟩; with_reducible rfl); simp only [Act.put, List.setIfInBounds_toArray, List.set_cons_zero, List.set_cons_succ])
  (refine HeadsP.val (v := ?_) rfl (fun wv hwv => ?_) ?_; rotate_left; (go_simp; with_reducible rfl); simp only [Act.put, List.setIfInBounds_toArray, List.set_cons_zero, List.set_cons_succ])
  (refine HeadsP.val (v := ?_) rfl (fun wv hwv => ?_) ?_; rotate_left; (go_simp; with_reducible rfl); simp only [Act.put, List.setIfInBounds_toArray, List.set_cons_zero, List.set_cons_succ])
  (refine HeadsP.val (v := ?_) rfl (fun wv hwv => ?_) ?_; rotate_left; (go_simp; with_reducible rfl); simp only [Act.put, List.setIfInBounds_toArray, List.set_cons_zero, List.set_cons_succ])
  (refine HeadsP.val (v := ?_) rfl (fun wv hwv => ?_) ?_; rotate_left; (go_simp; with_reducible rfl); simp only [Act.put, List.setIfInBounds_toArray, List.set_cons_zero, List.set_cons_succ])
  (refine HeadsP.call (v := ?_) rfl (fun wv hwv => ?_) ?_; rotate_left; (go_simp; simp only [GivesUpon.enter]; refine (c_slot _ _ hw).mono ?_; rintro e w' ⟨rfl, hh⟩; refine ⟨?_, hwv.trans hh, KeepN.ext hh⟩; with_reducible rfl); simp only [Act.put, List.setIfInBounds_toArray, List.set_cons_zero, List.set_cons_succ])
  refine HeadsP.nil ?_
  refine ChainP.nil ?_
  intro kx ky w5 hkx HX hky HY hne hS5
  simp only [List.setIfInBounds_toArray, List.set_cons_zero, List.set_cons_succ]
  generalize gC : Fl.cellOf a.cell = C at *
  generalize gS : Fl.slotOf a.w = S at *
  obtain ⟨cv, cf, cr⟩ := C
  obtain ⟨ss, sa, sg, sv⟩ := S
  have hne' : ky ≠ kx := fun h => hne h.symm
  have nbx : b ≠ kx := by omega
  have nby : b ≠ ky := by omega
  have nxb : kx ≠ b := by omega
  have nyb : ky ≠ b := by omega
  have HXh := Lib.hid HX
  have HYh := Lib.hid HY
  have HB5 := Lib.hid (hS5.keep HB1.out)
  have c_HXh_w5 := fun w' o (k : Ext w5 w') => k.cellOf HXh.out o
  have f_HXh_w5 := fun w' o (k : Ext w5 w') => frozen_of (k.keep HXh.out) o
  have r_HXh_w5 := Ext.refl w5
  have c_HYh_w5 := fun w' o (k : Ext w5 w') => k.cellOf HYh.out o
  have f_HYh_w5 := fun w' o (k : Ext w5 w') => frozen_of (k.keep HYh.out) o
  have r_HYh_w5 := Ext.refl w5
  have c_HB5_w5 := fun w' o (k : Ext w5 w') => k.cellOf HB5.out o
  have f_HB5_w5 := fun w' o (k : Ext w5 w') => frozen_of (k.keep HB5.out) o
  have r_HB5_w5 := Ext.refl w5
  clear c_HB1_W f_HB1_W HX HY
  by_cases k1 : a.x.kind = 1
  · have j1 : (a.x.kind == 1) = true := by simpa using k1
    have HN := Lib.hid (show a.next = 6 by rw [next_of gC gS]; rw [if_pos (Or.inl k1)])
    clear gC gS k1
    go_wp2
    go_ret
    exact ⟨by rw [HN.out]; rfl, (((((((show Ext W w5 from hS5).setNew hkx _).setNew hkx _).setNew hkx _).setNew hky _).setNew hky _).setNew hky _).setNew hky _⟩
  · have j1 : (a.x.kind == 1) = false := by simpa using k1
    go_wp2_with fail
    have HX6 := Lib.hid (heap_set (heap_set (heap_set HXh.out 0 (.int .i64 cv)) 1 (.bool cf)) 2 (.int .i64 cr))
    have HY6 := Lib.hid (heap_far (heap_far (heap_far HYh.out (p := ⟨kx, 0, none⟩) hne' (.int .i64 cv)) (p := ⟨kx, 1, none⟩) hne' (.bool cf)) (p := ⟨kx, 2, none⟩) hne' (.int .i64 cr))
    have HB6 := Lib.hid (heap_far (heap_far (heap_far HB5.out (p := ⟨kx, 0, none⟩) nbx (.int .i64 cv)) (p := ⟨kx, 1, none⟩) nbx (.bool cf)) (p := ⟨kx, 2, none⟩) nbx (.int .i64 cr))
    have u6 := ((((Upd.refl [kx] w5).set1 0 (.int .i64 cv)).set1 1 (.bool cf)).set1 2 (.int .i64 cr))
    generalize (World.setCell (World.setCell (World.setCell w5 ⟨kx, 0, none⟩ (.int .i64 cv)) ⟨kx, 1, none⟩ (.bool cf)) ⟨kx, 2, none⟩ (.int .i64 cr)) = w6 at *
    simp only [List.setIfInBounds_toArray, List.set_cons_zero, List.set_cons_succ] at HX6
    have HY7 := Lib.hid (heap_set (heap_set (heap_set (heap_set HY6.out 0 (.int .i64 ss)) 1 (.int .i64 sa)) 2 (.int .i64 sg)) 3 (.int .i64 sv))
    have HX7 := Lib.hid (heap_far (heap_far (heap_far (heap_far HX6.out (p := ⟨ky, 0, none⟩) hne (.int .i64 ss)) (p := ⟨ky, 1, none⟩) hne (.int .i64 sa)) (p := ⟨ky, 2, none⟩) hne (.int .i64 sg)) (p := ⟨ky, 3, none⟩) hne (.int .i64 sv))
    have HB7 := Lib.hid (heap_far (heap_far (heap_far (heap_far HB6.out (p := ⟨ky, 0, none⟩) nby (.int .i64 ss)) (p := ⟨ky, 1, none⟩) nby (.int .i64 sa)) (p := ⟨ky, 2, none⟩) nby (.int .i64 sg)) (p := ⟨ky, 3, none⟩) nby (.int .i64 sv))
    have u7 := (((((Upd.refl [ky] w6).set1 0 (.int .i64 ss)).set1 1 (.int .i64 sa)).set1 2 (.int .i64 sg)).set1 3 (.int .i64 sv))
    generalize (World.setCell (World.setCell (World.setCell (World.setCell w6 ⟨ky, 0, none⟩ (.int .i64 ss)) ⟨ky, 1, none⟩ (.int .i64 sa)) ⟨ky, 2, none⟩ (.int .i64 sg)) ⟨ky, 3, none⟩ (.int .i64 sv)) = w7 at *
    simp only [List.setIfInBounds_toArray, List.set_cons_zero, List.set_cons_succ] at HY7
    have x7 : Ext W w7 := (Ext.updNew (show Ext W w5 from hS5) u6 (fun x hx => by rw [List.mem_singleton.1 hx]; exact hkx)).updNew u7 (fun x hx => by rw [List.mem_singleton.1 hx]; exact hky)
    clear c_HXh_w5 f_HXh_w5 c_HYh_w5 f_HYh_w5 c_HB5_w5 f_HB5_w5
    have c_HX7_w7 := fun w' o (k : Ext w7 w') => k.cellOf HX7.out o
    have f_HX7_w7 := fun w' o (k : Ext w7 w') => frozen_of (k.keep HX7.out) o
    have r_HX7_w7 := Ext.refl w7
    have c_HY7_w7 := fun w' o (k : Ext w7 w') => k.cellOf HY7.out o
    have f_HY7_w7 := fun w' o (k : Ext w7 w') => frozen_of (k.keep HY7.out) o
    have r_HY7_w7 := Ext.refl w7
    have c_HB7_w7 := fun w' o (k : Ext w7 w') => k.cellOf HB7.out o
    have f_HB7_w7 := fun w' o (k : Ext w7 w') => frozen_of (k.keep HB7.out) o
    have r_HB7_w7 := Ext.refl w7
    by_cases k3 : a.x.kind = 3
    · have j3 : (a.x.kind == 3) = true := by simpa using k3
      by_cases k4 : cv = a.x.old
      · have j4 : (cv == a.x.old) = true := by simpa using k4
        refine wp_region_plan (Ext w7) [] [0, 1, 2, 3, 4, 5, 6, 7, 8, 9, 10, 11, 12, 13, 14, 15] 16 [] Try.mixed (by kernel_rfl) (by intro c a d v w h; cases d <;> exact h) (Ext.refl _).drew ?_
        simp only [opsAt, List.filterMap_cons, List.filterMap_nil, List.getElem?_toArray, List.getElem?_cons_zero, List.getElem?_cons_succ]
        refine Firsts.nil ?_
        (refine Heads.val (v := ?_) rfl (fun wv hwv => ?_) ?_; rotate_left; (go_simp; with_reducible rfl); simp only [Act.put, List.setIfInBounds_toArray, List.set_cons_zero, List.set_cons_succ])
        (refine Heads.val (v := ?_) rfl (fun wv hwv => ?_) ?_; rotate_left; (go_simp; with_reducible rfl); simp only [Act.put, List.setIfInBounds_toArray, List.set_cons_zero, List.set_cons_succ])
        (refine Heads.val (v := ?_) rfl (fun wv hwv => ?_) ?_; rotate_left; (go_simp; with_reducible rfl); simp only [Act.put, List.setIfInBounds_toArray, List.set_cons_zero, List.set_cons_succ])
        (refine Heads.val (v := ?_) rfl (fun wv hwv => ?_) ?_; rotate_left; (go_simp; with_reducible rfl); simp only [Act.put, List.setIfInBounds_toArray, List.set_cons_zero, List.set_cons_succ])
        (refine Heads.val (v := ?_) rfl (fun wv hwv => ?_) ?_; rotate_left; (go_simp; with_reducible rfl); simp only [Act.put, List.setIfInBounds_toArray, List.set_cons_zero, List.set_cons_succ])
        (refine Heads.val (v := ?_) rfl (fun wv hwv => ?_) ?_; rotate_left; (go_simp; with_reducible rfl); simp only [Act.put, List.setIfInBounds_toArray, List.set_cons_zero, List.set_cons_succ])
        (refine Heads.val (v := ?_) rfl (fun wv hwv => ?_) ?_; rotate_left; (go_simp; with_reducible rfl); simp only [Act.put, List.setIfInBounds_toArray, List.set_cons_zero, List.set_cons_succ])
        (first | (refine Heads.val (v := ?_) rfl (fun wv hwv => ?_) ?_; rotate_left; (go_simp; with_reducible rfl); simp only [Act.put, List.setIfInBounds_toArray, List.set_cons_zero, List.set_cons_succ]) | (refine Heads.skip rfl ?_; simp only [Act.put, List.setIfInBounds_toArray, List.set_cons_zero, List.set_cons_succ]))
        (first | (refine Heads.val (v := ?_) rfl (fun wv hwv => ?_) ?_; rotate_left; (go_simp; with_reducible rfl); simp only [Act.put, List.setIfInBounds_toArray, List.set_cons_zero, List.set_cons_succ]) | (refine Heads.skip rfl ?_; simp only [Act.put, List.setIfInBounds_toArray, List.set_cons_zero, List.set_cons_succ]))
        (first | (refine Heads.val (v := ?_) rfl (fun wv hwv => ?_) ?_; rotate_left; (go_simp; with_reducible rfl); simp only [Act.put, List.setIfInBounds_toArray, List.set_cons_zero, List.set_cons_succ]) | (refine Heads.skip rfl ?_; simp only [Act.put, List.setIfInBounds_toArray, List.set_cons_zero, List.set_cons_succ]))
        (first | (refine Heads.val (v := ?_) rfl (fun wv hwv => ?_) ?_; rotate_left; (go_simp; with_reducible rfl); simp only [Act.put, List.setIfInBounds_toArray, List.set_cons_zero, List.set_cons_succ]) | (refine Heads.skip rfl ?_; simp only [Act.put, List.setIfInBounds_toArray, List.set_cons_zero, List.set_cons_succ]))
        (first | (refine Heads.val (v := ?_) rfl (fun wv hwv => ?_) ?_; rotate_left; (go_simp; with_reducible rfl); simp only [Act.put, List.setIfInBounds_toArray, List.set_cons_zero, List.set_cons_succ]) | (refine Heads.skip rfl ?_; simp only [Act.put, List.setIfInBounds_toArray, List.set_cons_zero, List.set_cons_succ]))
        (first | (refine Heads.val (v := ?_) rfl (fun wv hwv => ?_) ?_; rotate_left; (go_simp; with_reducible rfl); simp only [Act.put, List.setIfInBounds_toArray, List.set_cons_zero, List.set_cons_succ]) | (refine Heads.skip rfl ?_; simp only [Act.put, List.setIfInBounds_toArray, List.set_cons_zero, List.set_cons_succ]))
        (first | (refine Heads.val (v := ?_) rfl (fun wv hwv => ?_) ?_; rotate_left; (go_simp; with_reducible rfl); simp only [Act.put, List.setIfInBounds_toArray, List.set_cons_zero, List.set_cons_succ]) | (refine Heads.skip rfl ?_; simp only [Act.put, List.setIfInBounds_toArray, List.set_cons_zero, List.set_cons_succ]))
        (first | (refine Heads.val (v := ?_) rfl (fun wv hwv => ?_) ?_; rotate_left; (go_simp; with_reducible rfl); simp only [Act.put, List.setIfInBounds_toArray, List.set_cons_zero, List.set_cons_succ]) | (refine Heads.skip rfl ?_; simp only [Act.put, List.setIfInBounds_toArray, List.set_cons_zero, List.set_cons_succ]))
        (refine Heads.val (v := ?_) rfl (fun wv hwv => ?_) ?_; rotate_left; (go_simp; with_reducible rfl); simp only [Act.put, List.setIfInBounds_toArray, List.set_cons_zero, List.set_cons_succ])
        refine Heads.nil ?_
        intro w8 hw8
        have hY := x7.trans hw8
        by_cases p1 : ss = 4
        · have e1 : (ss == 4) = true := by simpa using p1
          have HN := Lib.hid (show a.next = 4 by rw [next_of gC gS]; rw [if_neg (by omega), if_pos p1])
          clear gC gS
          go_wp2
          go_ret
          exact ⟨by rw [HN.out]; rfl, hY⟩
        · have e1 : (ss == 4) = false := by simpa using p1
          cases cf
          · have HN := Lib.hid (show a.next = 5 by rw [next_of gC gS]; rw [if_neg (by omega), if_neg p1, if_pos (Or.inl rfl)])
            clear gC gS
            go_wp2
            go_ret
            exact ⟨by rw [HN.out]; rfl, hY⟩
          · by_cases p2 : cr < sv
            · have e2 : decide (cr < sv) = true := decide_eq_true p2
              have HN := Lib.hid (show a.next = 5 by rw [next_of gC gS]; rw [if_neg (by omega), if_neg p1, if_pos (Or.inr p2)])
              clear gC gS
              go_wp2
              go_ret
              exact ⟨by rw [HN.out]; rfl, hY⟩
            · have e2 : decide (cr < sv) = false := decide_eq_false p2
              have p5 : ¬ (true = false ∨ cr < sv) := by intro h; rcases h with h | h; exact Bool.noConfusion h; exact p2 h
              by_cases p3 : cr = sv
              · have e3 : (cr == sv) = true := by simpa using p3
                by_cases p4 : ss = 2
                · have e4 : (ss == 2) = true := by simpa using p4
                  have HN := Lib.hid (show a.next = 3 by rw [next_of gC gS]; rw [if_neg (by omega), if_neg p1, if_neg p5, if_pos ⟨p3, p4⟩])
                  clear gC gS
                  go_wp2
                  go_ret
                  exact ⟨by rw [HN.out]; rfl, hY⟩
                · have e4 : (ss == 2) = false := by simpa using p4
                  have HN := Lib.hid (show a.next = 0 by rw [next_of gC gS]; rw [if_neg (by omega), if_neg p1, if_neg p5, if_neg (fun h => p4 h.2)])
                  clear gC gS
                  go_wp2
                  go_ret
                  exact ⟨by rw [HN.out]; rfl, hY⟩
              · have e3 : (cr == sv) = false := by simpa using p3
                have HN := Lib.hid (show a.next = 0 by rw [next_of gC gS]; rw [if_neg (by omega), if_neg p1, if_neg p5, if_neg (fun h => p3 h.1)])
                clear gC gS
                go_wp2
                go_ret
                exact ⟨by rw [HN.out]; rfl, hY⟩
      · have j4 : (cv == a.x.old) = false := by simpa using k4
        refine wp_region_plan (Ext w7) [] [0, 1, 2, 3, 4, 5, 6, 7, 8, 9, 10, 11, 12, 13, 14, 15] 16 [] Try.mixed (by kernel_rfl) (by intro c a d v w h; cases d <;> exact h) (Ext.refl _).drew ?_
        simp only [opsAt, List.filterMap_cons, List.filterMap_nil, List.getElem?_toArray, List.getElem?_cons_zero, List.getElem?_cons_succ]
        refine Firsts.nil ?_
        (refine Heads.val (v := ?_) rfl (fun wv hwv => ?_) ?_; rotate_left; (go_simp; with_reducible rfl); simp only [Act.put, List.setIfInBounds_toArray, List.set_cons_zero, List.set_cons_succ])
        (refine Heads.val (v := ?_) rfl (fun wv hwv => ?_) ?_; rotate_left; (go_simp; with_reducible rfl); simp only [Act.put, List.setIfInBounds_toArray, List.set_cons_zero, List.set_cons_succ])
        (refine Heads.val (v := ?_) rfl (fun wv hwv => ?_) ?_; rotate_left; (go_simp; with_reducible rfl); simp only [Act.put, List.setIfInBounds_toArray, List.set_cons_zero, List.set_cons_succ])
        (refine Heads.val (v := ?_) rfl (fun wv hwv => ?_) ?_; rotate_left; (go_simp; with_reducible rfl); simp only [Act.put, List.setIfInBounds_toArray, List.set_cons_zero, List.set_cons_succ])
        (refine Heads.val (v := ?_) rfl (fun wv hwv => ?_) ?_; rotate_left; (go_simp; with_reducible rfl); simp only [Act.put, List.setIfInBounds_toArray, List.set_cons_zero, List.set_cons_succ])
        (refine Heads.val (v := ?_) rfl (fun wv hwv => ?_) ?_; rotate_left; (go_simp; with_reducible rfl); simp only [Act.put, List.setIfInBounds_toArray, List.set_cons_zero, List.set_cons_succ])
        (refine Heads.val (v := ?_) rfl (fun wv hwv => ?_) ?_; rotate_left; (go_simp; with_reducible rfl); simp only [Act.put, List.setIfInBounds_toArray, List.set_cons_zero, List.set_cons_succ])
        (first | (refine Heads.val (v := ?_) rfl (fun wv hwv => ?_) ?_; rotate_left; (go_simp; with_reducible rfl); simp only [Act.put, List.setIfInBounds_toArray, List.set_cons_zero, List.set_cons_succ]) | (refine Heads.skip rfl ?_; simp only [Act.put, List.setIfInBounds_toArray, List.set_cons_zero, List.set_cons_succ]))
        (first | (refine Heads.val (v := ?_) rfl (fun wv hwv => ?_) ?_; rotate_left; (go_simp; with_reducible rfl); simp only [Act.put, List.setIfInBounds_toArray, List.set_cons_zero, List.set_cons_succ]) | (refine Heads.skip rfl ?_; simp only [Act.put, List.setIfInBounds_toArray, List.set_cons_zero, List.set_cons_succ]))
        (first | (refine Heads.val (v := ?_) rfl (fun wv hwv => ?_) ?_; rotate_left; (go_simp; with_reducible rfl); simp only [Act.put, List.setIfInBounds_toArray, List.set_cons_zero, List.set_cons_succ]) | (refine Heads.skip rfl ?_; simp only [Act.put, List.setIfInBounds_toArray, List.set_cons_zero, List.set_cons_succ]))
        (first | (refine Heads.val (v := ?_) rfl (fun wv hwv => ?_) ?_; rotate_left; (go_simp; with_reducible rfl); simp only [Act.put, List.setIfInBounds_toArray, List.set_cons_zero, List.set_cons_succ]) | (refine Heads.skip rfl ?_; simp only [Act.put, List.setIfInBounds_toArray, List.set_cons_zero, List.set_cons_succ]))
        (first | (refine Heads.val (v := ?_) rfl (fun wv hwv => ?_) ?_; rotate_left; (go_simp; with_reducible rfl); simp only [Act.put, List.setIfInBounds_toArray, List.set_cons_zero, List.set_cons_succ]) | (refine Heads.skip rfl ?_; simp only [Act.put, List.setIfInBounds_toArray, List.set_cons_zero, List.set_cons_succ]))
        (first | (refine Heads.val (v := ?_) rfl (fun wv hwv => ?_) ?_; rotate_left; (go_simp; with_reducible rfl); simp only [Act.put, List.setIfInBounds_toArray, List.set_cons_zero, List.set_cons_succ]) | (refine Heads.skip rfl ?_; simp only [Act.put, List.setIfInBounds_toArray, List.set_cons_zero, List.set_cons_succ]))
        (first | (refine Heads.val (v := ?_) rfl (fun wv hwv => ?_) ?_; rotate_left; (go_simp; with_reducible rfl); simp only [Act.put, List.setIfInBounds_toArray, List.set_cons_zero, List.set_cons_succ]) | (refine Heads.skip rfl ?_; simp only [Act.put, List.setIfInBounds_toArray, List.set_cons_zero, List.set_cons_succ]))
        (first | (refine Heads.val (v := ?_) rfl (fun wv hwv => ?_) ?_; rotate_left; (go_simp; with_reducible rfl); simp only [Act.put, List.setIfInBounds_toArray, List.set_cons_zero, List.set_cons_succ]) | (refine Heads.skip rfl ?_; simp only [Act.put, List.setIfInBounds_toArray, List.set_cons_zero, List.set_cons_succ]))
        (refine Heads.val (v := ?_) rfl (fun wv hwv => ?_) ?_; rotate_left; (go_simp; with_reducible rfl); simp only [Act.put, List.setIfInBounds_toArray, List.set_cons_zero, List.set_cons_succ])
        refine Heads.nil ?_
        intro w8 hw8
        have hY := x7.trans hw8
        have HN := Lib.hid (show a.next = 6 by rw [next_of gC gS]; rw [if_pos (Or.inr ⟨k3, k4⟩)])
        clear gC gS
        go_wp2
        go_ret
        exact ⟨by rw [HN.out]; rfl, hY⟩
    · have j3 : (a.x.kind == 3) = false := by simpa using k3
      refine wp_region_plan (Ext w7) [] [0, 1, 2, 3, 4, 5, 6, 7, 8, 9, 10, 11, 12, 13, 14, 15] 16 [] Try.mixed (by kernel_rfl) (by intro c a d v w h; cases d <;> exact h) (Ext.refl _).drew ?_
      simp only [opsAt, List.filterMap_cons, List.filterMap_nil, List.getElem?_toArray, List.getElem?_cons_zero, List.getElem?_cons_succ]
      refine Firsts.nil ?_
      (refine Heads.val (v := ?_) rfl (fun wv hwv => ?_) ?_; rotate_left; (go_simp; with_reducible rfl); simp only [Act.put, List.setIfInBounds_toArray, List.set_cons_zero, List.set_cons_succ])
      (refine Heads.val (v := ?_) rfl (fun wv hwv => ?_) ?_; rotate_left; (go_simp; with_reducible rfl); simp only [Act.put, List.setIfInBounds_toArray, List.set_cons_zero, List.set_cons_succ])
      (refine Heads.val (v := ?_) rfl (fun wv hwv => ?_) ?_; rotate_left; (go_simp; with_reducible rfl); simp only [Act.put, List.setIfInBounds_toArray, List.set_cons_zero, List.set_cons_succ])
      (refine Heads.val (v := ?_) rfl (fun wv hwv => ?_) ?_; rotate_left; (go_simp; with_reducible rfl); simp only [Act.put, List.setIfInBounds_toArray, List.set_cons_zero, List.set_cons_succ])
      (refine Heads.val (v := ?_) rfl (fun wv hwv => ?_) ?_; rotate_left; (go_simp; with_reducible rfl); simp only [Act.put, List.setIfInBounds_toArray, List.set_cons_zero, List.set_cons_succ])
      (refine Heads.val (v := ?_) rfl (fun wv hwv => ?_) ?_; rotate_left; (go_simp; with_reducible rfl); simp only [Act.put, List.setIfInBounds_toArray, List.set_cons_zero, List.set_cons_succ])
      (refine Heads.val (v := ?_) rfl (fun wv hwv => ?_) ?_; rotate_left; (go_simp; with_reducible rfl); simp only [Act.put, List.setIfInBounds_toArray, List.set_cons_zero, List.set_cons_succ])
      (first | (refine Heads.val (v := ?_) rfl (fun wv hwv => ?_) ?_; rotate_left; (go_simp; with_reducible rfl); simp only [Act.put, List.setIfInBounds_toArray, List.set_cons_zero, List.set_cons_succ]) | (refine Heads.skip rfl ?_; simp only [Act.put, List.setIfInBounds_toArray, List.set_cons_zero, List.set_cons_succ]))
      (first | (refine Heads.val (v := ?_) rfl (fun wv hwv => ?_) ?_; rotate_left; (go_simp; with_reducible rfl); simp only [Act.put, List.setIfInBounds_toArray, List.set_cons_zero, List.set_cons_succ]) | (refine Heads.skip rfl ?_; simp only [Act.put, List.setIfInBounds_toArray, List.set_cons_zero, List.set_cons_succ]))
      (first | (refine Heads.val (v := ?_) rfl (fun wv hwv => ?_) ?_; rotate_left; (go_simp; with_reducible rfl); simp only [Act.put, List.setIfInBounds_toArray, List.set_cons_zero, List.set_cons_succ]) | (refine Heads.skip rfl ?_; simp only [Act.put, List.setIfInBounds_toArray, List.set_cons_zero, List.set_cons_succ]))
      (first | (refine Heads.val (v := ?_) rfl (fun wv hwv => ?_) ?_; rotate_left; (go_simp; with_reducible rfl); simp only [Act.put, List.setIfInBounds_toArray, List.set_cons_zero, List.set_cons_succ]) | (refine Heads.skip rfl ?_; simp only [Act.put, List.setIfInBounds_toArray, List.set_cons_zero, List.set_cons_succ]))
      (first | (refine Heads.val (v := ?_) rfl (fun wv hwv => ?_) ?_; rotate_left; (go_simp; with_reducible rfl); simp only [Act.put, List.setIfInBounds_toArray, List.set_cons_zero, List.set_cons_succ]) | (refine Heads.skip rfl ?_; simp only [Act.put, List.setIfInBounds_toArray, List.set_cons_zero, List.set_cons_succ]))
      (first | (refine Heads.val (v := ?_) rfl (fun wv hwv => ?_) ?_; rotate_left; (go_simp; with_reducible rfl); simp only [Act.put, List.setIfInBounds_toArray, List.set_cons_zero, List.set_cons_succ]) | (refine Heads.skip rfl ?_; simp only [Act.put, List.setIfInBounds_toArray, List.set_cons_zero, List.set_cons_succ]))
      (first | (refine Heads.val (v := ?_) rfl (fun wv hwv => ?_) ?_; rotate_left; (go_simp; with_reducible rfl); simp only [Act.put, List.setIfInBounds_toArray, List.set_cons_zero, List.set_cons_succ]) | (refine Heads.skip rfl ?_; simp only [Act.put, List.setIfInBounds_toArray, List.set_cons_zero, List.set_cons_succ]))
      (first | (refine Heads.val (v := ?_) rfl (fun wv hwv => ?_) ?_; rotate_left; (go_simp; with_reducible rfl); simp only [Act.put, List.setIfInBounds_toArray, List.set_cons_zero, List.set_cons_succ]) | (refine Heads.skip rfl ?_; simp only [Act.put, List.setIfInBounds_toArray, List.set_cons_zero, List.set_cons_succ]))
      (refine Heads.val (v := ?_) rfl (fun wv hwv => ?_) ?_; rotate_left; (go_simp; with_reducible rfl); simp only [Act.put, List.setIfInBounds_toArray, List.set_cons_zero, List.set_cons_succ])
      refine Heads.nil ?_
      intro w8 hw8
      have hY := x7.trans hw8
      by_cases p1 : ss = 4
      · have e1 : (ss == 4) = true := by simpa using p1
        have HN := Lib.hid (show a.next = 4 by rw [next_of gC gS]; rw [if_neg (by omega), if_pos p1])
        clear gC gS
        go_wp2
        go_ret
        exact ⟨by rw [HN.out]; rfl, hY⟩
      · have e1 : (ss == 4) = false := by simpa using p1
        cases cf
        · have HN := Lib.hid (show a.next = 5 by rw [next_of gC gS]; rw [if_neg (by omega), if_neg p1, if_pos (Or.inl rfl)])
          clear gC gS
          go_wp2
          go_ret
          exact ⟨by rw [HN.out]; rfl, hY⟩
        · by_cases p2 : cr < sv
          · have e2 : decide (cr < sv) = true := decide_eq_true p2
            have HN := Lib.hid (show a.next = 5 by rw [next_of gC gS]; rw [if_neg (by omega), if_neg p1, if_pos (Or.inr p2)])
            clear gC gS
            go_wp2
            go_ret
            exact ⟨by rw [HN.out]; rfl, hY⟩
          · have e2 : decide (cr < sv) = false := decide_eq_false p2
            have p5 : ¬ (true = false ∨ cr < sv) := by intro h; rcases h with h | h; exact Bool.noConfusion h; exact p2 h
            by_cases p3 : cr = sv
            · have e3 : (cr == sv) = true := by simpa using p3
              by_cases p4 : ss = 2
              · have e4 : (ss == 2) = true := by simpa using p4
                have HN := Lib.hid (show a.next = 3 by rw [next_of gC gS]; rw [if_neg (by omega), if_neg p1, if_neg p5, if_pos ⟨p3, p4⟩])
                clear gC gS
                go_wp2
                go_ret
                exact ⟨by rw [HN.out]; rfl, hY⟩
              · have e4 : (ss == 2) = false := by simpa using p4
                have HN := Lib.hid (show a.next = 0 by rw [next_of gC gS]; rw [if_neg (by omega), if_neg p1, if_neg p5, if_neg (fun h => p4 h.2)])
                clear gC gS
                go_wp2
                go_ret
                exact ⟨by rw [HN.out]; rfl, hY⟩
            · have e3 : (cr == sv) = false := by simpa using p3
              have HN := Lib.hid (show a.next = 0 by rw [next_of gC gS]; rw [if_neg (by omega), if_neg p1, if_neg p5, if_neg (fun h => p3 h.1)])
              clear gC gS
              go_wp2
              go_ret
              exact ⟨by rw [HN.out]; rfl, hY⟩

end Go.Proofs.Ythblhgappldcjaa
