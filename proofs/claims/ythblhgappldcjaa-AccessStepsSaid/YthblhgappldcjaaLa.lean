/- The contracts of arena, make, drop. -/
import Derived.Test.YthblhgappldcjaaJb
import Derived.Test.YthblhgappldcjaaGc
namespace Go.Proofs.Ythblhgappldcjaa
open Go Go.RowKit
set_option linter.unusedVariables false

namespace Fl
def Alloc.loop (c : Cfg) (who : Int) : Nat → Mem → Alloc → Alloc × Mem
  | 0, m, a => (a, m)
  | k + 1, m, a => if (a.step c who m).1 = true then ((a.step c who m).2.1, (a.step c who m).2.2) else Alloc.loop c who k (a.step c who m).2.2 (a.step c who m).2.1
def Drop.loop (c : Cfg) (who : Int) : Nat → Mem → Drop → Drop × Mem
  | 0, m, a => (a, m)
  | k + 1, m, a => if (a.step c who m).1 = true then ((a.step c who m).2.1, (a.step c who m).2.2) else Drop.loop c who k (a.step c who m).2.2 (a.step c who m).2.1
def stepsOk (m : Mem) : Prop := 0 ≤ m.steps ∧ m.steps < 4611686018427387904
def Alloc.safe (c : Cfg) (who : Int) : Nat → Mem → Alloc → Prop
  | 0, _, _ => True
  | k + 1, m, a => stepsOk m ∧ allocSafe who m a ∧ ((a.step c who m).1 = false → Alloc.safe c who k (a.step c who m).2.2 (a.step c who m).2.1)
def Drop.safe (c : Cfg) (who : Int) : Nat → Mem → Drop → Prop
  | 0, _, _ => True
  | k + 1, m, a => stepsOk m ∧ ((a.step c who m).1 = false → Drop.safe c who k (a.step c who m).2.2 (a.step c who m).2.1)
end Fl

set_option maxHeartbeats 1000000 in
theorem n_arena (t s ch wd : Int) (W : World) (gc : GoodC ⟨t, s, ch, wd, 100, 600, 3⟩) :
    Calls Try.prog 28 #[.int .i64 t, .int .i64 s, .int .i64 ch, .int .i64 wd] W fun e w' => ∃ l : Loc, e = .returned (.tuple #[.agg #[.int .i64 t, .int .i64 s, .int .i64 ch, .int .i64 wd, .int .i64 100, .int .i64 600, .int .i64 3, .pointer (some ⟨l.m, 0, none⟩), .int .i64 0], .bool true]) ∧ MemAt w' l (Fl.fresh ⟨t, s, ch, wd, 100, 600, 3⟩) ∧ Ext W w' ∧ ∀ x, x ∈ l.all → W.heap.size ≤ x := by
  have hA := heap_new W (.cells #[.int .i64 0, .int .i64 0, .int .i64 0, .int .i64 0, .int .i64 0, .int .i64 0, .int .i64 0, .pointer none, .int .i64 0] 27)
  have hXA := (Ext.refl W).alloc (.cells #[.int .i64 0, .int .i64 0, .int .i64 0, .int .i64 0, .int .i64 0, .int .i64 0, .int .i64 0, .pointer none, .int .i64 0] 27)
  go_enter Try.func28, Try.ntmps28
  go_wp2_with fail
  have zA : (W.alloc (.cells #[.int .i64 0, .int .i64 0, .int .i64 0, .int .i64 0, .int .i64 0, .int .i64 0, .int .i64 0, .pointer none, .int .i64 0] 27)).heap.size = W.heap.size + 1 := by simp
  generalize W.alloc (.cells #[.int .i64 0, .int .i64 0, .int .i64 0, .int .i64 0, .int .i64 0, .int .i64 0, .int .i64 0, .pointer none, .int .i64 0] 27) = wa at *
  have hB := heap_new wa (.cells #[.int .i64 t, .int .i64 s, .int .i64 ch, .int .i64 wd, .int .i64 100, .int .i64 600, .int .i64 3] 24)
  have hXB := (Ext.refl wa).alloc (.cells #[.int .i64 t, .int .i64 s, .int .i64 ch, .int .i64 wd, .int .i64 100, .int .i64 600, .int .i64 3] 24)
  have hA' := hXB.keep hA
  have zB : (wa.alloc (.cells #[.int .i64 t, .int .i64 s, .int .i64 ch, .int .i64 wd, .int .i64 100, .int .i64 600, .int .i64 3] 24)).heap.size = W.heap.size + 1 + 1 := by rw [← zA]; simp
  rw [zA] at hB
  have hX := hXA.trans hXB
  generalize wa.alloc (.cells #[.int .i64 t, .int .i64 s, .int .i64 ch, .int .i64 wd, .int .i64 100, .int .i64 600, .int .i64 3] 24) = wb at *
  refine (n_fresh ⟨t, s, ch, wd, 100, 600, 3⟩ _ gc).mono ?_
  rintro e w1 ⟨l, rfl, h1, x1, hnew⟩
  have HA1 := Lib.hid (x1.keep hA')
  have HB1 := Lib.hid (x1.keep hB)
  clear hA hA' hB
  have c_HA1_w1 := fun w' o (k : Ext w1 w') => k.cellOf HA1.out o
  have f_HA1_w1 := fun w' o (k : Ext w1 w') => frozen_of (k.keep HA1.out) o
  have r_HA1_w1 := Ext.refl w1
  have c_HB1_w1 := fun w' o (k : Ext w1 w') => k.cellOf HB1.out o
  have f_HB1_w1 := fun w' o (k : Ext w1 w') => frozen_of (k.keep HB1.out) o
  have r_HB1_w1 := Ext.refl w1
  have hn : ∀ x, x ∈ l.all → W.heap.size < x := fun x hx => by have := hnew x hx; omega
  go_wp2
  have HA2 := Lib.hid (heap_set (heap_set (heap_set (heap_set (heap_set (heap_set (heap_set (heap_set (heap_set HA1.out 0 (.int .i64 t)) 1 (.int .i64 s)) 2 (.int .i64 ch)) 3 (.int .i64 wd)) 4 (.int .i64 100)) 5 (.int .i64 600)) 6 (.int .i64 3)) 7 (.pointer (some ⟨l.m, 0, none⟩))) 8 (.int .i64 0))
  have u1 := ((((((((((Upd.refl [W.heap.size] w1).set1 0 (.int .i64 t)).set1 1 (.int .i64 s)).set1 2 (.int .i64 ch)).set1 3 (.int .i64 wd)).set1 4 (.int .i64 100)).set1 5 (.int .i64 600)).set1 6 (.int .i64 3)).set1 7 (.pointer (some ⟨l.m, 0, none⟩))).set1 8 (.int .i64 0))
  generalize (World.setCell (World.setCell (World.setCell (World.setCell (World.setCell (World.setCell (World.setCell (World.setCell (World.setCell w1 ⟨W.heap.size, 0, none⟩ (.int .i64 t)) ⟨W.heap.size, 1, none⟩ (.int .i64 s)) ⟨W.heap.size, 2, none⟩ (.int .i64 ch)) ⟨W.heap.size, 3, none⟩ (.int .i64 wd)) ⟨W.heap.size, 4, none⟩ (.int .i64 100)) ⟨W.heap.size, 5, none⟩ (.int .i64 600)) ⟨W.heap.size, 6, none⟩ (.int .i64 3)) ⟨W.heap.size, 7, none⟩ (.pointer (some ⟨l.m, 0, none⟩))) ⟨W.heap.size, 8, none⟩ (.int .i64 0)) = w2 at *
  simp only [List.setIfInBounds_toArray, List.set_cons_zero, List.set_cons_succ] at HA2
  have h2 := h1.keep1 u1 (fun hm => by have := hn _ hm; omega)
  have x2 := (hX.trans x1).updNew u1 (fun x hx => by rw [List.mem_singleton.1 hx]; omega)
  have hc := fun o => cell_of HA2.out o
  refine bodyPost_ret (v := .tuple #[.agg #[.int .i64 t, .int .i64 s, .int .i64 ch, .int .i64 wd, .int .i64 100, .int .i64 600, .int .i64 3, .pointer (some ⟨l.m, 0, none⟩), .int .i64 0], .bool true]) ?_ rfl ⟨l, rfl, h2, x2, fun x hx => by have := hn x hx; omega⟩
  simp [results, Try.results28, go_sem, hc]


theorem loop_eq_a (c : Fl.Cfg) (who : Int) (k : Nat) (m : Fl.Mem) (a : Fl.Alloc) : Fl.Alloc.loop c who (k + 1) m a = if (a.step c who m).1 = true then ((a.step c who m).2.1, (a.step c who m).2.2) else Fl.Alloc.loop c who k (a.step c who m).2.2 (a.step c who m).2.1 := rfl
theorem loop_eq_d (c : Fl.Cfg) (who : Int) (k : Nat) (m : Fl.Mem) (a : Fl.Drop) : Fl.Drop.loop c who (k + 1) m a = if (a.step c who m).1 = true then ((a.step c who m).2.1, (a.step c who m).2.2) else Fl.Drop.loop c who k (a.step c who m).2.2 (a.step c who m).2.1 := rfl

theorem Upd.news {F : List Nat} {l : Loc} {W a b : World} (h : Upd l.all W a) (u : Upd (F ++ l.all) a b) (hF : ∀ x, x ∈ F → W.heap.size ≤ x) : Upd l.all W b :=
  h.then u (fun x hx => by
    rcases List.mem_append.1 hx with hx | hx
    · exact Or.inr (hF x hx)
    · exact Or.inl hx)

set_option maxHeartbeats 2000000 in
set_option maxRecDepth 100000 in
theorem n_make (c : Fl.Cfg) (l : Loc) (σ : Fl.Mem) (who : Int) (size : Int) (own : Bool) (W : World) (gc : GoodC c) (h : MemAt W l σ) (hsafe : Fl.Alloc.safe c who 400 σ (Fl.Alloc.new size own)) :
    Calls Try.prog 30 #[.agg #[.int .i64 c.threads, .int .i64 c.slots, .int .i64 c.chunks, .int .i64 c.words, .int .i64 c.gens, .int .i64 c.sparse, .int .i64 c.tries, .pointer (some ⟨l.m, 0, none⟩), .int .i64 who], .int .i64 size, .bool own] W fun e w' => e = .returned (.agg #[.int .i64 (Fl.Alloc.loop c who 400 σ (Fl.Alloc.new size own)).1.out.e, .int .u64 ((Fl.Alloc.loop c who 400 σ (Fl.Alloc.new size own)).1.out.handle : Nat), .int .i64 (Fl.Alloc.loop c who 400 σ (Fl.Alloc.new size own)).1.out.value, .int .i64 (Fl.Alloc.loop c who 400 σ (Fl.Alloc.new size own)).1.out.stamp]) ∧ MemAt w' l (Fl.Alloc.loop c who 400 σ (Fl.Alloc.new size own)).2 ∧ Upd l.all W w' := by
  have hlt := h.lt
  have hE := heap_new W (.cells #[.int .i64 c.threads, .int .i64 c.slots, .int .i64 c.chunks, .int .i64 c.words, .int .i64 c.gens, .int .i64 c.sparse, .int .i64 c.tries, .pointer (some ⟨l.m, 0, none⟩), .int .i64 who] 27)
  have hX := (Ext.refl W).alloc (.cells #[.int .i64 c.threads, .int .i64 c.slots, .int .i64 c.chunks, .int .i64 c.words, .int .i64 c.gens, .int .i64 c.sparse, .int .i64 c.tries, .pointer (some ⟨l.m, 0, none⟩), .int .i64 who] 27)
  have hsE := lt_of_heap hE
  have HS := Lib.hid hsafe
  clear hsafe
  generalize hr : Fl.Alloc.loop c who 400 σ (Fl.Alloc.new size own) = r at *
  have HR := Lib.hid hr
  clear hr
  go_enter Try.func30, Try.ntmps30
  go_wp2_with fail
  have z1 : (W.alloc (.cells #[.int .i64 c.threads, .int .i64 c.slots, .int .i64 c.chunks, .int .i64 c.words, .int .i64 c.gens, .int .i64 c.sparse, .int .i64 c.tries, .pointer (some ⟨l.m, 0, none⟩), .int .i64 who] 27)).heap.size = W.heap.size + 1 := by simp
  generalize W.alloc (.cells #[.int .i64 c.threads, .int .i64 c.slots, .int .i64 c.chunks, .int .i64 c.words, .int .i64 c.gens, .int .i64 c.sparse, .int .i64 c.tries, .pointer (some ⟨l.m, 0, none⟩), .int .i64 who] 27) = w1 at *
  have hA := heap_new w1 (.cells #[.int .i64 0, .int .u64 0, .int .i64 0, .int .i64 0] 34)
  have hXA := (Ext.refl w1).alloc (.cells #[.int .i64 0, .int .u64 0, .int .i64 0, .int .i64 0] 34)
  have E2 := hXA.keep hE
  have z2 : (w1.alloc (.cells #[.int .i64 0, .int .u64 0, .int .i64 0, .int .i64 0] 34)).heap.size = W.heap.size + 1 + 1 := by rw [← z1]; simp
  rw [z1] at hA
  have hx2 := hX.trans hXA
  generalize w1.alloc (.cells #[.int .i64 0, .int .u64 0, .int .i64 0, .int .i64 0] 34) = w2 at *
  refine (n_alloc size own l _ (fun x hx => by have := hlt x hx; have := hx2.size; omega)).mono ?_
  rintro e w3 ⟨rfl, ha3, x3⟩
  have hx3 := hx2.trans x3
  have HA3 := Lib.hid (x3.keep hA)
  have E3 := x3.keep E2
  clear hA E2
  rw [z2] at ha3
  have hab : W.heap.size + 1 < W.heap.size + 1 + 1 := by omega
  generalize W.heap.size + 1 + 1 = ab at *
  go_wp2_with fail
  go_loopg [8] 400 (fun k i wr => ∃ (σ' : Fl.Mem) (a : Fl.Alloc) (F : List Nat) (j : Nat), i = .int .i64 (j : Int) ∧ j + k = 400 ∧ Fl.Alloc.loop c who k σ' a = r ∧ Fl.Alloc.safe c who k σ' a ∧ MemAt wr l σ' ∧ AllocAt wr l F ab a ∧ (∀ x, x ∈ F → x = ab ∨ w3.heap.size ≤ x) ∧ Upd (ab :: l.all) w3 wr)
  case atStart =>
    refine ⟨σ, _, _, 0, rfl, rfl, HR.out, HS.out, h.ext hx3, ha3, ?_, Upd.refl _ _⟩
    intro x hx; exact Or.inl (List.mem_singleton.1 hx)
  case round =>
    obtain ⟨σ', a, F, j, rfl, hj, hl, hsf, h, ha, hF, hu⟩ := hrel
    have Er := hu.keep E3 (by
      intro hm
      rcases List.mem_cons.1 hm with hm | hm
      · omega
      · have := hlt _ hm; omega)
    have HAr := Lib.hid (hu.keep HA3.out (by
      intro hm
      rcases List.mem_cons.1 hm with hm | hm
      · omega
      · have := hlt _ hm; omega))
    have zr := lt_of_heap HAr.out
    have HL := Lib.hid hl
    have HSF := Lib.hid hsf
    clear hl hsf
    have cE := fun w' o (k : Ext wr w') => k.cellOf Er o
    have rr := Ext.refl wr
    cases gk with
    | zero =>
      have hj' : j = 400 := hj
      have b0 : decide ((j : Int) < 400) = false := decide_eq_false (by omega)
      clear hj'
      go_wp2_with fail
      refine (a_done l F ab a _ ha).mono ?_
      rintro e w5 ⟨rfl, x5⟩
      have HA5 := Lib.hid (x5.keep HAr.out)
      have c_HA5_w5 := fun w' o (k : Ext w5 w') => k.cellOf HA5.out o
      have f_HA5_w5 := fun w' o (k : Ext w5 w') => frozen_of (k.keep HA5.out) o
      have r_HA5_w5 := Ext.refl w5
      have h5 := h.ext x5
      have hu5 := hu.extR x5
      have hl : r = (a, σ') := HL.out.symm
      clear HL HS HR HSF
      subst hl
      go_wp2
      have HA7 := Lib.hid (heap_set (heap_set (heap_set (heap_set HA5.out 0 (.int .i64 a.out.e)) 1 (.int .u64 (a.out.handle : Nat))) 2 (.int .i64 a.out.value)) 3 (.int .i64 a.out.stamp))
      have u7 := (((((Upd.refl [(W.heap.size+1)] w5).set1 0 (.int .i64 a.out.e)).set1 1 (.int .u64 (a.out.handle : Nat))).set1 2 (.int .i64 a.out.value)).set1 3 (.int .i64 a.out.stamp))
      generalize (World.setCell (World.setCell (World.setCell (World.setCell w5 ⟨(W.heap.size+1), 0, none⟩ (.int .i64 a.out.e)) ⟨(W.heap.size+1), 1, none⟩ (.int .u64 (a.out.handle : Nat))) ⟨(W.heap.size+1), 2, none⟩ (.int .i64 a.out.value)) ⟨(W.heap.size+1), 3, none⟩ (.int .i64 a.out.stamp)) = w7 at *
      simp only [List.setIfInBounds_toArray, List.set_cons_zero, List.set_cons_succ] at HA7
      have hc := fun o => cell_of HA7.out o
      refine bodyPost_ret (v := .agg #[.int .i64 a.out.e, .int .u64 (a.out.handle : Nat), .int .i64 a.out.value, .int .i64 a.out.stamp]) ?_ rfl ⟨rfl, h5.keep1 u7 (fun hm => by have := hlt _ hm; omega), ?_⟩
      · simp [results, Try.results30, go_sem, hc]
      · refine ((hx3.upd l.all).then hu5 (fun x hx => ?_)).then u7 (fun x hx => Or.inr (by rw [List.mem_singleton.1 hx]; omega))
        rcases List.mem_cons.1 hx with hx | hx
        · exact Or.inr (by omega)
        · exact Or.inl hx
    | succ k =>
      have b0 : decide ((j : Int) < 400) = true := decide_eq_true (by omega)
      have hsf := HSF.out
      have hsf1 := hsf.1
      have hin : (j : Int) < 400 := by omega
      have HSG := Lib.hid hsf
      clear hsf
      go_wp2_with fail
      refine (a_step c l σ' who F ab a _ gc h hsf1 ha HSG.out.2.1).mono ?_
      rintro e w5 ⟨rfl, h5, u5, F', ha5, hF'⟩
      have hu5 : Upd (ab :: l.all) w3 w5 := hu.then u5 (fun x hx => by
        rcases List.mem_append.1 hx with hx | hx
        · rcases hF x hx with h1 | h1
          · exact Or.inl (by rw [h1]; exact List.mem_cons_self ..)
          · exact Or.inr h1
        · exact Or.inl (List.mem_cons_of_mem _ hx))
      have hF5 : ∀ x, x ∈ F' → x = ab ∨ w3.heap.size ≤ x := fun x hx => by
        rcases hF' x hx with h1 | h1
        · exact hF x h1
        · have := hu.size; exact Or.inr (by omega)
      generalize hst : a.step c who σ' = st at *
      obtain ⟨y, a', σ''⟩ := st
      simp only at h5 ha5
      have HST := Lib.hid hst
      clear hst
      cases y
      · go_wp2_with fail
        go_roundg k
        case measure => omega
        case rel =>
          refine ⟨σ'', a', F', j + 1, by simp, by omega, ?_, ?_, h5, ha5, hF5, hu5⟩
          · have h1 := HL.out
            rw [loop_eq_a, HST.out] at h1
            exact h1
          · have h1 := HSG.out.2.2
            rw [HST.out] at h1
            exact h1 rfl
      · go_wp2_with fail
        refine (a_done l F' ab a' _ ha5).mono ?_
        rintro e w6 ⟨rfl, x6⟩
        have HA6 := Lib.hid (x6.keep (hu5.keep HA3.out (by
          intro hm
          rcases List.mem_cons.1 hm with hm | hm
          · omega
          · have := hlt _ hm; omega)))
        have c_HA6_w6 := fun w' o (k : Ext w6 w') => k.cellOf HA6.out o
        have f_HA6_w6 := fun w' o (k : Ext w6 w') => frozen_of (k.keep HA6.out) o
        have r_HA6_w6 := Ext.refl w6
        have h6 := h5.ext x6
        have hu6 := hu5.extR x6
        have hl : r = (a', σ'') := by
          have h1 := HL.out
          rw [loop_eq_a, HST.out] at h1
          exact h1.symm
        clear HL HST HSG HS HR HSF
        subst hl
        go_wp2
        have HA7 := Lib.hid (heap_set (heap_set (heap_set (heap_set HA6.out 0 (.int .i64 a'.out.e)) 1 (.int .u64 (a'.out.handle : Nat))) 2 (.int .i64 a'.out.value)) 3 (.int .i64 a'.out.stamp))
        have u7 := (((((Upd.refl [(W.heap.size+1)] w6).set1 0 (.int .i64 a'.out.e)).set1 1 (.int .u64 (a'.out.handle : Nat))).set1 2 (.int .i64 a'.out.value)).set1 3 (.int .i64 a'.out.stamp))
        generalize (World.setCell (World.setCell (World.setCell (World.setCell w6 ⟨(W.heap.size+1), 0, none⟩ (.int .i64 a'.out.e)) ⟨(W.heap.size+1), 1, none⟩ (.int .u64 (a'.out.handle : Nat))) ⟨(W.heap.size+1), 2, none⟩ (.int .i64 a'.out.value)) ⟨(W.heap.size+1), 3, none⟩ (.int .i64 a'.out.stamp)) = w7 at *
        simp only [List.setIfInBounds_toArray, List.set_cons_zero, List.set_cons_succ] at HA7
        have hc := fun o => cell_of HA7.out o
        refine bodyPost_ret (v := .agg #[.int .i64 a'.out.e, .int .u64 (a'.out.handle : Nat), .int .i64 a'.out.value, .int .i64 a'.out.stamp]) ?_ rfl ⟨rfl, h6.keep1 u7 (fun hm => by have := hlt _ hm; omega), ?_⟩
        · simp [results, Try.results30, go_sem, hc]
        · refine ((hx3.upd l.all).then hu6 (fun x hx => ?_)).then u7 (fun x hx => Or.inr (by rw [List.mem_singleton.1 hx]; omega))
          rcases List.mem_cons.1 hx with hx | hx
          · exact Or.inr (by omega)
          · exact Or.inl hx

set_option maxHeartbeats 2000000 in
set_option maxRecDepth 100000 in
theorem n_let (c : Fl.Cfg) (l : Loc) (σ : Fl.Mem) (who : Int) (n : Nat) (own : Bool) (W : World) (gc : GoodC c) (h : MemAt W l σ)(hn : n < 18446744073709551616) (hsafe : Fl.Drop.safe c who 200 σ (Fl.Drop.new n own)) :
    Calls Try.prog 37 #[.agg #[.int .i64 c.threads, .int .i64 c.slots, .int .i64 c.chunks, .int .i64 c.words, .int .i64 c.gens, .int .i64 c.sparse, .int .i64 c.tries, .pointer (some ⟨l.m, 0, none⟩), .int .i64 who], .int .u64 (n : Nat), .bool own] W fun e w' => e = .returned (.agg #[.int .i64 (Fl.Drop.loop c who 200 σ (Fl.Drop.new n own)).1.out.e, .int .u64 ((Fl.Drop.loop c who 200 σ (Fl.Drop.new n own)).1.out.handle : Nat), .int .i64 (Fl.Drop.loop c who 200 σ (Fl.Drop.new n own)).1.out.value, .int .i64 (Fl.Drop.loop c who 200 σ (Fl.Drop.new n own)).1.out.stamp]) ∧ MemAt w' l (Fl.Drop.loop c who 200 σ (Fl.Drop.new n own)).2 ∧ Upd l.all W w' := by
  have hlt := h.lt
  have hE := heap_new W (.cells #[.int .i64 c.threads, .int .i64 c.slots, .int .i64 c.chunks, .int .i64 c.words, .int .i64 c.gens, .int .i64 c.sparse, .int .i64 c.tries, .pointer (some ⟨l.m, 0, none⟩), .int .i64 who] 27)
  have hX := (Ext.refl W).alloc (.cells #[.int .i64 c.threads, .int .i64 c.slots, .int .i64 c.chunks, .int .i64 c.words, .int .i64 c.gens, .int .i64 c.sparse, .int .i64 c.tries, .pointer (some ⟨l.m, 0, none⟩), .int .i64 who] 27)
  have hsE := lt_of_heap hE
  have HS := Lib.hid hsafe
  clear hsafe
  generalize hr : Fl.Drop.loop c who 200 σ (Fl.Drop.new n own) = r at *
  have HR := Lib.hid hr
  clear hr
  go_enter Try.func37, Try.ntmps37
  go_wp2_with fail
  have z1 : (W.alloc (.cells #[.int .i64 c.threads, .int .i64 c.slots, .int .i64 c.chunks, .int .i64 c.words, .int .i64 c.gens, .int .i64 c.sparse, .int .i64 c.tries, .pointer (some ⟨l.m, 0, none⟩), .int .i64 who] 27)).heap.size = W.heap.size + 1 := by simp
  generalize W.alloc (.cells #[.int .i64 c.threads, .int .i64 c.slots, .int .i64 c.chunks, .int .i64 c.words, .int .i64 c.gens, .int .i64 c.sparse, .int .i64 c.tries, .pointer (some ⟨l.m, 0, none⟩), .int .i64 who] 27) = w1 at *
  have hA := heap_new w1 (.cells #[.int .i64 0, .int .u64 0, .int .i64 0, .int .i64 0] 34)
  have hXA := (Ext.refl w1).alloc (.cells #[.int .i64 0, .int .u64 0, .int .i64 0, .int .i64 0] 34)
  have E2 := hXA.keep hE
  have z2 : (w1.alloc (.cells #[.int .i64 0, .int .u64 0, .int .i64 0, .int .i64 0] 34)).heap.size = W.heap.size + 1 + 1 := by rw [← z1]; simp
  rw [z1] at hA
  have hx2 := hX.trans hXA
  generalize w1.alloc (.cells #[.int .i64 0, .int .u64 0, .int .i64 0, .int .i64 0] 34) = w2 at *
  refine (n_drop l n own _ hn (fun x hx => by have := hlt x hx; have := hx2.size; omega)).mono ?_
  rintro e w3 ⟨rfl, ha3, x3⟩
  have hx3 := hx2.trans x3
  have HA3 := Lib.hid (x3.keep hA)
  have E3 := x3.keep E2
  clear hA E2
  rw [z2] at ha3
  have hab : W.heap.size + 1 < W.heap.size + 1 + 1 := by omega
  generalize W.heap.size + 1 + 1 = ab at *
  go_wp2_with fail
  go_loopg [8] 200 (fun k i wr => ∃ (σ' : Fl.Mem) (a : Fl.Drop) (F : List Nat) (j : Nat), i = .int .i64 (j : Int) ∧ j + k = 200 ∧ Fl.Drop.loop c who k σ' a = r ∧ Fl.Drop.safe c who k σ' a ∧ MemAt wr l σ' ∧ DropAt wr l F ab a ∧ (∀ x, x ∈ F → x = ab ∨ w3.heap.size ≤ x) ∧ Upd (ab :: l.all) w3 wr)
  case atStart =>
    refine ⟨σ, _, _, 0, rfl, rfl, HR.out, HS.out, h.ext hx3, ha3, ?_, Upd.refl _ _⟩
    intro x hx; exact Or.inl (List.mem_singleton.1 hx)
  case round =>
    obtain ⟨σ', a, F, j, rfl, hj, hl, hsf, h, ha, hF, hu⟩ := hrel
    have Er := hu.keep E3 (by
      intro hm
      rcases List.mem_cons.1 hm with hm | hm
      · omega
      · have := hlt _ hm; omega)
    have HAr := Lib.hid (hu.keep HA3.out (by
      intro hm
      rcases List.mem_cons.1 hm with hm | hm
      · omega
      · have := hlt _ hm; omega))
    have zr := lt_of_heap HAr.out
    have HL := Lib.hid hl
    have HSF := Lib.hid hsf
    clear hl hsf
    have cE := fun w' o (k : Ext wr w') => k.cellOf Er o
    have rr := Ext.refl wr
    cases gk with
    | zero =>
      have hj' : j = 200 := hj
      have b0 : decide ((j : Int) < 200) = false := decide_eq_false (by omega)
      clear hj'
      go_wp2_with fail
      refine (d_done l F ab a _ ha).mono ?_
      rintro e w5 ⟨rfl, x5⟩
      have HA5 := Lib.hid (x5.keep HAr.out)
      have c_HA5_w5 := fun w' o (k : Ext w5 w') => k.cellOf HA5.out o
      have f_HA5_w5 := fun w' o (k : Ext w5 w') => frozen_of (k.keep HA5.out) o
      have r_HA5_w5 := Ext.refl w5
      have h5 := h.ext x5
      have hu5 := hu.extR x5
      have hl : r = (a, σ') := HL.out.symm
      clear HL HS HR HSF
      subst hl
      go_wp2
      have HA7 := Lib.hid (heap_set (heap_set (heap_set (heap_set HA5.out 0 (.int .i64 a.out.e)) 1 (.int .u64 (a.out.handle : Nat))) 2 (.int .i64 a.out.value)) 3 (.int .i64 a.out.stamp))
      have u7 := (((((Upd.refl [(W.heap.size+1)] w5).set1 0 (.int .i64 a.out.e)).set1 1 (.int .u64 (a.out.handle : Nat))).set1 2 (.int .i64 a.out.value)).set1 3 (.int .i64 a.out.stamp))
      generalize (World.setCell (World.setCell (World.setCell (World.setCell w5 ⟨(W.heap.size+1), 0, none⟩ (.int .i64 a.out.e)) ⟨(W.heap.size+1), 1, none⟩ (.int .u64 (a.out.handle : Nat))) ⟨(W.heap.size+1), 2, none⟩ (.int .i64 a.out.value)) ⟨(W.heap.size+1), 3, none⟩ (.int .i64 a.out.stamp)) = w7 at *
      simp only [List.setIfInBounds_toArray, List.set_cons_zero, List.set_cons_succ] at HA7
      have hc := fun o => cell_of HA7.out o
      refine bodyPost_ret (v := .agg #[.int .i64 a.out.e, .int .u64 (a.out.handle : Nat), .int .i64 a.out.value, .int .i64 a.out.stamp]) ?_ rfl ⟨rfl, h5.keep1 u7 (fun hm => by have := hlt _ hm; omega), ?_⟩
      · simp [results, Try.results37, go_sem, hc]
      · refine ((hx3.upd l.all).then hu5 (fun x hx => ?_)).then u7 (fun x hx => Or.inr (by rw [List.mem_singleton.1 hx]; omega))
        rcases List.mem_cons.1 hx with hx | hx
        · exact Or.inr (by omega)
        · exact Or.inl hx
    | succ k =>
      have b0 : decide ((j : Int) < 200) = true := decide_eq_true (by omega)
      have hsf := HSF.out
      have hsf1 := hsf.1
      have hin : (j : Int) < 200 := by omega
      have HSG := Lib.hid hsf
      clear hsf
      go_wp2_with fail
      refine (d_step c l σ' who F ab a _ gc h hsf1 ha).mono ?_
      rintro e w5 ⟨rfl, h5, u5, F', ha5, hF'⟩
      have hu5 : Upd (ab :: l.all) w3 w5 := hu.then u5 (fun x hx => by
        rcases List.mem_append.1 hx with hx | hx
        · rcases hF x hx with h1 | h1
          · exact Or.inl (by rw [h1]; exact List.mem_cons_self ..)
          · exact Or.inr h1
        · exact Or.inl (List.mem_cons_of_mem _ hx))
      have hF5 : ∀ x, x ∈ F' → x = ab ∨ w3.heap.size ≤ x := fun x hx => by
        rcases hF' x hx with h1 | h1
        · exact hF x h1
        · have := hu.size; exact Or.inr (by omega)
      generalize hst : a.step c who σ' = st at *
      obtain ⟨y, a', σ''⟩ := st
      simp only at h5 ha5
      have HST := Lib.hid hst
      clear hst
      cases y
      · go_wp2_with fail
        go_roundg k
        case measure => omega
        case rel =>
          refine ⟨σ'', a', F', j + 1, by simp, by omega, ?_, ?_, h5, ha5, hF5, hu5⟩
          · have h1 := HL.out
            rw [loop_eq_d, HST.out] at h1
            exact h1
          · have h1 := HSG.out.2
            rw [HST.out] at h1
            exact h1 rfl
      · go_wp2_with fail
        refine (d_done l F' ab a' _ ha5).mono ?_
        rintro e w6 ⟨rfl, x6⟩
        have HA6 := Lib.hid (x6.keep (hu5.keep HA3.out (by
          intro hm
          rcases List.mem_cons.1 hm with hm | hm
          · omega
          · have := hlt _ hm; omega)))
        have c_HA6_w6 := fun w' o (k : Ext w6 w') => k.cellOf HA6.out o
        have f_HA6_w6 := fun w' o (k : Ext w6 w') => frozen_of (k.keep HA6.out) o
        have r_HA6_w6 := Ext.refl w6
        have h6 := h5.ext x6
        have hu6 := hu5.extR x6
        have hl : r = (a', σ'') := by
          have h1 := HL.out
          rw [loop_eq_d, HST.out] at h1
          exact h1.symm
        clear HL HST HSG HS HR HSF
        subst hl
        go_wp2
        have HA7 := Lib.hid (heap_set (heap_set (heap_set (heap_set HA6.out 0 (.int .i64 a'.out.e)) 1 (.int .u64 (a'.out.handle : Nat))) 2 (.int .i64 a'.out.value)) 3 (.int .i64 a'.out.stamp))
        have u7 := (((((Upd.refl [(W.heap.size+1)] w6).set1 0 (.int .i64 a'.out.e)).set1 1 (.int .u64 (a'.out.handle : Nat))).set1 2 (.int .i64 a'.out.value)).set1 3 (.int .i64 a'.out.stamp))
        generalize (World.setCell (World.setCell (World.setCell (World.setCell w6 ⟨(W.heap.size+1), 0, none⟩ (.int .i64 a'.out.e)) ⟨(W.heap.size+1), 1, none⟩ (.int .u64 (a'.out.handle : Nat))) ⟨(W.heap.size+1), 2, none⟩ (.int .i64 a'.out.value)) ⟨(W.heap.size+1), 3, none⟩ (.int .i64 a'.out.stamp)) = w7 at *
        simp only [List.setIfInBounds_toArray, List.set_cons_zero, List.set_cons_succ] at HA7
        have hc := fun o => cell_of HA7.out o
        refine bodyPost_ret (v := .agg #[.int .i64 a'.out.e, .int .u64 (a'.out.handle : Nat), .int .i64 a'.out.value, .int .i64 a'.out.stamp]) ?_ rfl ⟨rfl, h6.keep1 u7 (fun hm => by have := hlt _ hm; omega), ?_⟩
        · simp [results, Try.results37, go_sem, hc]
        · refine ((hx3.upd l.all).then hu6 (fun x hx => ?_)).then u7 (fun x hx => Or.inr (by rw [List.mem_singleton.1 hx]; omega))
          rcases List.mem_cons.1 hx with hx | hx
          · exact Or.inr (by omega)
          · exact Or.inl hx

end Go.Proofs.Ythblhgappldcjaa
