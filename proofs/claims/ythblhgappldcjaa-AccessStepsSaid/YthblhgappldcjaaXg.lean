/- The contract of law 10's Do. -/
import Derived.Test.YthblhgappldcjaaXf
import Derived.Test.YthblhgappldcjaaPb
import Derived.Deep.LoopGhost
namespace Go.Proofs.Ythblhgappldcjaa
open Go Go.RowKit
set_option linter.unusedVariables false

namespace Fl
def Access.loop (c : Cfg) (who : Int) : Nat → Mem → Access → Access × Mem
  | 0, m, a => (a, m)
  | k + 1, m, a => if (a.step c who m).1 = true then ((a.step c who m).2.1, (a.step c who m).2.2) else Access.loop c who k (a.step c who m).2.2 (a.step c who m).2.1

theorem Access.steps1 (c : Cfg) (who : Int) (m : Mem) (a : Access) : m.steps ≤ (a.step c who m).2.2.steps ∧ (a.step c who m).2.2.steps ≤ m.steps + 1 := by
  unfold Access.step
  simp only [Access.fin]
  split
  · split
    · simp only; omega
    · split <;> exact Mem.load_steps ..
  split
  · split
    · exact Mem.load_steps ..
    · split <;> exact Mem.load_steps ..
  split
  · split <;> exact Mem.load_steps ..
  split
  · exact Mem.cas_steps ..
  split
  · split <;> exact Help.steps1 ..
  split
  · split <;> exact Mem.cas_steps ..
  · split
    · exact Mem.load_steps ..
    · split
      · exact Mem.load_steps ..
      · split <;> exact Mem.load_steps ..

def Access.okIdx (a : Access) : Prop := 2 ≤ a.pc → 0 ≤ a.x.index ∧ a.x.index ≤ 65535

theorem Access.idx_step {c : Cfg} {who : Int} {m : Mem} {a : Access} (h : a.okIdx) (hp : 0 ≤ a.pc ∧ a.pc ≤ 6) (hs : (a.step c who m).1 = false) : (a.step c who m).2.1.okIdx := by
  unfold Access.okIdx at *
  have hr := headOf_range (m.load who (slotOf a.w).addr).1
  unfold Access.step at hs ⊢
  simp only [Access.fin] at hs ⊢
  by_cases p0 : a.pc = 0
  · simp only [if_pos p0] at hs ⊢
    split at hs
    · cases hs
    · rename_i q1
      split at hs
      · cases hs
      · rename_i q2
        rw [if_neg q1, if_neg q2]; intro q; simp at q
  by_cases p1 : a.pc = 1
  · simp only [if_neg p0, if_pos p1] at hs ⊢
    split at hs
    · cases hs
    · rename_i q1
      split at hs
      · cases hs
      · rename_i q2
        rw [if_neg q1, if_neg q2]; intro q; simp only; omega
  by_cases p2 : a.pc = 2
  · simp only [if_neg p0, if_neg p1, if_pos p2] at hs ⊢
    split <;> exact fun _ => h (by omega)
  by_cases p3 : a.pc = 3
  · simp only [if_neg p0, if_neg p1, if_neg p2, if_pos p3] at hs ⊢
    intro q; simp at q
  by_cases p4 : a.pc = 4
  · simp only [if_neg p0, if_neg p1, if_neg p2, if_neg p3, if_pos p4] at hs ⊢
    split <;> exact fun _ => h (by omega)
  by_cases p5 : a.pc = 5
  · simp only [if_neg p0, if_neg p1, if_neg p2, if_neg p3, if_neg p4, if_pos p5] at hs ⊢
    split <;> (intro q; simp at q)
  · simp only [if_neg p0, if_neg p1, if_neg p2, if_neg p3, if_neg p4, if_neg p5] at hs ⊢
    split
    · exact fun _ => h (by omega)
    · split
      · intro q; simp at q
      · split <;> exact fun _ => h (by omega)
end Fl

theorem loop_eq_x (c : Fl.Cfg) (who : Int) (k : Nat) (m : Fl.Mem) (a : Fl.Access) : Fl.Access.loop c who (k + 1) m a = if (a.step c who m).1 = true then ((a.step c who m).2.1, (a.step c who m).2.2) else Fl.Access.loop c who k (a.step c who m).2.2 (a.step c who m).2.1 := rfl

set_option maxHeartbeats 2000000 in
set_option maxRecDepth 100000 in
theorem n_do (c : Fl.Cfg) (l : Loc) (σ : Fl.Mem) (who : Int) (x : Fl.Want) (own : Bool) (W : World) (gc : GoodC c) (h : MemAt W l σ) (hn : x.handle < 18446744073709551616) (hst : 0 ≤ σ.steps ∧ σ.steps + 200 < 4611686018427387904) :
    Calls Try.prog 52 #[.agg #[.int .i64 c.threads, .int .i64 c.slots, .int .i64 c.chunks, .int .i64 c.words, .int .i64 c.gens, .int .i64 c.sparse, .int .i64 c.tries, .pointer (some ⟨l.m, 0, none⟩), .int .i64 who], .agg #[.int .i64 x.kind, .int .u64 (x.handle : Nat), .int .i64 x.index, .int .i64 x.value, .int .i64 x.old], .bool own] W fun e w' => e = .returned (.agg #[.int .i64 (Fl.Access.loop c who 200 σ (Fl.Access.new x own)).1.out.e, .int .u64 ((Fl.Access.loop c who 200 σ (Fl.Access.new x own)).1.out.handle : Nat), .int .i64 (Fl.Access.loop c who 200 σ (Fl.Access.new x own)).1.out.value, .int .i64 (Fl.Access.loop c who 200 σ (Fl.Access.new x own)).1.out.stamp]) ∧ MemAt w' l (Fl.Access.loop c who 200 σ (Fl.Access.new x own)).2 ∧ Upd l.all W w' := by
  have hlt := h.lt
  have hE := heap_new W (.cells #[.int .i64 c.threads, .int .i64 c.slots, .int .i64 c.chunks, .int .i64 c.words, .int .i64 c.gens, .int .i64 c.sparse, .int .i64 c.tries, .pointer (some ⟨l.m, 0, none⟩), .int .i64 who] 27)
  have hX := (Ext.refl W).alloc (.cells #[.int .i64 c.threads, .int .i64 c.slots, .int .i64 c.chunks, .int .i64 c.words, .int .i64 c.gens, .int .i64 c.sparse, .int .i64 c.tries, .pointer (some ⟨l.m, 0, none⟩), .int .i64 who] 27)
  have hsE := lt_of_heap hE
  generalize hr : Fl.Access.loop c who 200 σ (Fl.Access.new x own) = r at *
  have HR := Lib.hid hr
  clear hr
  go_enter Try.func52, Try.ntmps52
  go_wp2_with fail
  have z1 : (W.alloc (.cells #[.int .i64 c.threads, .int .i64 c.slots, .int .i64 c.chunks, .int .i64 c.words, .int .i64 c.gens, .int .i64 c.sparse, .int .i64 c.tries, .pointer (some ⟨l.m, 0, none⟩), .int .i64 who] 27)).heap.size = W.heap.size + 1 := by simp
  generalize W.alloc (.cells #[.int .i64 c.threads, .int .i64 c.slots, .int .i64 c.chunks, .int .i64 c.words, .int .i64 c.gens, .int .i64 c.sparse, .int .i64 c.tries, .pointer (some ⟨l.m, 0, none⟩), .int .i64 who] 27) = w0 at *
  have hXw := (Ext.refl w0).alloc (.cells #[.int .i64 x.kind, .int .u64 (x.handle : Nat), .int .i64 x.index, .int .i64 x.value, .int .i64 x.old] 74)
  have z2 : (w0.alloc (.cells #[.int .i64 x.kind, .int .u64 (x.handle : Nat), .int .i64 x.index, .int .i64 x.value, .int .i64 x.old] 74)).heap.size = W.heap.size + 1 + 1 := by rw [← z1]; simp
  generalize w0.alloc (.cells #[.int .i64 x.kind, .int .u64 (x.handle : Nat), .int .i64 x.index, .int .i64 x.value, .int .i64 x.old] 74) = w1 at *
  have hA := heap_new w1 (.cells #[.int .i64 0, .int .u64 0, .int .i64 0, .int .i64 0] 34)
  have hXA := (Ext.refl w1).alloc (.cells #[.int .i64 0, .int .u64 0, .int .i64 0, .int .i64 0] 34)
  have E2 := (hXw.trans hXA).keep hE
  rw [z2] at hA
  have hx2 := (hX.trans hXw).trans hXA
  generalize w1.alloc (.cells #[.int .i64 0, .int .u64 0, .int .i64 0, .int .i64 0] 34) = w2 at *
  have hrb := lt_of_heap hA
  have hWr : W.heap.size < W.heap.size + 1 + 1 := by omega
  refine (n_access l x own _ hn (fun x hx => by have := hlt x hx; have := hx2.size; omega)).mono ?_
  rintro e w3 ⟨ab, hab, rfl, ha3, x3⟩
  have hx3 := hx2.trans x3
  have HA3 := Lib.hid (x3.keep hA)
  have E3 := x3.keep E2
  clear hA E2
  generalize W.heap.size + 1 + 1 = rb at *
  have hrab : rb ≠ ab := by omega
  have hrl : rb ∉ l.all := fun hm => by have := hlt _ hm; omega
  go_wp2_with fail
  go_loopg [8] 200 (fun k i wr => ∃ (σ' : Fl.Mem) (a : Fl.Access) (F : List Nat) (j : Nat), i = .int .i64 (j : Int) ∧ j + k = 200 ∧ Fl.Access.loop c who k σ' a = r ∧ (σ.steps ≤ σ'.steps ∧ σ'.steps ≤ σ.steps + j) ∧ a.okIdx ∧ MemAt wr l σ' ∧ AccessAt wr l F ab a ∧ (∀ x, x ∈ F → x = ab ∨ w3.heap.size ≤ x) ∧ Upd (ab :: l.all) w3 wr)
  case atStart =>
    refine ⟨σ, _, _, 0, rfl, rfl, HR.out, ⟨by omega, by omega⟩, fun q => by simp [Fl.Access.new] at q, h.ext hx3, ha3, ?_, Upd.refl _ _⟩
    intro x hx; exact Or.inl (List.mem_singleton.1 hx)
  case round =>
    obtain ⟨σ', a, F, j, rfl, hj, hl, hsb, hidx, h, ha, hF, hu⟩ := hrel
    have Er := hu.keep E3 (by
      intro hm
      rcases List.mem_cons.1 hm with hm | hm
      · omega
      · have := hlt _ hm; omega)
    have HAr := Lib.hid (hu.keep HA3.out (by
      intro hm
      rcases List.mem_cons.1 hm with hm | hm
      · omega
      · exact hrl hm))
    have zr := lt_of_heap HAr.out
    have HL := Lib.hid hl
    clear hl
    have cE := fun w' o (k : Ext wr w') => k.cellOf Er o
    have rr := Ext.refl wr
    cases gk with
    | zero =>
      have hj' : j = 200 := hj
      have b0 : decide ((j : Int) < 200) = false := decide_eq_false (by omega)
      clear hj'
      go_wp2_with fail
      refine (x_done l F ab a _ ha).mono ?_
      rintro e w5 ⟨rfl, x5⟩
      have HA5 := Lib.hid (x5.keep HAr.out)
      have c_HA5_w5 := fun w' o (k : Ext w5 w') => k.cellOf HA5.out o
      have f_HA5_w5 := fun w' o (k : Ext w5 w') => frozen_of (k.keep HA5.out) o
      have r_HA5_w5 := Ext.refl w5
      have h5 := h.ext x5
      have hu5 := hu.extR x5
      have hl : r = (a, σ') := HL.out.symm
      clear HL HR
      subst hl
      go_wp2
      have HA7 := Lib.hid (heap_set (heap_set (heap_set (heap_set HA5.out 0 (.int .i64 a.out.e)) 1 (.int .u64 (a.out.handle : Nat))) 2 (.int .i64 a.out.value)) 3 (.int .i64 a.out.stamp))
      have u7 := (((((Upd.refl [rb] w5).set1 0 (.int .i64 a.out.e)).set1 1 (.int .u64 (a.out.handle : Nat))).set1 2 (.int .i64 a.out.value)).set1 3 (.int .i64 a.out.stamp))
      generalize (World.setCell (World.setCell (World.setCell (World.setCell w5 ⟨rb, 0, none⟩ (.int .i64 a.out.e)) ⟨rb, 1, none⟩ (.int .u64 (a.out.handle : Nat))) ⟨rb, 2, none⟩ (.int .i64 a.out.value)) ⟨rb, 3, none⟩ (.int .i64 a.out.stamp)) = w7 at *
      simp only [List.setIfInBounds_toArray, List.set_cons_zero, List.set_cons_succ] at HA7
      have hc := fun o => cell_of HA7.out o
      refine bodyPost_ret (v := .agg #[.int .i64 a.out.e, .int .u64 (a.out.handle : Nat), .int .i64 a.out.value, .int .i64 a.out.stamp]) ?_ rfl ⟨rfl, h5.keep1 u7 hrl, ?_⟩
      · simp [results, Try.results52, go_sem, hc]
      · refine ((hx3.upd l.all).then hu5 (fun x hx => ?_)).then u7 (fun x hx => Or.inr (by rw [List.mem_singleton.1 hx]; omega))
        rcases List.mem_cons.1 hx with hx | hx
        · exact Or.inr (by omega)
        · exact Or.inl hx
    | succ k =>
      have b0 : decide ((j : Int) < 200) = true := decide_eq_true (by omega)
      have hin : (j : Int) < 200 := by omega
      have HS := Lib.hid (And.intro hsb hidx)
      clear hsb hidx
      go_wp2_with fail
      refine (x_step c l σ' who F ab a _ gc h (by have := HS.out.1; omega) ha HS.out.2).mono ?_
      rintro e w5 ⟨rfl, h5, u5, F', ha5, hF'⟩
      have hu5 : Upd (ab :: l.all) w3 w5 := hu.then u5 (fun x hx => by
        rcases List.mem_append.1 hx with hx | hx
        · rcases hF x hx with h1 | h1
          · exact Or.inl (by rw [h1]; exact List.mem_cons_self ..)
          · exact Or.inr h1
        · exact Or.inl (List.mem_cons_of_mem _ hx))
      have hF5 : ∀ x, x ∈ F' → x = ab ∨ w3.heap.size ≤ x := fun x hx => by
        rcases hF' x hx with h1 | h1
        · exact hF x h1
        · have := hu.size; exact Or.inr (by omega)
      have hsb := Fl.Access.steps1 c who σ' a
      have hid := Fl.Access.idx_step (c := c) (who := who) (m := σ') HS.out.2 ha.pc
      have HID := Lib.hid hid
      clear hid
      generalize hst : a.step c who σ' = st at *
      obtain ⟨y, a', σ''⟩ := st
      simp only at h5 ha5 hsb
      have HSB := Lib.hid hsb
      clear hsb
      have HST := Lib.hid hst
      clear hst
      cases y
      · go_wp2_with fail
        go_roundg k
        case measure => omega
        case rel =>
          refine ⟨σ'', a', F', j + 1, by simp, by omega, ?_, ?_, HID.out trivial, h5, ha5, hF5, hu5⟩
          · have h1 := HL.out
            rw [loop_eq_x, HST.out] at h1
            exact h1
          · have h1 := HSB.out
            have h2 := HS.out.1
            omega
      · go_wp2_with fail
        refine (x_done l F' ab a' _ ha5).mono ?_
        rintro e w6 ⟨rfl, x6⟩
        have HA6 := Lib.hid (x6.keep (hu5.keep HA3.out (by
          intro hm
          rcases List.mem_cons.1 hm with hm | hm
          · omega
          · exact hrl hm)))
        have c_HA6_w6 := fun w' o (k : Ext w6 w') => k.cellOf HA6.out o
        have f_HA6_w6 := fun w' o (k : Ext w6 w') => frozen_of (k.keep HA6.out) o
        have r_HA6_w6 := Ext.refl w6
        have h6 := h5.ext x6
        have hu6 := hu5.extR x6
        have hl : r = (a', σ'') := by
          have h1 := HL.out
          rw [loop_eq_x, HST.out] at h1
          exact h1.symm
        clear HL HST HR HID
        subst hl
        go_wp2
        have HA7 := Lib.hid (heap_set (heap_set (heap_set (heap_set HA6.out 0 (.int .i64 a'.out.e)) 1 (.int .u64 (a'.out.handle : Nat))) 2 (.int .i64 a'.out.value)) 3 (.int .i64 a'.out.stamp))
        have u7 := (((((Upd.refl [rb] w6).set1 0 (.int .i64 a'.out.e)).set1 1 (.int .u64 (a'.out.handle : Nat))).set1 2 (.int .i64 a'.out.value)).set1 3 (.int .i64 a'.out.stamp))
        generalize (World.setCell (World.setCell (World.setCell (World.setCell w6 ⟨rb, 0, none⟩ (.int .i64 a'.out.e)) ⟨rb, 1, none⟩ (.int .u64 (a'.out.handle : Nat))) ⟨rb, 2, none⟩ (.int .i64 a'.out.value)) ⟨rb, 3, none⟩ (.int .i64 a'.out.stamp)) = w7 at *
        simp only [List.setIfInBounds_toArray, List.set_cons_zero, List.set_cons_succ] at HA7
        have hc := fun o => cell_of HA7.out o
        refine bodyPost_ret (v := .agg #[.int .i64 a'.out.e, .int .u64 (a'.out.handle : Nat), .int .i64 a'.out.value, .int .i64 a'.out.stamp]) ?_ rfl ⟨rfl, h6.keep1 u7 hrl, ?_⟩
        · simp [results, Try.results52, go_sem, hc]
        · refine ((hx3.upd l.all).then hu6 (fun x hx => ?_)).then u7 (fun x hx => Or.inr (by rw [List.mem_singleton.1 hx]; omega))
          rcases List.mem_cons.1 hx with hx | hx
          · exact Or.inr (by omega)
          · exact Or.inl hx

end Go.Proofs.Ythblhgappldcjaa
