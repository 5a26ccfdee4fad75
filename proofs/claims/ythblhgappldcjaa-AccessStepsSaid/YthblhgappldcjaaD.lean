/- What the functions of mem do: one block for the memory's own cells, one for the words, one for the steps at which they were changed. -/
import Derived.Test.YthblhgappldcjaaC
namespace Go.Proofs.Ythblhgappldcjaa
open Go Go.RowKit

/-- The three blocks of a memory. -/
structure Loc where
  m : Nat
  w : Nat
  t : Nat

def Loc.all (l : Loc) : List Nat := [l.m, l.w, l.t]

def u64v (n : Nat) : Value := .int .u64 n
def i64v (n : Int) : Value := .int .i64 n

/-- In W the memory σ stands at l. -/
structure MemAt (W : World) (l : Loc) (σ : Fl.Mem) : Prop where
  hm : W.heap[l.m]? = some (.cells #[.slice (some ⟨l.w, 0, none⟩) σ.w.length σ.w.length, .slice (some ⟨l.t, 0, none⟩) σ.w.length σ.w.length, .int .i64 σ.steps, .int .i64 σ.who, .int .i64 σ.last.addr, .int .i64 σ.last.who, .bool σ.last.changed] 128 (0, 0))
  hw : W.heap[l.w]? = some (.cells (σ.w.map u64v).toArray 32 (0, 0))
  ht : W.heap[l.t]? = some (.cells (σ.at_.map i64v).toArray 3 (0, 0))
  hl : σ.at_.length = σ.w.length
  h1 : l.m ≠ l.w
  h2 : l.m ≠ l.t
  h3 : l.w ≠ l.t
  hb : ∀ x, x ∈ σ.w → x < 18446744073709551616
  hn : σ.w.length ≤ 1048576

theorem MemAt.keep {W W' : World} {l : Loc} {σ : Fl.Mem} {S : List Nat} (h : MemAt W l σ) (hu : Upd S W W') (hS : ∀ x, x ∈ S → x ≠ l.m ∧ x ≠ l.w ∧ x ≠ l.t) : MemAt W' l σ :=
  ⟨hu.keep h.hm (fun hm => (hS _ hm).1 rfl), hu.keep h.hw (fun hm => (hS _ hm).2.1 rfl), hu.keep h.ht (fun hm => (hS _ hm).2.2 rfl), h.hl, h.h1, h.h2, h.h3, h.hb, h.hn⟩
theorem MemAt.ext {W W' : World} {l : Loc} {σ : Fl.Mem} (h : MemAt W l σ) (hu : Ext W W') : MemAt W' l σ := h.keep (hu.upd []) (by simp)
theorem MemAt.lt {W : World} {l : Loc} {σ : Fl.Mem} (h : MemAt W l σ) : ∀ x, x ∈ l.all → x < W.heap.size := by
  intro x hx
  simp only [Loc.all, List.mem_cons, List.not_mem_nil, or_false] at hx
  rcases hx with rfl | rfl | rfl
  · exact lt_of_heap h.hm
  · exact lt_of_heap h.hw
  · exact lt_of_heap h.ht

theorem c_by (l : Loc) (σ : Fl.Mem) (who : Int) (W : World) (h : MemAt W l σ) :
    Calls Try.prog 116 #[.pointer (some ⟨l.m, 0, none⟩), .int .i64 who] W fun e w' => e = .returned (.tuple #[]) ∧ MemAt w' l { σ with who := who } ∧ Upd [l.m] W w' := by
  have hc := fun o => cell_of h.hm o
  have hf := fun o => frozen_of h.hm o
  have HM := Lib.hid h
  clear h
  go_enter Try.func116, Try.ntmps116
  go_wp2
  go_end0
  have h := HM.out
  exact ⟨rfl, ⟨by simpa using heap_set h.hm 3 (.int .i64 who), heap_far h.hw h.h1.symm _, heap_far h.ht h.h2.symm _, h.hl, h.h1, h.h2, h.h3, h.hb, h.hn⟩, (Upd.refl _ _).set (Or.inl (by simp)) _⟩

set_option maxHeartbeats 400000 in
theorem c_step_in (l : Loc) (σ : Fl.Mem) (a : Int) (W : World) (h : MemAt W l σ) (hs : 0 ≤ σ.steps ∧ σ.steps < 4611686018427387904) (ha : 0 ≤ a ∧ a < σ.w.length) :
    Calls Try.prog 86 #[.pointer (some ⟨l.m, 0, none⟩), .int .i64 a] W fun e w' => e = .returned (.bool true) ∧ MemAt w' l { σ with steps := σ.steps + 1, last := ⟨a, σ.who, false⟩ } ∧ Upd [l.m] W w' := by
  have hc := fun o => cell_of h.hm o
  have hf := fun o => frozen_of h.hm o
  have hn := h.hn
  have HM := Lib.hid h
  clear h
  obtain ⟨s1, s2⟩ := hs
  obtain ⟨a1, a2⟩ := ha
  go_enter Try.func86, Try.ntmps86
  go_wp2
  go_ret
  have h := HM.out
  refine ⟨rfl, ⟨?_, ?_, ?_, h.hl, h.h1, h.h2, h.h3, h.hb, h.hn⟩, ?_⟩
  · exact (heap_set (heap_set (heap_set (heap_set h.hm _ _) _ _) _ _) _ _).trans (by simp)
  · exact heap_far (heap_far (heap_far (heap_far h.hw h.h1.symm _) h.h1.symm _) h.h1.symm _) h.h1.symm _
  · exact heap_far (heap_far (heap_far (heap_far h.ht h.h2.symm _) h.h2.symm _) h.h2.symm _) h.h2.symm _
  · exact ((((Upd.refl _ _).set (Or.inl (by simp)) _).set (Or.inl (by simp)) _).set (Or.inl (by simp)) _).set (Or.inl (by simp)) _

theorem c_step_out (l : Loc) (σ : Fl.Mem) (a : Int) (W : World) (h : MemAt W l σ) (ha : a < 0 ∨ a ≥ σ.w.length) :
    Calls Try.prog 86 #[.pointer (some ⟨l.m, 0, none⟩), .int .i64 a] W fun e w' => e = .returned (.bool false) ∧ W = w' := by
  have hc := fun o => cell_of h.hm o
  have hn := h.hn
  clear h
  rcases ha with ha | ha
  · go_enter Try.func86, Try.ntmps86
    go_wp2
    go_ret
    exact ⟨rfl, rfl⟩
  · by_cases h0 : a < 0
    · go_enter Try.func86, Try.ntmps86
      go_wp2
      go_ret
      exact ⟨rfl, rfl⟩
    · go_enter Try.func86, Try.ntmps86
      go_wp2
      go_ret
      exact ⟨rfl, rfl⟩

theorem getD_mem_lt {l : List Nat} (hb : ∀ x, x ∈ l → x < 18446744073709551616) (i : Nat) : l.getD i 0 < 18446744073709551616 := by
  by_cases h : i < l.length
  · rw [List.getD_eq_getElem?_getD, List.getElem?_eq_getElem h]
    exact hb _ (List.getElem_mem h)
  · rw [List.getD_eq_getElem?_getD, List.getElem?_eq_none (by omega)]
    decide

theorem MemAt.cell {W : World} {l : Loc} {σ : Fl.Mem} (h : MemAt W l σ) {i : Nat} (hi : i < σ.w.length) : W.cell? ⟨l.w, i, none⟩ = some (.int .u64 ((σ.w.getD i 0 : Nat) : Int)) := by
  rw [cell_of h.hw]
  simp [u64v, hi]
theorem MemAt.cellT {W : World} {l : Loc} {σ : Fl.Mem} (h : MemAt W l σ) {i : Nat} (hi : i < σ.w.length) : W.cell? ⟨l.t, i, none⟩ = some (.int .i64 (σ.at_.getD i 0)) := by
  have := h.hl
  rw [cell_of h.ht]
  simp [i64v, hi, this]

theorem setw_same {σ : Fl.Mem} {a : Int} {v : Nat} (h : σ.w.getD a.toNat 0 = v) : σ.setw a v = { σ with last := { σ.last with changed := false } } := by
  by_cases hi : a.toNat < σ.w.length
  · have e : σ.w.set a.toNat v = σ.w := by
      rw [← h, List.getD_eq_getElem?_getD, List.getElem?_eq_getElem hi, Option.getD_some]
      exact List.set_getElem_self hi
    unfold Fl.Mem.setw
    rw [if_pos h, e]
    simp only [h, ne_eq, not_true_eq_false, decide_false]
  · have e : σ.w.set a.toNat v = σ.w := List.set_eq_of_length_le (by omega)
    unfold Fl.Mem.setw
    rw [if_pos h, e]
    simp only [h, ne_eq, not_true_eq_false, decide_false]
theorem setw_new {σ : Fl.Mem} {a : Int} {v : Nat} (h : σ.w.getD a.toNat 0 ≠ v) : σ.setw a v = { σ with w := σ.w.set a.toNat v, at_ := σ.at_.set a.toNat σ.steps, last := { σ.last with changed := true } } := by
  unfold Fl.Mem.setw
  rw [if_neg h]
  simp only [h, ne_eq, not_false_eq_true, decide_true]

set_option maxHeartbeats 400000 in
theorem c_set (l : Loc) (σ : Fl.Mem) (a : Int) (v : Nat) (W : World) (h : MemAt W l σ) (ha : 0 ≤ a ∧ a < σ.w.length) (hv : v < 18446744073709551616) :
    Calls Try.prog 87 #[.pointer (some ⟨l.m, 0, none⟩), .int .i64 a, .int .u64 v] W fun e w' => e = .returned (.tuple #[]) ∧ MemAt w' l (σ.setw a v) ∧ Upd l.all W w' := by
  have hc := fun o => cell_of h.hm o
  have hf := fun o => frozen_of h.hm o
  have hf2 := fun o => frozen_of h.hw o
  have hn := h.hn
  obtain ⟨a1, a2⟩ := ha
  have hcw := h.cell (i := a.toNat) (by omega)
  have hct := h.cellT (i := a.toNat) (by omega)
  have hlt := getD_mem_lt h.hb a.toNat
  have n1 := h.h1
  have n2 := h.h2
  have n3 := h.h3
  by_cases hx : σ.w.getD a.toNat 0 = v
  · have HE := Lib.hid (setw_same hx)
    have HX := Lib.hid hx
    rw [hx] at hcw hlt
    clear hx hct
    have ht : (((v : Nat) : Int) != ((v : Nat) : Int)) = false := by simp
    have HM := Lib.hid h
    clear h
    go_enter Try.func87, Try.ntmps87
    go_wp2
    go_end0
    have h := HM.out
    rw [HE.out]
    refine ⟨rfl, ⟨?_, ?_, ?_, h.hl, h.h1, h.h2, h.h3, h.hb, h.hn⟩, ?_⟩
    · exact (heap_far (heap_set h.hm _ _) h.h1 _).trans (by simp)
    · refine (heap_set (heap_far h.hw h.h1.symm _) _ _).trans ?_
      have e : σ.w.map u64v = (σ.w.map u64v).set a.toNat (u64v v) := by
        rw [← List.map_set, ← HX.out]
        congr 1
        rw [List.getD_eq_getElem?_getD, List.getElem?_eq_getElem (by omega), Option.getD_some]
        exact (List.set_getElem_self (by omega)).symm
      simp only [List.setIfInBounds_toArray]
      rw [show (σ.w.map u64v).set a.toNat (Value.int .u64 (v : Int)) = (σ.w.map u64v).set a.toNat (u64v v) from rfl, ← e]
    · exact heap_far (heap_far h.ht h.h2.symm _) h.h3.symm _
    · exact ((Upd.refl _ _).set (Or.inl (by simp [Loc.all])) _).set (Or.inl (by simp [Loc.all])) _
  · have HE := Lib.hid (setw_new hx)
    have hne : (((σ.w.getD a.toNat 0 : Nat) : Int) != ((v : Nat) : Int)) = true := by rw [bne_iff_ne]; omega
    clear hx
    generalize σ.w.getD a.toNat 0 = x at *
    generalize σ.at_.getD a.toNat 0 = y at *
    have hm1 := (heap_set h.hm 6 (.bool true))
    simp only [List.setIfInBounds_toArray, List.set_cons_zero, List.set_cons_succ] at hm1
    have hw1 : (W.setCell ⟨l.m, 6, none⟩ (.bool true)).heap[l.w]? = _ := heap_far h.hw h.h1.symm _
    have ht1 : (W.setCell ⟨l.m, 6, none⟩ (.bool true)).heap[l.t]? = _ := heap_far h.ht h.h2.symm _
    have hu1 : Upd l.all W (W.setCell ⟨l.m, 6, none⟩ (.bool true)) := (Upd.refl _ _).set (Or.inl (by simp [Loc.all])) _
    have HM := Lib.hid h
    clear h
    go_enter Try.func87, Try.ntmps87
    go_wp2_with fail
    generalize W.setCell ⟨l.m, 6, none⟩ (.bool true) = W1 at *
    have hx1 := fun w' o (k : Ext W1 w') => k.cellOf hm1 o
    refine wp_region_plan (Ext W1) [] [0, 1, 2, 3, 4, 5, 6, 7, 8, 9] 10 [] Try.mixed (by kernel_rfl) (by intro c a d v w h; cases d <;> exact h) (Ext.refl _).drew ?_
    simp only [opsAt, List.filterMap_cons, List.filterMap_nil, List.getElem?_toArray, List.getElem?_cons_zero, List.getElem?_cons_succ]
    refine Firsts.nil ?_
    (refine Heads.val (v := ?_) rfl (fun wv hwv => ?_) ?_; rotate_left; (go_simp; with_reducible rfl); simp only [Act.put, List.setIfInBounds_toArray, List.set_cons_zero, List.set_cons_succ])
    (refine Heads.val (v := ?_) rfl (fun wv hwv => ?_) ?_; rotate_left; (go_simp; with_reducible rfl); simp only [Act.put, List.setIfInBounds_toArray, List.set_cons_zero, List.set_cons_succ])
    (refine Heads.val (v := ?_) rfl (fun wv hwv => ?_) ?_; rotate_left; (go_simp; with_reducible rfl); simp only [Act.put, List.setIfInBounds_toArray, List.set_cons_zero, List.set_cons_succ])
    (refine Heads.val (v := ?_) rfl (fun wv hwv => ?_) ?_; rotate_left; (go_simp; with_reducible rfl); simp only [Act.put, List.setIfInBounds_toArray, List.set_cons_zero, List.set_cons_succ])
    (refine Heads.val (v := ?_) rfl (fun wv hwv => ?_) ?_; rotate_left; (go_simp; with_reducible rfl); simp only [Act.put, List.setIfInBounds_toArray, List.set_cons_zero, List.set_cons_succ])
    (refine Heads.val (v := ?_) rfl (fun wv hwv => ?_) ?_; rotate_left; (go_simp; with_reducible rfl); simp only [Act.put, List.setIfInBounds_toArray, List.set_cons_zero, List.set_cons_succ])
    (refine Heads.val (v := ?_) rfl (fun wv hwv => ?_) ?_; rotate_left; (go_simp; with_reducible rfl); simp only [Act.put, List.setIfInBounds_toArray, List.set_cons_zero, List.set_cons_succ])
    (refine Heads.val (v := ?_) rfl (fun wv hwv => ?_) ?_; rotate_left; (go_simp; with_reducible rfl); simp only [Act.put, List.setIfInBounds_toArray, List.set_cons_zero, List.set_cons_succ])
    (refine Heads.val (v := ?_) rfl (fun wv hwv => ?_) ?_; rotate_left; (go_simp; with_reducible rfl); simp only [Act.put, List.setIfInBounds_toArray, List.set_cons_zero, List.set_cons_succ])
    (refine Heads.val (v := ?_) rfl (fun wv hwv => ?_) ?_; rotate_left; (go_simp; with_reducible rfl); simp only [Act.put, List.setIfInBounds_toArray, List.set_cons_zero, List.set_cons_succ])
    refine Heads.nil ?_
    intro W2 hW2
    have h := HM.out
    have hm2 := hW2.keep hm1
    have hw2 := hW2.keep hw1
    have ht2 := hW2.keep ht1
    have ci2 := fun o => cell_of hm2 o
    have fw2 := fun o => frozen_of hw2 o
    have ft2 := fun o => frozen_of ht2 o
    have hl := h.hl
    have cw2 : W2.cell? ⟨l.w, a.toNat, none⟩ = some (.int .u64 (x : Int)) := (cell_of hw2 _).trans ((cell_of h.hw _).symm.trans hcw)
    have ct2 : W2.cell? ⟨l.t, a.toNat, none⟩ = some (.int .i64 y) := (cell_of ht2 _).trans ((cell_of h.ht _).symm.trans hct)
    have HL := Lib.hid hl
    clear h hl hm1 hw1 ht1 hc hf hf2 hcw hct hx1
    have HA := Lib.hid (And.intro hm2 (And.intro hw2 ht2))
    clear hm2 hw2 ht2
    go_wp2
    go_end0
    obtain ⟨hm2, hw2, ht2⟩ := HA.out
    have h := HM.out
    rw [HE.out]
    refine ⟨rfl, ⟨?_, ?_, ?_, ?_, h.h1, h.h2, h.h3, ?_, ?_⟩, ?_⟩
    · exact (heap_far (heap_far hm2 h.h2 _) h.h1 _).trans (by simp)
    · refine (heap_set (heap_far hw2 h.h3 _) _ _).trans ?_
      simp [u64v]
    · refine (heap_far (heap_set ht2 _ _) h.h3.symm _).trans ?_
      simp [i64v]
    · simpa using h.hl
    · intro z hz
      rcases List.mem_or_eq_of_mem_set hz with hz | rfl
      · exact h.hb z hz
      · exact hv
    · simpa using h.hn
    · exact ((hu1.extR hW2).set (Or.inl (by simp [Loc.all])) _).set (Or.inl (by simp [Loc.all])) _

theorem inb_or (σ : Fl.Mem) (a : Int) : (0 ≤ a ∧ a < σ.w.length) ∨ (a < 0 ∨ a ≥ σ.w.length) := by omega

theorem load_in {σ : Fl.Mem} {a : Int} (who : Int) (h : 0 ≤ a ∧ a < σ.w.length) : σ.load who a = (σ.w.getD a.toNat 0, σ.stp who a) := by
  unfold Fl.Mem.load; rw [if_pos (show Fl.inb σ a from h)]
theorem load_out {σ : Fl.Mem} {a : Int} (who : Int) (h : a < 0 ∨ a ≥ σ.w.length) : σ.load who a = (0, { σ with who := who }) := by
  unfold Fl.Mem.load; rw [if_neg (by unfold Fl.inb; omega)]
theorem store_in {σ : Fl.Mem} {a : Int} (who : Int) (v : Nat) (h : 0 ≤ a ∧ a < σ.w.length) : σ.store who a v = (σ.stp who a).setw a v := by
  unfold Fl.Mem.store; rw [if_pos (show Fl.inb σ a from h)]
theorem store_out {σ : Fl.Mem} {a : Int} (who : Int) (v : Nat) (h : a < 0 ∨ a ≥ σ.w.length) : σ.store who a v = { σ with who := who } := by
  unfold Fl.Mem.store; rw [if_neg (by unfold Fl.inb; omega)]
theorem cas_out {σ : Fl.Mem} {a : Int} (who : Int) (o v : Nat) (h : a < 0 ∨ a ≥ σ.w.length) : σ.cas who a o v = (false, { σ with who := who }) := by
  unfold Fl.Mem.cas; rw [if_neg (by unfold Fl.inb; omega)]
theorem cas_yes {σ : Fl.Mem} {a : Int} (who : Int) (o v : Nat) (h : 0 ≤ a ∧ a < σ.w.length) (he : σ.w.getD a.toNat 0 = o) : σ.cas who a o v = (true, (σ.stp who a).setw a v) := by
  unfold Fl.Mem.cas; rw [if_pos (show Fl.inb σ a from h), if_pos he]
theorem cas_no {σ : Fl.Mem} {a : Int} (who : Int) (o v : Nat) (h : 0 ≤ a ∧ a < σ.w.length) (he : σ.w.getD a.toNat 0 ≠ o) : σ.cas who a o v = (false, σ.stp who a) := by
  unfold Fl.Mem.cas; rw [if_pos (show Fl.inb σ a from h), if_neg he]
theorem add_in {σ : Fl.Mem} {a : Int} (who d : Int) (h : 0 ≤ a ∧ a < σ.w.length) : σ.add who a d = (σ.stp who a).setw a ((σ.w.getD a.toNat 0 + Fl.u64 d) % 18446744073709551616) := by
  unfold Fl.Mem.add; rw [if_pos (show Fl.inb σ a from h)]
theorem add_out {σ : Fl.Mem} {a : Int} (who d : Int) (h : a < 0 ∨ a ≥ σ.w.length) : σ.add who a d = { σ with who := who } := by
  unfold Fl.Mem.add; rw [if_neg (by unfold Fl.inb; omega)]

set_option maxHeartbeats 400000 in
theorem c_mload (l : Loc) (σ : Fl.Mem) (a : Int) (W : World) (h : MemAt W l σ) (hs : 0 ≤ σ.steps ∧ σ.steps < 4611686018427387904) :
    Calls Try.prog 117 #[.pointer (some ⟨l.m, 0, none⟩), .int .i64 a] W fun e w' => (∃ x : Int, e = .returned (.tuple #[.int .u64 ((σ.load σ.who a).1 : Nat), .int .i64 x])) ∧ MemAt w' l (σ.load σ.who a).2 ∧ Upd l.all W w' := by
  rcases inb_or σ a with ha | ha
  · have HE := Lib.hid (load_in σ.who ha)
    go_enter Try.func117, Try.ntmps117
    go_wp2_with fail
    refine (c_step_in l σ a _ h hs ha).mono ?_
    rintro e w1 ⟨rfl, h1, u1⟩
    obtain ⟨a1, a2⟩ := ha
    have hc := fun o => cell_of h1.hm o
    have hw := h1.cell (i := a.toNat) (by show a.toNat < σ.w.length; omega)
    have hn := h1.hn
    simp only at hn hw
    generalize σ.w.getD a.toNat 0 = x at *
    have HM := Lib.hid (And.intro h1 u1)
    clear h h1 u1
    go_wp2
    go_ret2
    obtain ⟨h1, u1⟩ := HM.out
    rw [HE.out]
    exact ⟨⟨_, rfl⟩, h1, u1.mono (by simp [Loc.all])⟩
  · have HE := Lib.hid (load_out σ.who ha)
    go_enter Try.func117, Try.ntmps117
    go_wp2_with fail
    refine (c_step_out l σ a _ h ha).mono ?_
    rintro e w1 ⟨rfl, rfl⟩
    go_wp2
    go_ret2
    rw [HE.out]
    exact ⟨⟨_, rfl⟩, h, Upd.refl _ _⟩

set_option maxHeartbeats 400000 in
theorem c_mstore (l : Loc) (σ : Fl.Mem) (a : Int) (v : Nat) (W : World) (h : MemAt W l σ) (hs : 0 ≤ σ.steps ∧ σ.steps < 4611686018427387904) (hv : v < 18446744073709551616) :
    Calls Try.prog 45 #[.pointer (some ⟨l.m, 0, none⟩), .int .i64 a, .int .u64 v] W fun e w' => (∃ x : Int, e = .returned (.int .i64 x)) ∧ MemAt w' l (σ.store σ.who a v) ∧ Upd l.all W w' := by
  rcases inb_or σ a with ha | ha
  · have HE := Lib.hid (store_in σ.who v ha)
    go_enter Try.func45, Try.ntmps45
    go_wp2_with fail
    refine (c_step_in l σ a _ h hs ha).mono ?_
    rintro e w1 ⟨rfl, h1, u1⟩
    go_wp2_with fail
    refine (c_set l _ a v _ h1 ha hv).mono ?_
    rintro e w2 ⟨rfl, h2, u2⟩
    go_wp2
    go_ret
    rw [HE.out]
    exact ⟨⟨_, rfl⟩, h2, (u1.mono (by simp [Loc.all])).trans u2⟩
  · have HE := Lib.hid (store_out σ.who v ha)
    go_enter Try.func45, Try.ntmps45
    go_wp2_with fail
    refine (c_step_out l σ a _ h ha).mono ?_
    rintro e w1 ⟨rfl, rfl⟩
    go_wp2
    go_ret
    rw [HE.out]
    exact ⟨⟨_, rfl⟩, h, Upd.refl _ _⟩

set_option maxHeartbeats 400000 in
theorem c_mcas (l : Loc) (σ : Fl.Mem) (a : Int) (o v : Nat) (W : World) (h : MemAt W l σ) (hs : 0 ≤ σ.steps ∧ σ.steps < 4611686018427387904) (hv : v < 18446744073709551616) :
    Calls Try.prog 119 #[.pointer (some ⟨l.m, 0, none⟩), .int .i64 a, .int .u64 o, .int .u64 v] W fun e w' => (∃ x : Int, e = .returned (.tuple #[.bool (σ.cas σ.who a o v).1, .int .i64 x])) ∧ MemAt w' l (σ.cas σ.who a o v).2 ∧ Upd l.all W w' := by
  rcases inb_or σ a with ha | ha
  · have HY := Lib.hid (fun he => cas_yes (σ := σ) σ.who o v ha he)
    have HN := Lib.hid (fun he => cas_no (σ := σ) σ.who o v ha he)
    go_enter Try.func119, Try.ntmps119
    go_wp2_with fail
    refine (c_step_in l σ a _ h hs ha).mono ?_
    rintro e w1 ⟨rfl, h1, u1⟩
    obtain ⟨a1, a2⟩ := ha
    have hc := fun o => cell_of h1.hm o
    have hw := h1.cell (i := a.toNat) (by show a.toNat < σ.w.length; omega)
    have hn := h1.hn
    simp only at hn hw
    generalize σ.w.getD a.toNat 0 = x at *
    have HM := Lib.hid (And.intro h1 u1)
    clear h h1 u1
    by_cases he : x = o
    · have ht : (((x : Nat) : Int) != ((o : Nat) : Int)) = false := by rw [bne_eq_false_iff_eq]; omega
      have HE := Lib.hid (HY.out he)
      clear HY HN he
      go_wp2_with fail
      obtain ⟨h1, u1⟩ := HM.out
      refine (c_set l _ a v _ h1 ⟨a1, a2⟩ hv).mono ?_
      rintro e w2 ⟨rfl, h2, u2⟩
      go_wp2
      go_ret2
      rw [HE.out]
      exact ⟨⟨_, rfl⟩, h2, (u1.mono (by simp [Loc.all])).trans u2⟩
    · have ht : (((x : Nat) : Int) != ((o : Nat) : Int)) = true := by rw [bne_iff_ne]; omega
      have HE := Lib.hid (HN.out he)
      clear HY HN he
      go_wp2
      go_ret2
      obtain ⟨h1, u1⟩ := HM.out
      rw [HE.out]
      exact ⟨⟨_, rfl⟩, h1, u1.mono (by simp [Loc.all])⟩
  · have HE := Lib.hid (cas_out σ.who o v ha)
    go_enter Try.func119, Try.ntmps119
    go_wp2_with fail
    refine (c_step_out l σ a _ h ha).mono ?_
    rintro e w1 ⟨rfl, rfl⟩
    go_wp2
    go_ret2
    rw [HE.out]
    exact ⟨⟨_, rfl⟩, h, Upd.refl _ _⟩

theorem add_u64 (x d : Nat) : IntKind.u64.wrap ((x : Int) + (d : Int)) = (((x + d) % 18446744073709551616 : Nat) : Int) := by
  rw [IntKind.wrap_u64]; omega

set_option maxHeartbeats 400000 in
theorem c_madd (l : Loc) (σ : Fl.Mem) (a : Int) (d : Int) (W : World) (h : MemAt W l σ) (hs : 0 ≤ σ.steps ∧ σ.steps < 4611686018427387904) :
    Calls Try.prog 118 #[.pointer (some ⟨l.m, 0, none⟩), .int .i64 a, .int .u64 (Fl.u64 d : Nat)] W fun e w' => (∃ x y : Int, e = .returned (.tuple #[.int .u64 x, .int .i64 y])) ∧ MemAt w' l (σ.add σ.who a d) ∧ Upd l.all W w' := by
  rcases inb_or σ a with ha | ha
  · have HE := Lib.hid (add_in (σ := σ) σ.who d ha)
    generalize Fl.u64 d = k at *
    go_enter Try.func118, Try.ntmps118
    go_wp2_with fail
    refine (c_step_in l σ a _ h hs ha).mono ?_
    rintro e w1 ⟨rfl, h1, u1⟩
    obtain ⟨a1, a2⟩ := ha
    have hc := fun o => cell_of h1.hm o
    have hw := h1.cell (i := a.toNat) (by show a.toNat < σ.w.length; omega)
    have hn := h1.hn
    simp only at hn hw
    generalize σ.w.getD a.toNat 0 = x at *
    have hk := add_u64 x k
    have HM := Lib.hid (And.intro h1 u1)
    clear h h1 u1
    go_wp2_with fail
    obtain ⟨h1, u1⟩ := HM.out
    refine (c_set l _ a _ _ h1 ⟨a1, a2⟩ (Nat.mod_lt _ (by decide))).mono ?_
    rintro e w2 ⟨rfl, h2, u2⟩
    go_wp2
    go_ret2
    rw [HE.out]
    exact ⟨⟨_, _, rfl⟩, h2, (u1.mono (by simp [Loc.all])).trans u2⟩
  · have HE := Lib.hid (add_out (σ := σ) σ.who d ha)
    generalize Fl.u64 d = k at *
    go_enter Try.func118, Try.ntmps118
    go_wp2_with fail
    refine (c_step_out l σ a _ h ha).mono ?_
    rintro e w1 ⟨rfl, rfl⟩
    go_wp2
    go_ret2
    rw [HE.out]
    exact ⟨⟨_, _, rfl⟩, h, Upd.refl _ _⟩

theorem c_mlen (l : Loc) (σ : Fl.Mem) (W : World) (h : MemAt W l σ) :
    Calls Try.prog 57 #[.pointer (some ⟨l.m, 0, none⟩)] W fun e w' => e = .returned (.int .i64 σ.w.length) ∧ Ext W w' := by
  have hc := fun o => cell_of h.hm o
  have hn := h.hn
  clear h
  go_enter Try.func57, Try.ntmps57
  go_wp2
  go_ret
  exact ⟨rfl, Ext.refl _⟩

theorem c_msteps (l : Loc) (σ : Fl.Mem) (W : World) (h : MemAt W l σ) :
    Calls Try.prog 90 #[.pointer (some ⟨l.m, 0, none⟩)] W fun e w' => e = .returned (.int .i64 σ.steps) ∧ Ext W w' := by
  have hc := fun o => cell_of h.hm o
  clear h
  go_enter Try.func90, Try.ntmps90
  go_wp2
  go_ret
  exact ⟨rfl, Ext.refl _⟩

theorem c_mlast (l : Loc) (σ : Fl.Mem) (W : World) (h : MemAt W l σ) :
    Calls Try.prog 59 #[.pointer (some ⟨l.m, 0, none⟩)] W fun e w' => e = .returned (.agg #[.int .i64 σ.last.addr, .int .i64 σ.last.who, .bool σ.last.changed]) ∧ Ext W w' := by
  have hc := fun o => cell_of h.hm o
  have hlt := lt_of_heap h.hm
  clear h
  go_enter Try.func59, Try.ntmps59
  go_wp2
  refine bodyPost_ret (v := .agg #[.int .i64 σ.last.addr, .int .i64 σ.last.who, .bool σ.last.changed]) ?_ rfl ⟨rfl, ?_⟩
  · simp [results, Try.results59, go_sem]
  · exact (Ext.refl _).alloc _

theorem peek_in {σ : Fl.Mem} {a : Int} (h : 0 ≤ a ∧ a < σ.w.length) : σ.peek a = σ.w.getD a.toNat 0 := by
  unfold Fl.Mem.peek; rw [if_pos (show Fl.inb σ a from h)]
theorem peek_out {σ : Fl.Mem} {a : Int} (h : a < 0 ∨ a ≥ σ.w.length) : σ.peek a = 0 := by
  unfold Fl.Mem.peek; rw [if_neg (by unfold Fl.inb; omega)]
theorem wh_in {σ : Fl.Mem} {a : Int} (h : 0 ≤ a ∧ a < σ.w.length) : σ.wh a = σ.at_.getD a.toNat 0 := by
  unfold Fl.Mem.wh; rw [if_pos (show Fl.inb σ a from h)]
theorem wh_out {σ : Fl.Mem} {a : Int} (h : a < 0 ∨ a ≥ σ.w.length) : σ.wh a = 0 := by
  unfold Fl.Mem.wh; rw [if_neg (by unfold Fl.inb; omega)]

set_option maxHeartbeats 400000 in
theorem c_peek (l : Loc) (σ : Fl.Mem) (a : Int) (W : World) (h : MemAt W l σ) :
    Calls Try.prog 40 #[.pointer (some ⟨l.m, 0, none⟩), .int .i64 a] W fun e w' => e = .returned (.int .u64 (σ.peek a : Nat)) ∧ Ext W w' := by
  have hc := fun o => cell_of h.hm o
  have hn := h.hn
  rcases inb_or σ a with ha | ha
  · rw [peek_in ha]
    obtain ⟨a1, a2⟩ := ha
    have hw := h.cell (i := a.toNat) (by omega)
    clear h
    generalize σ.w.getD a.toNat 0 = x at *
    go_enter Try.func40, Try.ntmps40
    go_wp2
    go_ret
    exact ⟨rfl, Ext.refl _⟩
  · rw [peek_out ha]
    clear h
    by_cases h0 : a < 0
    · go_enter Try.func40, Try.ntmps40
      go_wp2
      go_ret
      exact ⟨rfl, Ext.refl _⟩
    · have h1 : a ≥ σ.w.length := by omega
      clear ha
      go_enter Try.func40, Try.ntmps40
      go_wp2
      go_ret
      exact ⟨rfl, Ext.refl _⟩

set_option maxHeartbeats 400000 in
theorem c_when (l : Loc) (σ : Fl.Mem) (a : Int) (W : World) (h : MemAt W l σ) :
    Calls Try.prog 82 #[.pointer (some ⟨l.m, 0, none⟩), .int .i64 a] W fun e w' => e = .returned (.int .i64 (σ.wh a)) ∧ Ext W w' := by
  have hc := fun o => cell_of h.hm o
  have hn := h.hn
  rcases inb_or σ a with ha | ha
  · rw [wh_in ha]
    obtain ⟨a1, a2⟩ := ha
    have hw := h.cellT (i := a.toNat) (by omega)
    clear h
    generalize σ.at_.getD a.toNat 0 = x at *
    go_enter Try.func82, Try.ntmps82
    go_wp2
    go_ret
    exact ⟨rfl, Ext.refl _⟩
  · rw [wh_out ha]
    clear h
    by_cases h0 : a < 0
    · go_enter Try.func82, Try.ntmps82
      go_wp2
      go_ret
      exact ⟨rfl, Ext.refl _⟩
    · have h1 : a ≥ σ.w.length := by omega
      clear ha
      go_enter Try.func82, Try.ntmps82
      go_wp2
      go_ret
      exact ⟨rfl, Ext.refl _⟩

/-! ### What somebody does in an arena -/

set_option maxHeartbeats 400000 in
theorem e_load (c : Fl.Cfg) (l : Loc) (σ : Fl.Mem) (who a : Int) (W : World) (h : MemAt W l σ) (hs : 0 ≤ σ.steps ∧ σ.steps < 4611686018427387904) :
    Calls Try.prog 79 #[.agg #[.int .i64 c.threads, .int .i64 c.slots, .int .i64 c.chunks, .int .i64 c.words, .int .i64 c.gens, .int .i64 c.sparse, .int .i64 c.tries, .pointer (some ⟨l.m, 0, none⟩), .int .i64 who], .int .i64 a] W fun e w' => e = .returned (.int .u64 ((σ.load who a).1 : Nat)) ∧ MemAt w' l (σ.load who a).2 ∧ Upd l.all W w' := by
  go_enter Try.func79, Try.ntmps79
  go_wp2_with fail
  have hE := heap_new W (.cells #[.int .i64 c.threads, .int .i64 c.slots, .int .i64 c.chunks, .int .i64 c.words, .int .i64 c.gens, .int .i64 c.sparse, .int .i64 c.tries, .pointer (some ⟨l.m, 0, none⟩), .int .i64 who] 27)
  have hX := (Ext.refl W).alloc (.cells #[.int .i64 c.threads, .int .i64 c.slots, .int .i64 c.chunks, .int .i64 c.words, .int .i64 c.gens, .int .i64 c.sparse, .int .i64 c.tries, .pointer (some ⟨l.m, 0, none⟩), .int .i64 who] 27)
  generalize W.alloc (.cells #[.int .i64 c.threads, .int .i64 c.slots, .int .i64 c.chunks, .int .i64 c.words, .int .i64 c.gens, .int .i64 c.sparse, .int .i64 c.tries, .pointer (some ⟨l.m, 0, none⟩), .int .i64 who] 27) = w1 at *
  have hlt := h.lt
  refine (c_by l σ who _ (h.ext hX)).mono ?_
  rintro e w2 ⟨rfl, h2, u2⟩
  have hE2 := u2.keep hE (by have := hlt l.m (by simp [Loc.all]); simp; omega)
  have hc := fun o => cell_of hE2 o
  go_wp2_with fail
  refine (c_mload l _ a _ h2 hs).mono ?_
  rintro e w3 ⟨⟨x, rfl⟩, h3, u3⟩
  go_wp2
  go_ret
  exact ⟨rfl, h3, (((hX.upd _).trans (u2.mono (by simp [Loc.all]))).trans u3)⟩

set_option maxHeartbeats 400000 in
theorem e_store (c : Fl.Cfg) (l : Loc) (σ : Fl.Mem) (who a : Int) (v : Nat) (W : World) (h : MemAt W l σ) (hs : 0 ≤ σ.steps ∧ σ.steps < 4611686018427387904) (hv : v < 18446744073709551616) :
    Calls Try.prog 99 #[.agg #[.int .i64 c.threads, .int .i64 c.slots, .int .i64 c.chunks, .int .i64 c.words, .int .i64 c.gens, .int .i64 c.sparse, .int .i64 c.tries, .pointer (some ⟨l.m, 0, none⟩), .int .i64 who], .int .i64 a, .int .u64 v] W fun e w' => e = .returned (.tuple #[]) ∧ MemAt w' l (σ.store who a v) ∧ Upd l.all W w' := by
  go_enter Try.func99, Try.ntmps99
  go_wp2_with fail
  have hE := heap_new W (.cells #[.int .i64 c.threads, .int .i64 c.slots, .int .i64 c.chunks, .int .i64 c.words, .int .i64 c.gens, .int .i64 c.sparse, .int .i64 c.tries, .pointer (some ⟨l.m, 0, none⟩), .int .i64 who] 27)
  have hX := (Ext.refl W).alloc (.cells #[.int .i64 c.threads, .int .i64 c.slots, .int .i64 c.chunks, .int .i64 c.words, .int .i64 c.gens, .int .i64 c.sparse, .int .i64 c.tries, .pointer (some ⟨l.m, 0, none⟩), .int .i64 who] 27)
  generalize W.alloc (.cells #[.int .i64 c.threads, .int .i64 c.slots, .int .i64 c.chunks, .int .i64 c.words, .int .i64 c.gens, .int .i64 c.sparse, .int .i64 c.tries, .pointer (some ⟨l.m, 0, none⟩), .int .i64 who] 27) = w1 at *
  have hlt := h.lt
  refine (c_by l σ who _ (h.ext hX)).mono ?_
  rintro e w2 ⟨rfl, h2, u2⟩
  have hE2 := u2.keep hE (by have := hlt l.m (by simp [Loc.all]); simp; omega)
  have hc := fun o => cell_of hE2 o
  go_wp2_with fail
  refine (c_mstore l _ a v _ h2 hs hv).mono ?_
  rintro e w3 ⟨⟨x, rfl⟩, h3, u3⟩
  go_wp2
  go_end0
  exact ⟨rfl, h3, (((hX.upd _).trans (u2.mono (by simp [Loc.all]))).trans u3)⟩

set_option maxHeartbeats 400000 in
theorem e_cas (c : Fl.Cfg) (l : Loc) (σ : Fl.Mem) (who a : Int) (o v : Nat) (W : World) (h : MemAt W l σ) (hs : 0 ≤ σ.steps ∧ σ.steps < 4611686018427387904) (hv : v < 18446744073709551616) :
    Calls Try.prog 89 #[.agg #[.int .i64 c.threads, .int .i64 c.slots, .int .i64 c.chunks, .int .i64 c.words, .int .i64 c.gens, .int .i64 c.sparse, .int .i64 c.tries, .pointer (some ⟨l.m, 0, none⟩), .int .i64 who], .int .i64 a, .int .u64 o, .int .u64 v] W fun e w' => e = .returned (.bool (σ.cas who a o v).1) ∧ MemAt w' l (σ.cas who a o v).2 ∧ Upd l.all W w' := by
  go_enter Try.func89, Try.ntmps89
  go_wp2_with fail
  have hE := heap_new W (.cells #[.int .i64 c.threads, .int .i64 c.slots, .int .i64 c.chunks, .int .i64 c.words, .int .i64 c.gens, .int .i64 c.sparse, .int .i64 c.tries, .pointer (some ⟨l.m, 0, none⟩), .int .i64 who] 27)
  have hX := (Ext.refl W).alloc (.cells #[.int .i64 c.threads, .int .i64 c.slots, .int .i64 c.chunks, .int .i64 c.words, .int .i64 c.gens, .int .i64 c.sparse, .int .i64 c.tries, .pointer (some ⟨l.m, 0, none⟩), .int .i64 who] 27)
  generalize W.alloc (.cells #[.int .i64 c.threads, .int .i64 c.slots, .int .i64 c.chunks, .int .i64 c.words, .int .i64 c.gens, .int .i64 c.sparse, .int .i64 c.tries, .pointer (some ⟨l.m, 0, none⟩), .int .i64 who] 27) = w1 at *
  have hlt := h.lt
  refine (c_by l σ who _ (h.ext hX)).mono ?_
  rintro e w2 ⟨rfl, h2, u2⟩
  have hE2 := u2.keep hE (by have := hlt l.m (by simp [Loc.all]); simp; omega)
  have hc := fun o => cell_of hE2 o
  go_wp2_with fail
  refine (c_mcas l _ a o v _ h2 hs hv).mono ?_
  rintro e w3 ⟨⟨x, rfl⟩, h3, u3⟩
  go_wp2
  go_ret
  exact ⟨rfl, h3, (((hX.upd _).trans (u2.mono (by simp [Loc.all]))).trans u3)⟩

theorem u64_wrap (d : Int) : IntKind.u64.wrap d = ((Fl.u64 d : Nat) : Int) := by
  rw [IntKind.wrap_u64]; unfold Fl.u64; omega

set_option maxHeartbeats 400000 in
theorem e_add (c : Fl.Cfg) (l : Loc) (σ : Fl.Mem) (who a d : Int) (W : World) (h : MemAt W l σ) (hs : 0 ≤ σ.steps ∧ σ.steps < 4611686018427387904) :
    Calls Try.prog 83 #[.agg #[.int .i64 c.threads, .int .i64 c.slots, .int .i64 c.chunks, .int .i64 c.words, .int .i64 c.gens, .int .i64 c.sparse, .int .i64 c.tries, .pointer (some ⟨l.m, 0, none⟩), .int .i64 who], .int .i64 a, .int .i64 d] W fun e w' => e = .returned (.tuple #[]) ∧ MemAt w' l (σ.add who a d) ∧ Upd l.all W w' := by
  go_enter Try.func83, Try.ntmps83
  go_wp2_with fail
  have hE := heap_new W (.cells #[.int .i64 c.threads, .int .i64 c.slots, .int .i64 c.chunks, .int .i64 c.words, .int .i64 c.gens, .int .i64 c.sparse, .int .i64 c.tries, .pointer (some ⟨l.m, 0, none⟩), .int .i64 who] 27)
  have hX := (Ext.refl W).alloc (.cells #[.int .i64 c.threads, .int .i64 c.slots, .int .i64 c.chunks, .int .i64 c.words, .int .i64 c.gens, .int .i64 c.sparse, .int .i64 c.tries, .pointer (some ⟨l.m, 0, none⟩), .int .i64 who] 27)
  generalize W.alloc (.cells #[.int .i64 c.threads, .int .i64 c.slots, .int .i64 c.chunks, .int .i64 c.words, .int .i64 c.gens, .int .i64 c.sparse, .int .i64 c.tries, .pointer (some ⟨l.m, 0, none⟩), .int .i64 who] 27) = w1 at *
  have hlt := h.lt
  refine (c_by l σ who _ (h.ext hX)).mono ?_
  rintro e w2 ⟨rfl, h2, u2⟩
  have hE2 := u2.keep hE (by have := hlt l.m (by simp [Loc.all]); simp; omega)
  have hc := fun o => cell_of hE2 o
  have hd := u64_wrap d
  go_wp2_with fail
  refine (c_madd l _ a d _ h2 hs).mono ?_
  rintro e w3 ⟨⟨x, y, rfl⟩, h3, u3⟩
  go_wp2
  go_end0
  exact ⟨rfl, h3, (((hX.upd _).trans (u2.mono (by simp [Loc.all]))).trans u3)⟩

set_option maxHeartbeats 400000 in
theorem e_now (c : Fl.Cfg) (l : Loc) (σ : Fl.Mem) (who : Int) (W : World) (h : MemAt W l σ) :
    Calls Try.prog 53 #[.agg #[.int .i64 c.threads, .int .i64 c.slots, .int .i64 c.chunks, .int .i64 c.words, .int .i64 c.gens, .int .i64 c.sparse, .int .i64 c.tries, .pointer (some ⟨l.m, 0, none⟩), .int .i64 who]] W fun e w' => e = .returned (.int .i64 σ.steps) ∧ Ext W w' := by
  go_enter Try.func53, Try.ntmps53
  go_wp2_with fail
  have hX := (Ext.refl W).alloc (.cells #[.int .i64 c.threads, .int .i64 c.slots, .int .i64 c.chunks, .int .i64 c.words, .int .i64 c.gens, .int .i64 c.sparse, .int .i64 c.tries, .pointer (some ⟨l.m, 0, none⟩), .int .i64 who] 27)
  refine (c_msteps l σ _ (h.ext hX)).mono ?_
  rintro e w2 ⟨rfl, h2⟩
  go_wp2
  go_ret
  exact ⟨rfl, hX.trans h2⟩

end Go.Proofs.Ythblhgappldcjaa
