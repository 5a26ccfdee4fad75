/- The contracts of access: the small ones. -/
import Derived.Test.YthblhgappldcjaaIb
import Derived.BigQuiet
namespace Go.Proofs.Ythblhgappldcjaa
open Go Go.RowKit
set_option linter.unusedVariables false

structure AccessAt (W : World) (l : Loc) (F : List Nat) (b : Nat) (a : Fl.Access) : Prop where
  ex : ∃ H : Value, W.heap[b]? = some (.cells #[.int .i64 a.x.kind, .int .u64 (a.x.handle : Nat), .int .i64 a.x.index, .int .i64 a.x.value, .int .i64 a.x.old, .bool a.own, .int .i64 a.h.slot, .int .i64 a.h.gen, .int .i64 a.pc, .int .u64 (a.w : Nat), .int .u64 (a.cell : Nat), .int .i64 a.seen, .int .i64 a.read, .int .i64 a.size, H, .int .i64 a.out.e, .int .u64 (a.out.handle : Nat), .int .i64 a.out.value, .int .i64 a.out.stamp] 135 (0, 0)) ∧
    (a.pc = 4 → ∃ hb, hb ∈ F ∧ hb ≠ b ∧ H = .pointer (some ⟨hb, 0, none⟩) ∧ HelpAt W hb a.help)
  mem : b ∈ F
  out : ∀ x, x ∈ F → x ∉ l.all
  lt : ∀ x, x ∈ F → x < W.heap.size
  n : a.x.handle < 18446744073709551616
  w : a.w < 18446744073709551616
  cell : a.cell < 18446744073709551616
  slot : 0 ≤ a.h.slot ∧ a.h.slot ≤ 65535
  gen : 0 ≤ a.h.gen ∧ a.h.gen ≤ 65535
  size : 0 ≤ a.size ∧ a.size ≤ 65535
  pc : 0 ≤ a.pc ∧ a.pc ≤ 6

def AccessRes (r : Value) (c : Fl.Cfg) (who : Int) (σ : Fl.Mem) (a : Fl.Access) (l : Loc) (F : List Nat) (b : Nat) (W : World) (e : Ending) (w' : World) : Prop :=
  e = .returned r ∧ MemAt w' l (a.step c who σ).2.2 ∧ Upd (F ++ l.all) W w' ∧
    ∃ F', AccessAt w' l F' b (a.step c who σ).2.1 ∧ ∀ x, x ∈ F' → x ∈ F ∨ W.heap.size ≤ x

theorem AccessAt.ext {W W' : World} {l : Loc} {F : List Nat} {b : Nat} {a : Fl.Access} (h : AccessAt W l F b a) (x : Ext W W') : AccessAt W' l F b a := by
  obtain ⟨⟨H, hB, hH⟩, hbF, hout, hFl, hn, hw, hcl, hsl, hgn, hsz, hpc⟩ := h
  refine ⟨⟨H, x.keep hB, fun q => ?_⟩, hbF, hout, fun y hy => Nat.lt_of_lt_of_le (hFl y hy) x.size, hn, hw, hcl, hsl, hgn, hsz, hpc⟩
  obtain ⟨p, h1, h2, h3, h4⟩ := hH q
  exact ⟨p, h1, h2, h3, h4.keep (x.upd []) (by simp)⟩

theorem n_access (l : Loc) (x : Fl.Want) (own : Bool) (W : World) (hn : x.handle < 18446744073709551616) (hl : ∀ x, x ∈ l.all → x < W.heap.size) :
    Calls Try.prog 54 #[.agg #[.int .i64 x.kind, .int .u64 (x.handle : Nat), .int .i64 x.index, .int .i64 x.value, .int .i64 x.old], .bool own] W fun e w' => ∃ b, W.heap.size ≤ b ∧ e = .returned (.pointer (some ⟨b, 0, none⟩)) ∧ AccessAt w' l [b] b (Fl.Access.new x own) ∧ Ext W w' := by
  have hX := ((Ext.refl W).alloc (.cells #[.int .i64 x.kind, .int .u64 (x.handle : Nat), .int .i64 x.index, .int .i64 x.value, .int .i64 x.old] 74)).alloc (.cells #[.int .i64 x.kind, .int .u64 (x.handle : Nat), .int .i64 x.index, .int .i64 x.value, .int .i64 x.old, .bool own, .int .i64 0, .int .i64 0, .int .i64 0, .int .u64 0, .int .u64 0, .int .i64 0, .int .i64 0, .int .i64 0, .pointer none, .int .i64 0, .int .u64 0, .int .i64 0, .int .i64 0] 135)
  have hB := heap_new (W.alloc (.cells #[.int .i64 x.kind, .int .u64 (x.handle : Nat), .int .i64 x.index, .int .i64 x.value, .int .i64 x.old] 74)) (.cells #[.int .i64 x.kind, .int .u64 (x.handle : Nat), .int .i64 x.index, .int .i64 x.value, .int .i64 x.old, .bool own, .int .i64 0, .int .i64 0, .int .i64 0, .int .u64 0, .int .u64 0, .int .i64 0, .int .i64 0, .int .i64 0, .pointer none, .int .i64 0, .int .u64 0, .int .i64 0, .int .i64 0] 135)
  have z1 : (W.alloc (.cells #[.int .i64 x.kind, .int .u64 (x.handle : Nat), .int .i64 x.index, .int .i64 x.value, .int .i64 x.old] 74)).heap.size = W.heap.size + 1 := by simp
  rw [z1] at hB
  go_enter Try.func54, Try.ntmps54
  go_wp2
  go_ret
  refine ⟨W.heap.size + 1, by omega, rfl, ⟨⟨.pointer none, hB, fun q => by simp [Fl.Access.new] at q⟩, by simp, ?_, ?_, hn, by simp [Fl.Access.new], by simp [Fl.Access.new], by simp [Fl.Access.new], by simp [Fl.Access.new], by simp [Fl.Access.new], by simp [Fl.Access.new]⟩, hX⟩
  · intro y hy; rw [List.mem_singleton.1 hy]; intro hm; have := hl _ hm; omega
  · intro y hy; rw [List.mem_singleton.1 hy]; exact lt_of_heap hB

theorem x_done (l : Loc) (F : List Nat) (b : Nat) (a : Fl.Access) (W : World) (ha : AccessAt W l F b a) :
    Calls Try.prog 56 #[.pointer (some ⟨b, 0, none⟩)] W fun e w' => e = .returned (.agg #[.int .i64 a.out.e, .int .u64 (a.out.handle : Nat), .int .i64 a.out.value, .int .i64 a.out.stamp]) ∧ Ext W w' := by
  obtain ⟨⟨H, hB, hH⟩, hbF, hout, hFl, hn, hw, hcl, hsl, hgn, hsz, hpc⟩ := ha
  have hbl := lt_of_heap hB
  have c0 := fun w' o (k : Ext W w') => k.cellOf hB o
  have hX := (Ext.refl W).alloc (.cells #[.int .i64 0, .int .u64 0, .int .i64 0, .int .i64 0] 34)
  clear hB hH
  go_enter Try.func56, Try.ntmps56
  go_wp2
  refine bodyPost_ret (v := .agg #[.int .i64 a.out.e, .int .u64 (a.out.handle : Nat), .int .i64 a.out.value, .int .i64 a.out.stamp]) ?_ rfl ⟨rfl, ?_⟩
  · simp [results, Try.results56, go_sem]
  · exact (Ext.refl _).alloc _

theorem x_done_nil (W : World) :
    Calls Try.prog 56 #[.pointer none] W fun e w' => e = .returned (.agg #[.int .i64 1, .int .u64 0, .int .i64 0, .int .i64 0]) ∧ Ext W w' := by
  go_enter Try.func56, Try.ntmps56
  go_wp2
  refine bodyPost_ret (v := .agg #[.int .i64 1, .int .u64 0, .int .i64 0, .int .i64 0]) ?_ rfl ⟨rfl, ?_⟩
  · simp [results, Try.results56, go_sem]
  · exact (Ext.refl _).alloc _

theorem x_end (l : Loc) (F : List Nat) (b : Nat) (a : Fl.Access) (ev v s : Int) (W : World) (ha : AccessAt W l F b a) :
    Calls Try.prog 91 #[.pointer (some ⟨b, 0, none⟩), .int .i64 ev, .int .i64 v, .int .i64 s] W fun e w' => e = .returned (.bool true) ∧ AccessAt w' l F b { a with out := ⟨ev, 0, v, s⟩ } ∧ Upd [b] W w' := by
  obtain ⟨⟨H, hB, hH⟩, hbF, hout, hFl, hn, hw, hcl, hsl, hgn, hsz, hpc⟩ := ha
  have HB1 := Lib.hid hB
  have HPG := Lib.hid hH
  clear hB hH
  have c_HB1_W := fun w' o (k : Ext W w') => k.cellOf HB1.out o
  have f_HB1_W := fun w' o (k : Ext W w') => frozen_of (k.keep HB1.out) o
  have r_HB1_W := Ext.refl W
  go_enter Try.func91, Try.ntmps91
  go_wp2
  go_ret
  refine ⟨rfl, ⟨⟨H, (heap_set (heap_set (heap_set (heap_set HB1.out _ _) _ _) _ _) _ _).trans (by simp), fun q => ?_⟩, hbF, hout, fun x hx => ?_, hn, hw, hcl, hsl, hgn, hsz, hpc⟩, ((((((Upd.refl [b] _)).set1 _ _).set1 _ _).set1 _ _).set1 _ _)⟩
  · obtain ⟨p, h1, h2, h3, h4⟩ := HPG.out q
    exact ⟨p, h1, h2, h3, h4.keep ((((((Upd.refl [b] _)).set1 _ _).set1 _ _).set1 _ _).set1 _ _) (by simpa using h2)⟩
  · have := hFl x hx; simp; omega

theorem x_at (l : Loc) (F : List Nat) (b : Nat) (a : Fl.Access) (W : World) (ha : AccessAt W l F b a) (hi : 0 ≤ a.x.index ∧ a.x.index ≤ 65535) :
    Calls Try.prog 92 #[.pointer (some ⟨b, 0, none⟩)] W fun e w' => e = .returned (.int .i64 a.at_) ∧ Ext W w' := by
  obtain ⟨⟨H, hB, hH⟩, hbF, hout, hFl, hn, hw, hcl, hsl, hgn, hsz, hpc⟩ := ha
  have HB1 := Lib.hid hB
  clear hB hH hpc
  have hsr := Fl.slotOf_range a.w
  have w1 : IntKind.i64.wrap ((Fl.slotOf a.w).addr + 1) = (Fl.slotOf a.w).addr + 1 := IntWalk.i64_in _ (by omega)
  have w2 : IntKind.i64.wrap ((Fl.slotOf a.w).addr + 1 + a.x.index) = (Fl.slotOf a.w).addr + 1 + a.x.index := IntWalk.i64_in _ (by omega)
  have fld := field_slot1
  have c_HB1_W := fun w' o (k : Ext W w') => k.cellOf HB1.out o
  have f_HB1_W := fun w' o (k : Ext W w') => frozen_of (k.keep HB1.out) o
  have r_HB1_W := Ext.refl W
  go_enter Try.func92, Try.ntmps92
  go_wp2_with fail
  refine wp_region_plan (Ext W) [] [0, 1, 2, 3, 4, 5, 6, 7, 8, 9, 10, 11, 12] 13 [] Try.mixed (by kernel_rfl) (by intro c a d v w h; cases d <;> exact h) (Ext.refl _).drew ?_
  simp only [opsAt, List.filterMap_cons, List.filterMap_nil, List.getElem?_toArray, List.getElem?_cons_zero, List.getElem?_cons_succ]
  refine Firsts.nil ?_
  (refine Heads.val (v := ?_) rfl (fun wv hwv => ?_) ?_; rotate_left; (go_simp; with_reducible rfl); simp only [Act.put, List.setIfInBounds_toArray, List.set_cons_zero, List.set_cons_succ])
  (refine Heads.val (v := ?_) rfl (fun wv hwv => ?_) ?_; rotate_left; (go_simp; with_reducible rfl); simp only [Act.put, List.setIfInBounds_toArray, List.set_cons_zero, List.set_cons_succ])
  (refine Heads.val (v := ?_) rfl (fun wv hwv => ?_) ?_; rotate_left; (go_simp; with_reducible rfl); simp only [Act.put, List.setIfInBounds_toArray, List.set_cons_zero, List.set_cons_succ])
  (refine Heads.val (v := ?_) rfl (fun wv hwv => ?_) ?_; rotate_left; (go_simp; with_reducible rfl); simp only [Act.put, List.setIfInBounds_toArray, List.set_cons_zero, List.set_cons_succ])
  (refine Heads.call (v := ?_) rfl (fun wv hwv => ?_) ?_; rotate_left; (go_simp; simp only [GivesUpon.enter]; refine (c_slot _ _ hw).mono ?_; rintro e w' ⟨rfl, hh⟩; refine ⟨?_, hwv.trans hh⟩; with_reducible rfl); simp only [Act.put, List.setIfInBounds_toArray, List.set_cons_zero, List.set_cons_succ])
  (refine Heads.val (v := ?_) rfl (fun wv hwv => ?_) ?_; rotate_left; (go_simp; with_reducible rfl); simp only [Act.put, List.setIfInBounds_toArray, List.set_cons_zero, List.set_cons_succ])
  (refine Heads.val (v := ?_) rfl (fun wv hwv => ?_) ?_; rotate_left; (go_simp; with_reducible rfl); simp only [Act.put, List.setIfInBounds_toArray, List.set_cons_zero, List.set_cons_succ])
  (refine Heads.val (v := ?_) rfl (fun wv hwv => ?_) ?_; rotate_left; (go_simp; with_reducible rfl); simp only [Act.put, List.setIfInBounds_toArray, List.set_cons_zero, List.set_cons_succ])
  (refine Heads.val (v := ?_) rfl (fun wv hwv => ?_) ?_; rotate_left; (go_simp; with_reducible rfl); simp only [Act.put, List.setIfInBounds_toArray, List.set_cons_zero, List.set_cons_succ])
  (refine Heads.val (v := ?_) rfl (fun wv hwv => ?_) ?_; rotate_left; (go_simp; with_reducible rfl); simp only [Act.put, List.setIfInBounds_toArray, List.set_cons_zero, List.set_cons_succ])
  (refine Heads.val (v := ?_) rfl (fun wv hwv => ?_) ?_; rotate_left; (go_simp; with_reducible rfl); simp only [Act.put, List.setIfInBounds_toArray, List.set_cons_zero, List.set_cons_succ])
  (refine Heads.val (v := ?_) rfl (fun wv hwv => ?_) ?_; rotate_left; (go_simp; with_reducible rfl); simp only [Act.put, List.setIfInBounds_toArray, List.set_cons_zero, List.set_cons_succ])
  (refine Heads.val (v := ?_) rfl (fun wv hwv => ?_) ?_; rotate_left; (go_simp; with_reducible rfl); simp only [Act.put, List.setIfInBounds_toArray, List.set_cons_zero, List.set_cons_succ])
  refine Heads.nil ?_
  intro w2 hw2
  go_wp2
  go_ret
  exact ⟨rfl, hw2⟩

end Go.Proofs.Ythblhgappldcjaa
