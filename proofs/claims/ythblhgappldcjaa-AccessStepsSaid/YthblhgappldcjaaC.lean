/- What the functions of word and layout answer: they only reckon. -/
import Derived.Test.YthblhgappldcjaaB
import Derived.Lib.Hide
namespace Go.Proofs.Ythblhgappldcjaa
open Go Go.RowKit

theorem c_fit (n m : Int) (w : World) (hm : 0 ≤ m ∧ m ≤ 9223372036854775807) :
    Calls Try.prog 88 #[.int .i64 n, .int .i64 m] w fun e w' => e = .returned (.int .u64 (Fl.fit n m : Nat)) ∧ Ext w w' := by
  go_enter Try.func88, Try.ntmps88
  go_wp2
  all_goals
    go_ret
    refine ⟨ret_int ?_, Ext.refl _⟩
    unfold Fl.fit
    first
      | omega
      | (split at * <;> omega)


set_option maxHeartbeats 400000 in
theorem c_slot (n : Nat) (w : World) (hn : n < 18446744073709551616) :
    Calls Try.prog 39 #[.int .u64 n] w fun e w' => e = .returned (.agg #[.int .i64 (Fl.slotOf n).state, .int .i64 (Fl.slotOf n).addr, .int .i64 (Fl.slotOf n).gen, .int .i64 (Fl.slotOf n).ver]) ∧ Ext w w' := by
  have m0 := and7 n hn
  have b0 : (((n % 8 : Nat) : Int)) ≤ 7 := by omega
  have m1 : bits .and .u64 ((n : Int) / 8) 1048575 = ((n / 8 % 1048576 : Nat) : Int) := by
    have e : ((n : Int) / 8) = ((n / 8 : Nat) : Int) := by omega
    rw [e]; exact and1048575 _ (by omega)
  have b1 : (((n / 8 % 1048576 : Nat) : Int)) ≤ 1048575 := by omega
  have m2 : bits .and .u64 ((n : Int) / 8388608) 65535 = ((n / 8388608 % 65536 : Nat) : Int) := by
    have e : ((n : Int) / 8388608) = ((n / 8388608 : Nat) : Int) := by omega
    rw [e]; exact and65535 _ (by omega)
  have b2 : (((n / 8388608 % 65536 : Nat) : Int)) ≤ 65535 := by omega
  have m3 : bits .and .u64 ((n : Int) / 549755813888) 4194303 = ((n / 549755813888 % 4194304 : Nat) : Int) := by
    have e : ((n : Int) / 549755813888) = ((n / 549755813888 : Nat) : Int) := by omega
    rw [e]; exact and4194303 _ (by omega)
  have b3 : (((n / 549755813888 % 4194304 : Nat) : Int)) ≤ 4194303 := by omega
  go_enter Try.func39, Try.ntmps39
  go_wp2
  all_goals
    refine bodyPost_ret (v := .agg #[.int .i64 (Fl.slotOf n).state, .int .i64 (Fl.slotOf n).addr, .int .i64 (Fl.slotOf n).gen, .int .i64 (Fl.slotOf n).ver]) ?_ rfl ⟨rfl, ?_⟩
    · simp [results, Try.results39, go_sem, Fl.slotOf]
    · exact (Ext.refl w).alloc _


set_option maxHeartbeats 400000 in
theorem c_chunk (n : Nat) (w : World) (hn : n < 18446744073709551616) :
    Calls Try.prog 70 #[.int .u64 n] w fun e w' => e = .returned (.agg #[.int .i64 (Fl.chunkOf n).state, .int .i64 (Fl.chunkOf n).cls, .int .i64 (Fl.chunkOf n).used, .int .i64 (Fl.chunkOf n).stamp]) ∧ Ext w w' := by
  have m0 := and3 n hn
  have b0 : (((n % 4 : Nat) : Int)) ≤ 3 := by omega
  have m1 : bits .and .u64 ((n : Int) / 4) 63 = ((n / 4 % 64 : Nat) : Int) := by
    have e : ((n : Int) / 4) = ((n / 4 : Nat) : Int) := by omega
    rw [e]; exact and63 _ (by omega)
  have b1 : (((n / 4 % 64 : Nat) : Int)) ≤ 63 := by omega
  have m2 : bits .and .u64 ((n : Int) / 256) 1048575 = ((n / 256 % 1048576 : Nat) : Int) := by
    have e : ((n : Int) / 256) = ((n / 256 : Nat) : Int) := by omega
    rw [e]; exact and1048575 _ (by omega)
  have b2 : (((n / 256 % 1048576 : Nat) : Int)) ≤ 1048575 := by omega
  have m3 : bits .and .u64 ((n : Int) / 268435456) 68719476735 = ((n / 268435456 % 68719476736 : Nat) : Int) := by
    have e : ((n : Int) / 268435456) = ((n / 268435456 : Nat) : Int) := by omega
    rw [e]; exact and68719476735 _ (by omega)
  have b3 : (((n / 268435456 % 68719476736 : Nat) : Int)) ≤ 68719476735 := by omega
  go_enter Try.func70, Try.ntmps70
  go_wp2
  all_goals
    refine bodyPost_ret (v := .agg #[.int .i64 (Fl.chunkOf n).state, .int .i64 (Fl.chunkOf n).cls, .int .i64 (Fl.chunkOf n).used, .int .i64 (Fl.chunkOf n).stamp]) ?_ rfl ⟨rfl, ?_⟩
    · simp [results, Try.results70, go_sem, Fl.chunkOf]
    · exact (Ext.refl w).alloc _


set_option maxHeartbeats 400000 in
theorem c_head (n : Nat) (w : World) (hn : n < 18446744073709551616) :
    Calls Try.prog 73 #[.int .u64 n] w fun e w' => e = .returned (.agg #[.int .i64 (Fl.headOf n).kind, .int .i64 (Fl.headOf n).size, .int .i64 (Fl.headOf n).slot, .int .i64 (Fl.headOf n).gen, .bool (Fl.headOf n).own]) ∧ Ext w w' := by
  have m0 := and3 n hn
  have b0 : (((n % 4 : Nat) : Int)) ≤ 3 := by omega
  have m1 : bits .and .u64 ((n : Int) / 4) 65535 = ((n / 4 % 65536 : Nat) : Int) := by
    have e : ((n : Int) / 4) = ((n / 4 : Nat) : Int) := by omega
    rw [e]; exact and65535 _ (by omega)
  have b1 : (((n / 4 % 65536 : Nat) : Int)) ≤ 65535 := by omega
  have m2 : bits .and .u64 ((n : Int) / 262144) 65535 = ((n / 262144 % 65536 : Nat) : Int) := by
    have e : ((n : Int) / 262144) = ((n / 262144 : Nat) : Int) := by omega
    rw [e]; exact and65535 _ (by omega)
  have b2 : (((n / 262144 % 65536 : Nat) : Int)) ≤ 65535 := by omega
  have m3 : bits .and .u64 ((n : Int) / 17179869184) 65535 = ((n / 17179869184 % 65536 : Nat) : Int) := by
    have e : ((n : Int) / 17179869184) = ((n / 17179869184 : Nat) : Int) := by omega
    rw [e]; exact and65535 _ (by omega)
  have b3 : (((n / 17179869184 % 65536 : Nat) : Int)) ≤ 65535 := by omega
  have m4 : bits .and .u64 ((n : Int) / 1125899906842624) 1 = ((n / 1125899906842624 % 2 : Nat) : Int) := by
    have e : ((n : Int) / 1125899906842624) = ((n / 1125899906842624 : Nat) : Int) := by omega
    rw [e]; exact and1 _ (by omega)
  have b4 : (((n / 1125899906842624 % 2 : Nat) : Int)) ≤ 1 := by omega
  go_enter Try.func73, Try.ntmps73
  go_wp2
  all_goals
    refine bodyPost_ret (v := .agg #[.int .i64 (Fl.headOf n).kind, .int .i64 (Fl.headOf n).size, .int .i64 (Fl.headOf n).slot, .int .i64 (Fl.headOf n).gen, .bool (Fl.headOf n).own]) ?_ rfl ⟨rfl, ?_⟩
    · simp [results, Try.results73, go_sem, Fl.headOf]
      rw [Bool.eq_iff_iff, beq_iff_eq, decide_eq_true_eq]; omega
    · exact (Ext.refl w).alloc _


theorem dec_top (n : Nat) : decide (n / 9223372036854775808 = 1) = ((((n / 9223372036854775808 : Nat) : Int)) == 1) := by
  by_cases h : n / 9223372036854775808 = 1
  · rw [decide_eq_true h, h]; rfl
  · rw [decide_eq_false h]; symm; rw [beq_eq_false_iff_ne]; omega

set_option maxHeartbeats 400000 in
theorem c_cell (n : Nat) (w : World) (hn : n < 18446744073709551616) :
    Calls Try.prog 61 #[.int .u64 n] w fun e w' => e = .returned (.agg #[.int .i64 (Fl.cellOf n).value, .bool (Fl.cellOf n).frozen, .int .i64 (Fl.cellOf n).ver]) ∧ Ext w w' := by
  have m0 := and1099511627775 n hn
  have b0 : (((n % 1099511627776 : Nat) : Int)) ≤ 1099511627775 := by omega
  have m1 : bits .and .u64 ((n : Int) / 1099511627776) 4194303 = ((n / 1099511627776 % 4194304 : Nat) : Int) := by
    have e : ((n : Int) / 1099511627776) = ((n / 1099511627776 : Nat) : Int) := by omega
    rw [e]; exact and4194303 _ (by omega)
  have b1 : (((n / 1099511627776 % 4194304 : Nat) : Int)) ≤ 4194303 := by omega
  by_cases hf : n / 9223372036854775808 = 1
  · have ht : ((n : Int) / 9223372036854775808 == 1) = true := by rw [beq_iff_eq]; omega
    have v1 : (Fl.cellOf n).value = ((n % 1099511627776 : Nat) : Int) := rfl
    have v2 : (Fl.cellOf n).frozen = true := by simp only [Fl.cellOf, hf, decide_true]
    have v3 : (Fl.cellOf n).ver = ((n / 1099511627776 % 4194304 : Nat) : Int) := by simp only [Fl.cellOf, hf, if_true]
    rw [v1, v2, v3]
    clear v1 v2 v3 hf
    go_enter Try.func61, Try.ntmps61
    go_wp2
    all_goals
      refine bodyPost_ret (v := .agg #[.int .i64 ((n % 1099511627776 : Nat) : Int), .bool true, .int .i64 ((n / 1099511627776 % 4194304 : Nat) : Int)]) ?_ rfl ⟨rfl, ?_⟩
      · simp [results, Try.results61, go_sem]
      · exact ((Ext.refl w).alloc _).alloc _
  · have ht : ((n : Int) / 9223372036854775808 == 1) = false := by rw [beq_eq_false_iff_ne]; omega
    have v1 : (Fl.cellOf n).value = ((n % 1099511627776 : Nat) : Int) := rfl
    have v2 : (Fl.cellOf n).frozen = false := by simp only [Fl.cellOf, hf, decide_false]
    have v3 : (Fl.cellOf n).ver = 0 := by simp only [Fl.cellOf, hf, if_false]
    rw [v1, v2, v3]
    clear v1 v2 v3 hf
    go_enter Try.func61, Try.ntmps61
    go_wp2
    all_goals
      refine bodyPost_ret (v := .agg #[.int .i64 ((n % 1099511627776 : Nat) : Int), .bool false, .int .i64 0]) ?_ rfl ⟨rfl, ?_⟩
      · simp [results, Try.results61, go_sem]
      · exact ((Ext.refl w).alloc _).alloc _

set_option maxHeartbeats 400000 in
theorem c_topOf (n : Nat) (w : World) (hn : n < 18446744073709551616) :
    Calls Try.prog 42 #[.int .u64 n] w fun e w' => e = .returned (.tuple #[.int .i64 (Fl.topOf n).1, .int .i64 (Fl.topOf n).2]) ∧ Ext w w' := by
  have m0 := and131071 n hn
  have b0 : (((n % 131072 : Nat) : Int)) ≤ 131071 := by omega
  have m1 : bits .and .u64 ((n : Int) / 131072) 68719476735 = ((n / 131072 % 68719476736 : Nat) : Int) := by
    have e : ((n : Int) / 131072) = ((n / 131072 : Nat) : Int) := by omega
    rw [e]; exact and68719476735 _ (by omega)
  have b1 : (((n / 131072 % 68719476736 : Nat) : Int)) ≤ 68719476735 := by omega
  go_enter Try.func42, Try.ntmps42
  go_wp2
  all_goals
    go_ret2
    exact ⟨rfl, Ext.refl _⟩

set_option maxHeartbeats 400000 in
theorem c_handle (n : Nat) (w : World) (hn : n < 18446744073709551616) :
    Calls Try.prog 38 #[.int .u64 n] w fun e w' => e = .returned (.tuple #[.agg #[.int .i64 (Fl.handle n).1.slot, .int .i64 (Fl.handle n).1.gen], .bool (Fl.handle n).2]) ∧ Ext w w' := by
  have m0 := and65535 n hn
  by_cases h1 : n / 4294967296 = 0
  · have t1 : ((n : Int) / 4294967296 != 0) = false := by rw [bne_eq_false_iff_eq]; omega
    by_cases h2 : n / 65536 = 0
    · have t2 : ((n : Int) / 65536 == 0) = true := by rw [beq_iff_eq]; omega
      have hh : Fl.handle n = (⟨0, 0⟩, false) := by unfold Fl.handle; rw [if_pos (Or.inr h2)]
      rw [hh]
      clear hh h1 h2
      go_enter Try.func38, Try.ntmps38
      go_wp2
      all_goals
        refine bodyPost_ret (v := .tuple #[.agg #[.int .i64 0, .int .i64 0], .bool false]) ?_ rfl ⟨rfl, ?_⟩
        · simp [results, Try.results38, go_sem]
        · exact (Ext.refl w).alloc _
    · have t2 : ((n : Int) / 65536 == 0) = false := by rw [beq_eq_false_iff_ne]; omega
      have hb : ((n : Int) / 65536) ≤ 4294967295 := by omega
      have hh : Fl.handle n = (⟨(n % 65536 : Nat), (n / 65536 : Nat)⟩, true) := by unfold Fl.handle; rw [if_neg (by omega)]
      rw [hh]
      clear hh h1 h2
      go_enter Try.func38, Try.ntmps38
      go_wp2
      all_goals
        refine bodyPost_ret (v := .tuple #[.agg #[.int .i64 ((n % 65536 : Nat) : Int), .int .i64 ((n / 65536 : Nat) : Int)], .bool true]) ?_ rfl ⟨rfl, ?_⟩
        · simp [results, Try.results38, go_sem]
        · exact (Ext.refl w).alloc _
  · have t1 : ((n : Int) / 4294967296 != 0) = true := by rw [bne_iff_ne]; omega
    have hh : Fl.handle n = (⟨0, 0⟩, false) := by unfold Fl.handle; rw [if_pos (Or.inl h1)]
    rw [hh]
    clear hh h1
    go_enter Try.func38, Try.ntmps38
    go_wp2
    all_goals
      refine bodyPost_ret (v := .tuple #[.agg #[.int .i64 0, .int .i64 0], .bool false]) ?_ rfl ⟨rfl, ?_⟩
      · simp [results, Try.results38, go_sem]
      · exact (Ext.refl w).alloc _

set_option maxHeartbeats 400000 in
theorem c_putSlot (a b c d : Int) (w : World) :
    Calls Try.prog 46 #[.agg #[.int .i64 a, .int .i64 b, .int .i64 c, .int .i64 d]] w fun e w' => e = .returned (.int .u64 (Fl.putSlot ⟨a, b, c, d⟩ : Nat)) ∧ Ext w w' := by
  go_enter Try.func46, Try.ntmps46
  go_wp2_with fail
  have hE := heap_new w (.cells #[.int .i64 a, .int .i64 b, .int .i64 c, .int .i64 d] 44)
  have hX := (Ext.refl w).alloc (.cells #[.int .i64 a, .int .i64 b, .int .i64 c, .int .i64 d] 44)
  generalize w.alloc (.cells #[.int .i64 a, .int .i64 b, .int .i64 c, .int .i64 d] 44) = w1 at *
  have hx := fun w' o (h : Ext w1 w') => h.cellOf hE o
  refine wp_region_plan (Ext w1) [] [0, 1, 2, 3, 4, 5, 6, 7, 8, 9, 10, 11, 12, 13, 14, 15, 16, 17] 18 [] Try.mixed (by kernel_rfl) (by intro c a d v w h; cases d <;> exact h) (Ext.refl _).drew ?_
  simp only [opsAt, List.filterMap_cons, List.filterMap_nil, List.getElem?_toArray, List.getElem?_cons_zero, List.getElem?_cons_succ]
  refine Firsts.nil ?_
  (refine Heads.val (v := ?_) rfl (fun wv hwv => ?_) ?_; rotate_left; (go_simp; with_reducible rfl); simp only [Act.put, List.setIfInBounds_toArray, List.set_cons_zero, List.set_cons_succ])
  (refine Heads.val (v := ?_) rfl (fun wv hwv => ?_) ?_; rotate_left; (go_simp; with_reducible rfl); simp only [Act.put, List.setIfInBounds_toArray, List.set_cons_zero, List.set_cons_succ])
  (refine Heads.call (v := ?_) rfl (fun wv hwv => ?_) ?_; rotate_left; (go_simp; simp only [GivesUpon.enter]; refine (c_fit _ _ _ (by decide)).mono ?_; rintro e w' ⟨rfl, hh⟩; refine ⟨?_, hwv.trans hh⟩; with_reducible rfl); simp only [Act.put, List.setIfInBounds_toArray, List.set_cons_zero, List.set_cons_succ])
  (refine Heads.val (v := ?_) rfl (fun wv hwv => ?_) ?_; rotate_left; (go_simp; with_reducible rfl); simp only [Act.put, List.setIfInBounds_toArray, List.set_cons_zero, List.set_cons_succ])
  (refine Heads.val (v := ?_) rfl (fun wv hwv => ?_) ?_; rotate_left; (go_simp; with_reducible rfl); simp only [Act.put, List.setIfInBounds_toArray, List.set_cons_zero, List.set_cons_succ])
  (refine Heads.call (v := ?_) rfl (fun wv hwv => ?_) ?_; rotate_left; (go_simp; simp only [GivesUpon.enter]; refine (c_fit _ _ _ (by decide)).mono ?_; rintro e w' ⟨rfl, hh⟩; refine ⟨?_, hwv.trans hh⟩; with_reducible rfl); simp only [Act.put, List.setIfInBounds_toArray, List.set_cons_zero, List.set_cons_succ])
  (refine Heads.val (v := ?_) rfl (fun wv hwv => ?_) ?_; rotate_left; (go_simp; with_reducible rfl); simp only [Act.put, List.setIfInBounds_toArray, List.set_cons_zero, List.set_cons_succ])
  (refine Heads.val (v := ?_) rfl (fun wv hwv => ?_) ?_; rotate_left; (go_simp; with_reducible rfl); simp only [Act.put, List.setIfInBounds_toArray, List.set_cons_zero, List.set_cons_succ])
  (refine Heads.val (v := ?_) rfl (fun wv hwv => ?_) ?_; rotate_left; (go_simp; with_reducible rfl); simp only [Act.put, List.setIfInBounds_toArray, List.set_cons_zero, List.set_cons_succ])
  (refine Heads.val (v := ?_) rfl (fun wv hwv => ?_) ?_; rotate_left; (go_simp; with_reducible rfl); simp only [Act.put, List.setIfInBounds_toArray, List.set_cons_zero, List.set_cons_succ])
  (refine Heads.call (v := ?_) rfl (fun wv hwv => ?_) ?_; rotate_left; (go_simp; simp only [GivesUpon.enter]; refine (c_fit _ _ _ (by decide)).mono ?_; rintro e w' ⟨rfl, hh⟩; refine ⟨?_, hwv.trans hh⟩; with_reducible rfl); simp only [Act.put, List.setIfInBounds_toArray, List.set_cons_zero, List.set_cons_succ])
  (refine Heads.val (v := ?_) rfl (fun wv hwv => ?_) ?_; rotate_left; (go_simp; with_reducible rfl); simp only [Act.put, List.setIfInBounds_toArray, List.set_cons_zero, List.set_cons_succ])
  (refine Heads.val (v := ?_) rfl (fun wv hwv => ?_) ?_; rotate_left; (go_simp; with_reducible rfl); simp only [Act.put, List.setIfInBounds_toArray, List.set_cons_zero, List.set_cons_succ])
  (refine Heads.val (v := ?_) rfl (fun wv hwv => ?_) ?_; rotate_left; (go_simp; with_reducible rfl); simp only [Act.put, List.setIfInBounds_toArray, List.set_cons_zero, List.set_cons_succ])
  (refine Heads.val (v := ?_) rfl (fun wv hwv => ?_) ?_; rotate_left; (go_simp; with_reducible rfl); simp only [Act.put, List.setIfInBounds_toArray, List.set_cons_zero, List.set_cons_succ])
  (refine Heads.call (v := ?_) rfl (fun wv hwv => ?_) ?_; rotate_left; (go_simp; simp only [GivesUpon.enter]; refine (c_fit _ _ _ (by decide)).mono ?_; rintro e w' ⟨rfl, hh⟩; refine ⟨?_, hwv.trans hh⟩; with_reducible rfl); simp only [Act.put, List.setIfInBounds_toArray, List.set_cons_zero, List.set_cons_succ])
  (refine Heads.val (v := ?_) rfl (fun wv hwv => ?_) ?_; rotate_left; (go_simp; with_reducible rfl); simp only [Act.put, List.setIfInBounds_toArray, List.set_cons_zero, List.set_cons_succ])
  (refine Heads.val (v := ?_) rfl (fun wv hwv => ?_) ?_; rotate_left; (go_simp; with_reducible rfl); simp only [Act.put, List.setIfInBounds_toArray, List.set_cons_zero, List.set_cons_succ])
  refine Heads.nil ?_
  intro w2 hw2
  go_wp2
  go_ret
  refine ⟨ret_int ?_, hX.trans hw2⟩
  have f1 := Fl.fit_le a 7 (by decide)
  have f2 := Fl.fit_le b 1048575 (by decide)
  have f3 := Fl.fit_le c 65535 (by decide)
  have f4 := Fl.fit_le d 4194303 (by decide)
  rw [or_next 3 _ _ 8 (by decide) (by omega) (by omega) (by omega), or_next 23 _ _ 8388608 (by decide) (by omega) (by omega) (by omega), or_next 39 _ _ 549755813888 (by decide) (by omega) (by omega) (by omega)]
  simp only [Fl.putSlot]

set_option maxHeartbeats 400000 in
theorem c_putChunk (a b c d : Int) (w : World) :
    Calls Try.prog 71 #[.agg #[.int .i64 a, .int .i64 b, .int .i64 c, .int .i64 d]] w fun e w' => e = .returned (.int .u64 (Fl.putChunk ⟨a, b, c, d⟩ : Nat)) ∧ Ext w w' := by
  go_enter Try.func71, Try.ntmps71
  go_wp2_with fail
  have hE := heap_new w (.cells #[.int .i64 a, .int .i64 b, .int .i64 c, .int .i64 d] 107)
  have hX := (Ext.refl w).alloc (.cells #[.int .i64 a, .int .i64 b, .int .i64 c, .int .i64 d] 107)
  generalize w.alloc (.cells #[.int .i64 a, .int .i64 b, .int .i64 c, .int .i64 d] 107) = w1 at *
  have hx := fun w' o (h : Ext w1 w') => h.cellOf hE o
  refine wp_region_plan (Ext w1) [] [0, 1, 2, 3, 4, 5, 6, 7, 8, 9, 10, 11, 12, 13, 14, 15, 16, 17] 18 [] Try.mixed (by kernel_rfl) (by intro c a d v w h; cases d <;> exact h) (Ext.refl _).drew ?_
  simp only [opsAt, List.filterMap_cons, List.filterMap_nil, List.getElem?_toArray, List.getElem?_cons_zero, List.getElem?_cons_succ]
  refine Firsts.nil ?_
  (refine Heads.val (v := ?_) rfl (fun wv hwv => ?_) ?_; rotate_left; (go_simp; with_reducible rfl); simp only [Act.put, List.setIfInBounds_toArray, List.set_cons_zero, List.set_cons_succ])
  (refine Heads.val (v := ?_) rfl (fun wv hwv => ?_) ?_; rotate_left; (go_simp; with_reducible rfl); simp only [Act.put, List.setIfInBounds_toArray, List.set_cons_zero, List.set_cons_succ])
  (refine Heads.call (v := ?_) rfl (fun wv hwv => ?_) ?_; rotate_left; (go_simp; simp only [GivesUpon.enter]; refine (c_fit _ _ _ (by decide)).mono ?_; rintro e w' ⟨rfl, hh⟩; refine ⟨?_, hwv.trans hh⟩; with_reducible rfl); simp only [Act.put, List.setIfInBounds_toArray, List.set_cons_zero, List.set_cons_succ])
  (refine Heads.val (v := ?_) rfl (fun wv hwv => ?_) ?_; rotate_left; (go_simp; with_reducible rfl); simp only [Act.put, List.setIfInBounds_toArray, List.set_cons_zero, List.set_cons_succ])
  (refine Heads.val (v := ?_) rfl (fun wv hwv => ?_) ?_; rotate_left; (go_simp; with_reducible rfl); simp only [Act.put, List.setIfInBounds_toArray, List.set_cons_zero, List.set_cons_succ])
  (refine Heads.call (v := ?_) rfl (fun wv hwv => ?_) ?_; rotate_left; (go_simp; simp only [GivesUpon.enter]; refine (c_fit _ _ _ (by decide)).mono ?_; rintro e w' ⟨rfl, hh⟩; refine ⟨?_, hwv.trans hh⟩; with_reducible rfl); simp only [Act.put, List.setIfInBounds_toArray, List.set_cons_zero, List.set_cons_succ])
  (refine Heads.val (v := ?_) rfl (fun wv hwv => ?_) ?_; rotate_left; (go_simp; with_reducible rfl); simp only [Act.put, List.setIfInBounds_toArray, List.set_cons_zero, List.set_cons_succ])
  (refine Heads.val (v := ?_) rfl (fun wv hwv => ?_) ?_; rotate_left; (go_simp; with_reducible rfl); simp only [Act.put, List.setIfInBounds_toArray, List.set_cons_zero, List.set_cons_succ])
  (refine Heads.val (v := ?_) rfl (fun wv hwv => ?_) ?_; rotate_left; (go_simp; with_reducible rfl); simp only [Act.put, List.setIfInBounds_toArray, List.set_cons_zero, List.set_cons_succ])
  (refine Heads.val (v := ?_) rfl (fun wv hwv => ?_) ?_; rotate_left; (go_simp; with_reducible rfl); simp only [Act.put, List.setIfInBounds_toArray, List.set_cons_zero, List.set_cons_succ])
  (refine Heads.call (v := ?_) rfl (fun wv hwv => ?_) ?_; rotate_left; (go_simp; simp only [GivesUpon.enter]; refine (c_fit _ _ _ (by decide)).mono ?_; rintro e w' ⟨rfl, hh⟩; refine ⟨?_, hwv.trans hh⟩; with_reducible rfl); simp only [Act.put, List.setIfInBounds_toArray, List.set_cons_zero, List.set_cons_succ])
  (refine Heads.val (v := ?_) rfl (fun wv hwv => ?_) ?_; rotate_left; (go_simp; with_reducible rfl); simp only [Act.put, List.setIfInBounds_toArray, List.set_cons_zero, List.set_cons_succ])
  (refine Heads.val (v := ?_) rfl (fun wv hwv => ?_) ?_; rotate_left; (go_simp; with_reducible rfl); simp only [Act.put, List.setIfInBounds_toArray, List.set_cons_zero, List.set_cons_succ])
  (refine Heads.val (v := ?_) rfl (fun wv hwv => ?_) ?_; rotate_left; (go_simp; with_reducible rfl); simp only [Act.put, List.setIfInBounds_toArray, List.set_cons_zero, List.set_cons_succ])
  (refine Heads.val (v := ?_) rfl (fun wv hwv => ?_) ?_; rotate_left; (go_simp; with_reducible rfl); simp only [Act.put, List.setIfInBounds_toArray, List.set_cons_zero, List.set_cons_succ])
  (refine Heads.call (v := ?_) rfl (fun wv hwv => ?_) ?_; rotate_left; (go_simp; simp only [GivesUpon.enter]; refine (c_fit _ _ _ (by decide)).mono ?_; rintro e w' ⟨rfl, hh⟩; refine ⟨?_, hwv.trans hh⟩; with_reducible rfl); simp only [Act.put, List.setIfInBounds_toArray, List.set_cons_zero, List.set_cons_succ])
  (refine Heads.val (v := ?_) rfl (fun wv hwv => ?_) ?_; rotate_left; (go_simp; with_reducible rfl); simp only [Act.put, List.setIfInBounds_toArray, List.set_cons_zero, List.set_cons_succ])
  (refine Heads.val (v := ?_) rfl (fun wv hwv => ?_) ?_; rotate_left; (go_simp; with_reducible rfl); simp only [Act.put, List.setIfInBounds_toArray, List.set_cons_zero, List.set_cons_succ])
  refine Heads.nil ?_
  intro w2 hw2
  go_wp2
  go_ret
  refine ⟨ret_int ?_, hX.trans hw2⟩
  have f1 := Fl.fit_le a 3 (by decide)
  have f2 := Fl.fit_le b 63 (by decide)
  have f3 := Fl.fit_le c 1048575 (by decide)
  have f4 := Fl.fit_le d 68719476735 (by decide)
  rw [or_next 2 _ _ 4 (by decide) (by omega) (by omega) (by omega), or_next 8 _ _ 256 (by decide) (by omega) (by omega) (by omega), or_next 28 _ _ 268435456 (by decide) (by omega) (by omega) (by omega)]
  simp only [Fl.putChunk]

set_option maxHeartbeats 400000 in
theorem c_putHandle (a b : Int) (w : World) :
    Calls Try.prog 115 #[.agg #[.int .i64 a, .int .i64 b]] w fun e w' => e = .returned (.int .u64 (Fl.putHandle ⟨a, b⟩ : Nat)) ∧ Ext w w' := by
  go_enter Try.func115, Try.ntmps115
  go_wp2_with fail
  have hE := heap_new w (.cells #[.int .i64 a, .int .i64 b] 46)
  have hX := (Ext.refl w).alloc (.cells #[.int .i64 a, .int .i64 b] 46)
  generalize w.alloc (.cells #[.int .i64 a, .int .i64 b] 46) = w1 at *
  have hx := fun w' o (h : Ext w1 w') => h.cellOf hE o
  refine wp_region_plan (Ext w1) [] [0, 1, 2, 3, 4, 5, 6, 7] 8 [] Try.mixed (by kernel_rfl) (by intro c a d v w h; cases d <;> exact h) (Ext.refl _).drew ?_
  simp only [opsAt, List.filterMap_cons, List.filterMap_nil, List.getElem?_toArray, List.getElem?_cons_zero, List.getElem?_cons_succ]
  refine Firsts.nil ?_
  (refine Heads.val (v := ?_) rfl (fun wv hwv => ?_) ?_; rotate_left; (go_simp; with_reducible rfl); simp only [Act.put, List.setIfInBounds_toArray, List.set_cons_zero, List.set_cons_succ])
  (refine Heads.val (v := ?_) rfl (fun wv hwv => ?_) ?_; rotate_left; (go_simp; with_reducible rfl); simp only [Act.put, List.setIfInBounds_toArray, List.set_cons_zero, List.set_cons_succ])
  (refine Heads.call (v := ?_) rfl (fun wv hwv => ?_) ?_; rotate_left; (go_simp; simp only [GivesUpon.enter]; refine (c_fit _ _ _ (by decide)).mono ?_; rintro e w' ⟨rfl, hh⟩; refine ⟨?_, hwv.trans hh⟩; with_reducible rfl); simp only [Act.put, List.setIfInBounds_toArray, List.set_cons_zero, List.set_cons_succ])
  (refine Heads.val (v := ?_) rfl (fun wv hwv => ?_) ?_; rotate_left; (go_simp; with_reducible rfl); simp only [Act.put, List.setIfInBounds_toArray, List.set_cons_zero, List.set_cons_succ])
  (refine Heads.val (v := ?_) rfl (fun wv hwv => ?_) ?_; rotate_left; (go_simp; with_reducible rfl); simp only [Act.put, List.setIfInBounds_toArray, List.set_cons_zero, List.set_cons_succ])
  (refine Heads.call (v := ?_) rfl (fun wv hwv => ?_) ?_; rotate_left; (go_simp; simp only [GivesUpon.enter]; refine (c_fit _ _ _ (by decide)).mono ?_; rintro e w' ⟨rfl, hh⟩; refine ⟨?_, hwv.trans hh⟩; with_reducible rfl); simp only [Act.put, List.setIfInBounds_toArray, List.set_cons_zero, List.set_cons_succ])
  (refine Heads.val (v := ?_) rfl (fun wv hwv => ?_) ?_; rotate_left; (go_simp; with_reducible rfl); simp only [Act.put, List.setIfInBounds_toArray, List.set_cons_zero, List.set_cons_succ])
  (refine Heads.val (v := ?_) rfl (fun wv hwv => ?_) ?_; rotate_left; (go_simp; with_reducible rfl); simp only [Act.put, List.setIfInBounds_toArray, List.set_cons_zero, List.set_cons_succ])
  refine Heads.nil ?_
  intro w2 hw2
  go_wp2
  go_ret
  refine ⟨ret_int ?_, hX.trans hw2⟩
  have f1 := Fl.fit_le a 65535 (by decide)
  have f2 := Fl.fit_le b 65535 (by decide)
  rw [or_next 16 _ _ 65536 (by decide) (by omega) (by omega) (by omega)]
  simp only [Fl.putHandle]

set_option maxHeartbeats 400000 in
theorem c_putTop (a b : Int) (w : World) (ha : -9223372036854775808 ≤ a) :
    Calls Try.prog 109 #[.int .i64 a, .int .i64 b] w fun e w' => e = .returned (.int .u64 (Fl.putTop a b : Nat)) ∧ Ext w w' := by
  have key : ∀ m : Int, -9223372036854775808 ≤ m → m ≤ 65535 → min a 65535 = m →
      bits .or .u64 (Fl.fit (m + 1) 65536 : Nat) (IntKind.u64.wrap ((Fl.fit b 68719476735 : Nat) * 131072)) = (Fl.putTop a b : Nat) := by
    intro m h0 h1 h2
    have f1 := Fl.fit_le (m + 1) 65536 (by decide)
    have f2 := Fl.fit_le b 68719476735 (by decide)
    rw [or_next 17 _ _ 131072 (by decide) (by omega) (by omega) (by omega), ← h2]
    simp only [Fl.putTop]
  have HK := Lib.hid key
  clear key
  by_cases h : a ≤ 65535
  · go_enter Try.func109, Try.ntmps109
    go_wp2_with fail
    refine (c_fit _ _ _ (by decide)).mono ?_
    rintro e w1 ⟨rfl, h1⟩
    go_wp2_with fail
    refine (c_fit _ _ _ (by decide)).mono ?_
    rintro e w2 ⟨rfl, h2⟩
    go_wp2
    go_ret
    exact ⟨ret_int (HK.out a ha h (by omega)), h1.trans h2⟩
  · go_enter Try.func109, Try.ntmps109
    go_wp2_with fail
    refine (c_fit _ _ _ (by decide)).mono ?_
    rintro e w1 ⟨rfl, h1⟩
    go_wp2_with fail
    refine (c_fit _ _ _ (by decide)).mono ?_
    rintro e w2 ⟨rfl, h2⟩
    go_wp2
    go_ret
    exact ⟨ret_int (HK.out 65535 (by decide) (by decide) (by omega)), h1.trans h2⟩

theorem putHead_own (a b c d : Int) (o : Bool) : Fl.putHead ⟨a, b, c, d, o⟩ = Fl.fit a 3 + Fl.fit b 65535 * 4 + Fl.fit c 65535 * 262144 + Fl.fit d 65535 * 17179869184 + (if o = true then 1125899906842624 else 0) := rfl

theorem head_sum (a b c d : Int) : bits .or .u64 (bits .or .u64 (bits .or .u64 (Fl.fit a 3 : Nat) (IntKind.u64.wrap ((Fl.fit b 65535 : Nat) * 4))) (IntKind.u64.wrap ((Fl.fit c 65535 : Nat) * 262144))) (IntKind.u64.wrap ((Fl.fit d 65535 : Nat) * 17179869184)) =
    ((Fl.putHead ⟨a, b, c, d, false⟩ : Nat) : Int) := by
  have f1 := Fl.fit_le a 3 (by decide)
  have f2 := Fl.fit_le b 65535 (by decide)
  have f3 := Fl.fit_le c 65535 (by decide)
  have f4 := Fl.fit_le d 65535 (by decide)
  rw [or_next 2 _ _ 4 (by decide) (by omega) (by omega) (by omega), or_next 18 _ _ 262144 (by decide) (by omega) (by omega) (by omega), or_next 34 _ _ 17179869184 (by decide) (by omega) (by omega) (by omega)]
  rw [putHead_own, if_neg (by decide), Nat.add_zero]

theorem or_bit50 (s : Nat) (hs : s < 2 ^ 50) (h2 : s < 18446744073709551616) : bits .or .u64 (s : Int) 1125899906842624 = ((s + 1125899906842624 : Nat) : Int) := by
  have h := or_sum 50 1125899906842624 s (by decide) hs (by decide) h2
  have e : ((1125899906842624 : Nat) : Int) = 1125899906842624 := rfl
  rw [e] at h
  exact h

theorem head_own (a b c d : Int) : bits .or .u64 ((Fl.putHead ⟨a, b, c, d, false⟩ : Nat) : Int) 1125899906842624 = ((Fl.putHead ⟨a, b, c, d, true⟩ : Nat) : Int) := by
  have f1 := Fl.fit_le a 3 (by decide)
  have f2 := Fl.fit_le b 65535 (by decide)
  have f3 := Fl.fit_le c 65535 (by decide)
  have f4 := Fl.fit_le d 65535 (by decide)
  rw [putHead_own, putHead_own, if_pos rfl, if_neg (by decide), Nat.add_zero]
  exact or_bit50 _ (by omega) (by omega)

set_option maxHeartbeats 400000 in
theorem c_putHead (a b c d : Int) (o : Bool) (w : World) :
    Calls Try.prog 124 #[.agg #[.int .i64 a, .int .i64 b, .int .i64 c, .int .i64 d, .bool o]] w fun e w' => e = .returned (.int .u64 (Fl.putHead ⟨a, b, c, d, o⟩ : Nat)) ∧ Ext w w' := by
  go_enter Try.func124, Try.ntmps124
  go_wp2_with fail
  have hE := heap_new w (.cells #[.int .i64 a, .int .i64 b, .int .i64 c, .int .i64 d, .bool o] 98)
  have hX := (Ext.refl w).alloc (.cells #[.int .i64 a, .int .i64 b, .int .i64 c, .int .i64 d, .bool o] 98)
  generalize w.alloc (.cells #[.int .i64 a, .int .i64 b, .int .i64 c, .int .i64 d, .bool o] 98) = w1 at *
  have hx := fun w' o (h : Ext w1 w') => h.cellOf hE o
  refine wp_region_plan (Ext w1) [] [0, 1, 2, 3, 4, 5, 6, 7, 8, 9, 10, 11, 12, 13, 14, 15, 16, 17] 18 [] Try.mixed (by kernel_rfl) (by intro c a d v w h; cases d <;> exact h) (Ext.refl _).drew ?_
  simp only [opsAt, List.filterMap_cons, List.filterMap_nil, List.getElem?_toArray, List.getElem?_cons_zero, List.getElem?_cons_succ]
  refine Firsts.nil ?_
  (refine Heads.val (v := ?_) rfl (fun wv hwv => ?_) ?_; rotate_left; (go_simp; with_reducible rfl); simp only [Act.put, List.setIfInBounds_toArray, List.set_cons_zero, List.set_cons_succ])
  (refine Heads.val (v := ?_) rfl (fun wv hwv => ?_) ?_; rotate_left; (go_simp; with_reducible rfl); simp only [Act.put, List.setIfInBounds_toArray, List.set_cons_zero, List.set_cons_succ])
  (refine Heads.call (v := ?_) rfl (fun wv hwv => ?_) ?_; rotate_left; (go_simp; simp only [GivesUpon.enter]; refine (c_fit _ _ _ (by decide)).mono ?_; rintro e w' ⟨rfl, hh⟩; refine ⟨?_, hwv.trans hh⟩; with_reducible rfl); simp only [Act.put, List.setIfInBounds_toArray, List.set_cons_zero, List.set_cons_succ])
  (refine Heads.val (v := ?_) rfl (fun wv hwv => ?_) ?_; rotate_left; (go_simp; with_reducible rfl); simp only [Act.put, List.setIfInBounds_toArray, List.set_cons_zero, List.set_cons_succ])
  (refine Heads.val (v := ?_) rfl (fun wv hwv => ?_) ?_; rotate_left; (go_simp; with_reducible rfl); simp only [Act.put, List.setIfInBounds_toArray, List.set_cons_zero, List.set_cons_succ])
  (refine Heads.call (v := ?_) rfl (fun wv hwv => ?_) ?_; rotate_left; (go_simp; simp only [GivesUpon.enter]; refine (c_fit _ _ _ (by decide)).mono ?_; rintro e w' ⟨rfl, hh⟩; refine ⟨?_, hwv.trans hh⟩; with_reducible rfl); simp only [Act.put, List.setIfInBounds_toArray, List.set_cons_zero, List.set_cons_succ])
  (refine Heads.val (v := ?_) rfl (fun wv hwv => ?_) ?_; rotate_left; (go_simp; with_reducible rfl); simp only [Act.put, List.setIfInBounds_toArray, List.set_cons_zero, List.set_cons_succ])
  (refine Heads.val (v := ?_) rfl (fun wv hwv => ?_) ?_; rotate_left; (go_simp; with_reducible rfl); simp only [Act.put, List.setIfInBounds_toArray, List.set_cons_zero, List.set_cons_succ])
  (refine Heads.val (v := ?_) rfl (fun wv hwv => ?_) ?_; rotate_left; (go_simp; with_reducible rfl); simp only [Act.put, List.setIfInBounds_toArray, List.set_cons_zero, List.set_cons_succ])
  (refine Heads.val (v := ?_) rfl (fun wv hwv => ?_) ?_; rotate_left; (go_simp; with_reducible rfl); simp only [Act.put, List.setIfInBounds_toArray, List.set_cons_zero, List.set_cons_succ])
  (refine Heads.call (v := ?_) rfl (fun wv hwv => ?_) ?_; rotate_left; (go_simp; simp only [GivesUpon.enter]; refine (c_fit _ _ _ (by decide)).mono ?_; rintro e w' ⟨rfl, hh⟩; refine ⟨?_, hwv.trans hh⟩; with_reducible rfl); simp only [Act.put, List.setIfInBounds_toArray, List.set_cons_zero, List.set_cons_succ])
  (refine Heads.val (v := ?_) rfl (fun wv hwv => ?_) ?_; rotate_left; (go_simp; with_reducible rfl); simp only [Act.put, List.setIfInBounds_toArray, List.set_cons_zero, List.set_cons_succ])
  (refine Heads.val (v := ?_) rfl (fun wv hwv => ?_) ?_; rotate_left; (go_simp; with_reducible rfl); simp only [Act.put, List.setIfInBounds_toArray, List.set_cons_zero, List.set_cons_succ])
  (refine Heads.val (v := ?_) rfl (fun wv hwv => ?_) ?_; rotate_left; (go_simp; with_reducible rfl); simp only [Act.put, List.setIfInBounds_toArray, List.set_cons_zero, List.set_cons_succ])
  (refine Heads.val (v := ?_) rfl (fun wv hwv => ?_) ?_; rotate_left; (go_simp; with_reducible rfl); simp only [Act.put, List.setIfInBounds_toArray, List.set_cons_zero, List.set_cons_succ])
  (refine Heads.call (v := ?_) rfl (fun wv hwv => ?_) ?_; rotate_left; (go_simp; simp only [GivesUpon.enter]; refine (c_fit _ _ _ (by decide)).mono ?_; rintro e w' ⟨rfl, hh⟩; refine ⟨?_, hwv.trans hh⟩; with_reducible rfl); simp only [Act.put, List.setIfInBounds_toArray, List.set_cons_zero, List.set_cons_succ])
  (refine Heads.val (v := ?_) rfl (fun wv hwv => ?_) ?_; rotate_left; (go_simp; with_reducible rfl); simp only [Act.put, List.setIfInBounds_toArray, List.set_cons_zero, List.set_cons_succ])
  (refine Heads.val (v := ?_) rfl (fun wv hwv => ?_) ?_; rotate_left; (go_simp; with_reducible rfl); simp only [Act.put, List.setIfInBounds_toArray, List.set_cons_zero, List.set_cons_succ])
  refine Heads.nil ?_
  intro w2 hw2
  rw [head_sum]
  have ho := head_own a b c d
  cases o
  · go_wp2
    all_goals
      go_ret
      exact ⟨rfl, hX.trans hw2⟩
  · go_wp2
    all_goals
      go_ret
      exact ⟨rfl, hX.trans hw2⟩

theorem or_bit63 (s : Nat) (hs : s < 2 ^ 63) : bits .or .u64 9223372036854775808 (s : Int) = ((9223372036854775808 + s : Nat) : Int) := by
  have h := or_sum' 63 9223372036854775808 s (by decide) hs (by decide) (by omega)
  have e : ((9223372036854775808 : Nat) : Int) = 9223372036854775808 := rfl
  rw [e] at h
  exact h

theorem putCell_frozen (a d : Int) (f : Bool) : Fl.putCell ⟨a, f, d⟩ = Fl.fit a 1099511627775 + (if f = true then 9223372036854775808 + Fl.fit d 4194303 * 1099511627776 else 0) := rfl

theorem cell_sum (a d : Int) : bits .or .u64 (Fl.fit a 1099511627775 : Nat) (bits .or .u64 9223372036854775808 (IntKind.u64.wrap ((Fl.fit d 4194303 : Nat) * 1099511627776))) = ((Fl.putCell ⟨a, true, d⟩ : Nat) : Int) := by
  have f1 := Fl.fit_le a 1099511627775 (by decide)
  have f2 := Fl.fit_le d 4194303 (by decide)
  have e : (((Fl.fit d 4194303 : Nat) : Int) * 1099511627776) = ((Fl.fit d 4194303 * 1099511627776 : Nat) : Int) := by omega
  rw [e, wrap_u64_nat _ (by omega), or_bit63 _ (by omega), or_sum 40 _ _ (by omega) (by omega) (by omega) (by omega), putCell_frozen, if_pos rfl]

set_option maxHeartbeats 400000 in
theorem c_putCell (a d : Int) (f : Bool) (w : World) :
    Calls Try.prog 60 #[.agg #[.int .i64 a, .bool f, .int .i64 d]] w fun e w' => e = .returned (.int .u64 (Fl.putCell ⟨a, f, d⟩ : Nat)) ∧ Ext w w' := by
  cases f
  · have HK := Lib.hid (putCell_frozen a d false)
    go_enter Try.func60, Try.ntmps60
    go_wp2_with fail
    have hE := heap_new w (.cells #[.int .i64 a, .bool false, .int .i64 d] 91)
    have hX := (Ext.refl w).alloc (.cells #[.int .i64 a, .bool false, .int .i64 d] 91)
    generalize w.alloc (.cells #[.int .i64 a, .bool false, .int .i64 d] 91) = w1 at *
    have hx := fun w' o (h : Ext w1 w') => h.cellOf hE o
    refine (c_fit _ _ _ (by decide)).mono ?_
    rintro e w2 ⟨rfl, h2⟩
    go_wp2
    go_ret
    refine ⟨ret_int ?_, hX.trans h2⟩
    rw [HK.out, if_neg (by decide), Nat.add_zero]
  · have HK := Lib.hid (cell_sum a d)
    go_enter Try.func60, Try.ntmps60
    go_wp2_with fail
    have hE := heap_new w (.cells #[.int .i64 a, .bool true, .int .i64 d] 91)
    have hX := (Ext.refl w).alloc (.cells #[.int .i64 a, .bool true, .int .i64 d] 91)
    generalize w.alloc (.cells #[.int .i64 a, .bool true, .int .i64 d] 91) = w1 at *
    have hx := fun w' o (h : Ext w1 w') => h.cellOf hE o
    refine (c_fit _ _ _ (by decide)).mono ?_
    rintro e w2 ⟨rfl, h2⟩
    go_wp2_with fail
    refine (c_fit _ _ _ (by decide)).mono ?_
    rintro e w3 ⟨rfl, h3⟩
    go_wp2
    go_ret
    exact ⟨ret_int HK.out, (hX.trans h2).trans h3⟩

/-- An arena that may be. -/
structure GoodC (c : Fl.Cfg) : Prop where
  threads : 1 ≤ c.threads ∧ c.threads ≤ 8
  slots : 1 ≤ c.slots ∧ c.slots ≤ 65536
  chunks : 1 ≤ c.chunks ∧ c.chunks ≤ 64
  words : 17 ≤ c.words ∧ c.words ≤ 256
  gens : 1 ≤ c.gens ∧ c.gens ≤ 65535
  sparse : 0 ≤ c.sparse ∧ c.sparse ≤ 1000
  tries : 1 ≤ c.tries ∧ c.tries ≤ 16

set_option maxHeartbeats 400000 in
theorem c_pSlot (c : Fl.Cfg) (s : Int) (w : World) (g : GoodC c) (hs : -4294967296 ≤ s ∧ s ≤ 4294967296) :
    Calls Try.prog 41 #[.agg #[.int .i64 c.threads, .int .i64 c.slots, .int .i64 c.chunks, .int .i64 c.words, .int .i64 c.gens, .int .i64 c.sparse, .int .i64 c.tries], .int .i64 s] w fun e w' => e = .returned (.int .i64 (Fl.pSlot c s)) ∧ Ext w w' := by
  obtain ⟨t1, t2⟩ := g.threads
  obtain ⟨s1, s2⟩ := hs
  go_enter Try.func41, Try.ntmps41
  go_wp2
  all_goals
    go_ret
    exact ⟨rfl, (Ext.refl w).alloc _⟩

set_option maxHeartbeats 400000 in
theorem c_pChunk (c : Fl.Cfg) (k : Int) (w : World) (g : GoodC c) (hs : -4294967296 ≤ k ∧ k ≤ 4294967296) :
    Calls Try.prog 44 #[.agg #[.int .i64 c.threads, .int .i64 c.slots, .int .i64 c.chunks, .int .i64 c.words, .int .i64 c.gens, .int .i64 c.sparse, .int .i64 c.tries], .int .i64 k] w fun e w' => e = .returned (.int .i64 (Fl.pChunk c k)) ∧ Ext w w' := by
  obtain ⟨t1, t2⟩ := g.threads
  obtain ⟨u1, u2⟩ := g.slots
  obtain ⟨s1, s2⟩ := hs
  go_enter Try.func44, Try.ntmps44
  go_wp2
  all_goals
    go_ret
    exact ⟨rfl, (Ext.refl w).alloc _⟩

set_option maxHeartbeats 400000 in
theorem c_pBase (c : Fl.Cfg) (k : Int) (w : World) (g : GoodC c) (hs : -4294967296 ≤ k ∧ k ≤ 4294967296) :
    Calls Try.prog 105 #[.agg #[.int .i64 c.threads, .int .i64 c.slots, .int .i64 c.chunks, .int .i64 c.words, .int .i64 c.gens, .int .i64 c.sparse, .int .i64 c.tries], .int .i64 k] w fun e w' => e = .returned (.int .i64 (Fl.pBase c k)) ∧ Ext w w' := by
  obtain ⟨t1, t2⟩ := g.threads
  obtain ⟨u1, u2⟩ := g.slots
  obtain ⟨v1, v2⟩ := g.chunks
  have hm : -1099511627776 ≤ c.words * k ∧ c.words * k ≤ 1099511627776 := by
    obtain ⟨x1, x2⟩ := g.words
    obtain ⟨s1, s2⟩ := hs
    constructor
    · have h1 : c.words * (-4294967296) ≤ c.words * k := Int.mul_le_mul_of_nonneg_left s1 (by omega)
      omega
    · have h1 : c.words * k ≤ c.words * 4294967296 := Int.mul_le_mul_of_nonneg_left s2 (by omega)
      omega
  obtain ⟨m1, m2⟩ := hm
  go_enter Try.func105, Try.ntmps105
  go_wp2
  all_goals
    go_ret
    exact ⟨rfl, (Ext.refl w).alloc _⟩

theorem pBase_range {c : Fl.Cfg} (g : GoodC c) {k : Int} (h0 : 0 ≤ k) (h1 : k ≤ 64) : 0 ≤ Fl.pBase c k ∧ Fl.pBase c k ≤ 147662 := by
  obtain ⟨t1, t2⟩ := g.threads
  obtain ⟨u1, u2⟩ := g.slots
  obtain ⟨v1, v2⟩ := g.chunks
  obtain ⟨x1, x2⟩ := g.words
  have hm : 0 ≤ c.words * k := Int.mul_nonneg (by omega) h0
  have hn : c.words * k ≤ 256 * 64 := by
    have a1 : c.words * k ≤ c.words * 64 := Int.mul_le_mul_of_nonneg_left h1 (by omega)
    omega
  unfold Fl.pBase
  omega

set_option maxHeartbeats 400000 in
theorem c_pLen (c : Fl.Cfg) (w : World) (g : GoodC c) :
    Calls Try.prog 106 #[.agg #[.int .i64 c.threads, .int .i64 c.slots, .int .i64 c.chunks, .int .i64 c.words, .int .i64 c.gens, .int .i64 c.sparse, .int .i64 c.tries]] w fun e w' => e = .returned (.int .i64 (Fl.pLen c)) ∧ Ext w w' := by
  go_enter Try.func106, Try.ntmps106
  go_wp2_with fail
  have hX := (Ext.refl w).alloc (.cells #[.int .i64 c.threads, .int .i64 c.slots, .int .i64 c.chunks, .int .i64 c.words, .int .i64 c.gens, .int .i64 c.sparse, .int .i64 c.tries] 24)
  refine (c_pBase c _ _ g ?_).mono ?_
  · have := g.chunks; omega
  rintro e w2 ⟨rfl, h2⟩
  go_wp2
  go_ret
  exact ⟨rfl, hX.trans h2⟩

theorem tdiv_nat {a b : Int} (ha : 0 ≤ a) : a.tdiv b = a / b := Int.tdiv_eq_ediv_of_nonneg ha

set_option maxHeartbeats 400000 in
theorem c_pOf (c : Fl.Cfg) (a : Int) (w : World) (g : GoodC c) (hs : -4294967296 ≤ a ∧ a ≤ 4294967296) :
    Calls Try.prog 69 #[.agg #[.int .i64 c.threads, .int .i64 c.slots, .int .i64 c.chunks, .int .i64 c.words, .int .i64 c.gens, .int .i64 c.sparse, .int .i64 c.tries], .int .i64 a] w fun e w' => e = .returned (.int .i64 (Fl.pOf c a)) ∧ Ext w w' := by
  have hb := pBase_range g (k := 0) (by decide) (by decide)
  go_enter Try.func69, Try.ntmps69
  go_wp2_with fail
  have hE := heap_new w (.cells #[.int .i64 c.threads, .int .i64 c.slots, .int .i64 c.chunks, .int .i64 c.words, .int .i64 c.gens, .int .i64 c.sparse, .int .i64 c.tries] 24)
  have hX := (Ext.refl w).alloc (.cells #[.int .i64 c.threads, .int .i64 c.slots, .int .i64 c.chunks, .int .i64 c.words, .int .i64 c.gens, .int .i64 c.sparse, .int .i64 c.tries] 24)
  generalize w.alloc (.cells #[.int .i64 c.threads, .int .i64 c.slots, .int .i64 c.chunks, .int .i64 c.words, .int .i64 c.gens, .int .i64 c.sparse, .int .i64 c.tries] 24) = w1 at *
  have hx := fun w' o (h : Ext w1 w') => h.cellOf hE o
  refine (c_pBase c _ _ g (by decide)).mono ?_
  rintro e w2 ⟨rfl, h2⟩
  by_cases h1 : a < Fl.pBase c 0
  · go_wp2
    all_goals
      go_ret
      refine ⟨ret_int ?_, hX.trans h2⟩
      unfold Fl.pOf; rw [if_pos (Or.inl h1)]
  · go_wp2_with fail
    refine (c_pLen c _ g).mono ?_
    rintro e w3 ⟨rfl, h3⟩
    have h23 := h2.trans h3
    by_cases h4 : a ≥ Fl.pLen c
    · go_wp2
      all_goals
        go_ret
        refine ⟨ret_int ?_, hX.trans h23⟩
        unfold Fl.pOf; rw [if_pos (Or.inr h4)]
    · obtain ⟨x1, x2⟩ := g.words
      obtain ⟨s1, s2⟩ := hs
      go_wp2
      all_goals
        go_ret
        refine ⟨ret_int ?_, hX.trans h23⟩
        unfold Fl.pOf; rw [if_neg (by omega)]

theorem c_pOpen (k : Int) (w : World) (hs : -4294967296 ≤ k ∧ k ≤ 4294967296) :
    Calls Try.prog 120 #[.int .i64 k] w fun e w' => e = .returned (.int .i64 (Fl.pOpen k)) ∧ Ext w w' := by
  obtain ⟨s1, s2⟩ := hs
  go_enter Try.func120, Try.ntmps120
  go_wp2
  all_goals
    go_ret
    exact ⟨rfl, Ext.refl w⟩

theorem c_pTop (w : World) : Calls Try.prog 43 #[] w fun e w' => e = .returned (.int .i64 1) ∧ Ext w w' := by
  go_enter Try.func43, Try.ntmps43
  go_wp2
  all_goals
    go_ret
    exact ⟨rfl, Ext.refl w⟩

set_option maxHeartbeats 400000 in
theorem c_room (k : Int) (w : World) (hk : -1 ≤ k ∧ k ≤ 3) :
    Calls Try.prog 35 #[.int .i64 k] w fun e w' => e = .returned (.int .i64 (Fl.room k)) ∧ Ext w w' := by
  have : k = -1 ∨ k = 0 ∨ k = 1 ∨ k = 2 ∨ k = 3 := by omega
  rcases this with rfl | rfl | rfl | rfl | rfl
  all_goals
    go_enter Try.func35, Try.ntmps35
    go_wp2
    all_goals
      go_ret
      exact ⟨ret_int (by decide), Ext.refl w⟩

set_option maxHeartbeats 400000 in
theorem c_live (a b c d x y : Int) (w : World) :
    Calls Try.prog 34 #[.agg #[.int .i64 a, .int .i64 b, .int .i64 c, .int .i64 d], .agg #[.int .i64 x, .int .i64 y]] w fun e w' => e = .returned (.bool (Fl.live ⟨a, b, c, d⟩ ⟨x, y⟩)) ∧ Ext w w' := by
  have hX : Ext w ((w.alloc (.cells #[.int .i64 a, .int .i64 b, .int .i64 c, .int .i64 d] 44)).alloc (.cells #[.int .i64 x, .int .i64 y] 46)) := ((Ext.refl w).alloc _).alloc _
  by_cases h1 : a = 1
  · have e1 : (a == 1) = true := by rw [beq_iff_eq]; exact h1
    clear h1
    by_cases h2 : c = y
    · have e2 : (c == y) = true := by rw [beq_iff_eq]; exact h2
      have hf : Fl.live ⟨a, b, c, d⟩ ⟨x, y⟩ = true := by simp only [Fl.live, decide_eq_true_eq]; exact ⟨Or.inl (by simpa using e1), h2⟩
      rw [hf]; clear hf h2
      go_enter Try.func34, Try.ntmps34
      go_wp2
      all_goals (go_ret; exact ⟨rfl, hX⟩)
    · have e2 : (c == y) = false := by rw [beq_eq_false_iff_ne]; exact h2
      have hf : Fl.live ⟨a, b, c, d⟩ ⟨x, y⟩ = false := by simp only [Fl.live, decide_eq_false_iff_not]; exact fun h => h2 h.2
      rw [hf]; clear hf h2
      go_enter Try.func34, Try.ntmps34
      go_wp2
      all_goals (go_ret; exact ⟨rfl, hX⟩)
  · have e1 : (a == 1) = false := by rw [beq_eq_false_iff_ne]; exact h1
    by_cases h3 : a = 2
    · have e3 : (a == 2) = true := by rw [beq_iff_eq]; exact h3
      have h3' : a = 2 := h3
      clear h1 h3
      by_cases h2 : c = y
      · have e2 : (c == y) = true := by rw [beq_iff_eq]; exact h2
        have hf : Fl.live ⟨a, b, c, d⟩ ⟨x, y⟩ = true := by simp only [Fl.live, decide_eq_true_eq]; exact ⟨Or.inr (Or.inl h3'), h2⟩
        rw [hf]; clear hf h2 h3'
        go_enter Try.func34, Try.ntmps34
        go_wp2
        all_goals (go_ret; exact ⟨rfl, hX⟩)
      · have e2 : (c == y) = false := by rw [beq_eq_false_iff_ne]; exact h2
        have hf : Fl.live ⟨a, b, c, d⟩ ⟨x, y⟩ = false := by simp only [Fl.live, decide_eq_false_iff_not]; exact fun h => h2 h.2
        rw [hf]; clear hf h2 h3'
        go_enter Try.func34, Try.ntmps34
        go_wp2
        all_goals (go_ret; exact ⟨rfl, hX⟩)
    · have e3 : (a == 2) = false := by rw [beq_eq_false_iff_ne]; exact h3
      by_cases h4 : a = 4
      · have e4 : (a == 4) = true := by rw [beq_iff_eq]; exact h4
        have h4' : a = 4 := h4
        clear h1 h3 h4
        by_cases h2 : c = y
        · have e2 : (c == y) = true := by rw [beq_iff_eq]; exact h2
          have hf : Fl.live ⟨a, b, c, d⟩ ⟨x, y⟩ = true := by simp only [Fl.live, decide_eq_true_eq]; exact ⟨Or.inr (Or.inr h4'), h2⟩
          rw [hf]; clear hf h2 h4'
          go_enter Try.func34, Try.ntmps34
          go_wp2
          all_goals (go_ret; exact ⟨rfl, hX⟩)
        · have e2 : (c == y) = false := by rw [beq_eq_false_iff_ne]; exact h2
          have hf : Fl.live ⟨a, b, c, d⟩ ⟨x, y⟩ = false := by simp only [Fl.live, decide_eq_false_iff_not]; exact fun h => h2 h.2
          rw [hf]; clear hf h2 h4'
          go_enter Try.func34, Try.ntmps34
          go_wp2
          all_goals (go_ret; exact ⟨rfl, hX⟩)
      · have e4 : (a == 4) = false := by rw [beq_eq_false_iff_ne]; exact h4
        have hf : Fl.live ⟨a, b, c, d⟩ ⟨x, y⟩ = false := by
          simp only [Fl.live, decide_eq_false_iff_not]
          rintro ⟨h | h | h, _⟩
          · exact h1 h
          · exact h3 h
          · exact h4 h
        rw [hf]; clear hf h1 h3 h4
        go_enter Try.func34, Try.ntmps34
        go_wp2
        all_goals (go_ret; exact ⟨rfl, hX⟩)

set_option maxHeartbeats 1000000 in
theorem c_check (c : Fl.Cfg) (w : World) (g : GoodC c) :
    Calls Try.prog 107 #[.agg #[.int .i64 c.threads, .int .i64 c.slots, .int .i64 c.chunks, .int .i64 c.words, .int .i64 c.gens, .int .i64 c.sparse, .int .i64 c.tries]] w fun e w' => e = .returned (.bool true) ∧ Ext w w' := by
  obtain ⟨a1, a2⟩ := g.threads
  obtain ⟨b1, b2⟩ := g.slots
  obtain ⟨c1, c2⟩ := g.chunks
  obtain ⟨d1, d2⟩ := g.words
  obtain ⟨e1, e2⟩ := g.gens
  obtain ⟨f1, f2⟩ := g.sparse
  obtain ⟨g1, g2⟩ := g.tries
  have hX := (Ext.refl w).alloc (.cells #[.int .i64 c.threads, .int .i64 c.slots, .int .i64 c.chunks, .int .i64 c.words, .int .i64 c.gens, .int .i64 c.sparse, .int .i64 c.tries] 24)
  go_enter Try.func107, Try.ntmps107
  go_wp2
  all_goals
    go_ret
    exact ⟨rfl, hX⟩

set_option maxHeartbeats 1000000 in
theorem c_cls (s : Int) (w : World) :
    Calls Try.prog 36 #[.int .i64 s] w fun e w' => e = .returned (.int .i64 (Fl.cls s)) ∧ Ext w w' := by
  have hq : Ext w w := Ext.refl w
  have HC := Lib.hid (show ∀ n : Int, n = -1 ∧ s < 1 ∨ n = 0 ∧ 1 ≤ s ∧ s ≤ 2 ∨ n = 1 ∧ 2 < s ∧ s ≤ 4 ∨ n = 2 ∧ 4 < s ∧ s ≤ 8 ∨ n = 3 ∧ 8 < s ∧ s ≤ 16 ∨ n = -1 ∧ 16 < s → n = Fl.cls s by
    intro n hn
    unfold Fl.cls
    repeat' split
    all_goals omega)
  go_enter Try.func36, Try.ntmps36
  go_wp2
  go_loop [4] (fun i => (i = .int .i64 0) ∨ (i = .int .i64 1 ∧ (s < 1 ∨ 2 < s)) ∨ (i = .int .i64 2 ∧ (s < 1 ∨ 4 < s)) ∨ (i = .int .i64 3 ∧ (s < 1 ∨ 8 < s)) ∨ (i = .int .i64 4 ∧ (s < 1 ∨ 16 < s))) (fun i => 4 - (intOf i).toNat)
  case atStart => exact Or.inl rfl
  case round =>
    by_cases h0 : 1 ≤ s
    · rcases hrel with rfl | ⟨rfl, hr⟩ | ⟨rfl, hr⟩ | ⟨rfl, hr⟩ | ⟨rfl, hr⟩
      · by_cases h1 : s ≤ 2
        · go_wp2
          go_ret
          exact ⟨ret_int (HC.out _ (by omega)), hq⟩
        · go_wp2
          go_round
          case rel => exact Or.inr (Or.inl ⟨rfl, by omega⟩)
          case measure => simp [intOf]
      · by_cases h1 : s ≤ 4
        · go_wp2
          go_ret
          exact ⟨ret_int (HC.out _ (by omega)), hq⟩
        · go_wp2
          go_round
          case rel => exact Or.inr (Or.inr (Or.inl ⟨rfl, by omega⟩))
          case measure => simp [intOf]
      · by_cases h1 : s ≤ 8
        · go_wp2
          go_ret
          exact ⟨ret_int (HC.out _ (by omega)), hq⟩
        · go_wp2
          go_round
          case rel => exact Or.inr (Or.inr (Or.inr (Or.inl ⟨rfl, by omega⟩)))
          case measure => simp [intOf]
      · by_cases h1 : s ≤ 16
        · go_wp2
          go_ret
          exact ⟨ret_int (HC.out _ (by omega)), hq⟩
        · go_wp2
          go_round
          case rel => exact Or.inr (Or.inr (Or.inr (Or.inr ⟨rfl, by omega⟩)))
          case measure => simp [intOf]
      · go_wp2
        go_ret
        exact ⟨ret_int (HC.out _ (by omega)), hq⟩
    · rcases hrel with rfl | ⟨rfl, hr⟩ | ⟨rfl, hr⟩ | ⟨rfl, hr⟩ | ⟨rfl, hr⟩
      · go_wp2
        go_round
        case rel => exact Or.inr (Or.inl ⟨rfl, by omega⟩)
        case measure => simp [intOf]
      · go_wp2
        go_round
        case rel => exact Or.inr (Or.inr (Or.inl ⟨rfl, by omega⟩))
        case measure => simp [intOf]
      · go_wp2
        go_round
        case rel => exact Or.inr (Or.inr (Or.inr (Or.inl ⟨rfl, by omega⟩)))
        case measure => simp [intOf]
      · go_wp2
        go_round
        case rel => exact Or.inr (Or.inr (Or.inr (Or.inr ⟨rfl, by omega⟩)))
        case measure => simp [intOf]
      · go_wp2
        go_ret
        exact ⟨ret_int (HC.out _ (by omega)), hq⟩

end Go.Proofs.Ythblhgappldcjaa
