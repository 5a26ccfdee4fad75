/- The contracts of place: somebody who wants words of a class. -/
import Derived.Test.YthblhgappldcjaaE
namespace Go.Proofs.Ythblhgappldcjaa
open Go Go.RowKit
set_option linter.unusedVariables false

theorem pBase_big {c : Fl.Cfg} (g : GoodC c) {k : Int} (h0 : 0 ≤ k) (h1 : k ≤ 1000000) : 0 ≤ Fl.pBase c k ∧ Fl.pBase c k ≤ 257000000 := by
  obtain ⟨t1, t2⟩ := g.threads
  obtain ⟨u1, u2⟩ := g.slots
  obtain ⟨v1, v2⟩ := g.chunks
  obtain ⟨x1, x2⟩ := g.words
  have hm : 0 ≤ c.words * k := Int.mul_nonneg (by omega) h0
  have hn : c.words * k ≤ 256 * 1000000 := by
    have a1 : c.words * k ≤ c.words * 1000000 := Int.mul_le_mul_of_nonneg_left h1 (by omega)
    omega
  unfold Fl.pBase
  omega

structure PlaceAt (W : World) (b : Nat) (p : Fl.Place) : Prop where
  blk : W.heap[b]? = some (.cells #[.int .i64 p.cls, .int .i64 p.pc, .int .u64 (p.opn : Nat), .int .i64 p.at_, .int .u64 (p.w : Nat), .int .i64 p.spot.addr, .int .i64 p.spot.chunk, .bool p.ok] 163 (0, 0))
  cls : -1 ≤ p.cls ∧ p.cls ≤ 3
  at_ : 0 ≤ p.at_
  opn : p.opn < 18446744073709551616
  w : p.w < 18446744073709551616
  spot : 0 ≤ p.spot.addr ∧ p.spot.addr ≤ 1000000000 ∧ 0 ≤ p.spot.chunk ∧ p.spot.chunk ≤ 1000000

theorem field_chunk3 (x0 x1 x2 x3 : Value) (w : World) : (Instr.field 107 (.agg #[x0, x1, x2, x3]) 3).run Try.prog w = .ok x3 w := by kernel_rfl
theorem field_chunk0 (x0 x1 x2 x3 : Value) (w : World) : (Instr.field 107 (.agg #[x0, x1, x2, x3]) 0).run Try.prog w = .ok x0 w := by kernel_rfl
theorem field_slot0 (x0 x1 x2 x3 : Value) (w : World) : (Instr.field 44 (.agg #[x0, x1, x2, x3]) 0).run Try.prog w = .ok x0 w := by kernel_rfl
theorem field_slot1 (x0 x1 x2 x3 : Value) (w : World) : (Instr.field 44 (.agg #[x0, x1, x2, x3]) 1).run Try.prog w = .ok x1 w := by kernel_rfl
theorem field_slot2 (x0 x1 x2 x3 : Value) (w : World) : (Instr.field 44 (.agg #[x0, x1, x2, x3]) 2).run Try.prog w = .ok x2 w := by kernel_rfl
theorem field_slot3 (x0 x1 x2 x3 : Value) (w : World) : (Instr.field 44 (.agg #[x0, x1, x2, x3]) 3).run Try.prog w = .ok x3 w := by kernel_rfl
theorem field_cell0 (x0 x1 x2 : Value) (w : World) : (Instr.field 91 (.agg #[x0, x1, x2]) 0).run Try.prog w = .ok x0 w := by kernel_rfl

/-- What a step relies on: the chunk that is looked at, and what stands as the open chunk, are small. -/
def placeSafe (who : Int) (σ : Fl.Mem) (p : Fl.Place) : Prop := p.at_ ≤ 1000000 ∧ (p.pc = 0 → (σ.load who (Fl.pOpen p.cls)).1 ≤ 1000000)

def PlaceRes (c : Fl.Cfg) (who : Int) (σ : Fl.Mem) (p : Fl.Place) (l : Loc) (b : Nat) (W : World) (e : Ending) (w' : World) : Prop :=
  e = .returned (.bool (p.step c who σ).1) ∧ MemAt w' l (p.step c who σ).2.2 ∧ PlaceAt w' b (p.step c who σ).2.1 ∧ Upd (b :: l.all) W w'

theorem n_place (k : Int) (W : World) (hk : -1 ≤ k ∧ k ≤ 3) : Calls Try.prog 113 #[.int .i64 k] W fun e w' => e = .returned (.pointer (some ⟨W.heap.size, 0, none⟩)) ∧ PlaceAt w' W.heap.size (Fl.Place.new k) ∧ Ext W w' := by
  have hE := heap_new W (.cells #[.int .i64 k, .int .i64 0, .int .u64 0, .int .i64 0, .int .u64 0, .int .i64 0, .int .i64 0, .bool false] 163)
  have hX := (Ext.refl W).alloc (.cells #[.int .i64 k, .int .i64 0, .int .u64 0, .int .i64 0, .int .u64 0, .int .i64 0, .int .i64 0, .bool false] 163)
  go_enter Try.func113, Try.ntmps113
  go_wp2
  go_ret
  exact ⟨rfl, ⟨hE, hk, by simp [Fl.Place.new], by simp [Fl.Place.new], by simp [Fl.Place.new], by simp [Fl.Place.new]⟩, hX⟩

set_option maxHeartbeats 400000 in
theorem p_spot (b : Nat) (p : Fl.Place) (W : World) (hp : PlaceAt W b p) :
    Calls Try.prog 97 #[.pointer (some ⟨b, 0, none⟩)] W fun e w' => e = .returned (.tuple #[.agg #[.int .i64 (if p.ok = true then p.spot.addr else 0), .int .i64 (if p.ok = true then p.spot.chunk else 0)], .bool p.ok]) ∧ Ext W w' := by
  obtain ⟨hB, -, -, -, -, -⟩ := hp
  have hlt := lt_of_heap hB
  cases ho : p.ok
  · rw [ho] at hB
    have c0 := fun o => cell_of hB o
    simp only [Bool.false_eq_true, if_false]
    clear hB ho
    go_enter Try.func97, Try.ntmps97
    go_wp2
    refine bodyPost_ret (v := .tuple #[.agg #[.int .i64 0, .int .i64 0], .bool false]) ?_ rfl ⟨rfl, ?_⟩
    · simp [results, Try.results97, go_sem]
    · exact (Ext.refl _).alloc _
  · rw [ho] at hB
    have c0 := fun o => cell_of hB o
    simp only [if_true]
    clear hB ho
    go_enter Try.func97, Try.ntmps97
    go_wp2
    refine bodyPost_ret (v := .tuple #[.agg #[.int .i64 p.spot.addr, .int .i64 p.spot.chunk], .bool true]) ?_ rfl ⟨rfl, ?_⟩
    · simp [results, Try.results97, go_sem]
    · exact (Ext.refl _).alloc _

set_option maxHeartbeats 400000 in
theorem p_fresh (b : Nat) (p : Fl.Place) (W : World) (hp : PlaceAt W b p) :
    Calls Try.prog 123 #[.pointer (some ⟨b, 0, none⟩)] W fun e w' => e = .returned (.int .u64 (p.fresh : Nat)) ∧ Ext W w' := by
  obtain ⟨hB, -, -, -, hw, -⟩ := hp
  have hr := Fl.chunkOf_range p.w
  have c0 := fun w' o (k : Ext W w') => k.cellOf hB o
  have ew := wrap64_id (n := (Fl.chunkOf p.w).stamp + 1) (by omega) (by omega)
  have HB := Lib.hid hB
  have fld := field_chunk3
  clear hB
  go_enter Try.func123, Try.ntmps123
  go_wp2_with fail
  refine wp_region_plan (Ext W) [] [0, 1, 2, 3, 4, 5, 6, 7, 8, 9, 10, 11, 12] 13 [] Try.mixed (by kernel_rfl) (by intro c a d v w h; cases d <;> exact h) (Ext.refl _).drew ?_
  simp only [opsAt, List.filterMap_cons, List.filterMap_nil, List.getElem?_toArray, List.getElem?_cons_zero, List.getElem?_cons_succ]
  refine Firsts.nil ?_
  (refine Heads.val (v := ?_) rfl (fun wv hwv => ?_) ?_; rotate_left; (go_simp; with_reducible rfl); simp only [Act.put, List.setIfInBounds_toArray, List.set_cons_zero, List.set_cons_succ])
  (refine Heads.val (v := ?_) rfl (fun wv hwv => ?_) ?_; rotate_left; (go_simp; with_reducible rfl); simp only [Act.put, List.setIfInBounds_toArray, List.set_cons_zero, List.set_cons_succ])
  (refine Heads.val (v := ?_) rfl (fun wv hwv => ?_) ?_; rotate_left; (go_simp; with_reducible rfl); simp only [Act.put, List.setIfInBounds_toArray, List.set_cons_zero, List.set_cons_succ])
  (refine Heads.val (v := ?_) rfl (fun wv hwv => ?_) ?_; rotate_left; (go_simp; with_reducible rfl); simp only [Act.put, List.setIfInBounds_toArray, List.set_cons_zero, List.set_cons_succ])
  (refine Heads.val (v := ?_) rfl (fun wv hwv => ?_) ?_; rotate_left; (go_simp; with_reducible rfl); simp only [Act.put, List.setIfInBounds_toArray, List.set_cons_zero, List.set_cons_succ])
  (refine Heads.val (v := ?_) rfl (fun wv hwv => ?_) ?_; rotate_left; (go_simp; with_reducible rfl); simp only [Act.put, List.setIfInBounds_toArray, List.set_cons_zero, List.set_cons_succ])
  (refine Heads.val (v := ?_) rfl (fun wv hwv => ?_) ?_; rotate_left; (go_simp; with_reducible rfl); simp only [Act.put, List.setIfInBounds_toArray, List.set_cons_zero, List.set_cons_succ])
  (refine Heads.val (v := ?_) rfl (fun wv hwv => ?_) ?_; rotate_left; (go_simp; with_reducible rfl); simp only [Act.put, List.setIfInBounds_toArray, List.set_cons_zero, List.set_cons_succ])
  (refine Heads.call (v := ?_) rfl (fun wv hwv => ?_) ?_; rotate_left; (go_simp; simp only [GivesUpon.enter]; refine (c_chunk _ _ hw).mono ?_; rintro e w' ⟨rfl, hh⟩; refine ⟨?_, hwv.trans hh⟩; with_reducible rfl); simp only [Act.put, List.setIfInBounds_toArray, List.set_cons_zero, List.set_cons_succ])
  (refine Heads.val (v := ?_) rfl (fun wv hwv => ?_) ?_; rotate_left; (go_simp; with_reducible rfl); simp only [Act.put, List.setIfInBounds_toArray, List.set_cons_zero, List.set_cons_succ])
  (refine Heads.val (v := ?_) rfl (fun wv hwv => ?_) ?_; rotate_left; (go_simp; with_reducible rfl); simp only [Act.put, List.setIfInBounds_toArray, List.set_cons_zero, List.set_cons_succ])
  (refine Heads.val (v := ?_) rfl (fun wv hwv => ?_) ?_; rotate_left; (go_simp; with_reducible rfl); simp only [Act.put, List.setIfInBounds_toArray, List.set_cons_zero, List.set_cons_succ])
  (refine Heads.call (v := ?_) rfl (fun wv hwv => ?_) ?_; rotate_left; (go_simp; simp only [GivesUpon.enter]; refine (c_putChunk _ _ _ _ _).mono ?_; rintro e w' ⟨rfl, hh⟩; refine ⟨?_, hwv.trans hh⟩; with_reducible rfl); simp only [Act.put, List.setIfInBounds_toArray, List.set_cons_zero, List.set_cons_succ])
  refine Heads.nil ?_
  intro w1 hw1
  go_wp2
  go_ret
  exact ⟨rfl, hw1⟩

set_option maxHeartbeats 400000 in
theorem p_on (c : Fl.Cfg) (l : Loc) (who : Int) (b : Nat) (p : Fl.Place) (W : World) (hp : PlaceAt W b p) (ha : p.at_ ≤ 1000000) :
    Calls Try.prog 122 #[.pointer (some ⟨b, 0, none⟩), .agg #[.int .i64 c.threads, .int .i64 c.slots, .int .i64 c.chunks, .int .i64 c.words, .int .i64 c.gens, .int .i64 c.sparse, .int .i64 c.tries, .pointer (some ⟨l.m, 0, none⟩), .int .i64 who]] W fun e w' => e = .returned (.bool (p.on c).1) ∧ PlaceAt w' b (p.on c).2 ∧ Upd [b] W w' := by
  obtain ⟨hB, k1, k2, k3, k4, k5⟩ := hp
  have hbl := lt_of_heap hB
  have hE := heap_new ((W.setCell ⟨b, 3, none⟩ (.int .i64 (p.at_ + 1))).setCell ⟨b, 1, none⟩ (.int .i64 3)) (.cells #[.int .i64 c.threads, .int .i64 c.slots, .int .i64 c.chunks, .int .i64 c.words, .int .i64 c.gens, .int .i64 c.sparse, .int .i64 c.tries, .pointer (some ⟨l.m, 0, none⟩), .int .i64 who] 27)
  have hU := (((Upd.refl [b] W).set1 3 (.int .i64 (p.at_ + 1))).set1 1 (.int .i64 3)).alloc (.cells #[.int .i64 c.threads, .int .i64 c.slots, .int .i64 c.chunks, .int .i64 c.words, .int .i64 c.gens, .int .i64 c.sparse, .int .i64 c.tries, .pointer (some ⟨l.m, 0, none⟩), .int .i64 who] 27)
  have HB1 := Lib.hid (heap_old (o' := .cells #[.int .i64 c.threads, .int .i64 c.slots, .int .i64 c.chunks, .int .i64 c.words, .int .i64 c.gens, .int .i64 c.sparse, .int .i64 c.tries, .pointer (some ⟨l.m, 0, none⟩), .int .i64 who] 27) (heap_set (heap_set hB 3 (.int .i64 (p.at_ + 1))) 1 (.int .i64 3)))
  simp only [World.size_setCell] at hE
  simp only [List.setIfInBounds_toArray, List.set_cons_zero, List.set_cons_succ] at HB1
  have ew := wrap64_id (n := p.at_ + 1) (by omega) (by omega)
  have c0 := fun w' o (k : Ext W w') => k.cellOf hB o
  have f0 := fun o => frozen_of hB o
  have r0 := Ext.refl W
  clear hB
  go_enter Try.func122, Try.ntmps122
  go_wp2_with fail
  generalize ((W.setCell ⟨b, 3, none⟩ (.int .i64 (p.at_ + 1))).setCell ⟨b, 1, none⟩ (.int .i64 3)).alloc (.cells #[.int .i64 c.threads, .int .i64 c.slots, .int .i64 c.chunks, .int .i64 c.words, .int .i64 c.gens, .int .i64 c.sparse, .int .i64 c.tries, .pointer (some ⟨l.m, 0, none⟩), .int .i64 who] 27) = w1 at *
  have cE := fun w' o (k : Ext w1 w') => k.cellOf hE o
  have c_HB1_w1 := fun w' o (k : Ext w1 w') => k.cellOf HB1.out o
  have f_HB1_w1 := fun w' o (k : Ext w1 w') => frozen_of (k.keep HB1.out) o
  have r_HB1_w1 := Ext.refl w1
  clear c0 f0
  refine wp_region_plan (Ext w1) [] [0, 1, 2, 3, 4, 5, 6, 7] 8 [] Try.mixed (by kernel_rfl) (by intro c a d v w h; cases d <;> exact h) (Ext.refl _).drew ?_
  simp only [opsAt, List.filterMap_cons, List.filterMap_nil, List.getElem?_toArray, List.getElem?_cons_zero, List.getElem?_cons_succ]
  refine Firsts.nil ?_
  (refine Heads.val (v := ?_) rfl (fun wv hwv => ?_) ?_; rotate_left; (go_simp; with_reducible rfl); simp only [Act.put, List.setIfInBounds_toArray, List.set_cons_zero, List.set_cons_succ])
  (refine Heads.val (v := ?_) rfl (fun wv hwv => ?_) ?_; rotate_left; (go_simp; with_reducible rfl); simp only [Act.put, List.setIfInBounds_toArray, List.set_cons_zero, List.set_cons_succ])
  (refine Heads.val (v := ?_) rfl (fun wv hwv => ?_) ?_; rotate_left; (go_simp; with_reducible rfl); simp only [Act.put, List.setIfInBounds_toArray, List.set_cons_zero, List.set_cons_succ])
  (refine Heads.val (v := ?_) rfl (fun wv hwv => ?_) ?_; rotate_left; (go_simp; with_reducible rfl); simp only [Act.put, List.setIfInBounds_toArray, List.set_cons_zero, List.set_cons_succ])
  (refine Heads.val (v := ?_) rfl (fun wv hwv => ?_) ?_; rotate_left; (go_simp; with_reducible rfl); simp only [Act.put, List.setIfInBounds_toArray, List.set_cons_zero, List.set_cons_succ])
  (refine Heads.val (v := ?_) rfl (fun wv hwv => ?_) ?_; rotate_left; (go_simp; with_reducible rfl); simp only [Act.put, List.setIfInBounds_toArray, List.set_cons_zero, List.set_cons_succ])
  (refine Heads.val (v := ?_) rfl (fun wv hwv => ?_) ?_; rotate_left; (go_simp; with_reducible rfl); simp only [Act.put, List.setIfInBounds_toArray, List.set_cons_zero, List.set_cons_succ])
  (refine Heads.val (v := ?_) rfl (fun wv hwv => ?_) ?_; rotate_left; (go_simp; with_reducible rfl); simp only [Act.put, List.setIfInBounds_toArray, List.set_cons_zero, List.set_cons_succ])
  refine Heads.nil ?_
  intro w2 hw2
  go_wp2
  go_ret
  exact ⟨rfl, ⟨hw2.keep HB1.out, k1, (by show 0 ≤ p.at_ + 1; omega), k3, k4, k5⟩, hU.extR hw2⟩

theorem place2 (c : Fl.Cfg) (who : Int) (σ : Fl.Mem) (p : Fl.Place) (h : p.pc = 2) (W : Fl.Mem) (y : Bool)
    (hc : σ.cas who (Fl.pChunk c p.at_) p.w (Fl.putChunk { Fl.chunkOf p.w with used := (Fl.chunkOf p.w).used + Fl.room p.cls }) = (y, W)) :
    p.step c who σ = if y = true then (true, { p with pc := 0, spot := ⟨Fl.pBase c p.at_ + (Fl.chunkOf p.w).used, p.at_⟩, ok := true }, W) else (false, { p with pc := 0 }, W) := by
  unfold Fl.Place.step; rw [if_neg (by omega), if_neg (by omega), if_pos h]
  simp only [hc]

set_option maxHeartbeats 1000000 in
theorem p_get (c : Fl.Cfg) (l : Loc) (σ : Fl.Mem) (who : Int) (b : Nat) (p : Fl.Place) (W : World) (gc : GoodC c) (h : MemAt W l σ) (hs : 0 ≤ σ.steps ∧ σ.steps < 4611686018427387904)
    (hp : PlaceAt W b p) (hb : b ∉ l.all) (ha : p.at_ ≤ 1000000) (h2 : p.pc = 2) :
    Calls Try.prog 121 #[.pointer (some ⟨b, 0, none⟩), .agg #[.int .i64 c.threads, .int .i64 c.slots, .int .i64 c.chunks, .int .i64 c.words, .int .i64 c.gens, .int .i64 c.sparse, .int .i64 c.tries, .pointer (some ⟨l.m, 0, none⟩), .int .i64 who]] W (PlaceRes c who σ p l b W) := by
  obtain ⟨hB, k1, k2, k3, k4, k5⟩ := hp
  have hlt := h.lt
  have hbl := lt_of_heap hB
  have hE := heap_new W (.cells #[.int .i64 c.threads, .int .i64 c.slots, .int .i64 c.chunks, .int .i64 c.words, .int .i64 c.gens, .int .i64 c.sparse, .int .i64 c.tries, .pointer (some ⟨l.m, 0, none⟩), .int .i64 who] 27)
  have hX := (Ext.refl W).alloc (.cells #[.int .i64 c.threads, .int .i64 c.slots, .int .i64 c.chunks, .int .i64 c.words, .int .i64 c.gens, .int .i64 c.sparse, .int .i64 c.tries, .pointer (some ⟨l.m, 0, none⟩), .int .i64 who] 27)
  have HB1 := Lib.hid (hX.keep hB)
  have hr := Fl.chunkOf_range p.w
  have hro := Fl.room_range k1.2
  have HP := Lib.hid (place2 c who σ p h2)
  have c0 := fun w' o (k : Ext W w') => k.cellOf hB o
  clear hB
  go_enter Try.func121, Try.ntmps121
  go_wp2_with fail
  generalize W.alloc (.cells #[.int .i64 c.threads, .int .i64 c.slots, .int .i64 c.chunks, .int .i64 c.words, .int .i64 c.gens, .int .i64 c.sparse, .int .i64 c.tries, .pointer (some ⟨l.m, 0, none⟩), .int .i64 who] 27) = w1 at *
  have cE := fun w' o (k : Ext w1 w') => k.cellOf hE o
  have cb1 := fun w' o (k : Ext w1 w') => c0 w' o (hX.trans k)
  have r1 := Ext.refl w1
  have c_HB1_w1 := fun w' o (k : Ext w1 w') => k.cellOf HB1.out o
  have f_HB1_w1 := fun w' o (k : Ext w1 w') => frozen_of (k.keep HB1.out) o
  have r_HB1_w1 := Ext.refl w1
  refine (c_chunk _ _ k4).mono ?_
  rintro e w2 ⟨rfl, x2⟩
  have ew := wrap64_id (n := (Fl.chunkOf p.w).used + Fl.room p.cls) (by omega) (by omega)
  generalize hk : Fl.chunkOf p.w = k at *
  have HK := Lib.hid hk
  clear hk
  have HC := Lib.hid (heap_new w2 (.cells #[.int .i64 k.state, .int .i64 k.cls, .int .i64 k.used, .int .i64 k.stamp] 107))
  have x3 := (x2.alloc (.cells #[.int .i64 k.state, .int .i64 k.cls, .int .i64 k.used, .int .i64 k.stamp] 107))
  have s2 := x2.size
  have s1 := lt_of_heap hE
  go_wp2_with fail
  have sz := (Ext.refl w2).alloc (.cells #[.int .i64 k.state, .int .i64 k.cls, .int .i64 k.used, .int .i64 k.stamp] 107)
  generalize w2.alloc (.cells #[.int .i64 k.state, .int .i64 k.cls, .int .i64 k.used, .int .i64 k.stamp] 107) = w3 at *
  generalize hbc : w2.heap.size = bc at *
  have hbc3 := lt_of_heap HC.out
  clear hbc sz
  have HB3 := Lib.hid (x3.keep HB1.out)
  have E3 := x3.keep hE
  have c_HB3_w3 := fun w' o (k : Ext w3 w') => k.cellOf HB3.out o
  have f_HB3_w3 := fun w' o (k : Ext w3 w') => frozen_of (k.keep HB3.out) o
  have r_HB3_w3 := Ext.refl w3
  have c_HC_w3 := fun w' o (k : Ext w3 w') => k.cellOf HC.out o
  have f_HC_w3 := fun w' o (k : Ext w3 w') => frozen_of (k.keep HC.out) o
  have r_HC_w3 := Ext.refl w3
  clear c0 cb1 cE c_HB1_w1 f_HB1_w1 r_HB1_w1
  refine wp_region_plan (Ext w3) [] [0, 1, 2, 3, 4, 5, 6, 7, 8] 9 [] Try.mixed (by kernel_rfl) (by intro c a d v w h; cases d <;> exact h) (Ext.refl _).drew ?_
  simp only [opsAt, List.filterMap_cons, List.filterMap_nil, List.getElem?_toArray, List.getElem?_cons_zero, List.getElem?_cons_succ]
  refine Firsts.nil ?_
  (refine Heads.val (v := ?_) rfl (fun wv hwv => ?_) ?_; rotate_left; (go_simp; with_reducible rfl); simp only [Act.put, List.setIfInBounds_toArray, List.set_cons_zero, List.set_cons_succ])
  (refine Heads.val (v := ?_) rfl (fun wv hwv => ?_) ?_; rotate_left; (go_simp; with_reducible rfl); simp only [Act.put, List.setIfInBounds_toArray, List.set_cons_zero, List.set_cons_succ])
  (refine Heads.val (v := ?_) rfl (fun wv hwv => ?_) ?_; rotate_left; (go_simp; with_reducible rfl); simp only [Act.put, List.setIfInBounds_toArray, List.set_cons_zero, List.set_cons_succ])
  (refine Heads.val (v := ?_) rfl (fun wv hwv => ?_) ?_; rotate_left; (go_simp; with_reducible rfl); simp only [Act.put, List.setIfInBounds_toArray, List.set_cons_zero, List.set_cons_succ])
  (refine Heads.val (v := ?_) rfl (fun wv hwv => ?_) ?_; rotate_left; (go_simp; with_reducible rfl); simp only [Act.put, List.setIfInBounds_toArray, List.set_cons_zero, List.set_cons_succ])
  (refine Heads.val (v := ?_) rfl (fun wv hwv => ?_) ?_; rotate_left; (go_simp; with_reducible rfl); simp only [Act.put, List.setIfInBounds_toArray, List.set_cons_zero, List.set_cons_succ])
  (refine Heads.call (v := ?_) rfl (fun wv hwv => ?_) ?_; rotate_left; (go_simp; simp only [GivesUpon.enter]; refine (c_room _ _ k1).mono ?_; rintro e w' ⟨rfl, hh⟩; refine ⟨?_, hwv.trans hh⟩; with_reducible rfl); simp only [Act.put, List.setIfInBounds_toArray, List.set_cons_zero, List.set_cons_succ])
  (refine Heads.val (v := ?_) rfl (fun wv hwv => ?_) ?_; rotate_left; (go_simp; with_reducible rfl); simp only [Act.put, List.setIfInBounds_toArray, List.set_cons_zero, List.set_cons_succ])
  (refine Heads.val (v := ?_) rfl (fun wv hwv => ?_) ?_; rotate_left; (go_simp; with_reducible rfl); simp only [Act.put, List.setIfInBounds_toArray, List.set_cons_zero, List.set_cons_succ])
  refine Heads.nil ?_
  intro w4 hw4
  have HB4 := Lib.hid (hw4.keep HB3.out)
  have HC4 := Lib.hid (hw4.keep HC.out)
  have E4 := hw4.keep E3
  have c_HB4_w4 := fun w' o (k : Ext w4 w') => k.cellOf HB4.out o
  have f_HB4_w4 := fun w' o (k : Ext w4 w') => frozen_of (k.keep HB4.out) o
  have r_HB4_w4 := Ext.refl w4
  have c_HC4_w4 := fun w' o (k : Ext w4 w') => k.cellOf HC4.out o
  have f_HC4_w4 := fun w' o (k : Ext w4 w') => frozen_of (k.keep HC4.out) o
  have r_HC4_w4 := Ext.refl w4
  go_wp2_with fail
  have HC5 := Lib.hid (heap_far (heap_set HC4.out 2 (.int .i64 (k.used + Fl.room p.cls))) (p := ⟨b, 1, none⟩) (by simp; omega) (.int .i64 0))
  have HB5 := Lib.hid (heap_set (heap_far HB4.out (p := ⟨bc, 2, none⟩) (by simp; omega) (.int .i64 (k.used + Fl.room p.cls))) 1 (.int .i64 0))
  have u5 := (((Upd.refl [bc, b] w4).set (p := ⟨bc, 2, none⟩) (Or.inl (by simp)) (.int .i64 (k.used + Fl.room p.cls))).set (p := ⟨b, 1, none⟩) (Or.inl (by simp)) (.int .i64 0))
  have E5 := u5.keep E4 (by simp; omega)
  have hx4 := hX.trans (x3.trans hw4)
  have h5 := (h.ext hx4).keepS u5 (by
    intro x hx
    rcases List.mem_cons.1 hx with rfl | hx
    · intro hm; have := hlt _ hm; omega
    · rw [List.mem_singleton.1 hx]; exact hb)
  generalize (w4.setCell ⟨bc, 2, none⟩ (.int .i64 (k.used + Fl.room p.cls))).setCell ⟨b, 1, none⟩ (.int .i64 0) = w5 at *
  simp only [List.setIfInBounds_toArray, List.set_cons_zero, List.set_cons_succ] at HC5 HB5
  clear c_HB4_w4 f_HB4_w4 c_HC4_w4 f_HC4_w4 c_HB3_w3 f_HB3_w3 c_HC_w3 f_HC_w3
  have c_HB5_w5 := fun w' o (k : Ext w5 w') => k.cellOf HB5.out o
  have f_HB5_w5 := fun w' o (k : Ext w5 w') => frozen_of (k.keep HB5.out) o
  have r_HB5_w5 := Ext.refl w5
  have c_HC5_w5 := fun w' o (k : Ext w5 w') => k.cellOf HC5.out o
  have f_HC5_w5 := fun w' o (k : Ext w5 w') => frozen_of (k.keep HC5.out) o
  have r_HC5_w5 := Ext.refl w5
  have cE := fun w' o (k : Ext w5 w') => k.cellOf E5 o
  refine wp_region_plan (Ext w5) [] [0, 1, 2, 3, 4, 5, 6, 7, 8, 9, 10, 11, 12, 13] 14 [15] Try.mixed (by kernel_rfl) (by intro c a d v w h; cases d <;> exact h) (Ext.refl _).drew ?_
  simp only [opsAt, List.filterMap_cons, List.filterMap_nil, List.getElem?_toArray, List.getElem?_cons_zero, List.getElem?_cons_succ]
  refine Firsts.nil ?_
  (refine Heads.val (v := ?_) rfl (fun wv hwv => ?_) ?_; rotate_left; (go_simp; with_reducible rfl); simp only [Act.put, List.setIfInBounds_toArray, List.set_cons_zero, List.set_cons_succ])
  (refine Heads.val (v := ?_) rfl (fun wv hwv => ?_) ?_; rotate_left; (go_simp; with_reducible rfl); simp only [Act.put, List.setIfInBounds_toArray, List.set_cons_zero, List.set_cons_succ])
  (refine Heads.val (v := ?_) rfl (fun wv hwv => ?_) ?_; rotate_left; (go_simp; with_reducible rfl); simp only [Act.put, List.setIfInBounds_toArray, List.set_cons_zero, List.set_cons_succ])
  (refine Heads.val (v := ?_) rfl (fun wv hwv => ?_) ?_; rotate_left; (go_simp; with_reducible rfl); simp only [Act.put, List.setIfInBounds_toArray, List.set_cons_zero, List.set_cons_succ])
  (refine Heads.val (v := ?_) rfl (fun wv hwv => ?_) ?_; rotate_left; (go_simp; with_reducible rfl); simp only [Act.put, List.setIfInBounds_toArray, List.set_cons_zero, List.set_cons_succ])
  (refine Heads.val (v := ?_) rfl (fun wv hwv => ?_) ?_; rotate_left; (go_simp; with_reducible rfl); simp only [Act.put, List.setIfInBounds_toArray, List.set_cons_zero, List.set_cons_succ])
  (refine Heads.val (v := ?_) rfl (fun wv hwv => ?_) ?_; rotate_left; (go_simp; with_reducible rfl); simp only [Act.put, List.setIfInBounds_toArray, List.set_cons_zero, List.set_cons_succ])
  (refine Heads.call (v := ?_) rfl (fun wv hwv => ?_) ?_; rotate_left; (go_simp; simp only [GivesUpon.enter]; refine (c_pChunk c _ _ gc (by omega)).mono ?_; rintro e w' ⟨rfl, hh⟩; refine ⟨?_, hwv.trans hh⟩; with_reducible rfl); simp only [Act.put, List.setIfInBounds_toArray, List.set_cons_zero, List.set_cons_succ])
  (refine Heads.val (v := ?_) rfl (fun wv hwv => ?_) ?_; rotate_left; (go_simp; with_reducible rfl); simp only [Act.put, List.setIfInBounds_toArray, List.set_cons_zero, List.set_cons_succ])
  (refine Heads.val (v := ?_) rfl (fun wv hwv => ?_) ?_; rotate_left; (go_simp; with_reducible rfl); simp only [Act.put, List.setIfInBounds_toArray, List.set_cons_zero, List.set_cons_succ])
  (refine Heads.val (v := ?_) rfl (fun wv hwv => ?_) ?_; rotate_left; (go_simp; with_reducible rfl); simp only [Act.put, List.setIfInBounds_toArray, List.set_cons_zero, List.set_cons_succ])
  (refine Heads.val (v := ?_) rfl (fun wv hwv => ?_) ?_; rotate_left; (go_simp; with_reducible rfl); simp only [Act.put, List.setIfInBounds_toArray, List.set_cons_zero, List.set_cons_succ])
  (refine Heads.val (v := ?_) rfl (fun wv hwv => ?_) ?_; rotate_left; (go_simp; with_reducible rfl); simp only [Act.put, List.setIfInBounds_toArray, List.set_cons_zero, List.set_cons_succ])
  (refine Heads.call (v := ?_) rfl (fun wv hwv => ?_) ?_; rotate_left; (go_simp; simp only [GivesUpon.enter]; refine (c_putChunk _ _ _ _ _).mono ?_; rintro e w' ⟨rfl, hh⟩; refine ⟨?_, hwv.trans hh⟩; with_reducible rfl); simp only [Act.put, List.setIfInBounds_toArray, List.set_cons_zero, List.set_cons_succ])
  refine Heads.nil ?_
  intro w6 hw6
  go_wp2_with fail
  refine (e_cas c l σ who _ _ _ _ (h5.ext hw6) hs (Fl.putChunk_lt _)).mono ?_
  rintro e w7 ⟨rfl, h7, u7⟩
  have hub : Upd (b :: l.all) W w7 := (((hx4.upd _).then u5 (by
    intro x hx
    rcases List.mem_cons.1 hx with rfl | hx
    · exact Or.inr (by omega)
    · rw [List.mem_singleton.1 hx]; exact Or.inl (List.mem_cons_self ..))).trans (hw6.upd _)).trans u7.tl
  have HB7 := Lib.hid (u7.keep (hw6.keep HB5.out) hb)
  have E7 := Lib.hid (u7.keep (hw6.keep E5) (by intro hm; have := hlt _ hm; omega))
  have c_HB7_w7 := fun w' o (k : Ext w7 w') => k.cellOf HB7.out o
  have f_HB7_w7 := fun w' o (k : Ext w7 w') => frozen_of (k.keep HB7.out) o
  have r_HB7_w7 := Ext.refl w7
  have cE7 := fun w' o (k : Ext w7 w') => k.cellOf E7.out o
  clear c_HB5_w5 f_HB5_w5 c_HC5_w5 f_HC5_w5 cE
  generalize hcs : σ.cas who (Fl.pChunk c p.at_) p.w (Fl.putChunk ⟨k.state, k.cls, k.used + Fl.room p.cls, k.stamp⟩) = cs at *
  obtain ⟨y, σ'⟩ := cs
  have HCS := Lib.hid (HP.out σ' y rfl)
  clear hcs HP
  cases y
  · go_wp2
    go_ret
    unfold PlaceRes
    rw [HCS.out, if_neg (by decide)]
    exact ⟨rfl, h7, ⟨HB7.out, k1, k2, k3, k4, k5⟩, hub⟩
  · simp only [if_true] at HCS
    obtain ⟨pb1, pb2⟩ := pBase_big gc (k := p.at_) k2 ha
    have ew2 := wrap64_id (n := Fl.pBase c p.at_ + k.used) (by omega) (by omega)
    go_wp2_with fail
    refine wp_region_plan (Ext w7) [1] [0, 2, 3, 4, 5, 6, 7, 8, 9, 10, 11, 12, 13, 14, 15, 16, 17] 18 [19, 20, 21] Try.mixed (by kernel_rfl) (by intro c a d v w h; cases d <;> exact h) (Ext.refl _).drew ?_
    simp only [opsAt, List.filterMap_cons, List.filterMap_nil, List.getElem?_toArray, List.getElem?_cons_zero, List.getElem?_cons_succ]
    (refine Firsts.val (v := ?_) rfl (fun _ => ?_) ?_; rotate_left; (go_simp; with_reducible rfl); simp only [Act.put, List.setIfInBounds_toArray, List.set_cons_zero, List.set_cons_succ])
    refine Firsts.nil ?_
    (refine Heads.val (v := ?_) rfl (fun wv hwv => ?_) ?_; rotate_left; (go_simp; with_reducible rfl); simp only [Act.put, List.setIfInBounds_toArray, List.set_cons_zero, List.set_cons_succ])
    (refine Heads.val (v := ?_) rfl (fun wv hwv => ?_) ?_; rotate_left; (go_simp; with_reducible rfl); simp only [Act.put, List.setIfInBounds_toArray, List.set_cons_zero, List.set_cons_succ])
    (refine Heads.val (v := ?_) rfl (fun wv hwv => ?_) ?_; rotate_left; (go_simp; with_reducible rfl); simp only [Act.put, List.setIfInBounds_toArray, List.set_cons_zero, List.set_cons_succ])
    (refine Heads.val (v := ?_) rfl (fun wv hwv => ?_) ?_; rotate_left; (go_simp; with_reducible rfl); simp only [Act.put, List.setIfInBounds_toArray, List.set_cons_zero, List.set_cons_succ])
    (refine Heads.val (v := ?_) rfl (fun wv hwv => ?_) ?_; rotate_left; (go_simp; with_reducible rfl); simp only [Act.put, List.setIfInBounds_toArray, List.set_cons_zero, List.set_cons_succ])
    (refine Heads.val (v := ?_) rfl (fun wv hwv => ?_) ?_; rotate_left; (go_simp; with_reducible rfl); simp only [Act.put, List.setIfInBounds_toArray, List.set_cons_zero, List.set_cons_succ])
    (refine Heads.val (v := ?_) rfl (fun wv hwv => ?_) ?_; rotate_left; (go_simp; with_reducible rfl); simp only [Act.put, List.setIfInBounds_toArray, List.set_cons_zero, List.set_cons_succ])
    (refine Heads.call (v := ?_) rfl (fun wv hwv => ?_) ?_; rotate_left; (go_simp; simp only [GivesUpon.enter]; refine (c_pBase c _ _ gc (by omega)).mono ?_; rintro e w' ⟨rfl, hh⟩; refine ⟨?_, hwv.trans hh⟩; with_reducible rfl); simp only [Act.put, List.setIfInBounds_toArray, List.set_cons_zero, List.set_cons_succ])
    (refine Heads.val (v := ?_) rfl (fun wv hwv => ?_) ?_; rotate_left; (go_simp; with_reducible rfl); simp only [Act.put, List.setIfInBounds_toArray, List.set_cons_zero, List.set_cons_succ])
    (refine Heads.val (v := ?_) rfl (fun wv hwv => ?_) ?_; rotate_left; (go_simp; with_reducible rfl); simp only [Act.put, List.setIfInBounds_toArray, List.set_cons_zero, List.set_cons_succ])
    (refine Heads.val (v := ?_) rfl (fun wv hwv => ?_) ?_; rotate_left; (go_simp; with_reducible rfl); simp only [Act.put, List.setIfInBounds_toArray, List.set_cons_zero, List.set_cons_succ])
    (refine Heads.val (v := ?_) rfl (fun wv hwv => ?_) ?_; rotate_left; (go_simp; with_reducible rfl); simp only [Act.put, List.setIfInBounds_toArray, List.set_cons_zero, List.set_cons_succ])
    (refine Heads.val (v := ?_) rfl (fun wv hwv => ?_) ?_; rotate_left; (go_simp; with_reducible rfl); simp only [Act.put, List.setIfInBounds_toArray, List.set_cons_zero, List.set_cons_succ])
    (refine Heads.val (v := ?_) rfl (fun wv hwv => ?_) ?_; rotate_left; (go_simp; with_reducible rfl); simp only [Act.put, List.setIfInBounds_toArray, List.set_cons_zero, List.set_cons_succ])
    (refine Heads.val (v := ?_) rfl (fun wv hwv => ?_) ?_; rotate_left; (go_simp; with_reducible rfl); simp only [Act.put, List.setIfInBounds_toArray, List.set_cons_zero, List.set_cons_succ])
    (refine Heads.val (v := ?_) rfl (fun wv hwv => ?_) ?_; rotate_left; (go_simp; with_reducible rfl); simp only [Act.put, List.setIfInBounds_toArray, List.set_cons_zero, List.set_cons_succ])
    (refine Heads.val (v := ?_) rfl (fun wv hwv => ?_) ?_; rotate_left; (go_simp; with_reducible rfl); simp only [Act.put, List.setIfInBounds_toArray, List.set_cons_zero, List.set_cons_succ])
    refine Heads.nil ?_
    intro w8 hw8
    have HB8 := Lib.hid (hw8.keep HB7.out)
    have c_HB8_w8 := fun w' o (k : Ext w8 w') => k.cellOf HB8.out o
    have f_HB8_w8 := fun w' o (k : Ext w8 w') => frozen_of (k.keep HB8.out) o
    have r_HB8_w8 := Ext.refl w8
    clear c_HB7_w7 f_HB7_w7 cE7
    go_wp2
    go_ret
    unfold PlaceRes
    rw [HCS.out]
    refine ⟨rfl, (h7.ext hw8).keep1 (((((Upd.refl [b] _)).set1 _ _).set1 _ _).set1 _ _) hb, ⟨(heap_set (heap_set (heap_set HB8.out _ _) _ _) _ _).trans (by simp), k1, k2, k3, k4, ?_⟩, (hub.extR hw8).trans (((((Upd.refl [b] _)).set1 _ _).set1 _ _).set1 _ _).hd⟩
    simp only
    omega
end Go.Proofs.Ythblhgappldcjaa
