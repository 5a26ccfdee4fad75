/- The contracts of alloc: somebody who makes an object. -/
import Derived.Test.YthblhgappldcjaaFb
namespace Go.Proofs.Ythblhgappldcjaa
open Go Go.RowKit
set_option linter.unusedVariables false

def ptr (b : Nat) : Value := .pointer (some ⟨b, 0, none⟩)

structure AllocAt (W : World) (l : Loc) (F : List Nat) (b : Nat) (a : Fl.Alloc) : Prop where
  ex : ∃ P G : Value, W.heap[b]? = some (.cells #[.int .i64 a.size, .bool a.own, .int .i64 a.pc, .int .i64 a.take.pc, .int .u64 (a.take.top : Nat), .int .i64 a.take.next, .int .i64 a.take.slot, .bool a.take.ok, .int .i64 a.at_, .int .i64 a.gen, P, .int .i64 a.spot.addr, .int .i64 a.spot.chunk, G, .int .i64 a.out.e, .int .u64 (a.out.handle : Nat), .int .i64 a.out.value, .int .i64 a.out.stamp] 148 (0, 0)) ∧
    (a.pc = 2 → ∃ pb, pb ∈ F ∧ pb ≠ b ∧ P = .pointer (some ⟨pb, 0, none⟩) ∧ PlaceAt W pb a.p) ∧
    (a.pc = 7 → ∃ gb, gb ∈ F ∧ gb ≠ b ∧ G = .pointer (some ⟨gb, 0, none⟩) ∧ GiveAt W gb a.give)
  mem : b ∈ F
  out : ∀ x, x ∈ F → x ∉ l.all
  lt : ∀ x, x ∈ F → x < W.heap.size
  take : TakeOk a.take
  at_ : -1 ≤ a.at_ ∧ a.at_ ≤ 131071
  spot : 0 ≤ a.spot.addr ∧ a.spot.addr ≤ 1000000000 ∧ 0 ≤ a.spot.chunk ∧ a.spot.chunk ≤ 1000000
  pc : 0 ≤ a.pc ∧ a.pc ≤ 7

def AllocRes (c : Fl.Cfg) (who : Int) (σ : Fl.Mem) (a : Fl.Alloc) (l : Loc) (F : List Nat) (b : Nat) (W : World) (e : Ending) (w' : World) : Prop :=
  e = .returned (.bool (a.step c who σ).1) ∧ MemAt w' l (a.step c who σ).2.2 ∧ Upd (F ++ l.all) W w' ∧
    ∃ F', AllocAt w' l F' b (a.step c who σ).2.1 ∧ ∀ x, x ∈ F' → x ∈ F ∨ W.heap.size ≤ x

def allocSafe (who : Int) (σ : Fl.Mem) (a : Fl.Alloc) : Prop := a.pc = 2 → placeSafe who σ a.p

set_option maxHeartbeats 400000 in
theorem a_end (c : Fl.Cfg) (l : Loc) (σ : Fl.Mem) (who : Int) (b : Nat) (x : Int) (x0 x1 x2 x3 x4 x5 x6 x7 x8 x9 x10 x11 x12 x13 x14 x15 x16 x17 : Value) (W : World) (h : MemAt W l σ) (hb : b ∉ l.all)
    (hB : W.heap[b]? = some (.cells #[x0, x1, x2, x3, x4, x5, x6, x7, x8, x9, x10, x11, x12, x13, x14, x15, x16, x17] 148 (0, 0))) :
    Calls Try.prog 110 #[.pointer (some ⟨b, 0, none⟩), .agg #[.int .i64 c.threads, .int .i64 c.slots, .int .i64 c.chunks, .int .i64 c.words, .int .i64 c.gens, .int .i64 c.sparse, .int .i64 c.tries, .pointer (some ⟨l.m, 0, none⟩), .int .i64 who], .int .i64 x] W fun e w' => e = .returned (.tuple #[]) ∧
      w'.heap[b]? = some (.cells #[x0, x1, x2, x3, x4, x5, x6, x7, x8, x9, x10, x11, x12, x13, .int .i64 x, .int .u64 0, .int .i64 0, .int .i64 σ.steps] 148 (0, 0)) ∧ Upd [b] W w' := by
  have hbl := lt_of_heap hB
  have hE := heap_new W (.cells #[.int .i64 c.threads, .int .i64 c.slots, .int .i64 c.chunks, .int .i64 c.words, .int .i64 c.gens, .int .i64 c.sparse, .int .i64 c.tries, .pointer (some ⟨l.m, 0, none⟩), .int .i64 who] 27)
  have hX := (Ext.refl W).alloc (.cells #[.int .i64 c.threads, .int .i64 c.slots, .int .i64 c.chunks, .int .i64 c.words, .int .i64 c.gens, .int .i64 c.sparse, .int .i64 c.tries, .pointer (some ⟨l.m, 0, none⟩), .int .i64 who] 27)
  have HB1 := Lib.hid (hX.keep hB)
  have c0 := fun w' o (k : Ext W w') => k.cellOf hB o
  clear hB
  go_enter Try.func110, Try.ntmps110
  go_wp2_with fail
  generalize W.alloc (.cells #[.int .i64 c.threads, .int .i64 c.slots, .int .i64 c.chunks, .int .i64 c.words, .int .i64 c.gens, .int .i64 c.sparse, .int .i64 c.tries, .pointer (some ⟨l.m, 0, none⟩), .int .i64 who] 27) = w1 at *
  have cE := fun w' o (k : Ext w1 w') => k.cellOf hE o
  have cb1 := fun w' o (k : Ext w1 w') => c0 w' o (hX.trans k)
  have r1 := Ext.refl w1
  have c_HB1_w1 := fun w' o (k : Ext w1 w') => k.cellOf HB1.out o
  have f_HB1_w1 := fun w' o (k : Ext w1 w') => frozen_of (k.keep HB1.out) o
  have r_HB1_w1 := Ext.refl w1
  refine (e_now c l σ who _ (h.ext hX)).mono ?_
  rintro e w2 ⟨rfl, x2'⟩
  have HB2 := Lib.hid (x2'.keep HB1.out)
  have c_HB2_w2 := fun w' o (k : Ext w2 w') => k.cellOf HB2.out o
  have f_HB2_w2 := fun w' o (k : Ext w2 w') => frozen_of (k.keep HB2.out) o
  have r_HB2_w2 := Ext.refl w2
  clear c0 cb1 cE c_HB1_w1 f_HB1_w1
  go_wp2
  go_end0
  refine ⟨rfl, ?_, (((hX.trans x2').upd _).trans ((((((Upd.refl [b] _)).set1 _ _).set1 _ _).set1 _ _).set1 _ _))⟩
  exact (heap_set (heap_set (heap_set (heap_set HB2.out _ _) _ _) _ _) _ _).trans (by simp)

theorem n_alloc (s : Int) (o : Bool) (l : Loc) (W : World) (hl : ∀ x, x ∈ l.all → x < W.heap.size) : Calls Try.prog 75 #[.int .i64 s, .bool o] W fun e w' => e = .returned (.pointer (some ⟨W.heap.size, 0, none⟩)) ∧ AllocAt w' l [W.heap.size] W.heap.size (Fl.Alloc.new s o) ∧ Ext W w' := by
  have hE := heap_new W (.cells #[.int .i64 s, .bool o, .int .i64 0, .int .i64 0, .int .u64 0, .int .i64 0, .int .i64 0, .bool false, .int .i64 0, .int .i64 0, .pointer none, .int .i64 0, .int .i64 0, .pointer none, .int .i64 0, .int .u64 0, .int .i64 0, .int .i64 0] 148)
  have hX := (Ext.refl W).alloc (.cells #[.int .i64 s, .bool o, .int .i64 0, .int .i64 0, .int .u64 0, .int .i64 0, .int .i64 0, .bool false, .int .i64 0, .int .i64 0, .pointer none, .int .i64 0, .int .i64 0, .pointer none, .int .i64 0, .int .u64 0, .int .i64 0, .int .i64 0] 148)
  go_enter Try.func75, Try.ntmps75
  go_wp2
  go_ret
  refine ⟨rfl, ⟨⟨.pointer none, .pointer none, hE, fun h => ?_, fun h => ?_⟩, by simp, ?_, ?_, ⟨?_, ?_, ?_⟩, ?_, ?_, ?_⟩, hX⟩
  · simp [Fl.Alloc.new] at h
  · simp [Fl.Alloc.new] at h
  · intro x hx hm
    have := hl x hm
    rw [List.mem_singleton.1 hx] at this; omega
  · intro x hx
    rw [List.mem_singleton.1 hx]; exact lt_of_heap hE
  all_goals simp [Fl.Alloc.new]

set_option maxHeartbeats 400000 in
theorem a_head (l : Loc) (F : List Nat) (b : Nat) (a : Fl.Alloc) (k : Int) (W : World) (ha : AllocAt W l F b a) :
    Calls Try.prog 114 #[.pointer (some ⟨b, 0, none⟩), .int .i64 k] W fun e w' => e = .returned (.int .u64 (a.head k : Nat)) ∧ Ext W w' := by
  obtain ⟨⟨P, G, hB, -, -⟩, -, -, -, -, -, -, -⟩ := ha
  have c0 := fun w' o (k : Ext W w') => k.cellOf hB o
  clear hB
  go_enter Try.func114, Try.ntmps114
  go_wp2_with fail
  refine wp_region_plan (Ext W) [] [0, 1, 2, 3, 4, 5, 6, 7, 8, 9, 10, 11, 12, 13, 14, 15, 16, 17, 18] 19 [] Try.mixed (by kernel_rfl) (by intro c a d v w h; cases d <;> exact h) (Ext.refl _).drew ?_
  simp only [opsAt, List.filterMap_cons, List.filterMap_nil, List.getElem?_toArray, List.getElem?_cons_zero, List.getElem?_cons_succ]
  refine Firsts.nil ?_
  (refine Heads.val (v := ?_) rfl (fun wv hwv => ?_) ?_; rotate_left; (go_simp; with_reducible rfl); simp only [Act.put, List.setIfInBounds_toArray, List.set_cons_zero, List.set_cons_succ])
  (refine Heads.val (v := ?_) rfl (fun wv hwv => ?_) ?_; rotate_left; (go_simp; with_reducible rfl); simp only [Act.put, List.setIfInBounds_toArray, List.set_cons_zero, List.set_cons_succ])
  (refine Heads.val (v := ?_) rfl (fun wv hwv => ?_) ?_; rotate_left; (go_simp; with_reducible rfl); simp only [Act.put, List.setIfInBounds_toArray, List.set_cons_zero, List.set_cons_succ])
  (refine Heads.val (v := ?_) rfl (fun wv hwv => ?_) ?_; rotate_left; (go_simp; with_reducible rfl); simp only [Act.put, List.setIfInBounds_toArray, List.set_cons_zero, List.set_cons_succ])
  (refine Heads.val (v := ?_) rfl (fun wv hwv => ?_) ?_; rotate_left; (go_simp; with_reducible rfl); simp only [Act.put, List.setIfInBounds_toArray, List.set_cons_zero, List.set_cons_succ])
  (refine Heads.val (v := ?_) rfl (fun wv hwv => ?_) ?_; rotate_left; (go_simp; with_reducible rfl); simp only [Act.put, List.setIfInBounds_toArray, List.set_cons_zero, List.set_cons_succ])
  (refine Heads.val (v := ?_) rfl (fun wv hwv => ?_) ?_; rotate_left; (go_simp; with_reducible rfl); simp only [Act.put, List.setIfInBounds_toArray, List.set_cons_zero, List.set_cons_succ])
  (refine Heads.val (v := ?_) rfl (fun wv hwv => ?_) ?_; rotate_left; (go_simp; with_reducible rfl); simp only [Act.put, List.setIfInBounds_toArray, List.set_cons_zero, List.set_cons_succ])
  (refine Heads.val (v := ?_) rfl (fun wv hwv => ?_) ?_; rotate_left; (go_simp; with_reducible rfl); simp only [Act.put, List.setIfInBounds_toArray, List.set_cons_zero, List.set_cons_succ])
  (refine Heads.val (v := ?_) rfl (fun wv hwv => ?_) ?_; rotate_left; (go_simp; with_reducible rfl); simp only [Act.put, List.setIfInBounds_toArray, List.set_cons_zero, List.set_cons_succ])
  (refine Heads.val (v := ?_) rfl (fun wv hwv => ?_) ?_; rotate_left; (go_simp; with_reducible rfl); simp only [Act.put, List.setIfInBounds_toArray, List.set_cons_zero, List.set_cons_succ])
  (refine Heads.val (v := ?_) rfl (fun wv hwv => ?_) ?_; rotate_left; (go_simp; with_reducible rfl); simp only [Act.put, List.setIfInBounds_toArray, List.set_cons_zero, List.set_cons_succ])
  (refine Heads.val (v := ?_) rfl (fun wv hwv => ?_) ?_; rotate_left; (go_simp; with_reducible rfl); simp only [Act.put, List.setIfInBounds_toArray, List.set_cons_zero, List.set_cons_succ])
  (refine Heads.val (v := ?_) rfl (fun wv hwv => ?_) ?_; rotate_left; (go_simp; with_reducible rfl); simp only [Act.put, List.setIfInBounds_toArray, List.set_cons_zero, List.set_cons_succ])
  (refine Heads.val (v := ?_) rfl (fun wv hwv => ?_) ?_; rotate_left; (go_simp; with_reducible rfl); simp only [Act.put, List.setIfInBounds_toArray, List.set_cons_zero, List.set_cons_succ])
  (refine Heads.val (v := ?_) rfl (fun wv hwv => ?_) ?_; rotate_left; (go_simp; with_reducible rfl); simp only [Act.put, List.setIfInBounds_toArray, List.set_cons_zero, List.set_cons_succ])
  (refine Heads.val (v := ?_) rfl (fun wv hwv => ?_) ?_; rotate_left; (go_simp; with_reducible rfl); simp only [Act.put, List.setIfInBounds_toArray, List.set_cons_zero, List.set_cons_succ])
  (refine Heads.val (v := ?_) rfl (fun wv hwv => ?_) ?_; rotate_left; (go_simp; with_reducible rfl); simp only [Act.put, List.setIfInBounds_toArray, List.set_cons_zero, List.set_cons_succ])
  (refine Heads.call (v := ?_) rfl (fun wv hwv => ?_) ?_; rotate_left; (go_simp; simp only [GivesUpon.enter]; refine (c_putHead _ _ _ _ _ _).mono ?_; rintro e w' ⟨rfl, hh⟩; refine ⟨?_, hwv.trans hh⟩; with_reducible rfl); simp only [Act.put, List.setIfInBounds_toArray, List.set_cons_zero, List.set_cons_succ])
  refine Heads.nil ?_
  intro w1 hw1
  go_wp2
  go_ret
  exact ⟨rfl, hw1⟩

set_option maxHeartbeats 400000 in
theorem a_done (l : Loc) (F : List Nat) (b : Nat) (a : Fl.Alloc) (W : World) (ha : AllocAt W l F b a) :
    Calls Try.prog 77 #[.pointer (some ⟨b, 0, none⟩)] W fun e w' => e = .returned (.agg #[.int .i64 a.out.e, .int .u64 (a.out.handle : Nat), .int .i64 a.out.value, .int .i64 a.out.stamp]) ∧ Ext W w' := by
  obtain ⟨⟨P, G, hB, -, -⟩, -, -, -, -, -, -, -⟩ := ha
  have hbl := lt_of_heap hB
  have c0 := fun o => cell_of hB o
  clear hB
  go_enter Try.func77, Try.ntmps77
  go_wp2
  refine bodyPost_ret (v := .agg #[.int .i64 a.out.e, .int .u64 (a.out.handle : Nat), .int .i64 a.out.value, .int .i64 a.out.stamp]) ?_ rfl ⟨rfl, ?_⟩
  · simp [results, Try.results77, go_sem]
  · exact (Ext.refl _).alloc _

theorem alloc0a (c : Fl.Cfg) (who : Int) (σ : Fl.Mem) (a : Fl.Alloc) (h : a.pc = 0) (hk : Fl.cls a.size < 0) : a.step c who σ = (true, { a with out := ⟨5, 0, 0, σ.steps⟩ }, σ) := by
  unfold Fl.Alloc.step; rw [if_pos h, if_pos hk]
theorem alloc0b (c : Fl.Cfg) (who : Int) (σ : Fl.Mem) (a : Fl.Alloc) (h : a.pc = 0) (hk : ¬ Fl.cls a.size < 0) (y : Bool) (t : Fl.Take) (m : Fl.Mem) (ht : a.take.step c who σ = (y, t, m)) :
    a.step c who σ = if y = true then (if t.ok = true then (false, { a with take := t, at_ := t.slot, pc := 1 }, m) else (true, { a with take := t, at_ := 0, pc := 1, out := ⟨7, 0, 0, m.steps⟩ }, m)) else (false, { a with take := t }, m) := by
  unfold Fl.Alloc.step; rw [if_pos h, if_neg hk]; simp only [ht]
theorem alloc1 (c : Fl.Cfg) (who : Int) (σ : Fl.Mem) (a : Fl.Alloc) (h : a.pc = 1) (x : Nat) (m : Fl.Mem) (hl : σ.load who (Fl.pSlot c a.at_) = (x, m)) :
    a.step c who σ = (false, { a with gen := (Fl.slotOf x).gen, pc := 2, p := Fl.Place.new (Fl.cls a.size) }, m) := by
  unfold Fl.Alloc.step; rw [if_neg (by omega), if_pos h]; simp only [hl]
theorem alloc2 (c : Fl.Cfg) (who : Int) (σ : Fl.Mem) (a : Fl.Alloc) (h : a.pc = 2) (y : Bool) (p : Fl.Place) (m : Fl.Mem) (hp : a.p.step c who σ = (y, p, m)) :
    a.step c who σ = if y = true then (if p.ok = true then (false, { a with p := p, spot := p.spot, pc := 3 }, m) else (false, { a with p := p, spot := ⟨0, 0⟩, pc := 7, out := ⟨6, 0, 0, m.steps⟩, give := ⟨0, a.at_, 0⟩ }, m)) else (false, { a with p := p }, m) := by
  unfold Fl.Alloc.step; rw [if_neg (by omega), if_neg (by omega), if_pos h]; simp only [hp]
theorem alloc3 (c : Fl.Cfg) (who : Int) (σ : Fl.Mem) (a : Fl.Alloc) (h : a.pc = 3) : a.step c who σ = (false, { a with pc := 4 }, σ.add who (Fl.pChunk c a.spot.chunk + 1) (Fl.room (Fl.cls a.size))) := by
  unfold Fl.Alloc.step; rw [if_neg (by omega), if_neg (by omega), if_neg (by omega), if_pos h]
theorem alloc4 (c : Fl.Cfg) (who : Int) (σ : Fl.Mem) (a : Fl.Alloc) (h : a.pc = 4) : a.step c who σ = (false, { a with pc := 5 }, σ.store who a.spot.addr (a.head 1)) := by
  unfold Fl.Alloc.step; rw [if_neg (by omega), if_neg (by omega), if_neg (by omega), if_neg (by omega), if_pos h]
theorem alloc5 (c : Fl.Cfg) (who : Int) (σ : Fl.Mem) (a : Fl.Alloc) (h : a.pc = 5) (m : Fl.Mem) (hm : σ.store who (Fl.pSlot c a.at_) (Fl.putSlot ⟨1, a.spot.addr, a.gen, 0⟩) = m) :
    a.step c who σ = (false, { a with pc := 6, out := ⟨0, Fl.putHandle ⟨a.at_, a.gen⟩, 0, m.steps⟩ }, m) := by
  unfold Fl.Alloc.step; rw [if_neg (by omega), if_neg (by omega), if_neg (by omega), if_neg (by omega), if_neg (by omega), if_pos h]; simp only [hm]
theorem alloc6 (c : Fl.Cfg) (who : Int) (σ : Fl.Mem) (a : Fl.Alloc) (h : a.pc = 6) : a.step c who σ = (true, a, σ.store who a.spot.addr (a.head 2)) := by
  unfold Fl.Alloc.step; rw [if_neg (by omega), if_neg (by omega), if_neg (by omega), if_neg (by omega), if_neg (by omega), if_neg (by omega), if_pos h]
theorem alloc7 (c : Fl.Cfg) (who : Int) (σ : Fl.Mem) (a : Fl.Alloc) (h : a.pc = 7) (y : Bool) (g : Fl.Give) (m : Fl.Mem) (hg : a.give.step c who σ = (y, g, m)) : a.step c who σ = (y, { a with give := g }, m) := by
  unfold Fl.Alloc.step; rw [if_neg (by omega), if_neg (by omega), if_neg (by omega), if_neg (by omega), if_neg (by omega), if_neg (by omega), if_neg (by omega)]; simp only [hg]

/-- From a step that touches one block of the object's own, to the object's whole. -/
theorem Upd.own {F : List Nat} {l : Loc} {b : Nat} {w w' : World} (h : Upd (b :: l.all) w w') (hb : b ∈ F) : Upd (F ++ l.all) w w' :=
  h.mono (fun x hx => by
    rcases List.mem_cons.1 hx with rfl | hx
    · exact List.mem_append_left _ hb
    · exact List.mem_append_right _ hx)
theorem Upd.own1 {F : List Nat} {l : Loc} {b : Nat} {w w' : World} (h : Upd [b] w w') (hb : b ∈ F) : Upd (F ++ l.all) w w' := Upd.own h.hd hb
theorem Upd.mem {F : List Nat} {l : Loc} {w w' : World} (h : Upd l.all w w') : Upd (F ++ l.all) w w' := h.mono (fun x hx => List.mem_append_right _ hx)

set_option maxHeartbeats 1000000 in
set_option maxRecDepth 100000 in
theorem a_step0 (c : Fl.Cfg) (l : Loc) (σ : Fl.Mem) (who : Int) (F : List Nat) (b : Nat) (a : Fl.Alloc) (W : World) (gc : GoodC c) (h : MemAt W l σ) (hs : 0 ≤ σ.steps ∧ σ.steps < 4611686018427387904)
    (ha : AllocAt W l F b a) (p0 : a.pc = 0) :
    Calls Try.prog 76 #[.pointer (some ⟨b, 0, none⟩), .agg #[.int .i64 c.threads, .int .i64 c.slots, .int .i64 c.chunks, .int .i64 c.words, .int .i64 c.gens, .int .i64 c.sparse, .int .i64 c.tries, .pointer (some ⟨l.m, 0, none⟩), .int .i64 who]] W (AllocRes c who σ a l F b W) := by
  have HA := Lib.hid (fun hk => alloc0a c who σ a p0 hk)
  have HT := Lib.hid (fun hk => alloc0b c who σ a p0 hk)
  have HP0 := Lib.hid p0
  obtain ⟨⟨P, G, hB, -, -⟩, hbF, hout, hFl, htk, hat, hsp, hpc⟩ := ha
  have hb := hout b hbF
  have hlt := h.lt
  have hbl := lt_of_heap hB
  have hE := heap_new W (.cells #[.int .i64 c.threads, .int .i64 c.slots, .int .i64 c.chunks, .int .i64 c.words, .int .i64 c.gens, .int .i64 c.sparse, .int .i64 c.tries, .pointer (some ⟨l.m, 0, none⟩), .int .i64 who] 27)
  have hX := (Ext.refl W).alloc (.cells #[.int .i64 c.threads, .int .i64 c.slots, .int .i64 c.chunks, .int .i64 c.words, .int .i64 c.gens, .int .i64 c.sparse, .int .i64 c.tries, .pointer (some ⟨l.m, 0, none⟩), .int .i64 who] 27)
  have hsE := lt_of_heap hE
  rw [p0] at hB
  have HB1 := Lib.hid (hX.keep hB)
  have c0 := fun w' o (k : Ext W w') => k.cellOf hB o
  clear hB
  go_enter Try.func76, Try.ntmps76
  go_wp2_with fail
  generalize W.alloc (.cells #[.int .i64 c.threads, .int .i64 c.slots, .int .i64 c.chunks, .int .i64 c.words, .int .i64 c.gens, .int .i64 c.sparse, .int .i64 c.tries, .pointer (some ⟨l.m, 0, none⟩), .int .i64 who] 27) = w1 at *
  have cE := fun w' o (k : Ext w1 w') => k.cellOf hE o
  have cb1 := fun w' o (k : Ext w1 w') => c0 w' o (hX.trans k)
  have r1 := Ext.refl w1
  have c_HB1_w1 := fun w' o (k : Ext w1 w') => k.cellOf HB1.out o
  have f_HB1_w1 := fun w' o (k : Ext w1 w') => frozen_of (k.keep HB1.out) o
  have r_HB1_w1 := Ext.refl w1
  refine (c_cls _ _).mono ?_
  rintro e w2 ⟨rfl, x2⟩
  have hcr := Fl.cls_range a.size
  by_cases hk : Fl.cls a.size < 0
  · have HE := Lib.hid (HA.out hk)
    clear HA HT
    go_wp2_with fail
    refine (a_end c l σ who b _ _ _ _ _ _ _ _ _ _ _ _ _ _ _ _ _ _ _ _ (h.ext (hX.trans x2)) hb (x2.keep HB1.out)).mono ?_
    rintro e w3 ⟨rfl, hb3, u3⟩
    go_wp2
    go_ret
    unfold AllocRes
    rw [HE.out]
    refine ⟨rfl, (h.ext (hX.trans x2)).keep1 u3 hb, ((hX.trans x2).upd _).trans (u3.own1 hbF), F, ⟨⟨P, G, ?_, fun q => ?_, fun q => ?_⟩, hbF, hout, ?_, htk, hat, hsp, hpc⟩, fun x hx => Or.inl hx⟩
    · rw [HP0.out]; exact hb3
    · simp only [HP0.out] at q; omega
    · simp only [HP0.out] at q; omega
    · intro x hx; have := hFl x hx; have := (hX.trans x2).size; have := u3.size; omega
  · go_wp2_with fail
    refine wp_region_plan (Ext w1) [] [0, 1, 2, 3] 4 [] Try.mixed (by kernel_rfl) (by intro c a d v w h; cases d <;> exact h) (x2).drew ?_
    simp only [opsAt, List.filterMap_cons, List.filterMap_nil, List.getElem?_toArray, List.getElem?_cons_zero, List.getElem?_cons_succ]
    refine Firsts.nil ?_
    (refine Heads.val (v := ?_) rfl (fun wv hwv => ?_) ?_; rotate_left; (go_simp; with_reducible rfl); simp only [Act.put, List.setIfInBounds_toArray, List.set_cons_zero, List.set_cons_succ])
    (refine Heads.val (v := ?_) rfl (fun wv hwv => ?_) ?_; rotate_left; (go_simp; with_reducible rfl); simp only [Act.put, List.setIfInBounds_toArray, List.set_cons_zero, List.set_cons_succ])
    (refine Heads.val (v := ?_) rfl (fun wv hwv => ?_) ?_; rotate_left; (go_simp; with_reducible rfl); simp only [Act.put, List.setIfInBounds_toArray, List.set_cons_zero, List.set_cons_succ])
    (refine Heads.val (v := ?_) rfl (fun wv hwv => ?_) ?_; rotate_left; (go_simp; with_reducible rfl); simp only [Act.put, List.setIfInBounds_toArray, List.set_cons_zero, List.set_cons_succ])
    refine Heads.nil ?_
    intro w3 hw3
    go_wp2_with fail
    have hx3 := hX.trans hw3
    refine (s_take c l σ who b a.take _ _ _ _ _ _ _ _ _ _ _ _ _ _ gc (h.ext hx3) hs (hw3.keep HB1.out) htk hb).mono ?_
    rintro e w4 ⟨rfl, h4, hb4, htk4, u4⟩
    have E4 := u4.keep (hw3.keep hE) (by
      intro hm
      rcases List.mem_cons.1 hm with hm | hm
      · omega
      · have := hlt _ hm; omega)
    have HT4 := Lib.hid (HT.out hk)
    clear HA HT
    generalize hst : a.take.step c who σ = st at *
    obtain ⟨y, t, σ'⟩ := st
    simp only at h4 hb4 htk4
    have HE := Lib.hid (HT4.out y t σ' rfl)
    have HB4 := Lib.hid hb4
    have hub : Upd (F ++ l.all) W w4 := (hx3.upd _).trans (u4.own hbF)
    have hF4 : ∀ x, x ∈ F → x < w4.heap.size := fun x hx => by have := hFl x hx; have := hub.size; omega
    have c_HB4_w4 := fun w' o (k : Ext w4 w') => k.cellOf HB4.out o
    have f_HB4_w4 := fun w' o (k : Ext w4 w') => frozen_of (k.keep HB4.out) o
    have r_HB4_w4 := Ext.refl w4
    have cE4 := fun w' o (k : Ext w4 w') => k.cellOf E4 o
    clear c0 cb1 cE c_HB1_w1 f_HB1_w1 HT4 hst hb4
    cases y
    · have HF := Lib.hid (HE.out.trans (if_neg (by decide)))
      clear HE
      go_wp2
      go_ret
      unfold AllocRes
      rw [HF.out]
      refine ⟨rfl, h4, hub, F, ⟨⟨P, G, ?_, fun q => ?_, fun q => ?_⟩, hbF, hout, hF4, htk4, hat, hsp, hpc⟩, fun x hx => Or.inl hx⟩
      · rw [HP0.out]; exact HB4.out
      · simp only [HP0.out] at q; omega
      · simp only [HP0.out] at q; omega
    · have HE2 := Lib.hid (HE.out.trans (if_pos rfl))
      clear HE
      go_wp2_with fail
      refine (s_takeSlot b t _ _ _ _ _ _ _ _ _ _ _ _ _ _ HB4.out).mono ?_
      rintro e w5 ⟨rfl, x5⟩
      have HB5 := Lib.hid (x5.keep HB4.out)
      have E5 := x5.keep E4
      have c_HB5_w5 := fun w' o (k : Ext w5 w') => k.cellOf HB5.out o
      have f_HB5_w5 := fun w' o (k : Ext w5 w') => frozen_of (k.keep HB5.out) o
      have r_HB5_w5 := Ext.refl w5
      have cE5 := fun w' o (k : Ext w5 w') => k.cellOf E5 o
      clear c_HB4_w4 f_HB4_w4 cE4
      obtain ⟨tsl, tnx, ttp⟩ := htk4
      cases hok : t.ok
      · have HF := Lib.hid (HE2.out.trans (if_neg (by rw [hok]; decide)))
        clear HE2
        go_wp2_with fail
        have HB6 := Lib.hid (heap_set (heap_set HB5.out 8 (.int .i64 0)) 2 (.int .i64 1))
        have u6 := ((Upd.refl [b] w5).set1 8 (.int .i64 0)).set1 2 (.int .i64 1)
        simp only [List.setIfInBounds_toArray, List.set_cons_zero, List.set_cons_succ] at HB6
        refine (a_end c l σ' who b _ _ _ _ _ _ _ _ _ _ _ _ _ _ _ _ _ _ _ _ ((h4.ext x5).keep1 u6 hb) hb HB6.out).mono ?_
        rintro e w7 ⟨rfl, hb7, u7⟩
        go_wp2
        go_ret
        unfold AllocRes
        rw [HF.out]
        refine ⟨rfl, ((h4.ext x5).keep1 u6 hb).keep1 u7 hb, ((hub.extR x5).trans (u6.own1 hbF)).trans (u7.own1 hbF), F, ⟨⟨P, G, hb7, fun q => ?_, fun q => ?_⟩, hbF, hout, ?_, ⟨tsl, tnx, ttp⟩, by simp, hsp, by simp⟩, fun x hx => Or.inl hx⟩
        · simp at q
        · simp at q
        · intro x hx; have := hF4 x hx; have := x5.size; have := u6.size; have := u7.size; omega
      · have HF := Lib.hid (HE2.out.trans (if_pos hok))
        clear HE2
        go_wp2
        go_ret
        unfold AllocRes
        rw [HF.out]
        refine ⟨rfl, (h4.ext x5).keep1 ((((Upd.refl [b] _)).set1 _ _).set1 _ _) hb, (hub.extR x5).trans (((((Upd.refl [b] _)).set1 _ _).set1 _ _).own1 hbF), F, ⟨⟨P, G, ?_, fun q => ?_, fun q => ?_⟩, hbF, hout, ?_, ⟨tsl, tnx, ttp⟩, tsl, hsp, by simp⟩, fun x hx => Or.inl hx⟩
        · exact (heap_set (heap_set HB5.out _ _) _ _).trans (by simp)
        · simp at q
        · simp at q
        · intro x hx; have := hF4 x hx; have := x5.size; simp; omega
end Go.Proofs.Ythblhgappldcjaa
