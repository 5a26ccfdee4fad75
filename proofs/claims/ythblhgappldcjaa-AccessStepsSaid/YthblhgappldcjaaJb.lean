/- A fresh arena. -/
import Derived.Test.YthblhgappldcjaaJa
import Derived.Deep.LoopGhost
namespace Go.Proofs.Ythblhgappldcjaa
open Go Go.RowKit
set_option linter.unusedVariables false

theorem Ext.updNew {W w w' : World} {S : List Nat} (h : Ext W w) (u : Upd S w w') (hS : ∀ x, x ∈ S → W.heap.size ≤ x) : Ext W w' :=
  ((h.upd []).then u (fun x hx => Or.inr (hS x hx))).ext

theorem pLen_range {c : Fl.Cfg} (g : GoodC c) : 1 ≤ Fl.pLen c ∧ Fl.pLen c ≤ 1048576 := by
  obtain ⟨v1, v2⟩ := g.chunks
  have h := pBase_range g (k := c.chunks) (by omega) (by omega)
  obtain ⟨t1, t2⟩ := g.threads
  obtain ⟨u1, u2⟩ := g.slots
  obtain ⟨x1, x2⟩ := g.words
  have hm : 0 ≤ c.words * c.chunks := Int.mul_nonneg (by omega) (by omega)
  unfold Fl.pLen
  refine ⟨?_, by omega⟩
  unfold Fl.pBase
  omega

theorem store_steps (σ : Fl.Mem) (who a : Int) (v : Nat) : σ.steps ≤ (σ.store who a v).steps ∧ (σ.store who a v).steps ≤ σ.steps + 1 ∧ (σ.store who a v).who = who := by
  unfold Fl.Mem.store
  split
  · simp [Fl.Mem.stp, Fl.Mem.setw]; omega
  · simp; omega

set_option maxHeartbeats 1000000 in
theorem n_fresh (c : Fl.Cfg) (W : World) (gc : GoodC c) :
    Calls Try.prog 74 #[.agg #[.int .i64 c.threads, .int .i64 c.slots, .int .i64 c.chunks, .int .i64 c.words, .int .i64 c.gens, .int .i64 c.sparse, .int .i64 c.tries]] W fun e w' => ∃ l : Loc, e = .returned (.tuple #[.pointer (some ⟨l.m, 0, none⟩), .int .i64 0]) ∧ MemAt w' l (Fl.fresh c) ∧ Ext W w' ∧ ∀ x, x ∈ l.all → W.heap.size ≤ x := by
  have hE := heap_new W (.cells #[.int .i64 c.threads, .int .i64 c.slots, .int .i64 c.chunks, .int .i64 c.words, .int .i64 c.gens, .int .i64 c.sparse, .int .i64 c.tries] 24)
  have hX := (Ext.refl W).alloc (.cells #[.int .i64 c.threads, .int .i64 c.slots, .int .i64 c.chunks, .int .i64 c.words, .int .i64 c.gens, .int .i64 c.sparse, .int .i64 c.tries] 24)
  have hsE := lt_of_heap hE
  obtain ⟨g1, g2⟩ := gc.slots
  obtain ⟨pl1, pl2⟩ := pLen_range gc
  have hS : ∃ n : Nat, c.slots = (n : Int) := ⟨c.slots.toNat, by omega⟩
  obtain ⟨n, hn⟩ := hS
  have hP : ∃ n : Nat, Fl.pLen c = (n : Int) := ⟨(Fl.pLen c).toNat, by omega⟩
  obtain ⟨p, hp⟩ := hP
  have HN := Lib.hid hn
  have HP := Lib.hid hp
  clear hn hp
  go_enter Try.func74, Try.ntmps74
  go_wp2_with fail
  generalize W.alloc (.cells #[.int .i64 c.threads, .int .i64 c.slots, .int .i64 c.chunks, .int .i64 c.words, .int .i64 c.gens, .int .i64 c.sparse, .int .i64 c.tries] 24) = w1 at *
  have cE := fun w' o (k : Ext w1 w') => k.cellOf hE o
  refine (c_check c _ gc).mono ?_
  rintro e w2 ⟨rfl, x2⟩
  have r2 := Ext.refl w2
  go_wp2_with fail
  refine (c_pLen c _ gc).mono ?_
  rintro e w3 ⟨rfl, x3⟩
  go_wp2_with fail
  rw [HP.out] at pl1 pl2 ⊢
  refine (n_mem p _ (by omega) (by omega)).mono ?_
  rintro e w4 ⟨l, rfl, h4, x4, hnew⟩
  have hx4 := x2.trans (x3.trans x4)
  have E4 := hx4.keep hE
  clear cE
  have cE4 := fun w' o (k : Ext w4 w') => k.cellOf E4 o
  have r4 := Ext.refl w4
  go_wp2_with fail
  have hE1 := hX.size
  have hlW : ∀ x, x ∈ l.all → W.heap.size < x := fun x hx => by have := hnew x hx; have := x2.size; have := x3.size; omega
  go_loopg [21] n (fun k i wr => ∃ (σ : Fl.Mem) (j : Nat), i = .int .i64 (j : Int) ∧ j + k = n ∧ MemAt wr l σ ∧ Fl.freshLoop c k j σ = Fl.freshLoop c n 0 (Fl.Mem.fresh0 c) ∧ 0 ≤ σ.steps ∧ σ.steps ≤ 2 * j ∧ σ.who = 0 ∧ Upd l.all w4 wr)
  case atStart =>
    refine ⟨_, 0, rfl, by omega, h4, ?_, by simp, by simp, rfl, Upd.refl _ _⟩
    unfold Fl.Mem.fresh0
    rw [HP.out]; rfl
  case round =>
    obtain ⟨σ, j, rfl, hj, h, hf, hs0, hs1, hwho, hu⟩ := hrel
    have HFR := Lib.hid hf
    clear hf
    have Er := hu.keep E4 (by intro hm; have := hlW _ hm; omega)
    have cEr := fun w' o (k : Ext wr w') => k.cellOf Er o
    have rr := Ext.refl wr
    clear cE4
    cases gk with
    | zero =>
      have b0 : decide ((j : Int) < c.slots) = false := decide_eq_false (by have := HN.out; omega)
      obtain ⟨q1, q2⟩ := pSlot_range gc (k := c.slots - 1) (by omega) (by omega)
      have hwr := hu.size
      go_wp2_with fail
      refine (c_pSlot c _ _ gc (by omega)).mono ?_
      rintro e w5 ⟨rfl, x5⟩
      go_wp2_with fail
      refine (c_putTop (-1) 0 _ (by omega)).mono ?_
      rintro e w6 ⟨rfl, x6⟩
      have x56 := x5.trans x6
      clear x5 x6
      go_wp2_with fail
      refine (c_mstore l σ _ _ _ (h.ext x56) ⟨hs0, by have := HN.out; omega⟩ (Fl.putTop_lt _ _)).mono ?_
      rintro e w7 ⟨⟨xv, rfl⟩, h7, u7⟩
      obtain ⟨t1, t2, t3⟩ := store_steps σ σ.who (Fl.pSlot c (c.slots - 1) + 1) (Fl.putTop (-1) 0)
      have HS1 := Lib.hid (rfl : σ.store σ.who (Fl.pSlot c (c.slots - 1) + 1) (Fl.putTop (-1) 0) = σ.store σ.who (Fl.pSlot c (c.slots - 1) + 1) (Fl.putTop (-1) 0))
      have hu7 := (hu.extR x56).trans u7
      clear cEr
      go_wp2_with fail
      refine (c_pTop _).mono ?_
      rintro e w8 ⟨rfl, x8⟩
      go_wp2_with fail
      refine (c_putTop 0 0 _ (by omega)).mono ?_
      rintro e w9 ⟨rfl, x9⟩
      go_wp2_with fail
      refine (c_mstore l _ _ _ _ (h7.ext (x8.trans x9)) ⟨by omega, by have := HN.out; omega⟩ (Fl.putTop_lt _ _)).mono ?_
      rintro e wa ⟨⟨xv, rfl⟩, ha, ua⟩
      have hua := (hu7.extR (x8.trans x9)).trans ua
      go_wp2
      go_ret2
      have hnn := HN.out
      refine ⟨l, rfl, ?_, (hX.trans hx4).updNew hua (fun x hx => by have := hlW x hx; omega), fun x hx => by have := hlW x hx; omega⟩
      have hfin : Fl.fresh c = (σ.store σ.who (Fl.pSlot c (c.slots - 1) + 1) (Fl.putTop (-1) 0)).store (σ.store σ.who (Fl.pSlot c (c.slots - 1) + 1) (Fl.putTop (-1) 0)).who 1 (Fl.putTop 0 0) := by
        have h0 : c.slots.toNat = n := by omega
        unfold Fl.fresh
        rw [h0, ← HFR.out, t3, hwho]
        rfl
      rw [hfin]; exact ha
    | succ k =>
      have b0 : decide ((j : Int) < c.slots) = true := decide_eq_true (by have := HN.out; omega)
      have hjs : (j : Int) < 65536 := by have := HN.out; omega
      obtain ⟨q1, q2⟩ := pSlot_range gc (k := (j : Int)) (by omega) (by omega)
      have hwr := hu.size
      go_wp2_with fail
      refine (c_pSlot c _ _ gc (by omega)).mono ?_
      rintro e w5 ⟨rfl, x5⟩
      go_wp2_with fail
      refine (c_putSlot _ _ _ _ _).mono ?_
      rintro e w6 ⟨rfl, x6⟩
      have x56 := x5.trans x6
      clear x5 x6
      go_wp2_with fail
      refine (c_mstore l σ _ _ _ (h.ext x56) ⟨hs0, by omega⟩ (Fl.putSlot_lt _)).mono ?_
      rintro e w7 ⟨⟨xv, rfl⟩, h7, u7⟩
      have hst := store_steps σ σ.who (Fl.pSlot c j) (Fl.putSlot ⟨0, 0, 1, 0⟩)
      generalize hσ1 : σ.store σ.who (Fl.pSlot c j) (Fl.putSlot ⟨0, 0, 1, 0⟩) = σ1 at *
      have hu7 := (hu.extR x56).trans u7
      have E7 := hu7.keep E4 (by intro hm; have := hlW _ hm; omega)
      have cE7 := fun w' o (k : Ext w7 w') => k.cellOf E7 o
      have r7 := Ext.refl w7
      clear cEr
      go_wp2_with fail
      refine (c_pSlot c _ _ gc (by omega)).mono ?_
      rintro e w8 ⟨rfl, x8⟩
      go_wp2_with fail
      refine (c_putTop _ _ _ (by omega)).mono ?_
      rintro e w9 ⟨rfl, x9⟩
      go_wp2_with fail
      refine (c_mstore l σ1 _ _ _ (h7.ext (x8.trans x9)) ⟨by omega, by have := HN.out; omega⟩ (Fl.putTop_lt _ _)).mono ?_
      rintro e wa ⟨⟨xv2, rfl⟩, ha, ua⟩
      have hua := (hu7.extR (x8.trans x9)).trans ua
      have hst2 := store_steps σ1 σ1.who (Fl.pSlot c j + 1) (Fl.putTop (j + 1) 0)
      clear cE7
      go_wp2_with fail
      go_roundg k
      case measure => omega
      case rel =>
        refine ⟨σ1.store σ1.who (Fl.pSlot c j + 1) (Fl.putTop (j + 1) 0), j + 1, ?_, by omega, ha, ?_, by omega, by omega, ?_, hua⟩
        · simp
        · rw [← HFR.out]
          show _ = Fl.freshLoop c k (j + 1) _
          have hw1 : σ1.who = 0 := hst.2.2.trans hwho
          rw [hw1, ← hσ1, hwho]
        · rw [hst2.2.2, hst.2.2]; exact hwho

end Go.Proofs.Ythblhgappldcjaa
