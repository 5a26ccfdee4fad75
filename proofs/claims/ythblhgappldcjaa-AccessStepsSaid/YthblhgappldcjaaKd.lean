/- What stands at an address: the contract of the reference's Kind. -/
import Derived.Test.YthblhgappldcjaaE
import Derived.BigQuiet
import Derived.Deep.CutBlock
import Derived.Deep.DeepCutAuto
namespace Go.Proofs.Ythblhgappldcjaa
open Go Go.RowKit
set_option linter.unusedVariables false

def Fl.kind1 (c : Fl.Cfg) (a : Int) : Int :=
  if a < 0 then -1 else if a < 1 then 0 else if a < 2 then 1 else if a < 6 then 2 else if a < 6 + c.threads then 3 else if a < 6 + c.threads + 2 * c.slots then 4 + (a - 6 - c.threads) % 2
  else if a < 6 + c.threads + 2 * c.slots + 3 * c.chunks then 6 + (a - 6 - c.threads - 2 * c.slots) % 3 else if a < 6 + c.threads + 2 * c.slots + 3 * c.chunks + c.chunks * c.words then 9 else -1

theorem Fl.kind1_9 {c : Fl.Cfg} (ht : 0 ≤ c.threads) (hs : 0 ≤ c.slots) (hc : 0 ≤ c.chunks) (a : Int) : Fl.kind1 c a = 9 ↔ Fl.pBase c 0 ≤ a ∧ a < Fl.pLen c := by
  unfold Fl.kind1 Fl.pLen Fl.pBase
  rw [Int.mul_comm c.chunks c.words]
  simp only [Int.mul_zero, Int.add_zero]
  generalize c.words * c.chunks = cw
  repeat' split
  all_goals omega

set_option maxHeartbeats 8000000 in
theorem n_kind (c : Fl.Cfg) (a : Int) (W : World) (gc : GoodC c) (ha : -1048576 ≤ a ∧ a ≤ 1048576) :
    Calls Try.prog 58 #[.agg #[.int .i64 c.threads, .int .i64 c.slots, .int .i64 c.chunks, .int .i64 c.words, .int .i64 c.gens, .int .i64 c.sparse, .int .i64 c.tries], .int .i64 a] W fun e w' => ∃ p q, e = .returned (.tuple #[.int .i64 (Fl.kind1 c a), .int .i64 p, .int .i64 q]) ∧ Ext W w' := by
  obtain ⟨t1, t2⟩ := gc.threads
  obtain ⟨s1, s2⟩ := gc.slots
  obtain ⟨k1, k2⟩ := gc.chunks
  obtain ⟨d1, d2⟩ := gc.words
  have hcw1 : 0 ≤ c.chunks * c.words := Int.mul_nonneg (by omega) (by omega)
  have hcw2 : c.chunks * c.words ≤ 64 * 256 := Int.mul_le_mul k2 d2 (by omega) (by omega)
  have v1 : IntKind.i64.wrap (2 * c.slots) = 2 * c.slots := IntWalk.i64_in _ (by omega)
  have v2 : IntKind.i64.wrap (3 * c.chunks) = 3 * c.chunks := IntWalk.i64_in _ (by omega)
  have v3 : IntKind.i64.wrap (c.chunks * c.words) = c.chunks * c.words := IntWalk.i64_in _ (by omega)
  obtain ⟨R, hR0⟩ : ∃ R, Fl.kind1 c a = R := ⟨_, rfl⟩
  have HK := Lib.hid hR0
  rw [hR0]
  unfold Fl.kind1 at hR0
  have HR0 := Lib.hid hR0
  clear hR0
  have HA := Lib.hid ha
  go_enter Try.func58, Try.ntmps58
  by_cases a0 : a < 0
  · have hv : R = -1 := by have := HR0.out; rw [if_pos a0] at this; exact this.symm
    subst hv
    go_wp2
    refine bodyPost_ret (v := .tuple #[.int .i64 (-1), .int .i64 0, .int .i64 0]) ?_ rfl ⟨0, 0, rfl, (Ext.refl W).alloc _⟩
    simp [results, Try.results58, go_sem]
  · go_wp2
    have hC := heap_old (o' := .cells #[.int .i64 1, .int .i64 1, .int .i64 4, .int .i64 c.threads, .int .i64 (2 * c.slots), .int .i64 (3 * c.chunks), .int .i64 (c.chunks * c.words)] 3) (heap_new W (.cells #[.int .i64 c.threads, .int .i64 c.slots, .int .i64 c.chunks, .int .i64 c.words, .int .i64 c.gens, .int .i64 c.sparse, .int .i64 c.tries] 24))
    have hR := heap_new (W.alloc (.cells #[.int .i64 c.threads, .int .i64 c.slots, .int .i64 c.chunks, .int .i64 c.words, .int .i64 c.gens, .int .i64 c.sparse, .int .i64 c.tries] 24)) (.cells #[.int .i64 1, .int .i64 1, .int .i64 4, .int .i64 c.threads, .int .i64 (2 * c.slots), .int .i64 (3 * c.chunks), .int .i64 (c.chunks * c.words)] 3)
    have z1 : (W.alloc (.cells #[.int .i64 c.threads, .int .i64 c.slots, .int .i64 c.chunks, .int .i64 c.words, .int .i64 c.gens, .int .i64 c.sparse, .int .i64 c.tries] 24)).heap.size = W.heap.size + 1 := by simp
    rw [z1] at hR
    have hX := ((Ext.refl W).alloc (.cells #[.int .i64 c.threads, .int .i64 c.slots, .int .i64 c.chunks, .int .i64 c.words, .int .i64 c.gens, .int .i64 c.sparse, .int .i64 c.tries] 24)).alloc (.cells #[.int .i64 1, .int .i64 1, .int .i64 4, .int .i64 c.threads, .int .i64 (2 * c.slots), .int .i64 (3 * c.chunks), .int .i64 (c.chunks * c.words)] 3)
    generalize (W.alloc (.cells #[.int .i64 c.threads, .int .i64 c.slots, .int .i64 c.chunks, .int .i64 c.words, .int .i64 c.gens, .int .i64 c.sparse, .int .i64 c.tries] 24)).alloc (.cells #[.int .i64 1, .int .i64 1, .int .i64 4, .int .i64 c.threads, .int .i64 (2 * c.slots), .int .i64 (3 * c.chunks), .int .i64 (c.chunks * c.words)] 3) = w2 at *
    have HC := Lib.hid hC
    have HR := Lib.hid hR
    clear hC hR z1
    have c_HC_w2 := fun w' o (k : Ext w2 w') => k.cellOf HC.out o
    have f_HC_w2 := fun w' o (k : Ext w2 w') => frozen_of (k.keep HC.out) o
    have r_HC_w2 := Ext.refl w2
    have c_HR_w2 := fun w' o (k : Ext w2 w') => k.cellOf HR.out o
    have f_HR_w2 := fun w' o (k : Ext w2 w') => frozen_of (k.keep HR.out) o
    go_loopg [1, 8] 7 (fun kk av iv wr => ∃ (j : Nat) (b : Int), av = .int .i64 b ∧ iv = .int .i64 (j : Int) ∧ j + kk = 7 ∧ wr = w2 ∧ ((j = 0 ∧ b = a - (0) ∧ 0 ≤ a) ∨ (j = 1 ∧ b = a - (1) ∧ 1 ≤ a) ∨ (j = 2 ∧ b = a - (2) ∧ 2 ≤ a) ∨ (j = 3 ∧ b = a - (6) ∧ 6 ≤ a) ∨ (j = 4 ∧ b = a - (6 + c.threads) ∧ 6 + c.threads ≤ a) ∨ (j = 5 ∧ b = a - (6 + c.threads + 2 * c.slots) ∧ 6 + c.threads + 2 * c.slots ≤ a) ∨ (j = 6 ∧ b = a - (6 + c.threads + 2 * c.slots + 3 * c.chunks) ∧ 6 + c.threads + 2 * c.slots + 3 * c.chunks ≤ a) ∨ (j = 7 ∧ b = a - (6 + c.threads + 2 * c.slots + 3 * c.chunks + c.chunks * c.words) ∧ 6 + c.threads + 2 * c.slots + 3 * c.chunks + c.chunks * c.words ≤ a)))
    case atStart => exact ⟨0, a, rfl, rfl, by omega, rfl, Or.inl ⟨rfl, by omega, by omega⟩⟩
    case round =>
      obtain ⟨j, b, rfl, rfl, hj, rfl, hr⟩ := hrel
      rcases hr with ⟨rfl, hb, hl⟩ | ⟨rfl, hb, hl⟩ | ⟨rfl, hb, hl⟩ | ⟨rfl, hb, hl⟩ | ⟨rfl, hb, hl⟩ | ⟨rfl, hb, hl⟩ | ⟨rfl, hb, hl⟩ | ⟨rfl, hb, hl⟩
      · cases gk with
        | zero => omega
        | succ kk =>
          have HB := Lib.hid (And.intro hb hl)
          by_cases g : b ≥ 1
          · have g1 : decide (b ≥ 1) = true := decide_eq_true g
            have iv : IntKind.i64.wrap (b - (1)) = b - (1) := IntWalk.i64_in _ (by have := HA.out; omega)
            clear hb hl
            go_wp2_with fail
            go_roundg kk
            case measure => omega
            case rel => exact ⟨1, b - (1), rfl, by simp, by omega, rfl, Or.inr (Or.inl ⟨rfl, by have := HB.out; omega, by have := HB.out; omega⟩)⟩
          · have g1 : decide (b ≥ 1) = false := decide_eq_false g
            have hv : R = 0 := by
              have := HR0.out
              rw [← this]
              repeat' split
              all_goals omega
            subst hv
            clear hb hl
            go_wp2
            refine bodyPost_ret (v := .tuple #[.int .i64 (0), .int .i64 (b), .int .i64 (0)]) ?_ rfl ⟨⟨_, _, rfl⟩, hX⟩
            simp [results, Try.results58, go_sem]
      · cases gk with
        | zero => omega
        | succ kk =>
          have HB := Lib.hid (And.intro hb hl)
          by_cases g : b ≥ 1
          · have g1 : decide (b ≥ 1) = true := decide_eq_true g
            have iv : IntKind.i64.wrap (b - (1)) = b - (1) := IntWalk.i64_in _ (by have := HA.out; omega)
            clear hb hl
            go_wp2_with fail
            go_roundg kk
            case measure => omega
            case rel => exact ⟨2, b - (1), rfl, by simp, by omega, rfl, Or.inr (Or.inr (Or.inl ⟨rfl, by have := HB.out; omega, by have := HB.out; omega⟩))⟩
          · have g1 : decide (b ≥ 1) = false := decide_eq_false g
            have hv : R = 1 := by
              have := HR0.out
              rw [← this]
              repeat' split
              all_goals omega
            subst hv
            clear hb hl
            go_wp2
            refine bodyPost_ret (v := .tuple #[.int .i64 (1), .int .i64 (b), .int .i64 (0)]) ?_ rfl ⟨⟨_, _, rfl⟩, hX⟩
            simp [results, Try.results58, go_sem]
      · cases gk with
        | zero => omega
        | succ kk =>
          have HB := Lib.hid (And.intro hb hl)
          by_cases g : b ≥ 4
          · have g1 : decide (b ≥ 4) = true := decide_eq_true g
            have iv : IntKind.i64.wrap (b - (4)) = b - (4) := IntWalk.i64_in _ (by have := HA.out; omega)
            clear hb hl
            go_wp2_with fail
            go_roundg kk
            case measure => omega
            case rel => exact ⟨3, b - (4), rfl, by simp, by omega, rfl, Or.inr (Or.inr (Or.inr (Or.inl ⟨rfl, by have := HB.out; omega, by have := HB.out; omega⟩)))⟩
          · have g1 : decide (b ≥ 4) = false := decide_eq_false g
            have hv : R = 2 := by
              have := HR0.out
              rw [← this]
              repeat' split
              all_goals omega
            subst hv
            clear hb hl
            go_wp2
            refine bodyPost_ret (v := .tuple #[.int .i64 (2), .int .i64 (b), .int .i64 (0)]) ?_ rfl ⟨⟨_, _, rfl⟩, hX⟩
            simp [results, Try.results58, go_sem]
      · cases gk with
        | zero => omega
        | succ kk =>
          have HB := Lib.hid (And.intro hb hl)
          by_cases g : b ≥ c.threads
          · have g1 : decide (b ≥ c.threads) = true := decide_eq_true g
            have iv : IntKind.i64.wrap (b - (c.threads)) = b - (c.threads) := IntWalk.i64_in _ (by have := HA.out; omega)
            clear hb hl
            go_wp2_with fail
            go_roundg kk
            case measure => omega
            case rel => exact ⟨4, b - (c.threads), rfl, by simp, by omega, rfl, Or.inr (Or.inr (Or.inr (Or.inr (Or.inl ⟨rfl, by have := HB.out; omega, by have := HB.out; omega⟩))))⟩
          · have g1 : decide (b ≥ c.threads) = false := decide_eq_false g
            have hv : R = 3 := by
              have := HR0.out
              rw [← this]
              repeat' split
              all_goals omega
            subst hv
            clear hb hl
            go_wp2
            refine bodyPost_ret (v := .tuple #[.int .i64 (3), .int .i64 (b), .int .i64 (0)]) ?_ rfl ⟨⟨_, _, rfl⟩, hX⟩
            simp [results, Try.results58, go_sem]
      · cases gk with
        | zero => omega
        | succ kk =>
          have HB := Lib.hid (And.intro hb hl)
          by_cases g : b ≥ 2 * c.slots
          · have g1 : decide (b ≥ 2 * c.slots) = true := decide_eq_true g
            have iv : IntKind.i64.wrap (b - (2 * c.slots)) = b - (2 * c.slots) := IntWalk.i64_in _ (by have := HA.out; omega)
            clear hb hl
            go_wp2_with fail
            go_roundg kk
            case measure => omega
            case rel => exact ⟨5, b - (2 * c.slots), rfl, by simp, by omega, rfl, Or.inr (Or.inr (Or.inr (Or.inr (Or.inr (Or.inl ⟨rfl, by have := HB.out; omega, by have := HB.out; omega⟩)))))⟩
          · have g1 : decide (b ≥ 2 * c.slots) = false := decide_eq_false g
            have hv : R = 4 + b % 2 := by
              have := HR0.out
              rw [← this]
              repeat' split
              all_goals omega
            subst hv
            have m1 : b.tmod 2 = b % 2 := Int.tmod_eq_emod_of_nonneg (by omega)
            have m2 : b.tdiv 2 = b / 2 := Int.tdiv_eq_ediv_of_nonneg (by omega)
            have iv : IntKind.i64.wrap (4 + b % 2) = 4 + b % 2 := IntWalk.i64_in _ (by omega)
            have iq : IntKind.i64.wrap (b / 2) = b / 2 := IntWalk.i64_in _ (by omega)
            clear hb hl
            go_wp2
            refine bodyPost_ret (v := .tuple #[.int .i64 (4 + b % 2), .int .i64 (b / 2), .int .i64 (0)]) ?_ rfl ⟨⟨_, _, rfl⟩, hX⟩
            simp [results, Try.results58, go_sem]
      · cases gk with
        | zero => omega
        | succ kk =>
          have HB := Lib.hid (And.intro hb hl)
          by_cases g : b ≥ 3 * c.chunks
          · have g1 : decide (b ≥ 3 * c.chunks) = true := decide_eq_true g
            have iv : IntKind.i64.wrap (b - (3 * c.chunks)) = b - (3 * c.chunks) := IntWalk.i64_in _ (by have := HA.out; omega)
            clear hb hl
            go_wp2_with fail
            go_roundg kk
            case measure => omega
            case rel => exact ⟨6, b - (3 * c.chunks), rfl, by simp, by omega, rfl, Or.inr (Or.inr (Or.inr (Or.inr (Or.inr (Or.inr (Or.inl ⟨rfl, by have := HB.out; omega, by have := HB.out; omega⟩))))))⟩
          · have g1 : decide (b ≥ 3 * c.chunks) = false := decide_eq_false g
            have hv : R = 6 + b % 3 := by
              have := HR0.out
              rw [← this]
              repeat' split
              all_goals omega
            subst hv
            have m1 : b.tmod 3 = b % 3 := Int.tmod_eq_emod_of_nonneg (by omega)
            have m2 : b.tdiv 3 = b / 3 := Int.tdiv_eq_ediv_of_nonneg (by omega)
            have iv : IntKind.i64.wrap (6 + b % 3) = 6 + b % 3 := IntWalk.i64_in _ (by omega)
            have iq : IntKind.i64.wrap (b / 3) = b / 3 := IntWalk.i64_in _ (by omega)
            clear hb hl
            go_wp2
            refine bodyPost_ret (v := .tuple #[.int .i64 (6 + b % 3), .int .i64 (b / 3), .int .i64 (0)]) ?_ rfl ⟨⟨_, _, rfl⟩, hX⟩
            simp [results, Try.results58, go_sem]
      · cases gk with
        | zero => omega
        | succ kk =>
          have HB := Lib.hid (And.intro hb hl)
          by_cases g : b ≥ c.chunks * c.words
          · have g1 : decide (b ≥ c.chunks * c.words) = true := decide_eq_true g
            have iv : IntKind.i64.wrap (b - (c.chunks * c.words)) = b - (c.chunks * c.words) := IntWalk.i64_in _ (by have := HA.out; omega)
            clear hb hl
            go_wp2_with fail
            go_roundg kk
            case measure => omega
            case rel => exact ⟨7, b - (c.chunks * c.words), rfl, by simp, by omega, rfl, Or.inr (Or.inr (Or.inr (Or.inr (Or.inr (Or.inr (Or.inr (⟨rfl, by have := HB.out; omega, by have := HB.out; omega⟩)))))))⟩
          · have g1 : decide (b ≥ c.chunks * c.words) = false := decide_eq_false g
            have hv : R = 9 := by
              have := HR0.out
              rw [← this]
              repeat' split
              all_goals omega
            subst hv
            clear hb hl
            have hw0 : c.words ≠ 0 := by omega
            have hb0 : 0 ≤ b ∧ b ≤ 1048576 := by have := HB.out; have := HA.out; omega
            have hq0 : 0 ≤ b / c.words := Int.ediv_nonneg hb0.1 (by omega)
            have hq1 : b / c.words ≤ b := Int.ediv_le_self _ hb0.1
            have m2 : b.tdiv c.words = b / c.words := Int.tdiv_eq_ediv_of_nonneg hb0.1
            have iq : IntKind.i64.wrap (b / c.words) = b / c.words := IntWalk.i64_in _ (by omega)
            go_wp2_with fail
            refine wp_region_plan (Ext wr) [] [0, 1, 2, 3, 4, 5, 6, 7, 8, 9] 10 [] Try.mixed (by kernel_rfl) (by intro c a d v w h; cases d <;> exact h) (Ext.refl _).drew ?_
            simp only [opsAt, List.filterMap_cons, List.filterMap_nil, List.getElem?_toArray, List.getElem?_cons_zero, List.getElem?_cons_succ]
            refine Firsts.nil ?_
            (refine Heads.val (v := ?_) rfl (fun wv hwv => ?_) ?_; rotate_left; (go_simp; with_reducible rfl); simp only [Act.put, List.setIfInBounds_toArray, List.set_cons_zero, List.set_cons_succ])
            (refine Heads.val (v := ?_) rfl (fun wv hwv => ?_) ?_; rotate_left; (go_simp; with_reducible rfl); simp only [Act.put, List.setIfInBounds_toArray, List.set_cons_zero, List.set_cons_succ])
            (refine Heads.val (v := ?_) rfl (fun wv hwv => ?_) ?_; rotate_left; (go_simp; with_reducible rfl); simp only [Act.put, List.setIfInBounds_toArray, List.set_cons_zero, List.set_cons_succ])
            (refine Heads.val (v := ?_) rfl (fun wv hwv => ?_) ?_; rotate_left; (go_simp; with_reducible rfl); simp only [Act.put, List.setIfInBounds_toArray, List.set_cons_zero, List.set_cons_succ])
            (refine Heads.val (v := ?_) rfl (fun wv hwv => ?_) ?_; rotate_left; (go_simp; with_reducible rfl); simp only [Act.put, List.setIfInBounds_toArray, List.set_cons_zero, List.set_cons_succ])
            (refine Heads.val (v := ?_) rfl (fun wv hwv => ?_) ?_; rotate_left; (go_simp; with_reducible rfl); simp only [Act.put, List.setIfInBounds_toArray, List.set_cons_zero, List.set_cons_succ])
            (refine Heads.val (v := ?_) rfl (fun wv hwv => ?_) ?_; rotate_left; (go_simp; with_reducible rfl); simp only [Act.put, List.setIfInBounds_toArray, List.set_cons_zero, List.set_cons_succ])
            (refine Heads.val (v := ?_) rfl (fun wv hwv => ?_) ?_; rotate_left; (go_simp; with_reducible rfl); simp only [Act.put, List.setIfInBounds_toArray, List.set_cons_zero, List.set_cons_succ])
            (refine Heads.val (v := ?_) rfl (fun wv hwv => ?_) ?_; rotate_left; (go_simp; with_reducible rfl); simp only [Act.put, List.setIfInBounds_toArray, List.set_cons_zero, List.set_cons_succ])
            (refine Heads.val (v := ?_) rfl (fun wv hwv => ?_) ?_; rotate_left; (go_simp; with_reducible rfl); simp only [Act.put, List.setIfInBounds_toArray, List.set_cons_zero, List.set_cons_succ])
            refine Heads.nil ?_
            intro wz hwz
            go_wp2
            refine bodyPost_ret (v := .tuple #[.int .i64 9, .int .i64 (b / c.words), .int .i64 (b % c.words)]) ?_ rfl ⟨_, _, rfl, hX.trans hwz⟩
            simp [results, Try.results58, go_sem]
      · cases gk with
        | zero =>
          have hv : R = -1 := by
            have := HR0.out
            rw [← this]
            repeat' split
            all_goals omega
          subst hv
          clear hb
          go_wp2
          refine bodyPost_ret (v := .tuple #[.int .i64 (-1), .int .i64 0, .int .i64 0]) ?_ rfl ⟨⟨_, _, rfl⟩, hX⟩
          simp [results, Try.results58, go_sem]
        | succ kk => omega

end Go.Proofs.Ythblhgappldcjaa
