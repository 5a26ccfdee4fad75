/- AccessCounts, for every input: the given statement.
   Its conditions: none beyond the given ones. -/
import Derived.Test.YthblhgappldcjaaRows
import Derived.Test.YthblhgappldcjaaR10
import Derived.Test.YthblhgappldcjaaQ
import Derived.Test.YthblhgappldcjaaKF
import Derived.WalkKit
import Derived.ProofKit
import Derived.OpenShut
namespace Go.Proofs.Ythblhgappldcjaa.AccessCounts
open Go.Proofs.Ythblhgappldcjaa
open Go.ChangeShapes Go.WideShapes Go.ChangeAt Go.RowKit
set_option linter.unusedVariables false

theorem own : ownKnob Try.prog.godebug = none := by kernel_rfl

theorem cells3 : Try.prog.cellsOf 3 = 1 := by kernel_rfl

/-! the row -/
set_option maxRecDepth 100000 in
theorem lifted (os : Os) (started : os.Started) (H : Type) (enc : TypeId × Value → H) :
    ReturnsInHanded {} Try.checked os 10 .any (Rows.accessCountsSpec.pre6 enc Try.prog Try.f10 Rows.accessCountsRow.domain false) (Rows.accessCountsSpec.post enc Try.prog Try.f10 false true false false) := by
  refine returnsInHanded_of_change (C := Try.checked) own started (by kernel_rfl) Try.func10
    (ChangeSpec.witness6 (enc := enc) (C := Try.checked) false ⟨#[], #[.int .i64 0, .slice none 0 0], []⟩ 8 (by kernel_rfl) (by kernel_rfl) (by kernel_rfl) (by kernel_rfl)) ?_
  intro W base args ds gs before hval0 hW hcnd _
  have hval : ∀ (j : Nat) t v, Try.f10.params[j]? = some t → args[j]? = some v → Value.okWide Try.prog W .any base t v := hval0
  have hW' := hW
  obtain ⟨p, q, hA0, hV, rfl, hfz, hnd⟩ := hW
  have hA : DataW.TrodAll enc Try.prog W 0 (fun _ => true) true Try.f10.params.toList args.toList ds p := hA0
  rw [Try.params10] at hA hval
  obtain ⟨v0, vs0, d0, ds0, p0, q0, hargs, rfl, rfl, h0, r0⟩ := trodAll_cons hA
  obtain ⟨v1, vs1, d1, ds1, p1, q1, rfl, rfl, rfl, h1, r1⟩ := trodAll_cons r0
  obtain ⟨rfl, rfl, rfl⟩ := trodAll_nil r1
  obtain rfl : args = #[v0, v1] := by cases args; simp_all
  obtain ⟨rfl, rfl⟩ := trodVars_none hV
  obtain ⟨a0, rfl, rfl, rfl, w0⟩ := open_int Try.underlying3 (hval 0 3 v0 rfl rfl) h0
  obtain ⟨ad, len, cap, rfl⟩ := okWide_slice Try.underlying22 (hval 1 22 v1 rfl rfl)
  obtain ⟨fuel, hf⟩ := h1
  clear hA0 hval0
  simp only [List.append_nil, List.nil_append] at hW'
  have i0 (W' : World) (sp : Nat → Bool) := shut_int (enc := enc) (w := W') (base := 0) (spare := sp) (held := true) Try.underlying3 w0
  rcases open_ints Try.underlying22 Try.underlying3 cells3 hf with ⟨hcs, hx⟩ | ⟨a, len', cap', zs, hcs, _, hl, hm, hz, hx, hcell, hwz⟩
  · simp [Value.cells] at hcs
    obtain ⟨rfl, rfl, rfl⟩ := hcs
    simp only [Prod.mk.injEq] at hx
    obtain ⟨rfl, rfl⟩ := hx
    refine (w_accessCounts a0 none 0 0 (fun _ => 0) W (fun i hi => by omega)).mono fun e W' ⟨he, hg⟩ => ?_
    subst he
    exact ⟨_, rfl, post_of_ext (pa := []) (pv := []) hW' (fun _ _ _ => (trodAll_cons_mk (shut_bool Try.underlying4 _) trodAll_mk0)) (fun sp _ => (trodAll_cons_mk (i0 W' sp) (trodAll_cons_mk (shut_slice_nil Try.underlying22) trodAll_mk0))) (fun _ _ => rfl) rfl
      hg (ok_one (by kernel_rfl) rfl (okWide_bool_mk Try.underlying4 _))⟩
  · simp [Value.cells] at hcs
    obtain ⟨rfl, rfl, rfl⟩ := hcs
    simp only [Prod.mk.injEq] at hx
    obtain ⟨rfl, rfl⟩ := hx
    simp only [if_true] at hz
    have hbl : 0 < zs.length → a.block < W.heap.size := fun h0 => by
      have := hW'.lt (.cell a.block a.off) (by simpa using MemPlace.mem_row.2 ⟨0, h0, by simp⟩)
      exact this
    refine (w_accessCounts a0 (some a) len cap (fun i => zs.getD i 0) W (fun i hi => ⟨a, rfl, hbl (by omega), hcell i (by omega)⟩)).mono fun e W' ⟨he, hg⟩ => ?_
    subst he
    have hcell' : ∀ i, i < zs.length → W'.cell? (a.add i) = some (.int .i64 (zs.getD i 0)) := fun i hi => by
      have hb : W'.heap[(a.add i).block]? = W.heap[(a.add i).block]? := by rw [addr_block]; exact Ext.block hg (hbl (by omega))
      exact (cell_kept hb).trans (hcell i hi)
    have again : ∀ sp : Nat → Bool, (∀ p ∈ MemPlace.row a zs.length, sp p.block = true) → DataW.Trod enc Try.prog W' 0 sp true 22 (.slice (some a) len cap) (.slice (lits .i64 (zs.take len)) (lits .i64 (zs.drop len))) (MemPlace.row a zs.length) := by
      intro sp hsp
      by_cases hz0 : zs.length = 0
      · have hc0 : cap = 0 := by omega
        have hl0 : len = 0 := by omega
        subst hc0; subst hl0
        have t0 := shut_ints (enc := enc) (w := W') (base := 0) (spare := sp) (held := true) (a := a) (len := 0) (cap := 0) (zs := zs) 0 Try.underlying22 Try.underlying3 cells3 (Nat.zero_le _) (Nat.le_refl _) hm (by simp [hz0]) hcell' hwz
        exact ⟨2, by simpa [Value.cells] using t0⟩
      · have hspb : sp a.block = true := by
          have := hsp (.cell a.block a.off) (MemPlace.mem_row.2 ⟨0, by omega, by simp⟩)
          exact this
        have t0 := shut_ints (enc := enc) (w := W') (base := 0) (spare := sp) (held := true) (a := a) (len := len) (cap := cap) (zs := zs) 0 Try.underlying22 Try.underlying3 cells3 (Nat.zero_le _) hl hm (by simp [hspb, hz]) hcell' hwz
        exact ⟨2, by simpa [Value.cells] using t0⟩
    exact ⟨_, rfl, post_of_ext (pa := MemPlace.row a zs.length) (pv := []) hW' (fun _ _ _ => (trodAll_cons_mk (shut_bool Try.underlying4 _) trodAll_mk0)) (fun sp hsp => by
        have t := trodAll_cons_mk (i0 W' sp) (trodAll_cons_mk (again sp (fun p hp => hsp p (by simpa using hp))) trodAll_mk0)
        simp only [List.append_nil, List.nil_append] at t
        exact t) (fun _ _ => rfl) (by simp)
      hg (ok_one (by kernel_rfl) rfl (okWide_bool_mk Try.underlying4 _))⟩

theorem closed : joinedFacts Try.prog 10 Try.f10 Rows.accessCountsSpec Rows.accessCountsRow = true := by
  have key : ∀ P : Program, P = Try.prog → joinedFacts P 10 Try.f10 Rows.accessCountsSpec Rows.accessCountsRow = true := by
    intro P hP
    have h1 : P.mayEnter = true := by rw [hP]; exact mayEnter
    have h2 : P.liftsFinal = false := by rw [hP]; exact liftsFinal
    have h3 : P.make = some .cut := by rw [hP]; exact made
    unfold joinedFacts
    rw [h1, h2, h3]
    clear h1 h2 h3
    subst hP
    decide +kernel
  exact key _ rfl

theorem over : Rows.accessCountsRow.holds Try.pinned (OpenSpec.ofChange Rows.accessCountsSpec) :=
  OpenClaim.holds_of_wide 10 Try.f10 rfl rfl rfl rfl rfl rfl rfl ⟨rfl, rfl, rfl, rfl, rfl⟩ rfl rfl rfl rfl rfl (by kernel_rfl) Try.func10 closed
    (of_decide_eq_true (by kernel_rfl)) (by unfold Func.isWrapper; first | (rw [if_pos (by decide +kernel)]; kernel_rfl) | (rw [if_neg (by decide +kernel)]; exact ⟨rfl, rfl⟩))
    (fun os started H enc _ => lifted os started H enc)

/-- The statement. -/
theorem proved : Rows.AccessCountsSaid :=
  over
end Go.Proofs.Ythblhgappldcjaa.AccessCounts
