/- AccessSteps, for every input: the given statement.
   Its conditions: none beyond the given ones. -/
import Derived.Test.YthblhgappldcjaaRows
import Derived.Test.YthblhgappldcjaaR17
import Derived.Test.YthblhgappldcjaaQa
import Derived.Test.YthblhgappldcjaaKF
import Derived.WalkKit
import Derived.ProofKit
import Derived.OpenShut
namespace Go.Proofs.Ythblhgappldcjaa.AccessSteps
open Go.Proofs.Ythblhgappldcjaa
open Go.ChangeShapes Go.WideShapes Go.ChangeAt Go.RowKit
set_option linter.unusedVariables false

theorem own : ownKnob Try.prog.godebug = none := by kernel_rfl

set_option maxRecDepth 100000 in
theorem readable : ∀ t, t ∈ [3, 71] → Try.prog.readableRec t = true ∧ t < Try.prog.types.size := by
  intro t h
  simp only [List.mem_cons, List.not_mem_nil, or_false] at h
  rcases h with rfl | rfl
  · exact ⟨by kernel_rfl, by decide +kernel⟩
  · exact ⟨by kernel_rfl, by decide +kernel⟩

/-! the row -/
set_option maxRecDepth 100000 in
theorem lifted (os : Os) (started : os.Started) (H : Type) (enc : TypeId × Value → H) :
    ReturnsInHanded {} Try.checked os 17 .any (Rows.accessStepsSpec.pre6 enc Try.prog Try.f17 Rows.accessStepsRow.domain false) (Rows.accessStepsSpec.post enc Try.prog Try.f17 false true false false) := by
  refine returnsInHanded_of_change (C := Try.checked) own started (by kernel_rfl) Try.func17
    (ChangeSpec.witness6 (enc := enc) (C := Try.checked) false ⟨#[], #[.int .i64 0, .slice none 0 0], []⟩ 8 (by kernel_rfl) (by kernel_rfl) (by kernel_rfl) (by kernel_rfl)) ?_
  intro W base args ds gs before hval0 hW hcnd _
  have hval : ∀ (j : Nat) t v, Try.f17.params[j]? = some t → args[j]? = some v → Value.okWide Try.prog W .any base t v := hval0
  have hW' := hW
  obtain ⟨p, q, hA0, hV, rfl, hfz, hnd⟩ := hW
  have hA : DataW.TrodAll enc Try.prog W 0 (fun _ => true) true Try.f17.params.toList args.toList ds p := hA0
  rw [Try.params17] at hA hval
  have hall := hA
  obtain ⟨v0, vs0, d0, ds0, p0, q0, hargs, rfl, rfl, h0, r0⟩ := trodAll_cons hA
  obtain ⟨v1, vs1, d1, ds1, p1, q1, rfl, rfl, rfl, h1, r1⟩ := trodAll_cons r0
  obtain ⟨rfl, rfl, rfl⟩ := trodAll_nil r1
  obtain rfl : args = #[v0, v1] := by cases args; simp_all
  obtain ⟨rfl, rfl⟩ := trodVars_none hV
  have hlt : ∀ q, q ∈ (p0 ++ (p1 ++ ([] : List MemPlace))) → q.block < W.heap.size := fun q hq => hW'.lt q (by simpa using hq)
  obtain ⟨a0, rfl, rfl, rfl, w0⟩ := open_int Try.underlying3 (hval 0 3 v0 rfl rfl) h0
  obtain ⟨s1, l1, c1, zk1, zh1, zi1, zv1, zo1, rfl, f1⟩ := open_wants (hval 1 71 v1 rfl rfl) h1 (fun q hq => hlt q (by simp [hq]))
  refine (w_accessSteps a0 s1 l1 c1 zk1 zh1 zi1 zv1 zo1 W f1).mono fun e W' ⟨he, hg⟩ => ?_
  subst he
  exact ⟨_, rfl, post_of_ext (pv := []) hW' (fun _ _ _ => (trodAll_cons_mk (shut_bool Try.underlying4 _) trodAll_mk0))
    (fun sp hsp => all_stays hg sp readable hall (fun q hq => hlt q (by simpa using hq)) (fun q hq => hsp q (by simpa using hq))) (fun _ _ => rfl) (by simp)
    hg (ok_one (by kernel_rfl) rfl (okWide_bool_mk Try.underlying4 _))⟩

theorem closed : joinedFacts Try.prog 17 Try.f17 Rows.accessStepsSpec Rows.accessStepsRow = true := by
  have key : ∀ P : Program, P = Try.prog → joinedFacts P 17 Try.f17 Rows.accessStepsSpec Rows.accessStepsRow = true := by
    intro P hP
    have h1 : P.mayEnter = true := by rw [hP]; exact mayEnter
    have h2 : P.liftsFinal = false := by rw [hP]; exact liftsFinal
    have h3 : P.make = some .cut := by rw [hP]; exact made
    unfold joinedFacts
    rw [h1, h2, h3]
    clear h1 h2 h3
    subst hP
    decide +kernel
  exact key _ rfl

theorem over : Rows.accessStepsRow.holds Try.pinned (OpenSpec.ofChange Rows.accessStepsSpec) :=
  OpenClaim.holds_of_wide 17 Try.f17 rfl rfl rfl rfl rfl rfl rfl ⟨rfl, rfl, rfl, rfl, rfl⟩ rfl rfl rfl rfl rfl (by kernel_rfl) Try.func17 closed
    (of_decide_eq_true (by kernel_rfl)) (by unfold Func.isWrapper; first | (rw [if_pos (by decide +kernel)]; kernel_rfl) | (rw [if_neg (by decide +kernel)]; exact ⟨rfl, rfl⟩))
    (fun os started H enc _ => lifted os started H enc)

/-- The statement. -/
theorem proved : Rows.AccessStepsSaid :=
  over
end Go.Proofs.Ythblhgappldcjaa.AccessSteps
