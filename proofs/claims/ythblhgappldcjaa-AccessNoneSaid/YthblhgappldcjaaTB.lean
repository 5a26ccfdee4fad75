/- AccessNone, for every input: the given statement.
   Its conditions: none beyond the given ones. -/
import Derived.Test.YthblhgappldcjaaRows
import Derived.Test.YthblhgappldcjaaRB
import Derived.Test.YthblhgappldcjaaJ5
import Derived.Test.YthblhgappldcjaaQ
import Derived.Test.YthblhgappldcjaaKF
import Derived.ProofKit
import Derived.OpenShut
import Derived.Lib.SmallJoins
namespace Go.Proofs.Ythblhgappldcjaa.AccessNone
open Go.Proofs.Ythblhgappldcjaa
open Go.ChangeShapes Go.WideShapes Go.ChangeAt Go.RowKit Go.Joins
set_option linter.unusedVariables false

theorem own : ownKnob Try.prog.godebug = none := by kernel_rfl
theorem cells74 : Try.prog.cellsOf 74 = 5 := by kernel_rfl

set_option maxRecDepth 100000 in
theorem lifted (os : Os) (started : os.Started) (H : Type) (enc : TypeId × Value → H) :
    ReturnsInHanded {} Try.checked os 11 .any (Rows.accessNoneSpec.pre6 enc Try.prog Try.f11 Rows.accessNoneRow.domain false) (Rows.accessNoneSpec.post enc Try.prog Try.f11 false true false false) := by
  refine returnsInHanded_of_change (C := Try.checked) own started (by kernel_rfl) Try.func11
    (ChangeSpec.witness6 (enc := enc) (C := Try.checked) false ⟨#[], #[.agg #[.int .i64 0, .int .u64 0, .int .i64 0, .int .i64 0, .int .i64 0]], []⟩ 8 (by kernel_rfl) (by kernel_rfl) (by kernel_rfl) (by kernel_rfl)) ?_
  intro W base args ds gs before hval0 hW hcnd _
  have hval : ∀ (j : Nat) t v, Try.f11.params[j]? = some t → args[j]? = some v → Value.okWide Try.prog W .any base t v := hval0
  have hW' := hW
  obtain ⟨p, q, hA0, hV, rfl, hfz, hnd⟩ := hW
  have hA : DataW.TrodAll enc Try.prog W 0 (fun _ => true) true Try.f11.params.toList args.toList ds p := hA0
  rw [Try.params11] at hA hval
  obtain ⟨v0, vs0, d0, ds0, p0, q0, hargs, rfl, rfl, h0, r0⟩ := trodAll_cons hA
  obtain ⟨rfl, rfl, rfl⟩ := trodAll_nil r0
  obtain rfl : args = #[v0] := by cases args; simp_all
  obtain ⟨rfl, rfl⟩ := trodVars_none hV
  obtain ⟨a0, a1, a2, a3, a4, y0, y1, y2, y3, y4, n, rfl, rfl, rfl, t0, t1, t2, t3, t4⟩ := open5 Try.underlying74 (by kernel_rfl) cells74 (hval 0 _ _ rfl rfl) h0
  obtain ⟨k0, e0, rfl, f0⟩ := DataW.trod_int Try.underlying3 t0
  obtain ⟨k1, e1, rfl, f1⟩ := DataW.trod_int Try.underlying32 t1
  obtain ⟨k2, e2, rfl, f2⟩ := DataW.trod_int Try.underlying3 t2
  obtain ⟨k3, e3, rfl, f3⟩ := DataW.trod_int Try.underlying3 t3
  obtain ⟨k4, e4, rfl, f4⟩ := DataW.trod_int Try.underlying3 t4
  simp only [List.cons.injEq, and_true] at e0 e1 e2 e3 e4
  subst e0 e1 e2 e3 e4
  clear hA0 hval0
  simp only [List.append_nil] at hW'
  have hk : 0 ≤ k1 ∧ k1 < 18446744073709551616 := by
    have := f1
    simp [Lit.wf, IntKind.min, IntKind.max, IntKind.signed, IntKind.bits] at this
    omega
  obtain ⟨h, rfl⟩ : ∃ h : Nat, k1 = (h : Int) := ⟨k1.toNat, by omega⟩
  refine (w_accessNone k0 h k2 k3 k4 (by omega) W).mono fun e W' ⟨he, hg⟩ => ⟨_, he, ?_⟩
  have i (t : TypeId) (k : IntKind) (ht : Try.prog.underlying t = some (.int k)) (m : Int) (sp : Nat → Bool) (hm : (Lit.int k m).wf = true) : DataW.trod enc Try.prog W' 0 sp true 1 t [.int k m] = some (.lit (.int k m), []) := trod_int_mk 0 ht hm
  have reads0 (sp : Nat → Bool) := shut5 (enc := enc) (w := W') (base := 0) (spare := sp) (held := true) Try.underlying74 (by kernel_rfl) cells74 (i 3 _ Try.underlying3 k0 sp f0) (i 32 _ Try.underlying32 h sp f1) (i 3 _ Try.underlying3 k2 sp f2) (i 3 _ Try.underlying3 k3 sp f3) (i 3 _ Try.underlying3 k4 sp f4)
  refine post_of_ext (pa := []) (pv := []) hW' ?_ ?_ ?_ rfl hg ?_
  · intro b sp hd
    exact trodAll_cons_mk (shut_bool Try.underlying4 true) rfl
  · intro sp _
    exact trodAll_cons_mk (reads0 sp) rfl
  · intro sp _
    rfl
  · exact ok_one (by kernel_rfl) rfl (okWide_bool_mk Try.underlying4 true)

theorem closed : joinedFacts Try.prog 11 Try.f11 Rows.accessNoneSpec Rows.accessNoneRow = true := by
  have key : ∀ P : Program, P = Try.prog → joinedFacts P 11 Try.f11 Rows.accessNoneSpec Rows.accessNoneRow = true := by
    intro P hP
    have h1 : P.mayEnter = true := by rw [hP]; exact mayEnter
    have h2 : P.liftsFinal = false := by rw [hP]; exact liftsFinal
    have h3 : P.make = some .cut := by rw [hP]; exact made
    unfold joinedFacts
    rw [h1, h2, h3]
    clear h1 h2 h3
    subst hP
    decide +kernel
  exact key _ rfl

theorem over : Rows.accessNoneRow.holds Try.pinned (OpenSpec.ofChange Rows.accessNoneSpec) :=
  OpenClaim.holds_of_wide 11 Try.f11 rfl rfl rfl rfl rfl rfl rfl ⟨rfl, rfl, rfl, rfl, rfl⟩ rfl rfl rfl rfl rfl (by kernel_rfl) Try.func11 closed
    (of_decide_eq_true (by kernel_rfl)) (by unfold Func.isWrapper; first | (rw [if_pos (by decide +kernel)]; kernel_rfl) | (rw [if_neg (by decide +kernel)]; exact ⟨rfl, rfl⟩))
    (fun os started H enc _ => lifted os started H enc)

/-- The statement. -/
theorem proved : Rows.AccessNoneSaid :=
  over
end Go.Proofs.Ythblhgappldcjaa.AccessNone
