/- DropLive, for every input: the given statement.
   Its conditions: none beyond the given ones. -/
import Derived.Test.YthblhgappldcjaaRows
import Derived.Test.YthblhgappldcjaaOa
import Derived.Test.YthblhgappldcjaaQ
import Derived.Test.YthblhgappldcjaaKF
import Derived.ProofKit
import Derived.OpenShut
import Derived.Lib.SmallJoins
namespace Go.Proofs.Ythblhgappldcjaa.DropLive
open Go.Proofs.Ythblhgappldcjaa
open Go.ChangeShapes Go.WideShapes Go.ChangeAt Go.RowKit Go.Joins
set_option linter.unusedVariables false

theorem own : ownKnob Try.prog.godebug = none := by kernel_rfl
theorem cells44 : Try.prog.cellsOf 44 = 4 := by kernel_rfl
theorem cells46 : Try.prog.cellsOf 46 = 2 := by kernel_rfl

set_option maxRecDepth 100000 in
theorem lifted (os : Os) (started : os.Started) (H : Type) (enc : TypeId × Value → H) :
    ReturnsInHanded {} Try.checked os 4 .any (Rows.dropLiveSpec.pre6 enc Try.prog Try.f4 Rows.dropLiveRow.domain false) (Rows.dropLiveSpec.post enc Try.prog Try.f4 false true false false) := by
  refine returnsInHanded_of_change (C := Try.checked) own started (by kernel_rfl) Try.func4
    (ChangeSpec.witness6 (enc := enc) (C := Try.checked) false ⟨#[], #[.agg #[.int .i64 0, .int .i64 0, .int .i64 0, .int .i64 0], .agg #[.int .i64 0, .int .i64 0]], []⟩ 8 (by kernel_rfl) (by kernel_rfl) (by kernel_rfl) (by kernel_rfl)) ?_
  intro W base args ds gs before hval0 hW hcnd _
  have hval : ∀ (j : Nat) t v, Try.f4.params[j]? = some t → args[j]? = some v → Value.okWide Try.prog W .any base t v := hval0
  have hW' := hW
  obtain ⟨p, q, hA0, hV, rfl, hfz, hnd⟩ := hW
  have hA : DataW.TrodAll enc Try.prog W 0 (fun _ => true) true Try.f4.params.toList args.toList ds p := hA0
  rw [Try.params4] at hA hval
  obtain ⟨v0, vs0, d0, ds0, p0, q0, hargs, rfl, rfl, h0, r0⟩ := trodAll_cons hA
  obtain ⟨v1, vs1, d1, ds1, p1, q1, rfl, rfl, rfl, h1, r1⟩ := trodAll_cons r0
  obtain ⟨rfl, rfl, rfl⟩ := trodAll_nil r1
  obtain rfl : args = #[v0, v1] := by cases args; simp_all
  obtain ⟨rfl, rfl⟩ := trodVars_none hV
  obtain ⟨a0, a1, a2, a3, y0, y1, y2, y3, n, rfl, rfl, rfl, t0, t1, t2, t3⟩ := open_agg4 Try.underlying44 (by kernel_rfl) cells44 (hval 0 _ _ rfl rfl) h0
  obtain ⟨b0, b1, z0, z1, n', rfl, rfl, rfl, u0, u1⟩ := open_agg2 Try.underlying46 (by kernel_rfl) cells46 (hval 1 _ _ rfl rfl) h1
  obtain ⟨k0, e0, rfl, f0⟩ := DataW.trod_int Try.underlying3 t0
  obtain ⟨k1, e1, rfl, f1⟩ := DataW.trod_int Try.underlying3 t1
  obtain ⟨k2, e2, rfl, f2⟩ := DataW.trod_int Try.underlying3 t2
  obtain ⟨k3, e3, rfl, f3⟩ := DataW.trod_int Try.underlying3 t3
  obtain ⟨k4, e4, rfl, f4⟩ := DataW.trod_int Try.underlying3 u0
  obtain ⟨k5, e5, rfl, f5⟩ := DataW.trod_int Try.underlying3 u1
  simp only [List.cons.injEq, and_true] at e0 e1 e2 e3 e4 e5
  subst e0 e1 e2 e3 e4 e5
  clear hA0 hval0
  simp only [List.append_nil] at hW'
  refine (w_dropLive k0 k1 k2 k3 k4 k5 W).mono fun e W' ⟨he, hg⟩ => ⟨_, he, ?_⟩
  have i (m : Int) (sp : Nat → Bool) (hm : (Lit.int .i64 m).wf = true) : ∃ n, DataW.trod enc Try.prog W' 0 sp true n 3 [.int .i64 m] = some (.lit (.int .i64 m), []) := ⟨1, trod_int_mk 0 Try.underlying3 hm⟩
  have reads0 (sp : Nat → Bool) := shut_agg4 (enc := enc) (w := W') (base := 0) (spare := sp) (held := true) Try.underlying44 (by kernel_rfl) cells44 (i k0 sp f0) (i k1 sp f1) (i k2 sp f2) (i k3 sp f3)
  have reads1 (sp : Nat → Bool) := shut_agg2 (enc := enc) (w := W') (base := 0) (spare := sp) (held := true) Try.underlying46 (by kernel_rfl) cells46 (i k4 sp f4) (i k5 sp f5)
  refine post_of_ext (pa := []) (pv := []) hW' ?_ ?_ ?_ rfl hg ?_
  · intro b sp hd
    exact trodAll_cons_mk (shut_bool Try.underlying4 true) rfl
  · intro sp _
    exact trodAll_cons_mk (reads0 sp) (trodAll_cons_mk (reads1 sp) rfl)
  · intro sp _
    rfl
  · exact ok_one (by kernel_rfl) rfl (okWide_bool_mk Try.underlying4 true)

theorem closed : joinedFacts Try.prog 4 Try.f4 Rows.dropLiveSpec Rows.dropLiveRow = true := by
  have key : ∀ P : Program, P = Try.prog → joinedFacts P 4 Try.f4 Rows.dropLiveSpec Rows.dropLiveRow = true := by
    intro P hP
    have h1 : P.mayEnter = true := by rw [hP]; exact mayEnter
    have h2 : P.liftsFinal = false := by rw [hP]; exact liftsFinal
    have h3 : P.make = some .cut := by rw [hP]; exact made
    unfold joinedFacts
    rw [h1, h2, h3]
    clear h1 h2 h3
    subst hP
    decide +kernel
  exact key _ rfl

theorem over : Rows.dropLiveRow.holds Try.pinned (OpenSpec.ofChange Rows.dropLiveSpec) :=
  OpenClaim.holds_of_wide 4 Try.f4 rfl rfl rfl rfl rfl rfl rfl ⟨rfl, rfl, rfl, rfl, rfl⟩ rfl rfl rfl rfl rfl (by kernel_rfl) Try.func4 closed
    (of_decide_eq_true (by kernel_rfl)) (by unfold Func.isWrapper; first | (rw [if_pos (by decide +kernel)]; kernel_rfl) | (rw [if_neg (by decide +kernel)]; exact ⟨rfl, rfl⟩))
    (fun os started H enc _ => lifted os started H enc)

/-- The statement. -/
theorem proved : Rows.DropLiveSaid :=
  over
end Go.Proofs.Ythblhgappldcjaa.DropLive
