/- What stands at the head of the program. -/
import Derived.Test.YthblhgappldcjaaRows
import Derived.WalkKit
import Derived.ProofKit
import Derived.OpenShut
namespace Go.Proofs.Ythblhgappldcjaa
open Go Go.ChangeShapes Go.WideShapes Go.ChangeAt Go.RowKit

theorem words_cons : ∀ (a b : List Char), a.all (fun c => !(c == Char.ofNat 32)) = true → wordsSigns (a ++ Char.ofNat 32 :: b) = a :: wordsSigns b
  | [], b, _ => by
    show wordsSigns (Char.ofNat 32 :: b) = _
    rfl
  | c :: a, b, h => by
    simp only [List.all_cons, Bool.and_eq_true] at h
    have hc : c ≠ Char.ofNat 32 := by
      intro e; rw [e] at h; simp at h
    have ih := words_cons a b h.2
    show wordsSigns (c :: (a ++ Char.ofNat 32 :: b)) = _
    rw [wordsSigns, ih]
    intro e; exact hc e

def ioTail : List Char := List.map Char.ofNat [97, 116, 32, 102, 111, 111, 116, 108, 111, 99, 107, 101, 114, 47, 102, 111, 111, 116, 108, 111, 99, 107, 101, 114, 108, 97, 119, 48, 57, 46, 68, 114, 111, 112, 79, 110, 99, 101, 32, 102, 111, 111, 116, 108, 111, 99, 107, 101, 114, 47, 102, 111, 111, 116, 108, 111, 99, 107, 101, 114, 108, 97, 119, 48, 57, 46, 68, 114, 111, 112, 76, 105, 118, 101, 32, 102, 111, 111, 116, 108, 111, 99, 107, 101, 114, 47, 102, 111, 111, 116, 108, 111, 99, 107, 101, 114, 108, 97, 119, 48, 57, 46, 68, 114, 111, 112, 65, 108, 111, 110, 101, 32, 102, 111, 111, 116, 108, 111, 99, 107, 101, 114, 47, 102, 111, 111, 116, 108, 111, 99, 107, 101, 114, 108, 97, 119, 48, 57, 46, 68, 114, 111, 112, 82, 101, 116, 105, 114, 101, 115, 32, 102, 111, 111, 116, 108, 111, 99, 107, 101, 114, 47, 102, 111, 111, 116, 108, 111, 99, 107, 101, 114, 108, 97, 119, 48, 57, 46, 68, 114, 111, 112, 77, 111, 118, 105, 110, 103, 32, 102, 111, 111, 116, 108, 111, 99, 107, 101, 114, 47, 102, 111, 111, 116, 108, 111, 99, 107, 101, 114, 108, 97, 119, 48, 57, 46, 68, 114, 111, 112, 72, 101, 108, 112, 115, 32, 102, 111, 111, 116, 108, 111, 99, 107, 101, 114, 47, 102, 111, 111, 116, 108, 111, 99, 107, 101, 114, 108, 97, 119, 49, 48, 46, 65, 99, 99, 101, 115, 115, 65, 108, 111, 110, 101, 32, 102, 111, 111, 116, 108, 111, 99, 107, 101, 114, 47, 102, 111, 111, 116, 108, 111, 99, 107, 101, 114, 108, 97, 119, 49, 48, 46, 65, 99, 99, 101, 115, 115, 67, 111, 117, 110, 116, 115, 32, 102, 111, 111, 116, 108, 111, 99, 107, 101, 114, 47, 102, 111, 111, 116, 108, 111, 99, 107, 101, 114, 108, 97, 119, 49, 48, 46, 65, 99, 99, 101, 115, 115, 78, 111, 110, 101, 32, 102, 111, 111, 116, 108, 111, 99, 107, 101, 114, 47, 102, 111, 111, 116, 108, 111, 99, 107, 101, 114, 108, 97, 119, 49, 48, 46, 65, 99, 99, 101, 115, 115, 79, 110, 101, 32, 102, 111, 111, 116, 108, 111, 99, 107, 101, 114, 47, 102, 111, 111, 116, 108, 111, 99, 107, 101, 114, 108, 97, 119, 49, 48, 46, 65, 99, 99, 101, 115, 115, 76, 97, 115, 116, 32, 102, 111, 111, 116, 108, 111, 99, 107, 101, 114, 47, 102, 111, 111, 116, 108, 111, 99, 107, 101, 114, 108, 97, 119, 48, 57, 46, 68, 114, 111, 112, 70, 111, 114, 103, 101, 100, 32, 102, 111, 111, 116, 108, 111, 99, 107, 101, 114, 47, 102, 111, 111, 116, 108, 111, 99, 107, 101, 114, 108, 97, 119, 48, 57, 46, 68, 114, 111, 112, 83, 116, 101, 112, 115, 32, 102, 111, 111, 116, 108, 111, 99, 107, 101, 114, 47, 102, 111, 111, 116, 108, 111, 99, 107, 101, 114, 108, 97, 119, 49, 48, 46, 65, 99, 99, 101, 115, 115, 83, 116, 111, 112, 115, 32, 102, 111, 111, 116, 108, 111, 99, 107, 101, 114, 47, 102, 111, 111, 116, 108, 111, 99, 107, 101, 114, 108, 97, 119, 49, 48, 46, 65, 99, 99, 101, 115, 115, 83, 116, 101, 112, 115, 32, 102, 111, 111, 116, 108, 111, 99, 107, 101, 114, 47, 102, 111, 111, 116, 108, 111, 99, 107, 101, 114, 108, 97, 119, 49, 48, 46, 65, 99, 99, 101, 115, 115, 70, 111, 114, 103, 101, 100, 32, 102, 111, 111, 116, 108, 111, 99, 107, 101, 114, 47, 102, 111, 111, 116, 108, 111, 99, 107, 101, 114, 108, 97, 119, 49, 48, 46, 65, 99, 99, 101, 115, 115, 68, 114, 111, 112, 115, 32, 102, 111, 111, 116, 108, 111, 99, 107, 101, 114, 47, 102, 111, 111, 116, 108, 111, 99, 107, 101, 114, 108, 97, 119, 49, 49, 46, 77, 111, 118, 101, 87, 114, 105, 116, 101, 115, 32, 102, 111, 111, 116, 108, 111, 99, 107, 101, 114, 47, 102, 111, 111, 116, 108, 111, 99, 107, 101, 114, 108, 97, 119, 49, 49, 46, 77, 111, 118, 101, 82, 101, 97, 100, 115, 32, 102, 111, 111, 116, 108, 111, 99, 107, 101, 114, 47, 102, 111, 111, 116, 108, 111, 99, 107, 101, 114, 108, 97, 119, 49, 49, 46, 77, 111, 118, 101, 65, 103, 97, 105, 110, 32, 102, 111, 111, 116, 108, 111, 99, 107, 101, 114, 47, 102, 111, 111, 116, 108, 111, 99, 107, 101, 114, 108, 97, 119, 49, 49, 46, 77, 111, 118, 101, 86, 101, 114, 115, 105, 111, 110, 115, 32, 102, 111, 111, 116, 108, 111, 99, 107, 101, 114, 47, 102, 111, 111, 116, 108, 111, 99, 107, 101, 114, 108, 97, 119, 49, 49, 46, 77, 111, 118, 101, 65, 108, 111, 110, 101, 32, 102, 111, 111, 116, 108, 111, 99, 107, 101, 114, 47, 102, 111, 111, 116, 108, 111, 99, 107, 101, 114, 108, 97, 119, 49, 49, 46, 77, 111, 118, 101, 82, 111, 111, 109, 32, 102, 111, 111, 116, 108, 111, 99, 107, 101, 114, 47, 102, 111, 111, 116, 108, 111, 99, 107, 101, 114, 108, 97, 119, 49, 49, 46, 77, 111, 118, 101, 83, 116, 101, 112, 115, 32, 102, 111, 111, 116, 108, 111, 99, 107, 101, 114, 47, 102, 111, 111, 116, 108, 111, 99, 107, 101, 114, 108, 97, 119, 49, 49, 46, 77, 111, 118, 101, 68, 114, 111, 112, 115]

theorem io_eq : Try.prog.initOrder = String.ofList (List.map Char.ofNat [104, 97, 114, 110, 101, 115, 115] ++ Char.ofNat 32 :: (List.map Char.ofNat [98, 52, 50, 52, 55, 101, 98, 98, 55, 50, 102, 49, 102, 99, 49, 48, 100, 100, 102, 55, 97, 50, 51, 98, 53, 52, 53, 100, 53, 53, 48, 55, 56, 56, 97, 52, 57, 50, 53, 99, 49, 98, 56, 49, 57, 51, 53, 52, 55, 56, 49, 100, 50, 49, 54, 97, 52, 55, 57, 97, 57, 52, 53, 54] ++ Char.ofNat 32 :: (List.map Char.ofNat [99, 117, 116] ++ Char.ofNat 32 :: ioTail))) := by kernel_rfl

theorem beh : behindMainWord (wordsSigns Try.prog.initOrder.toList) = List.map Char.ofNat [99, 117, 116] :: wordsSigns ioTail := by
  rw [io_eq, String.toList_ofList, words_cons _ _ (by kernel_rfl), words_cons _ _ (by kernel_rfl), words_cons _ _ (by kernel_rfl)]
  kernel_rfl

def cutW : List Char := List.map Char.ofNat [99, 117, 116]

theorem strip_none (w : List Char) (ws : List (List Char)) : ∀ os : List String, os.all (fun o => !(w == o.toList)) = true → stripLifts os (w :: ws) = ([], w :: ws)
  | [], _ => rfl
  | o :: os, h => by
    simp only [List.all_cons, Bool.and_eq_true, Bool.not_eq_true'] at h
    rw [stripLifts, h.1]
    exact strip_none w ws os h.2

theorem strip_cut (R : List (List Char)) : stripLifts liftWords (cutW :: R) = ([], cutW :: R) := strip_none _ _ _ (by kernel_rfl)
theorem cut_gc : (cutW == "gc".toList) = false := by kernel_rfl
theorem cut_spec : (cutW == "spec".toList) = false := by kernel_rfl
theorem cut_carried : (cutW == "carried".toList) = false := by kernel_rfl
theorem cut_cut : (cutW == "cut".toList) = true := by kernel_rfl
theorem cut_head (R : List (List Char)) : ((cutW :: R).head? == some "cut".toList) = true := by
  have := eq_of_beq cut_cut
  rw [List.head?_cons, this]; simp
theorem no_later : Try.prog.laysLater = false := by kernel_rfl
theorem no_reflect : Try.prog.bearsReflect = false := by kernel_rfl
theorem doors : Try.prog.doorFits [] = true := by kernel_rfl
theorem beh' : behindMainWord (wordsSigns Try.prog.initOrder.toList) = cutW :: wordsSigns ioTail := beh

theorem mayEnter_of {P : Program} {R : List (List Char)} (h : behindMainWord (wordsSigns P.initOrder.toList) = cutW :: R) (h1 : P.laysLater = false) (h2 : P.bearsReflect = false) (h3 : P.doorFits [] = true) : P.mayEnter = true := by
  unfold Program.mayEnter
  rw [h]
  simp only [strip_cut, cut_gc, cut_spec, cut_carried, cut_head, h1, h2, h3]
  rfl
theorem headLifts_of {P : Program} {R : List (List Char)} (h : behindMainWord (wordsSigns P.initOrder.toList) = cutW :: R) : P.headLifts = [] := by
  unfold Program.headLifts
  rw [h]
  simp only [strip_cut, cut_head]
  rfl
theorem liftsFinal_of {P : Program} {R : List (List Char)} (h : behindMainWord (wordsSigns P.initOrder.toList) = cutW :: R) : P.liftsFinal = false := by
  unfold Program.liftsFinal
  rw [h, headLifts_of h]
  have h : ((cutW :: R).head? == some "carried".toList) = false := by
    have := cut_carried
    rw [List.head?_cons]; simpa using this
  simp only [h]
  rfl
theorem make_of {P : Program} {R : List (List Char)} (h : behindMainWord (wordsSigns P.initOrder.toList) = cutW :: R) : P.make = some .cut := by
  unfold Program.make
  rw [h]
  simp only [cut_gc, cut_spec, cut_cut]
  rfl
theorem mayEnter : Try.prog.mayEnter = true := mayEnter_of beh' no_later no_reflect doors
theorem liftsFinal : Try.prog.liftsFinal = false := liftsFinal_of beh'
theorem made : Try.prog.make = some .cut := make_of beh'

/-- The facts on the whole program, which no law changes. -/
theorem wholes : (laidOutB Try.prog && mapsRowed Try.prog && (Try.prog.stops == []) && (Try.prog.stopKnobs == []) && Try.prog.plainKeys && Try.prog.stopsHeard) = true := by kernel_rfl

end Go.Proofs.Ythblhgappldcjaa
