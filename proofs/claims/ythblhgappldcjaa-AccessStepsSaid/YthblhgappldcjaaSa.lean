/- A region that draws its order, with several operations that write, one behind the other: ahead of each, operations that only look, in whatever order. -/
import Derived.Test.YthblhgappldcjaaA
namespace Go.Proofs.Ythblhgappldcjaa
open Go Go.RowKit

section
variable {P : Program} {ops : Array Oper} {md : Region.Mode}

/-- From a world of S the operation yields v, and leaves a world of S'. -/
def GivesTo (P : Program) (ops : Array Oper) (S S' : World → Prop) (o : Oper) (v : Value) (a : Act) : Prop :=
  (Region.wanted o (yielded ops a.tmps) = true ∧ ∀ w, S w → GivesUpon P S' v ((execOp a.eval o).run P w)) ∨
  (Region.wanted o (yielded ops a.tmps) = false ∧ v = undef ∧ ∀ w, S w → S' w)

theorem GivesTo.wpOp {S S' : World → Prop} {Q : Exit → Act → World → Prop} {i : Nat} {o : Oper} {v : Value} {a : Act} (hi : ops[i]? = some o) (hy : GivesTo P ops S S' o v a)
    {K : Act → World → Prop} {w : World} (hS : S w) (h : ∀ w', S' w' → K (a.put o.dst v) w') : wpOp P ops Q i K a w := by
  unfold Go.wpOp
  simp only [hi]
  rcases hy with ⟨hw, hv⟩ | ⟨hw, rfl, hs⟩
  · simp only [hw, if_true]
    refine .inl ?_
    have h1 := hv w hS
    unfold Oper.wp
    generalize (execOp a.eval o).run P w = r at *
    cases r with
    | ok n w' =>
      cases n <;> simp only [GivesUpon] at h1 <;> simp only [Oper.upon]
      case value u => obtain ⟨rfl, h2⟩ := h1; exact h _ h2
      case skip => obtain ⟨rfl, h2⟩ := h1; exact h _ h2
      case enter f args =>
        refine h1.mono fun e w'' ⟨he, hs⟩ => ?_
        subst he
        exact h _ hs
    | halt x w' => simp only [GivesUpon] at h1
  · simp only [hw, Bool.false_eq_true, if_false]; exact h _ (hs _ hS)

def StagesP (P : Program) (ops : Array Oper) (R : (World → Prop) → Act → Prop) : List (List Nat × Nat) → (World → Prop) → Act → Prop
  | [], S, a => R S a
  | (H, t) :: rest, S, a => Heads P ops S (fun a' => ∃ o v S', ops[t]? = some o ∧ GivesTo P ops S S' o v a' ∧ StagesP P ops R rest S' (a'.put o.dst v)) (opsAt ops H) a

def laterL (Z : List Nat) : List (List Nat × Nat) → List Nat
  | [] => Z
  | (H, t) :: rest => H ++ (t :: laterL Z rest)

/-- Heads in the order of the list, then something of what has come up. -/
def lexB (md : Region.Mode) (ops : Array Oper) (B : Array Bool → Bool) : List Nat → Array Bool → Bool
  | [], listed => B listed
  | h :: hs, listed => (Region.ready md ops listed).contains h && Region.free md ops listed h && lexB md ops B hs (listed.setIfInBounds h true)

def stagesB (md : Region.Mode) (ops : Array Oper) (Z : List Nat) : List (List Nat × Nat) → Array Bool → Bool
  | [], listed => seqL md ops Z listed
  | (H, t) :: rest, listed => sinkL md ops t H && chainL md ops (laterL Z rest) [t] && lexB md ops (fun l => decide (Region.ready md ops l = [t]) && stagesB md ops Z rest (l.setIfInBounds t true)) H listed

def countL (Z : List Nat) : List (List Nat × Nat) → Nat
  | [] => Z.length
  | (H, _) :: rest => H.length + (1 + countL Z rest)

theorem AnyG_lexB {S : World → Prop} {T H : List Nat} {t0 : Nat} {R : Act → Prop} {B : Array Bool → Bool} (hB0 : ∀ l, B l = true → Region.ready md ops l = [t0]) (hsel : Region.noSelect ops = true) (hs : sinkL md ops t0 H = true) (hch : chainL md ops T [t0] = true) :
    ∀ (hl : List Nat) (listed : Array Bool) (a : Act), (∀ h ∈ hl, h ∈ H) → ClosedL md ops listed →
    lexB md ops B hl listed = true → Heads P ops S R (opsAt ops hl) a →
    AnyG P md ops S (t0 :: T) (fun listed' a' => (B listed' = true ∧ ClosedL md ops listed') ∧ R a') hl.length listed a
  | [], listed, a, _, hc, hB, h => ⟨⟨hB, hc⟩, h⟩
  | k :: hl, listed, a, hsub, hc, hB, h => by
    simp only [lexB, Bool.and_eq_true] at hB
    obtain ⟨⟨hr, hf⟩, hB'⟩ := hB
    have hr' : k ∈ Region.ready md ops listed := by simpa using hr
    obtain ⟨_, o, ho, _⟩ := mem_ready.1 hr'
    simp only [opsAt, List.filterMap_cons, ho] at h
    obtain ⟨v, hy, hK⟩ := h
    exact AnyG_first ho (Region.noSelect_spec hsel) hs hch (hsub k (by simp)) (fun listed' a' hL j hj => by
        rw [hB0 _ hL.1.1] at hj
        have : j = t0 := by simpa using hj
        subst this; simp) hl.length listed a hc (Region.free_spec ho hf) hr' hy
      (AnyG_lexB hB0 hsel hs hch hl _ _ (fun x hx => hsub x (by simp [hx])) (hc.set hr') hB' hK)

theorem wpAny_stages {Q : Exit → Act → World → Prop} {Z : List Nat} (hsel : Region.noSelect ops = true) (hQ : ∀ c a d v w, Q (.panic c) (Act.put a d v) w → Q (.panic c) a w) :
    ∀ (st : List (List Nat × Nat)) (S : World → Prop) (listed : Array Bool) (a : Act) (w : World), ClosedL md ops listed → stagesB md ops Z st listed = true → S w →
      StagesP P ops (fun S a => ∀ w', S w' → wpList P ops Q (opsAt ops Z) a w') st S a → wpAny P md ops Q (countL Z st) listed a w
  | [], S, listed, a, w, hc, hB, hS, h => wpAny_of_seqL hsel hQ Z listed a w hB (h w hS)
  | (H, t) :: rest, S, listed, a, w, hc, hB, hS, h => by
    simp only [stagesB, Bool.and_eq_true] at hB
    obtain ⟨⟨hs, hch⟩, hB⟩ := hB
    have hG := AnyG_lexB (P := P) (S := S) (B := fun l => decide (Region.ready md ops l = [t]) && stagesB md ops Z rest (l.setIfInBounds t true)) (fun l hl => by
      simp only [Bool.and_eq_true, decide_eq_true_eq] at hl; exact hl.1) hsel hs hch H listed a (fun _ h => h) hc hB h
    refine wpAny_of_AnyG (S := S) (fun listed' a' w' hL hS' => ?_) H.length listed a w hS hG
    obtain ⟨⟨hB', hc'⟩, o, v, S', ho, hg, hrest⟩ := hL
    simp only [Bool.and_eq_true, decide_eq_true_eq] at hB'
    rw [show 1 + countL Z rest = countL Z rest + 1 by omega]
    refine ⟨fun h0 => (by rw [hB'.1] at h0; cases h0), fun i hi => ?_⟩
    have hit : i = t := by rw [hB'.1] at hi; simpa using hi
    subst hit
    exact hg.wpOp ho hS' (fun w'' hS'' => wpAny_stages hsel hQ rest S' _ _ w'' (hc'.set hi) hB'.2 hS'' hrest)

def planS (ops : Array Oper) (Z : List Nat) (st : List (List Nat × Nat)) : Bool :=
  Region.noSelect ops && decide (ops.size = countL Z st) && stagesB .any ops Z st (Array.replicate ops.size false)

/-- THE LAW of stages. -/
theorem wp_region_stages {id : Nat} {Q : Exit → Act → World → Prop} {a : Act} {w : World} {l : List Oper} (S : World → Prop) (st : List (List Nat × Nat)) (Z : List Nat)
    (hm : P.follows .mixedOrders = true) (hB : planS l.toArray Z st = true)
    (hQ : ∀ c a d v w, Q (.panic c) (Act.put a d v) w → Q (.panic c) a w) (hS : S w.drew)
    (h : StagesP P l.toArray (fun S a => ∀ w', S w' → wpList P l.toArray Q (opsAt l.toArray Z) a w') st S a) :
    (Code.region id l.toArray true).wp P Q a w := by
  simp only [planS, Bool.and_eq_true, decide_eq_true_eq] at hB
  obtain ⟨⟨hsel, hsz⟩, hf⟩ := hB
  refine wp_region_any hm ?_
  have key := wpAny_stages (Q := Q) hsel hQ st S _ a w.drew (ClosedL.start _) hf hS h
  rw [← hsz] at key
  exact key

theorem StagesP.cons {R : (World → Prop) → Act → Prop} {H : List Nat} {t : Nat} {rest : List (List Nat × Nat)} {S : World → Prop} {a : Act}
    (h : Heads P ops S (fun a' => ∃ o v S', ops[t]? = some o ∧ GivesTo P ops S S' o v a' ∧ StagesP P ops R rest S' (a'.put o.dst v)) (opsAt ops H) a) : StagesP P ops R ((H, t) :: rest) S a := h
theorem StagesP.nil {R : (World → Prop) → Act → Prop} {S : World → Prop} {a : Act} (h : R S a) : StagesP P ops R [] S a := h
theorem Stage.call {R : (World → Prop) → Act → Prop} {x : Option Oper} {rest : List (List Nat × Nat)} {S : World → Prop} {a : Act} {o : Oper} {v : Value} (S' : World → Prop) (ho : x = some o) (hg : Region.wanted o (yielded ops a.tmps) = true)
    (h : ∀ w, S w → GivesUpon P S' v ((execOp a.eval o).run P w)) (hr : StagesP P ops R rest S' (a.put o.dst v)) :
    ∃ o v S', x = some o ∧ GivesTo P ops S S' o v a ∧ StagesP P ops R rest S' (a.put o.dst v) :=
  ⟨o, v, S', ho, .inl ⟨hg, h⟩, hr⟩
theorem Stage.val {R : (World → Prop) → Act → Prop} {x : Option Oper} {rest : List (List Nat × Nat)} {S : World → Prop} {a : Act} {o : Oper} {v : Value} (ho : x = some o) (hg : Region.wanted o (yielded ops a.tmps) = true)
    (h : ∀ w, S w → (execOp a.eval o).run P w = .ok (.value v) w) (hr : StagesP P ops R rest S (a.put o.dst v)) :
    ∃ o v S', x = some o ∧ GivesTo P ops S S' o v a ∧ StagesP P ops R rest S' (a.put o.dst v) :=
  ⟨o, v, S, ho, .inl ⟨hg, fun w hw => by rw [h w hw]; exact ⟨rfl, hw⟩⟩, hr⟩
theorem Stage.skip {R : (World → Prop) → Act → Prop} {x : Option Oper} {rest : List (List Nat × Nat)} {S : World → Prop} {a : Act} {o : Oper} (ho : x = some o) (hg : Region.wanted o (yielded ops a.tmps) = false)
    (hr : StagesP P ops R rest S (a.put o.dst undef)) :
    ∃ o v S', x = some o ∧ GivesTo P ops S S' o v a ∧ StagesP P ops R rest S' (a.put o.dst v) :=
  ⟨o, undef, S, ho, .inr ⟨hg, rfl, fun _ h => h⟩, hr⟩

end
end Go.Proofs.Ythblhgappldcjaa
