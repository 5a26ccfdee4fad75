/- A region that draws its order, in which one of the heads writes: the others yield the same ahead of it and behind it. -/
import Derived.Test.YthblhgappldcjaaSa
namespace Go.Proofs.Ythblhgappldcjaa
open Go Go.RowKit

section
variable {P : Program} {ops : Array Oper} {md : Region.Mode} {p : Nat} {S0 S1 : World → Prop}

theorem GivesTo.of_same {S S' : World → Prop} {o : Oper} {v : Value} {a a' : Act} (hy : GivesTo P ops S S' o v a) (he : execOp a'.eval o = execOp a.eval o)
    (hw : Region.wanted o (yielded ops a'.tmps) = Region.wanted o (yielded ops a.tmps)) : GivesTo P ops S S' o v a' := by
  unfold GivesTo at *
  rw [he, hw]
  exact hy

/-- Operation p leads from S0 to S1; the others stay in either. -/
def GivesW (P : Program) (ops : Array Oper) (p : Nat) (S0 S1 : World → Prop) (i : Nat) (o : Oper) (v : Value) (a : Act) : Prop :=
  (i = p → GivesTo P ops S0 S1 o v a) ∧ (i ≠ p → GivesTo P ops S0 S0 o v a ∧ GivesTo P ops S1 S1 o v a)

theorem GivesW.of_same {i : Nat} {o : Oper} {v : Value} {a a' : Act} (hy : GivesW P ops p S0 S1 i o v a) (he : execOp a'.eval o = execOp a.eval o)
    (hw : Region.wanted o (yielded ops a'.tmps) = Region.wanted o (yielded ops a.tmps)) : GivesW P ops p S0 S1 i o v a' :=
  ⟨fun h => (hy.1 h).of_same he hw, fun h => ⟨(hy.2 h).1.of_same he hw, (hy.2 h).2.of_same he hw⟩⟩

def HeadsW (P : Program) (ops : Array Oper) (p : Nat) (S0 S1 : World → Prop) (R : Act → Prop) : List Nat → Act → Prop
  | [], a => R a
  | i :: rest, a => ∃ o v, ops[i]? = some o ∧ GivesW P ops p S0 S1 i o v a ∧ HeadsW P ops p S0 S1 R rest (a.put o.dst v)

def AnyW (P : Program) (md : Region.Mode) (ops : Array Oper) (p : Nat) (S0 S1 : World → Prop) (T : List Nat) (L : Array Bool → Act → Prop) : Nat → Array Bool → Act → Prop
  | 0, listed, a => L listed a
  | f + 1, listed, a => Region.ready md ops listed ≠ [] ∧ ∀ i ∈ Region.ready md ops listed, T.contains i = false ∧
      ∃ o v, ops[i]? = some o ∧ GivesW P ops p S0 S1 i o v a ∧ AnyW P md ops p S0 S1 T L f (listed.setIfInBounds i true) (a.put o.dst v)

theorem AnyW_first {T : List Nat} {t0 i : Nat} {oi : Oper} {v : Value} {H : List Nat} {L : Array Bool → Act → Prop} (hi : ops[i]? = some oi) (hsel : ∀ (j : Nat) (o : Oper) cs b, ops[j]? = some o → o.op ≠ .select cs b)
    (hs : sinkL md ops t0 H = true) (hch : chainL md ops T [t0] = true) (hin : i ∈ H)
    (hdone : ∀ listed a, L listed a → ∀ j ∈ Region.ready md ops listed, (t0 :: T).contains j = true) :
    ∀ (f : Nat) (listed : Array Bool) (a : Act), ClosedL md ops listed →
      (∀ j oj, ops[j]? = some oj → j ≠ i → listed.getD j true = false → (∀ e ∈ oj.after, Region.binds md e = true → e.on ≠ i) → oi.apart ops oj = true) →
      i ∈ Region.ready md ops listed → GivesW P ops p S0 S1 i oi v a →
      AnyW P md ops p S0 S1 (t0 :: T) L f (listed.setIfInBounds i true) (a.put oi.dst v) → AnyW P md ops p S0 S1 (t0 :: T) L (f + 1) listed a := by
  intro f
  have noT : ∀ (listed : Array Bool), ClosedL md ops listed → listed.getD i true = false → ∀ j ∈ Region.ready md ops listed, (t0 :: T).contains j = false := by
    intro listed hc hu j hj
    have hb := sink_blocks hc H hs ⟨i, hin, down_of_true hu⟩
    have hb2 : ∀ t ∈ t0 :: T, t ∉ Region.ready md ops listed := by
      intro t ht
      rcases List.mem_cons.1 ht with rfl | ht
      · exact hb.2
      · exact chain_blocks hc T [t0] hch (fun t ht => by rw [List.mem_singleton.1 ht]; exact hb) t ht
    cases hcon : (t0 :: T).contains j with
    | false => rfl
    | true => exact absurd hj (hb2 j (by simpa using hcon))
  induction f with
  | zero =>
    intro listed a hc _ hr hy HL
    have hun := (mem_ready.1 hr).1
    refine ⟨fun h => (by rw [h] at hr; cases hr), fun j hj => ?_⟩
    have hT := noT listed hc hun j hj
    refine ⟨hT, ?_⟩
    by_cases hji : j = i
    · subst hji; exact ⟨oi, v, hi, hy, HL⟩
    · have := hdone _ _ HL j (ready_mono hj hji)
      rw [hT] at this; cases this
  | succ f ih =>
    intro listed a hc hfree hr hy HL
    have hun := (mem_ready.1 hr).1
    refine ⟨fun h => (by rw [h] at hr; cases hr), fun j hj => ?_⟩
    refine ⟨noT listed hc hun j hj, ?_⟩
    by_cases hji : j = i
    · subst hji; exact ⟨oi, v, hi, hy, HL⟩
    · obtain ⟨_, oj', vj, hoj', hgj, hrest⟩ := HL.2 j (ready_mono hj hji)
      obtain ⟨hjun, oj, hoj, hall⟩ := mem_ready.1 hj
      have : oj' = oj := Option.some.inj (hoj'.symm.trans hoj)
      subst this
      have hnot : ∀ e ∈ oj'.after, Region.binds md e = true → e.on ≠ i := fun e he hb heq => by
        have h1 := hall e he hb
        rw [heq, down_of_true hun] at h1
        cases h1
      obtain ⟨h1, h2, h3⟩ := Oper.apart_spec (hfree j oj' hoj hji hjun hnot)
      have hgj' : GivesW P ops p S0 S1 j oj' vj a := hgj.of_same (execOp_put oj' (fun cs b => hsel j oj' cs b hoj) a oi.dst v h1).symm (wanted_put oj' a oi.dst v h1).symm
      have hy' : GivesW P ops p S0 S1 i oi v (a.put oj'.dst vj) := hy.of_same (execOp_put oi (fun cs b => hsel i oi cs b hi) a oj'.dst vj h3) (wanted_put oi a oj'.dst vj h3)
      have hfree' : ∀ k ok, ops[k]? = some ok → k ≠ i → (listed.setIfInBounds j true).getD k true = false →
          (∀ e ∈ ok.after, Region.binds md e = true → e.on ≠ i) → oi.apart ops ok = true := fun k ok hk hki hun hno => by
        refine hfree k ok hk hki ?_ hno
        by_cases hjk : j = k
        · subst hjk; exact hjun
        · rw [getD_set_ne true hjk] at hun; exact hun
      refine ⟨oj', vj, hoj, hgj', ih (listed.setIfInBounds j true) _ (hc.set hj) hfree' (ready_mono hr (Ne.symm hji)) hy' ?_⟩
      rw [Array.setIfInBounds_comm _ _ hji, ← Act.put_comm a v vj h2]
      exact hrest

def lexW (md : Region.Mode) (ops : Array Oper) (p : Nat) (T : List Nat) : List Nat → Array Bool → Bool
  | [], listed => seqL md ops T listed && (Region.ready md ops listed).all (fun j => T.contains j) && listed.getD p false
  | h :: hs, listed => (Region.ready md ops listed).contains h && Region.free md ops listed h && lexW md ops p T hs (listed.setIfInBounds h true)

theorem AnyW_lex {T H : List Nat} {t0 : Nat} {R : Act → Prop} (hsel : Region.noSelect ops = true) (hs : sinkL md ops t0 H = true) (hch : chainL md ops T [t0] = true) :
    ∀ (hl : List Nat) (listed : Array Bool) (a : Act), (∀ h ∈ hl, h ∈ H) → ClosedL md ops listed →
    lexW md ops p (t0 :: T) hl listed = true → HeadsW P ops p S0 S1 R hl a →
    AnyW P md ops p S0 S1 (t0 :: T) (fun listed' a' => (seqL md ops (t0 :: T) listed' && (Region.ready md ops listed').all (fun j => (t0 :: T).contains j) && listed'.getD p false) = true ∧ R a') hl.length listed a
  | [], listed, a, _, _, hB, h => ⟨hB, h⟩
  | k :: hl, listed, a, hsub, hc, hB, h => by
    simp only [lexW, Bool.and_eq_true] at hB
    obtain ⟨⟨hr, hf⟩, hB'⟩ := hB
    have hr' : k ∈ Region.ready md ops listed := by simpa using hr
    obtain ⟨_, o, ho, _⟩ := mem_ready.1 hr'
    obtain ⟨o', v, ho', hy, hK⟩ := h
    have : o' = o := Option.some.inj (ho'.symm.trans ho)
    subst this
    exact AnyW_first ho (Region.noSelect_spec hsel) hs hch (hsub k (by simp)) (fun listed' a' hL j hj => by
        have h2 := hL.1
        simp only [Bool.and_eq_true, List.all_eq_true] at h2
        exact h2.1.2 j hj) hl.length listed a hc (Region.free_spec ho hf) hr' hy
      (AnyW_lex hsel hs hch hl _ _ (fun x hx => hsub x (by simp [hx])) (hc.set hr') hB' hK)

/-- Which worlds may be there. -/
def InW (p : Nat) (S0 S1 : World → Prop) (listed : Array Bool) (w : World) : Prop := (listed.getD p false = true → S1 w) ∧ (listed.getD p false = false → S0 w)

theorem getD_set_me {l : Array Bool} {i : Nat} (h : l.getD i true = false) : (l.setIfInBounds i true).getD i false = true := by
  by_cases hi : i < l.size
  · simp [Array.getD, hi]
  · simp only [Array.getD, hi, dite_false] at h; cases h

theorem wpAny_of_AnyW {T : List Nat} {g : Nat} {Q : Exit → Act → World → Prop} {L : Array Bool → Act → Prop} (hL : ∀ listed a w, L listed a → InW p S0 S1 listed w → wpAny P md ops Q g listed a w) :
    ∀ (f : Nat) (listed : Array Bool) (a : Act) (w : World), InW p S0 S1 listed w → AnyW P md ops p S0 S1 T L f listed a → wpAny P md ops Q (f + g) listed a w
  | 0, listed, a, w, hS, h => by rw [Nat.zero_add]; exact hL _ _ _ h hS
  | f + 1, listed, a, w, hS, h => by
    rw [show f + 1 + g = (f + g) + 1 by omega]
    refine ⟨fun h0 => absurd h0 h.1, fun i hi => ?_⟩
    obtain ⟨_, o, v, ho, hg, hrest⟩ := h.2 i hi
    obtain ⟨hun, _⟩ := mem_ready.1 hi
    by_cases hp : i = p
    · have h0 := hS.2 (by rw [← hp]; exact down_of_true hun)
      have e : (listed.setIfInBounds i true).getD p false = true := by rw [← hp]; exact getD_set_me hun
      exact (hg.1 hp).wpOp ho h0 (fun w' hS' => wpAny_of_AnyW hL f _ _ w' ⟨fun _ => hS', fun h => (by rw [e] at h; cases h)⟩ hrest)
    · obtain ⟨g0, g1⟩ := hg.2 hp
      have e : (listed.setIfInBounds i true).getD p false = listed.getD p false := getD_set_ne false hp
      cases hl : listed.getD p false
      · exact g0.wpOp ho (hS.2 hl) (fun w' hS' => wpAny_of_AnyW hL f _ _ w' ⟨fun h => (by rw [e, hl] at h; cases h), fun _ => hS'⟩ hrest)
      · exact g1.wpOp ho (hS.1 hl) (fun w' hS' => wpAny_of_AnyW hL f _ _ w' ⟨fun _ => hS', fun h => by rw [e, hl] at h; cases h⟩ hrest)

def planW (ops : Array Oper) (p : Nat) (H : List Nat) (t0 : Nat) (T : List Nat) : Bool :=
  Region.noSelect ops && decide (ops.size = H.length + (T.length + 1)) && sinkL .any ops t0 H && chainL .any ops T [t0] && lexW .any ops p (t0 :: T) H (Array.replicate ops.size false)

/-- THE LAW: one of the heads writes. -/
theorem wp_region_mid {id : Nat} {Q : Exit → Act → World → Prop} {a : Act} {w : World} {l : List Oper} (p : Nat) (S0 S1 : World → Prop) (H : List Nat) (t0 : Nat) (T : List Nat)
    (hm : P.follows .mixedOrders = true) (hB : planW l.toArray p H t0 T = true)
    (hQ : ∀ c a d v w, Q (.panic c) (Act.put a d v) w → Q (.panic c) a w) (hS : S0 w.drew)
    (h : HeadsW P l.toArray p S0 S1 (fun a' => ∀ w', S1 w' → wpList P l.toArray Q (opsAt l.toArray (t0 :: T)) a' w') H a) :
    (Code.region id l.toArray true).wp P Q a w := by
  simp only [planW, Bool.and_eq_true, decide_eq_true_eq] at hB
  obtain ⟨⟨⟨⟨hsel, hsz⟩, hs⟩, hch⟩, hf⟩ := hB
  refine wp_region_any hm ?_
  have hst : InW p S0 S1 (Array.replicate l.toArray.size false) w.drew := ⟨fun h => (by rw [fresh_down] at h; cases h), fun _ => hS⟩
  have key := wpAny_of_AnyW (Q := Q) (p := p) (S0 := S0) (S1 := S1) (g := T.length + 1) (L := fun listed' a' => (seqL .any l.toArray (t0 :: T) listed' && (Region.ready .any l.toArray listed').all (fun j => (t0 :: T).contains j) && listed'.getD p false) = true ∧ ∀ w', S1 w' → wpList P l.toArray Q (opsAt l.toArray (t0 :: T)) a' w')
      (fun listed' a'' w' hL hS' => by
        have h2 := hL.1
        simp only [Bool.and_eq_true] at h2
        exact wpAny_of_seqL hsel hQ (t0 :: T) listed' a'' w' h2.1.1 (hL.2 w' (hS'.1 h2.2))) H.length _ a _ hst (AnyW_lex hsel hs hch H _ a (fun _ h => h) (ClosedL.start _) hf h)
  rw [← hsz] at key
  exact key

theorem HeadsW.nil {R : Act → Prop} {a : Act} (h : R a) : HeadsW P ops p S0 S1 R [] a := h
theorem HeadsW.cons {R : Act → Prop} {i : Nat} {rest : List Nat} {a : Act} {o : Oper} {v : Value} (ho : ops[i]? = some o) (hp : i ≠ p) (hg : Region.wanted o (yielded ops a.tmps) = true)
    (h0 : ∀ w, S0 w → GivesUpon P S0 v ((execOp a.eval o).run P w)) (h1 : ∀ w, S1 w → GivesUpon P S1 v ((execOp a.eval o).run P w)) (hr : HeadsW P ops p S0 S1 R rest (a.put o.dst v)) : HeadsW P ops p S0 S1 R (i :: rest) a :=
  ⟨o, v, ho, ⟨fun h => absurd h hp, fun _ => ⟨.inl ⟨hg, h0⟩, .inl ⟨hg, h1⟩⟩⟩, hr⟩
theorem HeadsW.val {R : Act → Prop} {i : Nat} {rest : List Nat} {a : Act} {o : Oper} {v : Value} (ho : ops[i]? = some o) (hp : i ≠ p) (hg : Region.wanted o (yielded ops a.tmps) = true)
    (h : ∀ w, (S0 w ∨ S1 w) → (execOp a.eval o).run P w = .ok (.value v) w) (hr : HeadsW P ops p S0 S1 R rest (a.put o.dst v)) : HeadsW P ops p S0 S1 R (i :: rest) a :=
  .cons ho hp hg (fun w hw => by rw [h w (Or.inl hw)]; exact ⟨rfl, hw⟩) (fun w hw => by rw [h w (Or.inr hw)]; exact ⟨rfl, hw⟩) hr
theorem HeadsW.writes {R : Act → Prop} {rest : List Nat} {a : Act} {o : Oper} {v : Value} (ho : ops[p]? = some o) (hg : Region.wanted o (yielded ops a.tmps) = true)
    (h : ∀ w, S0 w → GivesUpon P S1 v ((execOp a.eval o).run P w)) (hr : HeadsW P ops p S0 S1 R rest (a.put o.dst v)) : HeadsW P ops p S0 S1 R (p :: rest) a :=
  ⟨o, v, ho, ⟨fun _ => .inl ⟨hg, h⟩, fun h => absurd rfl h⟩, hr⟩

end
end Go.Proofs.Ythblhgappldcjaa
