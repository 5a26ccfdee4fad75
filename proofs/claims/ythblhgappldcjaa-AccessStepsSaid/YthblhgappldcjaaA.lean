import Derived.Test.YthblhgappldcjaaProg
import Derived.WalkKit
import Derived.WalkSpells
import Derived.WalkLawsBesides
import Derived.KernelRfl
namespace Go.Proofs.Ythblhgappldcjaa
open Go Go.RowKit

/-! ### A region that draws its order: heads that only look, in whatever order, then a chain -/

section
variable {P : Program} {ops : Array Oper} {md : Region.Mode} {S : World → Prop}

/-- Does operation j wait for operation i by an edge of its own? -/
def waits (md : Region.Mode) (ops : Array Oper) (j i : Nat) : Bool := ((ops[j]?).map fun o => o.after.any fun e => Region.binds md e && e.on == i).getD false

theorem waits_out {j i : Nat} (h : waits md ops j i = true) : ∃ oj, ops[j]? = some oj ∧ ∃ e ∈ oj.after, Region.binds md e = true ∧ e.on = i := by
  unfold waits at h
  cases hj : ops[j]? with
  | none => rw [hj] at h; cases h
  | some oj =>
    rw [hj] at h
    simp only [Option.map_some, Option.getD_some, Array.any_eq_true'] at h
    obtain ⟨e, he, hb⟩ := h
    simp only [Bool.and_eq_true, beq_iff_eq] at hb
    exact ⟨oj, rfl, e, he, hb.1, hb.2⟩

theorem down_of_true {l : Array Bool} {i : Nat} (h : l.getD i true = false) : l.getD i false = false := by
  by_cases hi : i < l.size
  · simp only [Array.getD, hi, dite_true] at h ⊢; exact h
  · simp only [Array.getD, hi, dite_false] at h; cases h

theorem fresh_down (n i : Nat) : (Array.replicate n false).getD i false = false := by
  by_cases hi : i < n
  · simp [hi]
  · simp [hi]

/-- What one operation does: it yields v, and the world behind it is one of S. -/
def GivesUpon (P : Program) (S : World → Prop) (v : Value) : Result Next → Prop
  | .ok (.value u) w' => u = v ∧ S w'
  | .ok .skip w' => undef = v ∧ S w'
  | .ok (.enter f args) w' => Calls P f args w' (fun e w'' => e = .returned v ∧ S w'')
  | _ => False

/-- In state a the operation yields v in every world of S, and leaves a world of S. -/
def Gives (P : Program) (ops : Array Oper) (S : World → Prop) (o : Oper) (v : Value) (a : Act) : Prop :=
  (Region.wanted o (yielded ops a.tmps) = true ∧ ∀ w, S w → GivesUpon P S v ((execOp a.eval o).run P w)) ∨
  (Region.wanted o (yielded ops a.tmps) = false ∧ v = undef)

theorem Gives.of_same {o : Oper} {v : Value} {a a' : Act} (hy : Gives P ops S o v a) (he : execOp a'.eval o = execOp a.eval o)
    (hw : Region.wanted o (yielded ops a'.tmps) = Region.wanted o (yielded ops a.tmps)) : Gives P ops S o v a' := by
  unfold Gives at *
  rw [he, hw]
  exact hy

theorem Gives.wpOp {Q : Exit → Act → World → Prop} {i : Nat} {o : Oper} {v : Value} {a : Act} (hi : ops[i]? = some o) (hy : Gives P ops S o v a)
    {K : Act → World → Prop} {w : World} (hS : S w) (h : ∀ w', S w' → K (a.put o.dst v) w') : wpOp P ops Q i K a w := by
  unfold Go.wpOp
  simp only [hi]
  rcases hy with ⟨hw, hv⟩ | ⟨hw, rfl⟩
  · simp only [hw, if_true]
    refine .inl ?_
    have h1 := hv w hS
    unfold Oper.wp
    generalize (execOp a.eval o).run P w = r at *
    cases r with
    | ok n w' =>
      cases n <;> simp only [GivesUpon] at h1 <;> simp only [Oper.upon]
      case value u => obtain ⟨rfl, h2⟩ := h1; exact h _ h2
      case skip => obtain ⟨rfl, h2⟩ := h1; exact h _ h2
      case enter f args =>
        refine h1.mono fun e w'' ⟨he, hs⟩ => ?_
        subst he
        exact h _ hs
    | halt x w' => simp only [GivesUpon] at h1
  · simp only [hw, Bool.false_eq_true, if_false]; exact h _ hS

def Heads (P : Program) (ops : Array Oper) (S : World → Prop) (R : Act → Prop) : List Oper → Act → Prop
  | [], a => R a
  | o :: rest, a => ∃ v, Gives P ops S o v a ∧ Heads P ops S R rest (a.put o.dst v)

def AnyG (P : Program) (md : Region.Mode) (ops : Array Oper) (S : World → Prop) (T : List Nat) (L : Array Bool → Act → Prop) : Nat → Array Bool → Act → Prop
  | 0, listed, a => L listed a
  | f + 1, listed, a => Region.ready md ops listed ≠ [] ∧ ∀ i ∈ Region.ready md ops listed, T.contains i = false ∧
      ∃ o v, ops[i]? = some o ∧ Gives P ops S o v a ∧ AnyG P md ops S T L f (listed.setIfInBounds i true) (a.put o.dst v)

/-- What an operation waits for has come up, if it has. -/
def ClosedL (md : Region.Mode) (ops : Array Oper) (listed : Array Bool) : Prop :=
  ∀ j oj, ops[j]? = some oj → listed.getD j false = true → ∀ e ∈ oj.after, Region.binds md e = true → listed.getD e.on false = true

theorem ClosedL.set {i : Nat} {listed : Array Bool} (h : ClosedL md ops listed) (hi : i ∈ Region.ready md ops listed) : ClosedL md ops (listed.setIfInBounds i true) := by
  obtain ⟨_, oi, hoi, hall⟩ := mem_ready.1 hi
  intro j oj hj hl e he hb
  by_cases hij : i = j
  · subst hij
    have : oj = oi := Option.some.inj (hj.symm.trans hoi)
    subst this
    exact getD_set_true (hall e he hb)
  · rw [getD_set_ne false hij] at hl
    exact getD_set_true (h j oj hj hl e he hb)

theorem ClosedL.start (n : Nat) : ClosedL md ops (Array.replicate n false) := by
  intro j oj _ hl
  rw [fresh_down] at hl
  cases hl

/-- Each of the heads is waited for by a later one, or by the first of the chain. -/
def sinkL (md : Region.Mode) (ops : Array Oper) (t0 : Nat) : List Nat → Bool
  | [] => true
  | h :: hs => ((hs ++ [t0]).any fun j => waits md ops j h) && sinkL md ops t0 hs

def chainL (md : Region.Mode) (ops : Array Oper) : List Nat → List Nat → Bool
  | [], _ => true
  | u :: us, acc => (acc.any fun t => waits md ops u t) && chainL md ops us (u :: acc)

theorem waits_unlisted {j i : Nat} {listed : Array Bool} (hc : ClosedL md ops listed) (h : waits md ops j i = true) (hi : listed.getD i false = false) : listed.getD j false = false ∧ j ∉ Region.ready md ops listed := by
  obtain ⟨oj, hoj, e, he, hb, hon⟩ := waits_out h
  subst hon
  constructor
  · cases hl : listed.getD j false with
    | false => rfl
    | true => have := hc j oj hoj hl e he hb; rw [hi] at this; cases this
  · intro hr
    obtain ⟨_, o', ho', hall⟩ := mem_ready.1 hr
    have : o' = oj := Option.some.inj (ho'.symm.trans hoj)
    subst this
    have := hall e he hb
    rw [hi] at this; cases this

theorem sink_blocks {t0 : Nat} {listed : Array Bool} (hc : ClosedL md ops listed) : ∀ (H : List Nat), sinkL md ops t0 H = true → (∃ i ∈ H, listed.getD i false = false) →
    listed.getD t0 false = false ∧ t0 ∉ Region.ready md ops listed
  | [], _, ⟨i, hi, _⟩ => by cases hi
  | h :: hs, hB, ⟨i, hi, hu⟩ => by
    simp only [sinkL, Bool.and_eq_true, List.any_eq_true] at hB
    obtain ⟨⟨j, hj, hw⟩, hB'⟩ := hB
    rcases List.mem_cons.1 hi with rfl | hi
    · have hj' := waits_unlisted hc hw hu
      rcases List.mem_append.1 hj with hj | hj
      · exact sink_blocks hc hs hB' ⟨j, hj, hj'.1⟩
      · have : j = t0 := by simpa using hj
        subst this; exact hj'
    · exact sink_blocks hc hs hB' ⟨i, hi, hu⟩

theorem chain_blocks {listed : Array Bool} (hc : ClosedL md ops listed) : ∀ (T acc : List Nat), chainL md ops T acc = true →
    (∀ t ∈ acc, listed.getD t false = false ∧ t ∉ Region.ready md ops listed) → ∀ t ∈ T, t ∉ Region.ready md ops listed
  | [], _, _, _, t, ht => by cases ht
  | u :: T, acc, hB, hacc, t, ht => by
    simp only [chainL, Bool.and_eq_true, List.any_eq_true] at hB
    obtain ⟨⟨x, hx, hw⟩, hB'⟩ := hB
    have hu := waits_unlisted hc hw (hacc x hx).1
    have hacc' : ∀ t ∈ u :: acc, listed.getD t false = false ∧ t ∉ Region.ready md ops listed := by
      intro t ht
      rcases List.mem_cons.1 ht with rfl | ht
      · exact hu
      · exact hacc t ht
    rcases List.mem_cons.1 ht with rfl | ht
    · exact hu.2
    · exact chain_blocks hc T (u :: acc) hB' hacc' t ht

theorem AnyG_first {T : List Nat} {t0 i : Nat} {oi : Oper} {v : Value} {H : List Nat} {L : Array Bool → Act → Prop} (hi : ops[i]? = some oi) (hsel : ∀ (j : Nat) (o : Oper) cs b, ops[j]? = some o → o.op ≠ .select cs b)
    (hs : sinkL md ops t0 H = true) (hch : chainL md ops T [t0] = true) (hin : i ∈ H)
    (hdone : ∀ listed a, L listed a → ∀ j ∈ Region.ready md ops listed, (t0 :: T).contains j = true) :
    ∀ (f : Nat) (listed : Array Bool) (a : Act), ClosedL md ops listed →
      (∀ j oj, ops[j]? = some oj → j ≠ i → listed.getD j true = false → (∀ e ∈ oj.after, Region.binds md e = true → e.on ≠ i) → oi.apart ops oj = true) →
      i ∈ Region.ready md ops listed → Gives P ops S oi v a →
      AnyG P md ops S (t0 :: T) L f (listed.setIfInBounds i true) (a.put oi.dst v) → AnyG P md ops S (t0 :: T) L (f + 1) listed a := by
  intro f
  have noT : ∀ (listed : Array Bool), ClosedL md ops listed → listed.getD i true = false → ∀ j ∈ Region.ready md ops listed, (t0 :: T).contains j = false := by
    intro listed hc hu j hj
    have hb := sink_blocks hc H hs ⟨i, hin, down_of_true hu⟩
    have hb2 : ∀ t ∈ t0 :: T, t ∉ Region.ready md ops listed := by
      intro t ht
      rcases List.mem_cons.1 ht with rfl | ht
      · exact hb.2
      · exact chain_blocks hc T [t0] hch (fun t ht => by rw [List.mem_singleton.1 ht]; exact hb) t ht
    cases hcon : (t0 :: T).contains j with
    | false => rfl
    | true => exact absurd hj (hb2 j (by simpa using hcon))
  induction f with
  | zero =>
    intro listed a hc _ hr hy HL
    have hun := (mem_ready.1 hr).1
    refine ⟨fun h => (by rw [h] at hr; cases hr), fun j hj => ?_⟩
    have hT := noT listed hc hun j hj
    refine ⟨hT, ?_⟩
    by_cases hji : j = i
    · subst hji; exact ⟨oi, v, hi, hy, HL⟩
    · have := hdone _ _ HL j (ready_mono hj hji)
      rw [hT] at this; cases this
  | succ f ih =>
    intro listed a hc hfree hr hy HL
    have hun := (mem_ready.1 hr).1
    refine ⟨fun h => (by rw [h] at hr; cases hr), fun j hj => ?_⟩
    refine ⟨noT listed hc hun j hj, ?_⟩
    by_cases hji : j = i
    · subst hji; exact ⟨oi, v, hi, hy, HL⟩
    · obtain ⟨_, oj', vj, hoj', hgj, hrest⟩ := HL.2 j (ready_mono hj hji)
      obtain ⟨hjun, oj, hoj, hall⟩ := mem_ready.1 hj
      have : oj' = oj := Option.some.inj (hoj'.symm.trans hoj)
      subst this
      have hnot : ∀ e ∈ oj'.after, Region.binds md e = true → e.on ≠ i := fun e he hb heq => by
        have h1 := hall e he hb
        rw [heq, down_of_true hun] at h1
        cases h1
      obtain ⟨h1, h2, h3⟩ := Oper.apart_spec (hfree j oj' hoj hji hjun hnot)
      have hgj' : Gives P ops S oj' vj a := hgj.of_same (execOp_put oj' (fun cs b => hsel j oj' cs b hoj) a oi.dst v h1).symm (wanted_put oj' a oi.dst v h1).symm
      have hy' : Gives P ops S oi v (a.put oj'.dst vj) := hy.of_same (execOp_put oi (fun cs b => hsel i oi cs b hi) a oj'.dst vj h3) (wanted_put oi a oj'.dst vj h3)
      have hfree' : ∀ k ok, ops[k]? = some ok → k ≠ i → (listed.setIfInBounds j true).getD k true = false →
          (∀ e ∈ ok.after, Region.binds md e = true → e.on ≠ i) → oi.apart ops ok = true := fun k ok hk hki hun hno => by
        refine hfree k ok hk hki ?_ hno
        by_cases hjk : j = k
        · subst hjk; exact hjun
        · rw [getD_set_ne true hjk] at hun; exact hun
      refine ⟨oj', vj, hoj, hgj', ih (listed.setIfInBounds j true) _ (hc.set hj) hfree' (ready_mono hr (Ne.symm hji)) hy' ?_⟩
      rw [Array.setIfInBounds_comm _ _ hji, ← Act.put_comm a v vj h2]
      exact hrest

def Oper.isExtract (o : Oper) : Bool := match o.op, o.guard with | .extract _ _, none => true | _, _ => false

theorem Oper.extract_runs {o : Oper} {a : Act} (ho : Oper.isExtract o = true) :
    (∃ v, execOp a.eval o = (.pure (.value v) : Sem Next)) ∨ (∃ e, execOp a.eval o = (stuck e : Sem Next)) := by
  obtain ⟨dst, op, ty, pos, after, guard⟩ := o
  unfold Oper.isExtract at ho
  cases op <;> simp only at ho <;> try (cases ho)
  cases guard <;> simp only at ho <;> try (cases ho)
  rename_i x i
  simp only [execOp, Instr.extract]
  cases a.eval x with
  | tuple vs =>
    simp only
    cases vs[i]? with
    | some v => exact .inl ⟨v, rfl⟩
    | none => exact .inr ⟨_, rfl⟩
  | _ => exact .inr ⟨_, rfl⟩

theorem Oper.extract_guard {o : Oper} (ho : Oper.isExtract o = true) : o.guard = none := by
  unfold Oper.isExtract at ho
  split at ho
  · assumption
  · cases ho

theorem Oper.extract_yields {Q : Exit → Act → World → Prop} {o : Oper} {a : Act} {w : World} {K : Act → World → Prop} (ho : Oper.isExtract o = true) (h : o.wp P a w K Q) :
    ∃ v, Yields P ops o v a ∧ K (a.put o.dst v) w := by
  have hg := Oper.extract_guard ho
  rcases Oper.extract_runs (a := a) ho with ⟨v, hv⟩ | ⟨e, he⟩
  · refine ⟨v, .inl ⟨by simp [Region.wanted, hg], fun w' => by rw [hv]; rfl⟩, ?_⟩
    unfold Oper.wp at h
    rw [hv] at h
    exact h
  · unfold Oper.wp at h
    rw [he] at h
    exact absurd h (by simp [stuck, Oper.upon])

theorem Oper.extract_asks {o : Oper} {a : Act} {w : World} (ho : Oper.isExtract o = true) : ¬ o.asks P a w := by
  rcases Oper.extract_runs (a := a) ho with ⟨v, hv⟩ | ⟨e, he⟩
  · unfold Oper.asks
    rw [hv]
    simp [Sem.runT]
  · unfold Oper.asks
    rw [he]
    intro hh
    have h2 : noRoomEvent ∈ (#[] : Array Event) := hh.1
    simp at h2

/-- The chain: one at a time may come up, but for those that only take a part of a tuple. -/
def seqL (md : Region.Mode) (ops : Array Oper) : List Nat → Array Bool → Bool
  | [], listed => (Region.ready md ops listed).isEmpty
  | t :: ts, listed => (decide (Region.ready md ops listed = [t]) || (((ops[t]?).map Oper.isExtract).getD false && (Region.ready md ops listed).contains t && Region.free md ops listed t)) && seqL md ops ts (listed.setIfInBounds t true)

def opsAt (ops : Array Oper) (l : List Nat) : List Oper := l.filterMap fun i => ops[i]?

theorem wpAny_of_seqL {Q : Exit → Act → World → Prop} (hsel : Region.noSelect ops = true) (hQ : ∀ c a d v w, Q (.panic c) (Act.put a d v) w → Q (.panic c) a w) : ∀ (ts : List Nat) (listed : Array Bool) (a : Act) (w : World),
    seqL md ops ts listed = true → wpList P ops Q (opsAt ops ts) a w → wpAny P md ops Q ts.length listed a w
  | [], listed, a, w, hB, h => ⟨by simpa [seqL] using hB, h⟩
  | t :: ts, listed, a, w, hB, h => by
    simp only [seqL, Bool.and_eq_true, Bool.or_eq_true, decide_eq_true_eq] at hB
    rcases hB.1 with hB1 | ⟨⟨hB1, hB2⟩, hB3⟩
    · refine ⟨fun h1 => (by rw [hB1] at h1; cases h1), fun i hi => ?_⟩
      have hit : i = t := by rw [hB1] at hi; simpa using hi
      subst hit
      obtain ⟨_, o, ho, _⟩ := mem_ready.1 hi
      have hw : wpOp P ops Q i (wpList P ops Q (opsAt ops ts)) a w := by
        unfold wpOp; simp only [ho]
        simp only [opsAt, List.filterMap_cons, ho] at h
        exact h
      exact wpOp_mono (fun a' w' h' => wpAny_of_seqL hsel hQ ts _ a' w' hB.2 h') hw
    · have hr : t ∈ Region.ready md ops listed := by simpa using hB2
      obtain ⟨_, o, ho, _⟩ := mem_ready.1 hr
      simp only [ho, Option.map_some, Option.getD_some] at hB1
      simp only [opsAt, List.filterMap_cons, ho] at h
      unfold wpList at h
      have hg := Oper.extract_guard hB1
      rw [if_pos (by simp [Region.wanted, hg])] at h
      rcases h with h | ⟨h, _⟩
      · obtain ⟨v, hy, hK⟩ := Oper.extract_yields (ops := ops) hB1 h
        exact wpAny_take ho hsel hB3 hB2 (fun c a' w' => hQ c a' _ _ w') hy (wpAny_of_seqL hsel hQ ts _ _ _ hB.2 hK)
      · exact absurd h (Oper.extract_asks hB1)

def lexL (md : Region.Mode) (ops : Array Oper) (T : List Nat) : List Nat → Array Bool → Bool
  | [], listed => seqL md ops T listed && (Region.ready md ops listed).all (fun j => T.contains j)
  | h :: hs, listed => (Region.ready md ops listed).contains h && Region.free md ops listed h && lexL md ops T hs (listed.setIfInBounds h true)

def firstL (md : Region.Mode) (ops : Array Oper) (H T : List Nat) : List Nat → Array Bool → Bool
  | [], listed => lexL md ops T H listed
  | h :: hs, listed => (Region.ready md ops listed).contains h && Region.free md ops listed h && firstL md ops H T hs (listed.setIfInBounds h true)

theorem AnyG_lex {T H : List Nat} {t0 : Nat} {R : Act → Prop} (hsel : Region.noSelect ops = true) (hs : sinkL md ops t0 H = true) (hch : chainL md ops T [t0] = true) :
    ∀ (hl : List Nat) (listed : Array Bool) (a : Act), (∀ h ∈ hl, h ∈ H) → ClosedL md ops listed →
    lexL md ops (t0 :: T) hl listed = true → Heads P ops S R (opsAt ops hl) a →
    AnyG P md ops S (t0 :: T) (fun listed' a' => (seqL md ops (t0 :: T) listed' && (Region.ready md ops listed').all (fun j => (t0 :: T).contains j)) = true ∧ R a') hl.length listed a
  | [], listed, a, _, _, hB, h => ⟨hB, h⟩
  | k :: hl, listed, a, hsub, hc, hB, h => by
    simp only [lexL, Bool.and_eq_true] at hB
    obtain ⟨⟨hr, hf⟩, hB'⟩ := hB
    have hr' : k ∈ Region.ready md ops listed := by simpa using hr
    obtain ⟨_, o, ho, _⟩ := mem_ready.1 hr'
    simp only [opsAt, List.filterMap_cons, ho] at h
    obtain ⟨v, hy, hK⟩ := h
    exact AnyG_first ho (Region.noSelect_spec hsel) hs hch (hsub k (by simp)) (fun listed' a' hL j hj => by
        have h2 := hL.1
        simp only [Bool.and_eq_true, List.all_eq_true] at h2
        exact h2.2 j hj) hl.length listed a hc (Region.free_spec ho hf) hr' hy
      (AnyG_lex hsel hs hch hl _ _ (fun x hx => hsub x (by simp [hx])) (hc.set hr') hB' hK)

theorem wpAny_of_AnyG {T : List Nat} {g : Nat} {Q : Exit → Act → World → Prop} {L : Array Bool → Act → Prop} (hL : ∀ listed a w, L listed a → S w → wpAny P md ops Q g listed a w) :
    ∀ (f : Nat) (listed : Array Bool) (a : Act) (w : World), S w → AnyG P md ops S T L f listed a → wpAny P md ops Q (f + g) listed a w
  | 0, listed, a, w, hS, h => by rw [Nat.zero_add]; exact hL _ _ _ h hS
  | f + 1, listed, a, w, hS, h => by
    rw [show f + 1 + g = (f + g) + 1 by omega]
    refine ⟨fun h0 => absurd h0 h.1, fun i hi => ?_⟩
    obtain ⟨_, o, v, ho, hg, hrest⟩ := h.2 i hi
    exact hg.wpOp ho hS (fun w' hS' => wpAny_of_AnyG hL f _ _ w' hS' hrest)

/-- The operations that are taken first: they look at no world. -/
def Firsts (P : Program) (ops : Array Oper) (R : Act → Prop) : List Oper → Act → Prop
  | [], a => R a
  | o :: rest, a => ∃ v, Yields P ops o v a ∧ Firsts P ops R rest (a.put o.dst v)

theorem wpAny_firsts {Q : Exit → Act → World → Prop} {R : Act → Prop} {H T : List Nat} {g : Nat} {w : World} (hsel : Region.noSelect ops = true)
    (hQ : ∀ c a d v w, Q (.panic c) (Act.put a d v) w → Q (.panic c) a w)
    (hR : ∀ listed a, ClosedL md ops listed → lexL md ops T H listed = true → R a → wpAny P md ops Q g listed a w) :
    ∀ (W : List Nat) (listed : Array Bool) (a : Act), ClosedL md ops listed → firstL md ops H T W listed = true → Firsts P ops R (opsAt ops W) a →
      wpAny P md ops Q (W.length + g) listed a w
  | [], listed, a, hc, hB, h => by
    rw [List.length_nil, Nat.zero_add]; exact hR listed a hc hB h
  | k :: W, listed, a, hc, hB, h => by
    simp only [firstL, Bool.and_eq_true] at hB
    obtain ⟨⟨hr, hf⟩, hB'⟩ := hB
    have hr' : k ∈ Region.ready md ops listed := by simpa using hr
    obtain ⟨_, o, ho, _⟩ := mem_ready.1 hr'
    simp only [opsAt, List.filterMap_cons, ho] at h
    obtain ⟨v, hy, hK⟩ := h
    rw [show (k :: W).length + g = (W.length + g) + 1 by simp; omega]
    exact wpAny_take ho hsel hf hr (fun c a' w' => hQ c a' _ _ w') hy (wpAny_firsts hsel hQ hR W _ _ (hc.set hr') hB' hK)

/-- All the facts on the order, for the kernel. -/
def planB (ops : Array Oper) (W H : List Nat) (t0 : Nat) (T : List Nat) : Bool :=
  Region.noSelect ops && decide (ops.size = W.length + (H.length + (T.length + 1))) && sinkL .any ops t0 H && chainL .any ops T [t0] && firstL .any ops H (t0 :: T) W (Array.replicate ops.size false)

/-- THE LAW: a region that draws its order: the operations W look at no world; the heads H yield the same values in every world of S, and stay in S; then t0, T one behind the other. -/
theorem wp_region_plan {id : Nat} {Q : Exit → Act → World → Prop} {a : Act} {w : World} {l : List Oper} (S : World → Prop) (W H : List Nat) (t0 : Nat) (T : List Nat)
    (hm : P.follows .mixedOrders = true) (hB : planB l.toArray W H t0 T = true)
    (hQ : ∀ c a d v w, Q (.panic c) (Act.put a d v) w → Q (.panic c) a w) (hS : S w.drew)
    (h : Firsts P l.toArray (Heads P l.toArray S (fun a' => ∀ w', S w' → wpList P l.toArray Q (opsAt l.toArray (t0 :: T)) a' w') (opsAt l.toArray H)) (opsAt l.toArray W) a) :
    (Code.region id l.toArray true).wp P Q a w := by
  simp only [planB, Bool.and_eq_true, decide_eq_true_eq] at hB
  obtain ⟨⟨⟨⟨hsel, hsz⟩, hs⟩, hch⟩, hf⟩ := hB
  refine wp_region_any hm ?_
  have key := wpAny_firsts (Q := Q) (g := H.length + (T.length + 1)) (w := w.drew) hsel hQ (fun listed a' hc hB hR => by
    refine wpAny_of_AnyG (S := S) (T := t0 :: T) (g := T.length + 1) (L := fun listed' a' => (seqL .any l.toArray (t0 :: T) listed' && (Region.ready .any l.toArray listed').all (fun j => (t0 :: T).contains j)) = true ∧ ∀ w', S w' → wpList P l.toArray Q (opsAt l.toArray (t0 :: T)) a' w')
      (fun listed' a'' w' hL hS' => ?_) H.length listed a' _ hS (AnyG_lex hsel hs hch H listed a' (fun _ h => h) hc hB hR)
    have h2 := hL.1
    simp only [Bool.and_eq_true] at h2
    exact wpAny_of_seqL hsel hQ (t0 :: T) listed' a'' w' h2.1 (hL.2 w' hS')) W _ a (ClosedL.start _) hf h
  rw [← hsz] at key
  exact key

theorem Heads.val {R : Act → Prop} {o : Oper} {rest : List Oper} {a : Act} {v : Value} (hg : Region.wanted o (yielded ops a.tmps) = true)
    (h : ∀ w, S w → (execOp a.eval o).run P w = .ok (.value v) w) (hr : Heads P ops S R rest (a.put o.dst v)) : Heads P ops S R (o :: rest) a :=
  ⟨v, .inl ⟨hg, fun w hw => by rw [h w hw]; exact ⟨rfl, hw⟩⟩, hr⟩

theorem Heads.skip {R : Act → Prop} {o : Oper} {rest : List Oper} {a : Act} (hg : Region.wanted o (yielded ops a.tmps) = false)
    (hr : Heads P ops S R rest (a.put o.dst undef)) : Heads P ops S R (o :: rest) a :=
  ⟨undef, .inr ⟨hg, rfl⟩, hr⟩

theorem Heads.call {R : Act → Prop} {o : Oper} {rest : List Oper} {a : Act} {v : Value} (hg : Region.wanted o (yielded ops a.tmps) = true)
    (h : ∀ w, S w → GivesUpon P S v ((execOp a.eval o).run P w)) (hr : Heads P ops S R rest (a.put o.dst v)) : Heads P ops S R (o :: rest) a :=
  ⟨v, .inl ⟨hg, h⟩, hr⟩

theorem GivesUpon.enter {S : World → Prop} {v : Value} {f : FuncId} {args : Array Value} {w : World} : GivesUpon P S v (.ok (.enter f args) w) = Calls P f args w (fun e w'' => e = .returned v ∧ S w'') := rfl

theorem Heads.nil {R : Act → Prop} {a : Act} (h : R a) : Heads P ops S R [] a := h
theorem Firsts.nil {R : Act → Prop} {a : Act} (h : R a) : Firsts P ops R [] a := h

theorem Firsts.val {R : Act → Prop} {o : Oper} {rest : List Oper} {a : Act} {v : Value} (hg : Region.wanted o (yielded ops a.tmps) = true)
    (h : ∀ w, (execOp a.eval o).run P w = .ok (.value v) w) (hr : Firsts P ops R rest (a.put o.dst v)) : Firsts P ops R (o :: rest) a :=
  ⟨v, .inl ⟨hg, h⟩, hr⟩

end
end Go.Proofs.Ythblhgappldcjaa
