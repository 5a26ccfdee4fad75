import Derived.Test.YthblhgappldcjaaA
import Derived.Test.YthblhgappldcjaaB
namespace Go.Proofs.Ythblhgappldcjaa
open Go Go.RowKit
set_option linter.unusedVariables false

/-! ### A region that draws its order and makes variables of its own: the makings may come up whenever they like -/

section
variable {P : Program} {ops : Array Oper} {md : Region.Mode}

/-- The blocks behind N stay. -/
def KeepN (N : Nat) (w w' : World) : Prop := ∀ k, N ≤ k → k < w.heap.size → w'.heap[k]? = w.heap[k]?

/-- In every world of S the operation yields v, leaves a world of S', and keeps the blocks behind N. -/
def GivesPh (P : Program) (ops : Array Oper) (N : Nat) (o : Oper) (v : Value) (S S' : World → Prop) (a : Act) : Prop :=
  (Region.wanted o (yielded ops a.tmps) = true ∧ ∀ w, S w → GivesUpon P (fun w' => S' w' ∧ KeepN N w w') v ((execOp a.eval o).run P w)) ∨
  (Region.wanted o (yielded ops a.tmps) = false ∧ v = undef ∧ ∀ w, S w → S' w)

theorem GivesPh.of_same {N : Nat} {o : Oper} {v : Value} {S S' : World → Prop} {a a' : Act} (hy : GivesPh P ops N o v S S' a) (he : execOp a'.eval o = execOp a.eval o)
    (hw : Region.wanted o (yielded ops a'.tmps) = Region.wanted o (yielded ops a.tmps)) : GivesPh P ops N o v S S' a' := by
  unfold GivesPh at *
  rw [he, hw]
  exact hy

theorem GivesPh.wpOp {N : Nat} {Q : Exit → Act → World → Prop} {S S' : World → Prop} {i : Nat} {o : Oper} {v : Value} {a : Act} (hi : ops[i]? = some o) (hy : GivesPh P ops N o v S S' a)
    {K : Act → World → Prop} {w : World} (hS : S w) (h : ∀ w', S' w' → KeepN N w w' → K (a.put o.dst v) w') : wpOp P ops Q i K a w := by
  unfold Go.wpOp
  simp only [hi]
  rcases hy with ⟨hw, hv⟩ | ⟨hw, rfl, hSS⟩
  · simp only [hw, if_true]
    refine .inl ?_
    have h1 := hv w hS
    unfold Oper.wp
    generalize (execOp a.eval o).run P w = r at *
    cases r with
    | ok n w' =>
      cases n <;> simp only [GivesUpon] at h1 <;> simp only [Oper.upon]
      case value u => obtain ⟨rfl, h2⟩ := h1; exact h _ h2.1 h2.2
      case skip => obtain ⟨rfl, h2⟩ := h1; exact h _ h2.1 h2.2
      case enter f args =>
        refine h1.mono fun e w'' ⟨he, hs⟩ => ?_
        subst he
        exact h _ hs.1 hs.2
    | halt x w' => simp only [GivesUpon] at h1
  · simp only [hw, Bool.false_eq_true, if_false]; exact h _ (hSS w hS) (fun _ _ _ => rfl)

def HeadsP (P : Program) (ops : Array Oper) (N : Nat) (S : World → Prop) (R : Act → Prop) : List Oper → Act → Prop
  | [], a => R a
  | o :: rest, a => ∃ v, GivesPh P ops N o v S S a ∧ HeadsP P ops N S R rest (a.put o.dst v)

/-- The chain: one behind the other, each with its own worlds behind it. -/
def ChainP (P : Program) (ops : Array Oper) (N : Nat) (R : (World → Prop) → Act → Prop) : List Oper → (World → Prop) → Act → Prop
  | [], S, a => R S a
  | o :: rest, S, a => ∃ v S', GivesPh P ops N o v S S' a ∧ (∀ w ob, S' w → S' (w.alloc ob)) ∧ (∀ w, S' w → N ≤ w.heap.size) ∧ ChainP P ops N R rest S' (a.put o.dst v)

def AnyH (P : Program) (md : Region.Mode) (ops : Array Oper) (N : Nat) (S : World → Prop) (T : List Nat) (L : Array Bool → Act → Prop) : Nat → Array Bool → Act → Prop
  | 0, listed, a => L listed a
  | f + 1, listed, a => Region.ready md ops listed ≠ [] ∧ ∀ i ∈ Region.ready md ops listed, T.contains i = false ∧
      ∃ o v, ops[i]? = some o ∧ GivesPh P ops N o v S S a ∧ AnyH P md ops N S T L f (listed.setIfInBounds i true) (a.put o.dst v)


theorem AnyH_first {N : Nat} {S : World → Prop} {T : List Nat} {t0 i : Nat} {oi : Oper} {v : Value} {H : List Nat} {L : Array Bool → Act → Prop} (hi : ops[i]? = some oi) (hsel : ∀ (j : Nat) (o : Oper) cs b, ops[j]? = some o → o.op ≠ .select cs b)
    (hs : sinkL md ops t0 H = true) (hch : chainL md ops T [t0] = true) (hin : i ∈ H)
    (hdone : ∀ listed a, L listed a → ∀ j ∈ Region.ready md ops listed, (t0 :: T).contains j = true) :
    ∀ (f : Nat) (listed : Array Bool) (a : Act), ClosedL md ops listed →
      (∀ j oj, ops[j]? = some oj → j ≠ i → listed.getD j true = false → (∀ e ∈ oj.after, Region.binds md e = true → e.on ≠ i) → oi.apart ops oj = true) →
      i ∈ Region.ready md ops listed → GivesPh P ops N oi v S S a →
      AnyH P md ops N S (t0 :: T) L f (listed.setIfInBounds i true) (a.put oi.dst v) → AnyH P md ops N S (t0 :: T) L (f + 1) listed a := by
  intro f
  have noT : ∀ (listed : Array Bool), ClosedL md ops listed → listed.getD i true = false → ∀ j ∈ Region.ready md ops listed, (t0 :: T).contains j = false := by
    intro listed hc hu j hj
    have hb := sink_blocks hc H hs ⟨i, hin, down_of_true hu⟩
    have hb2 : ∀ t ∈ t0 :: T, t ∉ Region.ready md ops listed := by
      intro t ht
      rcases List.mem_cons.1 ht with rfl | ht
      · exact hb.2
      · exact chain_blocks hc T [t0] hch (fun t ht => by rw [List.mem_singleton.1 ht]; exact hb) t ht
    cases hcon : (t0 :: T).contains j with
    | false => rfl
    | true => exact absurd hj (hb2 j (by simpa using hcon))
  induction f with
  | zero =>
    intro listed a hc _ hr hy HL
    have hun := (mem_ready.1 hr).1
    refine ⟨fun h => (by rw [h] at hr; cases hr), fun j hj => ?_⟩
    have hT := noT listed hc hun j hj
    refine ⟨hT, ?_⟩
    by_cases hji : j = i
    · subst hji; exact ⟨oi, v, hi, hy, HL⟩
    · have := hdone _ _ HL j (ready_mono hj hji)
      rw [hT] at this; cases this
  | succ f ih =>
    intro listed a hc hfree hr hy HL
    have hun := (mem_ready.1 hr).1
    refine ⟨fun h => (by rw [h] at hr; cases hr), fun j hj => ?_⟩
    refine ⟨noT listed hc hun j hj, ?_⟩
    by_cases hji : j = i
    · subst hji; exact ⟨oi, v, hi, hy, HL⟩
    · obtain ⟨_, oj', vj, hoj', hgj, hrest⟩ := HL.2 j (ready_mono hj hji)
      obtain ⟨hjun, oj, hoj, hall⟩ := mem_ready.1 hj
      have : oj' = oj := Option.some.inj (hoj'.symm.trans hoj)
      subst this
      have hnot : ∀ e ∈ oj'.after, Region.binds md e = true → e.on ≠ i := fun e he hb heq => by
        have h1 := hall e he hb
        rw [heq, down_of_true hun] at h1
        cases h1
      obtain ⟨h1, h2, h3⟩ := Oper.apart_spec (hfree j oj' hoj hji hjun hnot)
      have hgj' : GivesPh P ops N oj' vj S S a := hgj.of_same (execOp_put oj' (fun cs b => hsel j oj' cs b hoj) a oi.dst v h1).symm (wanted_put oj' a oi.dst v h1).symm
      have hy' : GivesPh P ops N oi v S S (a.put oj'.dst vj) := hy.of_same (execOp_put oi (fun cs b => hsel i oi cs b hi) a oj'.dst vj h3) (wanted_put oi a oj'.dst vj h3)
      have hfree' : ∀ k ok, ops[k]? = some ok → k ≠ i → (listed.setIfInBounds j true).getD k true = false →
          (∀ e ∈ ok.after, Region.binds md e = true → e.on ≠ i) → oi.apart ops ok = true := fun k ok hk hki hun hno => by
        refine hfree k ok hk hki ?_ hno
        by_cases hjk : j = k
        · subst hjk; exact hjun
        · rw [getD_set_ne true hjk] at hun; exact hun
      refine ⟨oj', vj, hoj, hgj', ih (listed.setIfInBounds j true) _ (hc.set hj) hfree' (ready_mono hr (Ne.symm hji)) hy' ?_⟩
      rw [Array.setIfInBounds_comm _ _ hji, ← Act.put_comm a v vj h2]
      exact hrest

theorem AnyH_lex {N : Nat} {S : World → Prop} {T H : List Nat} {t0 : Nat} {R : Act → Prop} (hsel : Region.noSelect ops = true) (hs : sinkL md ops t0 H = true) (hch : chainL md ops T [t0] = true) :
    ∀ (hl : List Nat) (listed : Array Bool) (a : Act), (∀ h ∈ hl, h ∈ H) → ClosedL md ops listed →
    lexL md ops (t0 :: T) hl listed = true → HeadsP P ops N S R (opsAt ops hl) a →
    AnyH P md ops N S (t0 :: T) (fun listed' a' => (seqL md ops (t0 :: T) listed' && (Region.ready md ops listed').all (fun j => (t0 :: T).contains j)) = true ∧ R a') hl.length listed a
  | [], listed, a, _, _, hB, h => ⟨hB, h⟩
  | k :: hl, listed, a, hsub, hc, hB, h => by
    simp only [lexL, Bool.and_eq_true] at hB
    obtain ⟨⟨hr, hf⟩, hB'⟩ := hB
    have hr' : k ∈ Region.ready md ops listed := by simpa using hr
    obtain ⟨_, o, ho, _⟩ := mem_ready.1 hr'
    simp only [opsAt, List.filterMap_cons, ho] at h
    obtain ⟨v, hy, hK⟩ := h
    exact AnyH_first ho (Region.noSelect_spec hsel) hs hch (hsub k (by simp)) (fun listed' a' hL j hj => by
        have h2 := hL.1
        simp only [Bool.and_eq_true, List.all_eq_true] at h2
        exact h2.2 j hj) hl.length listed a hc (Region.free_spec ho hf) hr' hy
      (AnyH_lex hsel hs hch hl _ _ (fun x hx => hsub x (by simp [hx])) (hc.set hr') hB' hK)


/-! The makings -/
def dstOf (ops : Array Oper) (i : Nat) : Option Tmp := (ops[i]?).bind (·.dst)

/-- The makings that have come up (those not in un) are laid into their slots. -/
def putK (ops : Array Oper) (un : List Nat) (ks : Nat → Nat) : List Nat → Act → Act
  | [], a => a
  | j :: l, a => if un.contains j then putK ops un ks l a else (putK ops un ks l a).put (dstOf ops j) (.pointer (some ⟨ks j, 0, none⟩))

theorem putK_nil {un : List Nat} {ks : Nat → Nat} {a : Act} : putK ops un ks [] a = a := rfl

theorem putK_congr {un un' : List Nat} {ks ks' : Nat → Nat} : ∀ (l : List Nat) (a : Act), (∀ j ∈ l, un.contains j = un'.contains j ∧ (un'.contains j = false → ks j = ks' j)) → putK ops un ks l a = putK ops un' ks' l a
  | [], a, _ => rfl
  | j :: l, a, h => by
    have h1 := h j (by simp)
    have h2 := putK_congr l a (fun j hj => h j (by simp [hj]))
    unfold putK
    rw [h1.1, h2]
    cases hc : un'.contains j with
    | true => rfl
    | false => simp only [Bool.false_eq_true, if_false]; rw [h1.2 hc]

theorem putK_step {un : List Nat} {ks : Nat → Nat} {i k : Nat} (hi : i ∈ un) (hun : un.Nodup) : ∀ (l : List Nat) (a : Act), i ∈ l → l.Nodup → (∀ j ∈ l, j ≠ i → ∀ d, dstOf ops i = some d → dstOf ops j ≠ some d) →
    putK ops (un.erase i) (fun j => if j = i then k else ks j) l a = (putK ops un ks l a).put (dstOf ops i) (.pointer (some ⟨k, 0, none⟩))
  | [], a, h, _, _ => by cases h
  | j :: l, a, h, hn, hd => by
    have hne : i ∉ un.erase i := fun hm => ((List.Nodup.mem_erase_iff hun).1 hm).1 rfl
    by_cases hji : j = i
    · subst hji
      have h1 : (un.erase j).contains j = false := by simpa using hne
      have h2 : un.contains j = true := by simpa using hi
      unfold putK
      rw [h1, h2]
      simp only [Bool.false_eq_true, if_false, if_true]
      rw [putK_congr (un := un.erase j) (un' := un) (ks' := ks) l a]
      intro x hx
      have hxj : x ≠ j := fun e => by subst e; exact (List.nodup_cons.1 hn).1 hx
      refine ⟨?_, fun _ => by simp [hxj]⟩
      have : x ∈ un.erase j ↔ x ∈ un := by rw [List.Nodup.mem_erase_iff hun]; simp [hxj]
      simp only [List.contains_eq_mem, decide_eq_decide]
      exact this
    · have hil : i ∈ l := by
        rcases List.mem_cons.1 h with e | e
        · exact absurd e.symm hji
        · exact e
      have ih := putK_step (k := k) (ks := ks) hi hun l a hil (List.nodup_cons.1 hn).2 (fun x hx => hd x (by simp [hx]))
      have hc : (un.erase i).contains j = un.contains j := by
        simp only [List.contains_eq_mem, decide_eq_decide]
        rw [List.Nodup.mem_erase_iff hun]; simp [hji]
      unfold putK
      rw [hc, ih]
      cases hu : un.contains j with
      | true => rfl
      | false =>
        simp only [Bool.false_eq_true, if_false, hji]
        rw [Act.put_comm _ _ _ (hd j (by simp) hji)]

/-- An operation that is apart from the makings. -/
theorem putK_apart {un : List Nat} {ks : Nat → Nat} {o : Oper} (hs : ∀ cs b, o.op ≠ .select cs b) : ∀ (l : List Nat) (a : Act),
    (∀ j ∈ l, (∀ d, dstOf ops j = some d → d ∉ o.looksAt ops) ∧ (∀ d, dstOf ops j = some d → o.dst ≠ some d)) →
    execOp (putK ops un ks l a).eval o = execOp a.eval o ∧ Region.wanted o (yielded ops (putK ops un ks l a).tmps) = Region.wanted o (yielded ops a.tmps) ∧
    ∀ v, (putK ops un ks l a).put o.dst v = putK ops un ks l (a.put o.dst v)
  | [], a, _ => ⟨rfl, rfl, fun _ => rfl⟩
  | j :: l, a, h => by
    obtain ⟨h1, h2, h3⟩ := putK_apart (un := un) (ks := ks) hs l a (fun x hx => h x (by simp [hx]))
    obtain ⟨g1, g2⟩ := h j (by simp)
    unfold putK
    cases hu : un.contains j with
    | true => simp only [if_true]; exact ⟨h1, h2, h3⟩
    | false =>
      simp only [Bool.false_eq_true, if_false]
      refine ⟨(execOp_put o hs _ _ _ g1).trans h1, (wanted_put o _ _ _ g1).trans h2, fun v => ?_⟩
      rw [Act.put_comm _ _ _ g2, h3 v]

/-- The blocks that the makings that have come up have made. -/
def MadeAt (A : List (Nat × Obj)) (N : Nat) (un : List Nat) (ks : Nat → Nat) (w : World) : Prop :=
  (∀ p ∈ A, p.1 ∉ un → N ≤ ks p.1 ∧ w.heap[ks p.1]? = some p.2) ∧ ∀ p ∈ A, ∀ q ∈ A, p.1 ∉ un → q.1 ∉ un → p.1 ≠ q.1 → ks p.1 ≠ ks q.1

theorem MadeAt.keep {A : List (Nat × Obj)} {N : Nat} {un : List Nat} {ks : Nat → Nat} {w w' : World} (h : MadeAt A N un ks w) (k : KeepN N w w') : MadeAt A N un ks w' :=
  ⟨fun p hp hn => ⟨(h.1 p hp hn).1, by rw [k _ (h.1 p hp hn).1 (lt_of_heap (h.1 p hp hn).2)]; exact (h.1 p hp hn).2⟩, h.2⟩

theorem MadeAt.make {A : List (Nat × Obj)} {N : Nat} {un : List Nat} {ks : Nat → Nat} {w : World} {i : Nat} {ob : Obj} (h : MadeAt A N un ks w) (hN : N ≤ w.heap.size)
    (hun : un.Nodup) (hA : ∀ p ∈ A, p.1 = i → p.2 = ob) : MadeAt A N (un.erase i) (fun j => if j = i then w.heap.size else ks j) (w.alloc ob) := by
  have hx := (Ext.refl w).alloc ob
  have old : ∀ p ∈ A, p.1 ∉ un.erase i → p.1 ≠ i → p.1 ∉ un := fun p hp hn hi hm => hn ((List.Nodup.mem_erase_iff hun).2 ⟨hi, hm⟩)
  refine ⟨fun p hp hn => ?_, fun p hp q hq hn hm hpq => ?_⟩
  · by_cases hi : p.1 = i
    · simp only [hi, if_true]
      refine ⟨hN, ?_⟩
      rw [hA p hp hi]; exact heap_new w ob
    · simp only [hi, if_false]
      have := h.1 p hp (old p hp hn hi)
      exact ⟨this.1, hx.keep this.2⟩
  · by_cases hi : p.1 = i
    · by_cases hj : q.1 = i
      · exact absurd (hi.trans hj.symm) hpq
      · simp only [hi, if_true, hj, if_false]
        have := lt_of_heap (h.1 q hq (old q hq hm hj)).2
        omega
    · by_cases hj : q.1 = i
      · simp only [hi, if_false, hj, if_true]
        have := lt_of_heap (h.1 p hp (old p hp hn hi)).2
        omega
      · simp only [hi, hj, if_false]
        exact h.2 p hp q hq (old p hp hn hi) (old q hq hm hj) hpq


/-- The makings of un have not come up; but for that, the two lists tell the same. -/
structure Afloat (als un : List Nat) (listed listedA : Array Bool) : Prop where
  sz : listed.size = listedA.size
  out : ∀ j, j ∉ als → ∀ d, listed.getD j d = listedA.getD j d
  on : ∀ j ∈ als, listedA.getD j false = true
  off : ∀ j ∈ als, listed.getD j false = true ↔ j ∉ un
  sub : ∀ j ∈ un, j ∈ als
  nd : un.Nodup

theorem getD_true_false {l : Array Bool} {i : Nat} (h : l.getD i true = false) : l.getD i false = false := down_of_true h

theorem getD_in {l : Array Bool} {i : Nat} (h : i < l.size) (d d' : Bool) : l.getD i d = l.getD i d' := by simp [Array.getD, h]

theorem lt_of_true {l : Array Bool} {i : Nat} (h : l.getD i false = true) : i < l.size := by
  rcases Nat.lt_or_ge i l.size with h' | h'
  · exact h'
  · simp [Array.getD, Nat.not_lt.2 h'] at h

theorem Afloat.mono {als un : List Nat} {listed listedA : Array Bool} (h : Afloat als un listed listedA) (j : Nat) (hj : listed.getD j false = true) : listedA.getD j false = true := by
  by_cases ha : j ∈ als
  · exact h.on j ha
  · rw [← h.out j ha]; exact hj

theorem Afloat.ready {als un : List Nat} {listed listedA : Array Bool} (h : Afloat als un listed listedA) {i : Nat} (hi : i ∈ Region.ready md ops listed) (hn : i ∉ als) : i ∈ Region.ready md ops listedA := by
  obtain ⟨h1, o, ho, hall⟩ := mem_ready.1 hi
  exact mem_ready.2 ⟨by rw [← h.out i hn]; exact h1, o, ho, fun e he hb => h.mono _ (hall e he hb)⟩

theorem Afloat.readyUn {als un : List Nat} {listed listedA : Array Bool} (h : Afloat als un listed listedA) {i : Nat} (hi : i ∈ Region.ready md ops listed) (ha : i ∈ als) : i ∈ un := by
  have h1 := (mem_ready.1 hi).1
  have h2 := down_of_true h1
  by_cases hu : i ∈ un
  · exact hu
  · have := (h.off i ha).2 hu; rw [h2] at this; cases this

theorem Afloat.unReady {als un : List Nat} {listed listedA : Array Bool} (h : Afloat als un listed listedA) {i : Nat} (hu : i ∈ un) {o : Oper} (ho : ops[i]? = some o)
    (hfree : ∀ e ∈ o.after, Region.binds md e = false) : i ∈ Region.ready md ops listed := by
  have ha := h.sub i hu
  have hlt : i < listed.size := by rw [h.sz]; exact lt_of_true (h.on i ha)
  refine mem_ready.2 ⟨?_, o, ho, fun e he hb => by rw [hfree e he] at hb; cases hb⟩
  rw [getD_in hlt true false]
  cases hc : listed.getD i false with
  | false => rfl
  | true => exact absurd hu ((h.off i ha).1 hc)

theorem Afloat.all {als : List Nat} {listed listedA : Array Bool} (h : Afloat als [] listed listedA) : listed = listedA := by
  apply Array.ext h.sz
  intro i h1 h2
  have key : listed.getD i false = listedA.getD i false := by
    by_cases ha : i ∈ als
    · rw [h.on i ha]; exact (h.off i ha).2 (by simp)
    · exact h.out i ha false
  simpa [Array.getD, h1, h2] using key

theorem getD_set_self {listed : Array Bool} {i : Nat} (h : i < listed.size) (d : Bool) : (listed.setIfInBounds i true).getD i d = true := by
  simp [Array.getD, h]

theorem Afloat.make {als un : List Nat} {listed listedA : Array Bool} (h : Afloat als un listed listedA) {i : Nat} (hu : i ∈ un) : Afloat als (un.erase i) (listed.setIfInBounds i true) listedA := by
  have ha := h.sub i hu
  have hlt : i < listed.size := by rw [h.sz]; exact lt_of_true (h.on i ha)
  refine ⟨by simpa using h.sz, fun j hj d => ?_, h.on, fun j hj => ?_, fun j hj => h.sub j (List.mem_of_mem_erase hj), h.nd.erase _⟩
  · have : i ≠ j := fun e => by subst e; exact hj ha
    rw [getD_set_ne d this]; exact h.out j hj d
  · rw [List.Nodup.mem_erase_iff h.nd]
    by_cases hij : i = j
    · subst hij; simp [getD_set_self hlt]
    · rw [getD_set_ne false hij, h.off j hj]
      have : j ≠ i := fun e => hij e.symm
      simp [this]

theorem Afloat.step {als un : List Nat} {listed listedA : Array Bool} (h : Afloat als un listed listedA) {i : Nat} (hi : i ∉ als) : Afloat als un (listed.setIfInBounds i true) (listedA.setIfInBounds i true) := by
  refine ⟨by simpa using h.sz, fun j hj d => ?_, fun j hj => getD_set_true (h.on j hj), fun j hj => ?_, h.sub, h.nd⟩
  · by_cases hij : i = j
    · subst hij
      by_cases hlt : i < listed.size
      · rw [getD_set_self hlt, getD_set_self (by rw [← h.sz]; exact hlt)]
      · rw [Array.setIfInBounds_eq_of_size_le (Nat.not_lt.1 hlt), Array.setIfInBounds_eq_of_size_le (by rw [← h.sz]; exact Nat.not_lt.1 hlt)]
        exact h.out i hj d
    · rw [getD_set_ne d hij, getD_set_ne d hij]; exact h.out j hj d
  · have hij : i ≠ j := fun e => by subst e; exact hi hj
    rw [getD_set_ne false hij]; exact h.off j hj

/-- What the makings are. -/
structure Makes (P : Program) (md : Region.Mode) (ops : Array Oper) (A : List (Nat × Obj)) (T : List Nat) : Prop where
  nd : (A.map (·.1)).Nodup
  run : ∀ p ∈ A, ∃ o, ops[p.1]? = some o ∧ o.guard = none ∧ (∀ e ∈ o.after, Region.binds md e = false) ∧ ∀ a w, (execOp a o).run P w = .ok (.value (.pointer (some ⟨w.heap.size, 0, none⟩))) (w.alloc p.2)
  dst : ∀ p ∈ A, ∀ q ∈ A, p.1 ≠ q.1 → ∀ d, dstOf ops p.1 = some d → dstOf ops q.1 ≠ some d
  ob : ∀ p ∈ A, ∀ q ∈ A, p.1 = q.1 → p.2 = q.2
  apart : ∀ p ∈ A, ∀ j o, ops[j]? = some o → j ∉ T → j ∉ A.map (·.1) → (∀ d, dstOf ops p.1 = some d → d ∉ o.looksAt ops) ∧ (∀ d, dstOf ops p.1 = some d → o.dst ≠ some d)

variable {N : Nat} {A : List (Nat × Obj)} {T : List Nat} {Q : Exit → Act → World → Prop}

theorem Makes.wpOp (hm : Makes P md ops A T) {i : Nat} (hi : i ∈ A.map (·.1)) {un : List Nat} {ks : Nat → Nat} {a : Act} {w : World} (hw : MadeAt A N un ks w) (hN : N ≤ w.heap.size) (hu : i ∈ un) (hun : un.Nodup)
    {K : Act → World → Prop} (h : ∀ ks' ob, MadeAt A N (un.erase i) ks' (w.alloc ob) → K (putK ops (un.erase i) ks' (A.map (·.1)) a) (w.alloc ob)) :
    wpOp P ops Q i K (putK ops un ks (A.map (·.1)) a) w := by
  obtain ⟨p, hp, rfl⟩ := List.mem_map.1 hi
  obtain ⟨o, ho, hg, _, hr⟩ := hm.run p hp
  unfold Go.wpOp
  simp only [ho]
  rw [if_pos (by simp [Region.wanted, hg])]
  refine .inl ?_
  unfold Oper.wp
  rw [hr]
  simp only [Oper.upon]
  have h1 := h (fun j => if j = p.1 then w.heap.size else ks j) p.2 (hw.make hN hun (fun q hq e => hm.ob q hq p hp e))
  rw [putK_step hu hun _ _ hi hm.nd (fun j hj hne d hd => by
    obtain ⟨q, hq, rfl⟩ := List.mem_map.1 hj
    exact hm.dst p hp q hq (Ne.symm hne) d hd)] at h1
  have : dstOf ops p.1 = o.dst := by simp [dstOf, ho]
  rw [this] at h1
  exact h1

theorem float_heads {T' : List Nat} (hTT : ∀ j, j ∈ T → j ∈ T') (hm : Makes P md ops A T) (hsel : ∀ (j : Nat) (o : Oper) cs b, ops[j]? = some o → o.op ≠ .select cs b) {S : World → Prop} (hSa : ∀ w ob, S w → S (w.alloc ob))
    {L : Array Bool → Act → Prop} {g : Nat}
    (hL : ∀ listed listedA un a ks w, Afloat (A.map (·.1)) un listed listedA → MadeAt A N un ks w → N ≤ w.heap.size → S w → L listedA a → wpAny P md ops Q (un.length + g) listed (putK ops un ks (A.map (·.1)) a) w)
    (hSN : ∀ w, S w → N ≤ w.heap.size) :
    ∀ (n f : Nat) (listed listedA : Array Bool) (un : List Nat) (a : Act) (ks : Nat → Nat) (w : World), n = f + un.length → Afloat (A.map (·.1)) un listed listedA → MadeAt A N un ks w → S w →
      AnyH P md ops N S T' L f listedA a → wpAny P md ops Q (f + un.length + g) listed (putK ops un ks (A.map (·.1)) a) w := by
  intro n
  induction n with
  | zero =>
    intro f listed listedA un a ks w hn hF hM hS h
    have : f = 0 := by omega
    subst this
    rw [Nat.zero_add]
    exact hL _ _ _ _ _ _ hF hM (hSN w hS) hS h
  | succ n ih =>
    intro f listed listedA un a ks w hn hF hM hS h
    cases f with
    | zero => rw [Nat.zero_add]; exact hL _ _ _ _ _ _ hF hM (hSN w hS) hS h
    | succ f =>
      rw [show f + 1 + un.length + g = (f + un.length + g) + 1 by omega]
      refine ⟨fun h0 => ?_, fun i hi => ?_⟩
      · exfalso
        cases un with
        | nil => rw [hF.all] at h0; exact h.1 h0
        | cons x un =>
          have hx : x ∈ x :: un := List.mem_cons_self ..
          obtain ⟨p, hp, rfl⟩ := List.mem_map.1 (hF.sub x hx)
          obtain ⟨o, ho, _, hfree, _⟩ := hm.run p hp
          have := hF.unReady (md := md) hx ho hfree
          rw [h0] at this; cases this
      · by_cases ha : i ∈ A.map (·.1)
        · have hu := hF.readyUn hi ha
          refine hm.wpOp ha hM (hSN w hS) hu hF.nd (fun ks' ob hM' => ?_)
          have hlen := List.length_erase_of_mem hu
          have hpos : 0 < un.length := List.length_pos_of_mem hu
          rw [show f + un.length + g = f + 1 + (un.erase i).length + g by omega]
          exact ih (f + 1) _ _ _ _ _ _ (by omega) (hF.make hu) hM' (hSa _ _ hS) h
        · obtain ⟨hT, o, v, ho, hg, hrest⟩ := h.2 i (hF.ready hi ha)
          have hTi : i ∉ T := fun hm => by
            have : i ∉ T' := by simpa using hT
            exact this (hTT i hm)
          obtain ⟨e1, e2, e3⟩ := putK_apart (ops := ops) (un := un) (ks := ks) (o := o) (fun cs b => hsel i o cs b ho) (A.map (·.1)) a (fun j hj => by
            obtain ⟨p, hp, rfl⟩ := List.mem_map.1 hj
            exact hm.apart p hp i o ho hTi ha)
          refine (hg.of_same e1 e2).wpOp ho hS (fun w' hS' hk => ?_)
          rw [e3 v]
          exact ih f _ _ _ _ _ _ (by omega) (hF.step ha) (hM.keep hk) hS' hrest


theorem seqL_head {t : Nat} {ts : List Nat} {listed : Array Bool} (h : seqL md ops (t :: ts) listed = true) (hx : ((ops[t]?).map Oper.isExtract).getD false = false) : Region.ready md ops listed = [t] := by
  simp only [seqL, hx, Bool.false_and, Bool.or_false, Bool.and_eq_true, decide_eq_true_eq] at h
  exact h.1

theorem seqL_tail {t : Nat} {ts : List Nat} {listed : Array Bool} (h : seqL md ops (t :: ts) listed = true) : seqL md ops ts (listed.setIfInBounds t true) = true := by
  simp only [seqL, Bool.and_eq_true] at h
  exact h.2

theorem float_end (hm : Makes P md ops A T) (hsel : Region.noSelect ops = true) (hQ : ∀ c a d v w, Q (.panic c) (Act.put a d v) w → Q (.panic c) a w) {t : Nat} {ts : List Nat} {S : World → Prop} (hSa : ∀ w ob, S w → S (w.alloc ob)) (hSN : ∀ w, S w → N ≤ w.heap.size)
    {a : Act} (hfin : ∀ ks w, MadeAt A N [] ks w → S w → wpList P ops Q (opsAt ops (t :: ts)) (putK ops [] ks (A.map (·.1)) a) w)
    {listedA : Array Bool} (hseq : seqL md ops (t :: ts) listedA = true) (hx : ((ops[t]?).map Oper.isExtract).getD false = false) (hw : ∀ j ∈ A.map (·.1), waits md ops t j = true) :
    ∀ (n : Nat) (listed : Array Bool) (un : List Nat) (ks : Nat → Nat) (w : World), un.length = n → Afloat (A.map (·.1)) un listed listedA → MadeAt A N un ks w → S w →
      wpAny P md ops Q (n + (t :: ts).length) listed (putK ops un ks (A.map (·.1)) a) w := by
  intro n
  induction n with
  | zero =>
    intro listed un ks w hn hF hM hS
    have : un = [] := List.length_eq_zero_iff.1 hn
    subst this
    have := hF.all
    subst this
    rw [Nat.zero_add]
    exact wpAny_of_seqL hsel hQ (t :: ts) _ _ _ hseq (hfin ks w hM hS)
  | succ n ih =>
    intro listed un ks w hn hF hM hS
    rw [show n + 1 + (t :: ts).length = (n + (t :: ts).length) + 1 by omega]
    refine ⟨fun h0 => ?_, fun i hi => ?_⟩
    · exfalso
      cases un with
      | nil => simp at hn
      | cons x un =>
        have hx : x ∈ x :: un := List.mem_cons_self ..
        obtain ⟨p, hp, rfl⟩ := List.mem_map.1 (hF.sub x hx)
        obtain ⟨o, ho, _, hfree, _⟩ := hm.run p hp
        have := hF.unReady (md := md) hx ho hfree
        rw [h0] at this; cases this
    · by_cases ha : i ∈ A.map (·.1)
      · have hu := hF.readyUn hi ha
        refine hm.wpOp ha hM (hSN w hS) hu hF.nd (fun ks' ob hM' => ?_)
        have hlen := List.length_erase_of_mem hu
        exact ih _ _ _ _ (by omega) (hF.make hu) hM' (hSa _ _ hS)
      · exfalso
        have h1 := hF.ready hi ha
        rw [seqL_head hseq hx] at h1
        have hit : i = t := by simpa using h1
        subst hit
        cases un with
        | nil => simp at hn
        | cons x un =>
          have hx : x ∈ x :: un := List.mem_cons_self ..
          have hxa := hF.sub x hx
          obtain ⟨oj, hoj, e, he, hb, hon⟩ := waits_out (hw x hxa)
          obtain ⟨_, o', ho', hall⟩ := mem_ready.1 hi
          have : o' = oj := Option.some.inj (ho'.symm.trans hoj)
          subst this
          have h3 := hall e he hb
          rw [hon] at h3
          exact (hF.off x hxa).1 h3 hx

theorem float_chain (hm : Makes P md ops A T) (hsel : Region.noSelect ops = true) (hQ : ∀ c a d v w, Q (.panic c) (Act.put a d v) w → Q (.panic c) a w) {t : Nat} {ts : List Nat}
    (hx : ((ops[t]?).map Oper.isExtract).getD false = false) (hw : ∀ j ∈ A.map (·.1), waits md ops t j = true) :
    ∀ (n : Nat) (C : List Nat) (S : World → Prop) (listed listedA : Array Bool) (un : List Nat) (ks : Nat → Nat) (a : Act) (w : World), n = C.length + un.length →
      (∀ w ob, S w → S (w.alloc ob)) → (∀ w, S w → N ≤ w.heap.size) →
      Afloat (A.map (·.1)) un listed listedA → MadeAt A N un ks w → S w → seqL md ops (C ++ t :: ts) listedA = true →
      (∀ c ∈ C, ((ops[c]?).map Oper.isExtract).getD false = false ∧ c ∉ T) →
      ChainP P ops N (fun S a => ∀ ks w, MadeAt A N [] ks w → S w → wpList P ops Q (opsAt ops (t :: ts)) (putK ops [] ks (A.map (·.1)) a) w) (opsAt ops C) S a →
      wpAny P md ops Q (C.length + un.length + (t :: ts).length) listed (putK ops un ks (A.map (·.1)) a) w := by
  intro n
  induction n with
  | zero =>
    intro C S listed listedA un ks a w hn hSa hSN hF hM hS hseq hC h
    have hC0 : C = [] := List.length_eq_zero_iff.1 (by omega)
    subst hC0
    simp only [List.length_nil, Nat.zero_add]
    exact float_end hm hsel hQ hSa hSN h hseq hx hw _ listed un ks w rfl hF hM hS
  | succ n ih =>
    intro C S listed listedA un ks a w hn hSa hSN hF hM hS hseq hC h
    cases C with
    | nil =>
      simp only [List.length_nil, Nat.zero_add]
      exact float_end hm hsel hQ hSa hSN h hseq hx hw _ listed un ks w rfl hF hM hS
    | cons c C =>
      obtain ⟨hcx, hcT⟩ := hC c (by simp)
      have hready := seqL_head hseq hcx
      have hcin : c ∈ Region.ready md ops listedA := by rw [hready]; simp
      obtain ⟨_, o, ho, _⟩ := mem_ready.1 hcin
      simp only [List.length_cons] at hn
      rw [show (c :: C).length + un.length + (t :: ts).length = (C.length + un.length + (t :: ts).length) + 1 by simp; omega]
      refine ⟨fun h0 => ?_, fun i hi => ?_⟩
      · exfalso
        cases un with
        | nil => rw [hF.all, hready] at h0; cases h0
        | cons x un =>
          have hx : x ∈ x :: un := List.mem_cons_self ..
          obtain ⟨p, hp, rfl⟩ := List.mem_map.1 (hF.sub x hx)
          obtain ⟨o, ho, _, hfree, _⟩ := hm.run p hp
          have := hF.unReady (md := md) hx ho hfree
          rw [h0] at this; cases this
      · by_cases ha : i ∈ A.map (·.1)
        · have hu := hF.readyUn hi ha
          refine hm.wpOp ha hM (hSN w hS) hu hF.nd (fun ks' ob hM' => ?_)
          have hlen := List.length_erase_of_mem hu
          have hpos : 0 < un.length := List.length_pos_of_mem hu
          rw [show C.length + un.length + (t :: ts).length = (c :: C).length + (un.erase i).length + (t :: ts).length by simp; omega]
          exact ih (c :: C) S _ _ _ _ _ _ (by simp; omega) hSa hSN (hF.make hu) hM' (hSa _ _ hS) hseq hC h
        · have h1 := hF.ready hi ha
          rw [hready] at h1
          have hic : i = c := by simpa using h1
          subst hic
          simp only [opsAt, List.filterMap_cons, ho] at h
          obtain ⟨v, S', hg, hSa', hSN', hrest⟩ := h
          obtain ⟨e1, e2, e3⟩ := putK_apart (ops := ops) (un := un) (ks := ks) (o := o) (fun cs b => Region.noSelect_spec hsel i o cs b ho) (A.map (·.1)) a (fun j hj => by
            obtain ⟨p, hp, rfl⟩ := List.mem_map.1 hj
            exact hm.apart p hp i o ho hcT ha)
          refine (hg.of_same e1 e2).wpOp ho hS (fun w' hS' hk => ?_)
          rw [e3 v]
          exact ih C S' _ _ _ _ _ _ (by omega) hSa' hSN' (hF.step ha) (hM.keep hk) hS' (seqL_tail hseq) (fun c' hc' => hC c' (by simp [hc'])) hrest

def setAll : List Nat → Array Bool → Array Bool
  | [], l => l
  | j :: js, l => setAll js (l.setIfInBounds j true)

theorem setAll_size : ∀ (js : List Nat) (l : Array Bool), (setAll js l).size = l.size
  | [], _ => rfl
  | j :: js, l => by unfold setAll; rw [setAll_size js]; simp

theorem setAll_out : ∀ (js : List Nat) (l : Array Bool) (j : Nat) (d : Bool), j ∉ js → (setAll js l).getD j d = l.getD j d
  | [], _, _, _, _ => rfl
  | i :: js, l, j, d, h => by
    simp only [List.mem_cons, not_or] at h
    unfold setAll; rw [setAll_out js _ j d h.2, getD_set_ne d (Ne.symm h.1)]

theorem setAll_keep : ∀ (js : List Nat) (l : Array Bool) (j : Nat), l.getD j false = true → (setAll js l).getD j false = true
  | [], _, _, h => h
  | i :: js, l, j, h => by unfold setAll; exact setAll_keep js _ j (getD_set_true h)

theorem setAll_on : ∀ (js : List Nat) (l : Array Bool) (j : Nat), j < l.size → j ∈ js → (setAll js l).getD j false = true
  | i :: js, l, j, hl, h => by
    unfold setAll
    rcases List.mem_cons.1 h with rfl | h
    · exact setAll_keep js _ _ (getD_set_self hl false)
    · exact setAll_on js _ j (by simpa using hl) h

theorem setAll_closed : ∀ (js : List Nat) (l : Array Bool), ClosedL md ops l → (∀ j ∈ js, ∃ o, ops[j]? = some o ∧ ∀ e ∈ o.after, Region.binds md e = false) → ClosedL md ops (setAll js l)
  | [], l, h, _ => h
  | i :: js, l, h, hj => by
    unfold setAll
    refine setAll_closed js _ ?_ (fun j hm => hj j (by simp [hm]))
    obtain ⟨oi, hoi, hfree⟩ := hj i (by simp)
    intro j oj hj' hl e he hb
    by_cases hij : i = j
    · subst hij
      have : oj = oi := Option.some.inj (hj'.symm.trans hoi)
      subst this
      rw [hfree e he] at hb; cases hb
    · rw [getD_set_ne false hij] at hl
      exact getD_set_true (h j oj hj' hl e he hb)

/-- All the facts on the order, for the kernel. -/
def planF (ops : Array Oper) (al H C : List Nat) (t : Nat) (ts : List Nat) : Bool :=
  match C ++ t :: ts with
  | [] => false
  | t0 :: T0 =>
    Region.noSelect ops && decide (ops.size = H.length + al.length + (C.length + (t :: ts).length)) && sinkL .any ops t0 H && chainL .any ops T0 [t0] && lexL .any ops (t0 :: T0) H (setAll al (Array.replicate ops.size false)) &&
      (t :: C).all (fun c => !((ops[c]?).map Oper.isExtract).getD false) && C.all (fun c => !(t :: ts).contains c) && H.all (fun c => !(t :: ts).contains c) && al.all (fun j => waits .any ops t j)

/-- THE LAW: the makings A come up whenever they like; the heads H in whatever order; then C one behind the other; then t, ts, which wait for all. -/
theorem wp_region_float {id : Nat} {a : Act} {w : World} {l : List Oper} (N : Nat) (S : World → Prop) (A : List (Nat × Obj)) (H C : List Nat) (t : Nat) (ts : List Nat)
    (hmix : P.follows .mixedOrders = true) (hB : planF l.toArray (A.map (·.1)) H C t ts = true)
    (hm : Makes P .any l.toArray A (t :: ts))
    (hQ : ∀ c a d v w, Q (.panic c) (Act.put a d v) w → Q (.panic c) a w) (hS : S w.drew)
    (hSa : ∀ w ob, S w → S (w.alloc ob)) (hSN : ∀ w, S w → N ≤ w.heap.size)
    (h : HeadsP P l.toArray N S (fun a' => ChainP P l.toArray N (fun S a => ∀ ks w, MadeAt A N [] ks w → S w → wpList P l.toArray Q (opsAt l.toArray (t :: ts)) (putK l.toArray [] ks (A.map (·.1)) a) w) (opsAt l.toArray C) S a') (opsAt l.toArray H) a) :
    (Code.region id l.toArray true).wp P Q a w := by
  have hB' := hB
  unfold planF at hB'
  cases hCT : C ++ t :: ts with
  | nil => simp at hCT
  | cons t0 T0 =>
    rw [hCT] at hB'
    simp only [Bool.and_eq_true, decide_eq_true_eq, List.all_eq_true, Bool.not_eq_true'] at hB'
    obtain ⟨⟨⟨⟨⟨⟨⟨⟨hsel, hsz⟩, hs⟩, hch⟩, hlex⟩, hext⟩, hCT2⟩, hHT⟩, hw⟩ := hB'
    refine wp_region_any hmix ?_
    have hfree : ∀ j ∈ A.map (·.1), ∃ o, l.toArray[j]? = some o ∧ ∀ e ∈ o.after, Region.binds .any e = false := fun j hj => by
      obtain ⟨p, hp, rfl⟩ := List.mem_map.1 hj
      obtain ⟨o, ho, _, hf, _⟩ := hm.run p hp
      exact ⟨o, ho, hf⟩
    have hsizes : ∀ j ∈ A.map (·.1), j < (Array.replicate l.toArray.size false).size := fun j hj => by
      obtain ⟨o, ho, _⟩ := hfree j hj
      simpa using (Array.getElem?_eq_some_iff.1 ho).1
    have hFl : Afloat (A.map (·.1)) (A.map (·.1)) (Array.replicate l.toArray.size false) (setAll (A.map (·.1)) (Array.replicate l.toArray.size false)) :=
      ⟨(setAll_size _ _).symm, fun j hj d => (setAll_out _ _ _ _ hj).symm, fun j hj => setAll_on _ _ _ (hsizes j hj) hj, fun j hj => by
        rw [fresh_down]; simp [hj], fun j hj => hj, hm.nd⟩
    have hM0 : MadeAt A N (A.map (·.1)) (fun _ => 0) w.drew :=
      ⟨fun p hp hn => absurd (List.mem_map_of_mem hp) hn, fun p hp q hq hn => absurd (List.mem_map_of_mem hp) hn⟩
    have hput : putK l.toArray (A.map (·.1)) (fun _ => 0) (A.map (·.1)) a = a := by
      have : ∀ (js : List Nat), (∀ j ∈ js, j ∈ A.map (·.1)) → putK l.toArray (A.map (·.1)) (fun _ => 0) js a = a := by
        intro js
        induction js with
        | nil => intro _; rfl
        | cons j js ih =>
          intro hj
          unfold putK
          rw [if_pos (by simpa using hj j (by simp))]
          exact ih (fun x hx => hj x (by simp [hx]))
      exact this _ (fun _ h => h)
    have hAny := AnyH_lex (N := N) (S := S) (P := P) (R := fun a' => ChainP P l.toArray N (fun S a => ∀ ks w, MadeAt A N [] ks w → S w → wpList P l.toArray Q (opsAt l.toArray (t :: ts)) (putK l.toArray [] ks (A.map (·.1)) a) w) (opsAt l.toArray C) S a')
      hsel hs hch H (setAll (A.map (·.1)) (Array.replicate l.toArray.size false)) a (fun _ h => h) (setAll_closed _ _ (ClosedL.start _) hfree) hlex h
    have key := float_heads (Q := Q) (T' := t0 :: T0) (fun j hj => by rw [← hCT]; exact List.mem_append_right _ hj) (g := C.length + (t :: ts).length) hm (Region.noSelect_spec hsel) hSa (fun listed listedA un a ks w hF hM hN hS hL => by
      have h2 := hL.1
      simp only [Bool.and_eq_true] at h2
      rw [← hCT] at h2
      rw [show un.length + (C.length + (t :: ts).length) = C.length + un.length + (t :: ts).length by omega]
      exact float_chain hm hsel hQ (hext t (by simp)) hw _ C S listed listedA un ks a w rfl hSa hSN hF hM hS h2.1 (fun c hc => ⟨hext c (by simp [hc]), by simpa using hCT2 c hc⟩) hL.2) hSN _ H.length _ _ _ a _ w.drew rfl hFl hM0 hS hAny
    rw [hput] at key
    have e1 : l.toArray.size = H.length + (A.map (·.1)).length + (C.length + (t :: ts).length) := hsz
    rw [← e1] at key
    exact key


theorem KeepN.refl (N : Nat) (w : World) : KeepN N w w := fun _ _ _ => rfl
theorem KeepN.ext {N : Nat} {w w' : World} (h : Ext w w') : KeepN N w w' := fun _ _ hk => h.block hk
theorem KeepN.upd {N : Nat} {S : List Nat} {w w' : World} (h : Upd S w w') (hS : ∀ x, x ∈ S → x < N) : KeepN N w w' := fun k hN hk => h.block k hk (fun hm => by have := hS k hm; omega)

theorem HeadsP.val {S : World → Prop} {R : Act → Prop} {o : Oper} {rest : List Oper} {a : Act} {v : Value} (hg : Region.wanted o (yielded ops a.tmps) = true)
    (h : ∀ w, S w → (execOp a.eval o).run P w = .ok (.value v) w) (hr : HeadsP P ops N S R rest (a.put o.dst v)) : HeadsP P ops N S R (o :: rest) a :=
  ⟨v, .inl ⟨hg, fun w hw => by rw [h w hw]; exact ⟨rfl, hw, KeepN.refl _ _⟩⟩, hr⟩
theorem HeadsP.skip {S : World → Prop} {R : Act → Prop} {o : Oper} {rest : List Oper} {a : Act} (hg : Region.wanted o (yielded ops a.tmps) = false)
    (hr : HeadsP P ops N S R rest (a.put o.dst undef)) : HeadsP P ops N S R (o :: rest) a :=
  ⟨undef, .inr ⟨hg, rfl, fun _ h => h⟩, hr⟩
theorem HeadsP.call {S : World → Prop} {R : Act → Prop} {o : Oper} {rest : List Oper} {a : Act} {v : Value} (hg : Region.wanted o (yielded ops a.tmps) = true)
    (h : ∀ w, S w → GivesUpon P (fun w' => S w' ∧ KeepN N w w') v ((execOp a.eval o).run P w)) (hr : HeadsP P ops N S R rest (a.put o.dst v)) : HeadsP P ops N S R (o :: rest) a :=
  ⟨v, .inl ⟨hg, h⟩, hr⟩
theorem HeadsP.nil {S : World → Prop} {R : Act → Prop} {a : Act} (h : R a) : HeadsP P ops N S R [] a := h
theorem ChainP.nil {S : World → Prop} {R : (World → Prop) → Act → Prop} {a : Act} (h : R S a) : ChainP P ops N R [] S a := h
theorem ChainP.call {S : World → Prop} (S' : World → Prop) {R : (World → Prop) → Act → Prop} {o : Oper} {rest : List Oper} {a : Act} {v : Value} (hg : Region.wanted o (yielded ops a.tmps) = true)
    (hSa : ∀ w ob, S' w → S' (w.alloc ob)) (hSN : ∀ w, S' w → N ≤ w.heap.size)
    (h : ∀ w, S w → GivesUpon P (fun w' => S' w' ∧ KeepN N w w') v ((execOp a.eval o).run P w)) (hr : ChainP P ops N R rest S' (a.put o.dst v)) : ChainP P ops N R (o :: rest) S a :=
  ⟨v, S', .inl ⟨hg, h⟩, hSa, hSN, hr⟩
theorem MadeAt.one {i : Nat} {ob : Obj} {ks : Nat → Nat} {w : World} (h : MadeAt [(i, ob)] N [] ks w) : N ≤ ks i ∧ w.heap[ks i]? = some ob := h.1 (i, ob) (by simp) (by simp)
theorem MadeAt.two {i j : Nat} {ob ob' : Obj} {ks : Nat → Nat} {w : World} (h : MadeAt [(i, ob), (j, ob')] N [] ks w) (hij : i ≠ j) : (N ≤ ks i ∧ w.heap[ks i]? = some ob) ∧ (N ≤ ks j ∧ w.heap[ks j]? = some ob') ∧ ks i ≠ ks j :=
  ⟨h.1 (i, ob) (by simp) (by simp), h.1 (j, ob') (by simp) (by simp), h.2 (i, ob) (by simp) (j, ob') (by simp) (by simp) (by simp) hij⟩

theorem Makes.one {i : Nat} {ob : Obj} {o : Oper} (ho : ops[i]? = some o) (hg : o.guard = none) (hf : o.after = #[]) (hr : ∀ a w, (execOp a o).run P w = .ok (.value (.pointer (some ⟨w.heap.size, 0, none⟩))) (w.alloc ob))
    (hap : (List.range ops.size).all (fun j => T.contains j || j == i || ((ops[j]?).map fun oj => o.apart ops oj).getD false) = true) : Makes P md ops [(i, ob)] T := by
  refine ⟨by simp, fun p hp => ?_, fun p hp q hq hne => ?_, fun p hp q hq _ => ?_, fun p hp j oj hoj hT hj => ?_⟩
  · rw [List.mem_singleton.1 hp]; exact ⟨o, ho, hg, fun e he => by rw [hf] at he; simp at he, hr⟩
  · rw [List.mem_singleton.1 hp, List.mem_singleton.1 hq] at hne; exact absurd rfl hne
  · rw [List.mem_singleton.1 hp, List.mem_singleton.1 hq]
  · rw [List.mem_singleton.1 hp]
    have hlt := (Array.getElem?_eq_some_iff.1 hoj).1
    have h1 := List.all_eq_true.1 hap j (List.mem_range.2 hlt)
    have hji : j ≠ i := by simpa using hj
    simp only [hoj, Option.map_some, Option.getD_some, Bool.or_eq_true, beq_iff_eq, hji, or_false] at h1
    have h2 : o.apart ops oj = true := by
      rcases h1 with h1 | h1
      · exact absurd (by simpa using h1) hT
      · exact h1
    obtain ⟨g1, g2, _⟩ := Oper.apart_spec h2
    have hd : dstOf ops i = o.dst := by simp [dstOf, ho]
    rw [hd]
    exact ⟨g1, g2⟩


theorem HeadsP.mono {S : World → Prop} {R R' : Act → Prop} (h : ∀ a, R a → R' a) : ∀ (l : List Oper) (a : Act), HeadsP P ops N S R l a → HeadsP P ops N S R' l a
  | [], a, hh => h a hh
  | o :: l, a, ⟨v, h1, h2⟩ => ⟨v, h1, HeadsP.mono h l _ h2⟩
theorem ChainP.mono {R R' : (World → Prop) → Act → Prop} (h : ∀ S a, R S a → R' S a) : ∀ (l : List Oper) (S : World → Prop) (a : Act), ChainP P ops N R l S a → ChainP P ops N R' l S a
  | [], S, a, hh => h S a hh
  | o :: l, S, a, ⟨v, S', h1, h2, h3, h4⟩ => ⟨v, S', h1, h2, h3, ChainP.mono h l _ _ h4⟩

/-- The law, for one making. -/
theorem wp_region_float1 {id : Nat} {a : Act} {w : World} {l : List Oper} (N : Nat) (S : World → Prop) (i : Nat) (d : Option Tmp) (ob : Obj) (H C : List Nat) (t : Nat) (ts : List Nat)
    (hmix : P.follows .mixedOrders = true) (hB : planF l.toArray [i] H C t ts = true) (hd : dstOf l.toArray i = d)
    (hm : Makes P .any l.toArray [(i, ob)] (t :: ts))
    (hQ : ∀ c a d v w, Q (.panic c) (Act.put a d v) w → Q (.panic c) a w) (hS : S w.drew)
    (hSa : ∀ w ob, S w → S (w.alloc ob)) (hSN : ∀ w, S w → N ≤ w.heap.size)
    (h : HeadsP P l.toArray N S (fun a' => ChainP P l.toArray N (fun S a => ∀ k w, N ≤ k → w.heap[k]? = some ob → S w → wpList P l.toArray Q (opsAt l.toArray (t :: ts)) (a.put d (.pointer (some ⟨k, 0, none⟩))) w) (opsAt l.toArray C) S a') (opsAt l.toArray H) a) :
    (Code.region id l.toArray true).wp P Q a w := by
  refine wp_region_float N S [(i, ob)] H C t ts hmix hB hm hQ hS hSa hSN (HeadsP.mono (fun a' h' => ChainP.mono (fun S a hh ks w hM hS => ?_) _ _ _ h') _ _ h)
  have h1 := hh (ks i) w hM.one.1 hM.one.2 hS
  rw [← hd] at h1
  exact h1

/-- The law, for two. -/
theorem wp_region_float2 {id : Nat} {a : Act} {w : World} {l : List Oper} (N : Nat) (S : World → Prop) (i j : Nat) (d e : Option Tmp) (ob ob' : Obj) (H C : List Nat) (t : Nat) (ts : List Nat)
    (hmix : P.follows .mixedOrders = true) (hB : planF l.toArray [i, j] H C t ts = true) (hd : dstOf l.toArray i = d) (he : dstOf l.toArray j = e) (hij : i ≠ j)
    (hm : Makes P .any l.toArray [(i, ob), (j, ob')] (t :: ts))
    (hQ : ∀ c a d v w, Q (.panic c) (Act.put a d v) w → Q (.panic c) a w) (hS : S w.drew)
    (hSa : ∀ w ob, S w → S (w.alloc ob)) (hSN : ∀ w, S w → N ≤ w.heap.size)
    (h : HeadsP P l.toArray N S (fun a' => ChainP P l.toArray N (fun S a => ∀ k k' w, N ≤ k → w.heap[k]? = some ob → N ≤ k' → w.heap[k']? = some ob' → k ≠ k' → S w → wpList P l.toArray Q (opsAt l.toArray (t :: ts)) ((a.put e (.pointer (some ⟨k', 0, none⟩))).put d (.pointer (some ⟨k, 0, none⟩))) w) (opsAt l.toArray C) S a') (opsAt l.toArray H) a) :
    (Code.region id l.toArray true).wp P Q a w := by
  refine wp_region_float N S [(i, ob), (j, ob')] H C t ts hmix hB hm hQ hS hSa hSN (HeadsP.mono (fun a' h' => ChainP.mono (fun S a hh ks w hM hS => ?_) _ _ _ h') _ _ h)
  obtain ⟨⟨m1, m2⟩, ⟨m3, m4⟩, m5⟩ := hM.two hij
  have h1 := hh (ks i) (ks j) w m1 m2 m3 m4 m5 hS
  rw [← hd, ← he] at h1
  exact h1

theorem Makes.two {i j : Nat} {ob ob' : Obj} {o o' : Oper} (ho : ops[i]? = some o) (hg : o.guard = none) (hf : o.after = #[]) (hr : ∀ a w, (execOp a o).run P w = .ok (.value (.pointer (some ⟨w.heap.size, 0, none⟩))) (w.alloc ob))
    (ho' : ops[j]? = some o') (hg' : o'.guard = none) (hf' : o'.after = #[]) (hr' : ∀ a w, (execOp a o').run P w = .ok (.value (.pointer (some ⟨w.heap.size, 0, none⟩))) (w.alloc ob')) (hij : i ≠ j) (hdd : ∀ d, o.dst = some d → o'.dst ≠ some d)
    (hap : (List.range ops.size).all (fun k => T.contains k || k == i || k == j || ((ops[k]?).map fun oj => o.apart ops oj && o'.apart ops oj).getD false) = true) : Makes P md ops [(i, ob), (j, ob')] T := by
  have e1 : dstOf ops i = o.dst := by simp [dstOf, ho]
  have e2 : dstOf ops j = o'.dst := by simp [dstOf, ho']
  have mem : ∀ {p : Nat × Obj}, p ∈ [(i, ob), (j, ob')] → p = (i, ob) ∨ p = (j, ob') := by intro p hp; simpa using hp
  refine ⟨by simpa using hij, fun p hp => ?_, fun p hp q hq hne => ?_, fun p hp q hq e => ?_, fun p hp k oj hoj hT hk => ?_⟩
  · rcases mem hp with rfl | rfl
    · exact ⟨o, ho, hg, fun e he => by rw [hf] at he; simp at he, hr⟩
    · exact ⟨o', ho', hg', fun e he => by rw [hf'] at he; simp at he, hr'⟩
  · rcases mem hp with rfl | rfl <;> rcases mem hq with rfl | rfl
    · exact absurd rfl hne
    · simp only [e1, e2]; exact hdd
    · simp only [e1, e2]; exact fun d h1 h2 => hdd d h2 h1
    · exact absurd rfl hne
  · rcases mem hp with rfl | rfl <;> rcases mem hq with rfl | rfl
    · rfl
    · exact absurd e hij
    · exact absurd e.symm hij
    · rfl
  · have hlt := (Array.getElem?_eq_some_iff.1 hoj).1
    have h1 := List.all_eq_true.1 hap k (List.mem_range.2 hlt)
    have hki : k ≠ i ∧ k ≠ j := by simpa using hk
    simp only [hoj, Option.map_some, Option.getD_some, Bool.or_eq_true, beq_iff_eq, hki.1, hki.2, or_false, Bool.and_eq_true] at h1
    have h2 : o.apart ops oj = true ∧ o'.apart ops oj = true := by
      rcases h1 with h1 | h1
      · exact absurd (by simpa using h1) hT
      · exact h1
    rcases mem hp with rfl | rfl
    · obtain ⟨g1, g2, _⟩ := Oper.apart_spec h2.1
      simp only [e1]; exact ⟨g1, g2⟩
    · obtain ⟨g1, g2, _⟩ := Oper.apart_spec h2.2
      simp only [e2]; exact ⟨g1, g2⟩

end
end Go.Proofs.Ythblhgappldcjaa
