/- The plain law of DropRetires. No program in sight. -/
import Derived.Test.YthblhgappldcjaaPb
namespace Go.Proofs.Ythblhgappldcjaa.Fl
set_option linter.unusedVariables false

/-- The words of an arena at the beginning. -/
def slotG (c : Cfg) (n : Int) : Int → Nat := fun b =>
  if pSlot c 0 ≤ b ∧ b < pSlot c n then (if (b - pSlot c 0) % 2 = 0 then putSlot ⟨0, 0, 1, 0⟩ else putTop ((b - pSlot c 0) / 2 + 1) 0) else 0

theorem slotG_out {c : Cfg} {n b : Int} (h : b < pSlot c 0 ∨ pSlot c n ≤ b) : slotG c n b = 0 := by
  unfold slotG; rw [if_neg (by omega)]

def freshG (c : Cfg) : Int → Nat := upd (upd (slotG c c.slots) (pSlot c (c.slots - 1) + 1) (putTop (-1) 0)) 1 (putTop 0 0)

theorem fresh_loop {c : Cfg} {L : Int} (sh : Shape c L) : ∀ (k i : Nat) (m : Mem) (st : Int), (k + i : Int) ≤ c.slots → m.Is L (slotG c i) st → (freshLoop c k i m).Is L (slotG c (k + i)) (st + 2 * k)
  | 0, i, m, st, _, h => by simpa [freshLoop] using h
  | k + 1, i, m, st, hk, h => by
    have hb : pSlot c i + 1 < L := by
      have hbase := sh.base (k := 0) (u := 0) (n := 0) (by have := sh.k; omega) (by omega) (by have := sh.w; omega)
      have := sh.t; have := sh.s; have := sh.k; simp only [pSlot, pBase] at *; omega
    have h0 : 0 ≤ pSlot c i := by have := sh.t; simp only [pSlot]; omega
    have h1 := (h.store 0 (a := pSlot c i) (by omega) (putSlot ⟨0, 0, 1, 0⟩)).store 0 (a := pSlot c i + 1) (by omega) (putTop (i + 1) 0)
    have q0 : pSlot c i = pSlot c 0 + 2 * (i : Int) := by simp only [pSlot]; omega
    have q1 : pSlot c ((i + 1 : Nat) : Int) = pSlot c 0 + 2 * (i : Int) + 2 := by simp only [pSlot]; omega
    have h2 := h1.congr (g' := slotG c ((i + 1 : Nat) : Int)) (fun b _ _ => by
      simp only [upd, slotG]
      by_cases b1 : b = pSlot c i + 1
      · rw [if_pos b1, if_pos (by omega), if_neg (by omega)]
        congr 1; omega
      · rw [if_neg b1]
        by_cases b2 : b = pSlot c i
        · rw [if_pos b2, if_pos (by omega), if_pos (by omega)]
        · rw [if_neg b2]
          by_cases b3 : pSlot c 0 ≤ b ∧ b < pSlot c i
          · rw [if_pos b3, if_pos (show pSlot c 0 ≤ b ∧ b < pSlot c ((i + 1 : Nat) : Int) by omega)]
          · rw [if_neg b3, if_neg (by omega)])
    have h3 := fresh_loop sh k (i + 1) _ _ (by omega) h2
    have e1 : ((k : Int) + ((i + 1 : Nat) : Int)) = ((k + 1 : Nat) : Int) + (i : Int) := by omega
    have e2 : st + 1 + 1 + 2 * (k : Int) = st + 2 * ((k + 1 : Nat) : Int) := by omega
    rw [e1, e2] at h3
    exact h3

theorem fresh_is {c : Cfg} {L : Int} (sh : Shape c L) : (fresh c).Is L (freshG c) (2 * c.slots + 2) := by
  have hb : pSlot c c.slots < L := by
    have hbase := sh.base (k := 0) (u := 0) (n := 0) (by have := sh.k; omega) (by omega) (by have := sh.w; omega)
    have := sh.t; have := sh.s; have := sh.k; simp only [pSlot, pBase] at *; omega
  have hL : 0 ≤ L := by have := sh.t; have := sh.s; simp only [pSlot] at hb; omega
  have h0 : (Mem.fresh0 c).Is L (slotG c ((0 : Nat) : Int)) 0 := by
    refine ⟨?_, fun a h0 h1 => ?_, rfl⟩
    · simp only [Mem.fresh0, List.length_replicate]; rw [← sh.len]; omega
    · simp only [Mem.fresh0, slotG]
      rw [if_neg (by simp only [pSlot]; omega)]
      simp [List.getD_eq_getElem?_getD, List.getElem?_replicate]
      split <;> rfl
  have h1 := fresh_loop sh c.slots.toNat 0 _ 0 (by have := sh.s; omega) h0
  have e1 : ((c.slots.toNat : Int) + ((0 : Nat) : Int)) = c.slots := by have := sh.s; omega
  rw [e1] at h1
  have h2 := (h1.store 0 (a := pSlot c (c.slots - 1) + 1) (by have := sh.t; have := sh.s; simp only [pSlot] at *; omega) (putTop (-1) 0)).store 0 (a := 1) (by have := sh.t; have := sh.s; simp only [pSlot] at *; omega) (putTop 0 0)
  have e2 : 0 + 2 * (c.slots.toNat : Int) + 1 + 1 = 2 * c.slots + 2 := by have := sh.s; omega
  rw [e2] at h2
  exact h2

theorem Alloc.noSlot {c : Cfg} {who : Int} {L st : Int} {g : Int → Nat} {m : Mem} {size : Int} {own : Bool} (hL : 1 < L) (hm : m.Is L g st) (hb : 0 ≤ st ∧ st + 100 < 4611686018427387904) (hz : 1 ≤ size ∧ size ≤ 16) (hs : (topOf (g 1)).1 < 0) :
    ∃ a' m' st', Alloc.loop c who 400 m (Alloc.new size own) = (a', m') ∧ Alloc.safe c who 400 m (Alloc.new size own) ∧ a'.out.e = 7 ∧ m'.Is L g st' ∧ st < st' ∧ st' ≤ st + 80 := by
  have hcr := cls_room hz
  have hc0 : ¬ (cls size < 0) := by omega
  obtain ⟨m1, e1, h1⟩ := hm.load who (a := 1) (by omega)
  have s1 : Alloc.step c who m (Alloc.new size own) = (true, ⟨size, own, 1, ⟨1, g 1, 0, (topOf (g 1)).1, false⟩, 0, 0, Place.new 0, ⟨0, 0⟩, ⟨0, 0, 0⟩, ⟨7, 0, 0, m1.steps⟩⟩, m1) := by
    simp [Alloc.step, Alloc.new, Take.step, hc0, e1, hs]
  refine ⟨_, _, st + 1, by rw [Alloc.loop, s1]; rfl, ⟨by have := hm.steps; unfold stepsOk; omega, (by intro q; simp [Alloc.new] at q), fun q => ?_⟩, rfl, h1, by omega, by omega⟩
  rw [s1] at q; simp at q

/-! retires -/

def cR (n : Int) : Cfg := ⟨1, 1, 60, 40, n, 600, 3⟩
def LR : Int := 2589
theorem shR (n : Int) : Shape (cR n) LR := ⟨by simp [cR], by simp [cR], by simp [cR], by simp [cR], by simp [cR, LR, pLen, pBase]⟩

/-- The arena after an object was made and let go so many times. -/
structure Ret (g : Int → Nat) (i : Int) : Prop where
  top : topOf (g 1) = (0, 2 * i)
  slot : slotOf (g 7) = ⟨0, 0, i + 1, 0⟩
  link : topOf (g 8) = (-1, 0)
  opn : (g 2 : Int) = (i + 12) / 13
  some : ∀ j, 0 ≤ j → j < (i + 12) / 13 → chunkOf (g (9 + 3 * j)) = ⟨1, 0, 3 * min 13 (i - 13 * j), 1⟩
  free : ∀ j, (i + 12) / 13 ≤ j → j < 60 → chunkOf (g (9 + 3 * j)) = ⟨0, 0, 0, 0⟩

theorem ret_fresh (n : Int) : Ret (freshG (cR n)) 0 := by
  refine ⟨?_, ?_, ?_, ?_, fun j h0 h1 => by omega, fun j h0 h1 => ?_⟩
  · rw [freshG, upd_same]; decide
  · rw [freshG, upd_other (by decide), upd_other (by simp [cR, pSlot])]; simp [slotG, pSlot, cR]; decide
  · rw [freshG, upd_other (by decide)]; simp [upd, pSlot, cR]; decide
  · rw [freshG, upd_other (by decide), upd_other (by simp [cR, pSlot])]; simp [slotG, pSlot, cR]
  · rw [freshG, upd_other (by omega), upd_other (by simp [cR, pSlot]; omega)]
    have : slotG (cR n) (cR n).slots (9 + 3 * j) = 0 := by exact slotG_out (Or.inr (by simp only [cR, pSlot]; omega))
    rw [this]; decide

theorem ret_fits {g : Int → Nat} {i n : Int} (h : Ret g i) (hi : 0 ≤ i ∧ i < 100) : Fits (cR n) g (cls 2) (i / 13) (3 * (i % 13)) 1 (i / 13 + 1).toNat := by
  have hc : cls 2 = 0 := by decide
  have hr : room 0 = 3 := by decide
  rw [hc]
  refine ⟨by simp only [cR]; omega, by omega, by simp only [cR, hr]; omega, by omega, ?_⟩
  by_cases hz : i % 13 = 0
  · refine Or.inr ⟨rfl, by omega, ?_, fun j h0 h1 => ?_, ?_, ?_⟩
    · unfold Shut
      have hp : g (pOpen 0) = g 2 := by simp [pOpen]
      rw [hp]
      have h2 := h.opn
      by_cases h0 : i = 0
      · left; omega
      · right
        refine ⟨by omega, by simp only [cR]; omega, Or.inr (Or.inr ?_)⟩
        have : pChunk (cR n) ((g 2 : Int) - 1) = 9 + 3 * ((g 2 : Int) - 1) := by simp only [pChunk, cR]; omega
        rw [this, h.some _ (by omega) (by omega)]
        simp only [cR, hr]
        omega
    · have : pChunk (cR n) j = 9 + 3 * j := by simp only [pChunk, cR]; omega
      rw [this, h.some j h0 (by omega)]; simp
    · have : pChunk (cR n) (i / 13) = 9 + 3 * (i / 13) := by simp only [pChunk, cR]; omega
      rw [this, h.free _ (by omega) (by omega)]
    · have : pChunk (cR n) (i / 13) = 9 + 3 * (i / 13) := by simp only [pChunk, cR]; omega
      rw [this, h.free _ (by omega) (by omega)]; simp
  · refine Or.inl ⟨?_, by omega, ?_⟩
    · have hp : g (pOpen 0) = g 2 := by simp [pOpen]
      rw [hp]; have := h.opn; omega
    · have : pChunk (cR n) (i / 13) = 9 + 3 * (i / 13) := by simp only [pChunk, cR]; omega
      rw [this, h.some _ (by omega) (by omega)]
      simp only [Ck.mk.injEq, true_and, and_true]
      omega

/-- One life. -/
theorem ret_round {g : Int → Nat} {i n st : Int} {m : Mem} (hm : m.Is LR g st) (hb : 0 ≤ st ∧ st + 1000 < 4611686018427387904) (h : Ret g i) (hi : 0 ≤ i ∧ i < n ∧ n ≤ 32) :
    ∃ a m1 d m2 g' st', Alloc.loop (cR n) 0 400 m (Alloc.new 2 false) = (a, m1) ∧ Alloc.safe (cR n) 0 400 m (Alloc.new 2 false) ∧ a.out.e = 0 ∧ (a.out.handle : Int) = (i + 1) * 65536 ∧
      Drop.loop (cR n) 0 200 m1 (Drop.new ((i + 1) * 65536).toNat false) = (d, m2) ∧ Drop.safe (cR n) 0 200 m1 (Drop.new ((i + 1) * 65536).toNat false) ∧ d.out.e = 0 ∧
      m2.Is LR g' st' ∧ st < st' ∧ st' ≤ st + 140 ∧ (i + 1 < n → Ret g' (i + 1)) ∧ (i + 1 = n → (topOf (g' 1)).1 < 0 ∧ slotOf (g' 7) = ⟨3, 0, n, 0⟩) := by
  have ps : pSlot (cR n) 0 = 7 := by simp [pSlot, cR]
  have hc : cls 2 = 0 := by decide
  have hr : room 0 = 3 := by decide
  obtain ⟨a, m1, st1, r1, r2, r3, r4, r5, r6, r7⟩ := Alloc.solo (who := 0) (own := false) (size := 2) (s := 0) (shR n) hm (by omega) (by omega) (by rw [h.top]) (by simp [cR]) (ret_fits h (by omega))
  have hgen : (slotOf (g (pSlot (cR n) 0))).gen = i + 1 := by rw [ps, h.slot]
  rw [hgen] at r4
  have hh : (a.out.handle : Int) = (i + 1) * 65536 := by rw [r4, putHandle_eq (by omega)]; omega
  generalize hg1 : madeG (cR n) g 0 2 false (i / 13) (3 * (i % 13)) 1 (i / 13 + 1).toNat = g1 at *
  have hG : ∀ b, g1 b = if b = pBase (cR n) (i / 13) + 3 * (i % 13) then putHead ⟨2, 2, 0, i + 1, false⟩ else if b = 7 then putSlot ⟨1, pBase (cR n) (i / 13) + 3 * (i % 13), i + 1, 0⟩ else if b = 9 + 3 * (i / 13) + 1 then (g b + u64 3) % 18446744073709551616 else if b = 9 + 3 * (i / 13) then putChunk ⟨1, 0, 3 * (i % 13) + 3, 1⟩ else if b = 2 then (i / 13 + 1).toNat else if b = 1 then putTop (-1) (2 * i + 1) else g b := by
    intro b
    rw [← hg1]
    have : pChunk (cR n) (i / 13) = 9 + 3 * (i / 13) := by simp only [pChunk, cR]; omega
    simp only [madeG, ps, h.slot, this, hc, hr, h.top, h.link, pOpen, show (7 : Int) + 1 = 8 from rfl, Int.add_zero]
  have hA : pBase (cR n) (i / 13) + 3 * (i % 13) = 189 + 40 * (i / 13) + 3 * (i % 13) := by simp only [pBase, cR]; omega
  generalize hAA : pBase (cR n) (i / 13) + 3 * (i % 13) = A at *
  have g7 : slotOf (g1 7) = ⟨1, A, i + 1, 0⟩ := by rw [hG, if_neg (by omega), if_pos rfl]; exact slotOf_putSlot (by simp only; omega)
  have gA : headOf (g1 A) = ⟨2, 2, 0, i + 1, false⟩ := by rw [hG, if_pos rfl]; exact headOf_putHead (by simp only; omega)
  have hof : pOf (cR n) A = i / 13 := by rw [← hAA]; exact (shR n).of (by simp only [cR]; omega) (by simp only [cR]; omega)
  have hK : pChunk (cR n) (i / 13) + 1 = 9 + 3 * (i / 13) + 1 := by simp only [pChunk, cR]; omega
  have can : Drop.Can (cR n) LR g1 ((i + 1) * 65536).toNat false 0 := by
    refine ⟨?_, by simp [cR], ?_, ?_, ?_, ?_, ?_, ?_, ?_⟩
    · rw [ps, g7]
      have : ((i + 1) * 65536).toNat = putHandle ⟨0, i + 1⟩ := by rw [putHandle_eq (by omega)]; omega
      rw [this]; exact handle_putHandle (by simp only; omega)
    · rw [ps, g7]; simp
    · rw [ps, g7, gA]
    · rw [ps, g7, gA]; simp
    · rw [ps]; decide
    · rw [ps, g7]; simp only; rw [hof, hK]; omega
    · rw [ps, g7]; simp only; rw [hof, hK]; omega
    · rw [ps, g7]; simp only; rw [gA]; simp only [LR]; omega
  obtain ⟨d, m2, st2, q1, q2, q3, q4, q5⟩ := Drop.solo (who := 0) r5 can
  refine ⟨a, m1, d, m2, _, st2, r1, r2, r3, hh, q1, Drop.safe_steps _ _ _ _ _ (by rw [r5.steps]; omega) (by rw [r5.steps]; omega), q2, q3, by omega, by omega, fun hlt => ?_, fun heq => ?_⟩
  · have hD : ∀ b, b < 189 → dropped (cR n) g1 0 b = if b = 7 then putSlot ⟨0, 0, i + 2, 0⟩ else if b = 9 + 3 * (i / 13) + 1 then (g1 b + u64 (-3)) % 18446744073709551616 else if b = 8 then putTop (-1) 0 else if b = 1 then putTop 0 (2 * i + 2) else g1 b := by
      intro b hb
      have h1 : topOf (g1 1) = (-1, 2 * i + 1) := by
        rw [hG, if_neg (by omega), if_neg (by omega), if_neg (by omega), if_neg (by omega), if_neg (by omega), if_pos rfl]; exact topOf_putTop (by omega)
      have hge : ¬ (i + 1 ≥ (cR n).gens) := by simp only [cR]; omega
      have hnx : nextOf (cR n) (i + 1) = ⟨0, 0, i + 2, 0⟩ := by unfold nextOf; rw [if_neg hge]; simp only [Sl.mk.injEq, true_and, and_true]; omega
      simp only [dropped, ps, g7, gA, hof, hK, hc, hr, h1, if_neg hge, hnx]
      rw [if_neg (by omega)]
      have e1 : 2 * i + 1 + 1 = 2 * i + 2 := by omega
      simp only [e1, show (7 : Int) + 1 = 8 from rfl]
    have hc9 : ∀ j, 0 ≤ j → j < 60 → dropped (cR n) g1 0 (9 + 3 * j) = if j = i / 13 then putChunk ⟨1, 0, 3 * (i % 13) + 3, 1⟩ else g (9 + 3 * j) := by
      intro j j0 j1
      rw [hD _ (by omega), if_neg (by omega), if_neg (by omega), if_neg (by omega), if_neg (by omega), hG, if_neg (by omega), if_neg (by omega), if_neg (by omega)]
      by_cases hj : j = i / 13
      · rw [if_pos (by omega), if_pos hj]
      · rw [if_neg (by omega), if_neg (by omega), if_neg (by omega), if_neg hj]
    refine ⟨?_, ?_, ?_, ?_, fun j j0 j1 => ?_, fun j j0 j1 => ?_⟩
    · rw [hD 1 (by omega), if_neg (by omega), if_neg (by omega), if_neg (by omega), if_pos rfl, topOf_putTop (by omega)]
      simp only [Prod.mk.injEq, true_and]; omega
    · rw [hD 7 (by omega), if_pos rfl, slotOf_putSlot (by simp only; omega)]
      simp only [Sl.mk.injEq, true_and, and_true]; omega
    · rw [hD 8 (by omega), if_neg (by omega), if_neg (by omega), if_pos rfl, topOf_putTop (by omega)]
    · rw [hD 2 (by omega), if_neg (by omega), if_neg (by omega), if_neg (by omega), if_neg (by omega), hG, if_neg (by omega), if_neg (by omega), if_neg (by omega), if_neg (by omega), if_pos rfl]; omega
    · rw [hc9 j j0 (by omega)]
      by_cases hj : j = i / 13
      · rw [if_pos hj, chunkOf_putChunk (by simp only; omega)]
        simp only [Ck.mk.injEq, true_and, and_true]; omega
      · rw [if_neg hj, h.some j j0 (by omega)]
        simp only [Ck.mk.injEq, true_and, and_true]; omega
    · rw [hc9 j (by omega) j1, if_neg (by omega), h.free j (by omega) j1]
  · have hge : i + 1 ≥ (cR n).gens := by simp only [cR]; omega
    have hnx : nextOf (cR n) (i + 1) = ⟨3, 0, n, 0⟩ := by unfold nextOf; rw [if_pos hge]; simp only [Sl.mk.injEq, true_and, and_true]; omega
    have hD : ∀ b, b < 9 → dropped (cR n) g1 0 b = if b = 7 then putSlot ⟨3, 0, n, 0⟩ else g1 b := by
      intro b hb
      simp only [dropped, ps, g7, gA, hof, hK, hc, hr, if_pos hge, hnx]
      rw [if_neg (by omega)]
      by_cases h7 : b = 7
      · rw [if_pos h7, if_pos h7]
      · rw [if_neg h7, if_neg h7, if_neg (by omega)]
    refine ⟨?_, ?_⟩
    · rw [hD 1 (by omega), if_neg (by omega), hG, if_neg (by omega), if_neg (by omega), if_neg (by omega), if_neg (by omega), if_neg (by omega), if_pos rfl, topOf_putTop (by omega)]; show (-1 : Int) < 0; decide
    · rw [hD 7 (by omega), if_pos rfl]; exact slotOf_putSlot (by simp only; omega)

/-- The memories of the lives, one after the other. -/
def retM (n : Int) : Nat → Mem
  | 0 => fresh (cR n)
  | i + 1 => (Drop.loop (cR n) 0 200 (Alloc.loop (cR n) 0 400 (retM n i) (Alloc.new 2 false)).2 (Drop.new ((i + 1) * 65536) false)).2

theorem freshLoop_gens (t s k w g g' a b : Int) : ∀ (n i : Nat) (m : Mem), freshLoop ⟨t, s, k, w, g, a, b⟩ n i m = freshLoop ⟨t, s, k, w, g', a, b⟩ n i m
  | 0, _, _ => rfl
  | n + 1, i, m => by
    rw [freshLoop, freshLoop, freshLoop_gens t s k w g g' a b n]; rfl
theorem fresh_gens (t s k w g g' a b : Int) : fresh ⟨t, s, k, w, g, a, b⟩ = fresh ⟨t, s, k, w, g', a, b⟩ := by
  unfold fresh
  simp only [freshLoop_gens t s k w g g' a b]
  rfl

/-- What the walk asks of a round. -/
structure RetOk (n : Int) (i : Nat) : Prop where
  s1 : Alloc.safe (cR n) 0 400 (retM n i) (Alloc.new 2 false)
  e1 : (Alloc.loop (cR n) 0 400 (retM n i) (Alloc.new 2 false)).1.out.e = 0
  h1 : (Alloc.loop (cR n) 0 400 (retM n i) (Alloc.new 2 false)).1.out.handle = (i + 1) * 65536
  s2 : Drop.safe (cR n) 0 200 (Alloc.loop (cR n) 0 400 (retM n i) (Alloc.new 2 false)).2 (Drop.new ((i + 1) * 65536) false)
  e2 : (Drop.loop (cR n) 0 200 (Alloc.loop (cR n) 0 400 (retM n i) (Alloc.new 2 false)).2 (Drop.new ((i + 1) * 65536) false)).1.out.e = 0

theorem ret_all {n : Nat} (hn : 1 ≤ n ∧ n ≤ 32) : ∀ i : Nat, i ≤ n → (∀ j, j < i → RetOk n j) ∧ ∃ g st, (retM n i).Is LR g st ∧ 0 ≤ st ∧ st ≤ 4 + 140 * i ∧ (i < n → Ret g i) ∧ (i = n → (topOf (g 1)).1 < 0 ∧ slotOf (g 7) = ⟨3, 0, n, 0⟩)
  | 0, _ => by
    refine ⟨fun j hj => by omega, _, _, fresh_is (shR n), by simp [cR], by simp [cR], fun _ => ret_fresh n, fun h => by omega⟩
  | i + 1, hi => by
    obtain ⟨h1, g, st, h2, h3, h4, h5, _⟩ := ret_all hn i (by omega)
    obtain ⟨a, m1, d, m2, g', st', r1, r2, r3, r4, r5, r6, r7, r8, r9, r10, r11, r12⟩ := ret_round (n := n) h2 (by omega) (h5 (by omega)) (by omega)
    have e : (((i : Int) + 1) * 65536).toNat = (i + 1) * 65536 := by omega
    rw [e] at r5 r6
    have ok : RetOk n i := ⟨r2, by rw [r1]; exact r3, by rw [r1]; simp only; omega, by rw [r1]; exact r6, by rw [r1]; simp only; rw [r5]; exact r7⟩
    refine ⟨fun j hj => ?_, g', st', ?_, by omega, by omega, fun hlt => ?_, fun heq => ?_⟩
    · by_cases hj' : j = i
      · rw [hj']; exact ok
      · exact h1 j (by omega)
    · rw [retM, r1]; simp only; rw [r5]; exact r8
    · have := r11 (by omega); rwa [show ((i + 1 : Nat) : Int) = (i : Int) + 1 by omega]
    · exact r12 (by omega)

/-- What the walk asks of the end. -/
structure RetEnd (n : Nat) : Prop where
  state : (slotOf ((retM n n).peek 7)).state = 3
  s1 : Alloc.safe (cR n) 0 400 (retM n n) (Alloc.new 2 false)
  e1 : (Alloc.loop (cR n) 0 400 (retM n n) (Alloc.new 2 false)).1.out.e = 7
  s2 : Drop.safe (cR n) 0 200 (Alloc.loop (cR n) 0 400 (retM n n) (Alloc.new 2 false)).2 (Drop.new (n * 65536) false)
  e2 : (Drop.loop (cR n) 0 200 (Alloc.loop (cR n) 0 400 (retM n n) (Alloc.new 2 false)).2 (Drop.new (n * 65536) false)).1.out.e = 3

theorem ret_end {n : Nat} (hn : 1 ≤ n ∧ n ≤ 32) : RetEnd n := by
  obtain ⟨_, g, st, h2, h3, h4, _, h6⟩ := ret_all hn n (Nat.le_refl n)
  obtain ⟨t1, t2⟩ := h6 rfl
  obtain ⟨a, m1, st1, r1, r2, r3, r4, r5, r6⟩ := Alloc.noSlot (c := cR n) (who := 0) (size := 2) (own := false) (by decide) h2 (by omega) (by omega) t1
  have hh : handle (n * 65536) = (⟨0, n⟩, true) := by
    have : n * 65536 = putHandle ⟨0, n⟩ := by rw [putHandle_eq (by omega)]; simp
    rw [this]; exact handle_putHandle (by simp only; omega)
  have ps : pSlot (cR n) 0 = 7 := by simp [pSlot, cR]
  obtain ⟨d, m2, st2, q1, q2, q3, q4, q5⟩ := Drop.none (c := cR n) (who := 0) (n := n * 65536) (own := false) r4 (by
    rw [hh]; refine Or.inr (Or.inr ⟨?_, ?_, Or.inl ?_⟩)
    · simp only [ps]; decide
    · simp only [ps]; decide
    · simp [ps, t2, live])
  refine ⟨?_, r2, by rw [r1]; exact r3, by rw [r1]; exact Drop.safe_steps _ _ _ _ _ (by rw [r4.steps]; omega) (by rw [r4.steps]; omega), by rw [r1]; simp only; rw [q1]; exact q2⟩
  rw [h2.peek (by decide), t2]

end Go.Proofs.Ythblhgappldcjaa.Fl
