/- Many who read or lay the same word, when nothing else goes on: the plain laws of AccessOne, AccessLast, AccessCounts. No program in sight. -/
import Derived.Test.YthblhgappldcjaaPj
import Derived.Test.YthblhgappldcjaaPf
namespace Go.Proofs.Ythblhgappldcjaa.Fl
set_option linter.unusedVariables false

def eA : Alloc × Mem := Alloc.loop cD 0 400 (fresh cD) (Alloc.new 1 false)
set_option maxRecDepth 100000 in
theorem eA_safe : Alloc.safeB cD 0 400 (fresh cD) (Alloc.new 1 false) = true := by decide +kernel
set_option maxRecDepth 100000 in
theorem eA_out : (Alloc.loop cD 0 400 (fresh cD) (Alloc.new 1 false)).1.out.handle = 65536 := by decide +kernel

theorem eA_is : ∃ g st, eA.2.Is 64 g st ∧ 0 ≤ st ∧ st ≤ 100 ∧ g 10 = W1 ∧ g 24 = putHead ⟨2, 1, 0, 1, false⟩ ∧ g 25 = 0 := by
  have ps : pSlot cD 0 = 10 := by simp [pSlot, cD]
  have t0 : topOf (freshG cD 1) = (0, 0) := by rw [freshG, upd_same]; decide
  have w0 : slotOf (freshG cD 10) = ⟨0, 0, 1, 0⟩ := by decide
  obtain ⟨a, m1, st1, r1, r2, r3, r4, r5, r6, r7⟩ := Alloc.solo (who := 0) (own := false) (size := 1) (s := 0) shD (fresh_is shD) (by simp [cD]) (by omega) (by rw [t0]) (by simp [cD]) (fits_first shD (by simp [cD]) (by decide))
  rw [show (2 * cD.slots + 2 : Int) = 10 from by decide] at r6 r7
  have hA : pBase cD 0 + 0 = 24 := by simp [pBase, cD]
  have hck : pChunk cD 0 = 18 := by simp [pChunk, cD]
  have hm : eA.2 = m1 := by unfold eA; rw [r1]
  refine ⟨_, st1, by rw [hm]; exact r5, by omega, by omega, ?_, ?_, ?_⟩
  · simp only [madeG, ps, w0, hA, hck]; decide
  · simp only [madeG, ps, w0, hA, hck]; simp
  · simp only [madeG, ps, w0, hA, hck]; decide

structure WordG (g : Int → Nat) (c : Nat) : Prop where
  slot : g 10 = W1
  head : g 24 = putHead ⟨2, 1, 0, 1, false⟩
  cell : g 25 = c
  lt : c < 1099511627776

theorem WordG.lay {g : Int → Nat} {c v : Nat} (h : WordG g c) (hv : v < 1099511627776) : WordG (upd g 25 v) v :=
  ⟨by rw [upd_other (by omega)]; exact h.slot, by rw [upd_other (by omega)]; exact h.head, upd_same .., hv⟩

theorem cell_plain {v : Nat} (h : v < 1099511627776) : cellOf v = ⟨v, false, 0⟩ := by
  simp only [cellOf, Cl.mk.injEq]
  have h1 : v / 9223372036854775808 = 0 := by omega
  rw [h1, Nat.mod_eq_of_lt h]
  simp
theorem put_plain {v : Int} (h0 : 0 ≤ v) (h : v < 1099511627776) : putCell ⟨v, false, 0⟩ = v.toNat := by
  simp only [putCell]; rw [fit_eq h0 (by omega)]; simp

inductive AccAt (x : Want) : Access → Prop
  | see (h : Hd) (w cell : Nat) (seen read size : Int) (p : Help) (out : Done) : AccAt x ⟨x, false, h, 0, w, cell, seen, read, size, p, out⟩
  | head (cell : Nat) (seen read size : Int) (p : Help) (out : Done) : AccAt x ⟨x, false, ⟨0, 1⟩, 1, W1, cell, seen, read, size, p, out⟩
  | load (cell : Nat) (seen read : Int) (p : Help) (out : Done) : AccAt x ⟨x, false, ⟨0, 1⟩, 2, W1, cell, seen, read, 1, p, out⟩
  | lay (v : Nat) (seen read : Int) (p : Help) (out : Done) (hv : v < 1099511627776) (hk : x.kind = 2 ∨ (x.kind = 3 ∧ (v : Int) = x.old)) : AccAt x ⟨x, false, ⟨0, 1⟩, 5, W1, v, seen, read, 1, p, out⟩
  | check (v : Nat) (seen read : Int) (p : Help) (out : Done) (hv : v < 1099511627776) (hk : x.kind = 1 ∨ (x.kind = 3 ∧ (v : Int) ≠ x.old)) : AccAt x ⟨x, false, ⟨0, 1⟩, 6, W1, v, seen, read, 1, p, out⟩

theorem AccAt.want {x : Want} {a : Access} (h : AccAt x a) : a.x = x := by cases h <;> rfl
theorem AccAt.idx {x : Want} {a : Access} (h : AccAt x a) (hx : x.index = 0) : a.okIdx := by
  intro _; rw [h.want, hx]; omega
theorem AccAt.pcs {x : Want} {a : Access} (h : AccAt x a) : a.pc = 0 ∨ a.pc = 1 ∨ a.pc = 2 ∨ a.pc = 5 ∨ a.pc = 6 := by cases h <;> simp
theorem AccAt.five {x : Want} {a : Access} (h : AccAt x a) (hp : a.pc = 5) : x.kind = 2 ∨ (x.kind = 3 ∧ (a.cell : Int) = x.old) := by
  cases h <;> simp at hp
  assumption
theorem AccAt.six {x : Want} {a : Access} (h : AccAt x a) (hp : a.pc = 6) : x.kind = 1 ∨ (x.kind = 3 ∧ (a.cell : Int) ≠ x.old) := by
  cases h <;> simp at hp
  assumption
theorem AccAt.new (x : Want) : AccAt x (Access.new x false) := .see _ _ _ _ _ _ _ _

def Want.plain (x : Want) : Prop := x.handle = 65536 ∧ x.index = 0 ∧ (x.kind = 1 ∨ x.kind = 2 ∨ x.kind = 3) ∧ 0 ≤ x.value ∧ x.value < 1099511627776

/-- What a step does. -/
inductive AccRes (x : Want) (g : Int → Nat) (c : Nat) (st : Int) (a : Access) : Bool → Access → Mem → Prop
  | more (a' : Access) (m' : Mem) (hi : m'.Is 64 g (st + 1)) (ha : AccAt x a') (hp : (a.pc = 0 ∧ a'.pc = 1) ∨ (a.pc = 1 ∧ a'.pc = 2) ∨ (a.pc = 2 ∧ (a'.pc = 5 ∨ a'.pc = 6) ∧ a'.cell = c) ∨ (a.pc = 5 ∧ a.cell ≠ c ∧ a'.pc = 0)) : AccRes x g c st a false a' m'
  | laid (a' : Access) (m' : Mem) (hi : m'.Is 64 (upd g 25 x.value.toNat) (st + 1)) (hp : a.pc = 5) (hc : a.cell = c) (ho : a'.out = ⟨0, 0, c, st + 1⟩) : AccRes x g c st a true a' m'
  | told (a' : Access) (m' : Mem) (hi : m'.Is 64 g (st + 1)) (hp : a.pc = 6) (ho : a'.out = ⟨if x.kind = 3 then 8 else 0, 0, a.cell, a.read⟩) : AccRes x g c st a true a' m'

theorem acc_step {x : Want} {g : Int → Nat} {c : Nat} {m : Mem} {st : Int} {a : Access} (hm : m.Is 64 g st) (G : WordG g c) (hx : x.plain) (h : AccAt x a) :
    ∃ b a' m', a.step cD 0 m = (b, a', m') ∧ AccRes x g c st a b a' m' := by
  have ps : pSlot cD 0 = 10 := by simp [pSlot, cD]
  have hsl : ¬ (cD.slots ≤ 0) := by decide
  have hh : handle 65536 = (⟨0, 1⟩, true) := by decide
  have l1 : Fl.live (slotOf W1) ⟨0, 1⟩ = true := by decide
  have hd : headOf (g 24) = ⟨2, 1, 0, 1, false⟩ := by rw [G.head]; decide
  obtain ⟨x1, x2, x3, x4, x5⟩ := hx
  cases h with
  | see h w cell seen read size p out =>
    obtain ⟨m1, e1, h1⟩ := hm.load 0 (a := 10) (by omega)
    refine ⟨false, ⟨x, false, ⟨0, 1⟩, 1, W1, cell, m1.steps, read, size, p, out⟩, m1, ?_, .more _ _ h1 (.head ..) (Or.inl ⟨rfl, rfl⟩)⟩
    simp [Access.step, x1, hh, hsl, ps, e1, G.slot, l1]
  | head cell seen read size p out =>
    obtain ⟨m1, e1, h1⟩ := hm.load 0 (a := 24) (by omega)
    refine ⟨false, ⟨x, false, ⟨0, 1⟩, 2, W1, cell, seen, read, 1, p, out⟩, m1, ?_, .more _ _ h1 (.load ..) (Or.inr (Or.inl ⟨rfl, rfl⟩))⟩
    simp [Access.step, s_W1, e1, hd, x2]
  | load cell seen read p out =>
    obtain ⟨m1, e1, h1⟩ := hm.load 0 (a := 25) (by omega)
    have hc := cell_plain G.lt
    have hl := G.lt
    rw [G.cell] at e1
    have hn : (⟨x, false, ⟨0, 1⟩, 2, W1, c, seen, m1.steps, 1, p, out⟩ : Access).next = if x.kind = 1 ∨ (x.kind = 3 ∧ (c : Int) ≠ x.old) then 6 else 5 := by
      simp [Access.next, hc, s_W1]
    by_cases k : x.kind = 1 ∨ (x.kind = 3 ∧ (c : Int) ≠ x.old)
    · rw [if_pos k] at hn
      refine ⟨false, ⟨x, false, ⟨0, 1⟩, 6, W1, c, seen, m1.steps, 1, p, out⟩, m1, ?_, .more _ _ h1 (.check _ _ _ _ _ hl k) (Or.inr (Or.inr (Or.inl ⟨rfl, Or.inr rfl, rfl⟩)))⟩
      simp [Access.step, Access.at_, s_W1, x2, e1, hn]
    · rw [if_neg k] at hn
      refine ⟨false, ⟨x, false, ⟨0, 1⟩, 5, W1, c, seen, m1.steps, 1, p, out⟩, m1, ?_, .more _ _ h1 (.lay _ _ _ _ _ hl (by omega)) (Or.inr (Or.inr (Or.inl ⟨rfl, Or.inl rfl, rfl⟩)))⟩
      simp [Access.step, Access.at_, s_W1, x2, e1, hn]
  | lay v seen read p out hv hk =>
    have hp := put_plain x4 x5
    have hcv := cell_plain hv
    by_cases k : v = c
    · subst k
      obtain ⟨m1, e1, h1⟩ := hm.cas 0 (a := 25) (by omega) v x.value.toNat G.cell
      refine ⟨true, ⟨x, false, ⟨0, 1⟩, 0, W1, v, seen, read, 1, p, ⟨0, 0, v, m1.steps⟩⟩, m1, ?_, .laid _ _ h1 rfl rfl (by rw [h1.steps])⟩
      simp [Access.step, Access.at_, s_W1, x2, hp, e1, hcv, Access.fin]
    · obtain ⟨m1, e1, h1⟩ := hm.casNo 0 (a := 25) (by omega) v x.value.toNat (by rw [G.cell]; omega)
      refine ⟨false, ⟨x, false, ⟨0, 1⟩, 0, W1, v, seen, read, 1, p, out⟩, m1, ?_, .more _ _ h1 (.see ..) (Or.inr (Or.inr (Or.inr ⟨rfl, k, rfl⟩)))⟩
      simp [Access.step, Access.at_, s_W1, x2, hp, e1]
  | check v seen read p out hv hk =>
    have hcv := cell_plain hv
    obtain ⟨m1, e1, h1⟩ := hm.load 0 (a := 10) (by omega)
    by_cases k : x.kind = 3
    · refine ⟨true, ⟨x, false, ⟨0, 1⟩, 6, W1, v, seen, read, 1, p, ⟨8, 0, v, read⟩⟩, m1, ?_, .told _ _ h1 rfl (by rw [if_pos k])⟩
      simp [Access.step, ps, e1, G.slot, l1, hcv, k, Access.fin]
    · refine ⟨true, ⟨x, false, ⟨0, 1⟩, 6, W1, v, seen, read, 1, p, ⟨0, 0, v, read⟩⟩, m1, ?_, .told _ _ h1 rfl (by rw [if_neg k])⟩
      simp [Access.step, ps, e1, G.slot, l1, hcv, k, Access.fin]

/-- The word, read alone. -/
theorem word_read {g : Int → Nat} {c : Nat} {m : Mem} {st : Int} (hm : m.Is 64 g st) (G : WordG g c) :
    (Access.loop cD 0 200 m (Access.new ⟨1, 65536, 0, 0, 0⟩ false)).1.out.value = c := by
  have hx : (⟨1, 65536, 0, 0, 0⟩ : Want).plain := ⟨rfl, rfl, by simp, by simp, by simp⟩
  obtain ⟨b1, a1, m1, e1, R1⟩ := acc_step hm G hx (.new _)
  cases R1 with
  | laid _ _ _ hp => simp [Access.new] at hp
  | told _ _ _ hp => simp [Access.new] at hp
  | more _ _ i1 t1 p1 =>
  obtain ⟨b2, a2, m2, e2, R2⟩ := acc_step i1 G hx t1
  have q1 : a1.pc = 1 := by
    rcases p1 with ⟨_, p⟩ | ⟨p, _⟩ | ⟨p, _⟩ | ⟨p, _⟩
    · exact p
    all_goals simp [Access.new] at p
  cases R2 with
  | laid _ _ _ hp => omega
  | told _ _ _ hp => omega
  | more _ _ i2 t2 p2 =>
  have q2 : a2.pc = 2 := by omega
  obtain ⟨b3, a3, m3, e3, R3⟩ := acc_step i2 G hx t2
  cases R3 with
  | laid _ _ _ hp => omega
  | told _ _ _ hp => omega
  | more _ _ i3 t3 p3 =>
  have q3 : a3.pc = 6 ∧ a3.cell = c := by
    rcases p3 with p | p | ⟨_, p, p'⟩ | p
    · omega
    · omega
    · refine ⟨?_, p'⟩
      rcases p with p | p
      · have := t3.five p; simp at this
      · exact p
    · omega
  obtain ⟨b4, a4, m4, e4, R4⟩ := acc_step i3 G hx t3
  cases R4 with
  | laid _ _ _ hp => omega
  | more _ _ _ _ hp => omega
  | told _ _ i4 _ ho =>
  rw [Access.next' e1, Access.next' e2, Access.next' e3, Access.stop e4]
  simp only [ho, q3.2]

/-! ### AccessOne -/

def oX (k : Nat) : Want := ⟨3, 65536, 0, 10 + k, 0⟩
theorem oX_plain {k : Nat} (h : k < 4) : (oX k).plain := ⟨rfl, rfl, by simp [oX], by simp only [oX]; omega, by simp only [oX]; omega⟩

def orank (c : Nat) (pc : Int) : Nat := if pc = 0 then (if c = 0 then 8 else 4) else if pc = 1 then (if c = 0 then 7 else 3) else if pc = 2 then (if c = 0 then 6 else 2) else if pc = 5 then 5 else 1
theorem orank_le (c : Nat) (pc : Int) : 1 ≤ orank c pc ∧ orank c pc ≤ 8 := by unfold orank; repeat' split
                                                                              all_goals omega
theorem orank_mono {c : Nat} (c' : Nat) (pc : Int) (h : c' ≠ 0) : orank c' pc ≤ orank c pc := by unfold orank; repeat' split
                                                                                                 all_goals omega

structure OneInv (n i : Nat) (m : Mem) (xs : Nat → Access) (dn : Nat → Bool) (won value : Int) : Prop where
  out : ∃ (g : Int → Nat) (st : Int) (c : Nat), m.Is 64 g st ∧ WordG g c ∧ 0 ≤ st ∧ st ≤ 100 + i ∧
    (∀ k, k < n → dn k = false → AccAt (oX k) (xs k) ∧ ((xs k).pc = 6 → c ≠ 0) ∧ ((xs k).pc = 5 → (xs k).cell = 0) ∧ (150 ≤ i → orank c (xs k).pc + turns n k i ≤ 8 + turns n k 150)) ∧
    ((c = 0 ∧ won = 0 ∧ ∀ k, k < n → dn k = false) ∨ (c ≠ 0 ∧ won = 1 ∧ value = c))

theorem OneInv.steps {n i : Nat} {m : Mem} {xs : Nat → Access} {dn : Nat → Bool} {won value : Int} (h : OneInv n i m xs dn won value) : 0 ≤ m.steps ∧ m.steps ≤ 100 + i := by
  obtain ⟨g, st, c, h1, h2, h3, h4, _⟩ := h.out
  rw [h1.steps]; omega
theorem OneInv.idx {n i : Nat} {m : Mem} {xs : Nat → Access} {dn : Nat → Bool} {won value : Int} (h : OneInv n i m xs dn won value) {k : Nat} (hk : k < n) (hd : dn k = false) : (xs k).okIdx := by
  obtain ⟨g, st, c, h1, h2, h3, h4, h5, _⟩ := h.out
  exact (h5 k hk hd).1.idx rfl

theorem OneInv.start (n : Nat) (xs : Nat → Access) (hd : ∀ k, k < n → xs k = Access.new (oX k) false) (v : Int) : OneInv n 0 eA.2 xs (fun _ => false) 0 v := by
  obtain ⟨g, st, h1, h2, h3, h4, h5, h6⟩ := eA_is
  refine ⟨g, st, 0, h1, ⟨h4, h5, h6, by omega⟩, h2, by omega, fun k hk _ => ?_, Or.inl ⟨rfl, rfl, fun _ _ => rfl⟩⟩
  rw [hd k hk]
  exact ⟨.new _, fun q => by simp [Access.new] at q, fun q => by simp [Access.new] at q, fun q => by omega⟩

theorem OneInv.skip {n i : Nat} {m : Mem} {xs : Nat → Access} {dn : Nat → Bool} {won value : Int} {j : Nat} (h : OneInv n i m xs dn won value) (hn : 1 ≤ n ∧ n ≤ 4) (hj : j < n) (hp : i < 150 ∨ j = i % n) (hd : dn j = true) : OneInv n (i + 1) m xs dn won value := by
  obtain ⟨g, st, c, h1, h2, h3, h4, h5, h6⟩ := h.out
  refine ⟨g, st, c, h1, h2, h3, by omega, fun k hk hdk => ?_, h6⟩
  obtain ⟨q1, q2, q3, q4⟩ := h5 k hk hdk
  refine ⟨q1, q2, q3, fun h150 => ?_⟩
  by_cases he : i = 149
  · rw [turns_149 he]; have := orank_le c (xs k).pc; omega
  · rw [turns_next hn hk j (picked_at hp he h150), if_neg (fun e => by rw [e, hd] at hdk; cases hdk)]
    exact q4 (by omega)

theorem OneInv.step {n i : Nat} {m : Mem} {xs : Nat → Access} {dn : Nat → Bool} {won value : Int} {j : Nat} (h : OneInv n i m xs dn won value) (hn : 1 ≤ n ∧ n ≤ 4) (hj : j < n) (hp : i < 150 ∨ j = i % n) (hd : dn j = false) :
    (((xs j).step cD 0 m).1 = false → OneInv n (i + 1) ((xs j).step cD 0 m).2.2 (at4 xs j ((xs j).step cD 0 m).2.1) dn won value) ∧
    (((xs j).step cD 0 m).1 = true → (((xs j).step cD 0 m).2.1.out.e = 0 ∧ OneInv n (i + 1) ((xs j).step cD 0 m).2.2 (at4 xs j ((xs j).step cD 0 m).2.1) (at4 dn j true) (won + 1) (10 + j)) ∨
      (((xs j).step cD 0 m).2.1.out.e = 8 ∧ OneInv n (i + 1) ((xs j).step cD 0 m).2.2 (at4 xs j ((xs j).step cD 0 m).2.1) (at4 dn j true) won value)) := by
  obtain ⟨g, st, c, h1, h2, h3, h4, h5, h6⟩ := h.out
  obtain ⟨q1, q2, q3, q4⟩ := h5 j hj hd
  obtain ⟨b, a', m', e, R⟩ := acc_step h1 h2 (oX_plain (k := j) (by omega)) q1
  rw [e]
  simp only
  have others : ∀ (c' : Nat) (dn' : Nat → Bool), (c' = c ∨ c' ≠ 0) → (∀ k, k ≠ j → dn' k = dn k) → ∀ k, k < n → k ≠ j → dn' k = false → AccAt (oX k) (at4 xs j a' k) ∧ ((at4 xs j a' k).pc = 6 → c' ≠ 0) ∧ ((at4 xs j a' k).pc = 5 → (at4 xs j a' k).cell = 0) ∧ (150 ≤ i + 1 → orank c' (at4 xs j a' k).pc + turns n k (i + 1) ≤ 8 + turns n k 150) := by
    intro c' dn' hc z1 k hk hkj hdk
    rw [at4_other hkj]
    rw [z1 k hkj] at hdk
    obtain ⟨p1, p2, p3, p4⟩ := h5 k hk hdk
    have ho : orank c' (xs k).pc ≤ orank c (xs k).pc := by
      rcases hc with rfl | hc
      · exact Nat.le_refl _
      · exact orank_mono _ _ hc
    refine ⟨p1, fun q => ?_, p3, fun h150 => ?_⟩
    · rcases hc with rfl | hc
      · exact p2 q
      · exact hc
    · by_cases he : i = 149
      · rw [turns_149 he]; have := orank_le c' (xs k).pc; omega
      · rw [turns_next hn hk j (picked_at hp he h150), if_neg hkj]
        have := p4 (by omega)
        omega
  cases R with
  | more _ _ i1 t1 p1 =>
    refine ⟨fun _ => ?_, fun q => by cases q⟩
    refine ⟨g, st + 1, c, i1, h2, by omega, by omega, fun k hk hdk => ?_, h6⟩
    by_cases hkj : k = j
    · subst hkj
      rw [at4_same]
      have dec : ((a'.pc = 6 → c ≠ 0) ∧ (a'.pc = 5 → a'.cell = 0)) ∧ orank c a'.pc < orank c (xs k).pc := by
        rcases p1 with ⟨p, p'⟩ | ⟨p, p'⟩ | ⟨p, p', p2⟩ | ⟨p, p', p2⟩
        · rw [p, p']; refine ⟨⟨fun q => by omega, fun q => by omega⟩, ?_⟩; by_cases hc : c = 0 <;> simp [orank, hc]
        · rw [p, p']; refine ⟨⟨fun q => by omega, fun q => by omega⟩, ?_⟩; by_cases hc : c = 0 <;> simp [orank, hc]
        · rcases p' with p' | p'
          · have := t1.five p'
            simp [oX] at this
            rw [p, p']; refine ⟨⟨fun q => by omega, fun q => this⟩, ?_⟩
            have : c = 0 := by omega
            simp [orank, this]
          · have := t1.six p'
            simp [oX] at this
            have hc : c ≠ 0 := by omega
            rw [p, p']; refine ⟨⟨fun q => hc, fun q => by omega⟩, ?_⟩
            simp [orank, hc]
        · have := q3 p
          have hc : c ≠ 0 := by omega
          rw [p, p2]; refine ⟨⟨fun q => by omega, fun q => by omega⟩, ?_⟩
          simp [orank, hc]
      refine ⟨t1, dec.1.1, dec.1.2, fun h150 => ?_⟩
      have := orank_le c (xs k).pc
      by_cases he : i = 149
      · rw [turns_149 he]; omega
      · rw [turns_next hn hk k (picked_at hp he h150), if_pos rfl]
        have := q4 (by omega)
        omega
    · exact others c dn (Or.inl rfl) (fun _ _ => rfl) k hk hkj hdk
  | laid _ _ i1 p1 p2 p3 =>
    refine ⟨(fun q => by cases q), fun _ => Or.inl ⟨by rw [p3], ?_⟩⟩
    have hc : c = 0 := by rw [← p2]; exact q3 p1
    have hv : ((oX j).value.toNat : Int) = 10 + j := by simp only [oX]; omega
    refine ⟨_, st + 1, _, i1, h2.lay (v := (oX j).value.toNat) (by omega), by omega, by omega, fun k hk hdk => ?_, Or.inr ⟨by omega, ?_, hv.symm⟩⟩
    · by_cases hkj : k = j
      · rw [hkj, at4_same] at hdk; cases hdk
      · exact others _ _ (Or.inr (by omega)) (fun k hk => at4_other hk) k hk hkj hdk
    · rcases h6 with ⟨_, w, _⟩ | ⟨w, _⟩
      · omega
      · exact absurd hc w
  | told _ _ i1 p1 p2 =>
    refine ⟨(fun q => by cases q), fun _ => Or.inr ⟨by rw [p2]; rfl, ?_⟩⟩
    have hc := q2 p1
    refine ⟨_, st + 1, _, i1, h2, by omega, by omega, fun k hk hdk => ?_, ?_⟩
    · by_cases hkj : k = j
      · rw [hkj, at4_same] at hdk; cases hdk
      · exact others _ _ (Or.inl rfl) (fun k hk => at4_other hk) k hk hkj hdk
    · rcases h6 with ⟨w, _⟩ | w
      · exact absurd w hc
      · exact Or.inr w

theorem OneInv.final {n : Nat} {m : Mem} {xs : Nat → Access} {dn : Nat → Bool} {won value : Int} (h : OneInv n 300 m xs dn won value) (hn : 1 ≤ n ∧ n ≤ 4) :
    won = 1 ∧ (Access.loop cD 0 200 m (Access.new ⟨1, 65536, 0, 0, 0⟩ false)).1.out.value = value := by
  obtain ⟨g, st, c, h1, h2, h3, h4, h5, h6⟩ := h.out
  rcases h6 with ⟨w1, w2, w3⟩ | ⟨w1, w2, w3⟩
  · exfalso
    obtain ⟨_, _, _, q⟩ := h5 0 (by omega) (w3 0 (by omega))
    have := q (by omega)
    have h2 : turns n 0 150 + 150 / 4 ≤ turns n 0 300 := turns_many hn (k := 0) (by omega) 150 150
    omega
  · exact ⟨w2, by rw [word_read h1 h2, w3]⟩

/-! ### AccessLast -/

def lX (k : Nat) : Want := ⟨2, 65536, 0, 10 + k, 0⟩
theorem lX_plain {k : Nat} (h : k < 4) : (lX k).plain := ⟨rfl, rfl, by simp [lX], by simp only [lX]; omega, by simp only [lX]; omega⟩

def lpos (c : Nat) (a : Access) : Nat := if a.pc = 0 then 4 else if a.pc = 1 then 3 else if a.pc = 2 then 2 else if a.cell = c then 1 else 5
theorem lpos_le (c : Nat) (a : Access) : 1 ≤ lpos c a ∧ lpos c a ≤ 5 := by unfold lpos; repeat' split
                                                                           all_goals omega
theorem lpos_any (c c' : Nat) (a : Access) : lpos c' a ≤ lpos c a + 4 := by
  have := lpos_le c a; have := lpos_le c' a; omega

def one (n : Nat) (dn : Nat → Bool) (k : Nat) : Nat := if k < n ∧ dn k = false then 1 else 0
def und (n : Nat) (dn : Nat → Bool) : Nat := one n dn 0 + one n dn 1 + one n dn 2 + one n dn 3
theorem one_le (n : Nat) (dn : Nat → Bool) (k : Nat) : one n dn k ≤ 1 := by unfold one; split <;> omega
theorem und_le (n : Nat) (dn : Nat → Bool) : und n dn ≤ 4 := by
  have := one_le n dn 0; have := one_le n dn 1; have := one_le n dn 2; have := one_le n dn 3; unfold und; omega
theorem und_done {n : Nat} {dn : Nat → Bool} {j : Nat} (hn : n ≤ 4) (hj : j < n) (hd : dn j = false) : und n (at4 dn j true) + 1 = und n dn := by
  have e1 : one n dn j = 1 := by unfold one; rw [if_pos ⟨hj, hd⟩]
  have e2 : one n (at4 dn j true) j = 0 := by unfold one; rw [if_neg (by rw [at4_same]; simp)]
  have e3 : ∀ k, k ≠ j → one n (at4 dn j true) k = one n dn k := fun k hk => by unfold one; rw [at4_other hk]
  unfold und
  have : j = 0 ∨ j = 1 ∨ j = 2 ∨ j = 3 := by omega
  rcases this with rfl | rfl | rfl | rfl
  · rw [e1, e2, e3 1 (by omega), e3 2 (by omega), e3 3 (by omega)]; omega
  · rw [e1, e2, e3 0 (by omega), e3 2 (by omega), e3 3 (by omega)]; omega
  · rw [e1, e2, e3 0 (by omega), e3 1 (by omega), e3 3 (by omega)]; omega
  · rw [e1, e2, e3 0 (by omega), e3 1 (by omega), e3 2 (by omega)]

structure LastInv (n i : Nat) (m : Mem) (xs : Nat → Access) (dn : Nat → Bool) (last want : Int) : Prop where
  out : ∃ (g : Int → Nat) (st : Int) (c : Nat), m.Is 64 g st ∧ WordG g c ∧ 0 ≤ st ∧ st ≤ 100 + i ∧ last ≤ st ∧ want = c ∧
    (∀ k, k < n → dn k = false → AccAt (lX k) (xs k) ∧ (xs k).pc ≠ 6 ∧ (150 ≤ i → 4 * und n dn + lpos c (xs k) + turns n k i ≤ 21 + turns n k 150))

theorem LastInv.steps {n i : Nat} {m : Mem} {xs : Nat → Access} {dn : Nat → Bool} {last want : Int} (h : LastInv n i m xs dn last want) : 0 ≤ m.steps ∧ m.steps ≤ 100 + i := by
  obtain ⟨g, st, c, h1, h2, h3, h4, _⟩ := h.out
  rw [h1.steps]; omega
theorem LastInv.idx {n i : Nat} {m : Mem} {xs : Nat → Access} {dn : Nat → Bool} {last want : Int} (h : LastInv n i m xs dn last want) {k : Nat} (hk : k < n) (hd : dn k = false) : (xs k).okIdx := by
  obtain ⟨g, st, c, h1, h2, h3, h4, _, _, h5⟩ := h.out
  exact (h5 k hk hd).1.idx rfl

theorem LastInv.start (n : Nat) (xs : Nat → Access) (hd : ∀ k, k < n → xs k = Access.new (lX k) false) : LastInv n 0 eA.2 xs (fun _ => false) 0 0 := by
  obtain ⟨g, st, h1, h2, h3, h4, h5, h6⟩ := eA_is
  refine ⟨g, st, 0, h1, ⟨h4, h5, h6, by omega⟩, h2, by omega, by omega, rfl, fun k hk _ => ?_⟩
  rw [hd k hk]
  exact ⟨.new _, by simp [Access.new], fun q => by omega⟩

theorem LastInv.skip {n i : Nat} {m : Mem} {xs : Nat → Access} {dn : Nat → Bool} {last want : Int} {j : Nat} (h : LastInv n i m xs dn last want) (hn : 1 ≤ n ∧ n ≤ 4) (hj : j < n) (hp : i < 150 ∨ j = i % n) (hd : dn j = true) : LastInv n (i + 1) m xs dn last want := by
  obtain ⟨g, st, c, h1, h2, h3, h4, h5, h6, h7⟩ := h.out
  refine ⟨g, st, c, h1, h2, h3, by omega, h5, h6, fun k hk hdk => ?_⟩
  obtain ⟨q1, q2, q3⟩ := h7 k hk hdk
  refine ⟨q1, q2, fun h150 => ?_⟩
  by_cases he : i = 149
  · rw [turns_149 he]; have := lpos_le c (xs k); have := und_le n dn; omega
  · rw [turns_next hn hk j (picked_at hp he h150), if_neg (fun e => by rw [e, hd] at hdk; cases hdk)]
    exact q3 (by omega)

theorem LastInv.step {n i : Nat} {m : Mem} {xs : Nat → Access} {dn : Nat → Bool} {last want : Int} {j : Nat} (h : LastInv n i m xs dn last want) (hn : 1 ≤ n ∧ n ≤ 4) (hj : j < n) (hp : i < 150 ∨ j = i % n) (hd : dn j = false) :
    (((xs j).step cD 0 m).1 = false → LastInv n (i + 1) ((xs j).step cD 0 m).2.2 (at4 xs j ((xs j).step cD 0 m).2.1) dn last want) ∧
    (((xs j).step cD 0 m).1 = true → ((xs j).step cD 0 m).2.1.out.e = 0 ∧ ((xs j).step cD 0 m).2.1.out.stamp > last ∧ LastInv n (i + 1) ((xs j).step cD 0 m).2.2 (at4 xs j ((xs j).step cD 0 m).2.1) (at4 dn j true) ((xs j).step cD 0 m).2.1.out.stamp (10 + j)) := by
  obtain ⟨g, st, c, h1, h2, h3, h4, hls, hw, h5⟩ := h.out
  obtain ⟨q1, q2, q3⟩ := h5 j hj hd
  obtain ⟨b, a', m', e, R⟩ := acc_step h1 h2 (lX_plain (k := j) (by omega)) q1
  rw [e]
  simp only
  cases R with
  | more _ _ i1 t1 p1 =>
    refine ⟨fun _ => ?_, fun q => by cases q⟩
    refine ⟨g, st + 1, c, i1, h2, by omega, by omega, by omega, hw, fun k hk hdk => ?_⟩
    by_cases hkj : k = j
    · subst hkj
      rw [at4_same]
      have dec : a'.pc ≠ 6 ∧ lpos c a' < lpos c (xs k) := by
        rcases p1 with ⟨p, p'⟩ | ⟨p, p'⟩ | ⟨p, p', p2⟩ | ⟨p, p', p2⟩
        · refine ⟨by omega, ?_⟩; simp [lpos, p, p']
        · refine ⟨by omega, ?_⟩; simp [lpos, p, p']
        · rcases p' with p' | p'
          · refine ⟨by omega, ?_⟩; simp [lpos, p, p', p2]
          · have := t1.six p'; simp [lX] at this
        · refine ⟨by omega, ?_⟩; simp [lpos, p, p', p2]
      refine ⟨t1, dec.1, fun h150 => ?_⟩
      by_cases he : i = 149
      · rw [turns_149 he]; have := lpos_le c a'; have := lpos_le c (xs k); have := und_le n dn; omega
      · rw [turns_next hn hk k (picked_at hp he h150), if_pos rfl]
        have := q3 (by omega)
        omega
    · rw [at4_other hkj]
      obtain ⟨p1', p2', p3'⟩ := h5 k hk hdk
      refine ⟨p1', p2', fun h150 => ?_⟩
      by_cases he : i = 149
      · rw [turns_149 he]; have := lpos_le c (xs k); have := und_le n dn; omega
      · rw [turns_next hn hk j (picked_at hp he h150), if_neg hkj]
        exact p3' (by omega)
  | laid _ _ i1 p1 p2 p3 =>
    refine ⟨(fun q => by cases q), fun _ => ⟨by rw [p3], by rw [p3]; simp only; omega, ?_⟩⟩
    have hv : ((lX j).value.toNat : Int) = 10 + j := by simp only [lX]; omega
    rw [p3]
    refine ⟨_, st + 1, _, i1, h2.lay (v := (lX j).value.toNat) (by omega), by omega, by omega, by simp only; omega, hv.symm, fun k hk hdk => ?_⟩
    have hu := und_done hn.2 hj hd
    by_cases hkj : k = j
    · rw [hkj, at4_same] at hdk; cases hdk
    · rw [at4_other hkj] at hdk ⊢
      obtain ⟨p1', p2', p3'⟩ := h5 k hk hdk
      refine ⟨p1', p2', fun h150 => ?_⟩
      have := lpos_any c (lX j).value.toNat (xs k)
      by_cases he : i = 149
      · rw [turns_149 he]; have := lpos_le (lX j).value.toNat (xs k); have := und_le n dn; omega
      · rw [turns_next hn hk j (picked_at hp he h150), if_neg hkj]
        have := p3' (by omega)
        omega
  | told _ _ i1 p1 p2 => exact absurd p1 q2

theorem LastInv.final {n : Nat} {m : Mem} {xs : Nat → Access} {dn : Nat → Bool} {last want : Int} (h : LastInv n 400 m xs dn last want) (hn : 1 ≤ n ∧ n ≤ 4) :
    (∀ k, k < n → dn k = true) ∧ (Access.loop cD 0 200 m (Access.new ⟨1, 65536, 0, 0, 0⟩ false)).1.out.value = want := by
  obtain ⟨g, st, c, h1, h2, h3, h4, hls, hw, h5⟩ := h.out
  refine ⟨fun k hk => ?_, by rw [word_read h1 h2, hw]⟩
  cases hd : dn k
  · exfalso
    obtain ⟨_, _, q⟩ := h5 k hk hd
    have := q (by omega)
    have h2 : turns n k 150 + 250 / 4 ≤ turns n k 400 := turns_many hn hk 150 250
    omega
  · rfl

/-! ### AccessCounts -/

def cX (o : Int) : Want := if o < 0 then ⟨1, 65536, 0, 0, 0⟩ else ⟨3, 65536, 0, o + 1, o⟩
theorem cX_plain {o : Int} (h : o ≤ 100000) : (cX o).plain := by
  unfold cX; split
  · exact ⟨rfl, rfl, by simp, by simp, by simp⟩
  · exact ⟨rfl, rfl, by simp, by simp only; omega, by simp only; omega⟩

structure CountInv (i : Nat) (m : Mem) (who : Nat → Option Access) (old : Nat → Int) (did : Int) : Prop where
  out : ∃ (g : Int → Nat) (st : Int) (c : Nat), m.Is 64 g st ∧ WordG g c ∧ 0 ≤ st ∧ st ≤ 100 + i ∧ did = c ∧ c ≤ i ∧
    (∀ k, k < 3 → -1 ≤ old k ∧ old k ≤ c) ∧ (∀ k a, k < 3 → who k = some a → AccAt (cX (old k)) a ∧ ((a.pc = 5 ∨ a.pc = 6) → a.cell ≤ c))

theorem CountInv.steps {i : Nat} {m : Mem} {who : Nat → Option Access} {old : Nat → Int} {did : Int} (h : CountInv i m who old did) : 0 ≤ m.steps ∧ m.steps ≤ 100 + i := by
  obtain ⟨g, st, c, h1, h2, h3, h4, _⟩ := h.out
  rw [h1.steps]; omega
theorem CountInv.small {i : Nat} {m : Mem} {who : Nat → Option Access} {old : Nat → Int} {did : Int} (h : CountInv i m who old did) : 0 ≤ did ∧ did ≤ i ∧ ∀ k, k < 3 → -1 ≤ old k ∧ old k ≤ i := by
  obtain ⟨g, st, c, h1, h2, h3, h4, h5, h6, h7, _⟩ := h.out
  refine ⟨by omega, by omega, fun k hk => ?_⟩
  have := h7 k hk; omega
theorem cX_idx (o : Int) : (cX o).index = 0 := by unfold cX; split <;> rfl
theorem CountInv.idx {i : Nat} {m : Mem} {who : Nat → Option Access} {old : Nat → Int} {did : Int} (h : CountInv i m who old did) {k : Nat} {a : Access} (hk : k < 3) (hw : who k = some a) : a.okIdx := by
  obtain ⟨g, st, c, h1, h2, h3, h4, h5, h6, h7, h8⟩ := h.out
  exact (h8 k a hk hw).1.idx (cX_idx _)

theorem CountInv.start : CountInv 0 eA.2 (fun _ => none) (fun _ => -1) 0 := by
  obtain ⟨g, st, h1, h2, h3, h4, h5, h6⟩ := eA_is
  exact ⟨g, st, 0, h1, ⟨h4, h5, h6, by omega⟩, h2, by omega, rfl, by omega, fun k _ => by omega, fun k a _ q => by cases q⟩

/-- Somebody begins. -/
theorem CountInv.new {i : Nat} {m : Mem} {who : Nat → Option Access} {old : Nat → Int} {did : Int} (h : CountInv i m who old did) (j : Nat) : CountInv i m (at4 who j (some (Access.new (cX (old j)) false))) old did := by
  obtain ⟨g, st, c, h1, h2, h3, h4, h5, h6, h7, h8⟩ := h.out
  refine ⟨g, st, c, h1, h2, h3, h4, h5, h6, h7, fun k a hk hw => ?_⟩
  by_cases hkj : k = j
  · subst hkj
    rw [at4_same] at hw
    cases hw
    exact ⟨.new _, fun q => by simp [Access.new] at q⟩
  · rw [at4_other hkj] at hw; exact h8 k a hk hw
theorem CountInv.later {i : Nat} {m : Mem} {who : Nat → Option Access} {old : Nat → Int} {did : Int} (h : CountInv i m who old did) (i' : Nat) (hi : i ≤ i') : CountInv i' m who old did := by
  obtain ⟨g, st, c, h1, h2, h3, h4, h5, h6, h7, h8⟩ := h.out
  exact ⟨g, st, c, h1, h2, h3, by omega, h5, by omega, h7, h8⟩

/-- What a turn comes to: it goes on; one is laid; a value is told. -/
theorem CountInv.step {i : Nat} {m : Mem} {who : Nat → Option Access} {old : Nat → Int} {did : Int} {j : Nat} {a : Access} (h : CountInv i m who old did) (hi : i ≤ 10000) (hj : j < 3) (hw : who j = some a) :
    ((a.step cD 0 m).1 = false → CountInv (i + 1) (a.step cD 0 m).2.2 (at4 who j (some (a.step cD 0 m).2.1)) old did) ∧
    ((a.step cD 0 m).1 = true → (old j ≥ 0 ∧ (a.step cD 0 m).2.1.out.e = 0 ∧ (∀ o, -1 ≤ o → o ≤ old j → CountInv (i + 1) (a.step cD 0 m).2.2 (at4 who j none) (at4 old j o) (did + 1))) ∨
      ((old j < 0 ∧ (a.step cD 0 m).2.1.out.e = 0 ∨ old j ≥ 0 ∧ (a.step cD 0 m).2.1.out.e = 8) ∧ CountInv (i + 1) (a.step cD 0 m).2.2 (at4 who j none) (at4 old j (a.step cD 0 m).2.1.out.value) did ∧ CountInv (i + 1) (a.step cD 0 m).2.2 (at4 who j none) old did)) := by
  obtain ⟨g, st, c, h1, h2, h3, h4, h5, h6, h7, h8⟩ := h.out
  obtain ⟨q1, q2⟩ := h8 j a hj hw
  have hold := h7 j hj
  obtain ⟨b, a', m', e, R⟩ := acc_step h1 h2 (cX_plain (o := old j) (by omega)) q1
  rw [e]
  simp only
  cases R with
  | more _ _ i1 t1 p1 =>
    refine ⟨fun _ => ?_, fun q => by cases q⟩
    refine ⟨g, st + 1, c, i1, h2, by omega, by omega, h5, by omega, h7, fun k b hk hb => ?_⟩
    by_cases hkj : k = j
    · subst hkj
      rw [at4_same] at hb
      cases hb
      exact ⟨t1, fun q => by omega⟩
    · rw [at4_other hkj] at hb; exact h8 k b hk hb
  | laid _ _ i1 p1 p2 p3 =>
    refine ⟨(fun q => by cases q), fun _ => Or.inl ?_⟩
    have h5k := q1.five p1
    have hge : old j ≥ 0 := by
      by_cases hn : old j < 0
      · simp [cX, hn] at h5k
      · omega
    have hcx : cX (old j) = ⟨3, 65536, 0, old j + 1, old j⟩ := by unfold cX; rw [if_neg (by omega)]
    rw [hcx] at h5k i1
    have hco : (c : Int) = old j := by simp at h5k; omega
    refine ⟨hge, by rw [p3], fun o ho1 ho2 => ⟨_, st + 1, _, i1, h2.lay (v := (old j + 1).toNat) (by omega), by omega, by omega, by omega, by omega, fun k hk => ?_, fun k b hk hb => ?_⟩⟩
    · by_cases hkj : k = j
      · rw [hkj, at4_same]; omega
      · rw [at4_other hkj]; have := h7 k hk; omega
    · by_cases hkj : k = j
      · rw [hkj, at4_same] at hb; cases hb
      · rw [at4_other hkj] at hb ⊢
        have := h8 k b hk hb
        exact ⟨this.1, fun q => by have := this.2 q; omega⟩
  | told _ _ i1 p1 p2 =>
    refine ⟨(fun q => by cases q), fun _ => Or.inr ?_⟩
    have hcc := q2 (Or.inr p1)
    rw [p2]
    have rest : ∀ o : Int, -1 ≤ o → o ≤ (c : Int) → CountInv (i + 1) m' (at4 who j none) (at4 old j o) did := by
      intro o ho1 ho2
      refine ⟨_, st + 1, _, i1, h2, by omega, by omega, h5, by omega, fun k hk => ?_, fun k b hk hb => ?_⟩
      · by_cases hkj : k = j
        · rw [hkj, at4_same]; omega
        · rw [at4_other hkj]; exact h7 k hk
      · by_cases hkj : k = j
        · rw [hkj, at4_same] at hb; cases hb
        · rw [at4_other hkj] at hb ⊢; exact h8 k b hk hb
    refine ⟨?_, rest _ (by simp only; omega) (by simp only; omega), ?_⟩
    · by_cases hn : old j < 0
      · exact Or.inl ⟨hn, by simp [cX, hn]⟩
      · exact Or.inr ⟨by omega, by simp [cX, hn]⟩
    · have := rest (old j) hold.1 hold.2
      have e : at4 old j (old j) = old := by
        funext k; by_cases hkj : k = j
        · rw [hkj, at4_same]
        · exact at4_other hkj
      rwa [e] at this

theorem CountInv.final {i : Nat} {m : Mem} {who : Nat → Option Access} {old : Nat → Int} {did : Int} (h : CountInv i m who old did) :
    (Access.loop cD 0 200 m (Access.new ⟨1, 65536, 0, 0, 0⟩ false)).1.out.value = did := by
  obtain ⟨g, st, c, h1, h2, h3, h4, h5, _⟩ := h.out
  rw [word_read h1 h2, h5]

end Go.Proofs.Ythblhgappldcjaa.Fl
