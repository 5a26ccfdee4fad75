/- What an arena is like in which objects are made and let go, alone: plain laws. No program in sight. -/
import Derived.Test.YthblhgappldcjaaPd
namespace Go.Proofs.Ythblhgappldcjaa.Fl
set_option linter.unusedVariables false

theorem Shut.congr {c : Cfg} {g g' : Int → Nat} {cl : Int} (h : Shut c g cl) (ho : g' (pOpen cl) = g (pOpen cl)) (hc : ∀ j, 0 ≤ j → j < c.chunks → g' (pChunk c j) = g (pChunk c j)) : Shut c g' cl := by
  unfold Shut at *
  rw [ho]
  rcases h with p3 | ⟨q1, q2, q3⟩
  · exact Or.inl p3
  · refine Or.inr ⟨q1, q2, ?_⟩
    rw [hc _ (by omega) (by omega)]; exact q3

theorem topOf_putTop1 {s n : Int} (h : -1 ≤ s ∧ s ≤ 65535) : (topOf (putTop s n)).1 = s := by
  simp only [topOf, putTop]
  rw [fit_eq (by omega) (by omega)]
  generalize fit n 68719476735 = f
  omega

/-- The words after nothing was made, because there was no room. -/
def roomG (c : Cfg) (g : Int → Nat) (s : Int) : Int → Nat :=
  let T := putTop (topOf (g (pSlot c s + 1))).1 ((topOf (g 1)).2 + 1)
  upd (upd (upd g 1 T) (pSlot c s + 1) (putTop (topOf T).1 0)) 1 (putTop s ((topOf T).2 + 1))

theorem Alloc.noRoom {c : Cfg} {who : Int} {L st : Int} {g : Int → Nat} {m : Mem} {size : Int} {own : Bool} {s : Int}
    (sh : Shape c L) (hm : m.Is L g st) (hb : 0 ≤ st ∧ st + 200 < 4611686018427387904) (hz : 1 ≤ size ∧ size ≤ 16) (hs : (topOf (g 1)).1 = s) (hs0 : 0 ≤ s ∧ s < c.slots) (hx : Shut c g (cls size)) (hfull : ∀ j, 0 ≤ j → j < c.chunks → (chunkOf (g (pChunk c j))).state ≠ 0) :
    ∃ a' m' st', Alloc.loop c who 400 m (Alloc.new size own) = (a', m') ∧ Alloc.safe c who 400 m (Alloc.new size own) ∧ a'.out.e = 6 ∧ a'.out.handle = 0 ∧ m'.Is L (roomG c g s) st' ∧ st < st' ∧ st' ≤ st + 80 := by
  have hcr := cls_room hz
  have hbase := sh.base (k := c.chunks - 1) (u := 0) (n := 0) (by have := sh.k; omega) (by omega) (by have := sh.w; omega)
  have hin1 : 0 ≤ pSlot c s ∧ pSlot c s + 1 < pChunk c (c.chunks - 1) ∧ pChunk c (c.chunks - 1) < L ∧ 5 < pSlot c s := by have := sh.t; have := sh.s; have := sh.k; simp only [pSlot, pChunk, pBase] at *; omega
  have hop : 1 < pOpen (cls size) ∧ pOpen (cls size) < pSlot c s := by have := sh.t; simp only [pOpen, pSlot] at *; omega
  obtain ⟨m4, tk, t4, h4⟩ := Alloc.takes (who := who) (own := own) sh hm (by omega) hz hs hs0
  unfold roomG
  simp only
  generalize putTop (topOf (g (pSlot c s + 1))).1 ((topOf (g 1)).2 + 1) = T at *
  have o1 : ∀ j, 0 ≤ j → j < c.chunks → upd g 1 T (pChunk c j) = g (pChunk c j) := fun j p1 p2 => upd_other (by have := sh.t; have := sh.s; simp only [pChunk]; omega)
  have hx' := hx.congr (g' := upd g 1 T) (upd_other (by omega)) o1
  have hfull' : ∀ j, 0 ≤ j → j < c.chunks → (chunkOf (upd g 1 T (pChunk c j))).state ≠ 0 := fun j p1 p2 => by rw [o1 j p1 p2]; exact hfull j p1 p2
  generalize hg1 : upd g 1 T = g1 at *
  generalize hgen : (slotOf (g (pSlot c s))).gen = gen at *
  obtain ⟨j1, m5, w1, hj1, t5, h5⟩ := Alloc.shut (who := who) (size := size) (own := own) (tk := tk) (s := s) (gen := gen) (at_ := 0) (opn := 0) (w := 0) (sp := ⟨0, 0⟩) (spot := ⟨0, 0⟩) (ok := false) (gv := ⟨0, 0, 0⟩) (out := ⟨0, 0, 0, 0⟩) sh h4 (by omega) ⟨hcr.1, hcr.2.1⟩ (by omega) hx'
  obtain ⟨m6, w2, t6, h6⟩ := Alloc.search (who := who) (size := size) (own := own) (tk := tk) (s := s) (gen := gen) (cl := cls size) (opn := g1 (pOpen (cls size))) (sp := ⟨0, 0⟩) (spot := ⟨0, 0⟩) (ok := false) (gv := ⟨0, 0, 0⟩) (out := ⟨0, 0, 0, 0⟩) sh (c.chunks - 1) (by have := sh.k; omega) (c.chunks - 1).toNat 0 w1 m5 _ (by have := sh.k; omega) (by omega) (fun j p1 p2 => hfull' j p1 (by omega)) h5 (by have := sh.k; omega)
  obtain ⟨m7, e7, h7⟩ := h6.load who (a := pChunk c (c.chunks - 1)) (by omega)
  have hne := hfull' (c.chunks - 1) (by have := sh.k; omega) (by omega)
  have s7 : Alloc.step c who m6 ⟨size, own, 2, tk, s, gen, ⟨cls size, 3, g1 (pOpen (cls size)), c.chunks - 1, w2, ⟨0, 0⟩, false⟩, ⟨0, 0⟩, ⟨0, 0, 0⟩, ⟨0, 0, 0, 0⟩⟩ = (false, ⟨size, own, 7, tk, s, gen, ⟨cls size, 3, g1 (pOpen (cls size)), c.chunks - 1 + 1, g1 (pChunk c (c.chunks - 1)), ⟨0, 0⟩, false⟩, ⟨0, 0⟩, ⟨0, s, 0⟩, ⟨6, 0, 0, m7.steps⟩⟩, m7) := by
    simp [Alloc.step, Place.step, Place.on, e7, hne]
  obtain ⟨m8, e8, h8⟩ := h7.load who (a := 1) (by omega)
  have g11 : g1 1 = T := by rw [← hg1, upd_same]
  rw [g11] at e8
  generalize hp : (⟨cls size, 3, g1 (pOpen (cls size)), c.chunks - 1 + 1, g1 (pChunk c (c.chunks - 1)), ⟨0, 0⟩, false⟩ : Place) = pl at *
  generalize hdn : (⟨6, 0, 0, m7.steps⟩ : Done) = dn at *
  have s8 : Alloc.step c who m7 ⟨size, own, 7, tk, s, gen, pl, ⟨0, 0⟩, ⟨0, s, 0⟩, dn⟩ = (false, ⟨size, own, 7, tk, s, gen, pl, ⟨0, 0⟩, ⟨1, s, T⟩, dn⟩, m8) := by
    simp [Alloc.step, Give.step, e8]
  have h9 := h8.store who (a := pSlot c s + 1) (by omega) (putTop (topOf T).1 0)
  have s9 : Alloc.step c who m8 ⟨size, own, 7, tk, s, gen, pl, ⟨0, 0⟩, ⟨1, s, T⟩, dn⟩ = (false, ⟨size, own, 7, tk, s, gen, pl, ⟨0, 0⟩, ⟨2, s, T⟩, dn⟩, m8.store who (pSlot c s + 1) (putTop (topOf T).1 0)) := by
    simp [Alloc.step, Give.step]
  generalize m8.store who (pSlot c s + 1) (putTop (topOf T).1 0) = m9 at *
  obtain ⟨m10, e10, h10⟩ := h9.cas who (a := 1) (by omega) T (putTop s ((topOf T).2 + 1)) (by rw [upd_other (by omega)]; exact g11)
  have s10 : Alloc.step c who m9 ⟨size, own, 7, tk, s, gen, pl, ⟨0, 0⟩, ⟨2, s, T⟩, dn⟩ = (true, ⟨size, own, 7, tk, s, gen, pl, ⟨0, 0⟩, ⟨0, s, T⟩, dn⟩, m10) := by
    simp [Alloc.step, Give.step, e10]
  have t9 := (((t4.trans (t5.trans t6)).trans (Alloc.To.one (by have := h6.steps; have := sh.k; unfold stepsOk; omega) (by intro _; refine ⟨by simp only; have := sh.k; omega, fun q => by simp at q⟩) s7)).trans (Alloc.To.one (by have := h7.steps; have := sh.k; unfold stepsOk; omega) (by intro q; simp at q) s8)).trans (Alloc.To.one (by have := h8.steps; have := sh.k; unfold stepsOk; omega) (by intro q; simp at q) s9)
  have hlen : 4 + (j1 + (c.chunks - 1).toNat) + 1 + 1 + 1 ≤ 76 := by have := sh.k; omega
  generalize hJ : 4 + (j1 + (c.chunks - 1).toNat) + 1 + 1 + 1 = J at *
  have e400 : 400 = (399 - J) + 1 + J := by omega
  obtain ⟨r1, r2⟩ := t9 (399 - J + 1)
  rw [← e400] at r1 r2
  refine ⟨_, m10, _, r1.trans (by rw [Alloc.loop, s10]; rfl), r2 ⟨by have := h9.steps; have := sh.k; unfold stepsOk; omega, (by intro q; simp at q), fun q => ?_⟩, by rw [← hdn], by rw [← hdn], h10, by omega, by have := sh.k; omega⟩
  rw [s10] at q; simp at q

/-! ### The laws' arenas: of one thread, eight slots, chunks of forty words -/

def cW (K : Int) : Cfg := ⟨1, 8, K, 40, 100, 600, 3⟩
def LW (K : Int) : Int := 23 + 43 * K
theorem shW {K : Int} (h : 1 ≤ K ∧ K ≤ 8) : Shape (cW K) (LW K) := ⟨by simp [cW], by simp [cW], by simp only [cW]; omega, by simp [cW], by simp only [cW, LW, pLen, pBase]; omega⟩
theorem w_slot (K s : Int) : pSlot (cW K) s = 7 + 2 * s := by simp only [pSlot, cW]; omega
theorem w_chunk (K k : Int) : pChunk (cW K) k = 23 + 3 * k := by simp only [pChunk, cW]; omega
theorem w_base (K k : Int) : pBase (cW K) k = 23 + 3 * K + 40 * k := by simp only [pBase, cW]; omega

structure Ob where
  live : Bool
  gen : Int
  addr : Int
  chunk : Int
  size : Int
  own : Bool

def linkTo (g : Int → Nat) : Int → List Int → Prop
  | t, [] => t < 0
  | t, s :: r => t = s ∧ linkTo g (topOf (g (7 + 2 * s + 1))).1 r

theorem linkTo.congr {g g' : Int → Nat} : ∀ {l : List Int} {t : Int}, linkTo g t l → (∀ s, s ∈ l → g' (7 + 2 * s + 1) = g (7 + 2 * s + 1)) → linkTo g' t l
  | [], _, h, _ => h
  | s :: r, t, ⟨h1, h2⟩, he => ⟨h1, by rw [he s (by simp)]; exact h2.congr (fun x hx => he x (by simp [hx]))⟩

structure Ar (K : Int) (g : Int → Nat) (ob : Int → Ob) (fl : List Int) (f : Int) (cl us : Int → Int) : Prop where
  top : linkTo g (topOf (g 1)).1 fl
  nodup : fl.Nodup
  fls : ∀ s, s ∈ fl → 0 ≤ s ∧ s < 8 ∧ (ob s).live = false
  slot : ∀ s, 0 ≤ s → s < 8 → slotOf (g (7 + 2 * s)) = (if (ob s).live = true then ⟨1, (ob s).addr, (ob s).gen, 0⟩ else ⟨0, 0, (ob s).gen, 0⟩) ∧ 1 ≤ (ob s).gen
  head : ∀ s, 0 ≤ s → s < 8 → (ob s).live = true → headOf (g (ob s).addr) = ⟨2, (ob s).size, s, (ob s).gen, (ob s).own⟩ ∧ 1 ≤ (ob s).size ∧ (ob s).size ≤ 16
  spot : ∀ s, 0 ≤ s → s < 8 → (ob s).live = true → 0 ≤ (ob s).chunk ∧ (ob s).chunk < f ∧ 23 + 3 * K + 40 * (ob s).chunk ≤ (ob s).addr ∧ (ob s).addr + room (cls (ob s).size) ≤ 23 + 3 * K + 40 * (ob s).chunk + us (ob s).chunk
  apart : ∀ s t, 0 ≤ s → s < 8 → 0 ≤ t → t < 8 → s ≠ t → (ob s).live = true → (ob t).live = true → (ob s).addr + room (cls (ob s).size) ≤ (ob t).addr ∨ (ob t).addr + room (cls (ob t).size) ≤ (ob s).addr
  opn : ∀ c, 0 ≤ c → c ≤ 3 → g (2 + c) = 0 ∨ ∃ k, 0 ≤ k ∧ k < f ∧ (g (2 + c) : Int) = k + 1 ∧ cl k = c
  ck : ∀ k, 0 ≤ k → k < f → chunkOf (g (23 + 3 * k)) = ⟨1, cl k, us k, 1⟩ ∧ 0 ≤ us k ∧ us k ≤ 40
  free : ∀ k, f ≤ k → k < K → chunkOf (g (23 + 3 * k)) = ⟨0, 0, 0, 0⟩
  zero : ∀ k a, 0 ≤ k → k < K → 23 + 3 * K + 40 * k + (if k < f then us k else 0) ≤ a → a < 23 + 3 * K + 40 * (k + 1) → g a = 0
  most : 0 ≤ f ∧ f ≤ K

def Arena (K : Int) (g : Int → Nat) (ob : Int → Ob) : Prop := ∃ fl f cl us, Ar K g ob fl f cl us

def ob0 : Int → Ob := fun _ => ⟨false, 1, 0, 0, 0, false⟩
def atI {α : Type} (f : Int → α) (k : Int) (v : α) : Int → α := fun j => if j = k then v else f j
theorem atI_same {α : Type} (f : Int → α) (k : Int) (v : α) : atI f k v k = v := by simp [atI]
theorem atI_other {α : Type} {f : Int → α} {k j : Int} {v : α} (h : j ≠ k) : atI f k v j = f j := by simp [atI, h]

theorem freshW (K : Int) (b : Int) : freshG (cW K) b = if b = 1 then 1 else if b = 22 then 0 else if 7 ≤ b ∧ b < 23 then (if (b - 7) % 2 = 0 then putSlot ⟨0, 0, 1, 0⟩ else putTop ((b - 7) / 2 + 1) 0) else 0 := by
  have e1 : putTop 0 0 = 1 := by decide
  have e2 : putTop (-1) 0 = 0 := by decide
  simp only [freshG, upd, slotG, e1, e2, pSlot, cW]
  rfl

theorem Arena.fresh {K : Int} (hK : 1 ≤ K ∧ K ≤ 8) : Arena K (freshG (cW K)) ob0 := by
  refine ⟨[0, 1, 2, 3, 4, 5, 6, 7], 0, fun _ => 0, fun _ => 0, ⟨?_, by decide, fun s hs => ?_, fun s h0 h1 => ⟨?_, by simp [ob0]⟩, fun s h0 h1 h => by simp [ob0] at h, fun s h0 h1 h => by simp [ob0] at h, fun s t _ _ _ _ _ h => by simp [ob0] at h, fun c h0 h1 => Or.inl ?_, fun k h0 h1 => by omega, fun k h0 h1 => ?_, fun k a h0 h1 h2 h3 => ?_, by omega⟩⟩
  · have t1 : topOf (freshG (cW K) 1) = (0, 0) := by rw [freshW]; decide
    have tl : ∀ s, 0 ≤ s → s < 7 → (topOf (freshG (cW K) (7 + 2 * s + 1))).1 = s + 1 := by
      intro s h0 h1
      rw [freshW, if_neg (by omega), if_neg (by omega), if_pos (by omega), if_neg (by omega)]
      rw [topOf_putTop (by omega)]; simp only; omega
    have t8 : (topOf (freshG (cW K) (7 + 2 * 7 + 1))).1 = -1 := by rw [freshW]; decide
    simp only [linkTo, t1]
    refine ⟨trivial, ?_, ?_, ?_, ?_, ?_, ?_, ?_, ?_⟩
    · rw [tl 0 (by omega) (by omega)]; rfl
    · rw [tl 1 (by omega) (by omega)]; rfl
    · rw [tl 2 (by omega) (by omega)]; rfl
    · rw [tl 3 (by omega) (by omega)]; rfl
    · rw [tl 4 (by omega) (by omega)]; rfl
    · rw [tl 5 (by omega) (by omega)]; rfl
    · rw [tl 6 (by omega) (by omega)]; rfl
    · rw [t8]; decide
  · simp only [List.mem_cons, List.not_mem_nil, or_false] at hs
    exact ⟨by omega, by omega, rfl⟩
  · rw [freshW, if_neg (by omega), if_neg (by omega), if_pos (by omega), if_pos (by omega)]
    exact (show slotOf (putSlot ⟨0, 0, 1, 0⟩) = ⟨0, 0, 1, 0⟩ by decide)
  · rw [freshW, if_neg (by omega), if_neg (by omega), if_neg (by omega)]
  · rw [freshW, if_neg (by omega), if_neg (by omega), if_neg (by omega)]; decide
  · rw [if_neg (by omega)] at h2
    rw [freshW, if_neg (by omega), if_neg (by omega), if_neg (by omega)]

/-- How many words live, by what chunks say. -/
def tot (g : Int → Nat) : Nat → Int
  | 0 => 0
  | k + 1 => tot g k + (g (23 + 3 * (k : Int) + 1) : Int)

theorem tot_same {g g' : Int → Nat} : ∀ (n : Nat), (∀ k : Int, 0 ≤ k → k < n → g' (23 + 3 * k + 1) = g (23 + 3 * k + 1)) → tot g' n = tot g n
  | 0, _ => rfl
  | n + 1, h => by
    rw [tot, tot, tot_same n (fun k h0 h1 => h k h0 (by omega)), h n (by omega) (by omega)]

theorem tot_add {g g' : Int → Nat} {k d : Int} (hd : -1000 ≤ d ∧ d ≤ 1000) (hk0 : 0 ≤ k) (h1 : g' (23 + 3 * k + 1) = (g (23 + 3 * k + 1) + u64 d) % 18446744073709551616) :
    ∀ (n : Nat), (∀ j : Int, 0 ≤ j → j < n → j ≠ k → g' (23 + 3 * j + 1) = g (23 + 3 * j + 1)) → k < n → tot g' n % 18446744073709551616 = (tot g n + d) % 18446744073709551616
  | 0, _, hk => by omega
  | n + 1, h, hk => by
    by_cases hn : k = n
    · have := tot_same (g := g) (g' := g') n (fun j h0 h1 => h j h0 (by omega) (by omega))
      subst hn
      rw [tot, tot, this, h1]
      have hu : u64 d = (d % 18446744073709551616).toNat := rfl
      omega
    · have ih := tot_add hd hk0 h1 n (fun j h0 h1 h2 => h j h0 (by omega) h2) (by omega)
      rw [tot, tot, h n (by omega) (by omega) (by omega)]
      omega

/-- What making an object comes to. -/
theorem Arena.make {K : Int} {g : Int → Nat} {ob : Int → Ob} {m : Mem} {st : Int} {who : Int} {size : Int} {own : Bool} (hK : 1 ≤ K ∧ K ≤ 8) (A : Arena K g ob) (hm : m.Is (LW K) g st) (hb : 0 ≤ st ∧ st + 200 < 4611686018427387904) (hz : 1 ≤ size ∧ size ≤ 16) :
    ∃ a' m' g' st', Alloc.loop (cW K) who 400 m (Alloc.new size own) = (a', m') ∧ Alloc.safe (cW K) who 400 m (Alloc.new size own) ∧ m'.Is (LW K) g' st' ∧ st < st' ∧ st' ≤ st + 80 ∧
      ((a'.out.e = 0 ∧ ∃ s k A, 0 ≤ s ∧ s < 8 ∧ (ob s).live = false ∧ a'.out.handle = putHandle ⟨s, (ob s).gen⟩ ∧ Arena K g' (atI ob s ⟨true, (ob s).gen, A, k, size, own⟩) ∧
          (∀ i, 1 ≤ i → i ≤ size → g' (A + i) = 0) ∧ (∀ a, 23 + 3 * K ≤ a → a ≠ A → g' a = g a) ∧ tot g' K.toNat % 18446744073709551616 = (tot g K.toNat + room (cls size)) % 18446744073709551616) ∨
       (a'.out.e ≠ 0 ∧ a'.out.handle = 0 ∧ Arena K g' ob ∧ (∀ a, 23 + 3 * K ≤ a → g' a = g a) ∧ tot g' K.toNat = tot g K.toNat)) := by
  obtain ⟨fl, f, cl, us, R⟩ := A
  have hcr := cls_room hz
  have sh := shW hK
  cases fl with
  | nil =>
    obtain ⟨a', m', st', r1, r2, r3, r4, r5, r6⟩ := Alloc.noSlot (c := cW K) (who := who) (own := own) (by simp only [LW]; omega) hm (by omega) hz R.top
    refine ⟨a', m', g, st', r1, r2, r4, r5, r6, Or.inr ⟨by omega, ?_, ⟨_, _, _, _, R⟩, fun _ _ => rfl, rfl⟩⟩
    have hc0 : ¬ (cls size < 0) := by omega
    obtain ⟨m1, e1, h1⟩ := hm.load who (a := 1) (by simp only [LW]; omega)
    have ht := R.top
    simp only [linkTo] at ht
    have s1 : Alloc.step (cW K) who m (Alloc.new size own) = (true, ⟨size, own, 1, ⟨1, g 1, 0, (topOf (g 1)).1, false⟩, 0, 0, Place.new 0, ⟨0, 0⟩, ⟨0, 0, 0⟩, ⟨7, 0, 0, m1.steps⟩⟩, m1) := by
      simp [Alloc.step, Alloc.new, Take.step, hc0, e1, ht]
    rw [Alloc.loop, s1] at r1
    rw [← (Prod.mk.inj r1).1]
  | cons s r =>
    obtain ⟨ht, hr⟩ := R.top
    obtain ⟨hs0, hs8, hsl⟩ := R.fls s (by simp)
    have hnd := R.nodup
    rw [List.nodup_cons] at hnd
    have hlt : s < (cW K).slots := by simp only [cW]; omega
    have hgs := R.slot s hs0 hs8
    rw [hsl] at hgs
    simp only [Bool.false_eq_true, if_false] at hgs
    have hgen : (slotOf (g (pSlot (cW K) s))).gen = (ob s).gen := by rw [w_slot, hgs.1]
    have hop := R.opn (cls size) hcr.1 hcr.2.1
    -- where it goes
    have hwhere : (∃ k used, Fits (cW K) g (cls size) k used 1 (k + 1).toNat ∧ 0 ≤ k ∧ k < K ∧ ((k < f ∧ used = us k ∧ cl k = cls size ∧ us k + room (cls size) ≤ 40) ∨ (k = f ∧ used = 0))) ∨ (Shut (cW K) g (cls size) ∧ f = K) := by
      have hpo : pOpen (cls size) = 2 + cls size := rfl
      have hshut : (∀ k, 0 ≤ k → k < f → (g (2 + cls size) : Int) = k + 1 → us k + room (cls size) > 40) → Shut (cW K) g (cls size) := by
        intro hh
        unfold Shut
        rw [hpo]
        rcases hop with h | ⟨k, k0, k1, k2, k3⟩
        · exact Or.inl h
        · refine Or.inr ⟨by omega, by simp only [cW]; have := R.most; omega, Or.inr (Or.inr ?_)⟩
          rw [w_chunk, show (g (2 + cls size) : Int) - 1 = k by omega, (R.ck k k0 k1).1]
          have := hh k k0 k1 k2
          simp only [cW]; omega
      by_cases hfit : ∃ k, 0 ≤ k ∧ k < f ∧ (g (2 + cls size) : Int) = k + 1 ∧ us k + room (cls size) ≤ 40
      · obtain ⟨k, k0, k1, k2, k3⟩ := hfit
        have hclk : cl k = cls size := by
          rcases hop with h | ⟨k', p0, p1, p2, p3⟩
          · omega
          · have : k' = k := by omega
            rw [← this]; exact p3
        have hm' := R.most
        refine Or.inl ⟨k, us k, ⟨by simp only [cW]; omega, (R.ck k k0 k1).2.1, by simp only [cW]; omega, by omega, Or.inl ⟨by rw [hpo]; omega, by omega, ?_⟩⟩, k0, by omega, Or.inl ⟨k1, rfl, hclk, k3⟩⟩
        rw [w_chunk, (R.ck k k0 k1).1, hclk]
      · have hsh := hshut (fun k k0 k1 k2 => by
          by_cases q : us k + room (cls size) ≤ 40
          · exact absurd ⟨k, k0, k1, k2, q⟩ hfit
          · omega)
        have hm' := R.most
        by_cases hf : f < K
        · refine Or.inl ⟨f, 0, ⟨by simp only [cW]; omega, by omega, by simp only [cW]; omega, by omega, Or.inr ⟨rfl, rfl, hsh, fun j j0 j1 => ?_, ?_, ?_⟩⟩, by omega, hf, Or.inr ⟨rfl, rfl⟩⟩
          · rw [w_chunk, (R.ck j j0 j1).1]; simp
          · rw [w_chunk, R.free f (by omega) hf]
          · rw [w_chunk, R.free f (by omega) hf]; rfl
        · exact Or.inr ⟨hsh, by omega⟩
    rcases hwhere with ⟨k, used, hfits, hk0, hkK, hku⟩ | ⟨hsh, hfK⟩
    · obtain ⟨a', m', st', r1, r2, r3, r4, r5, r6, r7⟩ := Alloc.solo (who := who) (own := own) sh hm hb hz ht ⟨hs0, hlt⟩ hfits
      rw [hgen] at r4
      have hmost := R.most
      have hu0 : 0 ≤ used ∧ used + room (cls size) ≤ 40 := by
        rcases hku with ⟨p1, p2, p3, p4⟩ | ⟨p1, p2⟩
        · have := (R.ck k hk0 p1).2; omega
        · omega
      have hzu : used = if k < f then us k else 0 := by
        rcases hku with ⟨p1, p2, p3, p4⟩ | ⟨p1, p2⟩
        · rw [if_pos p1]; exact p2
        · rw [if_neg (by omega)]; exact p2
      -- its words
      have hG : ∀ b, madeG (cW K) g s size own k used 1 (k + 1).toNat b = if b = 23 + 3 * K + 40 * k + used then putHead ⟨2, size, s, (ob s).gen, own⟩ else if b = 7 + 2 * s then putSlot ⟨1, 23 + 3 * K + 40 * k + used, (ob s).gen, 0⟩ else if b = 23 + 3 * k + 1 then (g b + u64 (room (cls size))) % 18446744073709551616 else if b = 23 + 3 * k then putChunk ⟨1, cls size, used + room (cls size), 1⟩ else if b = 2 + cls size then (k + 1).toNat else if b = 1 then putTop (topOf (g (7 + 2 * s + 1))).1 ((topOf (g 1)).2 + 1) else g b := by
        intro b
        simp only [madeG, w_slot, w_chunk, w_base, hgs.1]
        rfl
      generalize madeG (cW K) g s size own k used 1 (k + 1).toNat = g' at *
      have hgr : 1 ≤ (ob s).gen ∧ (ob s).gen ≤ 65535 := by
        refine ⟨hgs.2, ?_⟩
        have := slotOf_range (g (7 + 2 * s)); rw [hgs.1] at this; simp only at this; omega
      generalize hA : 23 + 3 * K + 40 * k + used = AD at *
      have g1 : g' 1 = putTop (topOf (g (7 + 2 * s + 1))).1 ((topOf (g 1)).2 + 1) := by rw [hG, if_neg (by omega), if_neg (by omega), if_neg (by omega), if_neg (by omega), if_neg (by omega), if_pos rfl]
      have gsl : ∀ t, 0 ≤ t → t < 8 → t ≠ s → g' (7 + 2 * t) = g (7 + 2 * t) := fun t t0 t1 hts => by rw [hG, if_neg (by omega), if_neg (by omega), if_neg (by omega), if_neg (by omega), if_neg (by omega), if_neg (by omega)]
      have gln : ∀ t, 0 ≤ t → t < 8 → g' (7 + 2 * t + 1) = g (7 + 2 * t + 1) := fun t t0 t1 => by rw [hG, if_neg (by omega), if_neg (by omega), if_neg (by omega), if_neg (by omega), if_neg (by omega), if_neg (by omega)]
      have gs : g' (7 + 2 * s) = putSlot ⟨1, AD, (ob s).gen, 0⟩ := by rw [hG, if_neg (by omega), if_pos rfl]
      have gck : ∀ j, 0 ≤ j → j < K → j ≠ k → g' (23 + 3 * j) = g (23 + 3 * j) := fun j j0 j1 hjk => by rw [hG, if_neg (by omega), if_neg (by omega), if_neg (by omega), if_neg (by omega), if_neg (by omega), if_neg (by omega)]
      have gckk : g' (23 + 3 * k) = putChunk ⟨1, cls size, used + room (cls size), 1⟩ := by rw [hG, if_neg (by omega), if_neg (by omega), if_neg (by omega), if_pos rfl]
      have glv : ∀ j, 0 ≤ j → j < K → j ≠ k → g' (23 + 3 * j + 1) = g (23 + 3 * j + 1) := fun j j0 j1 hjk => by rw [hG, if_neg (by omega), if_neg (by omega), if_neg (by omega), if_neg (by omega), if_neg (by omega), if_neg (by omega)]
      have glvk : g' (23 + 3 * k + 1) = (g (23 + 3 * k + 1) + u64 (room (cls size))) % 18446744073709551616 := by rw [hG, if_neg (by omega), if_neg (by omega), if_pos rfl]
      have gba : ∀ a, 23 + 3 * K ≤ a → a ≠ AD → g' a = g a := fun a a0 ha => by rw [hG, if_neg ha, if_neg (by omega), if_neg (by omega), if_neg (by omega), if_neg (by omega), if_neg (by omega)]
      have gA : g' AD = putHead ⟨2, size, s, (ob s).gen, own⟩ := by rw [hG, if_pos rfl]
      have gop : ∀ c, 0 ≤ c → c ≤ 3 → c ≠ cls size → g' (2 + c) = g (2 + c) := fun c c0 c1 hc => by rw [hG, if_neg (by omega), if_neg (by omega), if_neg (by omega), if_neg (by omega), if_neg (by omega), if_neg (by omega)]
      have gopc : g' (2 + cls size) = (k + 1).toNat := by rw [hG, if_neg (by omega), if_neg (by omega), if_neg (by omega), if_neg (by omega), if_pos rfl]
      have hf' : ∀ j, j < (if k < f then f else f + 1) ↔ (j < f ∨ j = k) := by
        intro j
        rcases hku with ⟨p1, _⟩ | ⟨p1, _⟩
        · rw [if_pos p1]; omega
        · rw [if_neg (by omega)]; omega
      refine ⟨a', m', g', st', r1, r2, r5, r6, r7, Or.inl ⟨r3, s, k, AD, hs0, hs8, hsl, r4, ⟨r, if k < f then f else f + 1, atI cl k (cls size), atI us k (used + room (cls size)), ?_⟩, fun i i0 i1 => ?_, gba, ?_⟩⟩
      · have liveT : ∀ t, t ≠ s → atI ob s ⟨true, (ob s).gen, AD, k, size, own⟩ t = ob t := fun t h => atI_other h
        have liveS : atI ob s ⟨true, (ob s).gen, AD, k, size, own⟩ s = ⟨true, (ob s).gen, AD, k, size, own⟩ := atI_same ..
        have hother : ∀ t, 0 ≤ t → t < 8 → (ob t).live = true → (ob t).addr ≠ AD ∧ ((ob t).addr + room (cls (ob t).size) ≤ AD ∨ AD + room (cls size) ≤ (ob t).addr) := by
          intro t t0 t1 hl
          obtain ⟨q1, q2, q3, q4⟩ := R.spot t t0 t1 hl
          have hz' := R.head t t0 t1 hl
          have hcr' := cls_room hz'.2
          have := (R.ck _ q1 q2).2
          by_cases hc : (ob t).chunk = k
          · rw [hc] at q2 q3 q4
            rw [if_pos q2] at hzu
            omega
          · have hlt : (ob t).chunk < k ∨ k < (ob t).chunk := by omega
            rcases hku with ⟨p1, _⟩ | ⟨p1, _⟩ <;> omega
        refine ⟨?_, hnd.2, fun t ht' => ?_, fun t t0 t1 => ?_, fun t t0 t1 hl => ?_, fun t t0 t1 hl => ?_, fun t u t0 t1 u0 u1 htu hl hl' => ?_, fun c c0 c1 => ?_, fun j j0 j1 => ?_, fun j j0 j1 => ?_, fun j a j0 j1 ha hb => ?_, ?_⟩
        · have hx := topOf_range (g (7 + 2 * s + 1))
          rw [g1]
          have e : (topOf (putTop (topOf (g (7 + 2 * s + 1))).1 ((topOf (g 1)).2 + 1))).1 = (topOf (g (7 + 2 * s + 1))).1 ∨ (8 ≤ (topOf (g (7 + 2 * s + 1))).1) := by
            by_cases h8 : 8 ≤ (topOf (g (7 + 2 * s + 1))).1
            · exact Or.inr h8
            · exact Or.inl (topOf_putTop1 (by omega))
          rcases e with e | e
          · rw [e]; exact hr.congr (fun t ht' => gln t (R.fls t (by simp [ht'])).1 (R.fls t (by simp [ht'])).2.1)
          · exfalso
            cases r with
            | nil => simp only [linkTo] at hr; omega
            | cons x r => have := R.fls x (by simp); have := hr.1; omega
        · have := R.fls t (by simp [ht'])
          have hts : t ≠ s := fun e => hnd.1 (e ▸ ht')
          rw [liveT t hts]; exact this
        · by_cases hts : t = s
          · subst hts; rw [liveS, gs]; exact ⟨slotOf_putSlot (by simp only; omega), hgr.1⟩
          · rw [liveT t hts, gsl t t0 t1 hts]; exact R.slot t t0 t1
        · by_cases hts : t = s
          · subst hts; rw [liveS]; simp only; rw [gA]; exact ⟨headOf_putHead (by simp only; omega), hz⟩
          · rw [liveT t hts] at hl ⊢
            obtain ⟨q1, q2, q3, q4⟩ := R.spot t t0 t1 hl
            rw [gba _ (by omega) (hother t t0 t1 hl).1]; exact R.head t t0 t1 hl
        · by_cases hts : t = s
          · subst hts; rw [liveS]; simp only; rw [atI_same]
            exact ⟨hk0, (hf' k).2 (Or.inr rfl), by omega, by omega⟩
          · rw [liveT t hts] at hl ⊢
            obtain ⟨q1, q2, q3, q4⟩ := R.spot t t0 t1 hl
            refine ⟨q1, (hf' _).2 (Or.inl q2), q3, ?_⟩
            by_cases hc : (ob t).chunk = k
            · rw [hc] at q2 q4 ⊢
              rw [if_pos q2] at hzu
              rw [atI_same]; omega
            · rw [atI_other hc]; exact q4
        · by_cases hts : t = s
          · subst hts
            rw [liveS, liveT u (Ne.symm htu)] at *
            have := (hother u u0 u1 hl').2
            simp only; omega
          · by_cases hus : u = s
            · subst hus
              rw [liveS, liveT t hts] at *
              have := (hother t t0 t1 hl).2
              simp only; omega
            · rw [liveT t hts, liveT u hus] at *
              exact R.apart t u t0 t1 u0 u1 htu hl hl'
        · by_cases hc : c = cls size
          · subst hc
            refine Or.inr ⟨k, hk0, (hf' k).2 (Or.inr rfl), by rw [gopc]; omega, atI_same ..⟩
          · rw [gop c c0 c1 hc]
            rcases R.opn c c0 c1 with h | ⟨j, j0, j1, j2, j3⟩
            · exact Or.inl h
            · refine Or.inr ⟨j, j0, (hf' j).2 (Or.inl j1), j2, ?_⟩
              have hjk : j ≠ k := by
                rintro rfl
                rcases hku with ⟨_, _, p3, _⟩ | ⟨p1, _⟩
                · exact hc (j3.symm.trans p3)
                · omega
              rw [atI_other hjk]; exact j3
        · by_cases hjk : j = k
          · subst hjk
            rw [gckk, atI_same, atI_same]
            exact ⟨chunkOf_putChunk (by simp only; omega), by omega, by omega⟩
          · rw [gck j j0 (by rcases (hf' j).1 j1 with h | h <;> omega) hjk, atI_other hjk, atI_other hjk]
            exact R.ck j j0 (by rcases (hf' j).1 j1 with h | h <;> omega)
        · have hjf : ¬ (j < f ∨ j = k) := fun h => by have := (hf' j).2 h; omega
          rw [gck j (by omega) j1 (by omega)]; exact R.free j (by omega) j1
        · have hz0 := R.zero j a j0 j1
          by_cases hjk : j = k
          · subst hjk
            rw [if_pos ((hf' j).2 (Or.inr rfl)), atI_same] at ha
            rw [gba a (by omega) (by omega)]
            exact hz0 (by rw [← hzu]; omega) hb
          · rw [atI_other hjk] at ha
            have e : (if j < (if k < f then f else f + 1) then us j else 0) = if j < f then us j else 0 := by
              by_cases hjf : j < f
              · rw [if_pos ((hf' j).2 (Or.inl hjf)), if_pos hjf]
              · rw [if_neg (fun h => by rcases (hf' j).1 h with h | h <;> omega), if_neg hjf]
            rw [e] at ha
            have hu : 0 ≤ (if j < f then us j else 0) := by
              split
              · exact (R.ck j j0 (by assumption)).2.1
              · omega
            have hlt : j < k ∨ k < j := by omega
            rw [gba a (by omega) (by omega)]
            exact hz0 ha hb
        · rcases hku with ⟨p1, _⟩ | ⟨p1, _⟩
          · rw [if_pos p1]; exact hmost
          · rw [if_neg (by omega)]; omega
      · rw [gba _ (by omega) (by omega)]
        exact R.zero k (AD + i) hk0 hkK (by rw [← hzu]; omega) (by omega)
      · exact tot_add (k := k) (by omega) hk0 glvk K.toNat (fun j j0 j1 hjk => glv j j0 (by omega) hjk) (by omega)
    · obtain ⟨a', m', st', r1, r2, r3, r4, r5, r6, r7⟩ := Alloc.noRoom (who := who) (own := own) sh hm hb hz ht ⟨hs0, hlt⟩ hsh (fun j j0 j1 => by
        rw [w_chunk, (R.ck j j0 (by simp only [cW] at j1; omega)).1]; simp)
      have hG : ∀ b, b ≠ 1 → b ≠ 7 + 2 * s + 1 → roomG (cW K) g s b = g b := fun b b1 b2 => by
        simp only [roomG, w_slot]; rw [upd_other b1, upd_other b2, upd_other b1]
      have hx := topOf_range (g (7 + 2 * s + 1))
      have hnx : (topOf (g (7 + 2 * s + 1))).1 ≤ 7 := by
        cases r with
        | nil => simp only [linkTo] at hr; omega
        | cons x r => have := R.fls x (by simp); have := hr.1; omega
      have n1 : 7 + 2 * s + 1 ≠ 1 := by omega
      have n2 : -1 ≤ (topOf (g (7 + 2 * s + 1))).1 ∧ (topOf (g (7 + 2 * s + 1))).1 ≤ 65535 := by omega
      have hT : (topOf (putTop (topOf (g (7 + 2 * s + 1))).1 ((topOf (g 1)).2 + 1))).1 = (topOf (g (7 + 2 * s + 1))).1 := topOf_putTop1 (by omega)
      have hg1 : (topOf (roomG (cW K) g s 1)).1 = s := by
        simp only [roomG, w_slot, upd_same]
        exact topOf_putTop1 (by omega)
      have hgl : (topOf (roomG (cW K) g s (7 + 2 * s + 1))).1 = (topOf (g (7 + 2 * s + 1))).1 := by
        simp only [roomG, w_slot]
        rw [upd_other n1, upd_same, hT, topOf_putTop1 n2]
      generalize roomG (cW K) g s = g' at *
      refine ⟨a', m', g', st', r1, r2, r5, r6, r7, Or.inr ⟨by omega, r4, ⟨s :: r, f, cl, us, ?_⟩, fun a a0 => hG a (by omega) (by omega), tot_same _ (fun j j0 j1 => hG _ (by omega) (by omega))⟩⟩
      refine ⟨?_, R.nodup, R.fls, fun t t0 t1 => by rw [hG _ (by omega) (by omega)]; exact R.slot t t0 t1, fun t t0 t1 hl => ?_, R.spot, R.apart, fun c c0 c1 => by rw [hG _ (by omega) (by omega)]; exact R.opn c c0 c1, fun j j0 j1 => by rw [hG _ (by omega) (by omega)]; exact R.ck j j0 j1, fun j j0 j1 => by have := R.most; rw [hG _ (by omega) (by omega)]; exact R.free j j0 j1, fun j a j0 j1 ha hb => ?_, R.most⟩
      · refine ⟨hg1, ?_⟩
        rw [hgl]
        exact hr.congr (fun t ht' => hG _ (by omega) (by
          have hts : t ≠ s := fun e => hnd.1 (e ▸ ht')
          omega))
      · have := R.spot t t0 t1 hl
        rw [hG _ (by omega) (by omega)]; exact R.head t t0 t1 hl
      · have hu : 0 ≤ (if j < f then us j else 0) := by
          split
          · exact (R.ck j j0 (by assumption)).2.1
          · omega
        rw [hG _ (by omega) (by omega)]; exact R.zero j a j0 j1 ha hb

end Go.Proofs.Ythblhgappldcjaa.Fl
