/- The plain runs of somebody alone: an object made. No program in sight. -/
import Derived.Test.YthblhgappldcjaaPa
namespace Go.Proofs.Ythblhgappldcjaa.Fl
set_option linter.unusedVariables false

/-- So many steps lead from here to there, and are safe if the rest is. -/
def Alloc.To (c : Cfg) (who : Int) (j : Nat) (m : Mem) (a : Alloc) (m' : Mem) (a' : Alloc) : Prop :=
  ∀ k, Alloc.loop c who (k + j) m a = Alloc.loop c who k m' a' ∧ (Alloc.safe c who k m' a' → Alloc.safe c who (k + j) m a)

theorem Alloc.To.refl (c : Cfg) (who : Int) (m : Mem) (a : Alloc) : Alloc.To c who 0 m a m a := fun k => ⟨rfl, fun h => h⟩
theorem Alloc.To.trans {c : Cfg} {who : Int} {i j : Nat} {m m1 m2 : Mem} {a a1 a2 : Alloc} (h : Alloc.To c who i m a m1 a1) (h' : Alloc.To c who j m1 a1 m2 a2) : Alloc.To c who (i + j) m a m2 a2 := by
  intro k
  obtain ⟨x1, x2⟩ := h (k + j)
  obtain ⟨y1, y2⟩ := h' k
  have e : k + (i + j) = k + j + i := by omega
  rw [e]
  exact ⟨x1.trans y1, fun s => x2 (y2 s)⟩
theorem Alloc.To.one {c : Cfg} {who : Int} {m m' : Mem} {a a' : Alloc} (hs : stepsOk m) (hf : allocSafe who m a) (h : a.step c who m = (false, a', m')) : Alloc.To c who 1 m a m' a' := by
  intro k
  refine ⟨?_, fun s => ⟨hs, hf, fun _ => ?_⟩⟩
  · rw [Alloc.loop, h]; rfl
  · rw [h]; exact s

theorem Mem.Is.ok {m : Mem} {L : Int} {g : Int → Nat} {st : Int} (h : m.Is L g st) (b : 0 ≤ st ∧ st + 200 ≤ 4611686018427387904) (d : Int) (hd : 0 ≤ d ∧ d < 200) (e : m.steps = st + d := by assumption) : stepsOk m := by
  unfold stepsOk; omega

/-- What the laws' arenas are like. -/
structure Shape (c : Cfg) (L : Int) : Prop where
  t : 0 ≤ c.threads ∧ c.threads ≤ 1000
  s : 1 ≤ c.slots ∧ c.slots ≤ 1000
  k : 1 ≤ c.chunks ∧ c.chunks ≤ 60
  w : 17 ≤ c.words ∧ c.words ≤ 1000
  len : L = pLen c

theorem Shape.base {c : Cfg} {L : Int} (h : Shape c L) {k u n : Int} (hk : 0 ≤ k ∧ k < c.chunks) (hu : 0 ≤ u) (hn : u + n ≤ c.words) : pBase c 0 ≤ pBase c k + u ∧ pBase c k + u + n ≤ L := by
  have h1 : 0 ≤ c.words * k := Int.mul_nonneg (by have := h.w; omega) hk.1
  have h2 : c.words * (k + 1) ≤ c.words * c.chunks := Int.mul_le_mul_of_nonneg_left (by omega) (by have := h.w; omega)
  rw [Int.mul_add, Int.mul_one] at h2
  have := h.len
  simp only [pLen, pBase] at *
  omega

theorem Shape.of {c : Cfg} {L : Int} (h : Shape c L) {k u : Int} (hk : 0 ≤ k ∧ k < c.chunks) (hu : 0 ≤ u ∧ u < c.words) : pOf c (pBase c k + u) = k := by
  have hb := h.base hk hu.1 (n := 1) (by omega)
  unfold pOf
  rw [if_neg (by have := h.len; omega)]
  have : pBase c k + u - pBase c 0 = u + c.words * k := by simp only [pBase]; omega
  rw [this, Int.add_mul_ediv_left _ _ (by have := h.w; omega), Int.ediv_eq_zero_of_lt hu.1 hu.2]; omega

theorem room_pos {k : Int} (h0 : 0 ≤ k) (h : k ≤ 3) : 3 ≤ room k ∧ room k ≤ 17 := by
  have := room_of h0 h; omega

theorem cls_room {n : Int} (h : 1 ≤ n ∧ n ≤ 16) : 0 ≤ cls n ∧ cls n ≤ 3 ∧ n + 1 ≤ room (cls n) ∧ room (cls n) ≤ 17 := by
  have : n = 1 ∨ n = 2 ∨ n = 3 ∨ n = 4 ∨ n = 5 ∨ n = 6 ∨ n = 7 ∨ n = 8 ∨ n = 9 ∨ n = 10 ∨ n = 11 ∨ n = 12 ∨ n = 13 ∨ n = 14 ∨ n = 15 ∨ n = 16 := by omega
  rcases this with rfl | rfl | rfl | rfl | rfl | rfl | rfl | rfl | rfl | rfl | rfl | rfl | rfl | rfl | rfl | rfl <;> decide

/-- An open chunk with room takes it. -/
theorem Alloc.placeA {c : Cfg} {who : Int} {L st : Int} {g : Int → Nat} {m : Mem} {size : Int} {own : Bool} {tk : Take} {s gen : Int} {cl at_ k used stamp : Int} {opn w : Nat} {sp spot : Spot} {ok : Bool} {gv : Give} {out : Done}
    (sh : Shape c L) (hm : m.Is L g st) (hb : 0 ≤ st ∧ st + 3 < 4611686018427387904) (hcl : 0 ≤ cl ∧ cl ≤ 3) (hat : at_ ≤ 1000000)
    (hx : (g (pOpen cl) : Int) = k + 1) (hk : 0 ≤ k ∧ k < c.chunks) (hc : chunkOf (g (pChunk c k)) = ⟨1, cl, used, stamp⟩) (hu : used + room cl ≤ c.words) :
    ∃ m' p', Alloc.To c who 3 m ⟨size, own, 2, tk, s, gen, ⟨cl, 0, opn, at_, w, sp, ok⟩, spot, gv, out⟩ m' ⟨size, own, 3, tk, s, gen, p', ⟨pBase c k + used, k⟩, gv, out⟩ ∧
      m'.Is L (upd g (pChunk c k) (putChunk ⟨1, cl, used + room cl, stamp⟩)) (st + 3) := by
  have hbase := sh.base hk (u := 0) (n := 0) (by omega) (by have := sh.w; omega)
  have hin0 : 0 ≤ pOpen cl ∧ pOpen cl < L := by have := sh.t; have := sh.s; simp only [pOpen, pBase] at *; omega
  have hin1 : 0 ≤ pChunk c k ∧ pChunk c k < L := by have := sh.t; have := sh.s; simp only [pChunk, pBase] at *; omega
  obtain ⟨m1, e1, h1⟩ := hm.load who hin0
  obtain ⟨m2, e2, h2⟩ := h1.load who hin1
  obtain ⟨m3, e3, h3⟩ := h2.cas who hin1 (g (pChunk c k)) (putChunk ⟨1, cl, used + room cl, stamp⟩) rfl
  have hx' : ((g (pOpen cl) : Nat) : Int) - 1 = k := by omega
  generalize hy : g (pChunk c k) = y at *
  generalize g (pOpen cl) = x at *
  have s1 : Alloc.step c who m ⟨size, own, 2, tk, s, gen, ⟨cl, 0, opn, at_, w, sp, ok⟩, spot, gv, out⟩ = (false, ⟨size, own, 2, tk, s, gen, ⟨cl, 1, x, k, w, sp, ok⟩, spot, gv, out⟩, m1) := by
    have : ¬ (k < 0) := by omega
    simp [Alloc.step, Place.step, e1, hx', this]
  have s2 : Alloc.step c who m1 ⟨size, own, 2, tk, s, gen, ⟨cl, 1, x, k, w, sp, ok⟩, spot, gv, out⟩ = (false, ⟨size, own, 2, tk, s, gen, ⟨cl, 2, x, k, y, sp, ok⟩, spot, gv, out⟩, m2) := by
    have : ¬ (c.words < used + room cl) := by omega
    simp [Alloc.step, Place.step, e2, hc, this]
  have s3 : Alloc.step c who m2 ⟨size, own, 2, tk, s, gen, ⟨cl, 2, x, k, y, sp, ok⟩, spot, gv, out⟩ = (false, ⟨size, own, 3, tk, s, gen, ⟨cl, 0, x, k, y, ⟨pBase c k + used, k⟩, true⟩, ⟨pBase c k + used, k⟩, gv, out⟩, m3) := by
    simp [Alloc.step, Place.step, hc, e3]
  refine ⟨m3, _, ((Alloc.To.one ?_ ?_ s1).trans (Alloc.To.one ?_ ?_ s2)).trans (Alloc.To.one ?_ ?_ s3), ?_⟩
  · have := hm.steps; unfold stepsOk; omega
  · intro _; refine ⟨hat, fun _ => ?_⟩; simp only [e1]; have := sh.k; omega
  · have := h1.steps; unfold stepsOk; omega
  · intro _; refine ⟨by simp only; have := sh.k; omega, fun q => by simp at q⟩
  · have := h2.steps; unfold stepsOk; omega
  · intro _; refine ⟨by simp only; have := sh.k; omega, fun q => by simp at q⟩
  · rw [show st + 3 = st + 1 + 1 + 1 by omega]; exact h3

/-- The search for a free chunk. -/
theorem Alloc.search {c : Cfg} {who : Int} {L : Int} {g : Int → Nat} {size : Int} {own : Bool} {tk : Take} {s gen : Int} {cl : Int} {opn : Nat} {sp spot : Spot} {ok : Bool} {gv : Give} {out : Done}
    (sh : Shape c L) (k : Int) (hk : k < c.chunks) :
    ∀ (r : Nat) (i : Int) (w : Nat) (m : Mem) (st : Int), i = k - r → 0 ≤ i → (∀ j, i ≤ j → j < k → (chunkOf (g (pChunk c j))).state ≠ 0) → m.Is L g st → 0 ≤ st ∧ st + r < 4611686018427387904 →
    ∃ m' w', Alloc.To c who r m ⟨size, own, 2, tk, s, gen, ⟨cl, 3, opn, i, w, sp, ok⟩, spot, gv, out⟩ m' ⟨size, own, 2, tk, s, gen, ⟨cl, 3, opn, k, w', sp, ok⟩, spot, gv, out⟩ ∧ m'.Is L g (st + r)
  | 0, i, w, m, st, hi, h0, hj, hm, hb => by
    have : i = k := by omega
    subst this
    exact ⟨m, w, fun k => ⟨rfl, fun h => h⟩, by simpa using hm⟩
  | r + 1, i, w, m, st, hi, h0, hj, hm, hb => by
    have hbase := sh.base (k := i) (u := 0) (n := 0) (by omega) (by omega) (by have := sh.w; omega)
    have hin1 : 0 ≤ pChunk c i ∧ pChunk c i < L := by have := sh.t; have := sh.s; simp only [pChunk, pBase] at *; omega
    obtain ⟨m1, e1, h1⟩ := hm.load who hin1
    have hne := hj i (by omega) (by omega)
    have s1 : Alloc.step c who m ⟨size, own, 2, tk, s, gen, ⟨cl, 3, opn, i, w, sp, ok⟩, spot, gv, out⟩ = (false, ⟨size, own, 2, tk, s, gen, ⟨cl, 3, opn, i + 1, g (pChunk c i), sp, ok⟩, spot, gv, out⟩, m1) := by
      have : ¬ (c.chunks ≤ i + 1) := by omega
      simp [Alloc.step, Place.step, Place.on, e1, hne, this]
    obtain ⟨m', w', t, q⟩ := Alloc.search (who := who) (size := size) (own := own) (tk := tk) (s := s) (gen := gen) (cl := cl) (opn := opn) (sp := sp) (spot := spot) (ok := ok) (gv := gv) (out := out) sh k hk r (i + 1) (g (pChunk c i)) m1 (st + 1) (by omega) (by omega) (fun j p1 p2 => hj j (by omega) p2) h1 (by omega)
    refine ⟨m', w', ?_, ?_⟩
    · rw [Nat.add_comm]
      refine (Alloc.To.one ?_ ?_ s1).trans t
      · have := hm.steps; unfold stepsOk; omega
      · intro _; refine ⟨by simp only; have := sh.k; omega, fun q => by simp at q⟩
    · rw [show st + ((r + 1 : Nat) : Int) = st + 1 + r by omega]; exact q

/-- The open chunk won't do. -/
def Shut (c : Cfg) (g : Int → Nat) (cl : Int) : Prop :=
  g (pOpen cl) = 0 ∨ (1 ≤ g (pOpen cl) ∧ (g (pOpen cl) : Int) ≤ c.chunks ∧ ((chunkOf (g (pChunk c ((g (pOpen cl) : Int) - 1)))).state ≠ 1 ∨ (chunkOf (g (pChunk c ((g (pOpen cl) : Int) - 1)))).cls ≠ cl ∨ (chunkOf (g (pChunk c ((g (pOpen cl) : Int) - 1)))).used + room cl > c.words))

/-- The open chunk won't do: the search begins. -/
theorem Alloc.shut {c : Cfg} {who : Int} {L st : Int} {g : Int → Nat} {m : Mem} {size : Int} {own : Bool} {tk : Take} {s gen : Int} {cl at_ : Int} {opn w : Nat} {sp spot : Spot} {ok : Bool} {gv : Give} {out : Done}
    (sh : Shape c L) (hm : m.Is L g st) (hb : 0 ≤ st ∧ st + 2 < 4611686018427387904) (hcl : 0 ≤ cl ∧ cl ≤ 3) (hat : at_ ≤ 1000000) (hx : Shut c g cl) :
    ∃ (j : Nat) (m' : Mem) (w' : Nat), j ≤ 2 ∧ Alloc.To c who j m ⟨size, own, 2, tk, s, gen, ⟨cl, 0, opn, at_, w, sp, ok⟩, spot, gv, out⟩ m' ⟨size, own, 2, tk, s, gen, ⟨cl, 3, g (pOpen cl), 0, w', sp, ok⟩, spot, gv, out⟩ ∧ m'.Is L g (st + j) := by
  have hin0 : 0 ≤ pOpen cl ∧ pOpen cl < L := by
    have hbase := sh.base (k := 0) (u := 0) (n := 0) (by have := sh.k; omega) (by omega) (by have := sh.w; omega)
    have := sh.t; have := sh.s; have := sh.k; simp only [pOpen, pBase] at *; omega
  obtain ⟨m1, e1, h1⟩ := hm.load who hin0
  have ok0 : stepsOk m := by have := hm.steps; unfold stepsOk; omega
  unfold Shut at hx
  generalize hgx : g (pOpen cl) = x at *
  rcases hx with h | ⟨p1, p2, h⟩
  · have s1 : Alloc.step c who m ⟨size, own, 2, tk, s, gen, ⟨cl, 0, opn, at_, w, sp, ok⟩, spot, gv, out⟩ = (false, ⟨size, own, 2, tk, s, gen, ⟨cl, 3, x, 0, w, sp, ok⟩, spot, gv, out⟩, m1) := by
      simp [Alloc.step, Place.step, e1, h]
    refine ⟨1, m1, w, by omega, Alloc.To.one ok0 ?_ s1, h1⟩
    intro _; refine ⟨hat, fun _ => ?_⟩; simp only [e1]; omega
  · have hbase := sh.base (k := (x : Int) - 1) (u := 0) (n := 0) (by omega) (by omega) (by have := sh.w; omega)
    have hin1 : 0 ≤ pChunk c ((x : Int) - 1) ∧ pChunk c ((x : Int) - 1) < L := by have := sh.t; have := sh.s; simp only [pChunk, pBase] at *; omega
    obtain ⟨m2, e2, h2⟩ := h1.load who hin1
    have hx' : ¬ ((x : Int) - 1 < 0) := by omega
    have s1 : Alloc.step c who m ⟨size, own, 2, tk, s, gen, ⟨cl, 0, opn, at_, w, sp, ok⟩, spot, gv, out⟩ = (false, ⟨size, own, 2, tk, s, gen, ⟨cl, 1, x, (x : Int) - 1, w, sp, ok⟩, spot, gv, out⟩, m1) := by
      simp [Alloc.step, Place.step, e1, hx']
    have s2 : Alloc.step c who m1 ⟨size, own, 2, tk, s, gen, ⟨cl, 1, x, (x : Int) - 1, w, sp, ok⟩, spot, gv, out⟩ = (false, ⟨size, own, 2, tk, s, gen, ⟨cl, 3, x, 0, g (pChunk c ((x : Int) - 1)), sp, ok⟩, spot, gv, out⟩, m2) := by
      simp only [Alloc.step, Place.step, e2, if_pos h]; simp
    refine ⟨2, m2, _, by omega, (Alloc.To.one ok0 ?_ s1).trans (Alloc.To.one ?_ ?_ s2), ?_⟩
    · intro _; refine ⟨hat, fun _ => ?_⟩; simp only [e1]; have := sh.k; omega
    · have := h1.steps; unfold stepsOk; omega
    · intro _; refine ⟨by simp only; have := sh.k; omega, fun q => by simp at q⟩
    · rw [show st + ((2 : Nat) : Int) = st + 1 + 1 by omega]; exact h2

/-- No open chunk will do; a free chunk is opened. -/
theorem Alloc.placeB {c : Cfg} {who : Int} {L st : Int} {g : Int → Nat} {m : Mem} {size : Int} {own : Bool} {tk : Take} {s gen : Int} {cl at_ k : Int} {opn w : Nat} {sp spot : Spot} {ok : Bool} {gv : Give} {out : Done}
    (sh : Shape c L) (hm : m.Is L g st) (hb : 0 ≤ st ∧ st + 100 < 4611686018427387904) (hcl : 0 ≤ cl ∧ cl ≤ 3) (hat : at_ ≤ 1000000) (hx : Shut c g cl)
    (hk : 0 ≤ k ∧ k < c.chunks) (hfull : ∀ j, 0 ≤ j → j < k → (chunkOf (g (pChunk c j))).state ≠ 0) (hfree : (chunkOf (g (pChunk c k))).state = 0) (hstamp : (chunkOf (g (pChunk c k))).stamp ≤ 1000000) :
    ∃ (j : Nat) (m' : Mem) (p' : Place), j ≤ 68 ∧ Alloc.To c who j m ⟨size, own, 2, tk, s, gen, ⟨cl, 0, opn, at_, w, sp, ok⟩, spot, gv, out⟩ m' ⟨size, own, 3, tk, s, gen, p', ⟨pBase c k, k⟩, gv, out⟩ ∧
      m'.Is L (upd (upd g (pOpen cl) (k + 1).toNat) (pChunk c k) (putChunk ⟨1, cl, room cl, (chunkOf (g (pChunk c k))).stamp + 1⟩)) (st + j) := by
  have hbase := sh.base hk (u := 0) (n := 0) (by omega) (by have := sh.w; omega)
  have hin0 : 0 ≤ pOpen cl ∧ pOpen cl < L := by have := sh.t; have := sh.s; simp only [pOpen, pBase] at *; omega
  have hin1 : 0 ≤ pChunk c k ∧ pChunk c k < L := by have := sh.t; have := sh.s; simp only [pChunk, pBase] at *; omega
  have hne : pOpen cl ≠ pChunk c k := by have := sh.t; have := sh.s; simp only [pChunk, pOpen] at *; omega
  have hrm := room_pos hcl.1 hcl.2
  obtain ⟨j1, m1, w1, hj1, t1, h1⟩ := Alloc.shut (who := who) (size := size) (own := own) (tk := tk) (s := s) (gen := gen) (opn := opn) (w := w) (sp := sp) (spot := spot) (ok := ok) (gv := gv) (out := out) sh hm (by omega) hcl hat hx
  obtain ⟨m2, w2, t2, h2⟩ := Alloc.search (who := who) (size := size) (own := own) (tk := tk) (s := s) (gen := gen) (cl := cl) (opn := g (pOpen cl)) (sp := sp) (spot := spot) (ok := ok) (gv := gv) (out := out) sh k hk.2 k.toNat 0 w1 m1 _ (by omega) (by omega) hfull h1 (by have := sh.k; omega)
  obtain ⟨m3, e3, h3⟩ := h2.load who hin1
  obtain ⟨m4, e4, h4⟩ := h3.cas who hin1 (g (pChunk c k)) (putChunk ⟨1, cl, 0, (chunkOf (g (pChunk c k))).stamp + 1⟩) rfl
  obtain ⟨m5, e5, h5⟩ := h4.cas who hin0 (g (pOpen cl)) (u64 (k + 1)) (upd_other hne)
  have h5' : m5.Is L (upd (upd g (pOpen cl) (k + 1).toNat) (pChunk c k) (putChunk ⟨1, cl, 0, (chunkOf (g (pChunk c k))).stamp + 1⟩)) (st + j1 + k.toNat + 1 + 1 + 1) := by
    have : u64 (k + 1) = (k + 1).toNat := by have := sh.k; unfold u64; omega
    rw [this] at h5
    exact h5.congr (fun b _ _ => by
      simp only [upd]
      by_cases b1 : b = pOpen cl
      · rw [if_pos b1, if_neg (by rw [b1]; exact hne), if_pos b1]
      · rw [if_neg b1, if_neg b1])
  have k3 : Alloc.step c who m2 ⟨size, own, 2, tk, s, gen, ⟨cl, 3, g (pOpen cl), k, w2, sp, ok⟩, spot, gv, out⟩ = (false, ⟨size, own, 2, tk, s, gen, ⟨cl, 4, g (pOpen cl), k, g (pChunk c k), sp, ok⟩, spot, gv, out⟩, m3) := by
    simp [Alloc.step, Place.step, e3, hfree]
  have k4 : Alloc.step c who m3 ⟨size, own, 2, tk, s, gen, ⟨cl, 4, g (pOpen cl), k, g (pChunk c k), sp, ok⟩, spot, gv, out⟩ = (false, ⟨size, own, 2, tk, s, gen, ⟨cl, 5, g (pOpen cl), k, g (pChunk c k), sp, ok⟩, spot, gv, out⟩, m4) := by
    simp [Alloc.step, Place.step, Place.fresh, e4]
  have k5 : Alloc.step c who m4 ⟨size, own, 2, tk, s, gen, ⟨cl, 5, g (pOpen cl), k, g (pChunk c k), sp, ok⟩, spot, gv, out⟩ = (false, ⟨size, own, 2, tk, s, gen, ⟨cl, 0, g (pOpen cl), k, g (pChunk c k), sp, ok⟩, spot, gv, out⟩, m5) := by
    simp [Alloc.step, Place.step, e5]
  have hsr := chunkOf_range (g (pChunk c k))
  obtain ⟨m6, p6, t6, h6⟩ := Alloc.placeA (who := who) (size := size) (own := own) (tk := tk) (s := s) (gen := gen) (at_ := k) (opn := g (pOpen cl)) (w := g (pChunk c k)) (sp := sp) (spot := spot) (ok := ok) (gv := gv) (out := out) (k := k) (used := 0) (stamp := (chunkOf (g (pChunk c k))).stamp + 1)
    sh h5' (by have := sh.k; omega) hcl (by have := sh.k; omega) (by rw [upd_other hne, upd_same]; omega) hk (by rw [upd_same]; exact chunkOf_putChunk (by simp only; omega)) (by have := sh.w; omega)
  have sf : ∀ (pc : Int) (w : Nat), pc ≠ 0 → ∀ m, allocSafe who m ⟨size, own, 2, tk, s, gen, ⟨cl, pc, g (pOpen cl), k, w, sp, ok⟩, spot, gv, out⟩ := by
    intro pc w hp m _
    exact ⟨by simp only; have := sh.k; omega, fun q => absurd q hp⟩
  refine ⟨j1 + k.toNat + 1 + 1 + 1 + 3, m6, p6, by have := sh.k; omega, ((((t1.trans t2).trans (Alloc.To.one ?_ (sf _ _ (by decide) _) k3)).trans (Alloc.To.one ?_ (sf _ _ (by decide) _) k4)).trans (Alloc.To.one ?_ (sf _ _ (by decide) _) k5)).trans (by rw [Int.add_zero] at t6; exact t6), ?_⟩
  · have := h2.steps; have := sh.k; unfold stepsOk; omega
  · have := h3.steps; have := sh.k; unfold stepsOk; omega
  · have := h4.steps; have := sh.k; unfold stepsOk; omega
  · have e : st + ((j1 + k.toNat + 1 + 1 + 1 + 3 : Nat) : Int) = st + j1 + k.toNat + 1 + 1 + 1 + 3 := by omega
    rw [e]
    rw [Int.zero_add] at h6
    exact h6.congr (fun b _ _ => by
      simp only [upd]
      by_cases b1 : b = pChunk c k
      · rw [if_pos b1, if_pos b1]
      · rw [if_neg b1, if_neg b1, if_neg b1])

/-- Where a place will be: the open chunk, or the first free one. -/
def Fits (c : Cfg) (g : Int → Nat) (cl k used stamp : Int) (x : Nat) : Prop :=
  (0 ≤ k ∧ k < c.chunks) ∧ 0 ≤ used ∧ used + room cl ≤ c.words ∧ (0 ≤ stamp ∧ stamp ≤ 1000001) ∧
  ((x = g (pOpen cl) ∧ (x : Int) = k + 1 ∧ chunkOf (g (pChunk c k)) = ⟨1, cl, used, stamp⟩) ∨
   (x = (k + 1).toNat ∧ used = 0 ∧ Shut c g cl ∧ (∀ j, 0 ≤ j → j < k → (chunkOf (g (pChunk c j))).state ≠ 0) ∧ (chunkOf (g (pChunk c k))).state = 0 ∧ (chunkOf (g (pChunk c k))).stamp + 1 = stamp))

theorem Fits.congr {c : Cfg} {g g' : Int → Nat} {cl k used stamp : Int} {x : Nat} (h : Fits c g cl k used stamp x) (ho : g' (pOpen cl) = g (pOpen cl)) (hc : ∀ j, 0 ≤ j → j < c.chunks → g' (pChunk c j) = g (pChunk c j)) : Fits c g' cl k used stamp x := by
  obtain ⟨h1, h2, h3, h4, h5⟩ := h
  refine ⟨h1, h2, h3, h4, ?_⟩
  rcases h5 with ⟨p1, p2, p3⟩ | ⟨p1, p2, p3, p4, p5, p6⟩
  · refine Or.inl ⟨by rw [ho]; exact p1, p2, by rw [hc k h1.1 h1.2]; exact p3⟩
  · refine Or.inr ⟨p1, p2, ?_, fun j q1 q2 => by rw [hc j q1 (by omega)]; exact p4 j q1 q2, by rw [hc k h1.1 h1.2]; exact p5, by rw [hc k h1.1 h1.2]; exact p6⟩
    unfold Shut at *
    rw [ho]
    rcases p3 with p3 | ⟨q1, q2, q3⟩
    · exact Or.inl p3
    · refine Or.inr ⟨q1, q2, ?_⟩
      rw [hc _ (by omega) (by omega)]; exact q3

theorem Alloc.place {c : Cfg} {who : Int} {L st : Int} {g : Int → Nat} {m : Mem} {size : Int} {own : Bool} {tk : Take} {s gen : Int} {cl k used stamp : Int} {x : Nat} {gv : Give} {out : Done} {spot : Spot}
    (sh : Shape c L) (hm : m.Is L g st) (hb : 0 ≤ st ∧ st + 100 < 4611686018427387904) (hcl : 0 ≤ cl ∧ cl ≤ 3) (hf : Fits c g cl k used stamp x) :
    ∃ (j : Nat) (m' : Mem) (p' : Place), j ≤ 68 ∧ Alloc.To c who j m ⟨size, own, 2, tk, s, gen, Place.new cl, spot, gv, out⟩ m' ⟨size, own, 3, tk, s, gen, p', ⟨pBase c k + used, k⟩, gv, out⟩ ∧
      m'.Is L (upd (upd g (pOpen cl) x) (pChunk c k) (putChunk ⟨1, cl, used + room cl, stamp⟩)) (st + j) := by
  obtain ⟨h1, h2, h3, h4, h5⟩ := hf
  rcases h5 with ⟨p1, p2, p3⟩ | ⟨p1, p2, p3, p4, p5, p6⟩
  · obtain ⟨m', p', t, q⟩ := Alloc.placeA (who := who) (size := size) (own := own) (tk := tk) (s := s) (gen := gen) (at_ := 0) (opn := 0) (w := 0) (sp := ⟨0, 0⟩) (spot := spot) (ok := false) (gv := gv) (out := out) sh hm (by omega) hcl (by omega) (p1 ▸ p2) h1 p3 h3
    refine ⟨3, m', p', by omega, t, q.congr (fun b _ _ => ?_)⟩
    subst p1
    simp only [upd]
    by_cases b1 : b = pChunk c k
    · rw [if_pos b1, if_pos b1]
    · rw [if_neg b1, if_neg b1]
      by_cases b2 : b = pOpen cl
      · rw [if_pos b2, b2]
      · rw [if_neg b2]
  · subst p2
    obtain ⟨j, m', p', hj, t, q⟩ := Alloc.placeB (who := who) (size := size) (own := own) (tk := tk) (s := s) (gen := gen) (at_ := 0) (opn := 0) (w := 0) (sp := ⟨0, 0⟩) (spot := spot) (ok := false) (gv := gv) (out := out) sh hm hb hcl (by omega) p3 h1 p4 p5 (by omega)
    rw [p6, ← p1] at q
    refine ⟨j, m', p', hj, by rw [Int.add_zero]; exact t, by rw [Int.zero_add]; exact q⟩

/-- A slot is taken. -/
theorem Alloc.takes {c : Cfg} {who : Int} {L st : Int} {g : Int → Nat} {m : Mem} {size : Int} {own : Bool} {s : Int}
    (sh : Shape c L) (hm : m.Is L g st) (hb : 0 ≤ st ∧ st + 100 < 4611686018427387904) (hz : 1 ≤ size ∧ size ≤ 16) (hs : (topOf (g 1)).1 = s) (hs0 : 0 ≤ s ∧ s < c.slots) :
    ∃ (m' : Mem) (tk : Take), Alloc.To c who 4 m (Alloc.new size own) m' ⟨size, own, 2, tk, s, (slotOf (g (pSlot c s))).gen, Place.new (cls size), ⟨0, 0⟩, ⟨0, 0, 0⟩, ⟨0, 0, 0, 0⟩⟩ ∧
      m'.Is L (upd g 1 (putTop (topOf (g (pSlot c s + 1))).1 ((topOf (g 1)).2 + 1))) (st + 4) := by
  have hcr := cls_room hz
  have hbase := sh.base (k := 0) (u := 0) (n := 0) (by have := sh.k; omega) (by omega) (by have := sh.w; omega)
  have hin0 : (0 : Int) ≤ 1 ∧ 1 < L := by have := sh.t; have := sh.s; have := sh.k; simp only [pBase] at *; omega
  have hin1 : 0 ≤ pSlot c s ∧ pSlot c s + 1 < L := by have := sh.t; have := sh.s; have := sh.k; simp only [pSlot, pBase] at *; omega
  have hne : pSlot c s ≠ 1 := by have := sh.t; simp only [pSlot]; omega
  obtain ⟨m1, e1, h1⟩ := hm.load who hin0
  obtain ⟨m2, e2, h2⟩ := h1.load who (a := pSlot c s + 1) (by omega)
  obtain ⟨m3, e3, h3⟩ := h2.cas who hin0 (g 1) (putTop (topOf (g (pSlot c s + 1))).1 ((topOf (g 1)).2 + 1)) rfl
  obtain ⟨m4, e4, h4⟩ := h3.load who (a := pSlot c s) (by omega)
  rw [upd_other hne] at e4
  generalize hnx : (topOf (g (pSlot c s + 1))).1 = nx at *
  have hc0 : ¬ (cls size < 0) := by omega
  have s1 : Alloc.step c who m (Alloc.new size own) = (false, ⟨size, own, 0, ⟨1, g 1, 0, s, false⟩, 0, 0, Place.new 0, ⟨0, 0⟩, ⟨0, 0, 0⟩, ⟨0, 0, 0, 0⟩⟩, m1) := by
    have : ¬ (s < 0) := by omega
    simp [Alloc.step, Alloc.new, Take.step, hc0, e1, hs, this]
  have s2 : Alloc.step c who m1 ⟨size, own, 0, ⟨1, g 1, 0, s, false⟩, 0, 0, Place.new 0, ⟨0, 0⟩, ⟨0, 0, 0⟩, ⟨0, 0, 0, 0⟩⟩ = (false, ⟨size, own, 0, ⟨2, g 1, nx, s, false⟩, 0, 0, Place.new 0, ⟨0, 0⟩, ⟨0, 0, 0⟩, ⟨0, 0, 0, 0⟩⟩, m2) := by
    simp [Alloc.step, Take.step, hc0, e2, hnx]
  have s3 : Alloc.step c who m2 ⟨size, own, 0, ⟨2, g 1, nx, s, false⟩, 0, 0, Place.new 0, ⟨0, 0⟩, ⟨0, 0, 0⟩, ⟨0, 0, 0, 0⟩⟩ = (false, ⟨size, own, 1, ⟨0, g 1, nx, s, true⟩, s, 0, Place.new 0, ⟨0, 0⟩, ⟨0, 0, 0⟩, ⟨0, 0, 0, 0⟩⟩, m3) := by
    simp [Alloc.step, Take.step, hc0, e3]
  have s4 : Alloc.step c who m3 ⟨size, own, 1, ⟨0, g 1, nx, s, true⟩, s, 0, Place.new 0, ⟨0, 0⟩, ⟨0, 0, 0⟩, ⟨0, 0, 0, 0⟩⟩ = (false, ⟨size, own, 2, ⟨0, g 1, nx, s, true⟩, s, (slotOf (g (pSlot c s))).gen, Place.new (cls size), ⟨0, 0⟩, ⟨0, 0, 0⟩, ⟨0, 0, 0, 0⟩⟩, m4) := by
    simp [Alloc.step, e4]
  refine ⟨m4, _, (((Alloc.To.one ?_ ?_ s1).trans (Alloc.To.one ?_ ?_ s2)).trans (Alloc.To.one ?_ ?_ s3)).trans (Alloc.To.one ?_ ?_ s4), ?_⟩
  · have := hm.steps; unfold stepsOk; omega
  · intro q; simp [Alloc.new] at q
  · have := h1.steps; unfold stepsOk; omega
  · intro q; simp at q
  · have := h2.steps; unfold stepsOk; omega
  · intro q; simp at q
  · have := h3.steps; unfold stepsOk; omega
  · intro q; simp at q
  · rw [show st + 4 = st + 1 + 1 + 1 + 1 by omega]; exact h4

/-- The words after an object was made. -/
def madeG (c : Cfg) (g : Int → Nat) (s size : Int) (own : Bool) (k used stamp : Int) (x : Nat) : Int → Nat := fun b =>
  let gen := (slotOf (g (pSlot c s))).gen
  let A := pBase c k + used
  if b = A then putHead ⟨2, size, s, gen, own⟩
  else if b = pSlot c s then putSlot ⟨1, A, gen, 0⟩
  else if b = pChunk c k + 1 then (g b + u64 (room (cls size))) % 18446744073709551616
  else if b = pChunk c k then putChunk ⟨1, cls size, used + room (cls size), stamp⟩
  else if b = pOpen (cls size) then x
  else if b = 1 then putTop (topOf (g (pSlot c s + 1))).1 ((topOf (g 1)).2 + 1)
  else g b

theorem Alloc.solo {c : Cfg} {who : Int} {L st : Int} {g : Int → Nat} {m : Mem} {size : Int} {own : Bool} {s k used stamp : Int} {x : Nat}
    (sh : Shape c L) (hm : m.Is L g st) (hb : 0 ≤ st ∧ st + 200 < 4611686018427387904) (hz : 1 ≤ size ∧ size ≤ 16) (hs : (topOf (g 1)).1 = s) (hs0 : 0 ≤ s ∧ s < c.slots) (hf : Fits c g (cls size) k used stamp x) :
    ∃ a' m' st', Alloc.loop c who 400 m (Alloc.new size own) = (a', m') ∧ Alloc.safe c who 400 m (Alloc.new size own) ∧ a'.out.e = 0 ∧ a'.out.handle = putHandle ⟨s, (slotOf (g (pSlot c s))).gen⟩ ∧ m'.Is L (madeG c g s size own k used stamp x) st' ∧ st < st' ∧ st' ≤ st + 80 := by
  have hcr := cls_room hz
  obtain ⟨hk, hu0, hu, hst, _⟩ := id hf
  have hbase := sh.base hk hu0 hu
  have hin1 : 0 ≤ pSlot c s ∧ pSlot c s + 1 < pChunk c k ∧ pChunk c k + 1 < pBase c 0 ∧ 5 < pSlot c s := by have := sh.t; have := sh.s; simp only [pSlot, pChunk, pBase] at *; omega
  have hop : 1 < pOpen (cls size) ∧ pOpen (cls size) < pSlot c s := by have := sh.t; simp only [pOpen, pSlot] at *; omega
  obtain ⟨m4, tk, t4, h4⟩ := Alloc.takes (who := who) (own := own) sh hm (by omega) hz hs hs0
  have hf' : Fits c (upd g 1 (putTop (topOf (g (pSlot c s + 1))).1 ((topOf (g 1)).2 + 1))) (cls size) k used stamp x := hf.congr (upd_other (by omega)) (fun j p1 p2 => upd_other (by have := sh.t; have := sh.s; simp only [pChunk]; omega))
  generalize hgen : (slotOf (g (pSlot c s))).gen = gen at *
  obtain ⟨j, m5, p5, hj, t5, h5⟩ := Alloc.place (who := who) (size := size) (own := own) (tk := tk) (s := s) (gen := gen) (gv := ⟨0, 0, 0⟩) (out := ⟨0, 0, 0, 0⟩) (spot := ⟨0, 0⟩) sh h4 (by omega) ⟨hcr.1, hcr.2.1⟩ hf'
  generalize hA : pBase c k + used = A at *
  have h6 := h5.add who (a := pChunk c k + 1) (by omega) (room (cls size))
  have h7 := h6.store who (a := A) (by omega) (putHead ⟨1, size, s, gen, own⟩)
  have h8 := h7.store who (a := pSlot c s) (by omega) (putSlot ⟨1, A, gen, 0⟩)
  have h9 := h8.store who (a := A) (by omega) (putHead ⟨2, size, s, gen, own⟩)
  have s6 : Alloc.step c who m5 ⟨size, own, 3, tk, s, gen, p5, ⟨A, k⟩, ⟨0, 0, 0⟩, ⟨0, 0, 0, 0⟩⟩ = (false, ⟨size, own, 4, tk, s, gen, p5, ⟨A, k⟩, ⟨0, 0, 0⟩, ⟨0, 0, 0, 0⟩⟩, m5.add who (pChunk c k + 1) (room (cls size))) := by
    simp [Alloc.step]
  generalize m5.add who (pChunk c k + 1) (room (cls size)) = m6 at *
  have s7 : Alloc.step c who m6 ⟨size, own, 4, tk, s, gen, p5, ⟨A, k⟩, ⟨0, 0, 0⟩, ⟨0, 0, 0, 0⟩⟩ = (false, ⟨size, own, 5, tk, s, gen, p5, ⟨A, k⟩, ⟨0, 0, 0⟩, ⟨0, 0, 0, 0⟩⟩, m6.store who A (putHead ⟨1, size, s, gen, own⟩)) := by
    simp [Alloc.step, Alloc.head]
  generalize m6.store who A (putHead ⟨1, size, s, gen, own⟩) = m7 at *
  have s8 : Alloc.step c who m7 ⟨size, own, 5, tk, s, gen, p5, ⟨A, k⟩, ⟨0, 0, 0⟩, ⟨0, 0, 0, 0⟩⟩ = (false, ⟨size, own, 6, tk, s, gen, p5, ⟨A, k⟩, ⟨0, 0, 0⟩, ⟨0, putHandle ⟨s, gen⟩, 0, (m7.store who (pSlot c s) (putSlot ⟨1, A, gen, 0⟩)).steps⟩⟩, m7.store who (pSlot c s) (putSlot ⟨1, A, gen, 0⟩)) := by
    simp [Alloc.step]
  generalize m7.store who (pSlot c s) (putSlot ⟨1, A, gen, 0⟩) = m8 at *
  have s9 : Alloc.step c who m8 ⟨size, own, 6, tk, s, gen, p5, ⟨A, k⟩, ⟨0, 0, 0⟩, ⟨0, putHandle ⟨s, gen⟩, 0, m8.steps⟩⟩ = (true, ⟨size, own, 6, tk, s, gen, p5, ⟨A, k⟩, ⟨0, 0, 0⟩, ⟨0, putHandle ⟨s, gen⟩, 0, m8.steps⟩⟩, m8.store who A (putHead ⟨2, size, s, gen, own⟩)) := by
    simp [Alloc.step, Alloc.head]
  have t8 := (((t4.trans t5).trans (Alloc.To.one (by have := h5.steps; unfold stepsOk; omega) (by intro q; simp at q) s6)).trans (Alloc.To.one (by have := h6.steps; unfold stepsOk; omega) (by intro q; simp at q) s7)).trans (Alloc.To.one (by have := h7.steps; unfold stepsOk; omega) (by intro q; simp at q) s8)
  have e400 : 400 = (392 - j) + 1 + (4 + j + 1 + 1 + 1) := by omega
  obtain ⟨r1, r2⟩ := t8 (392 - j + 1)
  rw [← e400] at r1 r2
  refine ⟨_, _, st + 4 + j + 1 + 1 + 1 + 1, r1.trans (by rw [Alloc.loop, s9]; rfl), r2 ⟨by have := h8.steps; unfold stepsOk; omega, (by intro q; simp at q), fun q => ?_⟩, rfl, rfl, h9.congr (fun b _ _ => ?_), by omega, by omega⟩
  · rw [s9] at q; simp at q
  · simp only [madeG, hgen, hA]
    by_cases b1 : b = A
    · rw [if_pos b1, b1, upd_same]
    rw [if_neg b1, upd_other b1]
    by_cases b2 : b = pSlot c s
    · rw [if_pos b2, b2, upd_same]
    rw [if_neg b2, upd_other b2, upd_other b1]
    by_cases b3 : b = pChunk c k + 1
    · rw [if_pos b3, b3, upd_same, upd_other (by omega), upd_other (by omega), upd_other (by omega)]
    rw [if_neg b3, upd_other b3]
    by_cases b4 : b = pChunk c k
    · rw [if_pos b4, b4, upd_same]
    rw [if_neg b4, upd_other b4]
    by_cases b5 : b = pOpen (cls size)
    · rw [if_pos b5, b5, upd_same]
    rw [if_neg b5, upd_other b5]
    by_cases b6 : b = 1
    · rw [if_pos b6, b6, upd_same]
    rw [if_neg b6, upd_other b6]

theorem Mem.load_steps (m : Mem) (who a : Int) : m.steps ≤ (m.load who a).2.steps ∧ (m.load who a).2.steps ≤ m.steps + 1 := by
  unfold Mem.load; split <;> simp [Mem.stp] <;> omega
theorem Mem.store_steps' (m : Mem) (who a : Int) (v : Nat) : m.steps ≤ (m.store who a v).steps ∧ (m.store who a v).steps ≤ m.steps + 1 := by
  unfold Mem.store; split <;> simp [Mem.stp, Mem.setw] <;> omega
theorem Mem.cas_steps (m : Mem) (who a : Int) (o v : Nat) : m.steps ≤ (m.cas who a o v).2.steps ∧ (m.cas who a o v).2.steps ≤ m.steps + 1 := by
  unfold Mem.cas; repeat' split
  all_goals simp [Mem.stp, Mem.setw]
  all_goals omega
theorem Mem.add_steps (m : Mem) (who a d : Int) : m.steps ≤ (m.add who a d).steps ∧ (m.add who a d).steps ≤ m.steps + 1 := by
  unfold Mem.add; split <;> simp [Mem.stp, Mem.setw] <;> omega

theorem Help.steps1 (c : Cfg) (who : Int) (m : Mem) (h : Help) : m.steps ≤ (h.step c who m).2.2.steps ∧ (h.step c who m).2.2.steps ≤ m.steps + 1 := by
  unfold Help.step
  simp only
  split
  · exact Mem.cas_steps ..
  · split
    · split <;> exact Mem.load_steps ..
    · exact Mem.cas_steps ..
theorem Give.steps1 (c : Cfg) (who : Int) (m : Mem) (h : Give) : m.steps ≤ (h.step c who m).2.2.steps ∧ (h.step c who m).2.2.steps ≤ m.steps + 1 := by
  unfold Give.step
  split
  · exact Mem.load_steps ..
  · split
    · exact Mem.store_steps' ..
    · exact Mem.cas_steps ..
theorem Drop.steps1 (c : Cfg) (who : Int) (m : Mem) (d : Drop) : m.steps ≤ (d.step c who m).2.2.steps ∧ (d.step c who m).2.2.steps ≤ m.steps + 1 := by
  unfold Drop.step
  simp only [Drop.invalid]
  split
  · split
    · simp only; omega
    · split <;> exact Mem.load_steps ..
  split
  · split
    · exact Mem.load_steps ..
    · split <;> exact Mem.load_steps ..
  split
  · split <;> exact Mem.cas_steps ..
  split
  · split <;> exact Help.steps1 ..
  split
  · split <;> exact Help.steps1 ..
  split
  · exact Mem.add_steps ..
  · exact Give.steps1 ..

theorem Drop.safe_steps (c : Cfg) (who : Int) : ∀ (k : Nat) (m : Mem) (d : Drop), 0 ≤ m.steps → m.steps + k < 4611686018427387904 → Drop.safe c who k m d
  | 0, _, _, _, _ => trivial
  | k + 1, m, d, h0, h1 => by
    have := Drop.steps1 c who m d
    exact ⟨⟨h0, by omega⟩, fun _ => Drop.safe_steps c who k _ _ (by omega) (by omega)⟩

end Go.Proofs.Ythblhgappldcjaa.Fl
