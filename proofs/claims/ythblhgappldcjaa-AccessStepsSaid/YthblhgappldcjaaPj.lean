/- The plain law of DropOnce: many who let the same object go, whoever is picked. No program in sight. -/
import Derived.Test.YthblhgappldcjaaPi
import Derived.Test.YthblhgappldcjaaPd
namespace Go.Proofs.Ythblhgappldcjaa.Fl
set_option linter.unusedVariables false

theorem shD : Shape cD 64 := ⟨by simp [cD], by simp [cD], by simp [cD], by simp [cD], by simp [cD, pLen, pBase]⟩
def W1 : Nat := putSlot ⟨1, 24, 1, 0⟩
def W4 : Nat := putSlot ⟨4, 24, 1, 1⟩
def W0 : Nat := putSlot ⟨0, 0, 2, 0⟩
def FZ : Nat := putCell ⟨0, true, 1⟩
theorem s_W1 : slotOf W1 = ⟨1, 24, 1, 0⟩ := by decide
theorem s_W4 : slotOf W4 = ⟨4, 24, 1, 1⟩ := by decide
theorem s_W0 : slotOf W0 = ⟨0, 0, 2, 0⟩ := by decide
theorem W14 : W1 ≠ W4 := by decide
theorem W10 : W1 ≠ W0 := by decide
theorem W40 : W4 ≠ W0 := by decide
theorem c_FZ : cellOf FZ = ⟨0, true, 1⟩ := by decide
theorem FZ0 : FZ ≠ 0 := by decide

/-- The arena of DropOnce, when the object was made. -/
theorem dA_is : ∃ g st, dA.2.Is 64 g st ∧ 0 ≤ st ∧ st ≤ 100 ∧ g 10 = W1 ∧ g 24 = putHead ⟨2, 2, 0, 1, false⟩ ∧ g 25 = 0 ∧ g 26 = 0 := by
  have ps : pSlot cD 0 = 10 := by simp [pSlot, cD]
  have t0 : topOf (freshG cD 1) = (0, 0) := by rw [freshG, upd_same]; decide
  have w0 : slotOf (freshG cD 10) = ⟨0, 0, 1, 0⟩ := by decide
  obtain ⟨a, m1, st1, r1, r2, r3, r4, r5, r6, r7⟩ := Alloc.solo (who := 0) (own := false) (size := 2) (s := 0) shD (fresh_is shD) (by simp [cD]) (by omega) (by rw [t0]) (by simp [cD]) (fits_first shD (by simp [cD]) (by decide))
  rw [show (2 * cD.slots + 2 : Int) = 10 from by decide] at r6 r7
  have hA : pBase cD 0 + 0 = 24 := by simp [pBase, cD]
  have hck : pChunk cD 0 = 18 := by simp [pChunk, cD]
  have hm : dA.2 = m1 := by unfold dA; rw [r1]
  refine ⟨_, st1, by rw [hm]; exact r5, by omega, by omega, ?_, ?_, ?_, ?_⟩
  · simp only [madeG, ps, w0, hA, hck]; decide
  · simp only [madeG, ps, w0, hA, hck]; simp
  · simp only [madeG, ps, w0, hA, hck]; decide
  · simp only [madeG, ps, w0, hA, hck]; decide

structure OnceG (g : Int → Nat) : Prop where
  slot : g 10 = W1 ∨ g 10 = W4 ∨ g 10 = W0
  head : g 24 = putHead ⟨2, 2, 0, 1, false⟩
  c1 : g 25 = 0 ∨ g 25 = FZ
  c2 : g 26 = 0 ∨ g 26 = FZ

structure Later (g g' : Int → Nat) : Prop where
  slot : g' 10 = g 10 ∨ (g 10 = W1 ∧ g' 10 = W4) ∨ (g 10 = W4 ∧ g' 10 = W0)
  c1 : g' 25 = g 25 ∨ g' 25 = FZ
  c2 : g' 26 = g 26 ∨ g' 26 = FZ

def cr (x : Nat) (read : Bool) : Nat := if read = true then 2 else if x = FZ then 1 else 3
theorem cr_le (x : Nat) (b : Bool) : 1 ≤ cr x b ∧ cr x b ≤ 3 := by unfold cr; repeat' split
                                                                   all_goals omega
theorem cr_later {x y : Nat} (h : y = x ∨ y = FZ) (b : Bool) : cr y b ≤ cr x b := by
  rcases h with rfl | rfl
  · exact Nat.le_refl _
  · unfold cr; repeat' split
    all_goals omega

inductive HelpAt (g : Int → Nat) : Help → Nat → Prop
  | c0 (cell : Nat) (read won : Bool) (r : Nat) (hc : read = true → cell = 0) (hr : cr (g 25) read + 4 ≤ r) : HelpAt g ⟨0, W4, 2, 0, cell, read, won⟩ r
  | c1 (cell : Nat) (read won : Bool) (r : Nat) (hc : read = true → cell = 0) (hr : cr (g 26) read + 1 ≤ r) : HelpAt g ⟨0, W4, 2, 1, cell, read, won⟩ r
  | c2 (cell : Nat) (won : Bool) (r : Nat) (hr : 1 ≤ r) : HelpAt g ⟨0, W4, 2, 2, cell, false, won⟩ r

theorem HelpAt.later {g g' : Int → Nat} {h : Help} {r : Nat} (a : HelpAt g h r) (l : Later g g') : HelpAt g' h r := by
  cases a with
  | c0 cell read won r hc hr => exact .c0 cell read won r hc (by have := cr_later l.c1 read; omega)
  | c1 cell read won r hc hr => exact .c1 cell read won r hc (by have := cr_later l.c2 read; omega)
  | c2 cell won r hr => exact .c2 cell won r hr

theorem HelpAt.first {g : Int → Nat} (won : Bool) (cell : Nat) : HelpAt g ⟨0, W4, 2, 0, cell, false, won⟩ 7 := .c0 cell false won 7 (fun q => by cases q) (by have := cr_le (g 25) false; omega)

/-- What a step of a helper leaves behind. -/
structure HelpRes (g : Int → Nat) (st : Int) (r : Nat) (b : Bool) (h' : Help) (m' : Mem) (g' : Int → Nat) : Prop where
  is : m'.Is 64 g' (st + 1)
  good : OnceG g'
  later : Later g g'
  top : g' 1 = g 1
  r1 : 1 ≤ r
  more : b = false → g' 10 = g 10 ∧ ∃ r', r' < r ∧ HelpAt g' h' r'
  last : b = true → g' 10 = W0

theorem help_cell {g : Int → Nat} {m : Mem} {st : Int} {i A : Int} {cell : Nat} {read won : Bool} (hi : i = 0 ∨ i = 1) (hA : A = 25 + i) (hm : m.Is 64 g st) (G : OnceG g) (hA2 : g A = 0 ∨ g A = FZ) (hc : read = true → cell = 0) :
    ∃ h' m' g', Help.step cD 0 m ⟨0, W4, 2, i, cell, read, won⟩ = (false, h', m') ∧ m'.Is 64 g' (st + 1) ∧ (g' = g ∨ (g A = 0 ∧ g' = upd g A FZ)) ∧
      ((read = false ∧ g A = FZ ∧ g' = g ∧ ∃ x, h' = ⟨0, W4, 2, i + 1, x, false, won⟩) ∨ (read = false ∧ g A = 0 ∧ g' = g ∧ h' = ⟨0, W4, 2, i, 0, true, won⟩) ∨
       (read = true ∧ g' = upd g A FZ ∧ ∃ x, h' = ⟨0, W4, 2, i + 1, x, false, won⟩) ∨ (read = true ∧ g A = FZ ∧ g' = g ∧ ∃ x, h' = ⟨0, W4, 2, i, x, false, won⟩)) := by
  have hin : 0 ≤ A ∧ A < 64 := by omega
  have hlt : ¬ (i ≥ 2) := by omega
  have hlt' : ¬ (2 ≤ i) := by omega
  have hAA : 25 + i = A := by omega
  have c0 : cellOf 0 = ⟨0, false, 0⟩ := by decide
  cases read
  · obtain ⟨m1, e1, h1⟩ := hm.load 0 hin
    rcases hA2 with h | h
    · refine ⟨⟨0, W4, 2, i, 0, true, won⟩, m1, g, ?_, h1, Or.inl rfl, Or.inr (Or.inl ⟨rfl, h, rfl, rfl⟩)⟩
      simp [Help.step, hlt', s_W4, hAA, e1, h, c0]
    · refine ⟨⟨0, W4, 2, i + 1, FZ, false, won⟩, m1, g, ?_, h1, Or.inl rfl, Or.inl ⟨rfl, h, rfl, _, rfl⟩⟩
      simp [Help.step, hlt', s_W4, hAA, e1, h, c_FZ]
  · have hc' := hc rfl
    subst hc'
    have hput : putCell ⟨0, true, 1⟩ = FZ := rfl
    rcases hA2 with h | h
    · obtain ⟨m1, e1, h1⟩ := hm.cas 0 hin 0 FZ h
      refine ⟨⟨0, W4, 2, i + 1, 0, false, won⟩, m1, _, ?_, h1, Or.inr ⟨h, rfl⟩, Or.inr (Or.inr (Or.inl ⟨rfl, rfl, _, rfl⟩))⟩
      simp [Help.step, hlt', s_W4, hAA, c0, hput, e1]
    · obtain ⟨m1, e1, h1⟩ := hm.casNo 0 hin 0 FZ (by rw [h]; exact FZ0)
      refine ⟨⟨0, W4, 2, i, 0, false, won⟩, m1, _, ?_, h1, Or.inl rfl, Or.inr (Or.inr (Or.inr ⟨rfl, h, rfl, _, rfl⟩))⟩
      simp [Help.step, hlt', s_W4, hAA, c0, hput, e1]

theorem help_good {g g' : Int → Nat} {A : Int} (hA : A = 25 ∨ A = 26) (G : OnceG g) (h : g' = g ∨ (g A = 0 ∧ g' = upd g A FZ)) : OnceG g' ∧ Later g g' ∧ g' 1 = g 1 ∧ g' 10 = g 10 := by
  rcases h with rfl | ⟨_, rfl⟩
  · exact ⟨G, ⟨Or.inl rfl, Or.inl rfl, Or.inl rfl⟩, rfl, rfl⟩
  · have u10 : upd g A FZ 10 = g 10 := upd_other (by omega)
    have u24 : upd g A FZ 24 = g 24 := upd_other (by omega)
    have u1 : upd g A FZ 1 = g 1 := upd_other (by omega)
    have u25 : upd g A FZ 25 = g 25 ∨ upd g A FZ 25 = FZ := by
      by_cases q : A = 25
      · subst q; exact Or.inr (upd_same ..)
      · exact Or.inl (upd_other (by omega))
    have u26 : upd g A FZ 26 = g 26 ∨ upd g A FZ 26 = FZ := by
      by_cases q : A = 26
      · subst q; exact Or.inr (upd_same ..)
      · exact Or.inl (upd_other (by omega))
    refine ⟨⟨by rw [u10]; exact G.slot, by rw [u24]; exact G.head, ?_, ?_⟩, ⟨Or.inl u10, u25, u26⟩, u1, u10⟩
    · rcases u25 with h | h
      · rw [h]; exact G.c1
      · exact Or.inr h
    · rcases u26 with h | h
      · rw [h]; exact G.c2
      · exact Or.inr h

theorem help_step {g : Int → Nat} {m : Mem} {st : Int} {h : Help} {r : Nat} (hm : m.Is 64 g st) (G : OnceG g) (hp : g 10 ≠ W1) (a : HelpAt g h r) :
    ∃ b h' m' g', Help.step cD 0 m h = (b, h', m') ∧ HelpRes g st r b h' m' g' := by
  cases a with
  | c0 cell read won r hc hr =>
    obtain ⟨h', m', g', e, i1, i2, i3⟩ := help_cell (i := 0) (A := 25) (cell := cell) (read := read) (won := won) (Or.inl rfl) rfl hm G G.c1 hc
    obtain ⟨q1, q2, q3, q4⟩ := help_good (Or.inl rfl) G i2
    refine ⟨false, h', m', g', e, i1, q1, q2, q3, by omega, fun _ => ⟨q4, ?_⟩, fun q => by cases q⟩
    have w26 : g' 26 = g 26 := by
      rcases i2 with rfl | ⟨_, rfl⟩
      · rfl
      · exact upd_other (by omega)
    rcases i3 with ⟨k1, k2, rfl, x, rfl⟩ | ⟨k1, k2, rfl, rfl⟩ | ⟨k1, rfl, x, rfl⟩ | ⟨k1, k2, rfl, x, rfl⟩
    · exact ⟨4, by have := cr_le (g' 25) read; omega, .c1 x false won 4 (fun q => by cases q) (by have := cr_le (g' 26) false; omega)⟩
    · exact ⟨6, by subst k1; simp only [cr, k2] at hr; simp [FZ0.symm] at hr; omega, .c0 0 true won 6 (fun _ => rfl) (by simp [cr])⟩
    · exact ⟨4, by subst k1; simp [cr] at hr; omega, .c1 x false won 4 (fun q => by cases q) (by have := cr_le (upd g 25 FZ 26) false; omega)⟩
    · exact ⟨5, by subst k1; simp [cr] at hr; omega, .c0 x false won 5 (fun q => by cases q) (by simp [cr, k2])⟩
  | c1 cell read won r hc hr =>
    obtain ⟨h', m', g', e, i1, i2, i3⟩ := help_cell (i := 1) (A := 26) (cell := cell) (read := read) (won := won) (Or.inr rfl) rfl hm G G.c2 hc
    obtain ⟨q1, q2, q3, q4⟩ := help_good (Or.inr rfl) G i2
    refine ⟨false, h', m', g', e, i1, q1, q2, q3, by omega, fun _ => ⟨q4, ?_⟩, fun q => by cases q⟩
    rcases i3 with ⟨k1, k2, rfl, x, rfl⟩ | ⟨k1, k2, rfl, rfl⟩ | ⟨k1, rfl, x, rfl⟩ | ⟨k1, k2, rfl, x, rfl⟩
    · exact ⟨1, by have := cr_le (g' 26) read; omega, .c2 x won 1 (by omega)⟩
    · exact ⟨3, by subst k1; simp only [cr, k2] at hr; simp [FZ0.symm] at hr; omega, .c1 0 true won 3 (fun _ => rfl) (by simp [cr])⟩
    · exact ⟨1, by subst k1; simp [cr] at hr; omega, .c2 x won 1 (by omega)⟩
    · exact ⟨2, by subst k1; simp [cr] at hr; omega, .c1 x false won 2 (fun q => by cases q) (by simp [cr, k2])⟩
  | c2 cell won r hr =>
    have ps : pSlot cD 0 = 10 := by simp [pSlot, cD]
    have hgens : ¬ ((1 : Int) ≥ cD.gens) := by decide
    have hput : putSlot ⟨0, 0, 1 + 1, 0⟩ = W0 := rfl
    rcases G.slot with h | h | h
    · exact absurd h hp
    · obtain ⟨m1, e1, h1⟩ := hm.cas 0 (a := 10) (by omega) W4 W0 h
      refine ⟨true, ⟨0, W4, 2, 2, cell, false, true⟩, m1, upd g 10 W0, ?_, h1, ⟨Or.inr (Or.inr (upd_same ..)), by rw [upd_other (by omega)]; exact G.head, by rw [upd_other (by omega)]; exact G.c1, by rw [upd_other (by omega)]; exact G.c2⟩,
        ⟨Or.inr (Or.inr ⟨h, upd_same ..⟩), Or.inl (upd_other (by omega)), Or.inl (upd_other (by omega))⟩, upd_other (by omega), hr, (fun q => by cases q), fun _ => upd_same ..⟩
      simp only [Help.step, s_W4, if_neg hgens, hput, ps, e1]; rfl
    · obtain ⟨m1, e1, h1⟩ := hm.casNo 0 (a := 10) (by omega) W4 W0 (by rw [h]; exact W40.symm)
      refine ⟨true, ⟨0, W4, 2, 2, cell, false, false⟩, m1, g, ?_, h1, G, ⟨Or.inl rfl, Or.inl rfl, Or.inl rfl⟩, rfl, hr, (fun q => by cases q), fun _ => h⟩
      simp only [Help.step, s_W4, if_neg hgens, hput, ps, e1]; rfl

def seeR (x : Nat) : Nat := if x = W1 then 14 else if x = W4 then 10 else 1
theorem seeR_1 : seeR W1 = 14 := rfl
theorem seeR_4 : seeR W4 = 10 := by decide
theorem seeR_0 : seeR W0 = 1 := by decide

/-- Where somebody who lets the object go stands, how many steps it has left, and whether it is the one. -/
inductive OnceAt (g : Int → Nat) : Drop → Nat → Bool → Prop
  | see (h : Hd) (w : Nat) (sz : Int) (p : Help) (v : Give) (out : Done) (r : Nat) (hr : seeR (g 10) ≤ r) : OnceAt g ⟨65536, false, h, 0, w, sz, p, v, out⟩ r false
  | head1 (sz : Int) (p : Help) (v : Give) (out : Done) (r : Nat) (hr : 13 ≤ r) : OnceAt g ⟨65536, false, ⟨0, 1⟩, 1, W1, sz, p, v, out⟩ r false
  | head4 (sz : Int) (p : Help) (v : Give) (out : Done) (r : Nat) (hp : g 10 ≠ W1) (hr : 9 ≤ r) : OnceAt g ⟨65536, false, ⟨0, 1⟩, 1, W4, sz, p, v, out⟩ r false
  | claim (p : Help) (v : Give) (out : Done) (r : Nat) (hr : 12 ≤ r) : OnceAt g ⟨65536, false, ⟨0, 1⟩, 2, W1, 2, p, v, out⟩ r false
  | own (p : Help) (v : Give) (out : Done) (r rh : Nat) (hp : g 10 ≠ W1) (hh : HelpAt g p rh) (hr : rh + 4 ≤ r) : OnceAt g ⟨65536, false, ⟨0, 1⟩, 3, W1, 2, p, v, out⟩ r true
  | help (p : Help) (v : Give) (out : Done) (r rh : Nat) (hp : g 10 ≠ W1) (hh : HelpAt g p rh) (hr : rh + 1 ≤ r) : OnceAt g ⟨65536, false, ⟨0, 1⟩, 4, W4, 2, p, v, out⟩ r false
  | count (p : Help) (v : Give) (s : Int) (r : Nat) (hp : g 10 = W0) (hr : 4 ≤ r) : OnceAt g ⟨65536, false, ⟨0, 1⟩, 5, W1, 2, p, v, ⟨0, 0, 0, s⟩⟩ r true
  | give0 (p : Help) (tp : Nat) (s : Int) (r : Nat) (hp : g 10 = W0) (hr : 3 ≤ r) : OnceAt g ⟨65536, false, ⟨0, 1⟩, 6, W1, 2, p, ⟨0, 0, tp⟩, ⟨0, 0, 0, s⟩⟩ r true
  | give1 (p : Help) (tp : Nat) (s : Int) (r : Nat) (hp : g 10 = W0) (ht : tp = g 1) (hr : 2 ≤ r) : OnceAt g ⟨65536, false, ⟨0, 1⟩, 6, W1, 2, p, ⟨1, 0, tp⟩, ⟨0, 0, 0, s⟩⟩ r true
  | give2 (p : Help) (tp : Nat) (s : Int) (r : Nat) (hp : g 10 = W0) (ht : tp = g 1) (hr : 1 ≤ r) : OnceAt g ⟨65536, false, ⟨0, 1⟩, 6, W1, 2, p, ⟨2, 0, tp⟩, ⟨0, 0, 0, s⟩⟩ r true

theorem Later.ne1 {g g' : Int → Nat} (l : Later g g') (h : g 10 ≠ W1) : g' 10 ≠ W1 := by
  rcases l.slot with e | ⟨e, _⟩ | ⟨_, e⟩
  · rw [e]; exact h
  · exact absurd e h
  · rw [e]; exact W10.symm
theorem Later.eq0 {g g' : Int → Nat} (l : Later g g') (h : g 10 = W0) : g' 10 = W0 := by
  rcases l.slot with e | ⟨e, _⟩ | ⟨e, _⟩
  · rw [e]; exact h
  · rw [h] at e; exact absurd e W10.symm
  · rw [h] at e; exact absurd e W40.symm
theorem Later.seeR {g g' : Int → Nat} (l : Later g g') : seeR (g' 10) ≤ seeR (g 10) := by
  rcases l.slot with e | ⟨e, e'⟩ | ⟨e, e'⟩
  · rw [e]; exact Nat.le_refl _
  · rw [e, e', seeR_1, seeR_4]; omega
  · rw [e, e', seeR_4, seeR_0]; omega

theorem OnceAt.later {g g' : Int → Nat} {d : Drop} {r : Nat} {o : Bool} (a : OnceAt g d r o) (l : Later g g') (h1 : o = true → g' 1 = g 1) : OnceAt g' d r o := by
  cases a with
  | see h w sz p v out r hr => exact .see h w sz p v out r (Nat.le_trans l.seeR hr)
  | head1 sz p v out r hr => exact .head1 sz p v out r hr
  | head4 sz p v out r hp hr => exact .head4 sz p v out r (l.ne1 hp) hr
  | claim p v out r hr => exact .claim p v out r hr
  | own p v out r rh hp hh hr => exact .own p v out r rh (l.ne1 hp) (hh.later l) hr
  | help p v out r rh hp hh hr => exact .help p v out r rh (l.ne1 hp) (hh.later l) hr
  | count p v s r hp hr => exact .count p v s r (l.eq0 hp) hr
  | give0 p tp s r hp hr => exact .give0 p tp s r (l.eq0 hp) hr
  | give1 p tp s r hp ht hr => exact .give1 p tp s r (l.eq0 hp) (ht.trans (h1 rfl).symm) hr
  | give2 p tp s r hp ht hr => exact .give2 p tp s r (l.eq0 hp) (ht.trans (h1 rfl).symm) hr

structure OnceRes (g : Int → Nat) (st : Int) (r : Nat) (o b : Bool) (d' : Drop) (m' : Mem) (g' : Int → Nat) : Prop where
  is : m'.Is 64 g' (st + 1)
  good : OnceG g'
  later : Later g g'
  top : o = false → g' 1 = g 1
  r1 : 1 ≤ r
  more : b = false → ∃ r' o', r' < r ∧ OnceAt g' d' r' o' ∧ ((o' = o ∧ (g 10 = W1 → g' 10 = W1)) ∨ (o = false ∧ o' = true ∧ g 10 = W1 ∧ g' 10 = W4))
  last : b = true → g' 10 = W0 ∧ g 10 = W0 ∧ d'.out.e = if o = true then 0 else 3

theorem once_step {g : Int → Nat} {m : Mem} {st : Int} {d : Drop} {r : Nat} {o : Bool} (hm : m.Is 64 g st) (G : OnceG g) (a : OnceAt g d r o) :
    ∃ b d' m' g', Drop.step cD 0 m d = (b, d', m') ∧ OnceRes g st r o b d' m' g' := by
  have ps : pSlot cD 0 = 10 := by simp [pSlot, cD]
  have same : Later g g := ⟨Or.inl rfl, Or.inl rfl, Or.inl rfl⟩
  have hsl : ¬ (cD.slots ≤ 0) := by decide
  have hgens : ¬ (cD.gens ≤ 1) := by decide
  have hh : handle 65536 = (⟨0, 1⟩, true) := by decide
  have l1 : Fl.live (slotOf W1) ⟨0, 1⟩ = true := by decide
  have l4 : Fl.live (slotOf W4) ⟨0, 1⟩ = true := by decide
  have l0 : Fl.live (slotOf W0) ⟨0, 1⟩ = false := by decide
  have hd : headOf (g 24) = ⟨2, 2, 0, 1, false⟩ := by rw [G.head]; decide
  have up4 : putSlot ⟨4, 24, 1, 1⟩ = W4 := rfl
  cases a with
  | see h w sz p v out r hr =>
    obtain ⟨m1, e1, h1⟩ := hm.load 0 (a := 10) (by omega)
    rcases G.slot with k | k | k
    · rw [k, seeR_1] at hr
      refine ⟨false, ⟨65536, false, ⟨0, 1⟩, 1, W1, sz, p, v, out⟩, m1, g, ?_, h1, G, same, fun _ => rfl, by omega, fun _ => ⟨13, false, by omega, .head1 _ _ _ _ _ (by omega), Or.inl ⟨rfl, fun _ => k⟩⟩, fun q => by cases q⟩
      simp [Drop.step, hh, hsl, ps, e1, k, l1]
    · rw [k, seeR_4] at hr
      refine ⟨false, ⟨65536, false, ⟨0, 1⟩, 1, W4, sz, p, v, out⟩, m1, g, ?_, h1, G, same, fun _ => rfl, by omega, fun _ => ⟨9, false, by omega, .head4 _ _ _ _ _ (by rw [k]; exact W14.symm) (by omega), Or.inl ⟨rfl, fun q => q⟩⟩, fun q => by cases q⟩
      simp [Drop.step, hh, hsl, ps, e1, k, l4]
    · rw [k, seeR_0] at hr
      refine ⟨true, ⟨65536, false, ⟨0, 1⟩, 0, W0, sz, p, v, ⟨3, 0, 0, m1.steps⟩⟩, m1, g, ?_, h1, G, same, fun _ => rfl, by omega, (fun q => by cases q), fun _ => ⟨k, k, rfl⟩⟩
      simp [Drop.step, hh, hsl, ps, e1, k, l0, Drop.invalid]
  | head1 sz p v out r hr =>
    obtain ⟨m1, e1, h1⟩ := hm.load 0 (a := 24) (by omega)
    refine ⟨false, ⟨65536, false, ⟨0, 1⟩, 2, W1, 2, p, v, out⟩, m1, g, ?_, h1, G, same, fun _ => rfl, by omega, fun _ => ⟨12, false, by omega, .claim _ _ _ _ (by omega), Or.inl ⟨rfl, fun q => q⟩⟩, fun q => by cases q⟩
    simp [Drop.step, s_W1, e1, hd]
  | head4 sz p v out r hp hr =>
    obtain ⟨m1, e1, h1⟩ := hm.load 0 (a := 24) (by omega)
    refine ⟨false, ⟨65536, false, ⟨0, 1⟩, 4, W4, 2, ⟨0, W4, 2, 0, 0, false, false⟩, v, out⟩, m1, g, ?_, h1, G, same, fun _ => rfl, by omega, fun _ => ⟨8, false, by omega, .help _ _ _ _ 7 hp (.first _ _) (by omega), Or.inl ⟨rfl, fun q => q⟩⟩, fun q => by cases q⟩
    simp [Drop.step, s_W4, e1, hd, Help.new]
  | claim p v out r hr =>
    by_cases k : g 10 = W1
    · obtain ⟨m1, e1, h1⟩ := hm.cas 0 (a := 10) (by omega) W1 W4 k
      refine ⟨false, ⟨65536, false, ⟨0, 1⟩, 3, W1, 2, ⟨0, W4, 2, 0, 0, false, false⟩, v, out⟩, m1, upd g 10 W4, ?_, h1, ⟨Or.inr (Or.inl (upd_same ..)), by rw [upd_other (by omega)]; exact G.head, by rw [upd_other (by omega)]; exact G.c1, by rw [upd_other (by omega)]; exact G.c2⟩,
        ⟨Or.inr (Or.inl ⟨k, upd_same ..⟩), Or.inl (upd_other (by omega)), Or.inl (upd_other (by omega))⟩, fun _ => upd_other (by omega), by omega, fun _ => ⟨11, true, by omega, .own _ _ _ _ 7 (by rw [upd_same]; exact W14.symm) (.first _ _) (by omega), Or.inr ⟨rfl, rfl, k, upd_same ..⟩⟩, fun q => by cases q⟩
      simp [Drop.step, s_W1, ps, up4, e1, Help.new]
    · obtain ⟨m1, e1, h1⟩ := hm.casNo 0 (a := 10) (by omega) W1 W4 k
      refine ⟨false, ⟨65536, false, ⟨0, 1⟩, 0, W1, 2, p, v, out⟩, m1, g, ?_, h1, G, same, fun _ => rfl, by omega, fun _ => ⟨10, false, by omega, .see _ _ _ _ _ _ _ ?_, Or.inl ⟨rfl, fun q => q⟩⟩, fun q => by cases q⟩
      · simp [Drop.step, s_W1, ps, up4, e1]
      · rcases G.slot with q | q | q
        · exact absurd q k
        · rw [q, seeR_4]; omega
        · rw [q, seeR_0]; omega
  | own p v out r rh hp hh' hr =>
    obtain ⟨b, h', m1, g', e1, R⟩ := help_step hm G hp hh'
    have := R.r1
    cases b
    · obtain ⟨q1, r', q2, q3⟩ := R.more rfl
      refine ⟨false, ⟨65536, false, ⟨0, 1⟩, 3, W1, 2, h', v, out⟩, m1, g', ?_, R.is, R.good, R.later, fun _ => R.top, by omega, fun _ => ⟨r' + 4, true, by omega, .own _ _ _ _ r' (by rw [q1]; exact hp) q3 (by omega), Or.inl ⟨rfl, fun q => absurd q hp⟩⟩, fun q => by cases q⟩
      simp [Drop.step, e1]
    · have q1 := R.last rfl
      refine ⟨false, ⟨65536, false, ⟨0, 1⟩, 5, W1, 2, h', v, ⟨0, 0, 0, m1.wh 10⟩⟩, m1, g', ?_, R.is, R.good, R.later, fun _ => R.top, by omega, fun _ => ⟨4, true, by omega, .count _ _ _ _ q1 (by omega), Or.inl ⟨rfl, fun q => absurd q hp⟩⟩, fun q => by cases q⟩
      simp [Drop.step, e1, ps]
  | help p v out r rh hp hh' hr =>
    obtain ⟨b, h', m1, g', e1, R⟩ := help_step hm G hp hh'
    have := R.r1
    cases b
    · obtain ⟨q1, r', q2, q3⟩ := R.more rfl
      refine ⟨false, ⟨65536, false, ⟨0, 1⟩, 4, W4, 2, h', v, out⟩, m1, g', ?_, R.is, R.good, R.later, fun _ => R.top, by omega, fun _ => ⟨r' + 1, false, by omega, .help _ _ _ _ r' (by rw [q1]; exact hp) q3 (by omega), Or.inl ⟨rfl, fun q => absurd q hp⟩⟩, fun q => by cases q⟩
      simp [Drop.step, e1]
    · have q1 := R.last rfl
      refine ⟨false, ⟨65536, false, ⟨0, 1⟩, 0, W4, 2, h', v, out⟩, m1, g', ?_, R.is, R.good, R.later, fun _ => R.top, by omega, fun _ => ⟨1, false, by omega, .see _ _ _ _ _ _ _ (by rw [q1, seeR_0]; omega), Or.inl ⟨rfl, fun q => absurd q hp⟩⟩, fun q => by cases q⟩
      simp [Drop.step, e1]
  | count p v s r hp hr =>
    have hof : pOf cD 24 = 0 := by decide
    have hck : pChunk cD 0 + 1 = 19 := by simp [pChunk, cD]
    have h1 := hm.add 0 (a := 19) (by omega) (-(room (cls 2)))
    refine ⟨false, ⟨65536, false, ⟨0, 1⟩, 6, W1, 2, p, ⟨0, 0, 0⟩, ⟨0, 0, 0, s⟩⟩, _, _, ?_, h1, ⟨by rw [upd_other (by omega)]; exact G.slot, by rw [upd_other (by omega)]; exact G.head, by rw [upd_other (by omega)]; exact G.c1, by rw [upd_other (by omega)]; exact G.c2⟩,
      ⟨Or.inl (upd_other (by omega)), Or.inl (upd_other (by omega)), Or.inl (upd_other (by omega))⟩, (fun q => by cases q), by omega, fun _ => ⟨3, true, by omega, .give0 _ _ _ _ (by rw [upd_other (by omega)]; exact hp) (by omega), Or.inl ⟨rfl, fun q => by rw [hp] at q; exact absurd q W10.symm⟩⟩, fun q => by cases q⟩
    simp [Drop.step, s_W1, hof, hck, hgens]
  | give0 p tp s r hp hr =>
    obtain ⟨m1, e1, h1⟩ := hm.load 0 (a := 1) (by omega)
    refine ⟨false, ⟨65536, false, ⟨0, 1⟩, 6, W1, 2, p, ⟨1, 0, g 1⟩, ⟨0, 0, 0, s⟩⟩, m1, g, ?_, h1, G, same, (fun q => by cases q), by omega, fun _ => ⟨2, true, by omega, .give1 _ _ _ _ hp rfl (by omega), Or.inl ⟨rfl, fun q => q⟩⟩, fun q => by cases q⟩
    simp [Drop.step, Give.step, e1]
  | give1 p tp s r hp ht hr =>
    have h1 := hm.store 0 (a := 11) (by omega) (putTop (topOf tp).1 0)
    refine ⟨false, ⟨65536, false, ⟨0, 1⟩, 6, W1, 2, p, ⟨2, 0, tp⟩, ⟨0, 0, 0, s⟩⟩, _, _, ?_, h1, ⟨by rw [upd_other (by omega)]; exact G.slot, by rw [upd_other (by omega)]; exact G.head, by rw [upd_other (by omega)]; exact G.c1, by rw [upd_other (by omega)]; exact G.c2⟩,
      ⟨Or.inl (upd_other (by omega)), Or.inl (upd_other (by omega)), Or.inl (upd_other (by omega))⟩, (fun q => by cases q), by omega, fun _ => ⟨1, true, by omega, .give2 _ _ _ _ (by rw [upd_other (by omega)]; exact hp) (by rw [upd_other (by omega)]; exact ht) (by omega), Or.inl ⟨rfl, fun q => by rw [hp] at q; exact absurd q W10.symm⟩⟩, fun q => by cases q⟩
    simp [Drop.step, Give.step, ps]
  | give2 p tp s r hp ht hr =>
    obtain ⟨m1, e1, h1⟩ := hm.cas 0 (a := 1) (by omega) tp (putTop 0 ((topOf tp).2 + 1)) ht.symm
    refine ⟨true, ⟨65536, false, ⟨0, 1⟩, 6, W1, 2, p, ⟨0, 0, tp⟩, ⟨0, 0, 0, s⟩⟩, _, _, ?_, h1, ⟨by rw [upd_other (by omega)]; exact G.slot, by rw [upd_other (by omega)]; exact G.head, by rw [upd_other (by omega)]; exact G.c1, by rw [upd_other (by omega)]; exact G.c2⟩,
      ⟨Or.inl (upd_other (by omega)), Or.inl (upd_other (by omega)), Or.inl (upd_other (by omega))⟩, (fun q => by cases q), by omega, (fun q => by cases q), fun _ => ⟨by rw [upd_other (by omega)]; exact hp, hp, rfl⟩⟩
    simp [Drop.step, Give.step, e1]

/-- Something at a place. -/
def at4 {α : Type} (f : Nat → α) (k : Nat) (v : α) : Nat → α := fun j => if j = k then v else f j
theorem at4_same {α : Type} (f : Nat → α) (k : Nat) (v : α) : at4 f k v k = v := by simp [at4]
theorem at4_other {α : Type} {f : Nat → α} {k j : Nat} {v : α} (h : j ≠ k) : at4 f k v j = f j := by simp [at4, h]

/-- How often it was somebody's turn, when all are picked one after the other. -/
def turns (n k i : Nat) : Nat := (i + n - 1 - k) / n

theorem turns_next {n k i : Nat} (hn : 1 ≤ n ∧ n ≤ 4) (hk : k < n) (j : Nat) (hj : j = i % n) : turns n k (i + 1) = if k = j then turns n k i + 1 else turns n k i := by
  have : n = 1 ∨ n = 2 ∨ n = 3 ∨ n = 4 := by omega
  unfold turns
  rcases this with rfl | rfl | rfl | rfl <;> split <;> omega

theorem turns_many {n k : Nat} (hn : 1 ≤ n ∧ n ≤ 4) (hk : k < n) (a i : Nat) : turns n k a + i / 4 ≤ turns n k (a + i) := by
  have : n = 1 ∨ n = 2 ∨ n = 3 ∨ n = 4 := by omega
  unfold turns
  rcases this with rfl | rfl | rfl | rfl <;> omega

theorem picked_at {i n j : Nat} (hp : i < 150 ∨ j = i % n) (h : i ≠ 149) (h1 : 150 ≤ i + 1) : j = i % n := hp.resolve_left (by omega)
theorem turns_149 {n k i : Nat} (h : i = 149) : turns n k (i + 1) = turns n k 150 := by rw [h]

/-- Where all stand after so many rounds. -/
structure OnceInv (n i : Nat) (m : Mem) (ds : Nat → Drop) (dn : Nat → Bool) (won : Int) : Prop where
  out : ∃ (g : Int → Nat) (st : Int) (rk : Nat → Nat) (ow : Nat → Bool), m.Is 64 g st ∧ OnceG g ∧ 0 ≤ st ∧ st ≤ 100 + i ∧
    (∀ k, k < n → dn k = false → OnceAt g (ds k) (rk k) (ow k) ∧ rk k ≤ 14 ∧ (150 ≤ i → rk k + turns n k i ≤ 14 + turns n k 150)) ∧
    (∀ k, k < n → dn k = true → g 10 = W0) ∧
    ((g 10 = W1 ∧ (∀ k, k < n → ow k = false) ∧ won = 0) ∨ (g 10 ≠ W1 ∧ ∃ w, w < n ∧ ow w = true ∧ (∀ k, k < n → ow k = true → k = w) ∧ won = if dn w = true then 1 else 0))

theorem OnceInv.steps {n i : Nat} {m : Mem} {ds : Nat → Drop} {dn : Nat → Bool} {won : Int} (h : OnceInv n i m ds dn won) : 0 ≤ m.steps ∧ m.steps ≤ 100 + i := by
  obtain ⟨g, st, rk, ow, h1, h2, h3, h4, _⟩ := h.out
  rw [h1.steps]; omega

theorem OnceInv.start (n : Nat) (hn : 1 ≤ n ∧ n ≤ 4) (ds : Nat → Drop) (hd : ∀ k, k < n → ds k = Drop.new 65536 false) : OnceInv n 0 dA.2 ds (fun _ => false) 0 := by
  obtain ⟨g, st, h1, h2, h3, h4, h5, h6, h7⟩ := dA_is
  refine ⟨g, st, fun _ => 14, fun _ => false, h1, ⟨Or.inl h4, h5, Or.inl h6, Or.inl h7⟩, h2, by omega, fun k hk _ => ⟨?_, Nat.le_refl _, fun h => by omega⟩, (fun k _ q => by cases q), Or.inl ⟨h4, fun _ _ => rfl, rfl⟩⟩
  rw [hd k hk]
  exact .see _ _ _ _ _ _ _ (by rw [h4, seeR_1]; exact Nat.le_refl _)

/-- A turn of somebody that is done. -/
theorem OnceInv.skip {n i : Nat} {m : Mem} {ds : Nat → Drop} {dn : Nat → Bool} {won : Int} {j : Nat} (h : OnceInv n i m ds dn won) (hn : 1 ≤ n ∧ n ≤ 4) (hj : j < n) (hp : i < 150 ∨ j = i % n) (hd : dn j = true) : OnceInv n (i + 1) m ds dn won := by
  obtain ⟨g, st, rk, ow, h1, h2, h3, h4, h5, h6, h7⟩ := h.out
  refine ⟨g, st, rk, ow, h1, h2, h3, by omega, fun k hk hdk => ?_, h6, h7⟩
  obtain ⟨q1, q2, q3⟩ := h5 k hk hdk
  refine ⟨q1, q2, fun h150 => ?_⟩
  by_cases he : i = 149
  · rw [turns_149 he]; omega
  · have hji : j = i % n := picked_at hp he h150
    rw [turns_next hn hk j hji, if_neg (fun e => by rw [e, hd] at hdk; cases hdk)]
    exact q3 (by omega)

/-- A turn of somebody that is not done. -/
theorem OnceInv.step {n i : Nat} {m : Mem} {ds : Nat → Drop} {dn : Nat → Bool} {won : Int} {j : Nat} (h : OnceInv n i m ds dn won) (hn : 1 ≤ n ∧ n ≤ 4) (hj : j < n) (hp : i < 150 ∨ j = i % n) (hd : dn j = false) :
    (((ds j).step cD 0 m).1 = false → OnceInv n (i + 1) ((ds j).step cD 0 m).2.2 (at4 ds j ((ds j).step cD 0 m).2.1) dn won) ∧
    (((ds j).step cD 0 m).1 = true → (((ds j).step cD 0 m).2.1.out.e = 0 ∧ OnceInv n (i + 1) ((ds j).step cD 0 m).2.2 (at4 ds j ((ds j).step cD 0 m).2.1) (at4 dn j true) (won + 1)) ∨
      (((ds j).step cD 0 m).2.1.out.e = 3 ∧ OnceInv n (i + 1) ((ds j).step cD 0 m).2.2 (at4 ds j ((ds j).step cD 0 m).2.1) (at4 dn j true) won)) := by
  obtain ⟨g, st, rk, ow, h1, h2, h3, h4, h5, h6, h7⟩ := h.out
  obtain ⟨q1, q2, q3⟩ := h5 j hj hd
  obtain ⟨b, d', m', g', e, R⟩ := once_step h1 h2 q1
  rw [e]
  simp only
  have hr1 := R.r1
  have others : ∀ (dn' : Nat → Bool) (rk' : Nat → Nat) (ow' : Nat → Bool), (∀ k, k ≠ j → dn' k = dn k) → (∀ k, k ≠ j → rk' k = rk k) → (∀ k, k ≠ j → ow' k = ow k) → ∀ k, k < n → k ≠ j → dn' k = false → OnceAt g' (at4 ds j d' k) (rk' k) (ow' k) ∧ rk' k ≤ 14 ∧ (150 ≤ i + 1 → rk' k + turns n k (i + 1) ≤ 14 + turns n k 150) := by
    intro dn' rk' ow' z1 z2 z3 k hk hkj hdk
    rw [at4_other hkj, z2 k hkj, z3 k hkj]
    rw [z1 k hkj] at hdk
    obtain ⟨p1, p2, p3⟩ := h5 k hk hdk
    refine ⟨p1.later R.later (fun ho => ?_), p2, fun h150 => ?_⟩
    · cases hoj : ow j
      · exact R.top hoj
      · exfalso
        rcases h7 with ⟨_, w, _⟩ | ⟨_, w, _, _, w2, _⟩
        · rw [w k hk] at ho; cases ho
        · exact hkj ((w2 k hk ho).trans (w2 j hj hoj).symm)
    · by_cases he : i = 149
      · rw [turns_149 he]; omega
      · rw [turns_next hn hk j (picked_at hp he h150), if_neg hkj]
        exact p3 (by omega)
  refine ⟨fun hb => ?_, fun hb => ?_⟩
  · obtain ⟨r', o', p1, p2, p3⟩ := R.more hb
    refine ⟨g', st + 1, at4 rk j r', at4 ow j o', R.is, R.good, by omega, by omega, fun k hk hdk => ?_, fun k hk hdk => R.later.eq0 (h6 k hk hdk), ?_⟩
    · by_cases hkj : k = j
      · subst hkj
        rw [at4_same, at4_same, at4_same]
        refine ⟨p2, by omega, fun h150 => ?_⟩
        by_cases he : i = 149
        · rw [turns_149 he]; omega
        · rw [turns_next hn hk k (picked_at hp he h150), if_pos rfl]
          have := q3 (by omega)
          omega
      · exact others dn _ _ (fun _ _ => rfl) (fun k hk => at4_other hk) (fun k hk => at4_other hk) k hk hkj hdk
    · rcases p3 with ⟨p3, p4⟩ | ⟨p3, p4, p5, p6⟩
      · have ow_eq : at4 ow j o' = ow := by
          funext k; by_cases hkj : k = j
          · rw [hkj, at4_same, p3]
          · exact at4_other hkj
        rw [ow_eq]
        rcases h7 with ⟨w1, w2, w3⟩ | ⟨w1, w2⟩
        · exact Or.inl ⟨p4 w1, w2, w3⟩
        · exact Or.inr ⟨R.later.ne1 w1, w2⟩
      · rcases h7 with ⟨w1, w2, w3⟩ | ⟨w1, w2⟩
        · refine Or.inr ⟨by rw [p6]; exact W14.symm, j, hj, by rw [at4_same]; exact p4, fun k hk ho => ?_, by rw [hd]; simpa using w3⟩
          by_cases hkj : k = j
          · exact hkj
          · rw [at4_other hkj, w2 k hk] at ho; cases ho
        · exact absurd p5 w1
  · obtain ⟨p1, p2, p3⟩ := R.last hb
    have key : ∀ won', ((g' 10 ≠ W1 ∧ ∃ w, w < n ∧ ow w = true ∧ (∀ k, k < n → ow k = true → k = w) ∧ won' = if at4 dn j true w = true then (1 : Int) else 0)) → OnceInv n (i + 1) m' (at4 ds j d') (at4 dn j true) won' := by
      intro won' hw
      refine ⟨g', st + 1, rk, ow, R.is, R.good, by omega, by omega, fun k hk hdk => ?_, fun k hk hdk => p1, Or.inr hw⟩
      by_cases hkj : k = j
      · subst hkj; rw [at4_same] at hdk; cases hdk
      · exact others (at4 dn j true) rk ow (fun k hk => at4_other hk) (fun _ _ => rfl) (fun _ _ => rfl) k hk hkj hdk
    have hne : g' 10 ≠ W1 := by rw [p1]; exact W10.symm
    rcases h7 with ⟨w1, _⟩ | ⟨w1, w, z1, z2, z3, z4⟩
    · rw [p2] at w1; exact absurd w1 W10.symm
    · by_cases hwj : w = j
      · subst hwj
        rw [z2] at p3
        refine Or.inl ⟨p3, key _ ⟨hne, w, z1, z2, z3, ?_⟩⟩
        rw [at4_same, z4, hd]; rfl
      · have hoj : ow j = false := by
          cases h : ow j
          · rfl
          · exact absurd (z3 j hj h).symm hwj
        rw [hoj] at p3
        refine Or.inr ⟨p3, key _ ⟨hne, w, z1, z2, z3, ?_⟩⟩
        rw [at4_other hwj]; exact z4

theorem OnceInv.final {n : Nat} {m : Mem} {ds : Nat → Drop} {dn : Nat → Bool} {won : Int} (h : OnceInv n 300 m ds dn won) (hn : 1 ≤ n ∧ n ≤ 4) : (∀ k, k < n → dn k = true) ∧ won = 1 := by
  obtain ⟨g, st, rk, ow, h1, h2, h3, h4, h5, h6, h7⟩ := h.out
  have all : ∀ k, k < n → dn k = true := by
    intro k hk
    cases hd : dn k
    · exfalso
      obtain ⟨_, _, q⟩ := h5 k hk hd
      have := q (by omega)
      have h2 : turns n k 150 + 150 / 4 ≤ turns n k 300 := turns_many hn hk 150 150
      omega
    · rfl
  refine ⟨all, ?_⟩
  have h0 := h6 0 (by omega) (all 0 (by omega))
  rcases h7 with ⟨w1, _⟩ | ⟨w1, w, z1, z2, z3, z4⟩
  · rw [h0] at w1; exact absurd w1 W10.symm
  · rw [all w z1] at z4; simpa using z4

end Go.Proofs.Ythblhgappldcjaa.Fl
