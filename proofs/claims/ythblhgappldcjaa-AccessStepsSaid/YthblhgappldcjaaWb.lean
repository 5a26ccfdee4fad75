/- Three that come and go, side by side. -/
import Derived.Test.YthblhgappldcjaaWa
import Derived.Test.YthblhgappldcjaaPk
namespace Go.Proofs.Ythblhgappldcjaa
open Go Go.RowKit
set_option linter.unusedVariables false

theorem field_d2 (x0 x1 x2 x3 : Value) (w : World) : (Instr.field 34 (.agg #[x0, x1, x2, x3]) 2).run Try.prog w = .ok x2 w := by
  simp [go_sem, Instr.field, asAgg]

def arr3 (f : Nat → Value) : Array Value := #[f 0, f 1, f 2]
theorem arr3_get (f : Nat → Value) {k : Nat} (h : k < 3) : (arr3 f)[k]? = some (f k) := by
  have : k = 0 ∨ k = 1 ∨ k = 2 := by omega
  rcases this with rfl | rfl | rfl <;> rfl
theorem arr3_set (f : Nat → Value) (k : Nat) (v : Value) : (arr3 f).setIfInBounds k v = arr3 (Fl.at4 f k v) := by
  by_cases h : k < 3
  · have : k = 0 ∨ k = 1 ∨ k = 2 := by omega
    rcases this with rfl | rfl | rfl <;> simp [arr3, Fl.at4]
  · rw [Array.setIfInBounds_eq_of_size_le (by simp [arr3]; omega)]
    simp only [arr3]
    rw [Fl.at4_other (by omega), Fl.at4_other (by omega), Fl.at4_other (by omega)]
theorem arr3_cell {w : World} {b : Nat} {f : Nat → Value} {t : TypeId} {x : Nat × Nat} (h : w.heap[b]? = some (.cells (arr3 f) t x)) {k : Nat} (hk : k < 3) {w' : World} (u : Ext w w') : w'.cell? ⟨b, k, none⟩ = some (f k) := by
  rw [cell_of (u.keep h) k, arr3_get f hk]

/-- An access, if there is one. -/
def OptAt (W : World) (l : Loc) (F : List Nat) (b : Nat) (o : Option Fl.Access) : Prop := ∃ a, o = some a ∧ AccessAt W l F b a
theorem keepsOpt : Keeps OptAt :=
  ⟨fun ⟨a, h, k⟩ u hS => ⟨a, h, k.kept u hS⟩, fun ⟨a, h, k⟩ => k.mem, fun ⟨a, h, k⟩ => k.out, fun ⟨a, h, k⟩ => k.lt⟩

def wptr (who : Nat → Option Fl.Access) (B : Nat → Nat) (k : Nat) : Value :=
  match who k with
  | some _ => .pointer (some ⟨B k, 0, none⟩)
  | none => .pointer none
theorem wptr_new (who : Nat → Option Fl.Access) (B : Nat → Nat) (j b : Nat) (a : Fl.Access) : Fl.at4 (wptr who B) j (.pointer (some ⟨b, 0, none⟩)) = wptr (Fl.at4 who j (some a)) (Fl.at4 B j b) := by
  funext k
  unfold wptr
  by_cases h : k = j
  · rw [h, Fl.at4_same, Fl.at4_same, Fl.at4_same]
  · rw [Fl.at4_other h, Fl.at4_other h, Fl.at4_other h]
theorem wptr_end (who : Nat → Option Fl.Access) (B : Nat → Nat) (j : Nat) : Fl.at4 (wptr who B) j (.pointer none) = wptr (Fl.at4 who j none) B := by
  funext k
  unfold wptr
  by_cases h : k = j
  · rw [h, Fl.at4_same, Fl.at4_same]
  · rw [Fl.at4_other h, Fl.at4_other h]
theorem wptr_step {who : Nat → Option Fl.Access} (B : Nat → Nat) {j : Nat} {a : Fl.Access} (a' : Fl.Access) (h : who j = some a) : wptr (Fl.at4 who j (some a')) B = wptr who B := by
  funext k
  unfold wptr
  by_cases hk : k = j
  · rw [hk, Fl.at4_same, h]
  · rw [Fl.at4_other hk]

def has (who : Nat → Option Fl.Access) (k : Nat) : Prop := k < 3 ∧ (who k).isSome = true
theorem has_of {who : Nat → Option Fl.Access} {k : Nat} {a : Fl.Access} (hk : k < 3) (h : who k = some a) : has who k := ⟨hk, by rw [h]; rfl⟩
theorem has_new {who : Nat → Option Fl.Access} {j : Nat} {o : Option Fl.Access} : ∀ k, has (Fl.at4 who j o) k → has who k ∨ k = j := by
  intro k ⟨h1, h2⟩
  by_cases h : k = j
  · exact Or.inr h
  · rw [Fl.at4_other h] at h2; exact Or.inl ⟨h1, h2⟩
theorem has_step {who : Nat → Option Fl.Access} {j : Nat} {a a' : Fl.Access} (hj : who j = some a) : ∀ k, has (Fl.at4 who j (some a')) k → has who k := by
  intro k ⟨h1, h2⟩
  by_cases h : k = j
  · subst h; exact ⟨h1, by rw [hj]; rfl⟩
  · rw [Fl.at4_other h] at h2; exact ⟨h1, h2⟩

theorem Many.less {α : Type} {P : World → Loc → List Nat → Nat → α → Prop} {c c' : Nat → Prop} {w : World} {l : Loc} {B : Nat → Nat} {Fs : Nat → List Nat} {xs : Nat → α} {lo : Nat} {X : List Nat} (h : Many P c w l B Fs xs lo X) (hc : ∀ k, c' k → c k) : Many P c' w l B Fs xs lo X :=
  ⟨fun k hk => h.is k (hc k hk), fun k hk => h.lo k (hc k hk), fun j k hj hk => h.apart j k (hc j hj) (hc k hk)⟩
/-- One of them is gone. -/
theorem Many.gone {w : World} {l : Loc} {B : Nat → Nat} {Fs : Nat → List Nat} {who : Nat → Option Fl.Access} {lo : Nat} {X : List Nat} (h : Many OptAt (has who) w l B Fs who lo X) (j : Nat) : Many OptAt (has (Fl.at4 who j Option.none)) w l B Fs (Fl.at4 who j Option.none) lo X := by
  have hc : ∀ k, has (Fl.at4 who j Option.none) k → k ≠ j ∧ has who k := by
    intro k ⟨h1, h2⟩
    by_cases h : k = j
    · subst h; rw [Fl.at4_same] at h2; cases h2
    · rw [Fl.at4_other h] at h2; exact ⟨h, h1, h2⟩
  refine ⟨fun k hk => ?_, fun k hk => h.lo k (hc k hk).2, fun j k hj hk => h.apart j k (hc j hj).2 (hc k hk).2⟩
  rw [Fl.at4_other (hc k hk).1]
  exact h.is k (hc k hk).2

theorem Fl.cX_read {o : Int} (h : o < 0) : Fl.cX o = ⟨1, 65536, 0, 0, 0⟩ := by unfold Fl.cX; rw [if_pos h]
theorem Fl.cX_cas {o : Int} (h : o ≥ 0) : Fl.cX o = ⟨3, 65536, 0, o + 1, o⟩ := by unfold Fl.cX; rw [if_neg (by omega)]

/-- The first step of somebody who begins ends nothing. -/
theorem Fl.CountInv.first {i : Nat} {m : Fl.Mem} {who : Nat → Option Fl.Access} {old : Nat → Int} {did : Int} (h : Fl.CountInv i m who old did) (hi : i ≤ 10000) {j : Nat} (hj : j < 3) : ((Fl.Access.new (Fl.cX (old j)) false).step Fl.cD 0 m).1 = false := by
  obtain ⟨g, st, c, h1, h2, h3, h4, h5, h6, h7, h8⟩ := h.out
  obtain ⟨b, a', m', e, R⟩ := Fl.acc_step h1 h2 (Fl.cX_plain (o := old j) (by have := h7 j hj; omega)) (Fl.AccAt.new _)
  rw [e]
  cases R with
  | more _ _ _ _ _ => rfl
  | laid _ _ _ hp => simp [Fl.Access.new] at hp
  | told _ _ _ hp => simp [Fl.Access.new] at hp

end Go.Proofs.Ythblhgappldcjaa
