/- Many that stand in a world side by side. -/
import Derived.Test.YthblhgappldcjaaXg
import Derived.Test.YthblhgappldcjaaPj
namespace Go.Proofs.Ythblhgappldcjaa
open Go Go.RowKit
set_option linter.unusedVariables false

theorem goodD4 : GoodC Fl.cD := ⟨by simp [Fl.cD], by simp [Fl.cD], by simp [Fl.cD], by simp [Fl.cD], by simp [Fl.cD], by simp [Fl.cD], by simp [Fl.cD]⟩
theorem addr_block (a : Addr) (i : Nat) : (a.add i).block = a.block := by unfold Addr.add; split <;> rfl
theorem cell_kept {w w' : World} {a : Addr} (h : w'.heap[a.block]? = w.heap[a.block]?) : w'.cell? a = w.cell? a := by simp [World.cell?, h]

theorem GiveAt.kept {W W' : World} {b : Nat} {g : Fl.Give} {S : List Nat} (k : GiveAt W b g) (hu : Upd S W W') (hn : b ∉ S) : GiveAt W' b g := by
  obtain ⟨h1, h2, h3⟩ := k
  exact ⟨hu.keep h1 hn, h2, h3⟩

theorem DropAt.kept {W W' : World} {l : Loc} {F S : List Nat} {b : Nat} {d : Fl.Drop} (h : DropAt W l F b d) (u : Upd S W W') (hS : ∀ x, x ∈ F → x ∉ S) : DropAt W' l F b d := by
  obtain ⟨⟨H, G, hB, hH, hG⟩, hbF, hout, hFl, hn, hw, hsl, hgn, hsz, hpc⟩ := h
  refine ⟨⟨H, G, u.keep hB (hS b hbF), fun q => ?_, fun q => ?_⟩, hbF, hout, fun y hy => Nat.lt_of_lt_of_le (hFl y hy) u.size, hn, hw, hsl, hgn, hsz, hpc⟩
  · obtain ⟨p, h1, h2, h3, h4⟩ := hH q
    exact ⟨p, h1, h2, h3, h4.keep u (hS p h1)⟩
  · obtain ⟨p, h1, h2, h3, h4⟩ := hG q
    exact ⟨p, h1, h2, h3, h4.kept u (hS p h1)⟩

theorem AccessAt.kept {W W' : World} {l : Loc} {F S : List Nat} {b : Nat} {a : Fl.Access} (h : AccessAt W l F b a) (u : Upd S W W') (hS : ∀ x, x ∈ F → x ∉ S) : AccessAt W' l F b a := by
  obtain ⟨⟨H, hB, hH⟩, hbF, hout, hFl, hn, hw, hcl, hsl, hgn, hsz, hpc⟩ := h
  refine ⟨⟨H, u.keep hB (hS b hbF), fun q => ?_⟩, hbF, hout, fun y hy => Nat.lt_of_lt_of_le (hFl y hy) u.size, hn, hw, hcl, hsl, hgn, hsz, hpc⟩
  obtain ⟨p, h1, h2, h3, h4⟩ := hH q
  exact ⟨p, h1, h2, h3, h4.keep u (hS p h1)⟩

/-- A thing that stands in blocks of its own. -/
structure Keeps {α : Type} (P : World → Loc → List Nat → Nat → α → Prop) : Prop where
  keep : ∀ {W W' : World} {l : Loc} {F S : List Nat} {b : Nat} {a : α}, P W l F b a → Upd S W W' → (∀ x, x ∈ F → x ∉ S) → P W' l F b a
  mem : ∀ {W : World} {l : Loc} {F : List Nat} {b : Nat} {a : α}, P W l F b a → b ∈ F
  out : ∀ {W : World} {l : Loc} {F : List Nat} {b : Nat} {a : α}, P W l F b a → ∀ x, x ∈ F → x ∉ l.all
  lt : ∀ {W : World} {l : Loc} {F : List Nat} {b : Nat} {a : α}, P W l F b a → ∀ x, x ∈ F → x < W.heap.size

theorem keepsDrop : Keeps DropAt := ⟨fun h u hS => h.kept u hS, fun h => h.mem, fun h => h.out, fun h => h.lt⟩
theorem keepsAccess : Keeps AccessAt := ⟨fun h u hS => h.kept u hS, fun h => h.mem, fun h => h.out, fun h => h.lt⟩

/-- Those that c tells of stand apart from each other, from the blocks X, above lo. -/
structure Many {α : Type} (P : World → Loc → List Nat → Nat → α → Prop) (c : Nat → Prop) (w : World) (l : Loc) (B : Nat → Nat) (Fs : Nat → List Nat) (xs : Nat → α) (lo : Nat) (X : List Nat) : Prop where
  is : ∀ k, c k → P w l (Fs k) (B k) (xs k)
  lo : ∀ k, c k → ∀ x, x ∈ Fs k → lo ≤ x ∧ x ∉ X
  apart : ∀ j k, c j → c k → j ≠ k → ∀ x, x ∈ Fs j → x ∉ Fs k

variable {α : Type} {P : World → Loc → List Nat → Nat → α → Prop} {c : Nat → Prop} {w w' : World} {l : Loc} {B : Nat → Nat} {Fs : Nat → List Nat} {xs : Nat → α} {lo : Nat} {X : List Nat}

theorem Many.none (h : ∀ k, ¬ c k) : Many P c w l B Fs xs lo X := ⟨fun k hk => absurd hk (h k), fun k hk => absurd hk (h k), fun j k hj => absurd hj (h j)⟩

theorem Many.keep (K : Keeps P) (h : Many P c w l B Fs xs lo X) {S : List Nat} (u : Upd S w w') (hS : ∀ x, x ∈ S → x ∈ X) : Many P c w' l B Fs xs lo X :=
  ⟨fun k hk => K.keep (h.is k hk) u (fun x hx hm => (h.lo k hk x hx).2 (hS x hm)), h.lo, h.apart⟩
theorem Many.ext (K : Keeps P) (h : Many P c w l B Fs xs lo X) (u : Ext w w') : Many P c w' l B Fs xs lo X := h.keep K (u.upd []) (by simp)
/-- The memory's blocks change. -/
theorem Many.mem (K : Keeps P) (h : Many P c w l B Fs xs lo X) (u : Upd l.all w w') : Many P c w' l B Fs xs lo X :=
  ⟨fun k hk => K.keep (h.is k hk) u (K.out (h.is k hk)), h.lo, h.apart⟩

/-- A new one stands in a new block. -/
theorem Many.new (K : Keeps P) (h : Many P c w l B Fs xs lo X) (u : Ext w w') {j b : Nat} {a : α} (hb : w.heap.size ≤ b) (ha : P w' l [b] b a) (hl : lo ≤ w.heap.size) (hX : ∀ x, x ∈ X → x < w.heap.size) (c' : Nat → Prop) (hc : ∀ k, c' k → c k ∨ k = j) :
    Many P c' w' l (Fl.at4 B j b) (Fl.at4 Fs j [b]) (Fl.at4 xs j a) lo X := by
  have old : ∀ k, c' k → k ≠ j → c k := fun k hk hj => (hc k hk).resolve_right hj
  refine ⟨fun k hk => ?_, fun k hk x hx => ?_, fun i k hi hk hik x hx => ?_⟩
  · by_cases hj : k = j
    · rw [hj, Fl.at4_same, Fl.at4_same, Fl.at4_same]; exact ha
    · rw [Fl.at4_other hj, Fl.at4_other hj, Fl.at4_other hj]; exact K.keep (h.is k (old k hk hj)) (u.upd []) (by simp)
  · by_cases hj : k = j
    · rw [hj, Fl.at4_same] at hx
      rw [List.mem_singleton.1 hx]
      exact ⟨by omega, fun hm => by have := hX _ hm; omega⟩
    · rw [Fl.at4_other hj] at hx; exact h.lo k (old k hk hj) x hx
  · by_cases h1 : i = j
    · rw [h1, Fl.at4_same] at hx
      rw [Fl.at4_other (by omega), List.mem_singleton.1 hx]
      intro hm
      have := K.lt (h.is k (old k hk (by omega))) _ hm
      omega
    · rw [Fl.at4_other h1] at hx
      have hlt := K.lt (h.is i (old i hi h1)) x hx
      by_cases h2 : k = j
      · rw [h2, Fl.at4_same]; intro hm; rw [List.mem_singleton.1 hm] at hlt; omega
      · rw [Fl.at4_other h2]; exact h.apart i k (old i hi h1) (old k hk h2) hik x hx

/-- One of them does a step. -/
theorem Many.step (K : Keeps P) (h : Many P c w l B Fs xs lo X) {j : Nat} (hj : c j) (u : Upd (Fs j ++ l.all) w w') {F' : List Nat} {a : α} (ha : P w' l F' (B j) a) (hF : ∀ x, x ∈ F' → x ∈ Fs j ∨ w.heap.size ≤ x) (hl : lo ≤ w.heap.size) (hX : ∀ x, x ∈ X → x < w.heap.size) :
    Many P c w' l B (Fl.at4 Fs j F') (Fl.at4 xs j a) lo X := by
  refine ⟨fun k hk => ?_, fun k hk x hx => ?_, fun i k hi hk hik x hx => ?_⟩
  · by_cases hkj : k = j
    · rw [hkj, Fl.at4_same, Fl.at4_same]; exact ha
    · rw [Fl.at4_other hkj, Fl.at4_other hkj]
      refine K.keep (h.is k hk) u (fun x hx hm => ?_)
      rcases List.mem_append.1 hm with hm | hm
      · exact h.apart k j hk hj hkj x hx hm
      · exact K.out (h.is k hk) x hx hm
  · by_cases hkj : k = j
    · rw [hkj, Fl.at4_same] at hx
      rcases hF x hx with h1 | h1
      · exact h.lo j hj x h1
      · exact ⟨by omega, fun hm => by have := hX _ hm; omega⟩
    · rw [Fl.at4_other hkj] at hx; exact h.lo k hk x hx
  · by_cases h1 : i = j
    · rw [h1, Fl.at4_same] at hx
      rw [Fl.at4_other (by omega)]
      rcases hF x hx with h2 | h2
      · exact h.apart j k hj hk (by omega) x h2
      · intro hm; have := K.lt (h.is k hk) x hm; omega
    · rw [Fl.at4_other h1] at hx
      by_cases h2 : k = j
      · rw [h2, Fl.at4_same]
        intro hm
        rcases hF x hm with h3 | h3
        · exact h.apart i j hi hj h1 x hx h3
        · have := K.lt (h.is i hi) x hx; omega
      · rw [Fl.at4_other h2]; exact h.apart i k hi hk hik x hx

/-- What a step of one of them touches, seen from a block that is none of theirs. -/
theorem Many.far (K : Keeps P) (h : Many P c w l B Fs xs lo X) {j : Nat} (hj : c j) {b : Nat} (hb : b ∈ X) (hbl : b ∉ l.all) : b ∉ Fs j ++ l.all := by
  intro hm
  rcases List.mem_append.1 hm with hm | hm
  · exact (h.lo j hj b hm).2 hb
  · exact hbl hm

/-- Four values. -/
def arr4 (f : Nat → Value) : Array Value := #[f 0, f 1, f 2, f 3]
theorem arr4_get (f : Nat → Value) {k : Nat} (h : k < 4) : (arr4 f)[k]? = some (f k) := by
  have : k = 0 ∨ k = 1 ∨ k = 2 ∨ k = 3 := by omega
  rcases this with rfl | rfl | rfl | rfl <;> rfl
theorem arr4_set (f : Nat → Value) (k : Nat) (v : Value) : (arr4 f).setIfInBounds k v = arr4 (Fl.at4 f k v) := by
  by_cases h : k < 4
  · have : k = 0 ∨ k = 1 ∨ k = 2 ∨ k = 3 := by omega
    rcases this with rfl | rfl | rfl | rfl <;> simp [arr4, Fl.at4]
  · rw [Array.setIfInBounds_eq_of_size_le (by simp [arr4]; omega)]
    simp only [arr4]
    rw [Fl.at4_other (by omega), Fl.at4_other (by omega), Fl.at4_other (by omega), Fl.at4_other (by omega)]

theorem arr4_cell {w : World} {b : Nat} {f : Nat → Value} {t : TypeId} {x : Nat × Nat} (h : w.heap[b]? = some (.cells (arr4 f) t x)) {k : Nat} (hk : k < 4) {w' : World} (u : Ext w w') : w'.cell? ⟨b, k, none⟩ = some (f k) := by
  rw [cell_of (u.keep h) k, arr4_get f hk]

/-- A pointer, or none. -/
def ptrs (n : Nat) (B : Nat → Nat) (k : Nat) : Value := if k < n then .pointer (some ⟨B k, 0, none⟩) else .pointer none
theorem ptrs_next (j : Nat) (B : Nat → Nat) (b : Nat) : Fl.at4 (ptrs j B) j (.pointer (some ⟨b, 0, none⟩)) = ptrs (j + 1) (Fl.at4 B j b) := by
  funext k
  unfold ptrs
  by_cases h : k = j
  · rw [h, Fl.at4_same, if_pos (by omega), Fl.at4_same]
  · rw [Fl.at4_other h]
    by_cases h1 : k < j
    · rw [if_pos h1, if_pos (by omega), Fl.at4_other h]
    · rw [if_neg h1, if_neg (by omega)]
theorem bools_next (f : Nat → Bool) (j : Nat) (b : Bool) : Fl.at4 (fun k => Value.bool (f k)) j (.bool b) = fun k => .bool (Fl.at4 f j b k) := by
  funext k
  by_cases h : k = j
  · rw [h, Fl.at4_same, Fl.at4_same]
  · rw [Fl.at4_other h, Fl.at4_other h]
theorem ints_next (f : Nat → Int) (j : Nat) (b : Int) : Fl.at4 (fun k => Value.int .i64 (f k)) j (.int .i64 b) = fun k => .int .i64 (Fl.at4 f j b k) := by
  funext k
  by_cases h : k = j
  · rw [h, Fl.at4_same, Fl.at4_same]
  · rw [Fl.at4_other h, Fl.at4_other h]

/-- Who is picked. -/
theorem pick_rem (z : Int) (n : Nat) (hn : 1 ≤ n ∧ n ≤ 4) : ∃ k : Nat, k < n ∧ (z.tmod n + n).tmod n = k ∧ -4 < z.tmod n ∧ z.tmod n < 4 := by
  have h1 : -(n : Int) < z.tmod n := Int.lt_tmod_of_pos z (by omega)
  have h2 : z.tmod n < n := Int.tmod_lt_of_pos z (by omega)
  have h3 : 0 ≤ (z.tmod n + n).tmod n := Int.tmod_nonneg _ (by omega)
  have h4 : (z.tmod n + n).tmod n < n := Int.tmod_lt_of_pos _ (by omega)
  exact ⟨((z.tmod n + n).tmod n).toNat, by omega, by omega, by omega, by omega⟩
theorem round_rem (i n : Nat) : ((i : Int)).tmod (n : Int) = ((i % n : Nat) : Int) := by
  rw [Int.tmod_eq_emod_of_nonneg (by omega)]; rfl

end Go.Proofs.Ythblhgappldcjaa
