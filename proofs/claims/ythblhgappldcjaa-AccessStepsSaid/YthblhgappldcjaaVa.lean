/- Contracts whose values are given. -/
import Derived.Test.YthblhgappldcjaaE
namespace Go.Proofs.Ythblhgappldcjaa
open Go Go.RowKit
set_option linter.unusedVariables false

theorem peek_lt {W : World} {l : Loc} {σ : Fl.Mem} (h : MemAt W l σ) (a : Int) : σ.peek a < 18446744073709551616 := by
  have := load_lt h 0 a
  unfold Fl.Mem.load at this
  unfold Fl.Mem.peek
  split <;> simp_all

theorem v_slot (n : Nat) (s : Fl.Sl) (w : World) (h : Fl.slotOf n = s) (hn : n < 18446744073709551616) :
    Calls Try.prog 39 #[.int .u64 n] w fun e w' => e = .returned (.agg #[.int .i64 s.state, .int .i64 s.addr, .int .i64 s.gen, .int .i64 s.ver]) ∧ Ext w w' := by
  subst h; exact c_slot n w hn
theorem v_pSlot (c : Fl.Cfg) (s p : Int) (w : World) (h : Fl.pSlot c s = p) (g : GoodC c) (hs : -4294967296 ≤ s ∧ s ≤ 4294967296) :
    Calls Try.prog 41 #[.agg #[.int .i64 c.threads, .int .i64 c.slots, .int .i64 c.chunks, .int .i64 c.words, .int .i64 c.gens, .int .i64 c.sparse, .int .i64 c.tries], .int .i64 s] w fun e w' => e = .returned (.int .i64 p) ∧ Ext w w' := by
  subst h; exact c_pSlot c s w g hs
theorem v_pChunk (c : Fl.Cfg) (s p : Int) (w : World) (h : Fl.pChunk c s = p) (g : GoodC c) (hs : -4294967296 ≤ s ∧ s ≤ 4294967296) :
    Calls Try.prog 44 #[.agg #[.int .i64 c.threads, .int .i64 c.slots, .int .i64 c.chunks, .int .i64 c.words, .int .i64 c.gens, .int .i64 c.sparse, .int .i64 c.tries], .int .i64 s] w fun e w' => e = .returned (.int .i64 p) ∧ Ext w w' := by
  subst h; exact c_pChunk c s w g hs
theorem v_peek (l : Loc) (σ : Fl.Mem) (a : Int) (n : Nat) (W : World) (hn : σ.peek a = n) (h : MemAt W l σ) :
    Calls Try.prog 40 #[.pointer (some ⟨l.m, 0, none⟩), .int .i64 a] W fun e w' => e = .returned (.int .u64 (n : Nat)) ∧ Ext W w' := by
  subst hn; exact c_peek l σ a W h
theorem v_putSlot (a b c d : Int) (n : Nat) (w : World) (h : Fl.putSlot ⟨a, b, c, d⟩ = n) :
    Calls Try.prog 46 #[.agg #[.int .i64 a, .int .i64 b, .int .i64 c, .int .i64 d]] w fun e w' => e = .returned (.int .u64 (n : Nat)) ∧ Ext w w' := by
  subst h; exact c_putSlot a b c d w
theorem v_head (n : Nat) (k : Fl.Hed) (w : World) (h : Fl.headOf n = k) (hn : n < 18446744073709551616) :
    Calls Try.prog 73 #[.int .u64 n] w fun e w' => e = .returned (.agg #[.int .i64 k.kind, .int .i64 k.size, .int .i64 k.slot, .int .i64 k.gen, .bool k.own]) ∧ Ext w w' := by
  subst h; exact c_head n w hn

end Go.Proofs.Ythblhgappldcjaa
