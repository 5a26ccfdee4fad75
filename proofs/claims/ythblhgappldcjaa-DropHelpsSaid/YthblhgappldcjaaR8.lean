/- DropHelps: the walk. -/
import Derived.Test.YthblhgappldcjaaNa
import Derived.Test.YthblhgappldcjaaPh
import Derived.Test.YthblhgappldcjaaSa
import Derived.Test.YthblhgappldcjaaSb
import Derived.Test.YthblhgappldcjaaVa
import Derived.Deep.CutBlock
import Derived.Deep.DeepCutAuto
namespace Go.Proofs.Ythblhgappldcjaa
open Go Go.RowKit
set_option linter.unusedVariables false

theorem goodH : GoodC Fl.cH := ⟨by simp [Fl.cH], by simp [Fl.cH], by simp [Fl.cH], by simp [Fl.cH], by simp [Fl.cH], by simp [Fl.cH], by simp [Fl.cH]⟩
theorem pSlotH : Fl.pSlot Fl.cH 0 = 8 := by simp [Fl.pSlot, Fl.cH]
theorem pChunkH : Fl.pChunk Fl.cH 0 = 16 := by simp [Fl.pChunk, Fl.cH]

theorem DropAt.keepU {W W' : World} {l : Loc} {F S : List Nat} {b : Nat} {d : Fl.Drop} (h : DropAt W l F b d) (u : Upd S W W') (hS : ∀ x, x ∈ F → x ∉ S) : DropAt W' l F b d := by
  obtain ⟨⟨H, G, hB, hH, hG⟩, hbF, hout, hFl, hn, hw, hsl, hgn, hsz, hpc⟩ := h
  refine ⟨⟨H, G, u.keep hB (hS b hbF), fun q => ?_, fun q => ?_⟩, hbF, hout, fun y hy => Nat.lt_of_lt_of_le (hFl y hy) u.size, hn, hw, hsl, hgn, hsz, hpc⟩
  · obtain ⟨p, h1, h2, h3, h4⟩ := hH q
    exact ⟨p, h1, h2, h3, h4.keep u (hS p h1)⟩
  · obtain ⟨p, h1, h2, h3, h4⟩ := hG q
    exact ⟨p, h1, h2, h3, h4.keep u (hS p h1)⟩

theorem hEnd_steps {m : Fl.Mem} {d : Fl.Drop} {b : Bool} (h : Fl.hEnd m d b = true) : m.steps < 100000 ∧ 0 ≤ m.steps := by
  unfold Fl.hEnd at h
  generalize Fl.Drop.loop Fl.cH 0 200 m (Fl.Drop.new 65536 false) = oo at *
  obtain ⟨o, σt⟩ := oo
  simp only at h
  generalize Fl.Drop.part Fl.cH 0 200 σt d b = rt at *
  obtain ⟨d2, σ2, b2⟩ := rt
  simp only [Bool.and_eq_true, decide_eq_true_eq] at h
  exact h.1.1.1.1.1

theorem hloop_eq (c : Fl.Cfg) (who : Int) (k : Nat) (m : Fl.Mem) (h : Fl.Help) : Fl.Help.loop c who (k + 1) m h = if (h.step c who m).1 = true then ((h.step c who m).2.1, (h.step c who m).2.2) else Fl.Help.loop c who k (h.step c who m).2.2 (h.step c who m).2.1 := rfl


set_option maxHeartbeats 8000000 in
set_option maxRecDepth 100000 in
theorem w_dropHelps (size steps : Int) (W : World) : Calls Try.prog 8 #[.int .i64 size, .int .i64 steps] W fun e w' => e = .returned (.bool true) ∧ Ext W w' := by
  have fl0 := field_done0
  have fl1 := field_done1
  have ia := iand15 size
  have ib := iand63 steps
  obtain ⟨n, hn, hn1⟩ : ∃ n : Nat, 1 + size % 16 = (n : Int) ∧ 1 ≤ n ∧ n ≤ 16 := ⟨(1 + size % 16).toNat, by omega, by omega, by omega⟩
  obtain ⟨s, hs, hs1⟩ : ∃ s : Nat, steps % 64 = (s : Int) ∧ s ≤ 63 := ⟨(steps % 64).toNat, by omega, by omega⟩
  have hw : IntKind.i64.wrap (n : Int) = (n : Int) := IntWalk.i64_in _ (by omega)
  have HN := Fl.hN_all (n := n) (by omega)
  simp only [Fl.hN, Bool.and_eq_true, decide_eq_true_eq] at HN
  obtain ⟨⟨sa, oa⟩, hall⟩ := HN
  have hat := Fl.hAll_at n 63 _ _ _ hall
  have HS := Lib.hid sa
  have HO := Lib.hid oa
  have HA := Lib.hid hat
  clear sa oa hall hat
  have gc := goodH
  go_enter Try.func8, Try.ntmps8
  go_wp2_with fail
  refine (n_arena 2 4 4 20 _ goodH).mono ?_
  rintro e w1 ⟨l, rfl, h1, x1, hnew⟩
  have hE := heap_new w1 (.cells #[.int .i64 2, .int .i64 4, .int .i64 4, .int .i64 20, .int .i64 100, .int .i64 600, .int .i64 3, .pointer (some ⟨l.m, 0, none⟩), .int .i64 0] 27)
  have hX := (Ext.refl w1).alloc (.cells #[.int .i64 2, .int .i64 4, .int .i64 4, .int .i64 20, .int .i64 100, .int .i64 600, .int .i64 3, .pointer (some ⟨l.m, 0, none⟩), .int .i64 0] 27)
  have hlt := h1.lt
  go_wp2_with fail
  generalize w1.alloc (.cells #[.int .i64 2, .int .i64 4, .int .i64 4, .int .i64 20, .int .i64 100, .int .i64 600, .int .i64 3, .pointer (some ⟨l.m, 0, none⟩), .int .i64 0] 27) = w2 at *
  have hb1 : W.heap.size ≤ w1.heap.size := x1.size
  have hbe : w1.heap.size ∉ l.all := fun hm => by have := hlt _ hm; omega
  have zbe := lt_of_heap hE
  generalize w1.heap.size = eb at *
  refine (awake9 _).mono ?_
  rintro e w3 ⟨rfl, x3⟩
  have HE3 := Lib.hid (x3.keep hE)
  have h3 := h1.ext (hX.trans x3)
  have X3 := x1.trans (hX.trans x3)
  have z3 := x3.size
  clear hE h1 hX x3 x1
  have c_HE3_w3 := fun w' o (k : Ext w3 w') => k.cellOf HE3.out o
  have f_HE3_w3 := fun w' o (k : Ext w3 w') => frozen_of (k.keep HE3.out) o
  have r_HE3_w3 := Ext.refl w3
  go_wp2_with fail
  refine (n_make Fl.cH l (Fl.fresh Fl.cH) 0 n false w3 gc h3 (Fl.Alloc.safe_of _ _ _ HS.out)).mono ?_
  rintro e w4 ⟨rfl, h4', u4⟩
  have h4 : MemAt w4 l (Fl.hA n).2 := h4'
  clear h4'
  rw [show (Fl.Alloc.loop Fl.cH 0 400 (Fl.fresh Fl.cH) (Fl.Alloc.new n false)).1.out.handle = 65536 from HO.out]
  have HE4 := Lib.hid (u4.keep HE3.out hbe)
  have z4 := u4.size
  clear c_HE3_w3 f_HE3_w3 r_HE3_w3
  have c_HE4_w4 := fun w' o (k : Ext w4 w') => k.cellOf HE4.out o
  have f_HE4_w4 := fun w' o (k : Ext w4 w') => frozen_of (k.keep HE4.out) o
  have r_HE4_w4 := Ext.refl w4
  go_wp2_with fail
  refine (n_drop l 65536 false w4 (by decide) h4.lt).mono ?_
  rintro e w5 ⟨rfl, hd5, x5⟩
  have HE5 := Lib.hid (x5.keep HE4.out)
  have h5 := h4.ext x5
  have U5 := u4.extR x5
  have zd : eb < w4.heap.size := lt_of_heap HE4.out
  have hdl : w4.heap.size ∉ l.all := fun hm => by have := h4.lt _ hm; omega
  have zd5 := lt_of_heap HE5.out
  have z5 := x5.size
  have hW4 : W.heap.size ≤ w4.heap.size := by omega
  generalize w4.heap.size = db at *
  clear c_HE4_w4 f_HE4_w4 r_HE4_w4
  have c_HE5_w5 := fun w' o (k : Ext w5 w') => k.cellOf HE5.out o
  have f_HE5_w5 := fun w' o (k : Ext w5 w') => frozen_of (k.keep HE5.out) o
  have r_HE5_w5 := Ext.refl w5
  go_upto_block 0 with fail
  generalize hr : Fl.Drop.part Fl.cH 0 s (Fl.hA n).2 (Fl.Drop.new 65536 false) false = r at *
  have HR := Lib.hid hr
  clear hr
  have hst0 : 0 ≤ (Fl.hA n).2.steps ∧ (Fl.hA n).2.steps < 100000 := by
    have h0 : Fl.hMid n (Fl.hA n).2 (Fl.Drop.new 65536 false) false = true := HA.out 0 (by omega)
    unfold Fl.hMid at h0
    rw [Bool.and_eq_true, decide_eq_true_eq] at h0
    exact ⟨h0.1.2, h0.1.1⟩
  go_cut [10, 11] from 42 to 54 (fun done i wx => ∃ (σ : Fl.Mem) (d : Fl.Drop) (b : Bool) (F : List Nat), done = .bool b ∧ r = (d, σ, b) ∧ MemAt wx l σ ∧ DropAt wx l F db d ∧ (∀ x, x ∈ F → x = db ∨ w5.heap.size ≤ x) ∧ Upd (db :: l.all) w5 wx)
  case first =>
    go_wp2_with fail
    go_loopg [10, 11] s (fun k done i wr => ∃ (σ : Fl.Mem) (d : Fl.Drop) (b : Bool) (F : List Nat) (j : Nat), done = .bool b ∧ i = .int .i64 (j : Int) ∧ j + k = s ∧ Fl.Drop.part Fl.cH 0 k σ d b = r ∧ (0 ≤ σ.steps ∧ σ.steps < 100000 + j) ∧ MemAt wr l σ ∧ DropAt wr l F db d ∧ (∀ x, x ∈ F → x = db ∨ w5.heap.size ≤ x) ∧ Upd (db :: l.all) w5 wr)
    case atStart =>
      exact ⟨_, _, false, _, 0, rfl, rfl, by omega, HR.out, ⟨hst0.1, by omega⟩, h5, hd5, fun x hx => Or.inl (List.mem_singleton.1 hx), Upd.refl _ _⟩
    case round =>
      obtain ⟨σ, d, b, F, j, rfl, rfl, hj, hl, hsb, h, ha, hF, hu⟩ := hrel
      have HEr := Lib.hid (hu.keep HE5.out (by
        intro hm
        rcases List.mem_cons.1 hm with hm | hm
        · omega
        · exact hbe hm))
      have HL := Lib.hid hl
      have HSB := Lib.hid hsb
      clear hl hsb c_HE5_w5 f_HE5_w5 r_HE5_w5
      have c_HEr_wr := fun w' o (k : Ext wr w') => k.cellOf HEr.out o
      have f_HEr_wr := fun w' o (k : Ext wr w') => frozen_of (k.keep HEr.out) o
      have r_HEr_wr := Ext.refl wr
      cases gk with
      | zero =>
        have hjs : j = s := hj
        have b0 : decide ((j : Int) < s) = false := decide_eq_false (by omega)
        clear hj
        go_wp2_with fail
        go_meet
        case rel => exact ⟨σ, d, b, F, rfl, HL.out.symm, h, ha, hF, hu⟩
      | succ k =>
        have b0 : decide ((j : Int) < s) = true := decide_eq_true (by omega)
        cases b
        · go_wp2_with fail
          refine (d_step Fl.cH l σ 0 F db d _ gc h (by have := HSB.out; omega) ha).mono ?_
          rintro e w6 ⟨rfl, h6, u6, F', ha6, hF'⟩
          have hu6 : Upd (db :: l.all) w5 w6 := hu.then u6 (fun x hx => by
            rcases List.mem_append.1 hx with hx | hx
            · rcases hF x hx with h1 | h1
              · exact Or.inl (by rw [h1]; exact List.mem_cons_self ..)
              · exact Or.inr h1
            · exact Or.inl (List.mem_cons_of_mem _ hx))
          have hF6 : ∀ x, x ∈ F' → x = db ∨ w5.heap.size ≤ x := fun x hx => by
            rcases hF' x hx with h1 | h1
            · exact hF x h1
            · have := hu.size; exact Or.inr (by omega)
          have hs1' := Fl.Drop.steps1 Fl.cH 0 σ d
          have HS1 := Lib.hid hs1'
          clear hs1'
          go_wp2_with fail
          go_roundg k
          case measure => omega
          case rel =>
            refine ⟨_, _, _, F', j + 1, rfl, by simp, by omega, ?_, ?_, h6, ha6, hF6, hu6⟩
            · have := HL.out
              simpa only [Fl.Drop.part] using this
            · have := HS1.out; have := HSB.out; omega
        · go_wp2_with fail
          go_meet
          case rel => exact ⟨σ, d, true, F, rfl, by rw [← HL.out, Fl.part_done], h, ha, hF, hu⟩
  case rest =>
    obtain ⟨σ, d, b, F, rfl, hrr, h, ha, hF, hu⟩ := hcut
    have hmid : Fl.hMid n σ d b = true := by
      have h0 := HA.out s hs1
      rw [HR.out, hrr] at h0
      exact h0
    have HEr := Lib.hid (hu.keep HE5.out (by
      intro hm
      rcases List.mem_cons.1 hm with hm | hm
      · omega
      · exact hbe hm))
    clear c_HE5_w5 f_HE5_w5 r_HE5_w5 HA HR hrr
    unfold Fl.hMid at hmid
    rw [Bool.and_eq_true, decide_eq_true_eq] at hmid
    obtain ⟨hsσ, hmid⟩ := hmid
    have c_HEr_wc := fun w' o (k : Ext wc w') => k.cellOf HEr.out o
    have f_HEr_wc := fun w' o (k : Ext wc w') => frozen_of (k.keep HEr.out) o
    have r_HEr_wc := Ext.refl wc
    go_wp2_with fail
    refine (v_pSlot Fl.cH 0 8 _ pSlotH gc (by omega)).mono ?_
    rintro e w6 ⟨rfl, x6⟩
    have HE6 := Lib.hid (x6.keep HEr.out)
    clear c_HEr_wc f_HEr_wc r_HEr_wc
    have c_HE6_w6 := fun w' o (k : Ext w6 w') => k.cellOf HE6.out o
    have f_HE6_w6 := fun w' o (k : Ext w6 w') => frozen_of (k.keep HE6.out) o
    have r_HE6_w6 := Ext.refl w6
    go_wp2_with fail
    refine (c_peek l σ 8 _ (h.ext x6)).mono ?_
    rintro e w7 ⟨rfl, x7⟩
    have HE7 := Lib.hid (x7.keep HE6.out)
    clear c_HE6_w6 f_HE6_w6 r_HE6_w6
    have c_HE7_w7 := fun w' o (k : Ext w7 w') => k.cellOf HE7.out o
    have f_HE7_w7 := fun w' o (k : Ext w7 w') => frozen_of (k.keep HE7.out) o
    have r_HE7_w7 := Ext.refl w7
    go_wp2_with fail
    refine (c_slot _ _ (peek_lt h _)).mono ?_
    rintro e w8 ⟨rfl, x8⟩
    have x68 := x6.trans (x7.trans x8)
    have HE8 := Lib.hid (x8.keep HE7.out)
    clear c_HE7_w7 f_HE7_w7 r_HE7_w7
    have h8 := h.ext x68
    have ha8 := ha.ext x68
    have U8 : Upd l.all w3 w8 := (U5.then hu (fun x hx => by
      rcases List.mem_cons.1 hx with hx | hx
      · exact Or.inr (by omega)
      · exact Or.inl hx)).extR x68
    have hpl := peek_lt h 8
    have a8 := fun o => (Ext.refl w8).alloc o
    have c_HE8_w8 := fun w' o (k : Ext w8 w') => k.cellOf HE8.out o
    have f_HE8_w8 := fun w' o (k : Ext w8 w') => frozen_of (k.keep HE8.out) o
    have r_HE8_w8 := Ext.refl w8
    generalize Fl.slotOf (σ.peek 8) = sl at *
    obtain ⟨la, lb, lc, ld⟩ := sl
    have x9 := a8 (.cells #[.int .i64 la, .int .i64 lb, .int .i64 lc, .int .i64 ld] 44)
    have hS := heap_new w8 (.cells #[.int .i64 la, .int .i64 lb, .int .i64 lc, .int .i64 ld] 44)
    by_cases q4 : la = 4
    · have e4 : (la == 4) = true := by simpa using q4
      rw [if_pos q4] at hmid
      go_wp2_with fail
      subst q4
      generalize w8.alloc (.cells #[.int .i64 4, .int .i64 lb, .int .i64 lc, .int .i64 ld] 44) = w9 at *
      have h9 := h8.ext x9
      have ha9 := ha8.ext x9
      have U9 := U8.extR x9
      have HE9 := Lib.hid (x9.keep HE8.out)
      clear c_HE8_w8 f_HE8_w8 r_HE8_w8 a8 hS HEr HE6 HE7 HE5 HE4 HE3
      refine (n_help 0 (σ.peek 8) n _ (by omega) hpl (by omega)).mono ?_
      rintro e wa ⟨rfl, hxa, xa⟩
      go_wp2_with fail
      refine (n_help 0 (σ.peek 8) n _ (by omega) hpl (by omega)).mono ?_
      rintro e wb ⟨rfl, hyb, xb⟩
      have hxb := hxa.keep (xb.upd []) (by simp)
      have hb9 := h9.ext (xa.trans xb)
      have hab := ha9.ext (xa.trans xb)
      have Ub := U9.extR (xa.trans xb)
      have HEb := Lib.hid ((xa.trans xb).keep HE9.out)
      have z1 := lt_of_heap hxa.blk
      have z2 := lt_of_heap hyb.blk
      have z0 := lt_of_heap HE9.out
      have z9 : ∀ x, x ∈ F → x < w9.heap.size := ha9.lt
      have zl : ∀ x, x ∈ l.all → x < w9.heap.size := h9.lt
      have zz : w5.heap.size ≤ w9.heap.size := by have := hu.size; have := x68.size; have := x9.size; omega
      generalize w9.heap.size = p1 at *
      generalize wa.heap.size = p2 at *
      have hp1l : p1 ∉ l.all := fun hm => by have := zl _ hm; omega
      have hp2l : p2 ∉ l.all := fun hm => by have := zl _ hm; omega
      clear zl
      generalize hl1 : Fl.Help.loop Fl.cH 0 80 σ (Fl.Help.new 0 (σ.peek 8) n) = r1 at *
      obtain ⟨xh, μ1⟩ := r1
      simp only at hmid
      generalize hl2 : Fl.Help.loop Fl.cH 0 80 μ1 (Fl.Help.new 0 (σ.peek 8) n) = r2 at *
      obtain ⟨yh, μ2⟩ := r2
      simp only [Bool.and_eq_true, decide_eq_true_eq, Bool.not_eq_true'] at hmid
      obtain ⟨⟨⟨⟨g1, g2⟩, g3⟩, g4⟩, hmid⟩ := hmid
      have HLP := Lib.hid hl1
      have HLP2 := Lib.hid hl2
      have HG := Lib.hid (And.intro g2 (And.intro g3 g4))
      clear hl1 hl2 g2 g3 g4
      have c_HEb_wb := fun w' o (k : Ext wb w') => k.cellOf HEb.out o
      have f_HEb_wb := fun w' o (k : Ext wb w') => frozen_of (k.keep HEb.out) o
      have r_HEb_wb := Ext.refl wb
      go_upto_block 2 with fail
      go_cut [17] from 73 to 82 (fun i wx => MemAt wx l μ1 ∧ HelpAt wx p1 xh ∧ Upd (p1 :: l.all) wb wx)
      case first =>
        go_wp2_with fail
        go_loopg [17] 80 (fun k i wr => ∃ (σ' : Fl.Mem) (q : Fl.Help) (j : Nat), i = .int .i64 (j : Int) ∧ j + k = 80 ∧ Fl.Help.loop Fl.cH 0 k σ' q = (xh, μ1) ∧ (0 ≤ σ'.steps ∧ σ'.steps < 100000 + j) ∧ MemAt wr l σ' ∧ HelpAt wr p1 q ∧ Upd (p1 :: l.all) wb wr)
        case atStart =>
          exact ⟨_, _, 0, rfl, by omega, HLP.out, ⟨by omega, by omega⟩, hb9, hxb, Upd.refl _ _⟩
        case round =>
          obtain ⟨σ', q, j, rfl, hj, hl, hsb', h', hq', hu'⟩ := hrel
          have hbP : eb ∉ p1 :: l.all := by
            intro hm
            rcases List.mem_cons.1 hm with hm | hm
            · omega
            · exact hbe hm
          have HErr := Lib.hid (hu'.keep HEb.out hbP)
          have HL := Lib.hid hl
          have HSB := Lib.hid hsb'
          clear hl hsb' c_HEb_wb f_HEb_wb r_HEb_wb
          have c_HErr_wr := fun w' o (k : Ext wr w') => k.cellOf HErr.out o
          have f_HErr_wr := fun w' o (k : Ext wr w') => frozen_of (k.keep HErr.out) o
          have r_HErr_wr := Ext.refl wr
          cases gk with
          | zero =>
            have b0 : decide ((j : Int) < 80) = false := decide_eq_false (by omega)
            go_wp2_with fail
            go_meet
            case rel =>
              have := HL.out
              simp only [Fl.Help.loop, Prod.mk.injEq] at this
              obtain ⟨rfl, rfl⟩ := this
              exact ⟨h', hq', hu'⟩
          | succ k =>
            have b0 : decide ((j : Int) < 80) = true := decide_eq_true (by omega)
            have hin : (j : Int) < 80 := by omega
            go_wp2_with fail
            refine (h_step Fl.cH l σ' 0 p1 q _ gc h' (by have := HSB.out; omega) hq' (by assumption)).mono ?_
            rintro e w6' ⟨rfl, h6', hq6, u6'⟩
            have hu6' := hu'.trans u6'
            have hs1' := Fl.Help.steps1 Fl.cH 0 σ' q
            generalize hst : q.step Fl.cH 0 σ' = st at *
            obtain ⟨yy, q', σ''⟩ := st
            simp only at h6' hq6 hs1'
            have HS1 := Lib.hid hs1'
            have HST := Lib.hid hst
            clear hs1' hst
            cases yy
            · go_wp2_with fail
              go_roundg k
              case measure => omega
              case rel =>
                refine ⟨σ'', q', j + 1, by simp, by omega, ?_, ?_, h6', hq6, hu6'⟩
                · have := HL.out
                  rw [hloop_eq, HST.out] at this
                  exact this
                · have := HS1.out; have := HSB.out; omega
            · go_wp2_with fail
              go_meet
              case rel =>
                have := HL.out
                rw [hloop_eq, HST.out] at this
                simp only [if_true, Prod.mk.injEq] at this
                obtain ⟨rfl, rfl⟩ := this
                exact ⟨h6', hq6, hu6'⟩
      case rest =>
        obtain ⟨hc1, hx1, uc1⟩ := hcut
        have hy1 := hyb.keep uc1 (by
          intro hm
          rcases List.mem_cons.1 hm with hm | hm
          · omega
          · exact hp2l hm)
        have HEc := Lib.hid (uc1.keep HEb.out (by
          intro hm
          rcases List.mem_cons.1 hm with hm | hm
          · omega
          · exact hbe hm))
        have hac := hab.keepU uc1 (by
          intro x hx hm
          rcases List.mem_cons.1 hm with hm | hm
          · have := z9 x hx; omega
          · exact hab.out x hx hm)
        have Uc : Upd l.all w3 wc := Ub.then uc1 (fun x hx => by
          rcases List.mem_cons.1 hx with hx | hx
          · exact Or.inr (by omega)
          · exact Or.inl hx)
        clear HLP c_HEb_wb f_HEb_wb r_HEb_wb
        have HLP := HLP2
        clear HLP2
        generalize wc = wd at *
        have c_HEc_wd := fun w' o (k : Ext wd w') => k.cellOf HEc.out o
        have f_HEc_wd := fun w' o (k : Ext wd w') => frozen_of (k.keep HEc.out) o
        have r_HEc_wd := Ext.refl wd
        go_upto_block 4 with fail
        go_cut [18] from 83 to 92 (fun i wx => MemAt wx l μ2 ∧ HelpAt wx p2 yh ∧ Upd (p2 :: l.all) wd wx)
        case first =>
          go_wp2_with fail
          go_loopg [18] 80 (fun k i wr => ∃ (σ' : Fl.Mem) (q : Fl.Help) (j : Nat), i = .int .i64 (j : Int) ∧ j + k = 80 ∧ Fl.Help.loop Fl.cH 0 k σ' q = (yh, μ2) ∧ (0 ≤ σ'.steps ∧ σ'.steps < 100000 + j) ∧ MemAt wr l σ' ∧ HelpAt wr p2 q ∧ Upd (p2 :: l.all) wd wr)
          case atStart =>
            exact ⟨_, _, 0, rfl, by omega, HLP.out, ⟨by omega, by omega⟩, hc1, hy1, Upd.refl _ _⟩
          case round =>
            obtain ⟨σ', q, j, rfl, hj, hl, hsb', h', hq', hu'⟩ := hrel
            have hbP : eb ∉ p2 :: l.all := by
              intro hm
              rcases List.mem_cons.1 hm with hm | hm
              · omega
              · exact hbe hm
            have HErr := Lib.hid (hu'.keep HEc.out hbP)
            have HL := Lib.hid hl
            have HSB := Lib.hid hsb'
            clear hl hsb' c_HEc_wd f_HEc_wd r_HEc_wd
            have c_HErr_wr := fun w' o (k : Ext wr w') => k.cellOf HErr.out o
            have f_HErr_wr := fun w' o (k : Ext wr w') => frozen_of (k.keep HErr.out) o
            have r_HErr_wr := Ext.refl wr
            cases gk with
            | zero =>
              have b0 : decide ((j : Int) < 80) = false := decide_eq_false (by omega)
              go_wp2_with fail
              go_meet
              case rel =>
                have := HL.out
                simp only [Fl.Help.loop, Prod.mk.injEq] at this
                obtain ⟨rfl, rfl⟩ := this
                exact ⟨h', hq', hu'⟩
            | succ k =>
              have b0 : decide ((j : Int) < 80) = true := decide_eq_true (by omega)
              have hin : (j : Int) < 80 := by omega
              go_wp2_with fail
              refine (h_step Fl.cH l σ' 0 p2 q _ gc h' (by have := HSB.out; omega) hq' (by assumption)).mono ?_
              rintro e w6' ⟨rfl, h6', hq6, u6'⟩
              have hu6' := hu'.trans u6'
              have hs1' := Fl.Help.steps1 Fl.cH 0 σ' q
              generalize hst : q.step Fl.cH 0 σ' = st at *
              obtain ⟨yy, q', σ''⟩ := st
              simp only at h6' hq6 hs1'
              have HS1 := Lib.hid hs1'
              have HST := Lib.hid hst
              clear hs1' hst
              cases yy
              · go_wp2_with fail
                go_roundg k
                case measure => omega
                case rel =>
                  refine ⟨σ'', q', j + 1, by simp, by omega, ?_, ?_, h6', hq6, hu6'⟩
                  · have := HL.out
                    rw [hloop_eq, HST.out] at this
                    exact this
                  · have := HS1.out; have := HSB.out; omega
              · go_wp2_with fail
                go_meet
                case rel =>
                  have := HL.out
                  rw [hloop_eq, HST.out] at this
                  simp only [if_true, Prod.mk.injEq] at this
                  obtain ⟨rfl, rfl⟩ := this
                  exact ⟨h6', hq6, hu6'⟩
        case rest =>
          obtain ⟨hc2, hy2, uc2⟩ := hcut
          have hx2 := hx1.keep uc2 (by
            intro hm
            rcases List.mem_cons.1 hm with hm | hm
            · omega
            · exact hp1l hm)
          have HEe := Lib.hid (uc2.keep HEc.out (by
            intro hm
            rcases List.mem_cons.1 hm with hm | hm
            · omega
            · exact hbe hm))
          have hae := hac.keepU uc2 (by
            intro x hx hm
            rcases List.mem_cons.1 hm with hm | hm
            · have := z9 x hx; omega
            · exact hac.out x hx hm)
          have Ue : Upd l.all w3 wc := Uc.then uc2 (fun x hx => by
            rcases List.mem_cons.1 hx with hx | hx
            · exact Or.inr (by omega)
            · exact Or.inl hx)
          clear HLP c_HEc_wd f_HEc_wd r_HEc_wd
          generalize wc = we at *
          have c_HEe_we := fun w' o (k : Ext we w') => k.cellOf HEe.out o
          have f_HEe_we := fun w' o (k : Ext we w') => frozen_of (k.keep HEe.out) o
          have r_HEe_we := Ext.refl we
          go_wp2_with fail
          refine (h_won p1 xh _ hx2).mono ?_
          rintro e wf ⟨rfl, xf⟩
          rw [HG.out.1]
          have hy3 := hy2.keep (xf.upd []) (by simp)
          have HEf := Lib.hid (xf.keep HEe.out)
          have c_HEf_wf := fun w' o (k : Ext wf w') => k.cellOf HEf.out o
          have f_HEf_wf := fun w' o (k : Ext wf w') => frozen_of (k.keep HEf.out) o
          have r_HEf_wf := Ext.refl wf
          go_wp2_with fail
          refine (h_won p2 yh _ hy3).mono ?_
          rintro e wg ⟨rfl, xg⟩
          rw [HG.out.2.1]
          have HEg := Lib.hid (xg.keep HEf.out)
          have c_HEg_wg := fun w' o (k : Ext wg w') => k.cellOf HEg.out o
          have f_HEg_wg := fun w' o (k : Ext wg w') => frozen_of (k.keep HEg.out) o
          have r_HEg_wg := Ext.refl wg
          go_wp2_with fail
          refine (c_peek l μ2 8 _ (hc2.ext (xf.trans xg))).mono ?_
          rintro e wh ⟨rfl, xh'⟩
          have HEh := Lib.hid (xh'.keep HEg.out)
          have c_HEh_wh := fun w' o (k : Ext wh w') => k.cellOf HEh.out o
          have f_HEh_wh := fun w' o (k : Ext wh w') => frozen_of (k.keep HEh.out) o
          have r_HEh_wh := Ext.refl wh
          go_wp2_with fail
          refine (v_slot _ ⟨0, 0, 2, 0⟩ _ HG.out.2.2 (peek_lt hc2 _)).mono ?_
          rintro e wi ⟨rfl, xi⟩
          have xei := xf.trans (xg.trans (xh'.trans xi))
          have HEi := Lib.hid (xi.keep HEh.out)
          have hi := hc2.ext xei
          have hai := hae.ext xei
          have Ui := Ue.extR xei
          clear c_HEe_we f_HEe_we r_HEe_we c_HEf_wf f_HEf_wf r_HEf_wf c_HEg_wg f_HEg_wg r_HEg_wg c_HEh_wh f_HEh_wh r_HEh_wh
          have c_HEi_wi := fun w' o (k : Ext wi w') => k.cellOf HEi.out o
          have f_HEi_wi := fun w' o (k : Ext wi w') => frozen_of (k.keep HEi.out) o
          have r_HEi_wi := Ext.refl wi
          go_wp2_with fail
          have hsb := hEnd_steps hmid
          refine (n_let Fl.cH l μ2 0 65536 false wi gc hi (by decide) (Fl.Drop.safe_steps _ _ _ _ _ (by omega) (by omega))).mono ?_
          rintro e wt ⟨rfl, ht, ut⟩
          unfold Fl.hEnd at hmid
          generalize Fl.Drop.loop Fl.cH 0 200 μ2 (Fl.Drop.new 65536 false) = oo at *
          obtain ⟨o, σt⟩ := oo
          simp only at hmid ht
          generalize hrt : Fl.Drop.part Fl.cH 0 200 σt d b = rt at *
          obtain ⟨d2, σ2, b2⟩ := rt
          simp only [Bool.and_eq_true, decide_eq_true_eq] at hmid
          obtain ⟨⟨⟨⟨⟨_, m2⟩, m3⟩, m4⟩, m5⟩, m6⟩ := hmid
          have m7 := Fl.xor03 m4 m5
          have HRt := Lib.hid hrt
          clear hrt m4 m5
          have hFl : ∀ x, x ∈ F → x ∉ l.all := hai.out
          have hat := hai.keepU ut hFl
          have HEt := Lib.hid (ut.keep HEi.out hbe)
          have Ut := Ui.trans ut
          have zt := lt_of_heap HEt.out
          have c_HEt_wt := fun w' o (k : Ext wt w') => k.cellOf HEt.out o
          have f_HEt_wt := fun w' o (k : Ext wt w') => frozen_of (k.keep HEt.out) o
          have r_HEt_wt := Ext.refl wt
          have M6 := Lib.hid m6
          clear m6
          go_upto_block 6 with fail
          go_cut [10, 20] from 113 to 123 (fun done i wx => ∃ (F' : List Nat), done = .bool b2 ∧ MemAt wx l σ2 ∧ DropAt wx l F' db d2 ∧ Upd (F ++ l.all) wt wx)
          case first =>
            go_wp2_with fail
            go_loopg [10, 20] 200 (fun k done i wr => ∃ (σ' : Fl.Mem) (d' : Fl.Drop) (b' : Bool) (F' : List Nat) (j : Nat), done = .bool b' ∧ i = .int .i64 (j : Int) ∧ j + k = 200 ∧ Fl.Drop.part Fl.cH 0 k σ' d' b' = (d2, σ2, b2) ∧ (0 ≤ σ'.steps ∧ σ'.steps < 100000 + j) ∧ MemAt wr l σ' ∧ DropAt wr l F' db d' ∧ (∀ x, x ∈ F' → x ∈ F ∨ wt.heap.size ≤ x) ∧ Upd (F ++ l.all) wt wr)
            case atStart =>
              exact ⟨_, _, b, F, 0, rfl, rfl, by omega, HRt.out, ⟨by omega, by omega⟩, ht, hat, fun x hx => Or.inl hx, Upd.refl _ _⟩
            case round =>
              obtain ⟨σ', d', b', F', j, rfl, rfl, hj, hl, hsb', h', ha', hF', hu'⟩ := hrel
              have hbF : eb ∉ F ++ l.all := by
                intro hm
                rcases List.mem_append.1 hm with hm | hm
                · rcases hF _ hm with hm | hm
                  · omega
                  · omega
                · exact hbe hm
              have HErr := Lib.hid (hu'.keep HEt.out hbF)
              have HL := Lib.hid hl
              have HSB := Lib.hid hsb'
              clear hl hsb' c_HEt_wt f_HEt_wt r_HEt_wt
              have c_HErr_wr := fun w' o (k : Ext wr w') => k.cellOf HErr.out o
              have f_HErr_wr := fun w' o (k : Ext wr w') => frozen_of (k.keep HErr.out) o
              have r_HErr_wr := Ext.refl wr
              cases gk with
              | zero =>
                have b0 : decide ((j : Int) < 200) = false := decide_eq_false (by omega)
                go_wp2_with fail
                go_meet
                case rel =>
                  have := HL.out
                  simp only [Fl.Drop.part, Prod.mk.injEq] at this
                  obtain ⟨rfl, rfl, rfl⟩ := this
                  exact ⟨F', rfl, h', ha', hu'⟩
              | succ k =>
                have b0 : decide ((j : Int) < 200) = true := decide_eq_true (by omega)
                cases b'
                · go_wp2_with fail
                  refine (d_step Fl.cH l σ' 0 F' db d' _ gc h' (by have := HSB.out; omega) ha').mono ?_
                  rintro e w6' ⟨rfl, h6', u6', F6, ha6', hF6'⟩
                  have hu6' : Upd (F ++ l.all) wt w6' := hu'.then u6' (fun x hx => by
                    rcases List.mem_append.1 hx with hx | hx
                    · rcases hF' x hx with h1 | h1
                      · exact Or.inl (List.mem_append_left _ h1)
                      · exact Or.inr h1
                    · exact Or.inl (List.mem_append_right _ hx))
                  have hFF : ∀ x, x ∈ F6 → x ∈ F ∨ wt.heap.size ≤ x := fun x hx => by
                    rcases hF6' x hx with h1 | h1
                    · exact hF' x h1
                    · have := hu'.size; exact Or.inr (by omega)
                  have hs1' := Fl.Drop.steps1 Fl.cH 0 σ' d'
                  have HS1 := Lib.hid hs1'
                  clear hs1'
                  go_wp2_with fail
                  go_roundg k
                  case measure => omega
                  case rel =>
                    refine ⟨_, _, _, F6, j + 1, rfl, by simp, by omega, ?_, ?_, h6', ha6', hFF, hu6'⟩
                    · have := HL.out
                      simpa only [Fl.Drop.part] using this
                    · have := HS1.out; have := HSB.out; omega
                · go_wp2_with fail
                  go_meet
                  case rel =>
                    have := HL.out
                    rw [Fl.part_done] at this
                    simp only [Prod.mk.injEq] at this
                    obtain ⟨rfl, rfl, rfl⟩ := this
                    exact ⟨F', rfl, h', ha', hu'⟩
          case rest =>
            obtain ⟨F', rfl, hz, haz, huz⟩ := hcut
            have hbF : eb ∉ F ++ l.all := by
              intro hm
              rcases List.mem_append.1 hm with hm | hm
              · rcases hF _ hm with hm | hm
                · omega
                · omega
              · exact hbe hm
            have HEz := Lib.hid (huz.keep HEt.out hbF)
            have Xz : Ext W wc := X3.updNew ((Ut.then huz (fun x hx => by
              rcases List.mem_append.1 hx with hx | hx
              · rcases hF _ hx with h1 | h1
                · exact Or.inr (by omega)
                · exact Or.inr (by have := x68.size; omega)
              · exact Or.inl hx))) hnew
            clear c_HEt_wt f_HEt_wt r_HEt_wt
            have c_HEz_wc := fun w' o (k : Ext wc w') => k.cellOf HEz.out o
            have f_HEz_wc := fun w' o (k : Ext wc w') => frozen_of (k.keep HEz.out) o
            have r_HEz_wc := Ext.refl wc
            subst m3
            go_wp2_with fail
            refine (d_done l F' db d2 _ haz).mono ?_
            rintro e wy ⟨rfl, xy⟩
            have HEy := Lib.hid (xy.keep HEz.out)
            have hy := hz.ext xy
            have Xy := Xz.trans xy
            clear c_HEz_wc f_HEz_wc r_HEz_wc
            have c_HEy_wy := fun w' o (k : Ext wy w') => k.cellOf HEy.out o
            have f_HEy_wy := fun w' o (k : Ext wy w') => frozen_of (k.keep HEy.out) o
            have r_HEy_wy := Ext.refl wy
            have w17 : IntKind.i64.wrap ((16 : Int) + 1) = 17 := by decide
            rcases m7 with ⟨ma, mb⟩ | ⟨ma, mb⟩
            · rw [ma, mb]
              go_wp2_with fail
              refine wp_region_plan (Ext wy) [] [0, 1, 2, 3, 4, 5, 6, 7, 8, 9, 10, 11, 12, 13, 14, 15, 16, 17, 18, 19, 20, 21, 22, 23, 24, 25, 26, 27, 28, 29] 30 [] Try.mixed (by kernel_rfl) (by intro c a d v w h; cases d <;> exact h) (Ext.refl _).drew ?_
              simp only [opsAt, List.filterMap_cons, List.filterMap_nil, List.getElem?_toArray, List.getElem?_cons_zero, List.getElem?_cons_succ]
              refine Firsts.nil ?_
              (refine Heads.val (v := ?_) rfl (fun wv hwv => ?_) ?_; rotate_left; (go_simp; with_reducible rfl); simp only [Act.put, List.setIfInBounds_toArray, List.set_cons_zero, List.set_cons_succ])
              (refine Heads.val (v := ?_) rfl (fun wv hwv => ?_) ?_; rotate_left; (go_simp; with_reducible rfl); simp only [Act.put, List.setIfInBounds_toArray, List.set_cons_zero, List.set_cons_succ])
              (first | (refine Heads.val (v := ?_) rfl (fun wv hwv => ?_) ?_; rotate_left; (go_simp; with_reducible rfl); simp only [Act.put, List.setIfInBounds_toArray, List.set_cons_zero, List.set_cons_succ]) | (refine Heads.skip rfl ?_; simp only [Act.put, List.setIfInBounds_toArray, List.set_cons_zero, List.set_cons_succ]))
              (first | (refine Heads.call (v := ?_) rfl (fun wv hwv => ?_) ?_; rotate_left; (go_simp; simp only [GivesUpon.enter]; refine (h_won_nil _).mono ?_; rintro e w' ⟨rfl, hh⟩; refine ⟨?_, hwv.trans hh⟩; with_reducible rfl); simp only [Act.put, List.setIfInBounds_toArray, List.set_cons_zero, List.set_cons_succ]) | (refine Heads.skip rfl ?_; simp only [Act.put, List.setIfInBounds_toArray, List.set_cons_zero, List.set_cons_succ]))
              (first | (refine Heads.val (v := ?_) rfl (fun wv hwv => ?_) ?_; rotate_left; (go_simp; with_reducible rfl); simp only [Act.put, List.setIfInBounds_toArray, List.set_cons_zero, List.set_cons_succ]) | (refine Heads.skip rfl ?_; simp only [Act.put, List.setIfInBounds_toArray, List.set_cons_zero, List.set_cons_succ]))
              (refine Heads.val (v := ?_) rfl (fun wv hwv => ?_) ?_; rotate_left; (go_simp; with_reducible rfl); simp only [Act.put, List.setIfInBounds_toArray, List.set_cons_zero, List.set_cons_succ])
              (refine Heads.val (v := ?_) rfl (fun wv hwv => ?_) ?_; rotate_left; (go_simp; with_reducible rfl); simp only [Act.put, List.setIfInBounds_toArray, List.set_cons_zero, List.set_cons_succ])
              (first | (refine Heads.val (v := ?_) rfl (fun wv hwv => ?_) ?_; rotate_left; (go_simp; with_reducible rfl); simp only [Act.put, List.setIfInBounds_toArray, List.set_cons_zero, List.set_cons_succ]) | (refine Heads.skip rfl ?_; simp only [Act.put, List.setIfInBounds_toArray, List.set_cons_zero, List.set_cons_succ]))
              (first | (refine Heads.val (v := ?_) rfl (fun wv hwv => ?_) ?_; rotate_left; (go_simp; with_reducible rfl); simp only [Act.put, List.setIfInBounds_toArray, List.set_cons_zero, List.set_cons_succ]) | (refine Heads.skip rfl ?_; simp only [Act.put, List.setIfInBounds_toArray, List.set_cons_zero, List.set_cons_succ]))
              (first | (refine Heads.val (v := ?_) rfl (fun wv hwv => ?_) ?_; rotate_left; (go_simp; with_reducible rfl); simp only [Act.put, List.setIfInBounds_toArray, List.set_cons_zero, List.set_cons_succ]) | (refine Heads.skip rfl ?_; simp only [Act.put, List.setIfInBounds_toArray, List.set_cons_zero, List.set_cons_succ]))
              (first | (refine Heads.val (v := ?_) rfl (fun wv hwv => ?_) ?_; rotate_left; (go_simp; with_reducible rfl); simp only [Act.put, List.setIfInBounds_toArray, List.set_cons_zero, List.set_cons_succ]) | (refine Heads.skip rfl ?_; simp only [Act.put, List.setIfInBounds_toArray, List.set_cons_zero, List.set_cons_succ]))
              (first | (refine Heads.val (v := ?_) rfl (fun wv hwv => ?_) ?_; rotate_left; (go_simp; with_reducible rfl); simp only [Act.put, List.setIfInBounds_toArray, List.set_cons_zero, List.set_cons_succ]) | (refine Heads.skip rfl ?_; simp only [Act.put, List.setIfInBounds_toArray, List.set_cons_zero, List.set_cons_succ]))
              (refine Heads.val (v := ?_) rfl (fun wv hwv => ?_) ?_; rotate_left; (go_simp; with_reducible rfl); simp only [Act.put, List.setIfInBounds_toArray, List.set_cons_zero, List.set_cons_succ])
              (refine Heads.val (v := ?_) rfl (fun wv hwv => ?_) ?_; rotate_left; (go_simp; with_reducible rfl); simp only [Act.put, List.setIfInBounds_toArray, List.set_cons_zero, List.set_cons_succ])
              (first | (refine Heads.val (v := ?_) rfl (fun wv hwv => ?_) ?_; rotate_left; (go_simp; with_reducible rfl); simp only [Act.put, List.setIfInBounds_toArray, List.set_cons_zero, List.set_cons_succ]) | (refine Heads.skip rfl ?_; simp only [Act.put, List.setIfInBounds_toArray, List.set_cons_zero, List.set_cons_succ]))
              (first | (refine Heads.val (v := ?_) rfl (fun wv hwv => ?_) ?_; rotate_left; (go_simp; with_reducible rfl); simp only [Act.put, List.setIfInBounds_toArray, List.set_cons_zero, List.set_cons_succ]) | (refine Heads.skip rfl ?_; simp only [Act.put, List.setIfInBounds_toArray, List.set_cons_zero, List.set_cons_succ]))
              (first | (refine Heads.val (v := ?_) rfl (fun wv hwv => ?_) ?_; rotate_left; (go_simp; with_reducible rfl); simp only [Act.put, List.setIfInBounds_toArray, List.set_cons_zero, List.set_cons_succ]) | (refine Heads.skip rfl ?_; simp only [Act.put, List.setIfInBounds_toArray, List.set_cons_zero, List.set_cons_succ]))
              (first | (refine Heads.val (v := ?_) rfl (fun wv hwv => ?_) ?_; rotate_left; (go_simp; with_reducible rfl); simp only [Act.put, List.setIfInBounds_toArray, List.set_cons_zero, List.set_cons_succ]) | (refine Heads.skip rfl ?_; simp only [Act.put, List.setIfInBounds_toArray, List.set_cons_zero, List.set_cons_succ]))
              (first | (refine Heads.val (v := ?_) rfl (fun wv hwv => ?_) ?_; rotate_left; (go_simp; with_reducible rfl); simp only [Act.put, List.setIfInBounds_toArray, List.set_cons_zero, List.set_cons_succ]) | (refine Heads.skip rfl ?_; simp only [Act.put, List.setIfInBounds_toArray, List.set_cons_zero, List.set_cons_succ]))
              (refine Heads.val (v := ?_) rfl (fun wv hwv => ?_) ?_; rotate_left; (go_simp; with_reducible rfl); simp only [Act.put, List.setIfInBounds_toArray, List.set_cons_zero, List.set_cons_succ])
              (refine Heads.val (v := ?_) rfl (fun wv hwv => ?_) ?_; rotate_left; (go_simp; with_reducible rfl); simp only [Act.put, List.setIfInBounds_toArray, List.set_cons_zero, List.set_cons_succ])
              (first | (refine Heads.val (v := ?_) rfl (fun wv hwv => ?_) ?_; rotate_left; (go_simp; with_reducible rfl); simp only [Act.put, List.setIfInBounds_toArray, List.set_cons_zero, List.set_cons_succ]) | (refine Heads.skip rfl ?_; simp only [Act.put, List.setIfInBounds_toArray, List.set_cons_zero, List.set_cons_succ]))
              (first | (refine Heads.val (v := ?_) rfl (fun wv hwv => ?_) ?_; rotate_left; (go_simp; with_reducible rfl); simp only [Act.put, List.setIfInBounds_toArray, List.set_cons_zero, List.set_cons_succ]) | (refine Heads.skip rfl ?_; simp only [Act.put, List.setIfInBounds_toArray, List.set_cons_zero, List.set_cons_succ]))
              (first | (refine Heads.val (v := ?_) rfl (fun wv hwv => ?_) ?_; rotate_left; (go_simp; with_reducible rfl); simp only [Act.put, List.setIfInBounds_toArray, List.set_cons_zero, List.set_cons_succ]) | (refine Heads.skip rfl ?_; simp only [Act.put, List.setIfInBounds_toArray, List.set_cons_zero, List.set_cons_succ]))
              (first | (refine Heads.val (v := ?_) rfl (fun wv hwv => ?_) ?_; rotate_left; (go_simp; with_reducible rfl); simp only [Act.put, List.setIfInBounds_toArray, List.set_cons_zero, List.set_cons_succ]) | (refine Heads.skip rfl ?_; simp only [Act.put, List.setIfInBounds_toArray, List.set_cons_zero, List.set_cons_succ]))
              (first | (refine Heads.call (v := ?_) rfl (fun wv hwv => ?_) ?_; rotate_left; (go_simp; simp only [GivesUpon.enter]; refine (v_pChunk Fl.cH 0 16 _ pChunkH gc (by omega)).mono ?_; rintro e w' ⟨rfl, hh⟩; refine ⟨?_, hwv.trans hh⟩; with_reducible rfl); simp only [Act.put, List.setIfInBounds_toArray, List.set_cons_zero, List.set_cons_succ]) | (refine Heads.skip rfl ?_; simp only [Act.put, List.setIfInBounds_toArray, List.set_cons_zero, List.set_cons_succ]))
              (first | (refine Heads.val (v := ?_) rfl (fun wv hwv => ?_) ?_; rotate_left; (go_simp; with_reducible rfl); simp only [Act.put, List.setIfInBounds_toArray, List.set_cons_zero, List.set_cons_succ]) | (refine Heads.skip rfl ?_; simp only [Act.put, List.setIfInBounds_toArray, List.set_cons_zero, List.set_cons_succ]))
              (first | (refine Heads.call (v := ?_) rfl (fun wv hwv => ?_) ?_; rotate_left; (go_simp; simp only [GivesUpon.enter]; refine (v_peek l σ2 17 0 _ M6.out (hy.ext hwv)).mono ?_; rintro e w' ⟨rfl, hh⟩; refine ⟨?_, hwv.trans hh⟩; with_reducible rfl); simp only [Act.put, List.setIfInBounds_toArray, List.set_cons_zero, List.set_cons_succ]) | (refine Heads.skip rfl ?_; simp only [Act.put, List.setIfInBounds_toArray, List.set_cons_zero, List.set_cons_succ]))
              (first | (refine Heads.val (v := ?_) rfl (fun wv hwv => ?_) ?_; rotate_left; (go_simp; with_reducible rfl); simp only [Act.put, List.setIfInBounds_toArray, List.set_cons_zero, List.set_cons_succ]) | (refine Heads.skip rfl ?_; simp only [Act.put, List.setIfInBounds_toArray, List.set_cons_zero, List.set_cons_succ]))
              (refine Heads.val (v := ?_) rfl (fun wv hwv => ?_) ?_; rotate_left; (go_simp; with_reducible rfl); simp only [Act.put, List.setIfInBounds_toArray, List.set_cons_zero, List.set_cons_succ])
              refine Heads.nil ?_
              intro wz hwz
              go_wp2
              go_ret
              exact ⟨rfl, Xy.trans hwz⟩
            · rw [ma, mb]
              go_wp2_with fail
              refine wp_region_plan (Ext wy) [] [0, 1, 2, 3, 4, 5, 6, 7, 8, 9, 10, 11, 12, 13, 14, 15, 16, 17, 18, 19, 20, 21, 22, 23, 24, 25, 26, 27, 28, 29] 30 [] Try.mixed (by kernel_rfl) (by intro c a d v w h; cases d <;> exact h) (Ext.refl _).drew ?_
              simp only [opsAt, List.filterMap_cons, List.filterMap_nil, List.getElem?_toArray, List.getElem?_cons_zero, List.getElem?_cons_succ]
              refine Firsts.nil ?_
              (refine Heads.val (v := ?_) rfl (fun wv hwv => ?_) ?_; rotate_left; (go_simp; with_reducible rfl); simp only [Act.put, List.setIfInBounds_toArray, List.set_cons_zero, List.set_cons_succ])
              (refine Heads.val (v := ?_) rfl (fun wv hwv => ?_) ?_; rotate_left; (go_simp; with_reducible rfl); simp only [Act.put, List.setIfInBounds_toArray, List.set_cons_zero, List.set_cons_succ])
              (first | (refine Heads.val (v := ?_) rfl (fun wv hwv => ?_) ?_; rotate_left; (go_simp; with_reducible rfl); simp only [Act.put, List.setIfInBounds_toArray, List.set_cons_zero, List.set_cons_succ]) | (refine Heads.skip rfl ?_; simp only [Act.put, List.setIfInBounds_toArray, List.set_cons_zero, List.set_cons_succ]))
              (first | (refine Heads.call (v := ?_) rfl (fun wv hwv => ?_) ?_; rotate_left; (go_simp; simp only [GivesUpon.enter]; refine (h_won_nil _).mono ?_; rintro e w' ⟨rfl, hh⟩; refine ⟨?_, hwv.trans hh⟩; with_reducible rfl); simp only [Act.put, List.setIfInBounds_toArray, List.set_cons_zero, List.set_cons_succ]) | (refine Heads.skip rfl ?_; simp only [Act.put, List.setIfInBounds_toArray, List.set_cons_zero, List.set_cons_succ]))
              (first | (refine Heads.val (v := ?_) rfl (fun wv hwv => ?_) ?_; rotate_left; (go_simp; with_reducible rfl); simp only [Act.put, List.setIfInBounds_toArray, List.set_cons_zero, List.set_cons_succ]) | (refine Heads.skip rfl ?_; simp only [Act.put, List.setIfInBounds_toArray, List.set_cons_zero, List.set_cons_succ]))
              (refine Heads.val (v := ?_) rfl (fun wv hwv => ?_) ?_; rotate_left; (go_simp; with_reducible rfl); simp only [Act.put, List.setIfInBounds_toArray, List.set_cons_zero, List.set_cons_succ])
              (refine Heads.val (v := ?_) rfl (fun wv hwv => ?_) ?_; rotate_left; (go_simp; with_reducible rfl); simp only [Act.put, List.setIfInBounds_toArray, List.set_cons_zero, List.set_cons_succ])
              (first | (refine Heads.val (v := ?_) rfl (fun wv hwv => ?_) ?_; rotate_left; (go_simp; with_reducible rfl); simp only [Act.put, List.setIfInBounds_toArray, List.set_cons_zero, List.set_cons_succ]) | (refine Heads.skip rfl ?_; simp only [Act.put, List.setIfInBounds_toArray, List.set_cons_zero, List.set_cons_succ]))
              (first | (refine Heads.val (v := ?_) rfl (fun wv hwv => ?_) ?_; rotate_left; (go_simp; with_reducible rfl); simp only [Act.put, List.setIfInBounds_toArray, List.set_cons_zero, List.set_cons_succ]) | (refine Heads.skip rfl ?_; simp only [Act.put, List.setIfInBounds_toArray, List.set_cons_zero, List.set_cons_succ]))
              (first | (refine Heads.val (v := ?_) rfl (fun wv hwv => ?_) ?_; rotate_left; (go_simp; with_reducible rfl); simp only [Act.put, List.setIfInBounds_toArray, List.set_cons_zero, List.set_cons_succ]) | (refine Heads.skip rfl ?_; simp only [Act.put, List.setIfInBounds_toArray, List.set_cons_zero, List.set_cons_succ]))
              (first | (refine Heads.val (v := ?_) rfl (fun wv hwv => ?_) ?_; rotate_left; (go_simp; with_reducible rfl); simp only [Act.put, List.setIfInBounds_toArray, List.set_cons_zero, List.set_cons_succ]) | (refine Heads.skip rfl ?_; simp only [Act.put, List.setIfInBounds_toArray, List.set_cons_zero, List.set_cons_succ]))
              (first | (refine Heads.val (v := ?_) rfl (fun wv hwv => ?_) ?_; rotate_left; (go_simp; with_reducible rfl); simp only [Act.put, List.setIfInBounds_toArray, List.set_cons_zero, List.set_cons_succ]) | (refine Heads.skip rfl ?_; simp only [Act.put, List.setIfInBounds_toArray, List.set_cons_zero, List.set_cons_succ]))
              (refine Heads.val (v := ?_) rfl (fun wv hwv => ?_) ?_; rotate_left; (go_simp; with_reducible rfl); simp only [Act.put, List.setIfInBounds_toArray, List.set_cons_zero, List.set_cons_succ])
              (refine Heads.val (v := ?_) rfl (fun wv hwv => ?_) ?_; rotate_left; (go_simp; with_reducible rfl); simp only [Act.put, List.setIfInBounds_toArray, List.set_cons_zero, List.set_cons_succ])
              (first | (refine Heads.val (v := ?_) rfl (fun wv hwv => ?_) ?_; rotate_left; (go_simp; with_reducible rfl); simp only [Act.put, List.setIfInBounds_toArray, List.set_cons_zero, List.set_cons_succ]) | (refine Heads.skip rfl ?_; simp only [Act.put, List.setIfInBounds_toArray, List.set_cons_zero, List.set_cons_succ]))
              (first | (refine Heads.val (v := ?_) rfl (fun wv hwv => ?_) ?_; rotate_left; (go_simp; with_reducible rfl); simp only [Act.put, List.setIfInBounds_toArray, List.set_cons_zero, List.set_cons_succ]) | (refine Heads.skip rfl ?_; simp only [Act.put, List.setIfInBounds_toArray, List.set_cons_zero, List.set_cons_succ]))
              (first | (refine Heads.val (v := ?_) rfl (fun wv hwv => ?_) ?_; rotate_left; (go_simp; with_reducible rfl); simp only [Act.put, List.setIfInBounds_toArray, List.set_cons_zero, List.set_cons_succ]) | (refine Heads.skip rfl ?_; simp only [Act.put, List.setIfInBounds_toArray, List.set_cons_zero, List.set_cons_succ]))
              (first | (refine Heads.val (v := ?_) rfl (fun wv hwv => ?_) ?_; rotate_left; (go_simp; with_reducible rfl); simp only [Act.put, List.setIfInBounds_toArray, List.set_cons_zero, List.set_cons_succ]) | (refine Heads.skip rfl ?_; simp only [Act.put, List.setIfInBounds_toArray, List.set_cons_zero, List.set_cons_succ]))
              (first | (refine Heads.val (v := ?_) rfl (fun wv hwv => ?_) ?_; rotate_left; (go_simp; with_reducible rfl); simp only [Act.put, List.setIfInBounds_toArray, List.set_cons_zero, List.set_cons_succ]) | (refine Heads.skip rfl ?_; simp only [Act.put, List.setIfInBounds_toArray, List.set_cons_zero, List.set_cons_succ]))
              (refine Heads.val (v := ?_) rfl (fun wv hwv => ?_) ?_; rotate_left; (go_simp; with_reducible rfl); simp only [Act.put, List.setIfInBounds_toArray, List.set_cons_zero, List.set_cons_succ])
              (refine Heads.val (v := ?_) rfl (fun wv hwv => ?_) ?_; rotate_left; (go_simp; with_reducible rfl); simp only [Act.put, List.setIfInBounds_toArray, List.set_cons_zero, List.set_cons_succ])
              (first | (refine Heads.val (v := ?_) rfl (fun wv hwv => ?_) ?_; rotate_left; (go_simp; with_reducible rfl); simp only [Act.put, List.setIfInBounds_toArray, List.set_cons_zero, List.set_cons_succ]) | (refine Heads.skip rfl ?_; simp only [Act.put, List.setIfInBounds_toArray, List.set_cons_zero, List.set_cons_succ]))
              (first | (refine Heads.val (v := ?_) rfl (fun wv hwv => ?_) ?_; rotate_left; (go_simp; with_reducible rfl); simp only [Act.put, List.setIfInBounds_toArray, List.set_cons_zero, List.set_cons_succ]) | (refine Heads.skip rfl ?_; simp only [Act.put, List.setIfInBounds_toArray, List.set_cons_zero, List.set_cons_succ]))
              (first | (refine Heads.val (v := ?_) rfl (fun wv hwv => ?_) ?_; rotate_left; (go_simp; with_reducible rfl); simp only [Act.put, List.setIfInBounds_toArray, List.set_cons_zero, List.set_cons_succ]) | (refine Heads.skip rfl ?_; simp only [Act.put, List.setIfInBounds_toArray, List.set_cons_zero, List.set_cons_succ]))
              (first | (refine Heads.val (v := ?_) rfl (fun wv hwv => ?_) ?_; rotate_left; (go_simp; with_reducible rfl); simp only [Act.put, List.setIfInBounds_toArray, List.set_cons_zero, List.set_cons_succ]) | (refine Heads.skip rfl ?_; simp only [Act.put, List.setIfInBounds_toArray, List.set_cons_zero, List.set_cons_succ]))
              (first | (refine Heads.call (v := ?_) rfl (fun wv hwv => ?_) ?_; rotate_left; (go_simp; simp only [GivesUpon.enter]; refine (v_pChunk Fl.cH 0 16 _ pChunkH gc (by omega)).mono ?_; rintro e w' ⟨rfl, hh⟩; refine ⟨?_, hwv.trans hh⟩; with_reducible rfl); simp only [Act.put, List.setIfInBounds_toArray, List.set_cons_zero, List.set_cons_succ]) | (refine Heads.skip rfl ?_; simp only [Act.put, List.setIfInBounds_toArray, List.set_cons_zero, List.set_cons_succ]))
              (first | (refine Heads.val (v := ?_) rfl (fun wv hwv => ?_) ?_; rotate_left; (go_simp; with_reducible rfl); simp only [Act.put, List.setIfInBounds_toArray, List.set_cons_zero, List.set_cons_succ]) | (refine Heads.skip rfl ?_; simp only [Act.put, List.setIfInBounds_toArray, List.set_cons_zero, List.set_cons_succ]))
              (first | (refine Heads.call (v := ?_) rfl (fun wv hwv => ?_) ?_; rotate_left; (go_simp; simp only [GivesUpon.enter]; refine (v_peek l σ2 17 0 _ M6.out (hy.ext hwv)).mono ?_; rintro e w' ⟨rfl, hh⟩; refine ⟨?_, hwv.trans hh⟩; with_reducible rfl); simp only [Act.put, List.setIfInBounds_toArray, List.set_cons_zero, List.set_cons_succ]) | (refine Heads.skip rfl ?_; simp only [Act.put, List.setIfInBounds_toArray, List.set_cons_zero, List.set_cons_succ]))
              (first | (refine Heads.val (v := ?_) rfl (fun wv hwv => ?_) ?_; rotate_left; (go_simp; with_reducible rfl); simp only [Act.put, List.setIfInBounds_toArray, List.set_cons_zero, List.set_cons_succ]) | (refine Heads.skip rfl ?_; simp only [Act.put, List.setIfInBounds_toArray, List.set_cons_zero, List.set_cons_succ]))
              (refine Heads.val (v := ?_) rfl (fun wv hwv => ?_) ?_; rotate_left; (go_simp; with_reducible rfl); simp only [Act.put, List.setIfInBounds_toArray, List.set_cons_zero, List.set_cons_succ])
              refine Heads.nil ?_
              intro wz hwz
              go_wp2
              go_ret
              exact ⟨rfl, Xy.trans hwz⟩
    · have e4 : (la == 4) = false := by simpa using q4
      rw [if_neg q4] at hmid
      go_wp2_with fail
      generalize w8.alloc (.cells #[.int .i64 la, .int .i64 lb, .int .i64 lc, .int .i64 ld] 44) = w9 at *
      have h9 := h8.ext x9
      have ha9 := ha8.ext x9
      have U9 := U8.extR x9
      have HE9 := Lib.hid (x9.keep HE8.out)
      clear c_HE8_w8 f_HE8_w8 r_HE8_w8 a8 hS HEr HE6 HE7 HE5 HE4 HE3
      have hsb := hEnd_steps hmid
      refine (n_let Fl.cH l σ 0 65536 false w9 gc h9 (by decide) (Fl.Drop.safe_steps _ _ _ _ _ (by omega) (by omega))).mono ?_
      rintro e wt ⟨rfl, ht, ut⟩
      unfold Fl.hEnd at hmid
      generalize Fl.Drop.loop Fl.cH 0 200 σ (Fl.Drop.new 65536 false) = oo at *
      obtain ⟨o, σt⟩ := oo
      simp only at hmid ht
      generalize hrt : Fl.Drop.part Fl.cH 0 200 σt d b = rt at *
      obtain ⟨d2, σ2, b2⟩ := rt
      simp only [Bool.and_eq_true, decide_eq_true_eq] at hmid
      obtain ⟨⟨⟨⟨⟨_, m2⟩, m3⟩, m4⟩, m5⟩, m6⟩ := hmid
      have m7 := Fl.xor03 m4 m5
      have HRt := Lib.hid hrt
      clear hrt m4 m5
      have hFl : ∀ x, x ∈ F → x ∉ l.all := ha9.out
      have hat := ha9.keepU ut hFl
      have HEt := Lib.hid (ut.keep HE9.out hbe)
      have Ut := U9.trans ut
      have zt := lt_of_heap HEt.out
      have c_HEt_wt := fun w' o (k : Ext wt w') => k.cellOf HEt.out o
      have f_HEt_wt := fun w' o (k : Ext wt w') => frozen_of (k.keep HEt.out) o
      have r_HEt_wt := Ext.refl wt
      have M6 := Lib.hid m6
      clear m6
      go_upto_block 6 with fail
      go_cut [10, 20] from 113 to 123 (fun done i wx => ∃ (F' : List Nat), done = .bool b2 ∧ MemAt wx l σ2 ∧ DropAt wx l F' db d2 ∧ Upd (F ++ l.all) wt wx)
      case first =>
        go_wp2_with fail
        go_loopg [10, 20] 200 (fun k done i wr => ∃ (σ' : Fl.Mem) (d' : Fl.Drop) (b' : Bool) (F' : List Nat) (j : Nat), done = .bool b' ∧ i = .int .i64 (j : Int) ∧ j + k = 200 ∧ Fl.Drop.part Fl.cH 0 k σ' d' b' = (d2, σ2, b2) ∧ (0 ≤ σ'.steps ∧ σ'.steps < 100000 + j) ∧ MemAt wr l σ' ∧ DropAt wr l F' db d' ∧ (∀ x, x ∈ F' → x ∈ F ∨ wt.heap.size ≤ x) ∧ Upd (F ++ l.all) wt wr)
        case atStart =>
          exact ⟨_, _, b, F, 0, rfl, rfl, by omega, HRt.out, ⟨by omega, by omega⟩, ht, hat, fun x hx => Or.inl hx, Upd.refl _ _⟩
        case round =>
          obtain ⟨σ', d', b', F', j, rfl, rfl, hj, hl, hsb', h', ha', hF', hu'⟩ := hrel
          have hbF : eb ∉ F ++ l.all := by
            intro hm
            rcases List.mem_append.1 hm with hm | hm
            · rcases hF _ hm with hm | hm
              · omega
              · omega
            · exact hbe hm
          have HErr := Lib.hid (hu'.keep HEt.out hbF)
          have HL := Lib.hid hl
          have HSB := Lib.hid hsb'
          clear hl hsb' c_HEt_wt f_HEt_wt r_HEt_wt
          have c_HErr_wr := fun w' o (k : Ext wr w') => k.cellOf HErr.out o
          have f_HErr_wr := fun w' o (k : Ext wr w') => frozen_of (k.keep HErr.out) o
          have r_HErr_wr := Ext.refl wr
          cases gk with
          | zero =>
            have b0 : decide ((j : Int) < 200) = false := decide_eq_false (by omega)
            go_wp2_with fail
            go_meet
            case rel =>
              have := HL.out
              simp only [Fl.Drop.part, Prod.mk.injEq] at this
              obtain ⟨rfl, rfl, rfl⟩ := this
              exact ⟨F', rfl, h', ha', hu'⟩
          | succ k =>
            have b0 : decide ((j : Int) < 200) = true := decide_eq_true (by omega)
            cases b'
            · go_wp2_with fail
              refine (d_step Fl.cH l σ' 0 F' db d' _ gc h' (by have := HSB.out; omega) ha').mono ?_
              rintro e w6' ⟨rfl, h6', u6', F6, ha6', hF6'⟩
              have hu6' : Upd (F ++ l.all) wt w6' := hu'.then u6' (fun x hx => by
                rcases List.mem_append.1 hx with hx | hx
                · rcases hF' x hx with h1 | h1
                  · exact Or.inl (List.mem_append_left _ h1)
                  · exact Or.inr h1
                · exact Or.inl (List.mem_append_right _ hx))
              have hFF : ∀ x, x ∈ F6 → x ∈ F ∨ wt.heap.size ≤ x := fun x hx => by
                rcases hF6' x hx with h1 | h1
                · exact hF' x h1
                · have := hu'.size; exact Or.inr (by omega)
              have hs1' := Fl.Drop.steps1 Fl.cH 0 σ' d'
              have HS1 := Lib.hid hs1'
              clear hs1'
              go_wp2_with fail
              go_roundg k
              case measure => omega
              case rel =>
                refine ⟨_, _, _, F6, j + 1, rfl, by simp, by omega, ?_, ?_, h6', ha6', hFF, hu6'⟩
                · have := HL.out
                  simpa only [Fl.Drop.part] using this
                · have := HS1.out; have := HSB.out; omega
            · go_wp2_with fail
              go_meet
              case rel =>
                have := HL.out
                rw [Fl.part_done] at this
                simp only [Prod.mk.injEq] at this
                obtain ⟨rfl, rfl, rfl⟩ := this
                exact ⟨F', rfl, h', ha', hu'⟩
      case rest =>
        obtain ⟨F', rfl, hz, haz, huz⟩ := hcut
        have hbF : eb ∉ F ++ l.all := by
          intro hm
          rcases List.mem_append.1 hm with hm | hm
          · rcases hF _ hm with hm | hm
            · omega
            · omega
          · exact hbe hm
        have HEz := Lib.hid (huz.keep HEt.out hbF)
        have Xz : Ext W wc := X3.updNew ((Ut.then huz (fun x hx => by
          rcases List.mem_append.1 hx with hx | hx
          · rcases hF _ hx with h1 | h1
            · exact Or.inr (by omega)
            · exact Or.inr (by have := x68.size; omega)
          · exact Or.inl hx))) hnew
        clear c_HEt_wt f_HEt_wt r_HEt_wt
        have c_HEz_wc := fun w' o (k : Ext wc w') => k.cellOf HEz.out o
        have f_HEz_wc := fun w' o (k : Ext wc w') => frozen_of (k.keep HEz.out) o
        have r_HEz_wc := Ext.refl wc
        subst m3
        go_wp2_with fail
        refine (d_done l F' db d2 _ haz).mono ?_
        rintro e wy ⟨rfl, xy⟩
        have HEy := Lib.hid (xy.keep HEz.out)
        have hy := hz.ext xy
        have Xy := Xz.trans xy
        clear c_HEz_wc f_HEz_wc r_HEz_wc
        have c_HEy_wy := fun w' o (k : Ext wy w') => k.cellOf HEy.out o
        have f_HEy_wy := fun w' o (k : Ext wy w') => frozen_of (k.keep HEy.out) o
        have r_HEy_wy := Ext.refl wy
        have w17 : IntKind.i64.wrap ((16 : Int) + 1) = 17 := by decide
        rcases m7 with ⟨ma, mb⟩ | ⟨ma, mb⟩
        · rw [ma, mb]
          go_wp2_with fail
          refine wp_region_plan (Ext wy) [] [0, 1, 2, 3, 4, 5, 6, 7, 8, 9, 10, 11, 12, 13, 14, 15, 16, 17, 18, 19, 20, 21, 22, 23, 24, 25, 26, 27, 28, 29] 30 [] Try.mixed (by kernel_rfl) (by intro c a d v w h; cases d <;> exact h) (Ext.refl _).drew ?_
          simp only [opsAt, List.filterMap_cons, List.filterMap_nil, List.getElem?_toArray, List.getElem?_cons_zero, List.getElem?_cons_succ]
          refine Firsts.nil ?_
          (refine Heads.val (v := ?_) rfl (fun wv hwv => ?_) ?_; rotate_left; (go_simp; with_reducible rfl); simp only [Act.put, List.setIfInBounds_toArray, List.set_cons_zero, List.set_cons_succ])
          (refine Heads.val (v := ?_) rfl (fun wv hwv => ?_) ?_; rotate_left; (go_simp; with_reducible rfl); simp only [Act.put, List.setIfInBounds_toArray, List.set_cons_zero, List.set_cons_succ])
          (first | (refine Heads.val (v := ?_) rfl (fun wv hwv => ?_) ?_; rotate_left; (go_simp; with_reducible rfl); simp only [Act.put, List.setIfInBounds_toArray, List.set_cons_zero, List.set_cons_succ]) | (refine Heads.skip rfl ?_; simp only [Act.put, List.setIfInBounds_toArray, List.set_cons_zero, List.set_cons_succ]))
          (first | (refine Heads.call (v := ?_) rfl (fun wv hwv => ?_) ?_; rotate_left; (go_simp; simp only [GivesUpon.enter]; refine (h_won_nil _).mono ?_; rintro e w' ⟨rfl, hh⟩; refine ⟨?_, hwv.trans hh⟩; with_reducible rfl); simp only [Act.put, List.setIfInBounds_toArray, List.set_cons_zero, List.set_cons_succ]) | (refine Heads.skip rfl ?_; simp only [Act.put, List.setIfInBounds_toArray, List.set_cons_zero, List.set_cons_succ]))
          (first | (refine Heads.val (v := ?_) rfl (fun wv hwv => ?_) ?_; rotate_left; (go_simp; with_reducible rfl); simp only [Act.put, List.setIfInBounds_toArray, List.set_cons_zero, List.set_cons_succ]) | (refine Heads.skip rfl ?_; simp only [Act.put, List.setIfInBounds_toArray, List.set_cons_zero, List.set_cons_succ]))
          (refine Heads.val (v := ?_) rfl (fun wv hwv => ?_) ?_; rotate_left; (go_simp; with_reducible rfl); simp only [Act.put, List.setIfInBounds_toArray, List.set_cons_zero, List.set_cons_succ])
          (refine Heads.val (v := ?_) rfl (fun wv hwv => ?_) ?_; rotate_left; (go_simp; with_reducible rfl); simp only [Act.put, List.setIfInBounds_toArray, List.set_cons_zero, List.set_cons_succ])
          (first | (refine Heads.val (v := ?_) rfl (fun wv hwv => ?_) ?_; rotate_left; (go_simp; with_reducible rfl); simp only [Act.put, List.setIfInBounds_toArray, List.set_cons_zero, List.set_cons_succ]) | (refine Heads.skip rfl ?_; simp only [Act.put, List.setIfInBounds_toArray, List.set_cons_zero, List.set_cons_succ]))
          (first | (refine Heads.val (v := ?_) rfl (fun wv hwv => ?_) ?_; rotate_left; (go_simp; with_reducible rfl); simp only [Act.put, List.setIfInBounds_toArray, List.set_cons_zero, List.set_cons_succ]) | (refine Heads.skip rfl ?_; simp only [Act.put, List.setIfInBounds_toArray, List.set_cons_zero, List.set_cons_succ]))
          (first | (refine Heads.val (v := ?_) rfl (fun wv hwv => ?_) ?_; rotate_left; (go_simp; with_reducible rfl); simp only [Act.put, List.setIfInBounds_toArray, List.set_cons_zero, List.set_cons_succ]) | (refine Heads.skip rfl ?_; simp only [Act.put, List.setIfInBounds_toArray, List.set_cons_zero, List.set_cons_succ]))
          (first | (refine Heads.val (v := ?_) rfl (fun wv hwv => ?_) ?_; rotate_left; (go_simp; with_reducible rfl); simp only [Act.put, List.setIfInBounds_toArray, List.set_cons_zero, List.set_cons_succ]) | (refine Heads.skip rfl ?_; simp only [Act.put, List.setIfInBounds_toArray, List.set_cons_zero, List.set_cons_succ]))
          (first | (refine Heads.val (v := ?_) rfl (fun wv hwv => ?_) ?_; rotate_left; (go_simp; with_reducible rfl); simp only [Act.put, List.setIfInBounds_toArray, List.set_cons_zero, List.set_cons_succ]) | (refine Heads.skip rfl ?_; simp only [Act.put, List.setIfInBounds_toArray, List.set_cons_zero, List.set_cons_succ]))
          (refine Heads.val (v := ?_) rfl (fun wv hwv => ?_) ?_; rotate_left; (go_simp; with_reducible rfl); simp only [Act.put, List.setIfInBounds_toArray, List.set_cons_zero, List.set_cons_succ])
          (refine Heads.val (v := ?_) rfl (fun wv hwv => ?_) ?_; rotate_left; (go_simp; with_reducible rfl); simp only [Act.put, List.setIfInBounds_toArray, List.set_cons_zero, List.set_cons_succ])
          (first | (refine Heads.val (v := ?_) rfl (fun wv hwv => ?_) ?_; rotate_left; (go_simp; with_reducible rfl); simp only [Act.put, List.setIfInBounds_toArray, List.set_cons_zero, List.set_cons_succ]) | (refine Heads.skip rfl ?_; simp only [Act.put, List.setIfInBounds_toArray, List.set_cons_zero, List.set_cons_succ]))
          (first | (refine Heads.val (v := ?_) rfl (fun wv hwv => ?_) ?_; rotate_left; (go_simp; with_reducible rfl); simp only [Act.put, List.setIfInBounds_toArray, List.set_cons_zero, List.set_cons_succ]) | (refine Heads.skip rfl ?_; simp only [Act.put, List.setIfInBounds_toArray, List.set_cons_zero, List.set_cons_succ]))
          (first | (refine Heads.val (v := ?_) rfl (fun wv hwv => ?_) ?_; rotate_left; (go_simp; with_reducible rfl); simp only [Act.put, List.setIfInBounds_toArray, List.set_cons_zero, List.set_cons_succ]) | (refine Heads.skip rfl ?_; simp only [Act.put, List.setIfInBounds_toArray, List.set_cons_zero, List.set_cons_succ]))
          (first | (refine Heads.val (v := ?_) rfl (fun wv hwv => ?_) ?_; rotate_left; (go_simp; with_reducible rfl); simp only [Act.put, List.setIfInBounds_toArray, List.set_cons_zero, List.set_cons_succ]) | (refine Heads.skip rfl ?_; simp only [Act.put, List.setIfInBounds_toArray, List.set_cons_zero, List.set_cons_succ]))
          (first | (refine Heads.val (v := ?_) rfl (fun wv hwv => ?_) ?_; rotate_left; (go_simp; with_reducible rfl); simp only [Act.put, List.setIfInBounds_toArray, List.set_cons_zero, List.set_cons_succ]) | (refine Heads.skip rfl ?_; simp only [Act.put, List.setIfInBounds_toArray, List.set_cons_zero, List.set_cons_succ]))
          (refine Heads.val (v := ?_) rfl (fun wv hwv => ?_) ?_; rotate_left; (go_simp; with_reducible rfl); simp only [Act.put, List.setIfInBounds_toArray, List.set_cons_zero, List.set_cons_succ])
          (refine Heads.val (v := ?_) rfl (fun wv hwv => ?_) ?_; rotate_left; (go_simp; with_reducible rfl); simp only [Act.put, List.setIfInBounds_toArray, List.set_cons_zero, List.set_cons_succ])
          (first | (refine Heads.val (v := ?_) rfl (fun wv hwv => ?_) ?_; rotate_left; (go_simp; with_reducible rfl); simp only [Act.put, List.setIfInBounds_toArray, List.set_cons_zero, List.set_cons_succ]) | (refine Heads.skip rfl ?_; simp only [Act.put, List.setIfInBounds_toArray, List.set_cons_zero, List.set_cons_succ]))
          (first | (refine Heads.val (v := ?_) rfl (fun wv hwv => ?_) ?_; rotate_left; (go_simp; with_reducible rfl); simp only [Act.put, List.setIfInBounds_toArray, List.set_cons_zero, List.set_cons_succ]) | (refine Heads.skip rfl ?_; simp only [Act.put, List.setIfInBounds_toArray, List.set_cons_zero, List.set_cons_succ]))
          (first | (refine Heads.val (v := ?_) rfl (fun wv hwv => ?_) ?_; rotate_left; (go_simp; with_reducible rfl); simp only [Act.put, List.setIfInBounds_toArray, List.set_cons_zero, List.set_cons_succ]) | (refine Heads.skip rfl ?_; simp only [Act.put, List.setIfInBounds_toArray, List.set_cons_zero, List.set_cons_succ]))
          (first | (refine Heads.val (v := ?_) rfl (fun wv hwv => ?_) ?_; rotate_left; (go_simp; with_reducible rfl); simp only [Act.put, List.setIfInBounds_toArray, List.set_cons_zero, List.set_cons_succ]) | (refine Heads.skip rfl ?_; simp only [Act.put, List.setIfInBounds_toArray, List.set_cons_zero, List.set_cons_succ]))
          (first | (refine Heads.call (v := ?_) rfl (fun wv hwv => ?_) ?_; rotate_left; (go_simp; simp only [GivesUpon.enter]; refine (v_pChunk Fl.cH 0 16 _ pChunkH gc (by omega)).mono ?_; rintro e w' ⟨rfl, hh⟩; refine ⟨?_, hwv.trans hh⟩; with_reducible rfl); simp only [Act.put, List.setIfInBounds_toArray, List.set_cons_zero, List.set_cons_succ]) | (refine Heads.skip rfl ?_; simp only [Act.put, List.setIfInBounds_toArray, List.set_cons_zero, List.set_cons_succ]))
          (first | (refine Heads.val (v := ?_) rfl (fun wv hwv => ?_) ?_; rotate_left; (go_simp; with_reducible rfl); simp only [Act.put, List.setIfInBounds_toArray, List.set_cons_zero, List.set_cons_succ]) | (refine Heads.skip rfl ?_; simp only [Act.put, List.setIfInBounds_toArray, List.set_cons_zero, List.set_cons_succ]))
          (first | (refine Heads.call (v := ?_) rfl (fun wv hwv => ?_) ?_; rotate_left; (go_simp; simp only [GivesUpon.enter]; refine (v_peek l σ2 17 0 _ M6.out (hy.ext hwv)).mono ?_; rintro e w' ⟨rfl, hh⟩; refine ⟨?_, hwv.trans hh⟩; with_reducible rfl); simp only [Act.put, List.setIfInBounds_toArray, List.set_cons_zero, List.set_cons_succ]) | (refine Heads.skip rfl ?_; simp only [Act.put, List.setIfInBounds_toArray, List.set_cons_zero, List.set_cons_succ]))
          (first | (refine Heads.val (v := ?_) rfl (fun wv hwv => ?_) ?_; rotate_left; (go_simp; with_reducible rfl); simp only [Act.put, List.setIfInBounds_toArray, List.set_cons_zero, List.set_cons_succ]) | (refine Heads.skip rfl ?_; simp only [Act.put, List.setIfInBounds_toArray, List.set_cons_zero, List.set_cons_succ]))
          (refine Heads.val (v := ?_) rfl (fun wv hwv => ?_) ?_; rotate_left; (go_simp; with_reducible rfl); simp only [Act.put, List.setIfInBounds_toArray, List.set_cons_zero, List.set_cons_succ])
          refine Heads.nil ?_
          intro wz hwz
          go_wp2
          go_ret
          exact ⟨rfl, Xy.trans hwz⟩
        · rw [ma, mb]
          go_wp2_with fail
          refine wp_region_plan (Ext wy) [] [0, 1, 2, 3, 4, 5, 6, 7, 8, 9, 10, 11, 12, 13, 14, 15, 16, 17, 18, 19, 20, 21, 22, 23, 24, 25, 26, 27, 28, 29] 30 [] Try.mixed (by kernel_rfl) (by intro c a d v w h; cases d <;> exact h) (Ext.refl _).drew ?_
          simp only [opsAt, List.filterMap_cons, List.filterMap_nil, List.getElem?_toArray, List.getElem?_cons_zero, List.getElem?_cons_succ]
          refine Firsts.nil ?_
          (refine Heads.val (v := ?_) rfl (fun wv hwv => ?_) ?_; rotate_left; (go_simp; with_reducible rfl); simp only [Act.put, List.setIfInBounds_toArray, List.set_cons_zero, List.set_cons_succ])
          (refine Heads.val (v := ?_) rfl (fun wv hwv => ?_) ?_; rotate_left; (go_simp; with_reducible rfl); simp only [Act.put, List.setIfInBounds_toArray, List.set_cons_zero, List.set_cons_succ])
          (first | (refine Heads.val (v := ?_) rfl (fun wv hwv => ?_) ?_; rotate_left; (go_simp; with_reducible rfl); simp only [Act.put, List.setIfInBounds_toArray, List.set_cons_zero, List.set_cons_succ]) | (refine Heads.skip rfl ?_; simp only [Act.put, List.setIfInBounds_toArray, List.set_cons_zero, List.set_cons_succ]))
          (first | (refine Heads.call (v := ?_) rfl (fun wv hwv => ?_) ?_; rotate_left; (go_simp; simp only [GivesUpon.enter]; refine (h_won_nil _).mono ?_; rintro e w' ⟨rfl, hh⟩; refine ⟨?_, hwv.trans hh⟩; with_reducible rfl); simp only [Act.put, List.setIfInBounds_toArray, List.set_cons_zero, List.set_cons_succ]) | (refine Heads.skip rfl ?_; simp only [Act.put, List.setIfInBounds_toArray, List.set_cons_zero, List.set_cons_succ]))
          (first | (refine Heads.val (v := ?_) rfl (fun wv hwv => ?_) ?_; rotate_left; (go_simp; with_reducible rfl); simp only [Act.put, List.setIfInBounds_toArray, List.set_cons_zero, List.set_cons_succ]) | (refine Heads.skip rfl ?_; simp only [Act.put, List.setIfInBounds_toArray, List.set_cons_zero, List.set_cons_succ]))
          (refine Heads.val (v := ?_) rfl (fun wv hwv => ?_) ?_; rotate_left; (go_simp; with_reducible rfl); simp only [Act.put, List.setIfInBounds_toArray, List.set_cons_zero, List.set_cons_succ])
          (refine Heads.val (v := ?_) rfl (fun wv hwv => ?_) ?_; rotate_left; (go_simp; with_reducible rfl); simp only [Act.put, List.setIfInBounds_toArray, List.set_cons_zero, List.set_cons_succ])
          (first | (refine Heads.val (v := ?_) rfl (fun wv hwv => ?_) ?_; rotate_left; (go_simp; with_reducible rfl); simp only [Act.put, List.setIfInBounds_toArray, List.set_cons_zero, List.set_cons_succ]) | (refine Heads.skip rfl ?_; simp only [Act.put, List.setIfInBounds_toArray, List.set_cons_zero, List.set_cons_succ]))
          (first | (refine Heads.val (v := ?_) rfl (fun wv hwv => ?_) ?_; rotate_left; (go_simp; with_reducible rfl); simp only [Act.put, List.setIfInBounds_toArray, List.set_cons_zero, List.set_cons_succ]) | (refine Heads.skip rfl ?_; simp only [Act.put, List.setIfInBounds_toArray, List.set_cons_zero, List.set_cons_succ]))
          (first | (refine Heads.val (v := ?_) rfl (fun wv hwv => ?_) ?_; rotate_left; (go_simp; with_reducible rfl); simp only [Act.put, List.setIfInBounds_toArray, List.set_cons_zero, List.set_cons_succ]) | (refine Heads.skip rfl ?_; simp only [Act.put, List.setIfInBounds_toArray, List.set_cons_zero, List.set_cons_succ]))
          (first | (refine Heads.val (v := ?_) rfl (fun wv hwv => ?_) ?_; rotate_left; (go_simp; with_reducible rfl); simp only [Act.put, List.setIfInBounds_toArray, List.set_cons_zero, List.set_cons_succ]) | (refine Heads.skip rfl ?_; simp only [Act.put, List.setIfInBounds_toArray, List.set_cons_zero, List.set_cons_succ]))
          (first | (refine Heads.val (v := ?_) rfl (fun wv hwv => ?_) ?_; rotate_left; (go_simp; with_reducible rfl); simp only [Act.put, List.setIfInBounds_toArray, List.set_cons_zero, List.set_cons_succ]) | (refine Heads.skip rfl ?_; simp only [Act.put, List.setIfInBounds_toArray, List.set_cons_zero, List.set_cons_succ]))
          (refine Heads.val (v := ?_) rfl (fun wv hwv => ?_) ?_; rotate_left; (go_simp; with_reducible rfl); simp only [Act.put, List.setIfInBounds_toArray, List.set_cons_zero, List.set_cons_succ])
          (refine Heads.val (v := ?_) rfl (fun wv hwv => ?_) ?_; rotate_left; (go_simp; with_reducible rfl); simp only [Act.put, List.setIfInBounds_toArray, List.set_cons_zero, List.set_cons_succ])
          (first | (refine Heads.val (v := ?_) rfl (fun wv hwv => ?_) ?_; rotate_left; (go_simp; with_reducible rfl); simp only [Act.put, List.setIfInBounds_toArray, List.set_cons_zero, List.set_cons_succ]) | (refine Heads.skip rfl ?_; simp only [Act.put, List.setIfInBounds_toArray, List.set_cons_zero, List.set_cons_succ]))
          (first | (refine Heads.val (v := ?_) rfl (fun wv hwv => ?_) ?_; rotate_left; (go_simp; with_reducible rfl); simp only [Act.put, List.setIfInBounds_toArray, List.set_cons_zero, List.set_cons_succ]) | (refine Heads.skip rfl ?_; simp only [Act.put, List.setIfInBounds_toArray, List.set_cons_zero, List.set_cons_succ]))
          (first | (refine Heads.val (v := ?_) rfl (fun wv hwv => ?_) ?_; rotate_left; (go_simp; with_reducible rfl); simp only [Act.put, List.setIfInBounds_toArray, List.set_cons_zero, List.set_cons_succ]) | (refine Heads.skip rfl ?_; simp only [Act.put, List.setIfInBounds_toArray, List.set_cons_zero, List.set_cons_succ]))
          (first | (refine Heads.val (v := ?_) rfl (fun wv hwv => ?_) ?_; rotate_left; (go_simp; with_reducible rfl); simp only [Act.put, List.setIfInBounds_toArray, List.set_cons_zero, List.set_cons_succ]) | (refine Heads.skip rfl ?_; simp only [Act.put, List.setIfInBounds_toArray, List.set_cons_zero, List.set_cons_succ]))
          (first | (refine Heads.val (v := ?_) rfl (fun wv hwv => ?_) ?_; rotate_left; (go_simp; with_reducible rfl); simp only [Act.put, List.setIfInBounds_toArray, List.set_cons_zero, List.set_cons_succ]) | (refine Heads.skip rfl ?_; simp only [Act.put, List.setIfInBounds_toArray, List.set_cons_zero, List.set_cons_succ]))
          (refine Heads.val (v := ?_) rfl (fun wv hwv => ?_) ?_; rotate_left; (go_simp; with_reducible rfl); simp only [Act.put, List.setIfInBounds_toArray, List.set_cons_zero, List.set_cons_succ])
          (refine Heads.val (v := ?_) rfl (fun wv hwv => ?_) ?_; rotate_left; (go_simp; with_reducible rfl); simp only [Act.put, List.setIfInBounds_toArray, List.set_cons_zero, List.set_cons_succ])
          (first | (refine Heads.val (v := ?_) rfl (fun wv hwv => ?_) ?_; rotate_left; (go_simp; with_reducible rfl); simp only [Act.put, List.setIfInBounds_toArray, List.set_cons_zero, List.set_cons_succ]) | (refine Heads.skip rfl ?_; simp only [Act.put, List.setIfInBounds_toArray, List.set_cons_zero, List.set_cons_succ]))
          (first | (refine Heads.val (v := ?_) rfl (fun wv hwv => ?_) ?_; rotate_left; (go_simp; with_reducible rfl); simp only [Act.put, List.setIfInBounds_toArray, List.set_cons_zero, List.set_cons_succ]) | (refine Heads.skip rfl ?_; simp only [Act.put, List.setIfInBounds_toArray, List.set_cons_zero, List.set_cons_succ]))
          (first | (refine Heads.val (v := ?_) rfl (fun wv hwv => ?_) ?_; rotate_left; (go_simp; with_reducible rfl); simp only [Act.put, List.setIfInBounds_toArray, List.set_cons_zero, List.set_cons_succ]) | (refine Heads.skip rfl ?_; simp only [Act.put, List.setIfInBounds_toArray, List.set_cons_zero, List.set_cons_succ]))
          (first | (refine Heads.val (v := ?_) rfl (fun wv hwv => ?_) ?_; rotate_left; (go_simp; with_reducible rfl); simp only [Act.put, List.setIfInBounds_toArray, List.set_cons_zero, List.set_cons_succ]) | (refine Heads.skip rfl ?_; simp only [Act.put, List.setIfInBounds_toArray, List.set_cons_zero, List.set_cons_succ]))
          (first | (refine Heads.call (v := ?_) rfl (fun wv hwv => ?_) ?_; rotate_left; (go_simp; simp only [GivesUpon.enter]; refine (v_pChunk Fl.cH 0 16 _ pChunkH gc (by omega)).mono ?_; rintro e w' ⟨rfl, hh⟩; refine ⟨?_, hwv.trans hh⟩; with_reducible rfl); simp only [Act.put, List.setIfInBounds_toArray, List.set_cons_zero, List.set_cons_succ]) | (refine Heads.skip rfl ?_; simp only [Act.put, List.setIfInBounds_toArray, List.set_cons_zero, List.set_cons_succ]))
          (first | (refine Heads.val (v := ?_) rfl (fun wv hwv => ?_) ?_; rotate_left; (go_simp; with_reducible rfl); simp only [Act.put, List.setIfInBounds_toArray, List.set_cons_zero, List.set_cons_succ]) | (refine Heads.skip rfl ?_; simp only [Act.put, List.setIfInBounds_toArray, List.set_cons_zero, List.set_cons_succ]))
          (first | (refine Heads.call (v := ?_) rfl (fun wv hwv => ?_) ?_; rotate_left; (go_simp; simp only [GivesUpon.enter]; refine (v_peek l σ2 17 0 _ M6.out (hy.ext hwv)).mono ?_; rintro e w' ⟨rfl, hh⟩; refine ⟨?_, hwv.trans hh⟩; with_reducible rfl); simp only [Act.put, List.setIfInBounds_toArray, List.set_cons_zero, List.set_cons_succ]) | (refine Heads.skip rfl ?_; simp only [Act.put, List.setIfInBounds_toArray, List.set_cons_zero, List.set_cons_succ]))
          (first | (refine Heads.val (v := ?_) rfl (fun wv hwv => ?_) ?_; rotate_left; (go_simp; with_reducible rfl); simp only [Act.put, List.setIfInBounds_toArray, List.set_cons_zero, List.set_cons_succ]) | (refine Heads.skip rfl ?_; simp only [Act.put, List.setIfInBounds_toArray, List.set_cons_zero, List.set_cons_succ]))
          (refine Heads.val (v := ?_) rfl (fun wv hwv => ?_) ?_; rotate_left; (go_simp; with_reducible rfl); simp only [Act.put, List.setIfInBounds_toArray, List.set_cons_zero, List.set_cons_succ])
          refine Heads.nil ?_
          intro wz hwz
          go_wp2
          go_ret
          exact ⟨rfl, Xy.trans hwz⟩

end Go.Proofs.Ythblhgappldcjaa
