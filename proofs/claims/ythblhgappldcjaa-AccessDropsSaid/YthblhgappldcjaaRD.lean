/- AccessDrops: the walk. -/
import Derived.Test.YthblhgappldcjaaXh
import Derived.Test.YthblhgappldcjaaPi
import Derived.Test.YthblhgappldcjaaSb
import Derived.Test.YthblhgappldcjaaVa
import Derived.Deep.CutBlock
import Derived.Deep.DeepCutAuto
namespace Go.Proofs.Ythblhgappldcjaa
open Go Go.RowKit
set_option linter.unusedVariables false

theorem goodD : GoodC Fl.cD := ⟨by simp [Fl.cD], by simp [Fl.cD], by simp [Fl.cD], by simp [Fl.cD], by simp [Fl.cD], by simp [Fl.cD], by simp [Fl.cD]⟩
theorem add_block (a : Addr) (i : Nat) : (a.add i).block = a.block := by unfold Addr.add; split <;> rfl
theorem cell_keep {w w' : World} {a : Addr} (h : w'.heap[a.block]? = w.heap[a.block]?) : w'.cell? a = w.cell? a := by simp [World.cell?, h]

theorem AccessAt.keepU {W W' : World} {l : Loc} {F S : List Nat} {b : Nat} {a : Fl.Access} (h : AccessAt W l F b a) (u : Upd S W W') (hS : ∀ x, x ∈ F → x ∉ S) : AccessAt W' l F b a := by
  obtain ⟨⟨H, hB, hH⟩, hbF, hout, hFl, hn, hw, hcl, hsl, hgn, hsz, hpc⟩ := h
  refine ⟨⟨H, u.keep hB (hS b hbF), fun q => ?_⟩, hbF, hout, fun y hy => Nat.lt_of_lt_of_le (hFl y hy) u.size, hn, hw, hcl, hsl, hgn, hsz, hpc⟩
  obtain ⟨p, h1, h2, h3, h4⟩ := hH q
  exact ⟨p, h1, h2, h3, h4.keep u (hS p h1)⟩


set_option maxHeartbeats 8000000 in
set_option maxRecDepth 100000 in
theorem w_accessDrops (kind : Int) (q : Option Addr) (len cap : Nat) (z : Nat → Int) (W : World) (hq : ∀ i, i < len → ∃ a, q = some a ∧ a.block < W.heap.size ∧ W.cell? (a.add i) = some (.int .i64 (z i))) :
    Calls Try.prog 19 #[.int .i64 kind, .slice q len cap] W fun e w' => e = .returned (.bool true) ∧ Ext W w' := by
  have fl1 := field_done1
  have ia := iand1 kind
  obtain ⟨k, hk, hk1⟩ : ∃ k : Int, kind % 2 = k ∧ (k = 0 ∨ k = 1) := ⟨kind % 2, rfl, by omega⟩
  have HK := Lib.hid hk1
  have HQ := Lib.hid hq
  have hw1 : IntKind.i64.wrap (1 + k) = 1 + k := IntWalk.i64_in _ (by omega)
  clear hk1 hq
  have gc := goodD
  go_enter Try.func19, Try.ntmps19
  go_wp2_with fail
  refine (n_arena 4 4 2 20 _ goodD).mono ?_
  rintro e w1 ⟨l, rfl, h1, x1, hnew⟩
  have hE := heap_new w1 (.cells #[.int .i64 4, .int .i64 4, .int .i64 2, .int .i64 20, .int .i64 100, .int .i64 600, .int .i64 3, .pointer (some ⟨l.m, 0, none⟩), .int .i64 0] 27)
  have hX := (Ext.refl w1).alloc (.cells #[.int .i64 4, .int .i64 4, .int .i64 2, .int .i64 20, .int .i64 100, .int .i64 600, .int .i64 3, .pointer (some ⟨l.m, 0, none⟩), .int .i64 0] 27)
  have hlt := h1.lt
  go_wp2_with fail
  generalize w1.alloc (.cells #[.int .i64 4, .int .i64 4, .int .i64 2, .int .i64 20, .int .i64 100, .int .i64 600, .int .i64 3, .pointer (some ⟨l.m, 0, none⟩), .int .i64 0] 27) = w2 at *
  have hb1 : W.heap.size ≤ w1.heap.size := x1.size
  have hbe : w1.heap.size ∉ l.all := fun hm => by have := hlt _ hm; omega
  generalize w1.heap.size = eb at *
  refine (awake10 _).mono ?_
  rintro e w3 ⟨rfl, x3⟩
  have HE3 := Lib.hid (x3.keep hE)
  have h3 := h1.ext (hX.trans x3)
  have X3 := x1.trans (hX.trans x3)
  clear hE h1 hX x3 x1
  have c_HE3_w3 := fun w' o (k : Ext w3 w') => k.cellOf HE3.out o
  have f_HE3_w3 := fun w' o (k : Ext w3 w') => frozen_of (k.keep HE3.out) o
  have r_HE3_w3 := Ext.refl w3
  go_wp2_with fail
  refine (n_make Fl.cD l (Fl.fresh Fl.cD) 0 2 false w3 gc h3 (Fl.Alloc.safe_of _ _ _ Fl.dA_safe)).mono ?_
  rintro e w4 ⟨rfl, h4', u4⟩
  have h4 : MemAt w4 l Fl.dA.2 := h4'
  clear h4'
  rw [Fl.dA_out]
  have HE4 := Lib.hid (u4.keep HE3.out hbe)
  clear c_HE3_w3 f_HE3_w3 r_HE3_w3
  have c_HE4_w4 := fun w' o (k : Ext w4 w') => k.cellOf HE4.out o
  have f_HE4_w4 := fun w' o (k : Ext w4 w') => frozen_of (k.keep HE4.out) o
  have r_HE4_w4 := Ext.refl w4
  go_wp2_with fail
  refine (n_access l (Fl.dX k) false w4 (show (65536 : Nat) < 18446744073709551616 by decide) h4.lt).mono ?_
  rintro e w5 ⟨ab, hab, rfl, ha5, x5⟩
  have HE5 := Lib.hid (x5.keep HE4.out)
  have h5 := h4.ext x5
  have U5 := u4.extR x5
  have z4 := lt_of_heap HE4.out
  have z5 := lt_of_heap HE5.out
  have zab := ha5.lt ab ha5.mem
  clear c_HE4_w4 f_HE4_w4 r_HE4_w4
  have c_HE5_w5 := fun w' o (k : Ext w5 w') => k.cellOf HE5.out o
  have f_HE5_w5 := fun w' o (k : Ext w5 w') => frozen_of (k.keep HE5.out) o
  have r_HE5_w5 := Ext.refl w5
  go_upto_block 0 with fail
  have zo1 : (w5.alloc (.cells #[.int .i64 0, .int .u64 0, .int .i64 0, .int .i64 0] 34)).heap.size = w5.heap.size + 1 := by simp
  have zo2 : ((w5.alloc (.cells #[.int .i64 0, .int .u64 0, .int .i64 0, .int .i64 0] 34)).alloc (.cells #[.int .i64 0, .int .u64 0, .int .i64 0, .int .i64 0] 34)).heap.size = w5.heap.size + 1 + 1 := by simp
  have hO := heap_old (o' := (.cells #[.bool false, .bool false] 96)) (heap_old (o' := (.cells #[.int .i64 0, .int .u64 0, .int .i64 0, .int .i64 0] 34)) (heap_new w5 (.cells #[.int .i64 0, .int .u64 0, .int .i64 0, .int .i64 0] 34)))
  have hG := heap_new (w5.alloc (.cells #[.int .i64 0, .int .u64 0, .int .i64 0, .int .i64 0] 34)) (.cells #[.int .i64 0, .int .u64 0, .int .i64 0, .int .i64 0] 34)
  rw [zo1] at hG
  have hG := heap_old (o' := (.cells #[.bool false, .bool false] 96)) hG
  have hD := heap_new ((w5.alloc (.cells #[.int .i64 0, .int .u64 0, .int .i64 0, .int .i64 0] 34)).alloc (.cells #[.int .i64 0, .int .u64 0, .int .i64 0, .int .i64 0] 34)) (.cells #[.bool false, .bool false] 96)
  rw [zo2] at hD
  have x6 := (((Ext.refl w5).alloc (.cells #[.int .i64 0, .int .u64 0, .int .i64 0, .int .i64 0] 34)).alloc (.cells #[.int .i64 0, .int .u64 0, .int .i64 0, .int .i64 0] 34)).alloc (.cells #[.bool false, .bool false] 96)
  clear zo1 zo2
  generalize ((w5.alloc (.cells #[.int .i64 0, .int .u64 0, .int .i64 0, .int .i64 0] 34)).alloc (.cells #[.int .i64 0, .int .u64 0, .int .i64 0, .int .i64 0] 34)).alloc (.cells #[.bool false, .bool false] 96) = w6 at *
  have HE6 := Lib.hid (x6.keep HE5.out)
  have h6 := h5.ext x6
  have ha6 := ha5.ext x6
  have zs : eb < w5.heap.size ∧ ab < w5.heap.size ∧ w4.heap.size ≤ ab := ⟨z5, zab, hab⟩
  have hll : ∀ x, x ∈ l.all → x < w4.heap.size := h4.lt
  have n1 : w5.heap.size ≠ w5.heap.size + 1 := by omega
  have n2 : w5.heap.size ≠ w5.heap.size + 1 + 1 := by omega
  have n3 : w5.heap.size + 1 ≠ w5.heap.size + 1 + 1 := by omega
  have no : eb < w5.heap.size + 1 ∧ ab < w5.heap.size + 1 := by omega
  have np : eb < w5.heap.size + 1 + 1 ∧ ab < w5.heap.size + 1 + 1 := by omega
  have hz3 : w3.heap.size ≤ w4.heap.size := u4.size
  have ho5 : w4.heap.size ≤ w5.heap.size ∧ w4.heap.size ≤ w5.heap.size + 1 ∧ w4.heap.size ≤ w5.heap.size + 1 + 1 := by have := x5.size; omega
  generalize w5.heap.size + 1 + 1 = db at *
  generalize w5.heap.size + 1 = gb at *
  have hol : w5.heap.size ∉ l.all := fun hm => by have := hll _ hm; omega
  have hgl : gb ∉ l.all := fun hm => by have := hll _ hm; omega
  have hdl : db ∉ l.all := fun hm => by have := hll _ hm; omega
  generalize w5.heap.size = ob at *
  have HO6 := Lib.hid hO
  have HG6 := Lib.hid hG
  have HD6 := Lib.hid hD
  clear hO hG hD c_HE5_w5 f_HE5_w5 r_HE5_w5
  have hab6 : ab < w6.heap.size := ha6.lt ab ha6.mem
  have hzz : ob < w6.heap.size ∧ gb < w6.heap.size ∧ db < w6.heap.size ∧ eb < w6.heap.size := ⟨lt_of_heap HO6.out, lt_of_heap HG6.out, lt_of_heap HD6.out, lt_of_heap HE6.out⟩
  have X6 : Ext W w6 := (X3.updNew U5 hnew).trans x6
  have hW6 : W.heap.size ≤ w4.heap.size := by have := X3.size; omega
  have hnw : ∀ x, x ∈ ab :: ob :: gb :: db :: l.all → W.heap.size ≤ x := by
    intro x hx
    simp only [List.mem_cons] at hx
    rcases hx with hx | hx | hx | hx | hx
    · omega
    · omega
    · omega
    · omega
    · exact hnew x hx
  have neD : eb ≠ db := by omega
  have noD : ob ≠ db := by omega
  have ngD : gb ≠ db := by omega
  have ngO : gb ≠ ob := by omega
  have ndO : db ≠ ob := by omega
  have noG : ob ≠ gb := by omega
  have ndG : db ≠ gb := by omega
  have c_HE6_w6 := fun w' o (k : Ext w6 w') => k.cellOf HE6.out o
  have f_HE6_w6 := fun w' o (k : Ext w6 w') => frozen_of (k.keep HE6.out) o
  have r_HE6_w6 := Ext.refl w6
  have c_HD6_w6 := fun w' o (k : Ext w6 w') => k.cellOf HD6.out o
  have f_HD6_w6 := fun w' o (k : Ext w6 w') => frozen_of (k.keep HD6.out) o
  have r_HD6_w6 := Ext.refl w6
  go_cut [12, 13] from 36 to 80 (fun i v wx => ∃ (a : Fl.Access) (σ : Fl.Mem) (o g : Fl.Done) (F : List Nat), MemAt wx l σ ∧ (g.e = 0 ∧ ((o.e = 0 ∧ o.stamp < g.stamp) ∨ (o.e = 3 ∧ o.stamp ≥ g.stamp))) ∧ wx.heap[ob]? = some (.cells #[.int .i64 o.e, .int .u64 (o.handle : Nat), .int .i64 o.value, .int .i64 o.stamp] 34 (0, 0)) ∧ wx.heap[gb]? = some (.cells #[.int .i64 g.e, .int .u64 (g.handle : Nat), .int .i64 g.value, .int .i64 g.stamp] 34 (0, 0)) ∧ wx.heap[db]? = some (.cells #[.bool true, .bool true] 96 (0, 0)) ∧ Ext W wx)
  case first =>
    go_wp2_with fail
    go_loopg [12, 13] 200 (fun kk i v wr => ∃ (a : Fl.Access) (σ : Fl.Mem) (b dn : Bool) (o g : Fl.Done) (F : List Nat) (j : Nat), i = .int .i64 (j : Int) ∧ j + kk = 200 ∧ Fl.DropsAt k j a σ b g dn ∧ (b = true → o = a.out) ∧ (b = false → a.okIdx) ∧ MemAt wr l σ ∧ AccessAt wr l F ab a ∧ (∀ x, x ∈ F → x = ab ∨ w6.heap.size ≤ x) ∧ wr.heap[ob]? = some (.cells #[.int .i64 o.e, .int .u64 (o.handle : Nat), .int .i64 o.value, .int .i64 o.stamp] 34 (0, 0)) ∧ wr.heap[gb]? = some (.cells #[.int .i64 g.e, .int .u64 (g.handle : Nat), .int .i64 g.value, .int .i64 g.stamp] 34 (0, 0)) ∧ wr.heap[db]? = some (.cells #[.bool b, .bool dn] 96 (0, 0)) ∧ Upd (ab :: ob :: gb :: db :: l.all) w6 wr)
    case atStart =>
      exact ⟨_, _, false, false, ⟨0, 0, 0, 0⟩, ⟨0, 0, 0, 0⟩, _, 0, rfl, by omega, Fl.DropsAt.start k _, (fun q => by cases q), (fun _ q => by simp [Fl.Access.new] at q), h6, ha6, fun x hx => Or.inl (List.mem_singleton.1 hx), HO6.out, HG6.out, HD6.out, Upd.refl _ _⟩
    case round =>
      obtain ⟨a, σ, b, dn, o, g, F, j, rfl, hj, hat, hob, hidx, h, ha, hF, hO, hG, hD, hu⟩ := hrel
      have hbE : eb ∉ ab :: ob :: gb :: db :: l.all := by
        intro hm
        simp only [List.mem_cons] at hm
        rcases hm with hm | hm | hm | hm | hm
        · omega
        · omega
        · omega
        · omega
        · exact hbe hm
      have HEr := Lib.hid (hu.keep HE6.out hbE)
      have HAT := Lib.hid (And.intro hat (And.intro hob hidx))
      have HOr := Lib.hid hO
      have HGr := Lib.hid hG
      have HDr := Lib.hid hD
      clear hat hob hidx hO hG hD c_HE6_w6 f_HE6_w6 r_HE6_w6 c_HD6_w6 f_HD6_w6 r_HD6_w6
      have c_HEr_wr := fun w' o (k : Ext wr w') => k.cellOf HEr.out o
      have f_HEr_wr := fun w' o (k : Ext wr w') => frozen_of (k.keep HEr.out) o
      have r_HEr_wr := Ext.refl wr
      have c_HDr_wr := fun w' o (k : Ext wr w') => k.cellOf HDr.out o
      have f_HDr_wr := fun w' o (k : Ext wr w') => frozen_of (k.keep HDr.out) o
      have r_HDr_wr := Ext.refl wr
      cases gk with
      | zero =>
        have hj2 : j = 200 := hj
        have b0 : decide ((j : Int) < 200) = false := decide_eq_false (by omega)
        clear hj
        go_wp2_with fail
        go_meet
        case rel =>
          obtain ⟨e1, e2, e3, e4⟩ := Fl.DropsAt.final HK.out (Or.inl hj2) HAT.out.1
          subst e1 e2
          have ho := HAT.out.2.1 rfl
          subst ho
          exact ⟨a, σ, a.out, g, F, h, ⟨e3, e4⟩, HOr.out, HGr.out, HDr.out, X6.updNew hu hnw⟩
      | succ kk =>
        have b0 : decide ((j : Int) < 200) = true := decide_eq_true (by omega)
        cases b
        · cases dn
          · have ij := iand1 (j : Int)
            by_cases c0 : j < len
            · have c1 : decide ((j : Int) < len) = true := decide_eq_true (by omega)
              by_cases d0 : j < 60
              · have d1 : decide ((j : Int) < 60) = true := decide_eq_true (by omega)
                obtain ⟨aa, rfl, hblk, hcell⟩ := HQ.out j c0
                have hb1 : wr.heap[(aa.add j).block]? = W.heap[(aa.add j).block]? := by
                  rw [add_block]
                  exact (hu.block _ (by have := X6.size; omega) (fun hm => by have := hnw _ hm; omega)).trans (X6.block hblk)
                have hcl : wr.cell? (aa.add j) = some (.int .i64 (z j)) := (cell_keep hb1).trans hcell
                clear hb1
                have ik := iand1 (z j)
                have hkk : z j % 2 = 0 ∨ z j % 2 = 1 := by omega
                have hpr : True ∨ z j % 2 = 5 := Or.inl trivial
                rcases hkk with hkk | hkk
                · rw [hkk] at ik hpr
                  have hpar : j < 60 ∨ j % 2 = 0 := by omega
                  have OKI := Lib.hid (show a.okIdx by first | exact HAT.out.2.2 rfl | exact HAT.out.2.2 trivial | exact HAT.out.2.2)
                  go_wp2_with fail
                  refine (x_step Fl.cD l σ 0 F ab a _ gc h (by have := Fl.DropsAt.steps HK.out HAT.out.1; omega) ha OKI.out).mono ?_
                  rintro e w7 ⟨rfl, h7, u7, F', ha7, hF'⟩
                  have hat' := Fl.DropsAt.step (by omega) HAT.out.1
                  have hid := Fl.Access.idx_step (c := Fl.cD) (who := 0) (m := σ) OKI.out ha.pc
                  have nF : ∀ y, y < w6.heap.size → y ≠ ab → y ∉ l.all → y ∉ F ++ l.all := by
                    intro y h1 h2 h3 hm
                    rcases List.mem_append.1 hm with hm | hm
                    · rcases hF y hm with h4 | h4
                      · exact h2 h4
                      · omega
                    · exact h3 hm
                  have HE7 := Lib.hid (u7.keep HEr.out (nF eb hzz.2.2.2 (by omega) hbe))
                  have HO7 := Lib.hid (u7.keep HOr.out (nF ob hzz.1 (by omega) hol))
                  have HG7 := Lib.hid (u7.keep HGr.out (nF gb hzz.2.1 (by omega) hgl))
                  have HD7 := Lib.hid (u7.keep HDr.out (nF db hzz.2.2.1 (by omega) hdl))
                  have hu7 : Upd (ab :: ob :: gb :: db :: l.all) w6 w7 := hu.then u7 (fun x hx => by
                    rcases List.mem_append.1 hx with hx | hx
                    · rcases hF x hx with h1 | h1
                      · exact Or.inl (by rw [h1]; exact List.mem_cons_self ..)
                      · exact Or.inr h1
                    · exact Or.inl (by simp [hx]))
                  have hF7 : ∀ x, x ∈ F' → x = ab ∨ w6.heap.size ≤ x := fun x hx => by
                    rcases hF' x hx with h1 | h1
                    · exact hF x h1
                    · have := hu.size; exact Or.inr (by omega)
                  generalize a.step Fl.cD 0 σ = st at *
                  obtain ⟨y, a', σ'⟩ := st
                  simp only at h7 ha7 hat' hid
                  have HAS := Lib.hid (And.intro hat' hid)
                  clear hat' hid c_HEr_wr f_HEr_wr r_HEr_wr c_HDr_wr f_HDr_wr r_HDr_wr
                  have c_HD7_w7 := fun w' o (k : Ext w7 w') => k.cellOf HD7.out o
                  have f_HD7_w7 := fun w' o (k : Ext w7 w') => frozen_of (k.keep HD7.out) o
                  have r_HD7_w7 := Ext.refl w7
                  have nF' : ∀ x, x ∈ F' → x ∉ [db] ∧ x ∉ [ob] := by
                    intro x hx
                    have := hF7 x hx
                    refine ⟨fun hm => ?_, fun hm => ?_⟩ <;> (rw [List.mem_singleton.1 hm] at this; omega)
                  cases y
                  · go_wp2_with fail
                    have HD8 := Lib.hid (heap_set HD7.out 0 (.bool false))
                    have HE8 := Lib.hid (heap_far HE7.out (p := ⟨db, 0, none⟩) neD (.bool false))
                    have HO8 := Lib.hid (heap_far HO7.out (p := ⟨db, 0, none⟩) noD (.bool false))
                    have HG8 := Lib.hid (heap_far HG7.out (p := ⟨db, 0, none⟩) ngD (.bool false))
                    have u8 := ((Upd.refl [db] w7).set1 0 (.bool false))
                    generalize (World.setCell w7 ⟨db, 0, none⟩ (.bool false)) = w8 at *
                    simp only [List.setIfInBounds_toArray, List.set_cons_zero] at HD8
                    go_roundg kk
                    case measure => omega
                    case rel =>
                      refine ⟨a', σ', false, false, o, g, F', j + 1, by simp, by omega, HAS.out.1, (fun q => by cases q), (fun _ => HAS.out.2 trivial), h7.keep1 u8 hdl, ha7.keepU u8 (fun x hx => (nF' x hx).1), hF7, HO8.out, HG8.out, HD8.out, hu7.trans (u8.mono (by intro x hx; rw [List.mem_singleton.1 hx]; simp))⟩
                  · go_wp2_with fail
                    have HD8 := Lib.hid (heap_set HD7.out 0 (.bool true))
                    have HE8 := Lib.hid (heap_far HE7.out (p := ⟨db, 0, none⟩) neD (.bool true))
                    have HO8 := Lib.hid (heap_far HO7.out (p := ⟨db, 0, none⟩) noD (.bool true))
                    have HG8 := Lib.hid (heap_far HG7.out (p := ⟨db, 0, none⟩) ngD (.bool true))
                    have u8 := ((Upd.refl [db] w7).set1 0 (.bool true))
                    generalize (World.setCell w7 ⟨db, 0, none⟩ (.bool true)) = w8 at *
                    simp only [List.setIfInBounds_toArray, List.set_cons_zero] at HD8
                    have ha8 := ha7.keepU u8 (fun x hx => (nF' x hx).1)
                    refine (x_done l F' ab a' _ ha8).mono ?_
                    rintro e w9 ⟨rfl, x9⟩
                    have HO9 := Lib.hid (x9.keep HO8.out)
                    have HG9 := Lib.hid (x9.keep HG8.out)
                    have HD9 := Lib.hid (x9.keep HD8.out)
                    clear c_HD7_w7 f_HD7_w7 r_HD7_w7
                    have c_HO9_w9 := fun w' o (k : Ext w9 w') => k.cellOf HO9.out o
                    have f_HO9_w9 := fun w' o (k : Ext w9 w') => frozen_of (k.keep HO9.out) o
                    have r_HO9_w9 := Ext.refl w9
                    go_wp2_with fail
                    have HOa := Lib.hid (heap_set (heap_set (heap_set (heap_set HO9.out 0 (.int .i64 a'.out.e)) 1 (.int .u64 (a'.out.handle : Nat))) 2 (.int .i64 a'.out.value)) 3 (.int .i64 a'.out.stamp))
                    have HGa := Lib.hid (heap_far (heap_far (heap_far (heap_far HG9.out (p := ⟨ob, 0, none⟩) ngO (.int .i64 a'.out.e)) (p := ⟨ob, 1, none⟩) ngO (.int .u64 (a'.out.handle : Nat))) (p := ⟨ob, 2, none⟩) ngO (.int .i64 a'.out.value)) (p := ⟨ob, 3, none⟩) ngO (.int .i64 a'.out.stamp))
                    have HDa := Lib.hid (heap_far (heap_far (heap_far (heap_far HD9.out (p := ⟨ob, 0, none⟩) ndO (.int .i64 a'.out.e)) (p := ⟨ob, 1, none⟩) ndO (.int .u64 (a'.out.handle : Nat))) (p := ⟨ob, 2, none⟩) ndO (.int .i64 a'.out.value)) (p := ⟨ob, 3, none⟩) ndO (.int .i64 a'.out.stamp))
                    have ua := (((((Upd.refl [ob] w9).set1 0 (.int .i64 a'.out.e)).set1 1 (.int .u64 (a'.out.handle : Nat))).set1 2 (.int .i64 a'.out.value)).set1 3 (.int .i64 a'.out.stamp))
                    generalize (World.setCell (World.setCell (World.setCell (World.setCell w9 ⟨ob, 0, none⟩ (.int .i64 a'.out.e)) ⟨ob, 1, none⟩ (.int .u64 (a'.out.handle : Nat))) ⟨ob, 2, none⟩ (.int .i64 a'.out.value)) ⟨ob, 3, none⟩ (.int .i64 a'.out.stamp)) = wa at *
                    simp only [List.setIfInBounds_toArray, List.set_cons_zero, List.set_cons_succ] at HOa
                    go_roundg kk
                    case measure => omega
                    case rel =>
                      refine ⟨a', σ', true, false, a'.out, g, F', j + 1, by simp, by omega, HAS.out.1, (fun q => rfl), (fun q => by cases q), ((h7.keep1 u8 hdl).ext x9).keep1 ua hol, (ha8.ext x9).keepU ua (fun x hx => (nF' x hx).2), hF7, HOa.out, HGa.out, HDa.out, ?_⟩
                      · exact ((hu7.trans (u8.mono (by intro x hx; rw [List.mem_singleton.1 hx]; simp))).extR x9).trans (ua.mono (by intro x hx; rw [List.mem_singleton.1 hx]; simp))
                · rw [hkk] at ik hpr
                  have hpar : j < 60 ∨ j % 2 = 1 := by omega
                  go_wp2_with fail
                  refine (n_let Fl.cD l σ 0 65536 false wr gc h (by decide) (Fl.Drop.safe_steps _ _ _ _ _ (by have := Fl.DropsAt.steps HK.out HAT.out.1; omega) (by have := Fl.DropsAt.steps HK.out HAT.out.1; omega))).mono ?_
                  rintro e w7 ⟨rfl, h7, u7⟩
                  have hat' := Fl.DropsAt.drop HAT.out.1 hpar
                  generalize Fl.Drop.loop Fl.cD 0 200 σ (Fl.Drop.new 65536 false) = oo at *
                  obtain ⟨gd, σ'⟩ := oo
                  simp only at h7 hat'
                  have HAS := Lib.hid hat'
                  have HO7 := Lib.hid (u7.keep HOr.out hol)
                  have HG7 := Lib.hid (u7.keep HGr.out hgl)
                  have HD7 := Lib.hid (u7.keep HDr.out hdl)
                  have ha7 := ha.keepU u7 (fun x hx => ha.out x hx)
                  have hu7 : Upd (ab :: ob :: gb :: db :: l.all) w6 w7 := hu.trans (u7.mono (by intro x hx; simp [hx]))
                  clear hat' c_HEr_wr f_HEr_wr r_HEr_wr c_HDr_wr f_HDr_wr r_HDr_wr
                  have c_HG7_w7 := fun w' o (k : Ext w7 w') => k.cellOf HG7.out o
                  have f_HG7_w7 := fun w' o (k : Ext w7 w') => frozen_of (k.keep HG7.out) o
                  have r_HG7_w7 := Ext.refl w7
                  have c_HD7_w7 := fun w' o (k : Ext w7 w') => k.cellOf HD7.out o
                  have f_HD7_w7 := fun w' o (k : Ext w7 w') => frozen_of (k.keep HD7.out) o
                  have r_HD7_w7 := Ext.refl w7
                  go_wp2_with fail
                  have HG8 := Lib.hid (heap_set (heap_set (heap_set (heap_set HG7.out 0 (.int .i64 gd.out.e)) 1 (.int .u64 (gd.out.handle : Nat))) 2 (.int .i64 gd.out.value)) 3 (.int .i64 gd.out.stamp))
                  have HO8 := Lib.hid (heap_far (heap_far (heap_far (heap_far HO7.out (p := ⟨gb, 0, none⟩) noG (.int .i64 gd.out.e)) (p := ⟨gb, 1, none⟩) noG (.int .u64 (gd.out.handle : Nat))) (p := ⟨gb, 2, none⟩) noG (.int .i64 gd.out.value)) (p := ⟨gb, 3, none⟩) noG (.int .i64 gd.out.stamp))
                  have HD8 := Lib.hid (heap_far (heap_far (heap_far (heap_far HD7.out (p := ⟨gb, 0, none⟩) ndG (.int .i64 gd.out.e)) (p := ⟨gb, 1, none⟩) ndG (.int .u64 (gd.out.handle : Nat))) (p := ⟨gb, 2, none⟩) ndG (.int .i64 gd.out.value)) (p := ⟨gb, 3, none⟩) ndG (.int .i64 gd.out.stamp))
                  have u8 := (((((Upd.refl [gb] w7).set1 0 (.int .i64 gd.out.e)).set1 1 (.int .u64 (gd.out.handle : Nat))).set1 2 (.int .i64 gd.out.value)).set1 3 (.int .i64 gd.out.stamp))
                  generalize (World.setCell (World.setCell (World.setCell (World.setCell w7 ⟨gb, 0, none⟩ (.int .i64 gd.out.e)) ⟨gb, 1, none⟩ (.int .u64 (gd.out.handle : Nat))) ⟨gb, 2, none⟩ (.int .i64 gd.out.value)) ⟨gb, 3, none⟩ (.int .i64 gd.out.stamp)) = w8 at *
                  simp only [List.setIfInBounds_toArray, List.set_cons_zero, List.set_cons_succ] at HG8
                  have HD9 := Lib.hid (heap_set HD8.out 1 (.bool true))
                  have HO9 := Lib.hid (heap_far HO8.out (p := ⟨db, 1, none⟩) noD (.bool true))
                  have HG9 := Lib.hid (heap_far HG8.out (p := ⟨db, 1, none⟩) ngD (.bool true))
                  have u9 := ((Upd.refl [db] w8).set1 1 (.bool true))
                  generalize (World.setCell w8 ⟨db, 1, none⟩ (.bool true)) = w9 at *
                  simp only [List.setIfInBounds_toArray, List.set_cons_zero, List.set_cons_succ] at HD9
                  have nFb : ∀ x, x ∈ F → x ∉ [gb] ∧ x ∉ [db] := by
                    intro x hx
                    have := hF x hx
                    refine ⟨fun hm => ?_, fun hm => ?_⟩ <;> (rw [List.mem_singleton.1 hm] at this; omega)
                  go_roundg kk
                  case measure => omega
                  case rel =>
                    refine ⟨a, σ', false, true, o, gd.out, F, j + 1, by simp, by omega, HAS.out, (by first | exact HAT.out.2.1 | exact fun _ => HAT.out.2.1 trivial), (by first | exact HAT.out.2.2 | exact fun _ => HAT.out.2.2 trivial | (intro q; cases q)), (h7.keep1 u8 hgl).keep1 u9 hdl, (ha7.keepU u8 (fun x hx => (nFb x hx).1)).keepU u9 (fun x hx => (nFb x hx).2), hF, HO9.out, HG9.out, HD9.out, ?_⟩
                    exact (hu7.trans (u8.mono (by intro x hx; rw [List.mem_singleton.1 hx]; simp))).trans (u9.mono (by intro x hx; rw [List.mem_singleton.1 hx]; simp))
              · have d1 : decide ((j : Int) < 60) = false := decide_eq_false (by omega)
                have hkk : (j : Int) % 2 = 0 ∨ (j : Int) % 2 = 1 := by omega
                have hpr : True ∨ (j : Int) % 2 = 5 := Or.inl trivial
                have ik := ij
                clear ij
                rcases hkk with hkk | hkk
                · rw [hkk] at ik hpr
                  have hpar : j < 60 ∨ j % 2 = 0 := by omega
                  have OKI := Lib.hid (show a.okIdx by first | exact HAT.out.2.2 rfl | exact HAT.out.2.2 trivial | exact HAT.out.2.2)
                  go_wp2_with fail
                  refine (x_step Fl.cD l σ 0 F ab a _ gc h (by have := Fl.DropsAt.steps HK.out HAT.out.1; omega) ha OKI.out).mono ?_
                  rintro e w7 ⟨rfl, h7, u7, F', ha7, hF'⟩
                  have hat' := Fl.DropsAt.step (by omega) HAT.out.1
                  have hid := Fl.Access.idx_step (c := Fl.cD) (who := 0) (m := σ) OKI.out ha.pc
                  have nF : ∀ y, y < w6.heap.size → y ≠ ab → y ∉ l.all → y ∉ F ++ l.all := by
                    intro y h1 h2 h3 hm
                    rcases List.mem_append.1 hm with hm | hm
                    · rcases hF y hm with h4 | h4
                      · exact h2 h4
                      · omega
                    · exact h3 hm
                  have HE7 := Lib.hid (u7.keep HEr.out (nF eb hzz.2.2.2 (by omega) hbe))
                  have HO7 := Lib.hid (u7.keep HOr.out (nF ob hzz.1 (by omega) hol))
                  have HG7 := Lib.hid (u7.keep HGr.out (nF gb hzz.2.1 (by omega) hgl))
                  have HD7 := Lib.hid (u7.keep HDr.out (nF db hzz.2.2.1 (by omega) hdl))
                  have hu7 : Upd (ab :: ob :: gb :: db :: l.all) w6 w7 := hu.then u7 (fun x hx => by
                    rcases List.mem_append.1 hx with hx | hx
                    · rcases hF x hx with h1 | h1
                      · exact Or.inl (by rw [h1]; exact List.mem_cons_self ..)
                      · exact Or.inr h1
                    · exact Or.inl (by simp [hx]))
                  have hF7 : ∀ x, x ∈ F' → x = ab ∨ w6.heap.size ≤ x := fun x hx => by
                    rcases hF' x hx with h1 | h1
                    · exact hF x h1
                    · have := hu.size; exact Or.inr (by omega)
                  generalize a.step Fl.cD 0 σ = st at *
                  obtain ⟨y, a', σ'⟩ := st
                  simp only at h7 ha7 hat' hid
                  have HAS := Lib.hid (And.intro hat' hid)
                  clear hat' hid c_HEr_wr f_HEr_wr r_HEr_wr c_HDr_wr f_HDr_wr r_HDr_wr
                  have c_HD7_w7 := fun w' o (k : Ext w7 w') => k.cellOf HD7.out o
                  have f_HD7_w7 := fun w' o (k : Ext w7 w') => frozen_of (k.keep HD7.out) o
                  have r_HD7_w7 := Ext.refl w7
                  have nF' : ∀ x, x ∈ F' → x ∉ [db] ∧ x ∉ [ob] := by
                    intro x hx
                    have := hF7 x hx
                    refine ⟨fun hm => ?_, fun hm => ?_⟩ <;> (rw [List.mem_singleton.1 hm] at this; omega)
                  cases y
                  · go_wp2_with fail
                    have HD8 := Lib.hid (heap_set HD7.out 0 (.bool false))
                    have HE8 := Lib.hid (heap_far HE7.out (p := ⟨db, 0, none⟩) neD (.bool false))
                    have HO8 := Lib.hid (heap_far HO7.out (p := ⟨db, 0, none⟩) noD (.bool false))
                    have HG8 := Lib.hid (heap_far HG7.out (p := ⟨db, 0, none⟩) ngD (.bool false))
                    have u8 := ((Upd.refl [db] w7).set1 0 (.bool false))
                    generalize (World.setCell w7 ⟨db, 0, none⟩ (.bool false)) = w8 at *
                    simp only [List.setIfInBounds_toArray, List.set_cons_zero] at HD8
                    go_roundg kk
                    case measure => omega
                    case rel =>
                      refine ⟨a', σ', false, false, o, g, F', j + 1, by simp, by omega, HAS.out.1, (fun q => by cases q), (fun _ => HAS.out.2 trivial), h7.keep1 u8 hdl, ha7.keepU u8 (fun x hx => (nF' x hx).1), hF7, HO8.out, HG8.out, HD8.out, hu7.trans (u8.mono (by intro x hx; rw [List.mem_singleton.1 hx]; simp))⟩
                  · go_wp2_with fail
                    have HD8 := Lib.hid (heap_set HD7.out 0 (.bool true))
                    have HE8 := Lib.hid (heap_far HE7.out (p := ⟨db, 0, none⟩) neD (.bool true))
                    have HO8 := Lib.hid (heap_far HO7.out (p := ⟨db, 0, none⟩) noD (.bool true))
                    have HG8 := Lib.hid (heap_far HG7.out (p := ⟨db, 0, none⟩) ngD (.bool true))
                    have u8 := ((Upd.refl [db] w7).set1 0 (.bool true))
                    generalize (World.setCell w7 ⟨db, 0, none⟩ (.bool true)) = w8 at *
                    simp only [List.setIfInBounds_toArray, List.set_cons_zero] at HD8
                    have ha8 := ha7.keepU u8 (fun x hx => (nF' x hx).1)
                    refine (x_done l F' ab a' _ ha8).mono ?_
                    rintro e w9 ⟨rfl, x9⟩
                    have HO9 := Lib.hid (x9.keep HO8.out)
                    have HG9 := Lib.hid (x9.keep HG8.out)
                    have HD9 := Lib.hid (x9.keep HD8.out)
                    clear c_HD7_w7 f_HD7_w7 r_HD7_w7
                    have c_HO9_w9 := fun w' o (k : Ext w9 w') => k.cellOf HO9.out o
                    have f_HO9_w9 := fun w' o (k : Ext w9 w') => frozen_of (k.keep HO9.out) o
                    have r_HO9_w9 := Ext.refl w9
                    go_wp2_with fail
                    have HOa := Lib.hid (heap_set (heap_set (heap_set (heap_set HO9.out 0 (.int .i64 a'.out.e)) 1 (.int .u64 (a'.out.handle : Nat))) 2 (.int .i64 a'.out.value)) 3 (.int .i64 a'.out.stamp))
                    have HGa := Lib.hid (heap_far (heap_far (heap_far (heap_far HG9.out (p := ⟨ob, 0, none⟩) ngO (.int .i64 a'.out.e)) (p := ⟨ob, 1, none⟩) ngO (.int .u64 (a'.out.handle : Nat))) (p := ⟨ob, 2, none⟩) ngO (.int .i64 a'.out.value)) (p := ⟨ob, 3, none⟩) ngO (.int .i64 a'.out.stamp))
                    have HDa := Lib.hid (heap_far (heap_far (heap_far (heap_far HD9.out (p := ⟨ob, 0, none⟩) ndO (.int .i64 a'.out.e)) (p := ⟨ob, 1, none⟩) ndO (.int .u64 (a'.out.handle : Nat))) (p := ⟨ob, 2, none⟩) ndO (.int .i64 a'.out.value)) (p := ⟨ob, 3, none⟩) ndO (.int .i64 a'.out.stamp))
                    have ua := (((((Upd.refl [ob] w9).set1 0 (.int .i64 a'.out.e)).set1 1 (.int .u64 (a'.out.handle : Nat))).set1 2 (.int .i64 a'.out.value)).set1 3 (.int .i64 a'.out.stamp))
                    generalize (World.setCell (World.setCell (World.setCell (World.setCell w9 ⟨ob, 0, none⟩ (.int .i64 a'.out.e)) ⟨ob, 1, none⟩ (.int .u64 (a'.out.handle : Nat))) ⟨ob, 2, none⟩ (.int .i64 a'.out.value)) ⟨ob, 3, none⟩ (.int .i64 a'.out.stamp)) = wa at *
                    simp only [List.setIfInBounds_toArray, List.set_cons_zero, List.set_cons_succ] at HOa
                    go_roundg kk
                    case measure => omega
                    case rel =>
                      refine ⟨a', σ', true, false, a'.out, g, F', j + 1, by simp, by omega, HAS.out.1, (fun q => rfl), (fun q => by cases q), ((h7.keep1 u8 hdl).ext x9).keep1 ua hol, (ha8.ext x9).keepU ua (fun x hx => (nF' x hx).2), hF7, HOa.out, HGa.out, HDa.out, ?_⟩
                      · exact ((hu7.trans (u8.mono (by intro x hx; rw [List.mem_singleton.1 hx]; simp))).extR x9).trans (ua.mono (by intro x hx; rw [List.mem_singleton.1 hx]; simp))
                · rw [hkk] at ik hpr
                  have hpar : j < 60 ∨ j % 2 = 1 := by omega
                  go_wp2_with fail
                  refine (n_let Fl.cD l σ 0 65536 false wr gc h (by decide) (Fl.Drop.safe_steps _ _ _ _ _ (by have := Fl.DropsAt.steps HK.out HAT.out.1; omega) (by have := Fl.DropsAt.steps HK.out HAT.out.1; omega))).mono ?_
                  rintro e w7 ⟨rfl, h7, u7⟩
                  have hat' := Fl.DropsAt.drop HAT.out.1 hpar
                  generalize Fl.Drop.loop Fl.cD 0 200 σ (Fl.Drop.new 65536 false) = oo at *
                  obtain ⟨gd, σ'⟩ := oo
                  simp only at h7 hat'
                  have HAS := Lib.hid hat'
                  have HO7 := Lib.hid (u7.keep HOr.out hol)
                  have HG7 := Lib.hid (u7.keep HGr.out hgl)
                  have HD7 := Lib.hid (u7.keep HDr.out hdl)
                  have ha7 := ha.keepU u7 (fun x hx => ha.out x hx)
                  have hu7 : Upd (ab :: ob :: gb :: db :: l.all) w6 w7 := hu.trans (u7.mono (by intro x hx; simp [hx]))
                  clear hat' c_HEr_wr f_HEr_wr r_HEr_wr c_HDr_wr f_HDr_wr r_HDr_wr
                  have c_HG7_w7 := fun w' o (k : Ext w7 w') => k.cellOf HG7.out o
                  have f_HG7_w7 := fun w' o (k : Ext w7 w') => frozen_of (k.keep HG7.out) o
                  have r_HG7_w7 := Ext.refl w7
                  have c_HD7_w7 := fun w' o (k : Ext w7 w') => k.cellOf HD7.out o
                  have f_HD7_w7 := fun w' o (k : Ext w7 w') => frozen_of (k.keep HD7.out) o
                  have r_HD7_w7 := Ext.refl w7
                  go_wp2_with fail
                  have HG8 := Lib.hid (heap_set (heap_set (heap_set (heap_set HG7.out 0 (.int .i64 gd.out.e)) 1 (.int .u64 (gd.out.handle : Nat))) 2 (.int .i64 gd.out.value)) 3 (.int .i64 gd.out.stamp))
                  have HO8 := Lib.hid (heap_far (heap_far (heap_far (heap_far HO7.out (p := ⟨gb, 0, none⟩) noG (.int .i64 gd.out.e)) (p := ⟨gb, 1, none⟩) noG (.int .u64 (gd.out.handle : Nat))) (p := ⟨gb, 2, none⟩) noG (.int .i64 gd.out.value)) (p := ⟨gb, 3, none⟩) noG (.int .i64 gd.out.stamp))
                  have HD8 := Lib.hid (heap_far (heap_far (heap_far (heap_far HD7.out (p := ⟨gb, 0, none⟩) ndG (.int .i64 gd.out.e)) (p := ⟨gb, 1, none⟩) ndG (.int .u64 (gd.out.handle : Nat))) (p := ⟨gb, 2, none⟩) ndG (.int .i64 gd.out.value)) (p := ⟨gb, 3, none⟩) ndG (.int .i64 gd.out.stamp))
                  have u8 := (((((Upd.refl [gb] w7).set1 0 (.int .i64 gd.out.e)).set1 1 (.int .u64 (gd.out.handle : Nat))).set1 2 (.int .i64 gd.out.value)).set1 3 (.int .i64 gd.out.stamp))
                  generalize (World.setCell (World.setCell (World.setCell (World.setCell w7 ⟨gb, 0, none⟩ (.int .i64 gd.out.e)) ⟨gb, 1, none⟩ (.int .u64 (gd.out.handle : Nat))) ⟨gb, 2, none⟩ (.int .i64 gd.out.value)) ⟨gb, 3, none⟩ (.int .i64 gd.out.stamp)) = w8 at *
                  simp only [List.setIfInBounds_toArray, List.set_cons_zero, List.set_cons_succ] at HG8
                  have HD9 := Lib.hid (heap_set HD8.out 1 (.bool true))
                  have HO9 := Lib.hid (heap_far HO8.out (p := ⟨db, 1, none⟩) noD (.bool true))
                  have HG9 := Lib.hid (heap_far HG8.out (p := ⟨db, 1, none⟩) ngD (.bool true))
                  have u9 := ((Upd.refl [db] w8).set1 1 (.bool true))
                  generalize (World.setCell w8 ⟨db, 1, none⟩ (.bool true)) = w9 at *
                  simp only [List.setIfInBounds_toArray, List.set_cons_zero, List.set_cons_succ] at HD9
                  have nFb : ∀ x, x ∈ F → x ∉ [gb] ∧ x ∉ [db] := by
                    intro x hx
                    have := hF x hx
                    refine ⟨fun hm => ?_, fun hm => ?_⟩ <;> (rw [List.mem_singleton.1 hm] at this; omega)
                  go_roundg kk
                  case measure => omega
                  case rel =>
                    refine ⟨a, σ', false, true, o, gd.out, F, j + 1, by simp, by omega, HAS.out, (by first | exact HAT.out.2.1 | exact fun _ => HAT.out.2.1 trivial), (by first | exact HAT.out.2.2 | exact fun _ => HAT.out.2.2 trivial | (intro q; cases q)), (h7.keep1 u8 hgl).keep1 u9 hdl, (ha7.keepU u8 (fun x hx => (nFb x hx).1)).keepU u9 (fun x hx => (nFb x hx).2), hF, HO9.out, HG9.out, HD9.out, ?_⟩
                    exact (hu7.trans (u8.mono (by intro x hx; rw [List.mem_singleton.1 hx]; simp))).trans (u9.mono (by intro x hx; rw [List.mem_singleton.1 hx]; simp))
            · have c1 : decide ((j : Int) < len) = false := decide_eq_false (by omega)
              have hkk : (j : Int) % 2 = 0 ∨ (j : Int) % 2 = 1 := by omega
              have hpr : True ∨ (j : Int) % 2 = 5 := Or.inl trivial
              have ik := ij
              clear ij
              rcases hkk with hkk | hkk
              · rw [hkk] at ik hpr
                have hpar : j < 60 ∨ j % 2 = 0 := by omega
                have OKI := Lib.hid (show a.okIdx by first | exact HAT.out.2.2 rfl | exact HAT.out.2.2 trivial | exact HAT.out.2.2)
                go_wp2_with fail
                refine (x_step Fl.cD l σ 0 F ab a _ gc h (by have := Fl.DropsAt.steps HK.out HAT.out.1; omega) ha OKI.out).mono ?_
                rintro e w7 ⟨rfl, h7, u7, F', ha7, hF'⟩
                have hat' := Fl.DropsAt.step (by omega) HAT.out.1
                have hid := Fl.Access.idx_step (c := Fl.cD) (who := 0) (m := σ) OKI.out ha.pc
                have nF : ∀ y, y < w6.heap.size → y ≠ ab → y ∉ l.all → y ∉ F ++ l.all := by
                  intro y h1 h2 h3 hm
                  rcases List.mem_append.1 hm with hm | hm
                  · rcases hF y hm with h4 | h4
                    · exact h2 h4
                    · omega
                  · exact h3 hm
                have HE7 := Lib.hid (u7.keep HEr.out (nF eb hzz.2.2.2 (by omega) hbe))
                have HO7 := Lib.hid (u7.keep HOr.out (nF ob hzz.1 (by omega) hol))
                have HG7 := Lib.hid (u7.keep HGr.out (nF gb hzz.2.1 (by omega) hgl))
                have HD7 := Lib.hid (u7.keep HDr.out (nF db hzz.2.2.1 (by omega) hdl))
                have hu7 : Upd (ab :: ob :: gb :: db :: l.all) w6 w7 := hu.then u7 (fun x hx => by
                  rcases List.mem_append.1 hx with hx | hx
                  · rcases hF x hx with h1 | h1
                    · exact Or.inl (by rw [h1]; exact List.mem_cons_self ..)
                    · exact Or.inr h1
                  · exact Or.inl (by simp [hx]))
                have hF7 : ∀ x, x ∈ F' → x = ab ∨ w6.heap.size ≤ x := fun x hx => by
                  rcases hF' x hx with h1 | h1
                  · exact hF x h1
                  · have := hu.size; exact Or.inr (by omega)
                generalize a.step Fl.cD 0 σ = st at *
                obtain ⟨y, a', σ'⟩ := st
                simp only at h7 ha7 hat' hid
                have HAS := Lib.hid (And.intro hat' hid)
                clear hat' hid c_HEr_wr f_HEr_wr r_HEr_wr c_HDr_wr f_HDr_wr r_HDr_wr
                have c_HD7_w7 := fun w' o (k : Ext w7 w') => k.cellOf HD7.out o
                have f_HD7_w7 := fun w' o (k : Ext w7 w') => frozen_of (k.keep HD7.out) o
                have r_HD7_w7 := Ext.refl w7
                have nF' : ∀ x, x ∈ F' → x ∉ [db] ∧ x ∉ [ob] := by
                  intro x hx
                  have := hF7 x hx
                  refine ⟨fun hm => ?_, fun hm => ?_⟩ <;> (rw [List.mem_singleton.1 hm] at this; omega)
                cases y
                · go_wp2_with fail
                  have HD8 := Lib.hid (heap_set HD7.out 0 (.bool false))
                  have HE8 := Lib.hid (heap_far HE7.out (p := ⟨db, 0, none⟩) neD (.bool false))
                  have HO8 := Lib.hid (heap_far HO7.out (p := ⟨db, 0, none⟩) noD (.bool false))
                  have HG8 := Lib.hid (heap_far HG7.out (p := ⟨db, 0, none⟩) ngD (.bool false))
                  have u8 := ((Upd.refl [db] w7).set1 0 (.bool false))
                  generalize (World.setCell w7 ⟨db, 0, none⟩ (.bool false)) = w8 at *
                  simp only [List.setIfInBounds_toArray, List.set_cons_zero] at HD8
                  go_roundg kk
                  case measure => omega
                  case rel =>
                    refine ⟨a', σ', false, false, o, g, F', j + 1, by simp, by omega, HAS.out.1, (fun q => by cases q), (fun _ => HAS.out.2 trivial), h7.keep1 u8 hdl, ha7.keepU u8 (fun x hx => (nF' x hx).1), hF7, HO8.out, HG8.out, HD8.out, hu7.trans (u8.mono (by intro x hx; rw [List.mem_singleton.1 hx]; simp))⟩
                · go_wp2_with fail
                  have HD8 := Lib.hid (heap_set HD7.out 0 (.bool true))
                  have HE8 := Lib.hid (heap_far HE7.out (p := ⟨db, 0, none⟩) neD (.bool true))
                  have HO8 := Lib.hid (heap_far HO7.out (p := ⟨db, 0, none⟩) noD (.bool true))
                  have HG8 := Lib.hid (heap_far HG7.out (p := ⟨db, 0, none⟩) ngD (.bool true))
                  have u8 := ((Upd.refl [db] w7).set1 0 (.bool true))
                  generalize (World.setCell w7 ⟨db, 0, none⟩ (.bool true)) = w8 at *
                  simp only [List.setIfInBounds_toArray, List.set_cons_zero] at HD8
                  have ha8 := ha7.keepU u8 (fun x hx => (nF' x hx).1)
                  refine (x_done l F' ab a' _ ha8).mono ?_
                  rintro e w9 ⟨rfl, x9⟩
                  have HO9 := Lib.hid (x9.keep HO8.out)
                  have HG9 := Lib.hid (x9.keep HG8.out)
                  have HD9 := Lib.hid (x9.keep HD8.out)
                  clear c_HD7_w7 f_HD7_w7 r_HD7_w7
                  have c_HO9_w9 := fun w' o (k : Ext w9 w') => k.cellOf HO9.out o
                  have f_HO9_w9 := fun w' o (k : Ext w9 w') => frozen_of (k.keep HO9.out) o
                  have r_HO9_w9 := Ext.refl w9
                  go_wp2_with fail
                  have HOa := Lib.hid (heap_set (heap_set (heap_set (heap_set HO9.out 0 (.int .i64 a'.out.e)) 1 (.int .u64 (a'.out.handle : Nat))) 2 (.int .i64 a'.out.value)) 3 (.int .i64 a'.out.stamp))
                  have HGa := Lib.hid (heap_far (heap_far (heap_far (heap_far HG9.out (p := ⟨ob, 0, none⟩) ngO (.int .i64 a'.out.e)) (p := ⟨ob, 1, none⟩) ngO (.int .u64 (a'.out.handle : Nat))) (p := ⟨ob, 2, none⟩) ngO (.int .i64 a'.out.value)) (p := ⟨ob, 3, none⟩) ngO (.int .i64 a'.out.stamp))
                  have HDa := Lib.hid (heap_far (heap_far (heap_far (heap_far HD9.out (p := ⟨ob, 0, none⟩) ndO (.int .i64 a'.out.e)) (p := ⟨ob, 1, none⟩) ndO (.int .u64 (a'.out.handle : Nat))) (p := ⟨ob, 2, none⟩) ndO (.int .i64 a'.out.value)) (p := ⟨ob, 3, none⟩) ndO (.int .i64 a'.out.stamp))
                  have ua := (((((Upd.refl [ob] w9).set1 0 (.int .i64 a'.out.e)).set1 1 (.int .u64 (a'.out.handle : Nat))).set1 2 (.int .i64 a'.out.value)).set1 3 (.int .i64 a'.out.stamp))
                  generalize (World.setCell (World.setCell (World.setCell (World.setCell w9 ⟨ob, 0, none⟩ (.int .i64 a'.out.e)) ⟨ob, 1, none⟩ (.int .u64 (a'.out.handle : Nat))) ⟨ob, 2, none⟩ (.int .i64 a'.out.value)) ⟨ob, 3, none⟩ (.int .i64 a'.out.stamp)) = wa at *
                  simp only [List.setIfInBounds_toArray, List.set_cons_zero, List.set_cons_succ] at HOa
                  go_roundg kk
                  case measure => omega
                  case rel =>
                    refine ⟨a', σ', true, false, a'.out, g, F', j + 1, by simp, by omega, HAS.out.1, (fun q => rfl), (fun q => by cases q), ((h7.keep1 u8 hdl).ext x9).keep1 ua hol, (ha8.ext x9).keepU ua (fun x hx => (nF' x hx).2), hF7, HOa.out, HGa.out, HDa.out, ?_⟩
                    · exact ((hu7.trans (u8.mono (by intro x hx; rw [List.mem_singleton.1 hx]; simp))).extR x9).trans (ua.mono (by intro x hx; rw [List.mem_singleton.1 hx]; simp))
              · rw [hkk] at ik hpr
                have hpar : j < 60 ∨ j % 2 = 1 := by omega
                go_wp2_with fail
                refine (n_let Fl.cD l σ 0 65536 false wr gc h (by decide) (Fl.Drop.safe_steps _ _ _ _ _ (by have := Fl.DropsAt.steps HK.out HAT.out.1; omega) (by have := Fl.DropsAt.steps HK.out HAT.out.1; omega))).mono ?_
                rintro e w7 ⟨rfl, h7, u7⟩
                have hat' := Fl.DropsAt.drop HAT.out.1 hpar
                generalize Fl.Drop.loop Fl.cD 0 200 σ (Fl.Drop.new 65536 false) = oo at *
                obtain ⟨gd, σ'⟩ := oo
                simp only at h7 hat'
                have HAS := Lib.hid hat'
                have HO7 := Lib.hid (u7.keep HOr.out hol)
                have HG7 := Lib.hid (u7.keep HGr.out hgl)
                have HD7 := Lib.hid (u7.keep HDr.out hdl)
                have ha7 := ha.keepU u7 (fun x hx => ha.out x hx)
                have hu7 : Upd (ab :: ob :: gb :: db :: l.all) w6 w7 := hu.trans (u7.mono (by intro x hx; simp [hx]))
                clear hat' c_HEr_wr f_HEr_wr r_HEr_wr c_HDr_wr f_HDr_wr r_HDr_wr
                have c_HG7_w7 := fun w' o (k : Ext w7 w') => k.cellOf HG7.out o
                have f_HG7_w7 := fun w' o (k : Ext w7 w') => frozen_of (k.keep HG7.out) o
                have r_HG7_w7 := Ext.refl w7
                have c_HD7_w7 := fun w' o (k : Ext w7 w') => k.cellOf HD7.out o
                have f_HD7_w7 := fun w' o (k : Ext w7 w') => frozen_of (k.keep HD7.out) o
                have r_HD7_w7 := Ext.refl w7
                go_wp2_with fail
                have HG8 := Lib.hid (heap_set (heap_set (heap_set (heap_set HG7.out 0 (.int .i64 gd.out.e)) 1 (.int .u64 (gd.out.handle : Nat))) 2 (.int .i64 gd.out.value)) 3 (.int .i64 gd.out.stamp))
                have HO8 := Lib.hid (heap_far (heap_far (heap_far (heap_far HO7.out (p := ⟨gb, 0, none⟩) noG (.int .i64 gd.out.e)) (p := ⟨gb, 1, none⟩) noG (.int .u64 (gd.out.handle : Nat))) (p := ⟨gb, 2, none⟩) noG (.int .i64 gd.out.value)) (p := ⟨gb, 3, none⟩) noG (.int .i64 gd.out.stamp))
                have HD8 := Lib.hid (heap_far (heap_far (heap_far (heap_far HD7.out (p := ⟨gb, 0, none⟩) ndG (.int .i64 gd.out.e)) (p := ⟨gb, 1, none⟩) ndG (.int .u64 (gd.out.handle : Nat))) (p := ⟨gb, 2, none⟩) ndG (.int .i64 gd.out.value)) (p := ⟨gb, 3, none⟩) ndG (.int .i64 gd.out.stamp))
                have u8 := (((((Upd.refl [gb] w7).set1 0 (.int .i64 gd.out.e)).set1 1 (.int .u64 (gd.out.handle : Nat))).set1 2 (.int .i64 gd.out.value)).set1 3 (.int .i64 gd.out.stamp))
                generalize (World.setCell (World.setCell (World.setCell (World.setCell w7 ⟨gb, 0, none⟩ (.int .i64 gd.out.e)) ⟨gb, 1, none⟩ (.int .u64 (gd.out.handle : Nat))) ⟨gb, 2, none⟩ (.int .i64 gd.out.value)) ⟨gb, 3, none⟩ (.int .i64 gd.out.stamp)) = w8 at *
                simp only [List.setIfInBounds_toArray, List.set_cons_zero, List.set_cons_succ] at HG8
                have HD9 := Lib.hid (heap_set HD8.out 1 (.bool true))
                have HO9 := Lib.hid (heap_far HO8.out (p := ⟨db, 1, none⟩) noD (.bool true))
                have HG9 := Lib.hid (heap_far HG8.out (p := ⟨db, 1, none⟩) ngD (.bool true))
                have u9 := ((Upd.refl [db] w8).set1 1 (.bool true))
                generalize (World.setCell w8 ⟨db, 1, none⟩ (.bool true)) = w9 at *
                simp only [List.setIfInBounds_toArray, List.set_cons_zero, List.set_cons_succ] at HD9
                have nFb : ∀ x, x ∈ F → x ∉ [gb] ∧ x ∉ [db] := by
                  intro x hx
                  have := hF x hx
                  refine ⟨fun hm => ?_, fun hm => ?_⟩ <;> (rw [List.mem_singleton.1 hm] at this; omega)
                go_roundg kk
                case measure => omega
                case rel =>
                  refine ⟨a, σ', false, true, o, gd.out, F, j + 1, by simp, by omega, HAS.out, (by first | exact HAT.out.2.1 | exact fun _ => HAT.out.2.1 trivial), (by first | exact HAT.out.2.2 | exact fun _ => HAT.out.2.2 trivial | (intro q; cases q)), (h7.keep1 u8 hgl).keep1 u9 hdl, (ha7.keepU u8 (fun x hx => (nFb x hx).1)).keepU u9 (fun x hx => (nFb x hx).2), hF, HO9.out, HG9.out, HD9.out, ?_⟩
                  exact (hu7.trans (u8.mono (by intro x hx; rw [List.mem_singleton.1 hx]; simp))).trans (u9.mono (by intro x hx; rw [List.mem_singleton.1 hx]; simp))
          · have ij := iand1 (j : Int)
            by_cases c0 : j < len
            · have c1 : decide ((j : Int) < len) = true := decide_eq_true (by omega)
              by_cases d0 : j < 60
              · have d1 : decide ((j : Int) < 60) = true := decide_eq_true (by omega)
                obtain ⟨aa, rfl, hblk, hcell⟩ := HQ.out j c0
                have hb1 : wr.heap[(aa.add j).block]? = W.heap[(aa.add j).block]? := by
                  rw [add_block]
                  exact (hu.block _ (by have := X6.size; omega) (fun hm => by have := hnw _ hm; omega)).trans (X6.block hblk)
                have hcl : wr.cell? (aa.add j) = some (.int .i64 (z j)) := (cell_keep hb1).trans hcell
                clear hb1
                have ik := iand1 (z j)
                have hkk : z j % 2 = 0 ∨ z j % 2 = 1 := by omega
                have hpr : True ∨ z j % 2 = 5 := Or.inl trivial
                rcases hkk with hkk | hkk
                · rw [hkk] at ik hpr
                  have hpar : j < 60 ∨ j % 2 = 0 := by omega
                  have OKI := Lib.hid (show a.okIdx by first | exact HAT.out.2.2 rfl | exact HAT.out.2.2 trivial | exact HAT.out.2.2)
                  go_wp2_with fail
                  refine (x_step Fl.cD l σ 0 F ab a _ gc h (by have := Fl.DropsAt.steps HK.out HAT.out.1; omega) ha OKI.out).mono ?_
                  rintro e w7 ⟨rfl, h7, u7, F', ha7, hF'⟩
                  have hat' := Fl.DropsAt.step (by omega) HAT.out.1
                  have hid := Fl.Access.idx_step (c := Fl.cD) (who := 0) (m := σ) OKI.out ha.pc
                  have nF : ∀ y, y < w6.heap.size → y ≠ ab → y ∉ l.all → y ∉ F ++ l.all := by
                    intro y h1 h2 h3 hm
                    rcases List.mem_append.1 hm with hm | hm
                    · rcases hF y hm with h4 | h4
                      · exact h2 h4
                      · omega
                    · exact h3 hm
                  have HE7 := Lib.hid (u7.keep HEr.out (nF eb hzz.2.2.2 (by omega) hbe))
                  have HO7 := Lib.hid (u7.keep HOr.out (nF ob hzz.1 (by omega) hol))
                  have HG7 := Lib.hid (u7.keep HGr.out (nF gb hzz.2.1 (by omega) hgl))
                  have HD7 := Lib.hid (u7.keep HDr.out (nF db hzz.2.2.1 (by omega) hdl))
                  have hu7 : Upd (ab :: ob :: gb :: db :: l.all) w6 w7 := hu.then u7 (fun x hx => by
                    rcases List.mem_append.1 hx with hx | hx
                    · rcases hF x hx with h1 | h1
                      · exact Or.inl (by rw [h1]; exact List.mem_cons_self ..)
                      · exact Or.inr h1
                    · exact Or.inl (by simp [hx]))
                  have hF7 : ∀ x, x ∈ F' → x = ab ∨ w6.heap.size ≤ x := fun x hx => by
                    rcases hF' x hx with h1 | h1
                    · exact hF x h1
                    · have := hu.size; exact Or.inr (by omega)
                  generalize a.step Fl.cD 0 σ = st at *
                  obtain ⟨y, a', σ'⟩ := st
                  simp only at h7 ha7 hat' hid
                  have HAS := Lib.hid (And.intro hat' hid)
                  clear hat' hid c_HEr_wr f_HEr_wr r_HEr_wr c_HDr_wr f_HDr_wr r_HDr_wr
                  have c_HD7_w7 := fun w' o (k : Ext w7 w') => k.cellOf HD7.out o
                  have f_HD7_w7 := fun w' o (k : Ext w7 w') => frozen_of (k.keep HD7.out) o
                  have r_HD7_w7 := Ext.refl w7
                  have nF' : ∀ x, x ∈ F' → x ∉ [db] ∧ x ∉ [ob] := by
                    intro x hx
                    have := hF7 x hx
                    refine ⟨fun hm => ?_, fun hm => ?_⟩ <;> (rw [List.mem_singleton.1 hm] at this; omega)
                  cases y
                  · go_wp2_with fail
                    have HD8 := Lib.hid (heap_set HD7.out 0 (.bool false))
                    have HE8 := Lib.hid (heap_far HE7.out (p := ⟨db, 0, none⟩) neD (.bool false))
                    have HO8 := Lib.hid (heap_far HO7.out (p := ⟨db, 0, none⟩) noD (.bool false))
                    have HG8 := Lib.hid (heap_far HG7.out (p := ⟨db, 0, none⟩) ngD (.bool false))
                    have u8 := ((Upd.refl [db] w7).set1 0 (.bool false))
                    generalize (World.setCell w7 ⟨db, 0, none⟩ (.bool false)) = w8 at *
                    simp only [List.setIfInBounds_toArray, List.set_cons_zero] at HD8
                    go_roundg kk
                    case measure => omega
                    case rel =>
                      refine ⟨a', σ', false, true, o, g, F', j + 1, by simp, by omega, HAS.out.1, (fun q => by cases q), (fun _ => HAS.out.2 trivial), h7.keep1 u8 hdl, ha7.keepU u8 (fun x hx => (nF' x hx).1), hF7, HO8.out, HG8.out, HD8.out, hu7.trans (u8.mono (by intro x hx; rw [List.mem_singleton.1 hx]; simp))⟩
                  · go_wp2_with fail
                    have HD8 := Lib.hid (heap_set HD7.out 0 (.bool true))
                    have HE8 := Lib.hid (heap_far HE7.out (p := ⟨db, 0, none⟩) neD (.bool true))
                    have HO8 := Lib.hid (heap_far HO7.out (p := ⟨db, 0, none⟩) noD (.bool true))
                    have HG8 := Lib.hid (heap_far HG7.out (p := ⟨db, 0, none⟩) ngD (.bool true))
                    have u8 := ((Upd.refl [db] w7).set1 0 (.bool true))
                    generalize (World.setCell w7 ⟨db, 0, none⟩ (.bool true)) = w8 at *
                    simp only [List.setIfInBounds_toArray, List.set_cons_zero] at HD8
                    have ha8 := ha7.keepU u8 (fun x hx => (nF' x hx).1)
                    refine (x_done l F' ab a' _ ha8).mono ?_
                    rintro e w9 ⟨rfl, x9⟩
                    have HO9 := Lib.hid (x9.keep HO8.out)
                    have HG9 := Lib.hid (x9.keep HG8.out)
                    have HD9 := Lib.hid (x9.keep HD8.out)
                    clear c_HD7_w7 f_HD7_w7 r_HD7_w7
                    have c_HO9_w9 := fun w' o (k : Ext w9 w') => k.cellOf HO9.out o
                    have f_HO9_w9 := fun w' o (k : Ext w9 w') => frozen_of (k.keep HO9.out) o
                    have r_HO9_w9 := Ext.refl w9
                    go_wp2_with fail
                    have HOa := Lib.hid (heap_set (heap_set (heap_set (heap_set HO9.out 0 (.int .i64 a'.out.e)) 1 (.int .u64 (a'.out.handle : Nat))) 2 (.int .i64 a'.out.value)) 3 (.int .i64 a'.out.stamp))
                    have HGa := Lib.hid (heap_far (heap_far (heap_far (heap_far HG9.out (p := ⟨ob, 0, none⟩) ngO (.int .i64 a'.out.e)) (p := ⟨ob, 1, none⟩) ngO (.int .u64 (a'.out.handle : Nat))) (p := ⟨ob, 2, none⟩) ngO (.int .i64 a'.out.value)) (p := ⟨ob, 3, none⟩) ngO (.int .i64 a'.out.stamp))
                    have HDa := Lib.hid (heap_far (heap_far (heap_far (heap_far HD9.out (p := ⟨ob, 0, none⟩) ndO (.int .i64 a'.out.e)) (p := ⟨ob, 1, none⟩) ndO (.int .u64 (a'.out.handle : Nat))) (p := ⟨ob, 2, none⟩) ndO (.int .i64 a'.out.value)) (p := ⟨ob, 3, none⟩) ndO (.int .i64 a'.out.stamp))
                    have ua := (((((Upd.refl [ob] w9).set1 0 (.int .i64 a'.out.e)).set1 1 (.int .u64 (a'.out.handle : Nat))).set1 2 (.int .i64 a'.out.value)).set1 3 (.int .i64 a'.out.stamp))
                    generalize (World.setCell (World.setCell (World.setCell (World.setCell w9 ⟨ob, 0, none⟩ (.int .i64 a'.out.e)) ⟨ob, 1, none⟩ (.int .u64 (a'.out.handle : Nat))) ⟨ob, 2, none⟩ (.int .i64 a'.out.value)) ⟨ob, 3, none⟩ (.int .i64 a'.out.stamp)) = wa at *
                    simp only [List.setIfInBounds_toArray, List.set_cons_zero, List.set_cons_succ] at HOa
                    go_roundg kk
                    case measure => omega
                    case rel =>
                      refine ⟨a', σ', true, true, a'.out, g, F', j + 1, by simp, by omega, HAS.out.1, (fun q => rfl), (fun q => by cases q), ((h7.keep1 u8 hdl).ext x9).keep1 ua hol, (ha8.ext x9).keepU ua (fun x hx => (nF' x hx).2), hF7, HOa.out, HGa.out, HDa.out, ?_⟩
                      · exact ((hu7.trans (u8.mono (by intro x hx; rw [List.mem_singleton.1 hx]; simp))).extR x9).trans (ua.mono (by intro x hx; rw [List.mem_singleton.1 hx]; simp))
                · rw [hkk] at ik hpr
                  have hpar : j < 60 ∨ j % 2 = 1 := by omega
                  go_wp2_with fail
                  go_roundg kk
                  case measure => omega
                  case rel => exact ⟨a, σ, false, true, o, g, F, j + 1, by simp, by omega, Fl.DropsAt.skip1 hpar HAT.out.1, (by first | exact HAT.out.2.1 | exact fun _ => HAT.out.2.1 trivial), (by first | exact HAT.out.2.2 | exact fun _ => HAT.out.2.2 trivial | (intro q; cases q)), h, ha, hF, HOr.out, HGr.out, HDr.out, hu⟩
              · have d1 : decide ((j : Int) < 60) = false := decide_eq_false (by omega)
                have hkk : (j : Int) % 2 = 0 ∨ (j : Int) % 2 = 1 := by omega
                have hpr : True ∨ (j : Int) % 2 = 5 := Or.inl trivial
                have ik := ij
                clear ij
                rcases hkk with hkk | hkk
                · rw [hkk] at ik hpr
                  have hpar : j < 60 ∨ j % 2 = 0 := by omega
                  have OKI := Lib.hid (show a.okIdx by first | exact HAT.out.2.2 rfl | exact HAT.out.2.2 trivial | exact HAT.out.2.2)
                  go_wp2_with fail
                  refine (x_step Fl.cD l σ 0 F ab a _ gc h (by have := Fl.DropsAt.steps HK.out HAT.out.1; omega) ha OKI.out).mono ?_
                  rintro e w7 ⟨rfl, h7, u7, F', ha7, hF'⟩
                  have hat' := Fl.DropsAt.step (by omega) HAT.out.1
                  have hid := Fl.Access.idx_step (c := Fl.cD) (who := 0) (m := σ) OKI.out ha.pc
                  have nF : ∀ y, y < w6.heap.size → y ≠ ab → y ∉ l.all → y ∉ F ++ l.all := by
                    intro y h1 h2 h3 hm
                    rcases List.mem_append.1 hm with hm | hm
                    · rcases hF y hm with h4 | h4
                      · exact h2 h4
                      · omega
                    · exact h3 hm
                  have HE7 := Lib.hid (u7.keep HEr.out (nF eb hzz.2.2.2 (by omega) hbe))
                  have HO7 := Lib.hid (u7.keep HOr.out (nF ob hzz.1 (by omega) hol))
                  have HG7 := Lib.hid (u7.keep HGr.out (nF gb hzz.2.1 (by omega) hgl))
                  have HD7 := Lib.hid (u7.keep HDr.out (nF db hzz.2.2.1 (by omega) hdl))
                  have hu7 : Upd (ab :: ob :: gb :: db :: l.all) w6 w7 := hu.then u7 (fun x hx => by
                    rcases List.mem_append.1 hx with hx | hx
                    · rcases hF x hx with h1 | h1
                      · exact Or.inl (by rw [h1]; exact List.mem_cons_self ..)
                      · exact Or.inr h1
                    · exact Or.inl (by simp [hx]))
                  have hF7 : ∀ x, x ∈ F' → x = ab ∨ w6.heap.size ≤ x := fun x hx => by
                    rcases hF' x hx with h1 | h1
                    · exact hF x h1
                    · have := hu.size; exact Or.inr (by omega)
                  generalize a.step Fl.cD 0 σ = st at *
                  obtain ⟨y, a', σ'⟩ := st
                  simp only at h7 ha7 hat' hid
                  have HAS := Lib.hid (And.intro hat' hid)
                  clear hat' hid c_HEr_wr f_HEr_wr r_HEr_wr c_HDr_wr f_HDr_wr r_HDr_wr
                  have c_HD7_w7 := fun w' o (k : Ext w7 w') => k.cellOf HD7.out o
                  have f_HD7_w7 := fun w' o (k : Ext w7 w') => frozen_of (k.keep HD7.out) o
                  have r_HD7_w7 := Ext.refl w7
                  have nF' : ∀ x, x ∈ F' → x ∉ [db] ∧ x ∉ [ob] := by
                    intro x hx
                    have := hF7 x hx
                    refine ⟨fun hm => ?_, fun hm => ?_⟩ <;> (rw [List.mem_singleton.1 hm] at this; omega)
                  cases y
                  · go_wp2_with fail
                    have HD8 := Lib.hid (heap_set HD7.out 0 (.bool false))
                    have HE8 := Lib.hid (heap_far HE7.out (p := ⟨db, 0, none⟩) neD (.bool false))
                    have HO8 := Lib.hid (heap_far HO7.out (p := ⟨db, 0, none⟩) noD (.bool false))
                    have HG8 := Lib.hid (heap_far HG7.out (p := ⟨db, 0, none⟩) ngD (.bool false))
                    have u8 := ((Upd.refl [db] w7).set1 0 (.bool false))
                    generalize (World.setCell w7 ⟨db, 0, none⟩ (.bool false)) = w8 at *
                    simp only [List.setIfInBounds_toArray, List.set_cons_zero] at HD8
                    go_roundg kk
                    case measure => omega
                    case rel =>
                      refine ⟨a', σ', false, true, o, g, F', j + 1, by simp, by omega, HAS.out.1, (fun q => by cases q), (fun _ => HAS.out.2 trivial), h7.keep1 u8 hdl, ha7.keepU u8 (fun x hx => (nF' x hx).1), hF7, HO8.out, HG8.out, HD8.out, hu7.trans (u8.mono (by intro x hx; rw [List.mem_singleton.1 hx]; simp))⟩
                  · go_wp2_with fail
                    have HD8 := Lib.hid (heap_set HD7.out 0 (.bool true))
                    have HE8 := Lib.hid (heap_far HE7.out (p := ⟨db, 0, none⟩) neD (.bool true))
                    have HO8 := Lib.hid (heap_far HO7.out (p := ⟨db, 0, none⟩) noD (.bool true))
                    have HG8 := Lib.hid (heap_far HG7.out (p := ⟨db, 0, none⟩) ngD (.bool true))
                    have u8 := ((Upd.refl [db] w7).set1 0 (.bool true))
                    generalize (World.setCell w7 ⟨db, 0, none⟩ (.bool true)) = w8 at *
                    simp only [List.setIfInBounds_toArray, List.set_cons_zero] at HD8
                    have ha8 := ha7.keepU u8 (fun x hx => (nF' x hx).1)
                    refine (x_done l F' ab a' _ ha8).mono ?_
                    rintro e w9 ⟨rfl, x9⟩
                    have HO9 := Lib.hid (x9.keep HO8.out)
                    have HG9 := Lib.hid (x9.keep HG8.out)
                    have HD9 := Lib.hid (x9.keep HD8.out)
                    clear c_HD7_w7 f_HD7_w7 r_HD7_w7
                    have c_HO9_w9 := fun w' o (k : Ext w9 w') => k.cellOf HO9.out o
                    have f_HO9_w9 := fun w' o (k : Ext w9 w') => frozen_of (k.keep HO9.out) o
                    have r_HO9_w9 := Ext.refl w9
                    go_wp2_with fail
                    have HOa := Lib.hid (heap_set (heap_set (heap_set (heap_set HO9.out 0 (.int .i64 a'.out.e)) 1 (.int .u64 (a'.out.handle : Nat))) 2 (.int .i64 a'.out.value)) 3 (.int .i64 a'.out.stamp))
                    have HGa := Lib.hid (heap_far (heap_far (heap_far (heap_far HG9.out (p := ⟨ob, 0, none⟩) ngO (.int .i64 a'.out.e)) (p := ⟨ob, 1, none⟩) ngO (.int .u64 (a'.out.handle : Nat))) (p := ⟨ob, 2, none⟩) ngO (.int .i64 a'.out.value)) (p := ⟨ob, 3, none⟩) ngO (.int .i64 a'.out.stamp))
                    have HDa := Lib.hid (heap_far (heap_far (heap_far (heap_far HD9.out (p := ⟨ob, 0, none⟩) ndO (.int .i64 a'.out.e)) (p := ⟨ob, 1, none⟩) ndO (.int .u64 (a'.out.handle : Nat))) (p := ⟨ob, 2, none⟩) ndO (.int .i64 a'.out.value)) (p := ⟨ob, 3, none⟩) ndO (.int .i64 a'.out.stamp))
                    have ua := (((((Upd.refl [ob] w9).set1 0 (.int .i64 a'.out.e)).set1 1 (.int .u64 (a'.out.handle : Nat))).set1 2 (.int .i64 a'.out.value)).set1 3 (.int .i64 a'.out.stamp))
                    generalize (World.setCell (World.setCell (World.setCell (World.setCell w9 ⟨ob, 0, none⟩ (.int .i64 a'.out.e)) ⟨ob, 1, none⟩ (.int .u64 (a'.out.handle : Nat))) ⟨ob, 2, none⟩ (.int .i64 a'.out.value)) ⟨ob, 3, none⟩ (.int .i64 a'.out.stamp)) = wa at *
                    simp only [List.setIfInBounds_toArray, List.set_cons_zero, List.set_cons_succ] at HOa
                    go_roundg kk
                    case measure => omega
                    case rel =>
                      refine ⟨a', σ', true, true, a'.out, g, F', j + 1, by simp, by omega, HAS.out.1, (fun q => rfl), (fun q => by cases q), ((h7.keep1 u8 hdl).ext x9).keep1 ua hol, (ha8.ext x9).keepU ua (fun x hx => (nF' x hx).2), hF7, HOa.out, HGa.out, HDa.out, ?_⟩
                      · exact ((hu7.trans (u8.mono (by intro x hx; rw [List.mem_singleton.1 hx]; simp))).extR x9).trans (ua.mono (by intro x hx; rw [List.mem_singleton.1 hx]; simp))
                · rw [hkk] at ik hpr
                  have hpar : j < 60 ∨ j % 2 = 1 := by omega
                  go_wp2_with fail
                  go_roundg kk
                  case measure => omega
                  case rel => exact ⟨a, σ, false, true, o, g, F, j + 1, by simp, by omega, Fl.DropsAt.skip1 hpar HAT.out.1, (by first | exact HAT.out.2.1 | exact fun _ => HAT.out.2.1 trivial), (by first | exact HAT.out.2.2 | exact fun _ => HAT.out.2.2 trivial | (intro q; cases q)), h, ha, hF, HOr.out, HGr.out, HDr.out, hu⟩
            · have c1 : decide ((j : Int) < len) = false := decide_eq_false (by omega)
              have hkk : (j : Int) % 2 = 0 ∨ (j : Int) % 2 = 1 := by omega
              have hpr : True ∨ (j : Int) % 2 = 5 := Or.inl trivial
              have ik := ij
              clear ij
              rcases hkk with hkk | hkk
              · rw [hkk] at ik hpr
                have hpar : j < 60 ∨ j % 2 = 0 := by omega
                have OKI := Lib.hid (show a.okIdx by first | exact HAT.out.2.2 rfl | exact HAT.out.2.2 trivial | exact HAT.out.2.2)
                go_wp2_with fail
                refine (x_step Fl.cD l σ 0 F ab a _ gc h (by have := Fl.DropsAt.steps HK.out HAT.out.1; omega) ha OKI.out).mono ?_
                rintro e w7 ⟨rfl, h7, u7, F', ha7, hF'⟩
                have hat' := Fl.DropsAt.step (by omega) HAT.out.1
                have hid := Fl.Access.idx_step (c := Fl.cD) (who := 0) (m := σ) OKI.out ha.pc
                have nF : ∀ y, y < w6.heap.size → y ≠ ab → y ∉ l.all → y ∉ F ++ l.all := by
                  intro y h1 h2 h3 hm
                  rcases List.mem_append.1 hm with hm | hm
                  · rcases hF y hm with h4 | h4
                    · exact h2 h4
                    · omega
                  · exact h3 hm
                have HE7 := Lib.hid (u7.keep HEr.out (nF eb hzz.2.2.2 (by omega) hbe))
                have HO7 := Lib.hid (u7.keep HOr.out (nF ob hzz.1 (by omega) hol))
                have HG7 := Lib.hid (u7.keep HGr.out (nF gb hzz.2.1 (by omega) hgl))
                have HD7 := Lib.hid (u7.keep HDr.out (nF db hzz.2.2.1 (by omega) hdl))
                have hu7 : Upd (ab :: ob :: gb :: db :: l.all) w6 w7 := hu.then u7 (fun x hx => by
                  rcases List.mem_append.1 hx with hx | hx
                  · rcases hF x hx with h1 | h1
                    · exact Or.inl (by rw [h1]; exact List.mem_cons_self ..)
                    · exact Or.inr h1
                  · exact Or.inl (by simp [hx]))
                have hF7 : ∀ x, x ∈ F' → x = ab ∨ w6.heap.size ≤ x := fun x hx => by
                  rcases hF' x hx with h1 | h1
                  · exact hF x h1
                  · have := hu.size; exact Or.inr (by omega)
                generalize a.step Fl.cD 0 σ = st at *
                obtain ⟨y, a', σ'⟩ := st
                simp only at h7 ha7 hat' hid
                have HAS := Lib.hid (And.intro hat' hid)
                clear hat' hid c_HEr_wr f_HEr_wr r_HEr_wr c_HDr_wr f_HDr_wr r_HDr_wr
                have c_HD7_w7 := fun w' o (k : Ext w7 w') => k.cellOf HD7.out o
                have f_HD7_w7 := fun w' o (k : Ext w7 w') => frozen_of (k.keep HD7.out) o
                have r_HD7_w7 := Ext.refl w7
                have nF' : ∀ x, x ∈ F' → x ∉ [db] ∧ x ∉ [ob] := by
                  intro x hx
                  have := hF7 x hx
                  refine ⟨fun hm => ?_, fun hm => ?_⟩ <;> (rw [List.mem_singleton.1 hm] at this; omega)
                cases y
                · go_wp2_with fail
                  have HD8 := Lib.hid (heap_set HD7.out 0 (.bool false))
                  have HE8 := Lib.hid (heap_far HE7.out (p := ⟨db, 0, none⟩) neD (.bool false))
                  have HO8 := Lib.hid (heap_far HO7.out (p := ⟨db, 0, none⟩) noD (.bool false))
                  have HG8 := Lib.hid (heap_far HG7.out (p := ⟨db, 0, none⟩) ngD (.bool false))
                  have u8 := ((Upd.refl [db] w7).set1 0 (.bool false))
                  generalize (World.setCell w7 ⟨db, 0, none⟩ (.bool false)) = w8 at *
                  simp only [List.setIfInBounds_toArray, List.set_cons_zero] at HD8
                  go_roundg kk
                  case measure => omega
                  case rel =>
                    refine ⟨a', σ', false, true, o, g, F', j + 1, by simp, by omega, HAS.out.1, (fun q => by cases q), (fun _ => HAS.out.2 trivial), h7.keep1 u8 hdl, ha7.keepU u8 (fun x hx => (nF' x hx).1), hF7, HO8.out, HG8.out, HD8.out, hu7.trans (u8.mono (by intro x hx; rw [List.mem_singleton.1 hx]; simp))⟩
                · go_wp2_with fail
                  have HD8 := Lib.hid (heap_set HD7.out 0 (.bool true))
                  have HE8 := Lib.hid (heap_far HE7.out (p := ⟨db, 0, none⟩) neD (.bool true))
                  have HO8 := Lib.hid (heap_far HO7.out (p := ⟨db, 0, none⟩) noD (.bool true))
                  have HG8 := Lib.hid (heap_far HG7.out (p := ⟨db, 0, none⟩) ngD (.bool true))
                  have u8 := ((Upd.refl [db] w7).set1 0 (.bool true))
                  generalize (World.setCell w7 ⟨db, 0, none⟩ (.bool true)) = w8 at *
                  simp only [List.setIfInBounds_toArray, List.set_cons_zero] at HD8
                  have ha8 := ha7.keepU u8 (fun x hx => (nF' x hx).1)
                  refine (x_done l F' ab a' _ ha8).mono ?_
                  rintro e w9 ⟨rfl, x9⟩
                  have HO9 := Lib.hid (x9.keep HO8.out)
                  have HG9 := Lib.hid (x9.keep HG8.out)
                  have HD9 := Lib.hid (x9.keep HD8.out)
                  clear c_HD7_w7 f_HD7_w7 r_HD7_w7
                  have c_HO9_w9 := fun w' o (k : Ext w9 w') => k.cellOf HO9.out o
                  have f_HO9_w9 := fun w' o (k : Ext w9 w') => frozen_of (k.keep HO9.out) o
                  have r_HO9_w9 := Ext.refl w9
                  go_wp2_with fail
                  have HOa := Lib.hid (heap_set (heap_set (heap_set (heap_set HO9.out 0 (.int .i64 a'.out.e)) 1 (.int .u64 (a'.out.handle : Nat))) 2 (.int .i64 a'.out.value)) 3 (.int .i64 a'.out.stamp))
                  have HGa := Lib.hid (heap_far (heap_far (heap_far (heap_far HG9.out (p := ⟨ob, 0, none⟩) ngO (.int .i64 a'.out.e)) (p := ⟨ob, 1, none⟩) ngO (.int .u64 (a'.out.handle : Nat))) (p := ⟨ob, 2, none⟩) ngO (.int .i64 a'.out.value)) (p := ⟨ob, 3, none⟩) ngO (.int .i64 a'.out.stamp))
                  have HDa := Lib.hid (heap_far (heap_far (heap_far (heap_far HD9.out (p := ⟨ob, 0, none⟩) ndO (.int .i64 a'.out.e)) (p := ⟨ob, 1, none⟩) ndO (.int .u64 (a'.out.handle : Nat))) (p := ⟨ob, 2, none⟩) ndO (.int .i64 a'.out.value)) (p := ⟨ob, 3, none⟩) ndO (.int .i64 a'.out.stamp))
                  have ua := (((((Upd.refl [ob] w9).set1 0 (.int .i64 a'.out.e)).set1 1 (.int .u64 (a'.out.handle : Nat))).set1 2 (.int .i64 a'.out.value)).set1 3 (.int .i64 a'.out.stamp))
                  generalize (World.setCell (World.setCell (World.setCell (World.setCell w9 ⟨ob, 0, none⟩ (.int .i64 a'.out.e)) ⟨ob, 1, none⟩ (.int .u64 (a'.out.handle : Nat))) ⟨ob, 2, none⟩ (.int .i64 a'.out.value)) ⟨ob, 3, none⟩ (.int .i64 a'.out.stamp)) = wa at *
                  simp only [List.setIfInBounds_toArray, List.set_cons_zero, List.set_cons_succ] at HOa
                  go_roundg kk
                  case measure => omega
                  case rel =>
                    refine ⟨a', σ', true, true, a'.out, g, F', j + 1, by simp, by omega, HAS.out.1, (fun q => rfl), (fun q => by cases q), ((h7.keep1 u8 hdl).ext x9).keep1 ua hol, (ha8.ext x9).keepU ua (fun x hx => (nF' x hx).2), hF7, HOa.out, HGa.out, HDa.out, ?_⟩
                    · exact ((hu7.trans (u8.mono (by intro x hx; rw [List.mem_singleton.1 hx]; simp))).extR x9).trans (ua.mono (by intro x hx; rw [List.mem_singleton.1 hx]; simp))
              · rw [hkk] at ik hpr
                have hpar : j < 60 ∨ j % 2 = 1 := by omega
                go_wp2_with fail
                go_roundg kk
                case measure => omega
                case rel => exact ⟨a, σ, false, true, o, g, F, j + 1, by simp, by omega, Fl.DropsAt.skip1 hpar HAT.out.1, (by first | exact HAT.out.2.1 | exact fun _ => HAT.out.2.1 trivial), (by first | exact HAT.out.2.2 | exact fun _ => HAT.out.2.2 trivial | (intro q; cases q)), h, ha, hF, HOr.out, HGr.out, HDr.out, hu⟩
        · cases dn
          · have ij := iand1 (j : Int)
            by_cases c0 : j < len
            · have c1 : decide ((j : Int) < len) = true := decide_eq_true (by omega)
              by_cases d0 : j < 60
              · have d1 : decide ((j : Int) < 60) = true := decide_eq_true (by omega)
                obtain ⟨aa, rfl, hblk, hcell⟩ := HQ.out j c0
                have hb1 : wr.heap[(aa.add j).block]? = W.heap[(aa.add j).block]? := by
                  rw [add_block]
                  exact (hu.block _ (by have := X6.size; omega) (fun hm => by have := hnw _ hm; omega)).trans (X6.block hblk)
                have hcl : wr.cell? (aa.add j) = some (.int .i64 (z j)) := (cell_keep hb1).trans hcell
                clear hb1
                have ik := iand1 (z j)
                have hkk : z j % 2 = 0 ∨ z j % 2 = 1 := by omega
                have hpr : True ∨ z j % 2 = 5 := Or.inl trivial
                rcases hkk with hkk | hkk
                · rw [hkk] at ik hpr
                  have hpar : j < 60 ∨ j % 2 = 0 := by omega
                  go_wp2_with fail
                  go_roundg kk
                  case measure => omega
                  case rel => exact ⟨a, σ, true, false, o, g, F, j + 1, by simp, by omega, Fl.DropsAt.skip0 hpar HAT.out.1, (by first | exact HAT.out.2.1 | exact fun _ => HAT.out.2.1 trivial), (by first | exact HAT.out.2.2 | exact fun _ => HAT.out.2.2 trivial | (intro q; cases q)), h, ha, hF, HOr.out, HGr.out, HDr.out, hu⟩
                · rw [hkk] at ik hpr
                  have hpar : j < 60 ∨ j % 2 = 1 := by omega
                  go_wp2_with fail
                  refine (n_let Fl.cD l σ 0 65536 false wr gc h (by decide) (Fl.Drop.safe_steps _ _ _ _ _ (by have := Fl.DropsAt.steps HK.out HAT.out.1; omega) (by have := Fl.DropsAt.steps HK.out HAT.out.1; omega))).mono ?_
                  rintro e w7 ⟨rfl, h7, u7⟩
                  have hat' := Fl.DropsAt.drop HAT.out.1 hpar
                  generalize Fl.Drop.loop Fl.cD 0 200 σ (Fl.Drop.new 65536 false) = oo at *
                  obtain ⟨gd, σ'⟩ := oo
                  simp only at h7 hat'
                  have HAS := Lib.hid hat'
                  have HO7 := Lib.hid (u7.keep HOr.out hol)
                  have HG7 := Lib.hid (u7.keep HGr.out hgl)
                  have HD7 := Lib.hid (u7.keep HDr.out hdl)
                  have ha7 := ha.keepU u7 (fun x hx => ha.out x hx)
                  have hu7 : Upd (ab :: ob :: gb :: db :: l.all) w6 w7 := hu.trans (u7.mono (by intro x hx; simp [hx]))
                  clear hat' c_HEr_wr f_HEr_wr r_HEr_wr c_HDr_wr f_HDr_wr r_HDr_wr
                  have c_HG7_w7 := fun w' o (k : Ext w7 w') => k.cellOf HG7.out o
                  have f_HG7_w7 := fun w' o (k : Ext w7 w') => frozen_of (k.keep HG7.out) o
                  have r_HG7_w7 := Ext.refl w7
                  have c_HD7_w7 := fun w' o (k : Ext w7 w') => k.cellOf HD7.out o
                  have f_HD7_w7 := fun w' o (k : Ext w7 w') => frozen_of (k.keep HD7.out) o
                  have r_HD7_w7 := Ext.refl w7
                  go_wp2_with fail
                  have HG8 := Lib.hid (heap_set (heap_set (heap_set (heap_set HG7.out 0 (.int .i64 gd.out.e)) 1 (.int .u64 (gd.out.handle : Nat))) 2 (.int .i64 gd.out.value)) 3 (.int .i64 gd.out.stamp))
                  have HO8 := Lib.hid (heap_far (heap_far (heap_far (heap_far HO7.out (p := ⟨gb, 0, none⟩) noG (.int .i64 gd.out.e)) (p := ⟨gb, 1, none⟩) noG (.int .u64 (gd.out.handle : Nat))) (p := ⟨gb, 2, none⟩) noG (.int .i64 gd.out.value)) (p := ⟨gb, 3, none⟩) noG (.int .i64 gd.out.stamp))
                  have HD8 := Lib.hid (heap_far (heap_far (heap_far (heap_far HD7.out (p := ⟨gb, 0, none⟩) ndG (.int .i64 gd.out.e)) (p := ⟨gb, 1, none⟩) ndG (.int .u64 (gd.out.handle : Nat))) (p := ⟨gb, 2, none⟩) ndG (.int .i64 gd.out.value)) (p := ⟨gb, 3, none⟩) ndG (.int .i64 gd.out.stamp))
                  have u8 := (((((Upd.refl [gb] w7).set1 0 (.int .i64 gd.out.e)).set1 1 (.int .u64 (gd.out.handle : Nat))).set1 2 (.int .i64 gd.out.value)).set1 3 (.int .i64 gd.out.stamp))
                  generalize (World.setCell (World.setCell (World.setCell (World.setCell w7 ⟨gb, 0, none⟩ (.int .i64 gd.out.e)) ⟨gb, 1, none⟩ (.int .u64 (gd.out.handle : Nat))) ⟨gb, 2, none⟩ (.int .i64 gd.out.value)) ⟨gb, 3, none⟩ (.int .i64 gd.out.stamp)) = w8 at *
                  simp only [List.setIfInBounds_toArray, List.set_cons_zero, List.set_cons_succ] at HG8
                  have HD9 := Lib.hid (heap_set HD8.out 1 (.bool true))
                  have HO9 := Lib.hid (heap_far HO8.out (p := ⟨db, 1, none⟩) noD (.bool true))
                  have HG9 := Lib.hid (heap_far HG8.out (p := ⟨db, 1, none⟩) ngD (.bool true))
                  have u9 := ((Upd.refl [db] w8).set1 1 (.bool true))
                  generalize (World.setCell w8 ⟨db, 1, none⟩ (.bool true)) = w9 at *
                  simp only [List.setIfInBounds_toArray, List.set_cons_zero, List.set_cons_succ] at HD9
                  have nFb : ∀ x, x ∈ F → x ∉ [gb] ∧ x ∉ [db] := by
                    intro x hx
                    have := hF x hx
                    refine ⟨fun hm => ?_, fun hm => ?_⟩ <;> (rw [List.mem_singleton.1 hm] at this; omega)
                  go_roundg kk
                  case measure => omega
                  case rel =>
                    refine ⟨a, σ', true, true, o, gd.out, F, j + 1, by simp, by omega, HAS.out, (by first | exact HAT.out.2.1 | exact fun _ => HAT.out.2.1 trivial), (by first | exact HAT.out.2.2 | exact fun _ => HAT.out.2.2 trivial | (intro q; cases q)), (h7.keep1 u8 hgl).keep1 u9 hdl, (ha7.keepU u8 (fun x hx => (nFb x hx).1)).keepU u9 (fun x hx => (nFb x hx).2), hF, HO9.out, HG9.out, HD9.out, ?_⟩
                    exact (hu7.trans (u8.mono (by intro x hx; rw [List.mem_singleton.1 hx]; simp))).trans (u9.mono (by intro x hx; rw [List.mem_singleton.1 hx]; simp))
              · have d1 : decide ((j : Int) < 60) = false := decide_eq_false (by omega)
                have hkk : (j : Int) % 2 = 0 ∨ (j : Int) % 2 = 1 := by omega
                have hpr : True ∨ (j : Int) % 2 = 5 := Or.inl trivial
                have ik := ij
                clear ij
                rcases hkk with hkk | hkk
                · rw [hkk] at ik hpr
                  have hpar : j < 60 ∨ j % 2 = 0 := by omega
                  go_wp2_with fail
                  go_roundg kk
                  case measure => omega
                  case rel => exact ⟨a, σ, true, false, o, g, F, j + 1, by simp, by omega, Fl.DropsAt.skip0 hpar HAT.out.1, (by first | exact HAT.out.2.1 | exact fun _ => HAT.out.2.1 trivial), (by first | exact HAT.out.2.2 | exact fun _ => HAT.out.2.2 trivial | (intro q; cases q)), h, ha, hF, HOr.out, HGr.out, HDr.out, hu⟩
                · rw [hkk] at ik hpr
                  have hpar : j < 60 ∨ j % 2 = 1 := by omega
                  go_wp2_with fail
                  refine (n_let Fl.cD l σ 0 65536 false wr gc h (by decide) (Fl.Drop.safe_steps _ _ _ _ _ (by have := Fl.DropsAt.steps HK.out HAT.out.1; omega) (by have := Fl.DropsAt.steps HK.out HAT.out.1; omega))).mono ?_
                  rintro e w7 ⟨rfl, h7, u7⟩
                  have hat' := Fl.DropsAt.drop HAT.out.1 hpar
                  generalize Fl.Drop.loop Fl.cD 0 200 σ (Fl.Drop.new 65536 false) = oo at *
                  obtain ⟨gd, σ'⟩ := oo
                  simp only at h7 hat'
                  have HAS := Lib.hid hat'
                  have HO7 := Lib.hid (u7.keep HOr.out hol)
                  have HG7 := Lib.hid (u7.keep HGr.out hgl)
                  have HD7 := Lib.hid (u7.keep HDr.out hdl)
                  have ha7 := ha.keepU u7 (fun x hx => ha.out x hx)
                  have hu7 : Upd (ab :: ob :: gb :: db :: l.all) w6 w7 := hu.trans (u7.mono (by intro x hx; simp [hx]))
                  clear hat' c_HEr_wr f_HEr_wr r_HEr_wr c_HDr_wr f_HDr_wr r_HDr_wr
                  have c_HG7_w7 := fun w' o (k : Ext w7 w') => k.cellOf HG7.out o
                  have f_HG7_w7 := fun w' o (k : Ext w7 w') => frozen_of (k.keep HG7.out) o
                  have r_HG7_w7 := Ext.refl w7
                  have c_HD7_w7 := fun w' o (k : Ext w7 w') => k.cellOf HD7.out o
                  have f_HD7_w7 := fun w' o (k : Ext w7 w') => frozen_of (k.keep HD7.out) o
                  have r_HD7_w7 := Ext.refl w7
                  go_wp2_with fail
                  have HG8 := Lib.hid (heap_set (heap_set (heap_set (heap_set HG7.out 0 (.int .i64 gd.out.e)) 1 (.int .u64 (gd.out.handle : Nat))) 2 (.int .i64 gd.out.value)) 3 (.int .i64 gd.out.stamp))
                  have HO8 := Lib.hid (heap_far (heap_far (heap_far (heap_far HO7.out (p := ⟨gb, 0, none⟩) noG (.int .i64 gd.out.e)) (p := ⟨gb, 1, none⟩) noG (.int .u64 (gd.out.handle : Nat))) (p := ⟨gb, 2, none⟩) noG (.int .i64 gd.out.value)) (p := ⟨gb, 3, none⟩) noG (.int .i64 gd.out.stamp))
                  have HD8 := Lib.hid (heap_far (heap_far (heap_far (heap_far HD7.out (p := ⟨gb, 0, none⟩) ndG (.int .i64 gd.out.e)) (p := ⟨gb, 1, none⟩) ndG (.int .u64 (gd.out.handle : Nat))) (p := ⟨gb, 2, none⟩) ndG (.int .i64 gd.out.value)) (p := ⟨gb, 3, none⟩) ndG (.int .i64 gd.out.stamp))
                  have u8 := (((((Upd.refl [gb] w7).set1 0 (.int .i64 gd.out.e)).set1 1 (.int .u64 (gd.out.handle : Nat))).set1 2 (.int .i64 gd.out.value)).set1 3 (.int .i64 gd.out.stamp))
                  generalize (World.setCell (World.setCell (World.setCell (World.setCell w7 ⟨gb, 0, none⟩ (.int .i64 gd.out.e)) ⟨gb, 1, none⟩ (.int .u64 (gd.out.handle : Nat))) ⟨gb, 2, none⟩ (.int .i64 gd.out.value)) ⟨gb, 3, none⟩ (.int .i64 gd.out.stamp)) = w8 at *
                  simp only [List.setIfInBounds_toArray, List.set_cons_zero, List.set_cons_succ] at HG8
                  have HD9 := Lib.hid (heap_set HD8.out 1 (.bool true))
                  have HO9 := Lib.hid (heap_far HO8.out (p := ⟨db, 1, none⟩) noD (.bool true))
                  have HG9 := Lib.hid (heap_far HG8.out (p := ⟨db, 1, none⟩) ngD (.bool true))
                  have u9 := ((Upd.refl [db] w8).set1 1 (.bool true))
                  generalize (World.setCell w8 ⟨db, 1, none⟩ (.bool true)) = w9 at *
                  simp only [List.setIfInBounds_toArray, List.set_cons_zero, List.set_cons_succ] at HD9
                  have nFb : ∀ x, x ∈ F → x ∉ [gb] ∧ x ∉ [db] := by
                    intro x hx
                    have := hF x hx
                    refine ⟨fun hm => ?_, fun hm => ?_⟩ <;> (rw [List.mem_singleton.1 hm] at this; omega)
                  go_roundg kk
                  case measure => omega
                  case rel =>
                    refine ⟨a, σ', true, true, o, gd.out, F, j + 1, by simp, by omega, HAS.out, (by first | exact HAT.out.2.1 | exact fun _ => HAT.out.2.1 trivial), (by first | exact HAT.out.2.2 | exact fun _ => HAT.out.2.2 trivial | (intro q; cases q)), (h7.keep1 u8 hgl).keep1 u9 hdl, (ha7.keepU u8 (fun x hx => (nFb x hx).1)).keepU u9 (fun x hx => (nFb x hx).2), hF, HO9.out, HG9.out, HD9.out, ?_⟩
                    exact (hu7.trans (u8.mono (by intro x hx; rw [List.mem_singleton.1 hx]; simp))).trans (u9.mono (by intro x hx; rw [List.mem_singleton.1 hx]; simp))
            · have c1 : decide ((j : Int) < len) = false := decide_eq_false (by omega)
              have hkk : (j : Int) % 2 = 0 ∨ (j : Int) % 2 = 1 := by omega
              have hpr : True ∨ (j : Int) % 2 = 5 := Or.inl trivial
              have ik := ij
              clear ij
              rcases hkk with hkk | hkk
              · rw [hkk] at ik hpr
                have hpar : j < 60 ∨ j % 2 = 0 := by omega
                go_wp2_with fail
                go_roundg kk
                case measure => omega
                case rel => exact ⟨a, σ, true, false, o, g, F, j + 1, by simp, by omega, Fl.DropsAt.skip0 hpar HAT.out.1, (by first | exact HAT.out.2.1 | exact fun _ => HAT.out.2.1 trivial), (by first | exact HAT.out.2.2 | exact fun _ => HAT.out.2.2 trivial | (intro q; cases q)), h, ha, hF, HOr.out, HGr.out, HDr.out, hu⟩
              · rw [hkk] at ik hpr
                have hpar : j < 60 ∨ j % 2 = 1 := by omega
                go_wp2_with fail
                refine (n_let Fl.cD l σ 0 65536 false wr gc h (by decide) (Fl.Drop.safe_steps _ _ _ _ _ (by have := Fl.DropsAt.steps HK.out HAT.out.1; omega) (by have := Fl.DropsAt.steps HK.out HAT.out.1; omega))).mono ?_
                rintro e w7 ⟨rfl, h7, u7⟩
                have hat' := Fl.DropsAt.drop HAT.out.1 hpar
                generalize Fl.Drop.loop Fl.cD 0 200 σ (Fl.Drop.new 65536 false) = oo at *
                obtain ⟨gd, σ'⟩ := oo
                simp only at h7 hat'
                have HAS := Lib.hid hat'
                have HO7 := Lib.hid (u7.keep HOr.out hol)
                have HG7 := Lib.hid (u7.keep HGr.out hgl)
                have HD7 := Lib.hid (u7.keep HDr.out hdl)
                have ha7 := ha.keepU u7 (fun x hx => ha.out x hx)
                have hu7 : Upd (ab :: ob :: gb :: db :: l.all) w6 w7 := hu.trans (u7.mono (by intro x hx; simp [hx]))
                clear hat' c_HEr_wr f_HEr_wr r_HEr_wr c_HDr_wr f_HDr_wr r_HDr_wr
                have c_HG7_w7 := fun w' o (k : Ext w7 w') => k.cellOf HG7.out o
                have f_HG7_w7 := fun w' o (k : Ext w7 w') => frozen_of (k.keep HG7.out) o
                have r_HG7_w7 := Ext.refl w7
                have c_HD7_w7 := fun w' o (k : Ext w7 w') => k.cellOf HD7.out o
                have f_HD7_w7 := fun w' o (k : Ext w7 w') => frozen_of (k.keep HD7.out) o
                have r_HD7_w7 := Ext.refl w7
                go_wp2_with fail
                have HG8 := Lib.hid (heap_set (heap_set (heap_set (heap_set HG7.out 0 (.int .i64 gd.out.e)) 1 (.int .u64 (gd.out.handle : Nat))) 2 (.int .i64 gd.out.value)) 3 (.int .i64 gd.out.stamp))
                have HO8 := Lib.hid (heap_far (heap_far (heap_far (heap_far HO7.out (p := ⟨gb, 0, none⟩) noG (.int .i64 gd.out.e)) (p := ⟨gb, 1, none⟩) noG (.int .u64 (gd.out.handle : Nat))) (p := ⟨gb, 2, none⟩) noG (.int .i64 gd.out.value)) (p := ⟨gb, 3, none⟩) noG (.int .i64 gd.out.stamp))
                have HD8 := Lib.hid (heap_far (heap_far (heap_far (heap_far HD7.out (p := ⟨gb, 0, none⟩) ndG (.int .i64 gd.out.e)) (p := ⟨gb, 1, none⟩) ndG (.int .u64 (gd.out.handle : Nat))) (p := ⟨gb, 2, none⟩) ndG (.int .i64 gd.out.value)) (p := ⟨gb, 3, none⟩) ndG (.int .i64 gd.out.stamp))
                have u8 := (((((Upd.refl [gb] w7).set1 0 (.int .i64 gd.out.e)).set1 1 (.int .u64 (gd.out.handle : Nat))).set1 2 (.int .i64 gd.out.value)).set1 3 (.int .i64 gd.out.stamp))
                generalize (World.setCell (World.setCell (World.setCell (World.setCell w7 ⟨gb, 0, none⟩ (.int .i64 gd.out.e)) ⟨gb, 1, none⟩ (.int .u64 (gd.out.handle : Nat))) ⟨gb, 2, none⟩ (.int .i64 gd.out.value)) ⟨gb, 3, none⟩ (.int .i64 gd.out.stamp)) = w8 at *
                simp only [List.setIfInBounds_toArray, List.set_cons_zero, List.set_cons_succ] at HG8
                have HD9 := Lib.hid (heap_set HD8.out 1 (.bool true))
                have HO9 := Lib.hid (heap_far HO8.out (p := ⟨db, 1, none⟩) noD (.bool true))
                have HG9 := Lib.hid (heap_far HG8.out (p := ⟨db, 1, none⟩) ngD (.bool true))
                have u9 := ((Upd.refl [db] w8).set1 1 (.bool true))
                generalize (World.setCell w8 ⟨db, 1, none⟩ (.bool true)) = w9 at *
                simp only [List.setIfInBounds_toArray, List.set_cons_zero, List.set_cons_succ] at HD9
                have nFb : ∀ x, x ∈ F → x ∉ [gb] ∧ x ∉ [db] := by
                  intro x hx
                  have := hF x hx
                  refine ⟨fun hm => ?_, fun hm => ?_⟩ <;> (rw [List.mem_singleton.1 hm] at this; omega)
                go_roundg kk
                case measure => omega
                case rel =>
                  refine ⟨a, σ', true, true, o, gd.out, F, j + 1, by simp, by omega, HAS.out, (by first | exact HAT.out.2.1 | exact fun _ => HAT.out.2.1 trivial), (by first | exact HAT.out.2.2 | exact fun _ => HAT.out.2.2 trivial | (intro q; cases q)), (h7.keep1 u8 hgl).keep1 u9 hdl, (ha7.keepU u8 (fun x hx => (nFb x hx).1)).keepU u9 (fun x hx => (nFb x hx).2), hF, HO9.out, HG9.out, HD9.out, ?_⟩
                  exact (hu7.trans (u8.mono (by intro x hx; rw [List.mem_singleton.1 hx]; simp))).trans (u9.mono (by intro x hx; rw [List.mem_singleton.1 hx]; simp))
          · go_wp2_with fail
            go_meet
            case rel =>
              obtain ⟨_, _, e3, e4⟩ := Fl.DropsAt.final HK.out (Or.inr ⟨rfl, rfl⟩) HAT.out.1
              have ho : o = a.out := by first | exact HAT.out.2.1 rfl | exact HAT.out.2.1 trivial
              subst ho
              exact ⟨a, σ, a.out, g, F, h, ⟨e3, e4⟩, HOr.out, HGr.out, HDr.out, X6.updNew hu hnw⟩
  case rest =>
    obtain ⟨a, σ, o, g, F, h, ⟨hg0, hfin⟩, hO, hG, hD, Xc⟩ := hcut
    rw [hg0] at hG
    generalize g.handle = g1 at *
    generalize g.value = g2 at *
    generalize g.stamp = g3 at *
    generalize o.handle = o1 at *
    generalize o.value = o2 at *
    generalize o.stamp = o3 at *
    clear c_HE6_w6 f_HE6_w6 r_HE6_w6 c_HD6_w6 f_HD6_w6 r_HD6_w6
    have HGc := Lib.hid hG
    have HDc := Lib.hid hD
    clear hG hD hg0
    rcases hfin with ⟨he, hst⟩ | ⟨he, hst⟩
    · rw [he] at hO
      have HOc := Lib.hid hO
      have q1 : decide (o3 < g3) = true := decide_eq_true hst
      clear hO he hst
      have c_HOc_wc := fun w' o (k : Ext wc w') => k.cellOf HOc.out o
      have f_HOc_wc := fun w' o (k : Ext wc w') => frozen_of (k.keep HOc.out) o
      have r_HOc_wc := Ext.refl wc
      have c_HGc_wc := fun w' o (k : Ext wc w') => k.cellOf HGc.out o
      have f_HGc_wc := fun w' o (k : Ext wc w') => frozen_of (k.keep HGc.out) o
      have r_HGc_wc := Ext.refl wc
      have c_HDc_wc := fun w' o (k : Ext wc w') => k.cellOf HDc.out o
      have f_HDc_wc := fun w' o (k : Ext wc w') => frozen_of (k.keep HDc.out) o
      have r_HDc_wc := Ext.refl wc
      go_wp2
      go_ret
      exact ⟨rfl, Xc⟩
    · rw [he] at hO
      have HOc := Lib.hid hO
      have q1 : decide (o3 ≥ g3) = true := decide_eq_true hst
      clear hO he hst
      have c_HOc_wc := fun w' o (k : Ext wc w') => k.cellOf HOc.out o
      have f_HOc_wc := fun w' o (k : Ext wc w') => frozen_of (k.keep HOc.out) o
      have r_HOc_wc := Ext.refl wc
      have c_HGc_wc := fun w' o (k : Ext wc w') => k.cellOf HGc.out o
      have f_HGc_wc := fun w' o (k : Ext wc w') => frozen_of (k.keep HGc.out) o
      have r_HGc_wc := Ext.refl wc
      have c_HDc_wc := fun w' o (k : Ext wc w') => k.cellOf HDc.out o
      have f_HDc_wc := fun w' o (k : Ext wc w') => frozen_of (k.keep HDc.out) o
      have r_HDc_wc := Ext.refl wc
      go_wp2
      go_ret
      exact ⟨rfl, Xc⟩

end Go.Proofs.Ythblhgappldcjaa
