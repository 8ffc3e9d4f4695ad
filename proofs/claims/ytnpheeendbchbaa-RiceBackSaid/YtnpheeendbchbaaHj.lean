/- The walks of shawmlaw05.RiceFolds, RiceCosts; the arguments of chapter 5, opened. -/
import Derived.Test.YtnpheeendbchbaaHi
import Derived.Test.YtnpheeendbchbaaBs
namespace Go.Proofs.Ytnpheeendbchbaa.P
section
open Go.RowKit Go.Shelf Go.Proofs.Ytnpheeendbchbaa.Bits Go.Proofs.YtnpheeendbchbaaW.PrintWords Go.Proofs.YtnpheeendbchbaaW.PrintLast Go.Proofs.YtnpheeendbchbaaW.PrintMore
set_option linter.unusedVariables false
set_option linter.unusedSimpArgs false
attribute [local go_sem ↓] Go.wp_at_zero Go.wp_at_succ

theorem unfold_fold {v : Int} (h : -2147483648 ≤ v ∧ v ≤ 2147483647) : fUnfold (foldI v) = (v, 0) := by
  have hb := foldI_bound h
  unfold fUnfold
  rw [if_neg (by omega)]
  unfold unfoldI foldI
  by_cases h0 : v < 0
  · rw [if_pos h0, if_pos (by omega)]
    congr 1
    omega
  · rw [if_neg h0, if_neg (by omega)]
    congr 1
    omega
theorem unfoldI_small {u : Int} (h : 0 ≤ u ∧ u < 4294967296) : -2147483648 ≤ unfoldI u ∧ unfoldI u ≤ 2147483647 := by
  unfold unfoldI
  split <;> omega
theorem fold_unfold {u : Int} (h : 0 ≤ u ∧ u < 4294967296) : fFold (unfoldI u) = (u, 0) := by
  have hb := unfoldI_small h
  unfold fFold
  rw [if_pos ((small_iff _).2 hb)]
  congr 1
  unfold foldI unfoldI
  split <;> split <;> omega
theorem fFold_ok {v a : Int} (h : fFold v = (a, 0)) : fUnfold a = (v, 0) := by
  unfold fFold at h
  by_cases hs : small v = true
  · rw [if_pos hs] at h
    obtain rfl := (Prod.mk.inj h).1
    exact unfold_fold ((small_iff v).1 hs)
  · rw [if_neg hs] at h
    exact absurd (Prod.mk.inj h).2 (by decide)
theorem fUnfold_ok {u c : Int} (h : fUnfold u = (c, 0)) : fFold c = (u, 0) := by
  unfold fUnfold at h
  by_cases hs : u < 0 ∨ 4294967296 ≤ u
  · rw [if_pos hs] at h
    exact absurd (Prod.mk.inj h).2 (by decide)
  · rw [if_neg hs] at h
    obtain rfl := (Prod.mk.inj h).1
    exact fold_unfold (by omega)

set_option maxHeartbeats 4000000 in
set_option maxRecDepth 100000 in
theorem RiceFolds_any (v u : Int) (w : World) : Calls Try.prog 3 #[.int .i64 v, .int .i64 u] w fun e w' => e = .returned (.bool true) ∧ Below w.heap.size w w' := by
  obtain ⟨⟨a, e⟩, hf⟩ : ∃ r, fFold v = r := ⟨_, rfl⟩
  obtain ⟨⟨c, g⟩, hu⟩ : ∃ r, fUnfold u = r := ⟨_, rfl⟩
  have HF := Aside0.mk hf
  have HU := Aside0.mk hu
  have n1 : (a != a) = false := by simp
  have n2 : (c != c) = false := by simp
  have n3 : (e != e) = false := by simp
  have n4 : (g != g) = false := by simp
  have n5 : (v != v) = false := by simp
  have n6 : (u != u) = false := by simp
  clear hf hu
  by_cases he : e = 0
  · subst he
    have HA := Aside0.mk (fFold_ok HF.out)
    by_cases hg : g = 0
    · subst hg
      have HC := Aside0.mk (fUnfold_ok HU.out)
      have HBw := Aside0.mk (Below.refl w.heap.size w)
      go_enter Try.func3, Try.ntmps3
      go_wp2_with fail
      have cc := Fold_any5 v w
      rw [HF.out] at cc
      refine cc.mono ?_
      clear cc
      rintro e w1 ⟨rfl, hd⟩
      have HBw1 := Aside0.mk (HBw.out.trans ((hd.below).mono HBw.out.size))
      clear hd
      go_wp2_with fail
      have cc := RFold_any5 v w1
      rw [HF.out] at cc
      refine cc.mono ?_
      clear cc
      rintro e w2 ⟨rfl, hd⟩
      have HBw2 := Aside0.mk (HBw1.out.trans ((hd.below).mono HBw1.out.size))
      clear hd
      go_wp2_with fail
      have cc := Unfold_any5 u w2
      rw [HU.out] at cc
      refine cc.mono ?_
      clear cc
      rintro e w3 ⟨rfl, hd⟩
      have HBw3 := Aside0.mk (HBw2.out.trans ((hd.below).mono HBw2.out.size))
      clear hd
      go_wp2_with fail
      have cc := RUnfold_any5 u w3
      rw [HU.out] at cc
      refine cc.mono ?_
      clear cc
      rintro e w4 ⟨rfl, hd⟩
      have HBw4 := Aside0.mk (HBw3.out.trans ((hd.below).mono HBw3.out.size))
      clear hd
      go_wp2_with fail
      have cc := Unfold_any5 a w4
      rw [HA.out] at cc
      refine cc.mono ?_
      clear cc
      rintro e w5 ⟨rfl, hd⟩
      have HBw5 := Aside0.mk (HBw4.out.trans ((hd.below).mono HBw4.out.size))
      clear hd
      go_wp2_with fail
      have cc := Fold_any5 c w5
      rw [HC.out] at cc
      refine cc.mono ?_
      clear cc
      rintro e w6 ⟨rfl, hd⟩
      have HBw6 := Aside0.mk (HBw5.out.trans ((hd.below).mono HBw5.out.size))
      clear hd
      go_wp2_with fail
      have cc := awake_any w6
      skip
      refine cc.mono ?_
      clear cc
      rintro e w7 ⟨rfl, hd⟩
      have HBw7 := Aside0.mk (HBw6.out.trans ((hd).mono HBw6.out.size))
      clear hd
      go_wp2_with fail
      go_ret
      exact ⟨rfl, HBw7.out⟩
    · have q2 : (g == 0) = false := by simpa using hg
      clear hg
      have HBw := Aside0.mk (Below.refl w.heap.size w)
      go_enter Try.func3, Try.ntmps3
      go_wp2_with fail
      have cc := Fold_any5 v w
      rw [HF.out] at cc
      refine cc.mono ?_
      clear cc
      rintro e w1 ⟨rfl, hd⟩
      have HBw1 := Aside0.mk (HBw.out.trans ((hd.below).mono HBw.out.size))
      clear hd
      go_wp2_with fail
      have cc := RFold_any5 v w1
      rw [HF.out] at cc
      refine cc.mono ?_
      clear cc
      rintro e w2 ⟨rfl, hd⟩
      have HBw2 := Aside0.mk (HBw1.out.trans ((hd.below).mono HBw1.out.size))
      clear hd
      go_wp2_with fail
      have cc := Unfold_any5 u w2
      rw [HU.out] at cc
      refine cc.mono ?_
      clear cc
      rintro e w3 ⟨rfl, hd⟩
      have HBw3 := Aside0.mk (HBw2.out.trans ((hd.below).mono HBw2.out.size))
      clear hd
      go_wp2_with fail
      have cc := RUnfold_any5 u w3
      rw [HU.out] at cc
      refine cc.mono ?_
      clear cc
      rintro e w4 ⟨rfl, hd⟩
      have HBw4 := Aside0.mk (HBw3.out.trans ((hd.below).mono HBw3.out.size))
      clear hd
      go_wp2_with fail
      have cc := Unfold_any5 a w4
      rw [HA.out] at cc
      refine cc.mono ?_
      clear cc
      rintro e w5 ⟨rfl, hd⟩
      have HBw5 := Aside0.mk (HBw4.out.trans ((hd.below).mono HBw4.out.size))
      clear hd
      go_wp2_with fail
      have cc := awake_any w5
      skip
      refine cc.mono ?_
      clear cc
      rintro e w7 ⟨rfl, hd⟩
      have HBw7 := Aside0.mk (HBw5.out.trans ((hd).mono HBw5.out.size))
      clear hd
      go_wp2_with fail
      go_ret
      exact ⟨rfl, HBw7.out⟩
  · have q1 : (e == 0) = false := by simpa using he
    clear he
    by_cases hg : g = 0
    · subst hg
      have HC := Aside0.mk (fUnfold_ok HU.out)
      have HBw := Aside0.mk (Below.refl w.heap.size w)
      go_enter Try.func3, Try.ntmps3
      go_wp2_with fail
      have cc := Fold_any5 v w
      rw [HF.out] at cc
      refine cc.mono ?_
      clear cc
      rintro e w1 ⟨rfl, hd⟩
      have HBw1 := Aside0.mk (HBw.out.trans ((hd.below).mono HBw.out.size))
      clear hd
      go_wp2_with fail
      have cc := RFold_any5 v w1
      rw [HF.out] at cc
      refine cc.mono ?_
      clear cc
      rintro e w2 ⟨rfl, hd⟩
      have HBw2 := Aside0.mk (HBw1.out.trans ((hd.below).mono HBw1.out.size))
      clear hd
      go_wp2_with fail
      have cc := Unfold_any5 u w2
      rw [HU.out] at cc
      refine cc.mono ?_
      clear cc
      rintro e w3 ⟨rfl, hd⟩
      have HBw3 := Aside0.mk (HBw2.out.trans ((hd.below).mono HBw2.out.size))
      clear hd
      go_wp2_with fail
      have cc := RUnfold_any5 u w3
      rw [HU.out] at cc
      refine cc.mono ?_
      clear cc
      rintro e w4 ⟨rfl, hd⟩
      have HBw4 := Aside0.mk (HBw3.out.trans ((hd.below).mono HBw3.out.size))
      clear hd
      go_wp2_with fail
      have cc := Fold_any5 c w4
      rw [HC.out] at cc
      refine cc.mono ?_
      clear cc
      rintro e w6 ⟨rfl, hd⟩
      have HBw6 := Aside0.mk (HBw4.out.trans ((hd.below).mono HBw4.out.size))
      clear hd
      go_wp2_with fail
      have cc := awake_any w6
      skip
      refine cc.mono ?_
      clear cc
      rintro e w7 ⟨rfl, hd⟩
      have HBw7 := Aside0.mk (HBw6.out.trans ((hd).mono HBw6.out.size))
      clear hd
      go_wp2_with fail
      go_ret
      exact ⟨rfl, HBw7.out⟩
    · have q2 : (g == 0) = false := by simpa using hg
      clear hg
      have HBw := Aside0.mk (Below.refl w.heap.size w)
      go_enter Try.func3, Try.ntmps3
      go_wp2_with fail
      have cc := Fold_any5 v w
      rw [HF.out] at cc
      refine cc.mono ?_
      clear cc
      rintro e w1 ⟨rfl, hd⟩
      have HBw1 := Aside0.mk (HBw.out.trans ((hd.below).mono HBw.out.size))
      clear hd
      go_wp2_with fail
      have cc := RFold_any5 v w1
      rw [HF.out] at cc
      refine cc.mono ?_
      clear cc
      rintro e w2 ⟨rfl, hd⟩
      have HBw2 := Aside0.mk (HBw1.out.trans ((hd.below).mono HBw1.out.size))
      clear hd
      go_wp2_with fail
      have cc := Unfold_any5 u w2
      rw [HU.out] at cc
      refine cc.mono ?_
      clear cc
      rintro e w3 ⟨rfl, hd⟩
      have HBw3 := Aside0.mk (HBw2.out.trans ((hd.below).mono HBw2.out.size))
      clear hd
      go_wp2_with fail
      have cc := RUnfold_any5 u w3
      rw [HU.out] at cc
      refine cc.mono ?_
      clear cc
      rintro e w4 ⟨rfl, hd⟩
      have HBw4 := Aside0.mk (HBw3.out.trans ((hd.below).mono HBw3.out.size))
      clear hd
      go_wp2_with fail
      have cc := awake_any w4
      skip
      refine cc.mono ?_
      clear cc
      rintro e w7 ⟨rfl, hd⟩
      have HBw7 := Aside0.mk (HBw4.out.trans ((hd).mono HBw4.out.size))
      clear hd
      go_wp2_with fail
      go_ret
      exact ⟨rfl, HBw7.out⟩

theorem RCost_any5 (A : Option Addr) (c : Nat) (l : List Int) (k : Int) (w : World) (hC : Kd.C (Kd.int .i64) w A l.length l) (hc : l.length ≤ c) (hl : l.length ≤ 1000000000) :
    Calls Try.prog 26 #[.slice A l.length c, .int .i64 k] w fun e w' => e = .returned (.tuple #[.int .i64 (fCost l k).1, .int .i64 (fCost l k).2]) ∧ Below w.heap.size w w' :=
  (shawmref05_Cost.calls (l.length + 100101) A c l k _ _ w hC hc (ref_Cost l k _ (by omega) (by omega))).mono fun e w' ⟨h1, h2⟩ => ⟨h1, h2.below⟩
theorem RBest_any5 (A : Option Addr) (c : Nat) (l : List Int) (w : World) (hC : Kd.C (Kd.int .i64) w A l.length l) (hc : l.length ≤ c) (hl : l.length ≤ 1000000000) :
    Calls Try.prog 28 #[.slice A l.length c] w fun e w' => e = .returned (.tuple #[.int .i64 (fBest l).1, .int .i64 (fBest l).2.1, .int .i64 (fBest l).2.2]) ∧ Below w.heap.size w w' :=
  (shawmref05_Best.calls (l.length + 100101) A c l _ _ _ w hC hc (ref_Best l _ (by omega) (by omega))).mono fun e w' ⟨h1, h2⟩ => ⟨h1, h2.below⟩
theorem ROrder_any5 (A : Option Addr) (c : Nat) (l : List Int) (w : World) (hC : Kd.C (Kd.int .i64) w A l.length l) (hc : l.length ≤ c) (hl : l.length ≤ 1000000000) :
    Calls Try.prog 30 #[.slice A l.length c] w fun e w' => e = .returned (.tuple #[.int .i64 (fOrder l).1, .int .i64 (fOrder l).2.1, .int .i64 (fOrder l).2.2]) ∧ Below w.heap.size w w' :=
  (shawmref05_Order.calls (l.length + 100101) A c l _ _ _ w hC hc (ref_Order l _ (by omega) (by omega))).mono fun e w' ⟨h1, h2⟩ => ⟨h1, h2⟩

set_option maxHeartbeats 4000000 in
set_option maxRecDepth 100000 in
theorem RiceCosts_any (A : Option Addr) (c : Nat) (l : List Int) (k : Int) (w : World) (hC : Kd.C (Kd.int .i64) w A l.length l) (hc : l.length ≤ c) (hl : l.length ≤ 9000000000000000000) :
    Calls Try.prog 5 #[.slice A l.length c, .int .i64 k] w fun e w' => e = .returned (.bool true) ∧ Below w.heap.size w w' := by
  have HC := Aside0.mk hC
  clear hC
  have hcase : (600 < l.length ∧ l.length ≤ 8192) ∨ 9000 < l.length ∨ (l.length ≤ 600 ∨ (8192 < l.length ∧ l.length ≤ 9000)) := by omega
  rcases hcase with ⟨h1, h2⟩ | h1 | h1
  · have d1 : decide ((600 : Int) < (l.length : Int)) = true := by simp; omega
    have d2 : decide ((l.length : Int) ≤ 8192) = true := by simp; omega
    clear h1
    go_enter Try.func5, Try.ntmps5
    go_wp2_with fail
    refine (awake_any w).mono ?_
    rintro e w1 ⟨rfl, hb⟩
    go_wp2_with fail
    go_ret
    exact ⟨rfl, hb⟩
  · have d1 : decide ((600 : Int) < (l.length : Int)) = true := by simp; omega
    have d2 : decide ((l.length : Int) ≤ 8192) = false := by simp; omega
    have d3 : decide ((9000 : Int) < (l.length : Int)) = true := by simp; omega
    clear h1
    go_enter Try.func5, Try.ntmps5
    go_wp2_with fail
    refine (awake_any w).mono ?_
    rintro e w1 ⟨rfl, hb⟩
    go_wp2_with fail
    go_ret
    exact ⟨rfl, hb⟩
  obtain ⟨b1, hb1⟩ : ∃ b, b = decide ((600 : Int) < (l.length : Int)) := ⟨_, rfl⟩
  have d1 : decide ((600 : Int) < (l.length : Int)) = b1 := hb1.symm
  have d2 : b1 = true → decide ((l.length : Int) ≤ 8192) = false := fun e => by rw [e] at d1; have := of_decide_eq_true d1; simp; omega
  have d3 : decide ((9000 : Int) < (l.length : Int)) = false := by simp; omega
  have HCO := Aside0.mk (fun W hW => Cost_any A c l k W hW hc (by omega))
  have HRC := Aside0.mk (fun W hW => RCost_any5 A c l k W hW hc (by omega))
  have HBE := Aside0.mk (fun W hW => Best_any A c l W hW hc (by omega))
  have HRB := Aside0.mk (fun W hW => RBest_any5 A c l W hW hc (by omega))
  have HOR := Aside0.mk (fun W hW => Order_any A c l W hW hc (by omega))
  have HRO := Aside0.mk (fun W hW => ROrder_any5 A c l W hW hc (by omega))
  generalize fCost l k = r1 at *
  generalize fBest l = r2 at *
  generalize fOrder l = r3 at *
  obtain ⟨x1, x2⟩ := r1
  obtain ⟨y1, y2, y3⟩ := r2
  obtain ⟨z1, z2, z3⟩ := r3
  dsimp only at HCO HRC HBE HRB HOR HRO
  have m1 : (x1 == x1) = true := by simp
  have m2 : (x2 == x2) = true := by simp
  have m3 : (y1 == y1) = true := by simp
  have m4 : (y2 == y2) = true := by simp
  have m5 : (y3 == y3) = true := by simp
  have m6 : (z1 == z1) = true := by simp
  have m7 : (z2 == z2) = true := by simp
  have m8 : (z3 == z3) = true := by simp
  have D2 := Aside0.mk d2
  clear hb1 d2 h1
  cases b1
  case' true => have d2 := D2.out rfl
  all_goals
    have HBw := Aside0.mk (Below.refl w.heap.size w)
    go_enter Try.func5, Try.ntmps5
    go_wp2_with fail
    refine (HCO.out w (Kd.C_below HC.out HBw.out)).mono ?_
    rintro e w1 ⟨rfl, hd⟩
    have HBw1 := Aside0.mk (HBw.out.trans ((hd.below).mono HBw.out.size))
    clear hd
    go_wp2_with fail
    refine (HRC.out w1 (Kd.C_below HC.out HBw1.out)).mono ?_
    rintro e w2 ⟨rfl, hd⟩
    have HBw2 := Aside0.mk (HBw1.out.trans ((hd).mono HBw1.out.size))
    clear hd
    go_wp2_with fail
    refine (HBE.out w2 (Kd.C_below HC.out HBw2.out)).mono ?_
    rintro e w3 ⟨rfl, hd⟩
    have HBw3 := Aside0.mk (HBw2.out.trans ((hd).mono HBw2.out.size))
    clear hd
    go_wp2_with fail
    refine (HRB.out w3 (Kd.C_below HC.out HBw3.out)).mono ?_
    rintro e w4 ⟨rfl, hd⟩
    have HBw4 := Aside0.mk (HBw3.out.trans ((hd).mono HBw3.out.size))
    clear hd
    go_wp2_with fail
    refine (HOR.out w4 (Kd.C_below HC.out HBw4.out)).mono ?_
    rintro e w5 ⟨rfl, hd⟩
    have HBw5 := Aside0.mk (HBw4.out.trans ((hd).mono HBw4.out.size))
    clear hd
    go_wp2_with fail
    refine (HRO.out w5 (Kd.C_below HC.out HBw5.out)).mono ?_
    rintro e w6 ⟨rfl, hd⟩
    have HBw6 := Aside0.mk (HBw5.out.trans ((hd).mono HBw5.out.size))
    clear hd
    go_wp2_with fail
    refine (awake_any w6).mono ?_
    rintro e w7 ⟨rfl, hd⟩
    have HBw7 := Aside0.mk (HBw6.out.trans (hd.mono HBw6.out.size))
    clear hd
    go_wp2_with fail
    go_ret
    exact ⟨rfl, HBw7.out⟩
end

section
open Go.ChangeShapes Go.WideShapes Go.ChangeAt Go.RowKit Go.Deep Go.Proofs.Ytnpheeendbchbaa.Bits
open Go.Proofs.YtnpheeendbchbaaW.PrintWords
set_option linter.unusedVariables false
set_option linter.unusedSimpArgs false
variable {H : Type} {enc : TypeId × Value → H} {W : World} {base : Nat} {spare : Nat → Bool} {held : Bool}
/-- A slice of ints inside an argument. -/
theorem open_list {n : Nat} {v : Value} {y : DataW H × List MemPlace} (h : DataW.trod enc Try.prog W base spare held n 40 [v] = some y) (hw : ∀ m ∈ y.1.weights Try.prog 40, m ≤ reachBytes) :
    ∃ (A : Option Addr) (c : Nat) (B : List Int), v = .slice A B.length c ∧ Kd.C (Kd.int .i64) W A B.length B ∧ (∀ x ∈ B, -9223372036854775808 ≤ x ∧ x ≤ 9223372036854775807) ∧ B.length ≤ c ∧ B.length ≤ reachBytes := by
  have fin : ∀ (a0 : Option Addr) (len0 cap0 : Nat) (z0 : List Int), ((a0 = none ∧ len0 = 0 ∧ cap0 = 0 ∧ z0 = []) ∨ ∃ x, a0 = some x ∧ len0 ≤ cap0 ∧ cap0 ≤ maxLen ∧ z0.length = cap0 ∧ (∀ i, i < z0.length → W.cell? (x.add i) = some (.int .i64 (z0.getD i 0))) ∧ ∀ n ∈ z0, (Lit.int .i64 n).wf = true) → len0 ≤ reachBytes →
      ∃ (A : Option Addr) (c : Nat) (B : List Int), (.slice a0 len0 cap0 : Value) = .slice A B.length c ∧ Kd.C (Kd.int .i64) W A B.length B ∧ (∀ x ∈ B, -9223372036854775808 ≤ x ∧ x ≤ 9223372036854775807) ∧ B.length ≤ c ∧ B.length ≤ reachBytes := by
    intro a0 len0 cap0 z0 w0 hr
    obtain ⟨l0, rfl, hr0, hm0, hw0, hc0⟩ := ReadsInt.ofRowC w0
    have hC : Kd.C (Kd.int .i64) W a0 l0.length l0 := Kd.C_of_reads (d := (0 : Int)) (h1 := fun _ => rfl) hr0
    exact ⟨a0, cap0, l0, rfl, hC, fun b hb => wf64 (hw0 b hb), hc0, hr⟩
  rcases open_ints Try.underlying40 Try.underlying3 (by kernel_rfl) h with ⟨hcs, _⟩ | ⟨x, l, c, zs, hcs, _, hl, hm, hz, hx, hcell, hwz⟩
  · cases hcs
    exact fin none 0 0 [] (.inl ⟨rfl, rfl, rfl, rfl⟩) (Nat.zero_le _)
  · cases hcs
    have hlz : l ≤ zs.length := by
      rw [hz]
      split
      · exact hl
      · exact Nat.le_refl _
    have hlen : l ≤ reachBytes := by
      subst hx
      have h1 := hw (((lits (H := H) .i64 (zs.take l)).length + (lits (H := H) .i64 (zs.drop l)).length) * Try.prog.bytesOf 3) (by
        unfold DataW.weights
        rw [Try.underlying40]
        exact List.mem_cons_self)
      have h2 : Try.prog.bytesOf 3 = 8 := by kernel_rfl
      rw [h2] at h1
      have h3 : (lits (H := H) .i64 (zs.take l)).length + (lits (H := H) .i64 (zs.drop l)).length = zs.length := by
        simp [lits]
        omega
      omega
    cases hsp : spare x.block with
    | true =>
      rw [hsp, if_pos rfl] at hz
      exact fin (some x) l c zs (.inr ⟨x, rfl, hl, hm, hz, hcell, hwz⟩) hlen
    | false =>
      rw [hsp, if_neg (by decide)] at hz
      obtain ⟨A, c', B, hv, r⟩ := fin (some x) l l zs (.inr ⟨x, rfl, Nat.le_refl _, Nat.le_trans hl hm, hz, hcell, hwz⟩) hlen
      injection hv with h1 h2 h3
      subst h1
      obtain ⟨r1, r2, r3, r4⟩ := r
      exact ⟨_, c, B, by rw [h2], r1, r2, by omega, r4⟩
end
end Go.Proofs.Ytnpheeendbchbaa.P
