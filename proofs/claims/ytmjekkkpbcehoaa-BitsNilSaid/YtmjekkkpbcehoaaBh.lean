/- The contracts of Writer.Gamma, Align, Append. -/
import Derived.Test.YtmjekkkpbcehoaaBg
namespace Go.Proofs.Ytmjekkkpbcehoaa.P
open Go.RowKit Go.Shelf Go.Proofs.Ytmjekkkpbcehoaa.Bits Go.Proofs.YtmjekkkpbcehoaaW.PrintWords Go.Proofs.YtmjekkkpbcehoaaW.PrintLast Go.Proofs.YtmjekkkpbcehoaaW.PrintMore
set_option linter.unusedVariables false
set_option linter.unusedSimpArgs false
attribute [local go_sem ↓] Go.wp_at_zero Go.wp_at_succ

/-- The exponent of the greatest power of 2 that is not greater. -/
def lg (v : Int) : Nat := v.toNat.log2
theorem lg_of {v : Int} {k : Nat} (h1 : 2 ^ k ≤ v) (h2 : v < 2 ^ (k + 1)) : lg v = k := by
  unfold lg
  obtain ⟨x, rfl⟩ : ∃ x : Nat, v = x := ⟨v.toNat, by have : (0 : Int) < 2 ^ k := Int.pow_pos (by omega); omega⟩
  rw [Int.toNat_natCast]
  have e1 : ((2 ^ k : Nat) : Int) = (2 : Int) ^ k := Int.natCast_pow 2 k
  have e2 : ((2 ^ (k + 1) : Nat) : Int) = (2 : Int) ^ (k + 1) := Int.natCast_pow 2 (k + 1)
  have hx : x ≠ 0 := by have : 0 < 2 ^ k := Nat.pow_pos (by omega); omega
  have h3 := (Nat.log2_lt hx (k := k + 1)).2 (by omega)
  have h4 := (Nat.le_log2 hx (k := k)).2 (by omega)
  omega
def wGamma (L : List Int) (v : Int) : Int × List Int := if v < 1 ∨ 2097152 ≤ v then (1, L) else wput L (numb 0 (lg v) ++ numb v (lg v + 1))
theorem pow_le_of (k m : Nat) (h : k ≤ m) : (2 : Int) ^ k ≤ 2 ^ m := by
  have e1 : ((2 ^ k : Nat) : Int) = (2 : Int) ^ k := Int.natCast_pow 2 k
  have e2 : ((2 ^ m : Nat) : Int) = (2 : Int) ^ m := Int.natCast_pow 2 m
  have := Nat.pow_le_pow_right (show 0 < 2 by omega) h
  omega
theorem pow_step (k : Nat) : (2 : Int) ^ (k + 1) = 2 * 2 ^ k := by rw [Int.pow_succ, Int.mul_comm]

set_option maxHeartbeats 1000000 in
set_option maxRecDepth 100000 in
theorem Gamma_any (S : Nat → Prop) (p : Nat) (L : List Int) (v : Int) (w : World) (hW : Wr w S p L) (hL : L.length ≤ 1048576) :
    Calls Try.prog 48 #[.pointer (some ⟨p, 0, none⟩), .int .i64 v] w fun e w' => e = .returned (.int .i64 (wGamma L v).1) ∧ WrTo w S p (wGamma L v).2 w' := by
  have HW := Aside0.mk hW
  have hp := hW.p_lt
  clear hW
  have no : v < 1 ∨ 2097152 ≤ v → Aside0 (wGamma L v = (1, L)) := fun h => ⟨by unfold wGamma; rw [if_pos h]⟩
  by_cases h1 : v < 1
  · have HN := no (.inl h1)
    have d1 : decide (v < 1) = true := by simpa using h1
    clear no
    go_enter Try.func48, Try.ntmps48
    go_wp2_with fail
    go_ret
    rw [HN.out]
    exact ⟨rfl, HW.out.wrTo (Below.refl _ _)⟩
  by_cases h2 : 2097152 ≤ v
  · have HN := no (.inr h2)
    have d1 : decide (v < 1) = false := by simpa using h1
    have d2 : decide (2097152 ≤ v) = true := by simpa using h2
    clear no
    go_enter Try.func48, Try.ntmps48
    go_wp2_with fail
    go_ret
    rw [HN.out]
    exact ⟨rfl, HW.out.wrTo (Below.refl _ _)⟩
  have d1 : decide (v < 1) = false := by simpa using h1
  have d2 : decide (2097152 ≤ v) = false := by simpa using h2
  have HN : Aside0 (wGamma L v = wput L (fldBits [(0, lg v), (v, lg v + 1)])) := ⟨by unfold wGamma; rw [if_neg (by omega)]; simp [fldBits]⟩
  clear no
  go_enter Try.func48, Try.ntmps48
  go_wp2_with fail
  clear d1 d2
  go_loop [5] (fun u => ∃ k : Nat, u = .int .i64 (k : Int) ∧ k ≤ 20 ∧ 2 ^ k ≤ v) (fun u => 21 - (intOf u).toNat)
  case atStart => exact ⟨0, rfl, by omega, by simp; omega⟩
  case round =>
    obtain ⟨k, rfl, hk, hv⟩ := hrel
    have hpk := pow_step k
    have hp1 : (0 : Int) < 2 ^ (k + 1) := Int.pow_pos (by omega)
    have hp0 : (0 : Int) < 2 ^ k := Int.pow_pos (by omega)
    by_cases hlt : 2 ^ (k + 1) ≤ v
    · have hk20 : k < 20 := by
        apply Nat.lt_of_not_le
        intro h
        have := pow_le_of 21 (k + 1) (by omega)
        omega
      have HV := Aside0.mk hlt
      have d3 : decide (0 < v / 2 ^ (k + 1)) = true := by
        have := (Int.le_ediv_iff_mul_le (a := 1) (b := v) hp1).2 (by omega)
        simp; omega
      clear hpk hp1 hp0 hlt hv
      go_wp2_with fail
      go_round
      case rel => exact ⟨k + 1, by go_num, by omega, HV.out⟩
      case measure => simp [intOf]; omega
    · have hlg := lg_of hv (by omega)
      have d3 : decide (0 < v / 2 ^ (k + 1)) = false := by
        rw [Int.ediv_eq_zero_of_lt (by omega) (by omega)]; rfl
      have hlv : v ≤ 9223372036854775807 := by omega
      rw [hlg] at HN
      clear hpk hp1 hp0 hlt hv hlg
      go_wp2_with (go_at_call 70; (refine (put_any S p _ [(0, k), (v, k + 1)] L _ (HW.out.below (by (repeat (first | with_reducible exact Below.refl _ _ | (refine Aside0.out (p := Below _ _ _) ?_; assumption) | refine below_drew ?_ | refine below_alloc ?_ _ | (refine below_step ?_ (Aside0.out (p := Below _ _ _) (by assumption))))))) ?gF (by simp) ?gf hL ?gw).mono ?_; (case gF => exact World.alloc_heap_new w _); (case gf => (simp; omega)); (case gw => (simp [widths]; omega)); rintro e w2 ⟨rfl, h2⟩; have H2 := Aside0.mk h2; clear h2))
      go_ret
      rw [HN.out]
      exact ⟨rfl, WrTo.glue (fun k hk => .inl hk) (Fr.below (by (repeat (first | with_reducible exact Below.refl _ _ | (refine Aside0.out (p := Below _ _ _) ?_; assumption) | refine below_drew ?_ | refine below_alloc ?_ _ | (refine below_step ?_ (Aside0.out (p := Below _ _ _) (by assumption)))))) _) H2.out⟩
end Go.Proofs.Ytmjekkkpbcehoaa.P
