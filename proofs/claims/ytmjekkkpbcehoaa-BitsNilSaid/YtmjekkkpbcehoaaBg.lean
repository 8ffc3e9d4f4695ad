/- The contracts of Writer.Signed, Unary. -/
import Derived.Test.YtmjekkkpbcehoaaBf
namespace Go.Proofs.Ytmjekkkpbcehoaa.P
open Go.RowKit Go.Shelf Go.Proofs.Ytmjekkkpbcehoaa.Bits Go.Proofs.YtmjekkkpbcehoaaW.PrintWords Go.Proofs.YtmjekkkpbcehoaaW.PrintLast Go.Proofs.YtmjekkkpbcehoaaW.PrintMore
set_option linter.unusedVariables false
set_option linter.unusedSimpArgs false
attribute [local go_sem ↓] Go.wp_at_zero Go.wp_at_succ

def wUnary (L : List Int) (n : Int) : Int × List Int := if n < 0 ∨ 1000 < n then (1, L) else wput L (numb 0 n.toNat ++ numb 1 1)
def wSigned (L : List Int) (v n : Int) : Int × List Int := if n < 1 ∨ 32 < n ∨ v < -2 ^ (n.toNat - 1) ∨ 2 ^ (n.toNat - 1) ≤ v then (1, L) else wput L (numb (v % 2 ^ n.toNat) n.toNat)

theorem pow_le31 {m : Nat} (h : m ≤ 31) : (1 : Int) ≤ 2 ^ m ∧ (2 : Int) ^ m ≤ 2147483648 := by
  have h1 := Nat.pow_le_pow_right (show 0 < 2 by omega) h
  have h2 : 1 ≤ 2 ^ m := Nat.one_le_two_pow
  have e : ((2 ^ m : Nat) : Int) = (2 : Int) ^ m := Int.natCast_pow 2 m
  have e32 : (2 : Nat) ^ 31 = 2147483648 := rfl
  omega
set_option maxHeartbeats 1000000 in
set_option maxRecDepth 100000 in
theorem Unary_any (S : Nat → Prop) (p : Nat) (L : List Int) (n : Int) (w : World) (hW : Wr w S p L) (hL : L.length ≤ 1048576) :
    Calls Try.prog 46 #[.pointer (some ⟨p, 0, none⟩), .int .i64 n] w fun e w' => e = .returned (.int .i64 (wUnary L n).1) ∧ WrTo w S p (wUnary L n).2 w' := by
  have HW := Aside0.mk hW
  have hp := hW.p_lt
  clear hW
  have no : n < 0 ∨ 1000 < n → Aside0 (wUnary L n = (1, L)) := fun h => ⟨by unfold wUnary; rw [if_pos h]⟩
  by_cases h1 : n < 0
  · have HN := no (.inl h1)
    have d1 : decide (n < 0) = true := by simpa using h1
    clear no
    go_enter Try.func46, Try.ntmps46
    go_wp2_with fail
    go_ret
    rw [HN.out]
    exact ⟨rfl, HW.out.wrTo (Below.refl _ _)⟩
  by_cases h2 : 1000 < n
  · have HN := no (.inr h2)
    have d1 : decide (n < 0) = false := by simpa using h1
    have d2 : decide (1000 < n) = true := by simpa using h2
    clear no
    go_enter Try.func46, Try.ntmps46
    go_wp2_with fail
    go_ret
    rw [HN.out]
    exact ⟨rfl, HW.out.wrTo (Below.refl _ _)⟩
  obtain ⟨m, rfl⟩ : ∃ m : Nat, n = m := ⟨n.toNat, by omega⟩
  have d1 : decide ((m : Int) < 0) = false := by simp
  have d2 : decide (1000 < (m : Int)) = false := by simpa using h2
  have HN : Aside0 (wUnary L m = wput L (fldBits [(0, m), (1, 1)])) := ⟨by unfold wUnary; rw [if_neg (by omega)]; simp [fldBits]⟩
  have hm : m ≤ 1000 := by omega
  clear no h1 h2
  go_enter Try.func46, Try.ntmps46
  go_wp2_with (go_at_call 70; (refine (put_any S p _ [(0, m), (1, 1)] L _ (HW.out.below (by (repeat (first | with_reducible exact Below.refl _ _ | (refine Aside0.out (p := Below _ _ _) ?_; assumption) | refine below_drew ?_ | refine below_alloc ?_ _ | (refine below_step ?_ (Aside0.out (p := Below _ _ _) (by assumption))))))) ?gF (by simp) ?gf hL ?gw).mono ?_; (case gF => exact World.alloc_heap_new w _); (case gf => (simp; omega)); (case gw => (simp [widths]; omega)); rintro e w2 ⟨rfl, h2⟩; have H2 := Aside0.mk h2; clear h2))
  go_ret
  rw [HN.out]
  exact ⟨rfl, WrTo.glue (fun k hk => .inl hk) (Fr.below (by (repeat (first | with_reducible exact Below.refl _ _ | (refine Aside0.out (p := Below _ _ _) ?_; assumption) | refine below_drew ?_ | refine below_alloc ?_ _ | (refine below_step ?_ (Aside0.out (p := Below _ _ _) (by assumption)))))) _) H2.out⟩

set_option maxHeartbeats 1000000 in
set_option maxRecDepth 100000 in
theorem Signed_any (S : Nat → Prop) (p : Nat) (L : List Int) (v n : Int) (w : World) (hW : Wr w S p L) (hL : L.length ≤ 1048576) :
    Calls Try.prog 49 #[.pointer (some ⟨p, 0, none⟩), .int .i64 v, .int .i64 n] w fun e w' => e = .returned (.int .i64 (wSigned L v n).1) ∧ WrTo w S p (wSigned L v n).2 w' := by
  have HW := Aside0.mk hW
  have hp := hW.p_lt
  clear hW
  have no : n < 1 ∨ 32 < n ∨ v < -2 ^ (n.toNat - 1) ∨ 2 ^ (n.toNat - 1) ≤ v → Aside0 (wSigned L v n = (1, L)) := fun h => ⟨by unfold wSigned; rw [if_pos h]⟩
  by_cases h1 : n < 1
  · have HN := no (.inl h1)
    have d1 : decide (n < 1) = true := by simpa using h1
    clear no
    go_enter Try.func49, Try.ntmps49
    go_wp2_with fail
    go_ret
    rw [HN.out]
    exact ⟨rfl, HW.out.wrTo (Below.refl _ _)⟩
  by_cases h2 : 32 < n
  · have HN := no (.inr (.inl h2))
    have d1 : decide (n < 1) = false := by simpa using h1
    have d2 : decide (32 < n) = true := by simpa using h2
    clear no
    go_enter Try.func49, Try.ntmps49
    go_wp2_with fail
    go_ret
    rw [HN.out]
    exact ⟨rfl, HW.out.wrTo (Below.refl _ _)⟩
  obtain ⟨m, rfl⟩ : ∃ m : Nat, n = m + 1 := ⟨n.toNat - 1, by omega⟩
  have d1 : decide ((m : Int) + 1 < 1) = false := by simp; omega
  have d2 : decide (32 < (m : Int) + 1) = false := by simp; omega
  have hm : m ≤ 31 := by omega
  clear h1 h2
  have hp1 := pow_le31 hm
  have e1 : wrap64 (2 ^ m) = 2 ^ m := wrap64_id (by omega) (by omega)
  have e2 : wrap64 (-2 ^ m) = -2 ^ m := wrap64_id (by omega) (by omega)
  by_cases h3 : v < -2 ^ m
  · have HN := no (.inr (.inr (.inl (by simpa using h3))))
    have d3 : decide (v < wrap64 (-2 ^ m)) = true := by rw [e2]; simpa using h3
    clear no e1 e2
    go_enter Try.func49, Try.ntmps49
    go_wp2_with fail
    go_ret
    rw [HN.out]
    exact ⟨rfl, HW.out.wrTo (Below.refl _ _)⟩
  by_cases h4 : 2 ^ m ≤ v
  · have HN := no (.inr (.inr (.inr (by simpa using h4))))
    have d3 : decide (v < wrap64 (-2 ^ m)) = false := by rw [e2]; simp; omega
    have d4 : decide (wrap64 (2 ^ m) ≤ v) = true := by rw [e1]; simpa using h4
    clear no e1 e2
    go_enter Try.func49, Try.ntmps49
    go_wp2_with fail
    go_ret
    rw [HN.out]
    exact ⟨rfl, HW.out.wrTo (Below.refl _ _)⟩
  · have d3 : decide (v < wrap64 (-2 ^ m)) = false := by rw [e2]; simp; omega
    have d4 : decide (wrap64 (2 ^ m) ≤ v) = false := by rw [e1]; simp; omega
    have hp3 := pow_le32 (m := m + 1) (by omega)
    have hV : Go.bits BinOp.and IntKind.i64 v (wrap64 (wrap64 (2 ^ (m + 1)) - 1)) = v % 2 ^ (m + 1) := by
      rw [wrap64_id (x := 2 ^ (m + 1)) (by omega) (by omega), wrap64_id (by omega) (by omega)]
      exact andm_i64 v (m + 1) (by omega) (by omega)
    have HN : Aside0 (wSigned L v (m + 1) = wput L (fldBits [(v % 2 ^ (m + 1), m + 1)])) := ⟨by
      unfold wSigned
      rw [show ((m : Int) + 1).toNat = m + 1 by omega, if_neg (by rw [Nat.add_sub_cancel]; omega)]
      simp [fldBits]⟩
    have hr1 := Int.emod_nonneg v (show (2 : Int) ^ (m + 1) ≠ 0 by omega)
    have hr2 := Int.emod_lt_of_pos v (show (0 : Int) < 2 ^ (m + 1) by omega)
    generalize v % 2 ^ (m + 1) = V at *
    have hV2 : V ≤ 9223372036854775807 := by omega
    clear no e1 e2 hp1 hp3 h3 h4 hr2
    go_enter Try.func49, Try.ntmps49
    go_wp2_with (go_at_call 70; (refine (put_any S p _ [(V, m + 1)] L _ (HW.out.below (by (repeat (first | with_reducible exact Below.refl _ _ | (refine Aside0.out (p := Below _ _ _) ?_; assumption) | refine below_drew ?_ | refine below_alloc ?_ _ | (refine below_step ?_ (Aside0.out (p := Below _ _ _) (by assumption))))))) ?gF (by simp) ?gf hL ?gw).mono ?_; (case gF => exact World.alloc_heap_new w _); (case gf => (simp; omega)); (case gw => (simp [widths]; omega)); rintro e w2 ⟨rfl, h2⟩; have H2 := Aside0.mk h2; clear h2))
    go_ret
    rw [HN.out]
    exact ⟨rfl, WrTo.glue (fun k hk => .inl hk) (Fr.below (by (repeat (first | with_reducible exact Below.refl _ _ | (refine Aside0.out (p := Below _ _ _) ?_; assumption) | refine below_drew ?_ | refine below_alloc ?_ _ | (refine below_step ?_ (Aside0.out (p := Below _ _ _) (by assumption)))))) _) H2.out⟩
end Go.Proofs.Ytmjekkkpbcehoaa.P
