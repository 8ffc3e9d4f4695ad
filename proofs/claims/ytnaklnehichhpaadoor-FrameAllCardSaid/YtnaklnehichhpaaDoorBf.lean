/- The contracts of Writer.Put, Signed, Unary, Gamma, Align, Append. -/
import Derived.Test.YtnaklnehichhpaaDoorBe
namespace Go.Proofs.YtnaklnehichhpaaDoor.P
open Go.RowKit Go.Shelf Go.Proofs.YtnaklnehichhpaaDoor.Bits Go.Proofs.YtnaklnehichhpaaDoorW.PrintWords Go.Proofs.YtnaklnehichhpaaDoorW.PrintLast Go.Proofs.YtnaklnehichhpaaDoorW.PrintMore
set_option linter.unusedVariables false
set_option linter.unusedSimpArgs false
attribute [local go_sem ↓] Go.wp_at_zero Go.wp_at_succ

def wput (L M : List Int) : Int × List Int := (putE L M, putL L M)
def wPut (L : List Int) (v n : Int) : Int × List Int := if n < 0 ∨ 32 < n ∨ v < 0 ∨ 2 ^ n.toNat ≤ v then (1, L) else wput L (numb v n.toNat)
theorem pow_le32 {m : Nat} (h : m ≤ 32) : (1 : Int) ≤ 2 ^ m ∧ (2 : Int) ^ m ≤ 4294967296 := by
  have h1 := Nat.pow_le_pow_right (show 0 < 2 by omega) h
  have h2 : 1 ≤ 2 ^ m := Nat.one_le_two_pow
  have e : ((2 ^ m : Nat) : Int) = (2 : Int) ^ m := Int.natCast_pow 2 m
  have e32 : (2 : Nat) ^ 32 = 4294967296 := rfl
  omega

theorem shl1 (m : Nat) (h : m ≤ 32) : wrap64 (2 ^ min m 64) = 2 ^ m := by
  have := pow_le32 h
  rw [Nat.min_eq_left (by omega), wrap64_id (by omega) (by omega)]
set_option maxHeartbeats 1000000 in
set_option maxRecDepth 100000 in
theorem Put_any (S : Nat → Prop) (p : Nat) (L : List Int) (v n : Int) (w : World) (hW : Wr w S p L) (hL : L.length ≤ 1048576) :
    Calls Tryd.prog 27 #[.pointer (some ⟨p, 0, none⟩), .int .i64 v, .int .i64 n] w fun e w' => e = .returned (.int .i64 (wPut L v n).1) ∧ WrTo w S p (wPut L v n).2 w' := by
  have HW := Aside0.mk hW
  have hp := hW.p_lt
  clear hW
  have no : n < 0 ∨ 32 < n ∨ v < 0 ∨ 2 ^ n.toNat ≤ v → Aside0 (wPut L v n = (1, L)) := fun h => ⟨by unfold wPut; rw [if_pos h]⟩
  by_cases h1 : n < 0
  · have HN := no (.inl h1)
    have d1 : decide (n < 0) = true := by simpa using h1
    clear no
    go_enter Tryd.func27, Tryd.ntmps27
    go_wp2_with fail
    go_ret
    rw [HN.out]
    exact ⟨rfl, HW.out.wrTo (Below.refl _ _)⟩
  by_cases h2 : 32 < n
  · have HN := no (.inr (.inl h2))
    have d1 : decide (n < 0) = false := by simpa using h1
    have d2 : decide (32 < n) = true := by simpa using h2
    clear no
    go_enter Tryd.func27, Tryd.ntmps27
    go_wp2_with fail
    go_ret
    rw [HN.out]
    exact ⟨rfl, HW.out.wrTo (Below.refl _ _)⟩
  by_cases h3 : v < 0
  · have HN := no (.inr (.inr (.inl h3)))
    have d1 : decide (n < 0) = false := by simpa using h1
    have d2 : decide (32 < n) = false := by simpa using h2
    have d3 : decide (v < 0) = true := by simpa using h3
    clear no
    go_enter Tryd.func27, Tryd.ntmps27
    go_wp2_with fail
    go_ret
    rw [HN.out]
    exact ⟨rfl, HW.out.wrTo (Below.refl _ _)⟩
  obtain ⟨m, rfl⟩ : ∃ m : Nat, n = m := ⟨n.toNat, by omega⟩
  have d1 : decide ((m : Int) < 0) = false := by simp
  have d2 : decide (32 < (m : Int)) = false := by simpa using h2
  have d3 : decide (v < 0) = false := by simpa using h3
  have hp2 := pow_le32 (m := m) (by omega)
  have hm : m ≤ 32 := by omega
  clear h1 h2
  have hs := shl1 m hm
  by_cases h4 : 2 ^ m ≤ v
  · have HN := no (.inr (.inr (.inr (by simpa using h4))))
    have d4 : decide (wrap64 (2 ^ min m 64) ≤ v) = true := by rw [hs]; simpa using h4
    clear no hs
    go_enter Tryd.func27, Tryd.ntmps27
    go_wp2_with fail
    go_ret
    rw [HN.out]
    exact ⟨rfl, HW.out.wrTo (Below.refl _ _)⟩
  · have HN : Aside0 (wPut L v m = wput L (fldBits [(v, m)])) := ⟨by unfold wPut; rw [if_neg (by simp only [Int.toNat_natCast]; omega)]; simp [fldBits]⟩
    have d4 : decide (wrap64 (2 ^ min m 64) ≤ v) = false := by rw [hs]; simpa using h4
    clear no hs
    go_enter Tryd.func27, Tryd.ntmps27
    go_wp2_with (go_at_call 43; (refine (put_any S p _ [(v, m)] L _ (HW.out.below (by (repeat (first | with_reducible exact Below.refl _ _ | (refine Aside0.out (p := Below _ _ _) ?_; assumption) | refine below_drew ?_ | refine below_alloc ?_ _ | (refine below_step ?_ (Aside0.out (p := Below _ _ _) (by assumption))))))) ?gF (by simp) ?gf hL ?gw).mono ?_; (case gF => exact World.alloc_heap_new w _); (case gf => (simp; omega)); (case gw => (simp [widths]; omega)); rintro e w2 ⟨rfl, h2⟩; have H2 := Aside0.mk h2; clear h2))
    go_ret
    rw [HN.out]
    exact ⟨rfl, WrTo.glue (fun k hk => .inl hk) (Fr.below (by (repeat (first | with_reducible exact Below.refl _ _ | (refine Aside0.out (p := Below _ _ _) ?_; assumption) | refine below_drew ?_ | refine below_alloc ?_ _ | (refine below_step ?_ (Aside0.out (p := Below _ _ _) (by assumption)))))) _) H2.out⟩
end Go.Proofs.YtnaklnehichhpaaDoor.P
