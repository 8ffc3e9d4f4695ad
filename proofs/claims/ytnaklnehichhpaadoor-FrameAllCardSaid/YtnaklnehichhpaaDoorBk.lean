/- The contracts of Reader.Get, Signed, zeros. -/
import Derived.Test.YtnaklnehichhpaaDoorBj
namespace Go.Proofs.YtnaklnehichhpaaDoor.P
open Go.RowKit Go.Shelf Go.Proofs.YtnaklnehichhpaaDoor.Bits Go.Proofs.YtnaklnehichhpaaDoorW.PrintWords Go.Proofs.YtnaklnehichhpaaDoorW.PrintLast Go.Proofs.YtnaklnehichhpaaDoorW.PrintMore
set_option linter.unusedVariables false
set_option linter.unusedSimpArgs false
attribute [local go_sem ↓] Go.wp_at_zero Go.wp_at_succ

def rGet (L : List Int) (a : Nat) (n : Int) : Int × Int × Nat := if n < 0 ∨ 32 < n then (0, 1, a) else if (L.length : Int) - a < n then (0, 3, a) else (val ((L.drop a).take n.toNat), 0, a + n.toNat)
def sgn (v : Int) (n : Nat) : Int := if 2 ^ (n - 1) ≤ v then v - 2 ^ n else v
def rSigned (L : List Int) (a : Nat) (n : Int) : Int × Int × Nat := if n < 1 ∨ 32 < n then (0, 1, a) else if (L.length : Int) - a < n then (0, 3, a) else (sgn (val ((L.drop a).take n.toNat)) n.toNat, 0, a + n.toNat)

/-- What a call of a reader that gives a number and an error says. -/
def RdPost (w : World) (S : Nat → Prop) (p : Nat) (L : List Int) (r : Int × Int × Nat) (e : Ending) (w' : World) : Prop := e = .returned (.tuple #[.int .i64 r.1, .int .i64 r.2.1]) ∧ Rd w' S p L r.2.2 ∧ Fr (fun k => k = p) w w'

set_option maxHeartbeats 1000000 in
set_option maxRecDepth 100000 in
theorem Get_any (S : Nat → Prop) (p a : Nat) (L : List Int) (n : Int) (w : World) (hR : Rd w S p L a) :
    Calls Tryd.prog 63 #[.pointer (some ⟨p, 0, none⟩), .int .i64 n] w (RdPost w S p L (rGet L a n)) := by
  have HR := Aside0.mk hR
  have hlen := hR.len
  have hal := hR.at_le
  have c1 := hR.cell1
  have c2 := hR.cell2
  clear hR
  have no : n < 0 ∨ 32 < n → Aside0 (rGet L a n = (0, 1, a)) := fun h => ⟨by unfold rGet; rw [if_pos h]⟩
  by_cases h1 : n < 0
  · have HN := no (.inl h1)
    have d1 : decide (n < 0) = true := by simpa using h1
    clear no
    go_enter Tryd.func63, Tryd.ntmps63
    go_wp2_with fail
    go_ret2
    rw [HN.out]
    exact ⟨rfl, HR.out, Fr.refl _ _⟩
  by_cases h2 : 32 < n
  · have HN := no (.inr h2)
    have d1 : decide (n < 0) = false := by simpa using h1
    have d2 : decide (32 < n) = true := by simpa using h2
    clear no
    go_enter Tryd.func63, Tryd.ntmps63
    go_wp2_with fail
    go_ret2
    rw [HN.out]
    exact ⟨rfl, HR.out, Fr.refl _ _⟩
  obtain ⟨m, rfl⟩ : ∃ m : Nat, n = m := ⟨n.toNat, by omega⟩
  have d1 : decide ((m : Int) < 0) = false := by simp
  have d2 : decide (32 < (m : Int)) = false := by simpa using h2
  have hm : m ≤ 32 := by omega
  have w1' : IntKind.i64.wrap ((L.length : Int) - (a : Int)) = (L.length : Int) - (a : Int) := IntWalk.i64_in _ (by omega)
  clear no h1 h2
  by_cases h3 : (L.length : Int) - a < m
  · have HN : Aside0 (rGet L a m = (0, 3, a)) := ⟨by unfold rGet; rw [if_neg (by omega), if_pos h3]⟩
    have d3 : decide ((L.length : Int) - (a : Int) < (m : Int)) = true := by simpa using h3
    clear h3
    go_enter Tryd.func63, Tryd.ntmps63
    go_wp2_with fail
    go_quiet (fail)
    clear w1'
    go_wp2_with fail
    go_ret2
    rw [HN.out]
    exact ⟨rfl, HR.out.drew _, Fr.below (below_drewN (Below.refl _ _) _) _⟩
  · have HN : Aside0 (rGet L a m = (val ((L.drop a).take m), 0, a + m)) := ⟨by unfold rGet; rw [if_neg (by omega), if_neg h3]; simp⟩
    have d3 : decide ((L.length : Int) - (a : Int) < (m : Int)) = false := by simpa using h3
    have hm3 : a + m ≤ L.length := by omega
    clear h3
    go_enter Tryd.func63, Tryd.ntmps63
    go_wp2_with fail
    go_quiet (fail)
    clear w1' d3
    go_wp2_with (go_at_call 67; refine (next_any S p a m L _ (HR.out.drew _) hm3 hm).mono ?_; rintro e w2 ⟨rfl, h2, h3⟩; have H2 := Aside0.mk h2; have H3 := Aside0.mk h3; clear h2 h3)
    go_ret2
    rw [HN.out]
    exact ⟨rfl, H2.out, (Fr.below (below_drewN (Below.refl _ _) _) _).trans H3.out⟩

/-! ### zeros ahead of a one -/
def zs : List Int → Nat
  | [] => 0
  | b :: M => if b = 0 then zs M + 1 else 0
theorem zs_step {M : List Int} : ∀ {k : Nat}, k < M.length → k ≤ zs M → M.getD k 0 = 0 → k + 1 ≤ zs M := by
  induction M with
  | nil => intro k h; simp at h
  | cons b M ih =>
    intro k h1 h2 h3
    unfold zs at h2 ⊢
    cases k with
    | zero => have : b = 0 := by simpa using h3
              rw [if_pos this]; omega
    | succ k =>
      split at h2
      · rw [if_pos ‹_›]
        have := ih (k := k) (by simpa using h1) (by omega) (by simpa using h3)
        omega
      · omega
theorem zs_one {M : List Int} : ∀ {k : Nat}, k < M.length → k ≤ zs M → M.getD k 0 ≠ 0 → zs M = k := by
  induction M with
  | nil => intro k h; simp at h
  | cons b M ih =>
    intro k h1 h2 h3
    unfold zs at h2 ⊢
    cases k with
    | zero => have : b ≠ 0 := by simpa using h3
              rw [if_neg this]
    | succ k =>
      split at h2
      · rw [if_pos ‹_›]
        have := ih (k := k) (by simpa using h1) (by omega) (by simpa using h3)
        omega
      · omega
theorem zs_le (M : List Int) : zs M ≤ M.length := by
  induction M with
  | nil => simp [zs]
  | cons b M ih => unfold zs; split <;> simp <;> omega
def rZeros (L : List Int) (a m : Nat) : Int × Int × Nat := if m < zs (L.drop a) then (0, 4, a) else if a + zs (L.drop a) < L.length then (zs (L.drop a), 0, a + zs (L.drop a) + 1) else (0, 3, a)
theorem getD_drop' (L : List Int) (a k : Nat) : (L.drop a).getD k 0 = L.getD (a + k) 0 := by
  rw [List.getD_eq_getElem?_getD, List.getD_eq_getElem?_getD, List.getElem?_drop]

end Go.Proofs.YtnaklnehichhpaaDoor.P
