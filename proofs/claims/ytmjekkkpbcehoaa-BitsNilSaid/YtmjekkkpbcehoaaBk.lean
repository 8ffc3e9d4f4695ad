/- The contracts of Reader.Get, Signed, zeros. -/
import Derived.Test.YtmjekkkpbcehoaaBj
namespace Go.Proofs.Ytmjekkkpbcehoaa.P
open Go.RowKit Go.Shelf Go.Proofs.Ytmjekkkpbcehoaa.Bits Go.Proofs.YtmjekkkpbcehoaaW.PrintWords Go.Proofs.YtmjekkkpbcehoaaW.PrintLast Go.Proofs.YtmjekkkpbcehoaaW.PrintMore
set_option linter.unusedVariables false
set_option linter.unusedSimpArgs false
attribute [local go_sem ↓] Go.wp_at_zero Go.wp_at_succ

def rGet (L : List Int) (a : Nat) (n : Int) : Int × Int × Nat := if n < 0 ∨ 32 < n then (0, 1, a) else if (L.length : Int) - a < n then (0, 3, a) else (val ((L.drop a).take n.toNat), 0, a + n.toNat)
def sgn (v : Int) (n : Nat) : Int := if 2 ^ (n - 1) ≤ v then v - 2 ^ n else v
def rSigned (L : List Int) (a : Nat) (n : Int) : Int × Int × Nat := if n < 1 ∨ 32 < n then (0, 1, a) else if (L.length : Int) - a < n then (0, 3, a) else (sgn (val ((L.drop a).take n.toNat)) n.toNat, 0, a + n.toNat)

/-- What a call of a reader that gives a number and an error says. -/
def RdPost (w : World) (S : Nat → Prop) (p : Nat) (L : List Int) (r : Int × Int × Nat) (e : Ending) (w' : World) : Prop := e = .returned (.tuple #[.int .i64 r.1, .int .i64 r.2.1]) ∧ Rd w' S p L r.2.2 ∧ Fr (fun k => k = p) w w'

set_option maxHeartbeats 1000000 in
set_option maxRecDepth 100000 in
theorem Get_any (S : Nat → Prop) (p a : Nat) (L : List Int) (n : Int) (w : World) (hR : Rd w S p L a) :
    Calls Try.prog 40 #[.pointer (some ⟨p, 0, none⟩), .int .i64 n] w (RdPost w S p L (rGet L a n)) := by
  have HR := Aside0.mk hR
  have hlen := hR.len
  have hal := hR.at_le
  have c1 := hR.cell1
  have c2 := hR.cell2
  clear hR
  have no : n < 0 ∨ 32 < n → Aside0 (rGet L a n = (0, 1, a)) := fun h => ⟨by unfold rGet; rw [if_pos h]⟩
  by_cases h1 : n < 0
  · have HN := no (.inl h1)
    have d1 : decide (n < 0) = true := by simpa using h1
    clear no
    go_enter Try.func40, Try.ntmps40
    go_wp2_with fail
    go_ret2
    rw [HN.out]
    exact ⟨rfl, HR.out, Fr.refl _ _⟩
  by_cases h2 : 32 < n
  · have HN := no (.inr h2)
    have d1 : decide (n < 0) = false := by simpa using h1
    have d2 : decide (32 < n) = true := by simpa using h2
    clear no
    go_enter Try.func40, Try.ntmps40
    go_wp2_with fail
    go_ret2
    rw [HN.out]
    exact ⟨rfl, HR.out, Fr.refl _ _⟩
  obtain ⟨m, rfl⟩ : ∃ m : Nat, n = m := ⟨n.toNat, by omega⟩
  have d1 : decide ((m : Int) < 0) = false := by simp
  have d2 : decide (32 < (m : Int)) = false := by simpa using h2
  have hm : m ≤ 32 := by omega
  have w1' : IntKind.i64.wrap ((L.length : Int) - (a : Int)) = (L.length : Int) - (a : Int) := IntWalk.i64_in _ (by omega)
  clear no h1 h2
  by_cases h3 : (L.length : Int) - a < m
  · have HN : Aside0 (rGet L a m = (0, 3, a)) := ⟨by unfold rGet; rw [if_neg (by omega), if_pos h3]⟩
    have d3 : decide ((L.length : Int) - (a : Int) < (m : Int)) = true := by simpa using h3
    clear h3
    go_enter Try.func40, Try.ntmps40
    go_wp2_with fail
    go_quiet (fail)
    clear w1'
    go_wp2_with fail
    go_ret2
    rw [HN.out]
    exact ⟨rfl, HR.out.drew _, Fr.below (below_drewN (Below.refl _ _) _) _⟩
  · have HN : Aside0 (rGet L a m = (val ((L.drop a).take m), 0, a + m)) := ⟨by unfold rGet; rw [if_neg (by omega), if_neg h3]; simp⟩
    have d3 : decide ((L.length : Int) - (a : Int) < (m : Int)) = false := by simpa using h3
    have hm3 : a + m ≤ L.length := by omega
    clear h3
    go_enter Try.func40, Try.ntmps40
    go_wp2_with fail
    go_quiet (fail)
    clear w1' d3
    go_wp2_with (go_at_call 61; refine (next_any S p a m L _ (HR.out.drew _) hm3 hm).mono ?_; rintro e w2 ⟨rfl, h2, h3⟩; have H2 := Aside0.mk h2; have H3 := Aside0.mk h3; clear h2 h3)
    go_ret2
    rw [HN.out]
    exact ⟨rfl, H2.out, (Fr.below (below_drewN (Below.refl _ _) _) _).trans H3.out⟩

set_option maxHeartbeats 1000000 in
set_option maxRecDepth 100000 in
theorem RSigned_any (S : Nat → Prop) (p a : Nat) (L : List Int) (n : Int) (w : World) (hR : Rd w S p L a) :
    Calls Try.prog 41 #[.pointer (some ⟨p, 0, none⟩), .int .i64 n] w (RdPost w S p L (rSigned L a n)) := by
  have HR := Aside0.mk hR
  have hlen := hR.len
  have hal := hR.at_le
  have c1 := hR.cell1
  have c2 := hR.cell2
  have h01 := hR.bits
  clear hR
  have no : n < 1 ∨ 32 < n → Aside0 (rSigned L a n = (0, 1, a)) := fun h => ⟨by unfold rSigned; rw [if_pos h]⟩
  by_cases h1 : n < 1
  · have HN := no (.inl h1)
    have d1 : decide (n < 1) = true := by simpa using h1
    clear no
    go_enter Try.func41, Try.ntmps41
    go_wp2_with fail
    go_ret2
    rw [HN.out]
    exact ⟨rfl, HR.out, Fr.refl _ _⟩
  by_cases h2 : 32 < n
  · have HN := no (.inr h2)
    have d1 : decide (n < 1) = false := by simpa using h1
    have d2 : decide (32 < n) = true := by simpa using h2
    clear no
    go_enter Try.func41, Try.ntmps41
    go_wp2_with fail
    go_ret2
    rw [HN.out]
    exact ⟨rfl, HR.out, Fr.refl _ _⟩
  obtain ⟨m, rfl⟩ : ∃ m : Nat, n = m + 1 := ⟨n.toNat - 1, by omega⟩
  have d1 : decide ((m : Int) + 1 < 1) = false := by simp; omega
  have d2 : decide (32 < (m : Int) + 1) = false := by simp; omega
  have hm : m ≤ 31 := by omega
  have w1' : IntKind.i64.wrap ((L.length : Int) - (a : Int)) = (L.length : Int) - (a : Int) := IntWalk.i64_in _ (by omega)
  clear no h1 h2
  by_cases h3 : (L.length : Int) - a < m + 1
  · have HN : Aside0 (rSigned L a (m + 1) = (0, 3, a)) := ⟨by unfold rSigned; rw [if_neg (by omega), if_pos h3]⟩
    have d3 : decide ((L.length : Int) - (a : Int) < (m : Int) + 1) = true := by simpa using h3
    clear h3
    go_enter Try.func41, Try.ntmps41
    go_wp2_with fail
    go_quiet (fail)
    clear w1'
    go_wp2_with fail
    go_ret2
    rw [HN.out]
    exact ⟨rfl, HR.out.drew _, Fr.below (below_drewN (Below.refl _ _) _) _⟩
  · have HN : Aside0 (rSigned L a (m + 1) = (sgn (val ((L.drop a).take (m + 1))) (m + 1), 0, a + (m + 1))) := ⟨by
      unfold rSigned; rw [if_neg (by omega), if_neg h3, show ((m : Int) + 1).toNat = m + 1 by omega]⟩
    have d3 : decide ((L.length : Int) - (a : Int) < (m : Int) + 1) = false := by simpa using h3
    have hm3 : a + (m + 1) ≤ L.length := by omega
    have hb := val_bound (is01_take (is01_drop h01 a) (m + 1))
    have hb2 := (pow_le32 (m := ((L.drop a).take (m + 1)).length) (by rw [List.length_take]; omega)).2
    have hp1 := pow_le31 hm
    have hp2 := pow_le32 (m := m + 1) (by omega)
    have e1 : wrap64 (2 ^ m) = 2 ^ m := wrap64_id (by omega) (by omega)
    have e2 : wrap64 (2 ^ (m + 1)) = 2 ^ (m + 1) := wrap64_id (by omega) (by omega)
    have HNX := Aside0.mk (next_any S p a (m + 1) L)
    generalize hX : val ((L.drop a).take (m + 1)) = X at *
    clear h3
    by_cases h5 : 2 ^ m ≤ X
    · have d5 : decide (wrap64 (2 ^ m) ≤ X) = true := by rw [e1]; simpa using h5
      have HS : Aside0 (sgn X (m + 1) = wrap64 (X - wrap64 (2 ^ (m + 1)))) := ⟨by unfold sgn; rw [Nat.add_sub_cancel, if_pos h5, e2, wrap64_id (by omega) (by omega)]⟩
      clear hb hb2 hp1 hp2 e1 e2 h5 hX
      go_enter Try.func41, Try.ntmps41
      go_wp2_with fail
      go_quiet (fail)
      clear w1' d3
      go_wp2_with (go_at_call 61; refine (HNX.out _ (HR.out.drew _) hm3 (by omega)).mono ?_; rintro e w2 ⟨rfl, h2, h3⟩; have H2 := Aside0.mk h2; have H3 := Aside0.mk h3; clear h2 h3)
      go_ret2
      rw [HN.out]
      refine ⟨?_, H2.out, (Fr.below (below_drewN (Below.refl _ _) _) _).trans H3.out⟩
      rw [HS.out]
      rfl
    · have d5 : decide (wrap64 (2 ^ m) ≤ X) = false := by rw [e1]; simpa using h5
      have HS : Aside0 (sgn X (m + 1) = X) := ⟨by unfold sgn; rw [Nat.add_sub_cancel, if_neg h5]⟩
      clear hb hb2 hp1 hp2 e1 e2 h5 hX
      go_enter Try.func41, Try.ntmps41
      go_wp2_with fail
      go_quiet (fail)
      clear w1' d3
      go_wp2_with (go_at_call 61; refine (HNX.out _ (HR.out.drew _) hm3 (by omega)).mono ?_; rintro e w2 ⟨rfl, h2, h3⟩; have H2 := Aside0.mk h2; have H3 := Aside0.mk h3; clear h2 h3)
      go_ret2
      rw [HN.out]
      refine ⟨?_, H2.out, (Fr.below (below_drewN (Below.refl _ _) _) _).trans H3.out⟩
      rw [HS.out]
      rfl

/-! ### zeros ahead of a one -/
def zs : List Int → Nat
  | [] => 0
  | b :: M => if b = 0 then zs M + 1 else 0
theorem zs_step {M : List Int} : ∀ {k : Nat}, k < M.length → k ≤ zs M → M.getD k 0 = 0 → k + 1 ≤ zs M := by
  induction M with
  | nil => intro k h; simp at h
  | cons b M ih =>
    intro k h1 h2 h3
    unfold zs at h2 ⊢
    cases k with
    | zero => have : b = 0 := by simpa using h3
              rw [if_pos this]; omega
    | succ k =>
      split at h2
      · rw [if_pos ‹_›]
        have := ih (k := k) (by simpa using h1) (by omega) (by simpa using h3)
        omega
      · omega
theorem zs_one {M : List Int} : ∀ {k : Nat}, k < M.length → k ≤ zs M → M.getD k 0 ≠ 0 → zs M = k := by
  induction M with
  | nil => intro k h; simp at h
  | cons b M ih =>
    intro k h1 h2 h3
    unfold zs at h2 ⊢
    cases k with
    | zero => have : b ≠ 0 := by simpa using h3
              rw [if_neg this]
    | succ k =>
      split at h2
      · rw [if_pos ‹_›]
        have := ih (k := k) (by simpa using h1) (by omega) (by simpa using h3)
        omega
      · omega
theorem zs_le (M : List Int) : zs M ≤ M.length := by
  induction M with
  | nil => simp [zs]
  | cons b M ih => unfold zs; split <;> simp <;> omega
def rZeros (L : List Int) (a m : Nat) : Int × Int × Nat := if m < zs (L.drop a) then (0, 4, a) else if a + zs (L.drop a) < L.length then (zs (L.drop a), 0, a + zs (L.drop a) + 1) else (0, 3, a)
theorem getD_drop' (L : List Int) (a k : Nat) : (L.drop a).getD k 0 = L.getD (a + k) 0 := by
  rw [List.getD_eq_getElem?_getD, List.getD_eq_getElem?_getD, List.getElem?_drop]

set_option maxHeartbeats 1000000 in
set_option maxRecDepth 100000 in
theorem zeros_any (S : Nat → Prop) (p a m : Nat) (L : List Int) (w : World) (hR : Rd w S p L a) (hm : m ≤ 1000) :
    Calls Try.prog 69 #[.pointer (some ⟨p, 0, none⟩), .int .i64 m] w (RdPost w S p L (rZeros L a m)) := by
  have HR := Aside0.mk hR
  have hlen := hR.len
  have hal := hR.at_le
  have c1 := hR.cell1
  have c2 := hR.cell2
  have fz := hR.fz 2
  have h01 := hR.bits
  have hzl := zs_le (L.drop a)
  rw [List.length_drop] at hzl
  obtain ⟨A, nb, cb, B, c0, hC, h8, hl, hnb, hbit⟩ := hR.bytes
  have HC := Aside0.mk hC
  have H8 := Aside0.mk h8
  have HBit := Aside0.mk hbit
  clear hR hC h8 hbit
  go_enter Try.func69, Try.ntmps69
  go_wp2_with fail
  go_loop [6, 7] (fun n i => ∃ k q : Nat, n = .int .i64 (k : Int) ∧ i = .int .i64 (q : Int) ∧ k ≤ m ∧ q ≤ L.length ∧ Aside0 (q = a + k) ∧ Aside0 (k ≤ zs (L.drop a))) (fun _ i => L.length - (intOf i).toNat)
  case atStart => exact ⟨0, a, rfl, rfl, Nat.zero_le _, hal, ⟨rfl⟩, ⟨Nat.zero_le _⟩⟩
  case round =>
    obtain ⟨k, q, rfl, rfl, hk, hq, HQ, HZ⟩ := hrel
    by_cases hlt : q < L.length
    · have hgd : L.getD q 0 = (L.drop a).getD k 0 := by rw [getD_drop', HQ.out]
      have hbk := HBit.out q hlt
      have hkl : k < (L.drop a).length := by rw [List.length_drop]; have := HQ.out; omega
      by_cases hb : L.getD q 0 = 0
      · have HZ1 := Aside0.mk (zs_step hkl HZ.out (by rw [← hgd]; exact hb))
        have hy : bitAt B q = 0 := hbk.trans hb
        have q1 : (bitAt B q == 1) = false := by rw [hy]; rfl
        clear hgd hbk hkl hb hy
        by_cases hkm : m < k + 1
        · have HN : Aside0 (rZeros L a m = (0, 4, a)) := ⟨by unfold rZeros; rw [if_pos (by have := HZ1.out; omega)]⟩
          have d1 : decide ((m : Int) < (k : Int) + 1) = true := by simp; omega
          go_wp2_with (go_at_call 72; refine (bit_any A nb cb B q _ HC.out (by omega) H8.out (by omega)).mono ?_; rintro e w1 ⟨rfl, rfl⟩)
          go_ret2
          rw [HN.out]
          exact ⟨rfl, HR.out, Fr.refl _ _⟩
        · have d1 : decide ((m : Int) < (k : Int) + 1) = false := by simp; omega
          go_wp2_with (go_at_call 72; refine (bit_any A nb cb B q _ HC.out (by omega) H8.out (by omega)).mono ?_; rintro e w1 ⟨rfl, rfl⟩)
          go_round
          case rel => exact ⟨k + 1, q + 1, by go_num, by go_num, by omega, by omega, ⟨by have := HQ.out; omega⟩, HZ1⟩
          case measure => simp [intOf]; omega
      · have hz := zs_one hkl HZ.out (by rw [← hgd]; exact hb)
        have HN : Aside0 (rZeros L a m = ((k : Int), 0, q + 1)) := ⟨by unfold rZeros; rw [hz, if_neg (by omega), if_pos (by rw [← HQ.out]; exact hlt), HQ.out]⟩
        have q1 : (bitAt B q == 1) = true := by
          rcases bitAt_01 B q with h | h
          · rw [hbk] at h; exact absurd h hb
          · rw [h]; rfl
        clear hgd hbk hkl hb hz
        go_wp2_with (go_at_call 72; refine (bit_any A nb cb B q _ HC.out (by omega) H8.out (by omega)).mono ?_; rintro e w1 ⟨rfl, rfl⟩)
        go_ret2
        rw [HN.out]
        refine ⟨rfl, ?_, Rd.fr_seek _ _⟩
        have h := HR.out.seek (q + 1) (by omega)
        rwa [Int.natCast_add] at h
    · obtain rfl : q = L.length := by omega
      have HN : Aside0 (rZeros L a m = (0, 3, a)) := ⟨by
        have h1 := HQ.out
        have h2 := HZ.out
        unfold rZeros
        rw [if_neg (by omega), if_neg (by omega)]⟩
      go_wp2_with fail
      go_ret2
      rw [HN.out]
      exact ⟨rfl, HR.out, Fr.refl _ _⟩
end Go.Proofs.Ytmjekkkpbcehoaa.P
