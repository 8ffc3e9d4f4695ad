/- The contracts of New, Writer.Len, Reader.At, Left, Seek, Align, Unary, Gamma. -/
import Derived.Test.YtmjekkkpbcehoaaBk
namespace Go.Proofs.Ytmjekkkpbcehoaa.P
open Go.RowKit Go.Shelf Go.Proofs.Ytmjekkkpbcehoaa.Bits Go.Proofs.YtmjekkkpbcehoaaW.PrintWords Go.Proofs.YtmjekkkpbcehoaaW.PrintLast Go.Proofs.YtmjekkkpbcehoaaW.PrintMore
set_option linter.unusedVariables false
set_option linter.unusedSimpArgs false
attribute [local go_sem ↓] Go.wp_at_zero Go.wp_at_succ
attribute [local go_sem] max2_int min2_int max_two min_two

abbrev newWr : Obj := .cells #[.slice none 0 0, .int .i64 0] 36 (0, 0)
theorem New_any (w : World) : Calls Try.prog 19 #[] w fun e w' => e = .returned (.pointer (some ⟨w.heap.size, 0, none⟩)) ∧ w' = w.alloc newWr := by
  go_enter Try.func19, Try.ntmps19
  go_wp2
  go_ret
  simp
theorem Wr.new (w : World) : Wr (w.alloc newWr) (fun _ => False) w.heap.size [] :=
  ⟨⟨.slice none 0 0, World.alloc_heap_new w _, Kd.R_nil _ _ _ _ _⟩, is01_nil, fun _ h => h.elim⟩

theorem Len_any (S : Nat → Prop) (p : Nat) (L : List Int) (w : World) (hW : Wr w S p L) : Calls Try.prog 22 #[.pointer (some ⟨p, 0, none⟩)] w fun e w' => e = .returned (.int .i64 (L.length : Int)) ∧ w' = w := by
  have c1 := hW.cell1
  clear hW
  go_enter Try.func22, Try.ntmps22
  go_wp2_with fail
  go_ret
  exact ⟨rfl, rfl⟩
theorem At_any (S : Nat → Prop) (p a : Nat) (L : List Int) (w : World) (hR : Rd w S p L a) : Calls Try.prog 36 #[.pointer (some ⟨p, 0, none⟩)] w fun e w' => e = .returned (.int .i64 (a : Int)) ∧ w' = w := by
  have c2 := hR.cell2
  clear hR
  go_enter Try.func36, Try.ntmps36
  go_wp2_with fail
  go_ret
  exact ⟨rfl, rfl⟩
theorem Left_any (S : Nat → Prop) (p a : Nat) (L : List Int) (w : World) (hR : Rd w S p L a) : Calls Try.prog 38 #[.pointer (some ⟨p, 0, none⟩)] w fun e w' => e = .returned (.int .i64 ((L.length : Int) - a)) ∧ ∃ n, w' = w.drewN n := by
  have c1 := hR.cell1
  have c2 := hR.cell2
  have hal := hR.at_le
  have hlen := hR.len
  have w1' : IntKind.i64.wrap ((L.length : Int) - (a : Int)) = (L.length : Int) - (a : Int) := IntWalk.i64_in _ (by omega)
  clear hR
  go_enter Try.func38, Try.ntmps38
  go_wp2_with fail
  go_quiet (fail)
  clear w1'
  go_wp2_with fail
  go_ret
  exact ⟨rfl, _, rfl⟩

def rSeek (L : List Int) (a : Nat) (n : Int) : Int × Nat := if n < 0 ∨ (L.length : Int) < n then (6, a) else (0, n.toNat)
set_option maxHeartbeats 1000000 in
theorem Seek_any (S : Nat → Prop) (p a : Nat) (L : List Int) (n : Int) (w : World) (hR : Rd w S p L a) :
    Calls Try.prog 29 #[.pointer (some ⟨p, 0, none⟩), .int .i64 n] w fun e w' => e = .returned (.int .i64 (rSeek L a n).1) ∧ Rd w' S p L (rSeek L a n).2 ∧ Fr (fun k => k = p) w w' := by
  have c1 := hR.cell1
  have c2 := hR.cell2
  have fz := hR.fz 2
  have HR := Aside0.mk hR
  clear hR
  by_cases h1 : n < 0
  · have HN : Aside0 (rSeek L a n = (6, a)) := ⟨by unfold rSeek; rw [if_pos (.inl h1)]⟩
    have d1 : decide (n < 0) = true := by simpa using h1
    go_enter Try.func29, Try.ntmps29
    go_wp2_with fail
    go_ret
    rw [HN.out]
    exact ⟨rfl, HR.out, Fr.refl _ _⟩
  obtain ⟨m, rfl⟩ : ∃ m : Nat, n = m := ⟨n.toNat, by omega⟩
  have d1 : decide ((m : Int) < 0) = false := by simp
  by_cases h2 : L.length < m
  · have HN : Aside0 (rSeek L a m = (6, a)) := ⟨by unfold rSeek; rw [if_pos (.inr (by omega))]⟩
    have d2 : decide (L.length < m) = true := by simpa using h2
    clear h1
    go_enter Try.func29, Try.ntmps29
    go_wp2_with fail
    go_ret
    rw [HN.out]
    exact ⟨rfl, HR.out, Fr.refl _ _⟩
  · have HN : Aside0 (rSeek L a m = (0, m)) := ⟨by unfold rSeek; rw [if_neg (by omega)]; simp⟩
    have d2 : decide (L.length < m) = false := by simpa using h2
    have hm : m ≤ L.length := by omega
    clear h1
    go_enter Try.func29, Try.ntmps29
    go_wp2_with fail
    go_ret
    rw [HN.out]
    exact ⟨rfl, HR.out.seek m hm, Rd.fr_seek _ _⟩

def rUnary (L : List Int) (a : Nat) (n : Int) : Int × Int × Nat := if n < 0 ∨ 1000 < n then (0, 1, a) else rZeros L a n.toNat
set_option maxHeartbeats 1000000 in
theorem RUnary_any (S : Nat → Prop) (p a : Nat) (L : List Int) (n : Int) (w : World) (hR : Rd w S p L a) :
    Calls Try.prog 42 #[.pointer (some ⟨p, 0, none⟩), .int .i64 n] w (RdPost w S p L (rUnary L a n)) := by
  have HR := Aside0.mk hR
  clear hR
  by_cases h1 : n < 0
  · have HN : Aside0 (rUnary L a n = (0, 1, a)) := ⟨by unfold rUnary; rw [if_pos (.inl h1)]⟩
    have d1 : decide (n < 0) = true := by simpa using h1
    go_enter Try.func42, Try.ntmps42
    go_wp2_with fail
    go_ret2
    rw [HN.out]
    exact ⟨rfl, HR.out, Fr.refl _ _⟩
  obtain ⟨m, rfl⟩ : ∃ m : Nat, n = m := ⟨n.toNat, by omega⟩
  have d1 : decide ((m : Int) < 0) = false := by simp
  by_cases h2 : 1000 < (m : Int)
  · have HN : Aside0 (rUnary L a m = (0, 1, a)) := ⟨by unfold rUnary; rw [if_pos (.inr h2)]⟩
    have d2 : decide (1000 < (m : Int)) = true := by simpa using h2
    clear h1
    go_enter Try.func42, Try.ntmps42
    go_wp2_with fail
    go_ret2
    rw [HN.out]
    exact ⟨rfl, HR.out, Fr.refl _ _⟩
  · have HN : Aside0 (rUnary L a m = rZeros L a m) := ⟨by unfold rUnary; rw [if_neg (by omega)]; simp⟩
    have d2 : decide (1000 < (m : Int)) = false := by simpa using h2
    have hm : m ≤ 1000 := by omega
    clear h1 h2
    go_enter Try.func42, Try.ntmps42
    go_wp2_with (go_at_call 69; refine (zeros_any S p a m L _ HR.out hm).mono ?_; rintro e w2 ⟨rfl, h2, h3⟩; have H2 := Aside0.mk h2; have H3 := Aside0.mk h3; clear h2 h3)
    go_ret2
    rw [HN.out]
    exact ⟨rfl, H2.out, H3.out⟩

def rGamma (L : List Int) (a : Nat) : Int × Int × Nat := if (rZeros L a 20).2.1 ≠ 0 then (0, (rZeros L a 20).2.1, a) else if (L.length : Int) - ((rZeros L a 20).2.2 : Int) < (rZeros L a 20).1 then (0, 3, a) else (2 ^ (rZeros L a 20).1.toNat + val ((L.drop (rZeros L a 20).2.2).take (rZeros L a 20).1.toNat), 0, (rZeros L a 20).2.2 + (rZeros L a 20).1.toNat)
theorem or_high (k : Nat) (x : Int) (hk : k ≤ 40) (h0 : 0 ≤ x) (h1 : x < 2 ^ k) : Go.bits BinOp.or IntKind.i64 (2 ^ k) x = 2 ^ k + x := by
  obtain ⟨X, rfl⟩ : ∃ X : Nat, x = X := ⟨x.toNat, by omega⟩
  have e : ((2 ^ k : Nat) : Int) = (2 : Int) ^ k := Int.natCast_pow 2 k
  have hX : X < 2 ^ k := by omega
  have hp : (2 : Nat) ^ k ≤ 2 ^ 40 := Nat.pow_le_pow_right (by omega) hk
  rw [← e, or_i64 _ _ (by omega) (by omega)]
  have h := Nat.two_pow_add_eq_or_of_lt hX 1
  rw [Nat.mul_one] at h
  rw [← h]
  norm_cast
theorem rZeros_cases (L : List Int) (a m : Nat) : (rZeros L a m = (0, 4, a) ∨ rZeros L a m = (0, 3, a)) ∨ ∃ z : Nat, z ≤ m ∧ a + z < L.length ∧ rZeros L a m = ((z : Int), 0, a + z + 1) := by
  unfold rZeros
  split
  · exact .inl (.inl rfl)
  · split
    · exact .inr ⟨_, by omega, ‹_›, rfl⟩
    · exact .inl (.inr rfl)

set_option maxHeartbeats 1000000 in
set_option maxRecDepth 100000 in
theorem RGamma_any (S : Nat → Prop) (p a : Nat) (L : List Int) (w : World) (hR : Rd w S p L a) :
    Calls Try.prog 43 #[.pointer (some ⟨p, 0, none⟩)] w (RdPost w S p L (rGamma L a)) := by
  have HR := Aside0.mk hR
  have hlen := hR.len
  have hal := hR.at_le
  have h01 := hR.bits
  have c2 := hR.cell2
  clear hR
  have HZ := Aside0.mk (fun w hR => zeros_any S p a 20 L w hR (by omega))
  rcases rZeros_cases L a 20 with (hz | hz) | ⟨z, hzm, hzl, hz⟩
  · rw [hz] at HZ
    have HN : Aside0 (rGamma L a = (0, 4, a)) := ⟨by unfold rGamma; rw [hz]; rfl⟩
    clear hz
    go_enter Try.func43, Try.ntmps43
    go_wp2_with (go_at_call 69; refine (HZ.out _ HR.out).mono ?_; rintro e w2 ⟨rfl, h2, h3⟩; have H2 := Aside0.mk h2; have H3 := Aside0.mk h3; clear h2 h3)
    go_ret2
    rw [HN.out]
    exact ⟨rfl, H2.out, H3.out⟩
  · rw [hz] at HZ
    have HN : Aside0 (rGamma L a = (0, 3, a)) := ⟨by unfold rGamma; rw [hz]; rfl⟩
    clear hz
    go_enter Try.func43, Try.ntmps43
    go_wp2_with (go_at_call 69; refine (HZ.out _ HR.out).mono ?_; rintro e w2 ⟨rfl, h2, h3⟩; have H2 := Aside0.mk h2; have H3 := Aside0.mk h3; clear h2 h3)
    go_ret2
    rw [HN.out]
    exact ⟨rfl, H2.out, H3.out⟩
  · rw [hz] at HZ
    obtain ⟨q, hq⟩ : ∃ q, q = a + z + 1 := ⟨_, rfl⟩
    rw [← hq] at HZ hz
    have HQ := Aside0.mk hq
    have hql : q ≤ L.length := by omega
    have w1' : IntKind.i64.wrap ((L.length : Int) - (q : Int)) = (L.length : Int) - (q : Int) := IntWalk.i64_in _ (by omega)
    by_cases h3 : (L.length : Int) - q < z
    · have HN : Aside0 (rGamma L a = (0, 3, a)) := ⟨by unfold rGamma; rw [hz, if_neg (by simp), if_pos h3]⟩
      have d3 : decide ((L.length : Int) - (q : Int) < (z : Int)) = true := by simpa using h3
      clear hz hq h3
      go_enter Try.func43, Try.ntmps43
      go_wp2_with (go_at_call 69; refine (HZ.out _ HR.out).mono ?_; rintro e w2 ⟨rfl, h2, h3⟩; have e1 := h2.cell1; have e2 := h2.cell2; have fz := h2.fz 2; have H2 := Aside0.mk h2; have H3 := Aside0.mk h3; clear h2 h3)
      go_quiet (fail)
      clear w1'
      go_wp2_with fail
      go_ret2
      rw [HN.out]
      refine ⟨rfl, (H2.out.drew _).seek a hal, ?_⟩
      exact (H3.out.trans (Fr.below (below_drewN (Below.refl _ _) _) _)).setCell (p := ⟨p, 2, none⟩) (fun _ => rfl) _
    · have hb := val_bound (is01_take (is01_drop h01 q) z)
      have hb2 := pow_le_of ((L.drop q).take z).length z (by rw [List.length_take]; omega)
      have hp := pow_le32 (m := z) (by omega)
      have HO := Aside0.mk (or_high z (val ((L.drop q).take z)) (by omega) hb.1 (by omega))
      have HN : Aside0 (rGamma L a = (2 ^ z + val ((L.drop q).take z), 0, q + z)) := ⟨by unfold rGamma; rw [hz, if_neg (by simp), if_neg h3]; simp⟩
      have d3 : decide ((L.length : Int) - (q : Int) < (z : Int)) = false := by simpa using h3
      have hqz : q + z ≤ L.length := by omega
      have HNX := Aside0.mk (next_any S p q z L)
      generalize hX : val ((L.drop q).take z) = X at *
      have w2' : IntKind.i64.wrap (2 ^ z) = 2 ^ z := IntWalk.i64_in _ (by omega)
      have HP := Aside0.mk hp
      clear hz hq h3 hb hb2 hp hX
      go_enter Try.func43, Try.ntmps43
      go_wp2_with (go_at_call 69; refine (HZ.out _ HR.out).mono ?_; rintro e w2 ⟨rfl, h2, h3⟩; have e1 := h2.cell1; have e2 := h2.cell2; have fz := h2.fz 2; have H2 := Aside0.mk h2; have H3 := Aside0.mk h3; clear h2 h3)
      go_quiet (fail)
      clear w1'
      go_wp2_with fail
      have HW2 := Aside0.mk (H2.out.drew nq)
      have HF2 := Aside0.mk (H3.out.trans (Fr.below (below_drewN (Below.refl _ _) nq) _))
      generalize w2.drewN nq = W2 at *
      have HW3 := Aside0.mk w2'
      clear w2'
      go_region_with (go_at_call 61; refine (HNX.out _ (HW2.out.below (by (repeat (first | with_reducible exact Below.refl _ _ | (refine Aside0.out (p := Below _ _ _) ?_; assumption) | refine below_drew ?_ | refine below_alloc ?_ _ | (refine below_step ?_ (Aside0.out (p := Below _ _ _) (by assumption))))))) hqz (by omega)).mono ?_; rintro e w3 ⟨rfl, h4, h5⟩; have H4 := Aside0.mk h4; have H5 := Aside0.mk h5; clear h4 h5)
      go_wp2_with fail
      go_ret2
      rw [HN.out]
      refine ⟨?_, H4.out, HF2.out.trans ((Fr.below (by (repeat (first | with_reducible exact Below.refl _ _ | (refine Aside0.out (p := Below _ _ _) ?_; assumption) | refine below_drew ?_ | refine below_alloc ?_ _ | (refine below_step ?_ (Aside0.out (p := Below _ _ _) (by assumption)))))) _).trans H5.out)⟩
      show Ending.returned (.tuple #[.int .i64 (Go.bits BinOp.or IntKind.i64 (IntKind.i64.wrap (2 ^ z)) X), .int .i64 0]) = _
      rw [HW3.out, HO.out]
end Go.Proofs.Ytmjekkkpbcehoaa.P
