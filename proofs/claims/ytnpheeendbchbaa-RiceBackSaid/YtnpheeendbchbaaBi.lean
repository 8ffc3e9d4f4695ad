/- The contracts of Writer.Align, Append, Len, New. -/
import Derived.Test.YtnpheeendbchbaaBb
namespace Go.Proofs.Ytnpheeendbchbaa.P
open Go.RowKit Go.Shelf Go.Proofs.Ytnpheeendbchbaa.Bits Go.Proofs.YtnpheeendbchbaaW.PrintWords Go.Proofs.YtnpheeendbchbaaW.PrintLast Go.Proofs.YtnpheeendbchbaaW.PrintMore
set_option linter.unusedVariables false
set_option linter.unusedSimpArgs false
attribute [local go_sem ↓] Go.wp_at_zero Go.wp_at_succ

theorem C_fr {k : IntKind} {w W : World} {T : Nat → Prop} {A : Option Addr} {n : Nat} {xs : List Int} (h : Kd.C (Kd.int k) w A n xs) (hf : Fr T w W) (hd : ∀ ad, A = some ad → 0 < n → ¬ T ad.block) : Kd.C (Kd.int k) W A n xs := by
  have h' := Kd.reads_of_C (enc := Value.int k) (d := (0 : Int)) (h1 := fun _ => rfl) h
  refine Kd.C_of_reads (enc := Value.int k) (d := (0 : Int)) (h1 := fun _ => rfl) ⟨h'.1, h'.2.1, fun hn => ?_⟩
  obtain ⟨ad, e, hc⟩ := h'.2.2 hn
  refine ⟨ad, e, fun j hj => ?_⟩
  have hcj := hc j hj
  have hlt := World.block_lt_of_cell? w _ hcj
  exact (World.cell?_of_block (hf.block _ hlt (by rw [add_block]; exact hd ad e hn))).trans hcj

/-- How many bits a writer has. -/
def bitsIn (w : World) (p : Nat) : Nat := (intOf ((w.cell? ⟨p, 1, none⟩).getD undef)).toNat
theorem Wr.cell1 {w : World} {S : Nat → Prop} {p : Nat} {L : List Int} (h : Wr w S p L) : w.cell? ⟨p, 1, none⟩ = some (.int .i64 (L.length : Int)) := by
  obtain ⟨v, hb, _⟩ := h.blk
  rw [cell_of_row _ _ _ _ _ _ hb]; rfl
theorem WrTo.cell1 {w W : World} {S : Nat → Prop} {p : Nat} {L : List Int} (h : WrTo w S p L W) : W.cell? ⟨p, 1, none⟩ = some (.int .i64 (L.length : Int)) := by
  obtain ⟨S1, h1, _⟩ := h
  exact h1.cell1
theorem bitsIn_of {w : World} {p n : Nat} (h : w.cell? ⟨p, 1, none⟩ = some (.int .i64 (n : Int))) : bitsIn w p = n := by
  unfold bitsIn; rw [h]; simp [intOf]

/-- How many bits are added. -/
def padN (n : Nat) : Nat := (8 - n % 8) % 8
def wAlign (L : List Int) (b : Int) : Int × List Int := if b ≠ 0 ∧ b ≠ 1 then (1, L) else (0, L ++ List.replicate (padN L.length) b)

def wAppend (L B : List Int) (n : Int) : Int × List Int := if n < 0 ∨ 8 * (B.length : Int) < n then (1, L) else wput L (ofB B n.toNat)

set_option maxHeartbeats 1000000 in
set_option maxRecDepth 100000 in
theorem Append_any (S : Nat → Prop) (p : Nat) (L : List Int) (A : Option Addr) (c : Nat) (B : List Int) (n : Int) (w : World) (hW : Wr w S p L) (hL : L.length ≤ 1048576) (hC : Kd.C (Kd.int .u8) w A B.length B) (hB : is8 B) (hBl : B.length ≤ 1000000000) (hA : ∀ ad, A = some ad → 0 < B.length → ¬ (ad.block = p ∨ S ad.block)) :
    Calls Try.prog 33 #[.pointer (some ⟨p, 0, none⟩), .slice A B.length c, .int .i64 n] w fun e w' => e = .returned (.int .i64 (wAppend L B n).1) ∧ WrTo w S p (wAppend L B n).2 w' := by
  have HW := Aside0.mk hW
  have HC := Aside0.mk hC
  have H8 := Aside0.mk hB
  have HA := Aside0.mk hA
  have hp := hW.p_lt
  have c1 := hW.cell1
  clear hW hC hB hA
  have no : n < 0 ∨ 8 * (B.length : Int) < n → Aside0 (wAppend L B n = (1, L)) := fun h => ⟨by unfold wAppend; rw [if_pos h]⟩
  by_cases h1 : n < 0
  · have HN := no (.inl h1)
    have d1 : decide (n < 0) = true := by simpa using h1
    clear no
    go_enter Try.func33, Try.ntmps33
    go_wp2_with fail
    go_ret
    rw [HN.out]
    exact ⟨rfl, HW.out.wrTo (Below.refl _ _)⟩
  obtain ⟨m, rfl⟩ : ∃ m : Nat, n = m := ⟨n.toNat, by omega⟩
  have d1 : decide ((m : Int) < 0) = false := by simp
  by_cases h2 : 8 * (B.length : Int) < m
  · have HN := no (.inr h2)
    have d2 : decide (8 * (B.length : Int) < (m : Int)) = true := by simpa using h2
    clear no
    go_enter Try.func33, Try.ntmps33
    go_wp2_with fail
    go_ret
    rw [HN.out]
    exact ⟨rfl, HW.out.wrTo (Below.refl _ _)⟩
  have d2 : decide (8 * (B.length : Int) < (m : Int)) = false := by simpa using h2
  have HN : Aside0 (wAppend L B m = wput L (ofB B m)) := ⟨by unfold wAppend; rw [if_neg (by omega)]; simp⟩
  clear no
  by_cases ho : 1048576 < L.length + m
  · have q1 : decide ((1048576 : Int) < (L.length : Int) + (m : Int)) = true := by simp; omega
    go_enter Try.func33, Try.ntmps33
    go_wp2_with fail
    go_ret
    rw [HN.out]
    unfold wput putE putL
    rw [ofB_length, if_pos ho, if_pos ho]
    exact ⟨rfl, HW.out.wrTo (Below.refl _ _)⟩
  · have q1 : decide ((1048576 : Int) < (L.length : Int) + (m : Int)) = false := by simp; omega
    go_enter Try.func33, Try.ntmps33
    go_wp2_with fail
    go_loopw [31] (fun i wr => ∃ k : Nat, k ≤ m ∧ i = .int .i64 (k : Int) ∧ Aside0 (WrTo w S p (L ++ ofB B k) wr)) (fun i _ => m - (intOf i).toNat)
    case atStart => exact ⟨0, Nat.zero_le _, rfl, ⟨by show WrTo w S p (L ++ []) _; rw [List.append_nil]; exact HW.out.wrTo (Below.refl _ _)⟩⟩
    case round =>
      obtain ⟨k, hk, rfl, HT⟩ := hrel
      clear c1 q1 d1 d2
      by_cases hlt : k < m
      · obtain ⟨S1, h1, hs1, f1⟩ := HT.out
        have hCr := C_fr HC.out f1 HA.out
        have H1 := Aside0.mk h1
        have HS1 := Aside0.mk hs1
        have F1 := Aside0.mk f1
        have HCr := Aside0.mk hCr
        clear h1 hs1 f1 hCr
        go_wp2_with (first
          | (go_at_call 67; refine (bit_any A B.length c B k wr HCr.out (by omega) H8.out (by omega)).mono ?_; rintro e w1 ⟨rfl, rfl⟩)
          | (go_at_call 66; (refine (add_any S1 p (L ++ ofB B k) (bitAt B k) _ H1.out (bitAt_01 B k) ?gl).mono ?_; (case gl => (rw [List.length_append, ofB_length]; omega)); rintro e w2 ⟨rfl, h2⟩; have H2 := Aside0.mk h2; clear h2)))
        go_roundw
        case rel =>
          refine ⟨k + 1, by omega, by go_num, ⟨?_⟩⟩
          have h2 := H2.out
          rw [List.append_assoc, ← ofB_succ] at h2
          exact WrTo.glue HS1.out F1.out h2
        case measure => simp [intOf]; omega
      · obtain rfl : k = m := by omega
        go_wp2_with fail
        go_ret
        rw [HN.out]
        unfold wput putE putL
        rw [ofB_length, if_neg ho, if_neg ho]
        exact ⟨rfl, HT.out⟩
end Go.Proofs.Ytnpheeendbchbaa.P
