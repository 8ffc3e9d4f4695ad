/- The sum of 32 bits: the program's and the reference's. -/
import Derived.Test.YtmjekkkpbcehoaaBp
namespace Go.Proofs.Ytmjekkkpbcehoaa.P
open Go.RowKit Go.Shelf Go.Proofs.Ytmjekkkpbcehoaa.Bits Go.Proofs.YtmjekkkpbcehoaaW.PrintWords Go.Proofs.YtmjekkkpbcehoaaW.PrintLast Go.Proofs.YtmjekkkpbcehoaaW.PrintMore
set_option linter.unusedVariables false
set_option linter.unusedSimpArgs false
attribute [local go_sem ↓] Go.wp_at_zero Go.wp_at_succ

def p32 (r : Nat) : Nat := if r % 2 = 1 then (r / 2) ^^^ 3988292384 else r / 2
def s32 (r b : Nat) : Nat := if r % 2 = b then r / 2 else (r / 2) ^^^ 3988292384
def it32 : Nat → Nat → Nat
  | 0, r => r
  | k + 1, r => p32 (it32 k r)
def sr32 (x : Nat) : Nat → Nat → Nat
  | 0, r => r
  | k + 1, r => s32 (sr32 x k r) (x / 2 ^ k % 2)
/-- The sum, a byte on. -/
def byte32 (r : Nat) (x : Int) : Nat := it32 8 (r ^^^ x.toNat)
def crc32 (B : List Int) : Nat := (B.foldl byte32 4294967295) ^^^ 4294967295
theorem xor_half (a b : Nat) : (a ^^^ b) / 2 = (a / 2) ^^^ (b / 2) := by
  have := Nat.shiftRight_xor_distrib (a := a) (b := b) (i := 1)
  simpa [Nat.shiftRight_eq_div_pow] using this
theorem xor_odd (a b : Nat) : ((a ^^^ b) % 2 = 1) ↔ ¬ (a % 2 = b % 2) := by
  rw [Nat.xor_mod_two_eq_one]
  omega
theorem p32_xor (s y : Nat) : p32 (s ^^^ y) = s32 s (y % 2) ^^^ (y / 2) := by
  unfold p32 s32
  by_cases h : s % 2 = y % 2
  · rw [if_neg (by rw [xor_odd]; simpa using h), if_pos h, xor_half]
  · rw [if_pos (by rw [xor_odd]; exact h), if_neg h, xor_half, Nat.xor_assoc, Nat.xor_assoc, Nat.xor_comm (y / 2)]
theorem it32_sr32 (r x : Nat) : ∀ k, it32 k (r ^^^ x) = sr32 x k r ^^^ (x / 2 ^ k)
  | 0 => by simp [it32, sr32]
  | k + 1 => by
    rw [it32, it32_sr32 r x k, p32_xor, sr32, Nat.div_div_eq_div_mul, Nat.pow_succ]
theorem it32_eight (r x : Nat) (h : x < 256) : it32 8 (r ^^^ x) = sr32 x 8 r := by
  rw [it32_sr32, show x / 2 ^ 8 = 0 by omega, Nat.xor_zero]
theorem p32_lt (r : Nat) (h : r < 4294967296) : p32 r < 4294967296 := by
  unfold p32
  split
  · have : (r / 2) ^^^ 3988292384 < 2 ^ 32 := Nat.xor_lt_two_pow (by omega) (by omega)
    omega
  · omega
theorem s32_lt (r b : Nat) (h : r < 4294967296) : s32 r b < 4294967296 := by
  unfold s32
  split
  · omega
  · have : (r / 2) ^^^ 3988292384 < 2 ^ 32 := Nat.xor_lt_two_pow (by omega) (by omega)
    omega
theorem it32_lt (r : Nat) (h : r < 4294967296) : ∀ k, it32 k r < 4294967296
  | 0 => h
  | k + 1 => p32_lt _ (it32_lt r h k)
theorem sr32_lt (x r : Nat) (h : r < 4294967296) : ∀ k, sr32 x k r < 4294967296
  | 0 => h
  | k + 1 => s32_lt _ _ (sr32_lt x r h k)
theorem xor_lt32 (r x : Nat) (h : r < 4294967296) (hx : x < 4294967296) : r ^^^ x < 4294967296 := by
  have : r ^^^ x < 2 ^ 32 := Nat.xor_lt_two_pow (by omega) (by omega)
  omega
theorem byte32_lt (r : Nat) (x : Int) (h : r < 4294967296) (hx : x < 256) : byte32 r x < 4294967296 := it32_lt _ (xor_lt32 _ _ h (by omega)) 8

set_option maxHeartbeats 1000000 in
set_option maxRecDepth 100000 in
theorem Crc32_any (A : Option Addr) (nb c : Nat) (B : List Int) (w : World) (hC : Kd.C (Kd.int .u8) w A nb B) (h8 : is8 B) (hnb : nb ≤ 1000000000) :
    Calls Try.prog 14 #[.slice A nb c] w fun e w' => e = .returned (.int .i64 (crc32 B : Nat)) ∧ w' = w := by
  have HC := Aside0.mk hC
  have H8 := Aside0.mk h8
  have HL := Aside0.mk (C_len8 hC)
  clear hC h8
  go_enter Try.func14, Try.ntmps14
  go_wp2_with fail
  go_loop [3, 9] (fun r i => ∃ k x : Nat, r = .int .i64 (x : Int) ∧ i = .int .i64 (k : Int) ∧ k ≤ nb ∧ x < 4294967296 ∧ Aside0 (x = (B.take k).foldl byte32 4294967295)) (fun _ i => nb - (intOf i).toNat)
  case atStart => exact ⟨0, 4294967295, rfl, rfl, Nat.zero_le _, by omega, ⟨rfl⟩⟩
  case round =>
    obtain ⟨k, r, rfl, rfl, hk, hr, HX⟩ := hrel
    by_cases hlt : k < nb
    · obtain ⟨ad, e, hx⟩ := at8 HC.out k hlt
      subst e
      have hx8 := getD8 H8.out k
      have hkl : k < B.length := by rw [HL.out]; exact hlt
      have hT : B.take (k + 1) = B.take k ++ [B.getD k 0] := by
        rw [List.take_succ_eq_append_getElem hkl, List.getD_eq_getElem?_getD, List.getElem?_eq_getElem hkl]; rfl
      have HN : Aside0 (byte32 r (B.getD k 0) = (B.take (k + 1)).foldl byte32 4294967295) := ⟨by rw [hT, List.foldl_append, ← HX.out]; rfl⟩
      generalize B.getD k 0 = x at *
      obtain ⟨x, rfl⟩ : ∃ y : Nat, x = y := ⟨x.toNat, by omega⟩
      have hxl : x < 256 := by omega
      have w1' : wrap64 (x : Int) = (x : Int) := wrap64_id (by omega) (by omega)
      have w2' : IntKind.i64.wrap (x : Int) = (x : Int) := IntWalk.i64_in _ (by omega)
      have e1 := xor_i64 r x (by omega) (by omega)
      have hrx := xor_lt32 r x hr (by omega)
      have HB32 : Aside0 (byte32 r (x : Int) = it32 8 (r ^^^ x)) := ⟨by unfold byte32; rw [Int.toNat_natCast]⟩
      generalize r ^^^ x = r0 at *
      clear hT hkl
      go_wp2_with fail
      clear e1 w1' w2'
      go_loop [3, 17] (fun u i => ∃ j y : Nat, u = .int .i64 (y : Int) ∧ i = .int .i64 (j : Int) ∧ j ≤ 8 ∧ y < 4294967296 ∧ Aside0 (y = it32 j r0)) (fun _ i => 8 - (intOf i).toNat)
      case atStart => exact ⟨0, r0, rfl, rfl, Nat.zero_le _, hrx, ⟨rfl⟩⟩
      case round =>
        obtain ⟨j, y, rfl, rfl, hj, hy, HY⟩ := hrel
        by_cases hjl : j < 8
        · have HN2 : Aside0 (p32 y = it32 (j + 1) r0) := ⟨by rw [HY.out]; rfl⟩
          have hpl := p32_lt y hy
          have e2 := and1_i64 (y : Int) (by omega)
          by_cases hodd : y % 2 = 1
          · have e2' : Go.bits BinOp.and IntKind.i64 (y : Int) 1 = 1 := by rw [e2]; omega
            have e3 := xor_i64 (y / 2) 3988292384 (by omega) (by omega)
            rw [show ((3988292384 : Nat) : Int) = 3988292384 from rfl, show ((y / 2 : Nat) : Int) = (y : Int) / 2 by omega] at e3
            have HP : Aside0 ((p32 y : Int) = ((y / 2 ^^^ 3988292384 : Nat) : Int)) := ⟨by unfold p32; rw [if_pos hodd]⟩
            generalize ((y / 2 ^^^ 3988292384 : Nat) : Int) = Z at *
            clear e2 hodd
            go_wp2_with fail
            go_round
            case rel => exact ⟨j + 1, p32 y, by rw [HP.out], by go_num, by omega, hpl, HN2⟩
            case measure => simp [intOf]; omega
          · have e2' : Go.bits BinOp.and IntKind.i64 (y : Int) 1 = 0 := by rw [e2]; omega
            have HP : Aside0 ((p32 y : Int) = (y : Int) / 2) := ⟨by unfold p32; rw [if_neg hodd]; omega⟩
            clear e2 hodd
            go_wp2_with fail
            go_round
            case rel => exact ⟨j + 1, p32 y, by rw [HP.out], by go_num, by omega, hpl, HN2⟩
            case measure => simp [intOf]; omega
        · obtain rfl : j = 8 := by omega
          go_wp2_with fail
          go_round
          case rel => exact ⟨k + 1, y, rfl, by go_num, by omega, hy, ⟨by rw [HY.out, ← HB32.out]; exact HN.out⟩⟩
          case measure => simp [intOf]; omega
    · obtain rfl : k = nb := by omega
      have e3 := xor_i64 r 4294967295 (by omega) (by omega)
      rw [show ((4294967295 : Nat) : Int) = 4294967295 from rfl] at e3
      have HQ : Aside0 (crc32 B = r ^^^ 4294967295) := ⟨by unfold crc32; rw [HX.out, List.take_of_length_le (by rw [HL.out]; omega)]⟩
      generalize r ^^^ 4294967295 = Z at *
      go_wp2_with fail
      go_ret
      rw [HQ.out]
      exact ⟨rfl, rfl⟩

set_option maxHeartbeats 1000000 in
set_option maxRecDepth 100000 in
theorem RefCrc32_any (A : Option Addr) (nb c : Nat) (B : List Int) (w : World) (hC : Kd.C (Kd.int .u8) w A nb B) (h8 : is8 B) (hnb : nb ≤ 1000000000) :
    Calls Try.prog 15 #[.slice A nb c] w fun e w' => e = .returned (.int .i64 (crc32 B : Nat)) ∧ w' = w := by
  have HC := Aside0.mk hC
  have H8 := Aside0.mk h8
  have HL := Aside0.mk (C_len8 hC)
  clear hC h8
  go_enter Try.func15, Try.ntmps15
  go_wp2_with fail
  go_loop [3, 10] (fun r i => ∃ k x : Nat, r = .int .i64 (x : Int) ∧ i = .int .i64 (k : Int) ∧ k ≤ nb ∧ x < 4294967296 ∧ Aside0 (x = (B.take k).foldl byte32 4294967295)) (fun _ i => nb - (intOf i).toNat)
  case atStart => exact ⟨0, 4294967295, rfl, rfl, Nat.zero_le _, by omega, ⟨rfl⟩⟩
  case round =>
    obtain ⟨k, r, rfl, rfl, hk, hr, HX⟩ := hrel
    by_cases hlt : k < nb
    · obtain ⟨ad, e, hx⟩ := at8 HC.out k hlt
      subst e
      have hx8 := getD8 H8.out k
      have hkl : k < B.length := by rw [HL.out]; exact hlt
      have hT : B.take (k + 1) = B.take k ++ [B.getD k 0] := by
        rw [List.take_succ_eq_append_getElem hkl, List.getD_eq_getElem?_getD, List.getElem?_eq_getElem hkl]; rfl
      have HN : Aside0 (byte32 r (B.getD k 0) = (B.take (k + 1)).foldl byte32 4294967295) := ⟨by rw [hT, List.foldl_append, ← HX.out]; rfl⟩
      generalize B.getD k 0 = x at *
      obtain ⟨x, rfl⟩ : ∃ y : Nat, x = y := ⟨x.toNat, by omega⟩
      have hxl : x < 256 := by omega
      have HB32 : Aside0 (byte32 r (x : Int) = sr32 x 8 r) := ⟨by unfold byte32; rw [Int.toNat_natCast, it32_eight r x hxl]⟩
      clear hT hkl
      go_wp2_with fail
      go_loop [3, 14] (fun u i => ∃ j y : Nat, u = .int .i64 (y : Int) ∧ i = .int .i64 (j : Int) ∧ j ≤ 8 ∧ y < 4294967296 ∧ Aside0 (y = sr32 x j r)) (fun _ i => 8 - (intOf i).toNat)
      case atStart => exact ⟨0, r, rfl, rfl, Nat.zero_le _, hr, ⟨rfl⟩⟩
      case round =>
        obtain ⟨j, y, rfl, rfl, hj, hy, HY⟩ := hrel
        by_cases hjl : j < 8
        · have HN2 : Aside0 (s32 y (x / 2 ^ j % 2) = sr32 x (j + 1) r) := ⟨by rw [HY.out]; rfl⟩
          have hpl := s32_lt y (x / 2 ^ j % 2) hy
          have e2 := and1_i64 (y : Int) (by omega)
          have hd := div_small (x : Int) j (by omega) (by omega)
          have e4 := and1_u8 ((x : Int) / 2 ^ j) hd
          have ex : (x : Int) / 2 ^ j = ((x / 2 ^ j : Nat) : Int) := by rw [Int.natCast_ediv, Int.natCast_pow]; rfl
          have e4' : Go.bits BinOp.and IntKind.u8 ((x : Int) / 2 ^ j) 1 = ((x / 2 ^ j % 2 : Nat) : Int) := by rw [e4, ex]; omega
          have hb2 : x / 2 ^ j % 2 < 2 := by omega
          generalize hQ : x / 2 ^ j % 2 = q at *
          have w1' : wrap64 (q : Int) = (q : Int) := wrap64_id (by omega) (by omega)
          have e2' : Go.bits BinOp.and IntKind.i64 (y : Int) 1 = ((y % 2 : Nat) : Int) := by rw [e2]; omega
          clear e2 e4 hd ex hQ
          by_cases hodd : y % 2 = q
          · have HP : Aside0 ((s32 y q : Int) = (y : Int) / 2) := ⟨by unfold s32; rw [if_pos hodd]; omega⟩
            have q1 : (((y % 2 : Nat) : Int) != (q : Int)) = false := by simp [hodd]
            rw [hodd] at e2' q1
            clear hodd
            go_wp2_with fail
            go_round
            case rel => exact ⟨j + 1, s32 y q, by rw [HP.out], by go_num, by omega, hpl, HN2⟩
            case measure => simp [intOf]; omega
          · have e3 := xor_i64 (y / 2) 3988292384 (by omega) (by omega)
            rw [show ((3988292384 : Nat) : Int) = 3988292384 from rfl, show ((y / 2 : Nat) : Int) = (y : Int) / 2 by omega] at e3
            have HP : Aside0 ((s32 y q : Int) = ((y / 2 ^^^ 3988292384 : Nat) : Int)) := ⟨by unfold s32; rw [if_neg hodd]⟩
            generalize ((y / 2 ^^^ 3988292384 : Nat) : Int) = Z at *
            generalize hM : y % 2 = m at *
            have q1 : ((m : Int) != (q : Int)) = true := by simp; omega
            clear hodd hM
            go_wp2_with fail
            go_round
            case rel => exact ⟨j + 1, s32 y q, by rw [HP.out], by go_num, by omega, hpl, HN2⟩
            case measure => simp [intOf]; omega
        · obtain rfl : j = 8 := by omega
          go_wp2_with fail
          go_round
          case rel => exact ⟨k + 1, y, rfl, by go_num, by omega, hy, ⟨by rw [HY.out, ← HB32.out]; exact HN.out⟩⟩
          case measure => simp [intOf]; omega
    · obtain rfl : k = nb := by omega
      have e3 := xor_i64 r 4294967295 (by omega) (by omega)
      rw [show ((4294967295 : Nat) : Int) = 4294967295 from rfl] at e3
      have HQ : Aside0 (crc32 B = r ^^^ 4294967295) := ⟨by unfold crc32; rw [HX.out, List.take_of_length_le (by rw [HL.out]; omega)]⟩
      generalize r ^^^ 4294967295 = Z at *
      go_wp2_with fail
      go_ret
      rw [HQ.out]
      exact ⟨rfl, rfl⟩
end Go.Proofs.Ytmjekkkpbcehoaa.P
