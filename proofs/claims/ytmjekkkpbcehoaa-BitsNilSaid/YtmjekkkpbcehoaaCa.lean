/- The contract of flipped. -/
import Derived.Test.YtmjekkkpbcehoaaBq
namespace Go.Proofs.Ytmjekkkpbcehoaa.P
open Go.RowKit Go.Shelf Go.Proofs.Ytmjekkkpbcehoaa.Bits Go.Proofs.YtmjekkkpbcehoaaW.PrintWords Go.Proofs.YtmjekkkpbcehoaaW.PrintLast Go.Proofs.YtmjekkkpbcehoaaW.PrintMore
set_option linter.unusedVariables false
set_option linter.unusedSimpArgs false
attribute [local go_sem ↓] Go.wp_at_zero Go.wp_at_succ

def xorB (x : Int) (k : Nat) : Int := ((x.toNat ^^^ k : Nat) : Int)
def fbit (low : Bool) (p : Nat) : Nat := if low then 2 ^ (p % 8) else 2 ^ (7 - p % 8)
/-- Bytes with the first i bits of a mask flipped. -/
def fl (low : Bool) (a0 mask : Nat) (B : List Int) : Nat → List Int
  | 0 => B
  | i + 1 => if mask / 2 ^ i % 2 = 0 ∨ 8 * B.length ≤ a0 + i then fl low a0 mask B i else (fl low a0 mask B i).set ((a0 + i) / 8) (xorB ((fl low a0 mask B i).getD ((a0 + i) / 8) 0) (fbit low (a0 + i)))
theorem fl_length (low : Bool) (a0 mask : Nat) (B : List Int) : ∀ i, (fl low a0 mask B i).length = B.length
  | 0 => rfl
  | i + 1 => by
    rw [fl]
    split
    · exact fl_length low a0 mask B i
    · rw [List.length_set, fl_length low a0 mask B i]
theorem fbit_lt (low : Bool) (p : Nat) : fbit low p < 256 := by
  unfold fbit
  split
  · have := Nat.pow_le_pow_right (show 0 < 2 by omega) (show p % 8 ≤ 7 by omega); omega
  · have := Nat.pow_le_pow_right (show 0 < 2 by omega) (show 7 - p % 8 ≤ 7 by omega); omega
theorem xorB_8 (x : Int) (k : Nat) (h : 0 ≤ x ∧ x < 256) (hk : k < 256) : 0 ≤ xorB x k ∧ xorB x k < 256 := by
  unfold xorB
  have : x.toNat ^^^ k < 2 ^ 8 := Nat.xor_lt_two_pow (by omega) (by omega)
  omega
theorem is8_set {B : List Int} (h : is8 B) (i : Nat) (x : Int) (hx : 0 ≤ x ∧ x < 256) : is8 (B.set i x) := fun b hb => by
  rcases List.mem_or_eq_of_mem_set hb with q | q
  · exact h b q
  · subst q; exact hx
theorem fl_8 (low : Bool) (a0 mask : Nat) {B : List Int} (h : is8 B) : ∀ i, is8 (fl low a0 mask B i)
  | 0 => h
  | i + 1 => by
    rw [fl]
    split
    · exact fl_8 low a0 mask h i
    · exact is8_set (fl_8 low a0 mask h i) _ _ (xorB_8 _ _ (getD8 (fl_8 low a0 mask h i) _) (fbit_lt _ _))
theorem and1_u32 (x : Int) (h : 0 ≤ x ∧ x < 4294967296) : Go.bits .and .u32 x 1 = x % 2 := by
  show IntKind.u32.wrap ((BitVec.ofInt 32 x &&& BitVec.ofInt 32 1).toNat : Int) = _
  have e : (BitVec.ofInt 32 (1 : Int)).toNat = 1 := by decide
  rw [BitVec.toNat_and, e, Nat.and_one_is_mod, BitVec.toNat_ofInt]
  have : IntKind.u32.wrap (((x % (2 ^ 32 : Nat)).toNat % 2 : Nat) : Int) = (((x % (2 ^ 32 : Nat)).toNat % 2 : Nat) : Int) := IntWalk.u32_in _ (by omega)
  rw [this]
  omega
theorem shl_bit (m : Nat) (h : m < 8) : (1 : Int) * 2 ^ m = ((2 ^ m : Nat) : Int) := by rw [Int.natCast_pow]; simp
theorem own_addr {S : Nat → Prop} {w : World} {v : Value} {B : List Int} (h : RB S w v B) (hl : 0 < B.length) : ∃ g c, v = .slice (some ⟨g, 0, none⟩) B.length c ∧ S g := by
  have h1 := Kd.own_of_R h
  have hle : (encs (Value.int .u8) B).length = B.length := by simp [encs]
  rcases h1.2 with ⟨rfl, hn⟩ | ⟨g, cap, cur, rfl, _⟩
  · omega
  · exact ⟨g, cap, rfl, h.1 g (by simp [Value.ownBlock])⟩

set_option maxHeartbeats 1000000 in
set_option maxRecDepth 100000 in
theorem flipped_any (A : Option Addr) (c a0 mask : Nat) (low : Bool) (B : List Int) (w : World) (hC : Kd.C (Kd.int .u8) w A B.length B) (h8 : is8 B) (h0 : 0 < B.length) (hl : B.length ≤ 3000) (ha : a0 < 8 * B.length) (hm : mask < 4294967296) :
    Calls Try.prog 16 #[.slice A B.length c, .int .i64 a0, .int .u32 mask, .bool low] w fun e w' => ∃ v S', e = .returned v ∧ RB S' w' v (fl low a0 mask B 32) ∧ (∀ k, S' k → w.heap.size ≤ k) ∧ Below w.heap.size w w' := by
  have HC := Aside0.mk hC
  have H8 := Aside0.mk h8
  clear hC h8
  obtain ⟨v1, w1, hrun, hr1, hg1⟩ := append_run (S := fun k => k = w.heap.size) (w.alloc noBytes) (.slice (some ⟨w.heap.size, 0, none⟩) 0 0) [] B A B.length c (empty_R w) (Kd.C_alloc HC.out _) (by simp; omega)
  rw [List.nil_append] at hr1
  have hb1 : Below w.heap.size w w1 := (below_alloc (Below.refl _ _) _).grown hg1 (by simp) (fun k hk => by
      have : w.heap.size = k := by simpa [Value.ownBlock] using hk
      omega)
  obtain ⟨g, cv, ev, hgS⟩ := own_addr hr1 h0
  subst ev
  have HRUN := Aside0.mk hrun
  have HR1 := Aside0.mk hr1
  have HB1 := Aside0.mk hb1
  have HG : Aside0 (w.heap.size ≤ g) := ⟨by rcases hgS with rfl | rfl <;> simp⟩
  have HS : Aside0 (∀ k, (k = w.heap.size ∨ k = (w.alloc noBytes).heap.size) → w.heap.size ≤ k) := ⟨by rintro k (rfl | rfl) <;> simp⟩
  clear hrun hr1 hb1 hgS hg1
  generalize hN : B.length = n at *
  have HN := Aside0.mk hN
  clear hN
  go_enter Try.func16, Try.ntmps16
  go_wp2_with (at_builtin; refine wpList_run_append rfl _ _ _ rfl _ _ rfl rfl HRUN.out ?_)
  clear HRUN
  go_loopw [15] (fun i wr => ∃ k : Nat, i = .int .i64 (k : Int) ∧ k ≤ 32 ∧ Aside0 (RB (fun k => k = w.heap.size ∨ k = (w.alloc noBytes).heap.size) wr (.slice (some ⟨g, 0, none⟩) n cv) (fl low a0 mask B k)) ∧ Aside0 (Below w.heap.size w wr)) (fun i _ => 32 - (intOf i).toNat)
  case atStart => exact ⟨0, rfl, by omega, HR1, HB1⟩
  case round =>
    obtain ⟨k, rfl, hk, HR, HB⟩ := hrel
    by_cases hlt : k < 32
    · have hdm : 0 ≤ (mask : Int) / 2 ^ k ∧ (mask : Int) / 2 ^ k < 4294967296 := ⟨Int.ediv_nonneg (by omega) (Int.le_of_lt (Int.pow_pos (by omega))), by have := Int.ediv_le_self (a := (mask : Int)) (2 ^ k) (by omega); omega⟩
      have e1 := and1_u32 ((mask : Int) / 2 ^ k) hdm
      have e2 : (mask : Int) / 2 ^ k % 2 = ((mask / 2 ^ k % 2 : Nat) : Int) := by norm_cast
      rw [e2] at e1
      by_cases hz : mask / 2 ^ k % 2 = 0
      · have HF : Aside0 (fl low a0 mask B (k + 1) = fl low a0 mask B k) := ⟨by rw [fl, if_pos (.inl hz)]⟩
        have e1' : Go.bits .and .u32 ((mask : Int) / 2 ^ k) 1 = 0 := by rw [e1, hz]; rfl
        have q0 : (Go.bits .and .u32 ((mask : Int) / 2 ^ k) 1 == 0) = true := by rw [e1']; rfl
        clear e1 e2 hz
        go_wp2_with fail
        go_roundw
        case rel => exact ⟨k + 1, by go_num, by omega, ⟨by rw [HF.out]; exact HR.out⟩, HB⟩
        case measure => simp [intOf]; omega
      · have e1' : Go.bits .and .u32 ((mask : Int) / 2 ^ k) 1 = 1 := by rw [e1]; omega
        have q0 : (Go.bits .and .u32 ((mask : Int) / 2 ^ k) 1 == 0) = false := by rw [e1']; rfl
        clear e1 e2
        by_cases hp : 8 * n ≤ a0 + k
        · have HF : Aside0 (fl low a0 mask B (k + 1) = fl low a0 mask B k) := ⟨by rw [fl, if_pos (.inr (by rw [HN.out]; exact hp))]⟩
          have d1 : decide (8 * (n : Int) ≤ (a0 : Int) + (k : Int)) = true := by simp; omega
          clear hz
          go_wp2_with fail
          go_roundw
          case rel => exact ⟨k + 1, by go_num, by omega, ⟨by rw [HF.out]; exact HR.out⟩, HB⟩
          case measure => simp [intOf]; omega
        · have d1 : decide (8 * (n : Int) ≤ (a0 : Int) + (k : Int)) = false := by simp; omega
          have hset : fl low a0 mask B (k + 1) = (fl low a0 mask B k).set ((a0 + k) / 8) (xorB ((fl low a0 mask B k).getD ((a0 + k) / 8) 0) (fbit low (a0 + k))) := by rw [fl, if_neg (by rw [HN.out]; omega)]
          have hx8 := getD8 (fl_8 low a0 mask H8.out k) ((a0 + k) / 8)
          obtain ⟨q, hq⟩ : ∃ q, q = (a0 + k) / 8 := ⟨_, rfl⟩
          obtain ⟨m, hm'⟩ : ∃ m, m = (a0 + k) % 8 := ⟨_, rfl⟩
          have hfb : fbit low (a0 + k) = if low then 2 ^ m else 2 ^ (7 - m) := by rw [hm']; rfl
          rw [hfb] at hset
          rw [← hq] at hset hx8
          have hcell := Kd.R_celln 0 HR.out (q : Int) (by omega) (by omega)
          unfold rdOf at hcell
          rw [Int.toNat_natCast] at hcell
          obtain ⟨hc1, hc2⟩ := hcell
          generalize (fl low a0 mask B k).getD q 0 = x at *
          obtain ⟨x, rfl⟩ : ∃ y : Nat, x = y := ⟨x.toNat, by omega⟩
          have i1 : (0 : Int) ≤ (q : Int) := by omega
          have i2 : (q : Int) < (n : Int) := by omega
          have i2' : q < n := by omega
          have w0' : ((a0 : Int) + (k : Int)).tdiv 8 = (q : Int) := by rw [Int.tdiv_eq_ediv_of_nonneg (by omega)]; omega
          have w1' : IntKind.i64.wrap (((a0 : Int) + (k : Int)) / 8) = (q : Int) := by rw [IntWalk.i64_in _ (by omega)]; omega
          have w4' : IntKind.i64.wrap (q : Int) = (q : Int) := IntWalk.i64_in _ (by omega)
          have w5' : ((a0 : Int) + (k : Int)) / 8 = (q : Int) := by omega
          have w6' : ((a0 : Int) + (k : Int)) % 8 = (m : Int) := by omega
          have w2' : ((a0 : Int) + (k : Int)).tmod 8 = (m : Int) := by rw [Int.tmod_eq_emod_of_nonneg (by omega)]; omega
          have w7' : IntKind.i64.wrap (m : Int) = (m : Int) := IntWalk.i64_in _ (by omega)
          have HSet := Aside0.mk hset
          clear hset hq hm' hfb hz hdm
          cases low with
          | true =>
            simp only [if_true] at HSet
            have hp2 := Nat.pow_le_pow_right (show 0 < 2 by omega) (show m ≤ 7 by omega)
            have hxo : Aside0 (Go.bits .xor .u8 (x : Int) ((2 ^ (m) : Nat) : Int) = xorB (x : Int) (2 ^ (m))) := ⟨by
              rw [xor_u8 x _ (by omega) (by omega)]; rfl⟩
            have hw : Aside0 (IntKind.u8.wrap ((2 : Int) ^ m) = ((2 ^ m : Nat) : Int)) := ⟨by
              have e : ((2 ^ m : Nat) : Int) = (2 : Int) ^ m := Int.natCast_pow 2 _
              have hh : ∀ t : Nat, t ≤ 128 → IntKind.u8.wrap (t : Int) = t := fun t h => IntWalk.u8_in _ (by omega)
              rw [← e]; exact hh _ (by omega)⟩
            clear hp2
            go_wp2_with fail
            refine wp_still 10 (by kernel_rfl) (by kernel_rfl) ?_
            simp only [List.take_succ_cons, List.take_zero, List.drop_succ_cons, List.drop_zero]
            repeat still_step
            repeat still_step
            refine wpStill_nil ?_
            show wpList _ _ _ _ _ _
            rw [hw.out, hxo.out]
            generalize xorB (x : Int) (2 ^ m) = V at *
            clear w0' w1' w2' w4' w5' w6' w7' hxo hw
            go_wp2_with fail
            go_roundw
            case rel =>
              have hr := Kd.R_putn HR.out (q : Int) V
              rw [Int.toNat_natCast, ← HSet.out] at hr
              refine ⟨k + 1, by go_num, by omega, ⟨?_⟩, ⟨?_⟩⟩
              · first | exact hr | exact Kd.R_drew hr
              · have hb := HB.out.setCell (p := ⟨g, q, none⟩) HG.out (.int .u8 V)
                first | exact hb | exact below_drew hb
            case measure => simp [intOf]; omega
          | false =>
            simp only [Bool.false_eq_true, if_false] at HSet
            have hp2 := Nat.pow_le_pow_right (show 0 < 2 by omega) (show 7 - m ≤ 7 by omega)
            have hxo : Aside0 (Go.bits .xor .u8 (x : Int) ((2 ^ (7 - m) : Nat) : Int) = xorB (x : Int) (2 ^ (7 - m))) := ⟨by
              rw [xor_u8 x _ (by omega) (by omega)]; rfl⟩
            have hw : Aside0 ((128 : Int) / 2 ^ m = ((2 ^ (7 - m) : Nat) : Int)) := ⟨by
              have h8 : m < 8 := by omega
              rcases pow_lt8 h8 with h | h | h | h | h | h | h | h <;> subst h <;> decide⟩
            clear hp2
            go_wp2_with fail
            refine wp_still 10 (by kernel_rfl) (by kernel_rfl) ?_
            simp only [List.take_succ_cons, List.take_zero, List.drop_succ_cons, List.drop_zero]
            repeat still_step
            repeat still_step
            refine wpStill_nil ?_
            show wpList _ _ _ _ _ _
            rw [hw.out, hxo.out]
            generalize xorB (x : Int) (2 ^ (7 - m)) = V at *
            clear w0' w1' w2' w4' w5' w6' w7' hxo hw
            go_wp2_with fail
            go_roundw
            case rel =>
              have hr := Kd.R_putn HR.out (q : Int) V
              rw [Int.toNat_natCast, ← HSet.out] at hr
              refine ⟨k + 1, by go_num, by omega, ⟨?_⟩, ⟨?_⟩⟩
              · first | exact hr | exact Kd.R_drew hr
              · have hb := HB.out.setCell (p := ⟨g, q, none⟩) HG.out (.int .u8 V)
                first | exact hb | exact below_drew hb
            case measure => simp [intOf]; omega
    · obtain rfl : k = 32 := by omega
      go_wp2_with fail
      go_ret
      exact ⟨_, _, rfl, HR.out, HS.out, HB.out⟩
end Go.Proofs.Ytmjekkkpbcehoaa.P
