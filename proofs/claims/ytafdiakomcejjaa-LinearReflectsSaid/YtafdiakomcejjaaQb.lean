/- Plain laws of chapter 14: the reference's quotients and weights. -/
import Derived.Test.YtafdiakomcejjaaPd
import Derived.Test.YtafdiakomcejjaaQe
import Derived.Test.YtafdiakomcejjaaQa
namespace Go.Proofs.Ytafdiakomcejjaa.P
open Go.RowKit Go.Proofs.YtafdiakomcejjaaW.PrintWords Go.Proofs.YtafdiakomcejjaaW.PrintLast Go.Proofs.YtafdiakomcejjaaW.PrintMore
set_option linter.unusedVariables false
set_option linter.unusedSimpArgs false

theorem is_f (l : List Int) (k : Nat) (hk : 8192 < k) : shawmref14_Is.f k l = some (isF l) := by
  unfold shawmref14_Is.f isF
  by_cases h : l.length ≤ 12
  · rw [if_pos (by omega), within_f 127 l (by omega) (by omega) (by omega) k (by omega), decide_eq_true h]
    simp
  · rw [if_neg (by omega), decide_eq_false h]; simp

theorem down_f (a b : Int) (h0 : 0 < b) (h1 : b ≤ 1152921504606846976) (h2 : -1152921504606846976 ≤ a) (h3 : a ≤ 1152921504606846976) : shawmref03_Down.f a b = some (a / b) := by
  unfold shawmref03_Down.f
  have e1 := Int.mul_tdiv_add_tmod a b
  have e2 := Int.mul_ediv_add_emod a b
  have e3 := Int.emod_nonneg a (show b ≠ 0 by omega)
  have e4 := Int.emod_lt_of_pos a h0
  have e5 : -b < a.tmod b ∧ a.tmod b < b := by
    have := Int.natAbs_tmod a b
    have h4 : a.natAbs % b.natAbs < b.natAbs := Nat.mod_lt _ (by omega)
    omega
  have hq := rnd_bound 0 b 1 h0 (by omega) (by omega)
  have bq : -1152921504606846976 ≤ a.tdiv b ∧ a.tdiv b ≤ 1152921504606846976 := by
    constructor
    · apply Int.not_lt.1
      intro hlt
      have := Int.mul_le_mul_of_nonneg_left (show a.tdiv b ≤ -1152921504606846977 by omega) (show 0 ≤ b by omega)
      omega
    · apply Int.not_lt.1
      intro hlt
      have := Int.mul_le_mul_of_nonneg_left (show 1152921504606846977 ≤ a.tdiv b by omega) (show 0 ≤ b by omega)
      omega
  rw [if_neg (by omega)]
  generalize a.tdiv b = q at *
  generalize a / b = q' at *
  generalize a.tmod b = r at *
  generalize a % b = r' at *
  have h5 : b * (q - q') = r' - r := by rw [Int.mul_sub]; omega
  by_cases hr : r < 0
  · rw [if_pos hr, wrap64_id (x := q) (by omega) (by omega), wrap64_id (by omega) (by omega)]
    have h6 : b * (q - q') < b * 2 := by omega
    have h7 : b * 0 < b * (q - q') := by omega
    have h8 := Int.lt_of_mul_lt_mul_left h6 (by omega)
    have h9 := Int.lt_of_mul_lt_mul_left h7 (by omega)
    congr 1; omega
  · rw [if_neg hr, wrap64_id (by omega) (by omega)]
    have h6 : b * (q - q') < b * 1 := by omega
    have h7 : b * (-1) < b * (q - q') := by omega
    have h8 := Int.lt_of_mul_lt_mul_left h6 (by omega)
    have h9 := Int.lt_of_mul_lt_mul_left h7 (by omega)
    congr 1; omega
theorem near_f (a b : Int) (h0 : 0 < b) (h1 : b ≤ 1152921504606846976) (h2 : -1152921504606846976 ≤ a) (h3 : a ≤ 1152921504606846976) : shawmref03_Near.f a b = some (rnd a b) := by
  unfold shawmref03_Near.f
  rw [down_f a b h0 h1 h2 h3]
  simp only [Option.bind_some]
  have e2 := Int.mul_ediv_add_emod a b
  have e3 := Int.emod_nonneg a (show b ≠ 0 by omega)
  have e4 := Int.emod_lt_of_pos a h0
  have e6 := Int.mul_ediv_add_emod (2 * a + b) (2 * b)
  have e7 := Int.emod_nonneg (2 * a + b) (show 2 * b ≠ 0 by omega)
  have e8 := Int.emod_lt_of_pos (2 * a + b) (show 0 < 2 * b by omega)
  have e9 : a / b * b = b * (a / b) := Int.mul_comm _ _
  have bq : -1152921504606846976 ≤ a / b ∧ a / b ≤ 1152921504606846976 := by
    constructor
    · rw [Int.le_ediv_iff_mul_le h0]
      have := Int.mul_le_mul_of_nonneg_left (show 1 ≤ b by omega) (show (0 : Int) ≤ 1152921504606846976 by omega)
      rw [Int.neg_mul]; omega
    · have := (Int.ediv_lt_iff_lt_mul h0 (a := a) (b := 1152921504606846977)).2 (by
        have := Int.mul_le_mul_of_nonneg_left (show 1 ≤ b by omega) (show (0 : Int) ≤ 1152921504606846977 by omega)
        omega)
      omega
  rw [wrap64_id (x := a / b * b) (by omega) (by omega), wrap64_id (x := a - a / b * b) (by omega) (by omega), wrap64_id (x := b - (a - a / b * b)) (by omega) (by omega)]
  unfold rnd
  generalize a / b = q at *
  generalize a % b = r at *
  generalize (2 * a + b) / (2 * b) = z at *
  generalize (2 * a + b) % (2 * b) = t at *
  have h5 : 2 * b * (z - q) = 2 * r + b - t := by rw [Int.mul_sub, Int.mul_assoc 2 b q]; omega
  by_cases hc : a - q * b ≥ b - (a - q * b)
  · rw [if_pos hc, wrap64_id (by omega) (by omega)]
    have h6 : 2 * b * (z - q) < 2 * b * 2 := by omega
    have h7 : 2 * b * 0 < 2 * b * (z - q) := by omega
    have h8 := Int.lt_of_mul_lt_mul_left h6 (by omega)
    have h9 := Int.lt_of_mul_lt_mul_left h7 (by omega)
    congr 1; omega
  · rw [if_neg hc]
    have h6 : 2 * b * (z - q) < 2 * b * 1 := by omega
    have h7 : 2 * b * (-1) < 2 * b * (z - q) := by omega
    have h8 := Int.lt_of_mul_lt_mul_left h6 (by omega)
    have h9 := Int.lt_of_mul_lt_mul_left h7 (by omega)
    congr 1; omega

/-! the reference's weights -/
def newA (a : List Int) (k : Int) (j : Nat) : Int := rd a (j : Int) + rnd (k * rd a ((a.length : Int) - 1 - (j : Int))) 128
theorem newW_all (a : List Int) (k : Int) : newW a k a.length = (List.range a.length).map (newA a k) := by
  unfold newW; rw [List.drop_length, List.append_nil]; rfl
theorem weights_l1 (a l : List Int) (k : Int) (hk : -127 ≤ k ∧ k ≤ 127) (ha : within 16777216 a) (hl : a.length ≤ 12) (x8 : List Int) (x9 x10 : Int) : ∀ (f i : Nat), i ≤ a.length →
    shawmref14_weights.l1 (f + (a.length - i) + 1) a k ((List.range i).map (newA a k)) x8 x9 x10 (a.length : Int) (i : Int) = shawmref14_weights.l0 f (stepW a k) x8 x9 (wrap64 (x10 + 1)) := by
  intro f i
  generalize hd : a.length - i = d
  induction d generalizing i with
  | zero =>
    intro hi
    obtain rfl : i = a.length := by omega
    rw [Nat.add_zero, shawmref14_weights.l1, if_neg (by omega), if_pos (by simp; omega), wrap64_id (x := 32 * k) (by omega) (by omega)]
    unfold stepW
    rw [newW_all]
  | succ d ih =>
    intro hi
    have h1 : i < a.length := by omega
    have hb := within_rd ha (by omega) ((a.length : Int) - 1 - (i : Int))
    have hb0 := within_rd ha (by omega) (i : Int)
    have hm := mul_bound hk hb
    have hr := kstep hk hb
    rw [show f + (d + 1) + 1 = (f + d + 1) + 1 by omega, shawmref14_weights.l1, if_pos (by omega), if_pos (by omega), if_pos (by omega), wrap64_id (x := (a.length : Int) - 1) (by omega) (by omega), wrap64_id (x := (a.length : Int) - 1 - (i : Int)) (by omega) (by omega),
      if_pos (by omega), if_pos (by omega), wrap64_id (x := k * rd a ((a.length : Int) - 1 - (i : Int))) (by omega) (by omega), near_f _ 128 (by omega) (by omega) (by omega) (by omega)]
    simp only [Option.bind_some]
    rw [if_pos (by simp; omega), wrap64_id (x := rd a (i : Int) + _) (by omega) (by omega), wrap64_id (x := (i : Int) + 1) (by omega) (by omega)]
    have := ih (i + 1) (by omega) (by omega)
    rw [List.range_succ, List.map_append] at this
    exact this
theorem weights_l0 (l : List Int) (hl : l.length ≤ 12) (hw : within 127 l) : ∀ (m i : Nat) (a : List Int), i + m = l.length → a.length = i → within (4064 * 2 ^ i) a → ∀ f : Nat, 20 * m < f → shawmref14_weights.l0 f a l (l.length : Int) (i : Int) = some ((l.drop i).foldl stepW a)
  | 0, i, a, hi, ha, hb, f, hf => by
    obtain ⟨g, rfl⟩ : ∃ g, f = g + 1 := ⟨f - 1, by omega⟩
    rw [shawmref14_weights.l0, if_neg (by omega), List.drop_of_length_le (by omega)]
    rfl
  | m + 1, i, a, hi, ha, hb, f, hf => by
    obtain ⟨g, rfl⟩ : ∃ g, f = (g + (a.length - 0) + 1) + 1 := ⟨f - a.length - 2, by omega⟩
    have hp : (2 : Int) ^ i ≤ 2 ^ 12 := by have := Nat.pow_le_pow_right (show 0 < 2 by omega) (show i ≤ 12 by omega); exact_mod_cast this
    have hp0 : (1 : Int) ≤ 2 ^ i := by have := Int.pow_pos (n := 2) (m := i) (by omega); omega
    have hk := within_rd hw (by omega) (i : Int)
    rw [shawmref14_weights.l0, if_pos (by omega), if_pos (by omega), if_pos (by omega)]
    have h1 := weights_l1 a l (rd l (i : Int)) hk (within_mono hb (by omega)) (by omega) l (l.length : Int) (i : Int) g 0 (by omega)
    rw [List.range_zero, List.map_nil] at h1
    rw [show ((0 : Nat) : Int) = 0 from rfl] at h1
    rw [h1, wrap64_id (x := (i : Int) + 1) (by omega) (by omega), drop_head l i (by omega), List.foldl_cons]
    have hs := within_stepW hb (by omega) hk
    rw [show (2 : Int) * (4064 * 2 ^ i) = 4064 * 2 ^ (i + 1) by rw [Int.pow_succ]; omega] at hs
    exact weights_l0 l hl hw m (i + 1) (stepW a (rd l (i : Int))) (by omega) (by rw [stepW_length]; omega) hs g (by omega)
theorem weights_f (l : List Int) (h : isF l = true) (k : Nat) (hk : 1000 < k) : shawmref14_weights.f k l = some (wts l) := by
  obtain ⟨h1, h2⟩ := isF_within h
  unfold shawmref14_weights.f
  have := weights_l0 l h1 h2 l.length 0 [] (by omega) rfl (fun x hx => by cases hx) k (by omega)
  rw [List.drop_zero] at this
  exact this
end Go.Proofs.Ytafdiakomcejjaa.P
