/- Plain laws of chapter 14: lists that agree; prediction is undone; differences are undone. Plain laws of chapter 14: the reference's checks. Plain laws of chapter 14: the reference's quotients and weights. The plain law of LinearResiduals. The plain law of LinearDiffers. The plain law of LinearReflects. -/
import Derived.Deep.DeepCutAuto
import Derived.Test.YtjcijaojcgampaaGreatDoorZPl5
import Derived.Test.YtjcijaojcgampaaGreatDoorZPl26
import Derived.Test.YtjcijaojcgampaaGreatDoorZPl24
import Derived.Test.YtjcijaojcgampaaGreatDoorZPl30
set_option linter.unusedVariables false
set_option linter.unusedSimpArgs false
set_option maxHeartbeats 16000000
set_option maxRecDepth 100000
section
namespace Go.Proofs.YtjcijaojcgampaaGreatDoor.P.Lin
open Go.RowKit Go.Proofs.YtjcijaojcgampaaGreatDoorW.PrintWords Go.Proofs.YtjcijaojcgampaaGreatDoorW.PrintLast Go.Proofs.YtjcijaojcgampaaGreatDoorW.PrintMore
theorem rd_take (x : List Int) (n : Nat) (i : Int) (h : i.toNat < n) : rd (x.take n) i = rd x i := by
  unfold rd
  rw [List.getD_eq_getElem?_getD, List.getD_eq_getElem?_getD, List.getElem?_take, if_pos h]
theorem pterm_take (p x : List Int) (n j : Nat) : pterm p (x.take n) n j = pterm p x n j := by
  unfold pterm
  split
  · rw [rd_take _ _ _ (by omega)]
  · rfl
theorem pred_take (p x : List Int) (n : Nat) : pred p (x.take n) n = pred p x n := by
  have e : pterm p (x.take n) n = pterm p x n := funext (pterm_take p x n)
  unfold pred pacc
  rw [e]
theorem chk_ok {l : List Int} {m : Int} (h1 : l.length ≤ 8192) (h2 : within m l) : chk l m = 0 := by
  unfold chk
  rw [if_neg (by omega), if_neg]
  intro hq
  obtain ⟨x, hx, hb⟩ := List.any_eq_true.1 hq
  have := h2 x hx
  simp [outB] at hb
  omega
theorem within_l0 (a : Int) (l : List Int) (h0 : 0 ≤ a) (h1 : a ≤ 4611686018427387904) (hm : l.length < 4611686018427387904) : ∀ (k i : Nat), i ≤ l.length → l.length - i < k → shawmref06_within.l0 k a l (l.length : Int) (i : Int) = some (!(l.drop i).any (outB a))
  | 0, i, _, h => by omega
  | k + 1, i, hi, h => by
    rw [shawmref06_within.l0]
    by_cases hlt : i < l.length
    · rw [if_pos (by omega), if_pos (by omega), if_pos (by omega), drop_head l i hlt, List.any_cons, wrap64_id (x := -a) (by omega) (by omega), wrap64_id (x := (i : Int) + 1) (by omega) (by omega)]
      by_cases c1 : rd l (i : Int) < -a
      · rw [if_pos c1]; simp [outB, c1]
      · rw [if_neg c1]
        by_cases c2 : rd l (i : Int) > a
        · rw [if_pos c2]; simp [outB, c2]
        · rw [if_neg c2, show outB a (rd l (i : Int)) = false by simp [outB]; omega, Bool.false_or]
          exact within_l0 a l h0 h1 hm k (i + 1) (by omega) (by omega)
    · rw [if_neg (by omega), List.drop_of_length_le (by omega)]; rfl
theorem within_f (a : Int) (l : List Int) (h0 : 0 ≤ a) (h1 : a ≤ 4611686018427387904) (hm : l.length < 4611686018427387904) (k : Nat) (hk : l.length < k) : shawmref06_Within.f k a l = some (!l.any (outB a)) := by
  unfold shawmref06_Within.f shawmref06_within.f
  have := within_l0 a l h0 h1 hm k 0 (by omega) (by omega)
  rw [List.drop_zero] at this
  rw [show ((0 : Nat) : Int) = 0 from rfl] at this
  rw [this]; rfl
theorem list_f (l : List Int) (m : Int) (h0 : 0 ≤ m) (h1 : m ≤ 4611686018427387904) (k : Nat) (hk : 8192 < k) : shawmref14_list.f k l m = some (chk l m) := by
  unfold shawmref14_list.f chk
  by_cases h : 8192 < l.length
  · rw [if_pos (by omega), if_pos h]
  · rw [if_neg (by omega), if_neg h, within_f m l h0 h1 (by omega) k (by omega)]
    simp only [Option.bind_some]
    cases l.any (outB m) <;> simp
theorem is_f (l : List Int) (k : Nat) (hk : 8192 < k) : shawmref14_Is.f k l = some (isF l) := by
  unfold shawmref14_Is.f isF
  by_cases h : l.length ≤ 12
  · rw [if_pos (by omega), within_f 127 l (by omega) (by omega) (by omega) k (by omega), decide_eq_true h]
    simp
  · rw [if_neg (by omega), decide_eq_false h]; simp
theorem down_f (a b : Int) (h0 : 0 < b) (h1 : b ≤ 1152921504606846976) (h2 : -1152921504606846976 ≤ a) (h3 : a ≤ 1152921504606846976) : shawmref03_Down.f a b = some (a / b) := by
  unfold shawmref03_Down.f
  have e1 := Int.mul_tdiv_add_tmod a b
  have e2 := Int.mul_ediv_add_emod a b
  have e3 := Int.emod_nonneg a (show b ≠ 0 by omega)
  have e4 := Int.emod_lt_of_pos a h0
  have e5 : -b < a.tmod b ∧ a.tmod b < b := by
    have := Int.natAbs_tmod a b
    have h4 : a.natAbs % b.natAbs < b.natAbs := Nat.mod_lt _ (by omega)
    omega
  have hq := rnd_bound 0 b 1 h0 (by omega) (by omega)
  have bq : -1152921504606846976 ≤ a.tdiv b ∧ a.tdiv b ≤ 1152921504606846976 := by
    constructor
    · apply Int.not_lt.1
      intro hlt
      have := Int.mul_le_mul_of_nonneg_left (show a.tdiv b ≤ -1152921504606846977 by omega) (show 0 ≤ b by omega)
      omega
    · apply Int.not_lt.1
      intro hlt
      have := Int.mul_le_mul_of_nonneg_left (show 1152921504606846977 ≤ a.tdiv b by omega) (show 0 ≤ b by omega)
      omega
  rw [if_neg (by omega)]
  generalize a.tdiv b = q at *
  generalize a / b = q' at *
  generalize a.tmod b = r at *
  generalize a % b = r' at *
  have h5 : b * (q - q') = r' - r := by rw [Int.mul_sub]; omega
  by_cases hr : r < 0
  · rw [if_pos hr, wrap64_id (x := q) (by omega) (by omega), wrap64_id (by omega) (by omega)]
    have h6 : b * (q - q') < b * 2 := by omega
    have h7 : b * 0 < b * (q - q') := by omega
    have h8 := Int.lt_of_mul_lt_mul_left h6 (by omega)
    have h9 := Int.lt_of_mul_lt_mul_left h7 (by omega)
    congr 1; omega
  · rw [if_neg hr, wrap64_id (by omega) (by omega)]
    have h6 : b * (q - q') < b * 1 := by omega
    have h7 : b * (-1) < b * (q - q') := by omega
    have h8 := Int.lt_of_mul_lt_mul_left h6 (by omega)
    have h9 := Int.lt_of_mul_lt_mul_left h7 (by omega)
    congr 1; omega
theorem near_f (a b : Int) (h0 : 0 < b) (h1 : b ≤ 1152921504606846976) (h2 : -1152921504606846976 ≤ a) (h3 : a ≤ 1152921504606846976) : shawmref03_Near.f a b = some (rnd a b) := by
  unfold shawmref03_Near.f
  rw [down_f a b h0 h1 h2 h3]
  simp only [Option.bind_some]
  have e2 := Int.mul_ediv_add_emod a b
  have e3 := Int.emod_nonneg a (show b ≠ 0 by omega)
  have e4 := Int.emod_lt_of_pos a h0
  have e6 := Int.mul_ediv_add_emod (2 * a + b) (2 * b)
  have e7 := Int.emod_nonneg (2 * a + b) (show 2 * b ≠ 0 by omega)
  have e8 := Int.emod_lt_of_pos (2 * a + b) (show 0 < 2 * b by omega)
  have e9 : a / b * b = b * (a / b) := Int.mul_comm _ _
  have bq : -1152921504606846976 ≤ a / b ∧ a / b ≤ 1152921504606846976 := by
    constructor
    · rw [Int.le_ediv_iff_mul_le h0]
      have := Int.mul_le_mul_of_nonneg_left (show 1 ≤ b by omega) (show (0 : Int) ≤ 1152921504606846976 by omega)
      rw [Int.neg_mul]; omega
    · have := (Int.ediv_lt_iff_lt_mul h0 (a := a) (b := 1152921504606846977)).2 (by
        have := Int.mul_le_mul_of_nonneg_left (show 1 ≤ b by omega) (show (0 : Int) ≤ 1152921504606846977 by omega)
        omega)
      omega
  rw [wrap64_id (x := a / b * b) (by omega) (by omega), wrap64_id (x := a - a / b * b) (by omega) (by omega), wrap64_id (x := b - (a - a / b * b)) (by omega) (by omega)]
  unfold rnd
  generalize a / b = q at *
  generalize a % b = r at *
  generalize (2 * a + b) / (2 * b) = z at *
  generalize (2 * a + b) % (2 * b) = t at *
  have h5 : 2 * b * (z - q) = 2 * r + b - t := by rw [Int.mul_sub, Int.mul_assoc 2 b q]; omega
  by_cases hc : a - q * b ≥ b - (a - q * b)
  · rw [if_pos hc, wrap64_id (by omega) (by omega)]
    have h6 : 2 * b * (z - q) < 2 * b * 2 := by omega
    have h7 : 2 * b * 0 < 2 * b * (z - q) := by omega
    have h8 := Int.lt_of_mul_lt_mul_left h6 (by omega)
    have h9 := Int.lt_of_mul_lt_mul_left h7 (by omega)
    congr 1; omega
  · rw [if_neg hc]
    have h6 : 2 * b * (z - q) < 2 * b * 1 := by omega
    have h7 : 2 * b * (-1) < 2 * b * (z - q) := by omega
    have h8 := Int.lt_of_mul_lt_mul_left h6 (by omega)
    have h9 := Int.lt_of_mul_lt_mul_left h7 (by omega)
    congr 1; omega
def newA (a : List Int) (k : Int) (j : Nat) : Int := rd a (j : Int) + rnd (k * rd a ((a.length : Int) - 1 - (j : Int))) 128
theorem newW_all (a : List Int) (k : Int) : newW a k a.length = (List.range a.length).map (newA a k) := by
  unfold newW; rw [List.drop_length, List.append_nil]; rfl
theorem weights_l1 (a l : List Int) (k : Int) (hk : -127 ≤ k ∧ k ≤ 127) (ha : within 16777216 a) (hl : a.length ≤ 12) (x8 : List Int) (x9 x10 : Int) : ∀ (f i : Nat), i ≤ a.length →
    shawmref14_weights.l1 (f + (a.length - i) + 1) a k ((List.range i).map (newA a k)) x8 x9 x10 (a.length : Int) (i : Int) = shawmref14_weights.l0 f (stepW a k) x8 x9 (wrap64 (x10 + 1)) := by
  intro f i
  generalize hd : a.length - i = d
  induction d generalizing i with
  | zero =>
    intro hi
    obtain rfl : i = a.length := by omega
    rw [Nat.add_zero, shawmref14_weights.l1, if_neg (by omega), if_pos (by simp; omega), wrap64_id (x := 32 * k) (by omega) (by omega)]
    unfold stepW
    rw [newW_all]
  | succ d ih =>
    intro hi
    have h1 : i < a.length := by omega
    have hb := within_rd ha (by omega) ((a.length : Int) - 1 - (i : Int))
    have hb0 := within_rd ha (by omega) (i : Int)
    have hm := mul_bound hk hb
    have hr := kstep hk hb
    rw [show f + (d + 1) + 1 = (f + d + 1) + 1 by omega, shawmref14_weights.l1, if_pos (by omega), if_pos (by omega), if_pos (by omega), wrap64_id (x := (a.length : Int) - 1) (by omega) (by omega), wrap64_id (x := (a.length : Int) - 1 - (i : Int)) (by omega) (by omega),
      if_pos (by omega), if_pos (by omega), wrap64_id (x := k * rd a ((a.length : Int) - 1 - (i : Int))) (by omega) (by omega), near_f _ 128 (by omega) (by omega) (by omega) (by omega)]
    simp only [Option.bind_some]
    rw [if_pos (by simp; omega), wrap64_id (x := rd a (i : Int) + _) (by omega) (by omega), wrap64_id (x := (i : Int) + 1) (by omega) (by omega)]
    have := ih (i + 1) (by omega) (by omega)
    rw [List.range_succ, List.map_append] at this
    exact this
theorem weights_l0 (l : List Int) (hl : l.length ≤ 12) (hw : within 127 l) : ∀ (m i : Nat) (a : List Int), i + m = l.length → a.length = i → within (4064 * 2 ^ i) a → ∀ f : Nat, 20 * m < f → shawmref14_weights.l0 f a l (l.length : Int) (i : Int) = some ((l.drop i).foldl stepW a)
  | 0, i, a, hi, ha, hb, f, hf => by
    obtain ⟨g, rfl⟩ : ∃ g, f = g + 1 := ⟨f - 1, by omega⟩
    rw [shawmref14_weights.l0, if_neg (by omega), List.drop_of_length_le (by omega)]
    rfl
  | m + 1, i, a, hi, ha, hb, f, hf => by
    obtain ⟨g, rfl⟩ : ∃ g, f = (g + (a.length - 0) + 1) + 1 := ⟨f - a.length - 2, by omega⟩
    have hp : (2 : Int) ^ i ≤ 2 ^ 12 := by have := Nat.pow_le_pow_right (show 0 < 2 by omega) (show i ≤ 12 by omega); exact_mod_cast this
    have hp0 : (1 : Int) ≤ 2 ^ i := by have := Int.pow_pos (n := 2) (m := i) (by omega); omega
    have hk := within_rd hw (by omega) (i : Int)
    rw [shawmref14_weights.l0, if_pos (by omega), if_pos (by omega), if_pos (by omega)]
    have h1 := weights_l1 a l (rd l (i : Int)) hk (within_mono hb (by omega)) (by omega) l (l.length : Int) (i : Int) g 0 (by omega)
    rw [List.range_zero, List.map_nil] at h1
    rw [show ((0 : Nat) : Int) = 0 from rfl] at h1
    rw [h1, wrap64_id (x := (i : Int) + 1) (by omega) (by omega), drop_head l i (by omega), List.foldl_cons]
    have hs := within_stepW hb (by omega) hk
    rw [show (2 : Int) * (4064 * 2 ^ i) = 4064 * 2 ^ (i + 1) by rw [Int.pow_succ]; omega] at hs
    exact weights_l0 l hl hw m (i + 1) (stepW a (rd l (i : Int))) (by omega) (by rw [stepW_length]; omega) hs g (by omega)
theorem weights_f (l : List Int) (h : isF l = true) (k : Nat) (hk : 1000 < k) : shawmref14_weights.f k l = some (wts l) := by
  obtain ⟨h1, h2⟩ := isF_within h
  unfold shawmref14_weights.f
  have := weights_l0 l h1 h2 l.length 0 [] (by omega) rfl (fun x hx => by cases hx) k (by omega)
  rw [List.drop_zero] at this
  exact this
end Go.Proofs.YtjcijaojcgampaaGreatDoor.P.Lin
end
section
namespace Go.Proofs.YtjcijaojcgampaaGreatDoor.P.Lin
open Go.RowKit Go.Proofs.YtjcijaojcgampaaGreatDoorW.PrintWords Go.Proofs.YtjcijaojcgampaaGreatDoorW.PrintLast
theorem prediction_l0 (L p : List Int) (hp : within 16777216 p) (hL : within 2097152 L) (hpl : p.length ≤ 12) (hLl : L.length ≤ 8192) : ∀ (d j f : Nat), j + d = p.length → d < f → shawmref14_prediction.l0 f L (pacc p L L.length j) p (p.length : Int) (j : Int) = some (pred p L L.length)
  | 0, j, f, h, hf => by
    obtain ⟨g, rfl⟩ : ∃ g, f = g + 1 := ⟨f - 1, by omega⟩
    obtain rfl : j = p.length := by omega
    have hb := pacc_bound hp hL L.length p.length
    rw [shawmref14_prediction.l0, if_neg (by omega), wrap64_id (x := -pacc p L L.length p.length) (by omega) (by omega), near_f _ 4096 (by omega) (by omega) (by omega) (by omega)]
    rfl
  | d + 1, j, f, h, hf => by
    obtain ⟨g, rfl⟩ : ∃ g, f = g + 1 := ⟨f - 1, by omega⟩
    have hb := pacc_bound hp hL L.length j
    have hb1 := pacc_bound hp hL L.length (j + 1)
    have hs := pacc_succ p L L.length j
    have ih := prediction_l0 L p hp hL hpl hLl d (j + 1) g (by omega) (by omega)
    rw [shawmref14_prediction.l0, if_pos (by omega), if_pos (by omega), if_pos (by omega), wrap64_id (x := (L.length : Int) - 1) (by omega) (by omega), wrap64_id (x := (L.length : Int) - 1 - (j : Int)) (by omega) (by omega), wrap64_id (x := (j : Int) + 1) (by omega) (by omega)]
    by_cases hj : j < L.length
    · have ht : pterm p L L.length j = rd p (j : Int) * rd L ((L.length : Int) - 1 - (j : Int)) := by unfold pterm; rw [if_pos hj]
      have hm := mul_bound (within_rd hp (by omega) (j : Int)) (within_rd hL (by omega) ((L.length : Int) - 1 - (j : Int)))
      rw [ht] at hs
      rw [hs] at hb1
      rw [if_pos (by omega), if_pos (by omega), if_pos (by omega), wrap64_id (x := rd p (j : Int) * _) (by omega) (by omega), wrap64_id (by omega) (by omega), ← hs]
      exact ih
    · have ht : pterm p L L.length j = 0 := by unfold pterm; rw [if_neg hj]
      rw [ht, Int.add_zero] at hs
      rw [if_neg (by omega), ← hs]
      exact ih
theorem prediction_f (L p : List Int) (hp : within 16777216 p) (hL : within 2097152 L) (hpl : p.length ≤ 12) (hLl : L.length ≤ 8192) (f : Nat) (hf : 12 < f) : shawmref14_prediction.f f L p = some (pred p L L.length) := by
  unfold shawmref14_prediction.f
  exact prediction_l0 L p hp hL hpl hLl p.length 0 f (by omega) (by omega)
theorem within_take {B : Int} {l : List Int} (h : within B l) (n : Nat) : within B (l.take n) := fun x hx => h x (List.mem_of_mem_take hx)
theorem residual_l0 (x p : List Int) (hp : within 16777216 p) (hx : within 2097152 x) (hpl : p.length ≤ 12) (hxl : x.length ≤ 8192) : ∀ (d i f : Nat), i + d = x.length → d + 13 < f → shawmref14_Residual.l0 f x p ((resid p x).take i) x (x.length : Int) (i : Int) = some (resid p x, 0)
  | 0, i, f, h, hf => by
    obtain ⟨g, rfl⟩ : ∃ g, f = g + 1 := ⟨f - 1, by omega⟩
    rw [shawmref14_Residual.l0, if_neg (by omega), List.take_of_length_le (by rw [resid_length]; omega)]
  | d + 1, i, f, h, hf => by
    obtain ⟨g, rfl⟩ : ∃ g, f = g + 1 := ⟨f - 1, by omega⟩
    have hl : (x.take i).length = i := by rw [List.length_take]; omega
    have hpf := prediction_f (x.take i) p hp (within_take hx i) hpl (by omega) g (by omega)
    rw [hl, pred_take] at hpf
    have hb := pred_bound hp hx i hpl
    have hx0 := within_rd hx (by omega) (i : Int)
    rw [shawmref14_Residual.l0, if_pos (by omega), if_pos (by omega), if_pos (by omega), if_pos (by omega), Int.toNat_natCast, hpf]
    simp only [Option.bind_some]
    rw [if_pos (by rw [List.length_take, resid_length]; omega), wrap64_id (x := rd x (i : Int) - _) (by omega) (by omega), wrap64_id (x := (i : Int) + 1) (by omega) (by omega), ← resid_take p x i (by omega)]
    exact residual_l0 x p hp hx hpl hxl d (i + 1) g (by omega) (by omega)
theorem ref_residual (x l : List Int) (hx : x.length ≤ 9000) (k : Nat) (hk : 9050 < k) : shawmref14_Residual.f k x l = if isF l = true then (if chk x 2097152 = 0 then some (resid (wts l) x, 0) else some ([], chk x 2097152)) else some ([], 1) := by
  unfold shawmref14_Residual.f
  rw [is_f l k (by omega)]
  simp only [Option.bind_some]
  by_cases hf : isF l = true
  · rw [if_pos hf, if_pos hf, list_f x 2097152 (by omega) (by omega) k (by omega)]
    simp only [Option.bind_some]
    by_cases hc : chk x 2097152 = 0
    · rw [if_pos hc, if_pos hc, weights_f l hf k (by omega)]
      simp only [Option.bind_some]
      obtain ⟨hxl, hxw⟩ := chk_zero hc
      obtain ⟨_, hw, hwl⟩ := isF_wts hf
      have := (isF_within hf).1
      exact residual_l0 x (wts l) (within_mono hw (by omega)) hxw (by omega) hxl x.length 0 k (by omega) (by omega)
    · rw [if_neg hc, if_neg hc]
  · rw [if_neg hf, if_neg hf]
theorem differences_l0 (x : List Int) (hx : within 1152921504606846976 x) (hl : x.length ≤ 9000) : ∀ (d i f : Nat), i + d = x.length → d < f → shawmref14_differences.l0 f ((dstep x).take i) (if i = 0 then 0 else rd x ((i : Int) - 1)) x (x.length : Int) (i : Int) = some (dstep x)
  | 0, i, f, h, hf => by
    obtain ⟨g, rfl⟩ : ∃ g, f = g + 1 := ⟨f - 1, by omega⟩
    rw [shawmref14_differences.l0, if_neg (by omega), List.take_of_length_le (by rw [dstep_length]; omega)]
  | d + 1, i, f, h, hf => by
    obtain ⟨g, rfl⟩ : ∃ g, f = g + 1 := ⟨f - 1, by omega⟩
    have b0 := within_rd hx (by omega) (i : Int)
    have b1 := within_rd hx (by omega) ((i : Int) - 1)
    have e : (dstep x).take (i + 1) = (dstep x).take i ++ [rd x (i : Int) - (if i = 0 then 0 else rd x ((i : Int) - 1))] := by
      rw [List.take_add_one, List.getElem?_eq_getElem (by rw [dstep_length]; omega)]
      have : (dstep x)[i]'(by rw [dstep_length]; omega) = dAt x i := by simp [dstep]
      rw [this]
      unfold dAt
      split
      · rename_i h0; subst h0; simp
      · simp
    have ih := differences_l0 x hx hl d (i + 1) g (by omega) (by omega)
    rw [if_neg (show ¬ i + 1 = 0 by omega), show ((i + 1 : Nat) : Int) - 1 = (i : Int) by omega] at ih
    rw [shawmref14_differences.l0, if_pos (by omega), if_pos (by omega), if_pos (by omega), if_pos (by rw [List.length_take, dstep_length]; omega), wrap64_id (x := (i : Int) + 1) (by omega) (by omega),
      wrap64_id (x := rd x (i : Int) - _) (by split <;> omega) (by split <;> omega), ← e]
    exact ih
theorem differences_f (x : List Int) (hx : within 1152921504606846976 x) (hl : x.length ≤ 9000) (f : Nat) (hf : 9000 < f) : shawmref14_differences.f f x = some (dstep x) := by
  unfold shawmref14_differences.f
  exact differences_l0 x hx hl x.length 0 f (by omega) (by omega)
theorem differ_l0 (x : List Int) (hx : within 2097152 x) (hl : x.length ≤ 8192) (n : Nat) (hn : n ≤ 4) : ∀ (d i f : Nat), i + d = n → 9010 < f - d → shawmref14_Differ.l0 f (diffs x i) (n : Int) (i : Int) = some (diffs x n, 0)
  | 0, i, f, h, hf => by
    obtain ⟨g, rfl⟩ : ∃ g, f = g + 1 := ⟨f - 1, by omega⟩
    obtain rfl : i = n := by omega
    rw [shawmref14_Differ.l0, if_neg (by omega)]
  | d + 1, i, f, h, hf => by
    obtain ⟨g, rfl⟩ : ∃ g, f = g + 1 := ⟨f - 1, by omega⟩
    have hw := within_mono (within_diffs hx i (by omega)) (show (33554432 : Int) ≤ 1152921504606846976 by omega)
    rw [shawmref14_Differ.l0, if_pos (by omega), differences_f _ hw (by rw [diffs_length]; omega) g (by omega)]
    simp only [Option.bind_some]
    rw [wrap64_id (x := (i : Int) + 1) (by omega) (by omega)]
    exact differ_l0 x hx hl n hn d (i + 1) g (by omega) (by omega)
theorem ref_differ (x : List Int) (k : Int) (hx : x.length ≤ 9000) : shawmref14_Differ.f 60000 x k = if k < 0 ∨ 4 < k then some ([], 1) else if chk x 2097152 = 0 then some (diffs x k.toNat, 0) else some ([], chk x 2097152) := by
  have j : shawmref14_Differ.j0 60000 x k false = if chk x 2097152 = 0 then (if k < 0 ∨ 4 < k then shawmref14_Differ.j0 60000 x k false else some (diffs x k.toNat, 0)) else some ([], chk x 2097152) := by
    by_cases hc : chk x 2097152 = 0
    · rw [if_pos hc]
      by_cases hk : k < 0 ∨ 4 < k
      · rw [if_pos hk]
      · rw [if_neg hk, shawmref14_Differ.j0, if_neg (by decide), list_f x 2097152 (by omega) (by omega) 59999 (by omega)]
        simp only [Option.bind_some]
        obtain ⟨hxl, hxw⟩ := chk_zero hc
        rw [if_pos hc, if_pos (by simp; omega), List.nil_append]
        obtain ⟨n, rfl⟩ : ∃ n : Nat, k = n := ⟨k.toNat, by omega⟩
        rw [Int.toNat_natCast]
        exact differ_l0 x hxw hxl n (by omega) n 0 59999 (by omega) (by omega)
    · rw [if_neg hc, shawmref14_Differ.j0, if_neg (by decide), list_f x 2097152 (by omega) (by omega) 59999 (by omega)]
      simp only [Option.bind_some]
      rw [if_neg hc]
  unfold shawmref14_Differ.f
  by_cases h1 : k < 0
  · rw [if_pos h1, if_pos (Or.inl h1), shawmref14_Differ.j0, if_pos rfl]
  · rw [if_neg h1]
    by_cases h2 : k > 4
    · rw [decide_eq_true h2, if_pos (Or.inr h2), shawmref14_Differ.j0, if_pos rfl]
    · rw [decide_eq_false h2, j, if_neg (show ¬ (k < 0 ∨ 4 < k) by omega), if_neg (show ¬ (k < 0 ∨ 4 < k) by omega)]
end Go.Proofs.YtjcijaojcgampaaGreatDoor.P.Lin
end
section
namespace Go.Proofs.YtjcijaojcgampaaGreatDoor.P.Lin
open Go.RowKit Go.Proofs.YtjcijaojcgampaaGreatDoorW.PrintWords Go.Proofs.YtjcijaojcgampaaGreatDoorW.PrintLast Go.Proofs.YtjcijaojcgampaaGreatDoorW.PrintMore
def psumP (x : List Int) (far j : Nat) : Int := ((List.range j).map fun (t : Nat) => rd x ((far + t : Nat) : Int) * rd x (t : Int)).sum
theorem psumP_succ (x : List Int) (far j : Nat) : psumP x far (j + 1) = psumP x far j + rd x ((far + j : Nat) : Int) * rd x (j : Int) := by
  unfold psumP; rw [sum_range_succ]
theorem psumP_bound {x : List Int} (hx : within 2097152 x) (far : Nat) : ∀ j : Nat, -(4398046511104 * j) ≤ psumP x far j ∧ psumP x far j ≤ 4398046511104 * j
  | 0 => by simp [psumP]
  | j + 1 => by
    have h := psumP_bound hx far j
    have := mul_bound (within_rd hx (by omega) ((far + j : Nat) : Int)) (within_rd hx (by omega) (j : Int))
    rw [psumP_succ]; omega
theorem products_l0 (x : List Int) (hx : within 2097152 x) (hl : x.length ≤ 8192) (far : Nat) (hf : far ≤ 100) : ∀ (d j f : Nat), j + d = x.length - far → d < f → shawmref14_products.l0 f x (far : Int) (psumP x far j) (j : Int) = some (prods x far).sum
  | 0, j, f, h, hf' => by
    obtain ⟨g, rfl⟩ : ∃ g, f = g + 1 := ⟨f - 1, by omega⟩
    obtain rfl : j = x.length - far := by omega
    rw [shawmref14_products.l0, wrap64_id (x := ((x.length - far : Nat) : Int) + (far : Int)) (by omega) (by omega), if_neg (by omega)]
    rfl
  | d + 1, j, f, h, hf' => by
    obtain ⟨g, rfl⟩ : ∃ g, f = g + 1 := ⟨f - 1, by omega⟩
    have hb := psumP_bound hx far j
    have hb1 := psumP_bound hx far (j + 1)
    have hs := psumP_succ x far j
    have hm := mul_bound (within_rd hx (by omega) (j : Int)) (within_rd hx (by omega) ((j : Int) + (far : Int)))
    have e : rd x (j : Int) * rd x ((j : Int) + (far : Int)) = rd x ((far + j : Nat) : Int) * rd x (j : Int) := by rw [Int.mul_comm, show ((far + j : Nat) : Int) = (j : Int) + (far : Int) by omega]
    rw [shawmref14_products.l0, wrap64_id (x := (j : Int) + (far : Int)) (by omega) (by omega), if_pos (by omega), if_pos (by omega), if_pos (by omega), if_pos (by omega), wrap64_id (x := rd x (j : Int) * _) (by omega) (by omega),
      wrap64_id (x := psumP x far j + _) (by rw [e, ← hs]; omega) (by rw [e, ← hs]; omega), wrap64_id (x := (j : Int) + 1) (by omega) (by omega), e, ← hs]
    exact products_l0 x hx hl far hf d (j + 1) g (by omega) (by omega)
theorem products_f (x : List Int) (hx : within 2097152 x) (hl : x.length ≤ 8192) (far : Nat) (hf : far ≤ 100) (f : Nat) (hk : 8192 < f) : shawmref14_products.f f x (far : Int) = some (prods x far).sum := by
  unfold shawmref14_products.f
  exact products_l0 x hx hl far hf (x.length - far) 0 f (by omega) (by omega)
theorem shr_nat (s : Int) (h : Nat) (hh : h ≤ 64) : shr .i64 s (h : Int) = s / 2 ^ h := by
  unfold shr
  rw [Int.toNat_natCast, Nat.min_eq_left (by show h ≤ 64; exact hh)]
theorem l3_ok (o : Nat) (u v : List Int) (n : Nat) (k : Int) (hk : -127 ≤ k ∧ k ≤ 127) (hn : n < o) (ho : o ≤ 12) (hul : u.length = o - n) (hvl : v.length = o - n) (hu : bnd 35184372088832 u) (hv : bnd 35184372088832 v) (out : List Int) (R : List Int × Int) (G : Nat)
    (hG : ∀ g, G ≤ g → shawmref14_Reflect.l2 g (o : Int) ((List.range (o - n - 1)).map (refA u v k)) ((List.range (o - n - 1)).map (refB u v k)) out ((n : Int) + 2) = some R) : ∀ (d i f : Nat), i + d = o - n - 1 → G + d < f →
    shawmref14_Reflect.l3 f (o : Int) u v out ((n : Int) + 1) k ((List.range i).map (refA u v k)) ((List.range i).map (refB u v k)) (i : Int) = some R
  | 0, i, f, h, hf => by
    obtain ⟨g, rfl⟩ : ∃ g, f = g + 1 := ⟨f - 1, by omega⟩
    obtain rfl : i = o - n - 1 := by omega
    rw [shawmref14_Reflect.l3, wrap64_id (x := (o : Int) - ((n : Int) + 1)) (by omega) (by omega), if_neg (by omega), wrap64_id (x := (n : Int) + 1 + 1) (by omega) (by omega), show (n : Int) + 1 + 1 = (n : Int) + 2 by omega]
    exact hG g (by omega)
  | d + 1, i, f, h, hf => by
    obtain ⟨g, rfl⟩ : ∃ g, f = g + 1 := ⟨f - 1, by omega⟩
    have b1 := hu ((i : Int) + 1)
    have b2 := hv ((i : Int) + 1)
    have b3 := hu (i : Int)
    have b4 := hv (i : Int)
    have m1 := kmul hk b2
    have m2 := kmul hk b3
    have s1 := kstep hk b2
    have s2 := kstep hk b3
    rw [shawmref14_Reflect.l3, wrap64_id (x := (o : Int) - ((n : Int) + 1)) (by omega) (by omega), if_pos (by omega), wrap64_id (x := (i : Int) + 1) (by omega) (by omega), if_pos (by omega), if_pos (by omega), if_pos (by omega),
      wrap64_id (x := k * rd v ((i : Int) + 1)) (by omega) (by omega), near_f _ 128 (by omega) (by omega) (by omega) (by omega)]
    simp only [Option.bind_some]
    rw [if_pos (by simp; omega), if_pos (by omega), if_pos (by omega), if_pos (by omega), wrap64_id (x := k * rd u (i : Int)) (by omega) (by omega), near_f _ 128 (by omega) (by omega) (by omega) (by omega)]
    simp only [Option.bind_some]
    rw [if_pos (by simp; omega), wrap64_id (x := rd u ((i : Int) + 1) + _) (by omega) (by omega), wrap64_id (x := rd v (i : Int) + _) (by omega) (by omega)]
    have ih := l3_ok o u v n k hk hn ho hul hvl hu hv out R G hG d (i + 1) g (by omega) (by omega)
    rw [List.range_succ, List.map_append, List.map_append] at ih
    exact ih
theorem clamp_eq (t : Int) : mx (-127) (mn 127 t) = min (max t (-127)) 127 := by unfold mx mn; split <;> split <;> omega
theorem l2_ok (o : Nat) (U V : List Int) (hU : U.length = o) (hV : V.length = o) (bU : bnd 1073741824 U) (bV : bnd 1073741824 V) (ho : o ≤ 12) : ∀ (d n f : Nat), n + d = o → 20 * d < f →
    shawmref14_Reflect.l2 f (o : Int) (rst U V n).1 (rst U V n).2 ((coefs U V o).take n) ((n : Int) + 1) = some (coefs U V o, 0)
  | 0, n, f, h, hf => by
    obtain ⟨g, rfl⟩ : ∃ g, f = g + 1 := ⟨f - 1, by omega⟩
    obtain rfl : n = o := by omega
    rw [shawmref14_Reflect.l2, if_neg (by omega), List.take_of_length_le (by rw [coefs_length]; exact Nat.le_refl _)]
  | d + 1, n, f, h, hf => by
    obtain ⟨g, rfl⟩ : ∃ g, f = (g + 1) + 1 := ⟨f - 2, by omega⟩
    obtain ⟨hul, hvl⟩ := rst_length hU hV n
    obtain ⟨bu, bv⟩ := bnd_rst' bU bV n (by omega)
    have hT := coefs_take U V o n (by omega)
    have hk := refK_range (rst U V n).1 (rst U V n).2
    have next : shawmref14_Reflect.j4 (g + 1) (o : Int) (rst U V n).1 (rst U V n).2 ((coefs U V o).take n) ((n : Int) + 1) (refK (rst U V n).1 (rst U V n).2) = some (coefs U V o, 0) := by
      rw [shawmref14_Reflect.j4, if_pos (by rw [List.length_take, coefs_length]; omega), ← hT]
      have hG : ∀ q, 20 * d + 1 ≤ q → shawmref14_Reflect.l2 q (o : Int) ((List.range (o - n - 1)).map (refA (rst U V n).1 (rst U V n).2 (refK (rst U V n).1 (rst U V n).2))) ((List.range (o - n - 1)).map (refB (rst U V n).1 (rst U V n).2 (refK (rst U V n).1 (rst U V n).2))) ((coefs U V o).take (n + 1)) ((n : Int) + 2) = some (coefs U V o, 0) := by
        intro q hq
        have ih := l2_ok o U V hU hV bU bV ho d (n + 1) q (by omega) (by omega)
        rw [show ((n + 1 : Nat) : Int) + 1 = (n : Int) + 2 by omega] at ih
        simp only [rst, nextA, nextB, hul] at ih
        exact ih
      exact l3_ok o _ _ n _ hk (by omega) ho hul hvl bu bv _ _ (20 * d + 1) hG (o - n - 1) 0 g (by omega) (by omega)
    rw [shawmref14_Reflect.l2, if_pos (by omega), if_pos (by omega)]
    unfold refK at next
    by_cases hp : 0 < rd (rst U V n).2 0
    · have b1 := bu 0
      have b2 := bv 0
      rw [if_pos hp] at next
      rw [if_pos hp, if_pos (by omega), wrap64_id (x := -128 * rd (rst U V n).1 0) (by omega) (by omega), near_f _ _ hp (by omega) (by omega) (by omega)]
      simp only [Option.bind_some]
      rw [clamp_eq]
      exact next
    · rw [if_neg hp] at next
      rw [if_neg hp]
      exact next
def UU (x : List Int) (h o : Nat) : List Int := (List.range o).map fun j => (prods x (j + 1)).sum / 2 ^ h
def VV (x : List Int) (h o : Nat) : List Int := (List.range o).map fun j => (prods x j).sum / 2 ^ h
theorem take_map_succ (f : Nat → Int) (o i : Nat) (h : i < o) : ((List.range o).map f).take (i + 1) = ((List.range o).map f).take i ++ [f i] := by
  rw [List.take_add_one]; simp [h]
theorem l1_ok (x : List Int) (hx : within 2097152 x) (hl : x.length ≤ 8192) (o h : Nat) (ho : o ≤ 12) (hh : h ≤ 27) (R : List Int × Int) (G : Nat) (hG : ∀ g, G ≤ g → shawmref14_Reflect.l2 g (o : Int) (UU x h o) (VV x h o) [] 1 = some R) :
    ∀ (d i f : Nat), i + d = o → G + d + 8200 < f → shawmref14_Reflect.l1 f x (o : Int) (h : Int) ((UU x h o).take i) ((VV x h o).take i) (o : Int) (i : Int) = some R
  | 0, i, f, hi, hf => by
    obtain ⟨g, rfl⟩ : ∃ g, f = g + 1 := ⟨f - 1, by omega⟩
    rw [shawmref14_Reflect.l1, if_neg (by omega), List.take_of_length_le (by simp [UU]; omega), List.take_of_length_le (by simp [VV]; omega)]
    exact hG g (by omega)
  | d + 1, i, f, hi, hf => by
    obtain ⟨g, rfl⟩ : ∃ g, f = g + 1 := ⟨f - 1, by omega⟩
    have p1 := products_f x hx hl (i + 1) (by omega) g (by omega)
    have p0 := products_f x hx hl i (by omega) g (by omega)
    rw [shawmref14_Reflect.l1, if_pos (by omega), wrap64_id (x := (i : Int) + 1) (by omega) (by omega), show (i : Int) + 1 = ((i + 1 : Nat) : Int) by omega, p1]
    simp only [Option.bind_some]
    rw [if_pos (by omega), if_pos (by simp [UU]; omega), p0]
    simp only [Option.bind_some]
    rw [if_pos (by simp [VV]; omega), shr_nat _ h (by omega), shr_nat _ h (by omega)]
    have ih := l1_ok x hx hl o h ho hh R G hG d (i + 1) g (by omega) (by omega)
    unfold UU VV at ih ⊢
    rw [take_map_succ _ o i (by omega), take_map_succ _ o i (by omega)] at ih
    exact ih
theorem l0_ok (x : List Int) (hx : within 2097152 x) (hl : x.length ≤ 8192) (o : Nat) (R : List Int × Int) (G : Nat) (hs0 : 0 ≤ (prods x 0).sum) (hs1 : (prods x 0).sum ≤ 39582418599936000)
    (hG : ∀ g, G ≤ g → shawmref14_Reflect.l1 g x (o : Int) (shf (prods x 0).sum : Int) [] [] (o : Int) 0 = some R) : ∀ (d h f : Nat), h + d = 27 → G + d + 8200 < f → shf (prods x 0).sum = shfrom (prods x 0).sum (64 - h) h → shawmref14_Reflect.l0 f x (o : Int) (h : Int) = some R := by
  intro d
  induction d with
  | zero =>
    intro h f hd hf he
    obtain ⟨g, rfl⟩ : ∃ g, f = g + 1 := ⟨f - 1, by omega⟩
    have hlt : (prods x 0).sum / 2 ^ h < 1073741824 := by
      apply Int.not_le.1
      intro hq
      have := div_pow_le _ h hs0 hs1 hq
      omega
    rw [show 64 - h = (63 - h) + 1 by omega, shfrom_stop _ _ _ hlt] at he
    have p0 := products_f x hx hl 0 (by omega) g (by omega)
    rw [shawmref14_Reflect.l0, show (0 : Int) = ((0 : Nat) : Int) from rfl, p0]
    simp only [Option.bind_some]
    rw [if_pos (by omega), shr_nat _ h (by omega), if_neg (by omega), ← he]
    exact hG g (by omega)
  | succ d ih =>
    intro h f hd hf he
    obtain ⟨g, rfl⟩ : ∃ g, f = g + 1 := ⟨f - 1, by omega⟩
    have p0 := products_f x hx hl 0 (by omega) g (by omega)
    rw [shawmref14_Reflect.l0, show (0 : Int) = ((0 : Nat) : Int) from rfl, p0]
    simp only [Option.bind_some]
    rw [if_pos (by omega), shr_nat _ h (by omega)]
    by_cases hq : (prods x 0).sum / 2 ^ h < 1073741824
    · rw [show 64 - h = (63 - h) + 1 by omega, shfrom_stop _ _ _ hq] at he
      rw [if_neg (by omega), ← he]
      exact hG g (by omega)
    · rw [show 64 - h = (64 - (h + 1)) + 1 by omega, shfrom_step _ _ _ (by omega)] at he
      rw [if_pos (by omega), wrap64_id (x := (h : Int) + 1) (by omega) (by omega)]
      exact ih (h + 1) g (by omega) (by omega) he
theorem normd_eq (x : List Int) (hx : within 2097152 x) (hl : x.length ≤ 8192) (o : Nat) : normd x o = (List.range (o + 1)).map fun j => (prods x j).sum / 2 ^ shf (prods x 0).sum := by
  have hS : rd (autos x o) 0 = (prods x 0).sum := by
    have : rd (autos x o) 0 = wsum (prods x 0) := by simp [autos, rd, List.getD_eq_getElem?_getD]
    rw [this, (wsum_prods hx (by omega) 0).1]
  unfold normd
  rw [hS]
  unfold autos
  rw [List.map_map]
  apply List.map_congr_left
  intro j _
  show wsum (prods x j) / _ = _
  rw [(wsum_prods hx (by omega) j).1]
theorem tail_eq (x : List Int) (hx : within 2097152 x) (hl : x.length ≤ 8192) (o : Nat) : (normd x o).tail = UU x (shf (prods x 0).sum) o := by
  rw [normd_eq x hx hl o, List.range_succ_eq_map]
  simp [UU, Function.comp_def]
theorem take_eq (x : List Int) (hx : within 2097152 x) (hl : x.length ≤ 8192) (o : Nat) : (normd x o).take o = VV x (shf (prods x 0).sum) o := by
  rw [normd_eq x hx hl o, List.range_succ]
  simp [VV]
theorem bnd_tail {x : List Int} (hx : within 2097152 x) (hl : x.length ≤ 8192) (o : Nat) : bnd 1073741824 (UU x (shf (prods x 0).sum) o) ∧ bnd 1073741824 (VV x (shf (prods x 0).sum) o) := by
  have hb := normd_bnd hx (by omega) o
  rw [← tail_eq x hx hl o, ← take_eq x hx hl o]
  constructor
  · intro i
    rcases h : normd x o with _ | ⟨a, t⟩
    · simp [rd]
    · by_cases hi : 0 ≤ i
      · have := hb (i + 1)
        rw [h] at this
        rwa [show rd (a :: t) (i + 1) = rd t i from by unfold rd; rw [show (i + 1).toNat = i.toNat + 1 by omega]; rfl] at this
      · have := hb 1
        rw [h] at this
        rwa [show rd (a :: t) 1 = rd t i from by unfold rd; rw [show i.toNat = 0 by omega]; rfl] at this
  · intro i
    have h1 := hb i
    unfold rd at h1 ⊢
    rw [List.getD_eq_getElem?_getD] at h1 ⊢
    rw [List.getElem?_take]
    split
    · exact h1
    · simp
theorem shfrom_le (S : Int) (h0 : 0 ≤ S) (h1 : S ≤ 39582418599936000) : ∀ d h : Nat, h + d = 27 → shfrom S (64 - h) h ≤ 27
  | 0, h, hd => by
    have hlt : S / 2 ^ h < 1073741824 := by
      apply Int.not_le.1
      intro hq
      have := div_pow_le _ h h0 h1 hq
      omega
    rw [show 64 - h = (63 - h) + 1 by omega, shfrom_stop _ _ _ hlt]
    omega
  | d + 1, h, hd => by
    by_cases hq : S / 2 ^ h < 1073741824
    · rw [show 64 - h = (63 - h) + 1 by omega, shfrom_stop _ _ _ hq]
      omega
    · rw [show 64 - h = (64 - (h + 1)) + 1 by omega, shfrom_step _ _ _ (by omega)]
      exact shfrom_le S h0 h1 d (h + 1) (by omega)
theorem ref_reflect (x : List Int) (k : Int) (hx : x.length ≤ 9000) : shawmref14_Reflect.f 60000 x k = linear_Reflect.f x k := by
  have hl : x.length ≤ 9223372036854775807 := by omega
  unfold linear_Reflect.f shawmref14_Reflect.f
  rw [if_pos hl]
  by_cases h1 : k < 0
  · rw [if_pos h1, if_pos (Or.inl h1), shawmref14_Reflect.j0, if_pos rfl]
  · rw [if_neg h1]
    by_cases h2 : k > 12
    · rw [decide_eq_true h2, if_pos (Or.inr h2), shawmref14_Reflect.j0, if_pos rfl]
    · rw [decide_eq_false h2, if_neg (show ¬ (k < 0 ∨ 12 < k) by omega), shawmref14_Reflect.j0, if_neg (by decide), list_f x 2097152 (by omega) (by omega) 59999 (by omega)]
      simp only [Option.bind_some]
      by_cases hc : chk x 2097152 = 0
      · obtain ⟨hxl, hxw⟩ := chk_zero hc
        obtain ⟨o, rfl⟩ : ∃ o : Nat, k = o := ⟨k.toNat, by omega⟩
        rw [if_pos hc, if_pos hc, Int.toNat_natCast]
        have hs := wsum_prods hxw (by omega) 0
        have hs0 := prods_zero_nonneg hxw (by omega)
        rw [hs.1] at hs0 hs
        have hb := bnd_tail hxw hxl o
        have hsh : shf (prods x 0).sum ≤ 27 := shfrom_le _ hs0 hs.2.2 27 0 (by omega)
        have hG2 : ∀ g, 20 * o + 1 ≤ g → shawmref14_Reflect.l2 g (o : Int) (UU x (shf (prods x 0).sum) o) (VV x (shf (prods x 0).sum) o) [] 1 = some (reflected x o, 0) := by
          intro g hg
          have := l2_ok o (UU x (shf (prods x 0).sum) o) (VV x (shf (prods x 0).sum) o) (by simp [UU]) (by simp [VV]) hb.1 hb.2 (by omega) o 0 g (by omega) (by omega)
          unfold reflected
          rw [tail_eq x hxw hxl o, take_eq x hxw hxl o]
          exact this
        have hG1 : ∀ g, 20 * o + 1 + o + 8201 ≤ g → shawmref14_Reflect.l1 g x (o : Int) (shf (prods x 0).sum : Int) [] [] (o : Int) 0 = some (reflected x o, 0) := fun g hg =>
          l1_ok x hxw hxl o _ (by omega) hsh _ _ hG2 o 0 g (by omega) (by omega)
        exact l0_ok x hxw hxl o _ _ hs0 hs.2.2 hG1 27 0 59999 (by omega) (by omega) rfl
      · rw [if_neg hc, if_neg hc]
end Go.Proofs.YtjcijaojcgampaaGreatDoor.P.Lin
end
