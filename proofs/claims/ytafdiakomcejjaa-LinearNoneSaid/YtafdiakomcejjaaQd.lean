/- Plain laws of chapter 14: zeros in a filter predict nothing. -/
import Derived.Test.YtafdiakomcejjaaQc
namespace Go.Proofs.Ytafdiakomcejjaa.P
open Go.RowKit Go.Proofs.YtafdiakomcejjaaW.PrintWords Go.Proofs.YtafdiakomcejjaaW.PrintLast Go.Proofs.YtafdiakomcejjaaW.PrintMore
set_option linter.unusedVariables false
set_option linter.unusedSimpArgs false

theorem rnd_zero (b : Int) (h : 0 < b) : rnd 0 b = 0 := by
  unfold rnd
  rw [Int.mul_zero, Int.zero_add]
  exact Int.ediv_eq_zero_of_lt (by omega) (by omega)
theorem rd_app_left (a b : List Int) (i : Nat) (h : i < a.length) : rd (a ++ b) (i : Int) = rd a (i : Int) := by
  simp [rd, List.getD_eq_getElem?_getD, List.getElem?_append, h]
theorem rd_app_zeros (a : List Int) (z : Nat) (i : Nat) (h : a.length ≤ i) : rd (a ++ List.replicate z 0) (i : Int) = 0 := by
  simp only [rd, List.getD_eq_getElem?_getD, Int.toNat_natCast]
  rw [List.getElem?_append_right h, List.getElem?_replicate]
  split <;> rfl
theorem stepW_zero (a : List Int) : stepW a 0 = a ++ [0] := by
  unfold stepW
  unfold newW
  rw [List.drop_length, List.append_nil]
  congr 1
  refine rd_ext (by simp) (fun i hi => ?_)
  rw [rd_map]
  simp only [List.length_map, List.length_range] at hi
  simp only [Int.toNat_natCast]
  rw [if_pos hi, Int.zero_mul, rnd_zero 128 (by omega), Int.add_zero]
theorem fold_zeros (z : Nat) : ∀ a : List Int, (List.replicate z 0).foldl stepW a = a ++ List.replicate z 0 := by
  induction z with
  | zero => intro a; simp
  | succ z ih =>
    intro a
    rw [List.replicate_succ, List.foldl_cons, stepW_zero, ih, List.append_assoc]
    rfl
theorem wts_zeros (z : Nat) : wts (List.replicate z 0) = List.replicate z 0 := by
  unfold wts; rw [fold_zeros]; rfl
theorem wts_app_zeros (l : List Int) (z : Nat) : wts (l ++ List.replicate z 0) = wts l ++ List.replicate z 0 := by
  unfold wts; rw [List.foldl_append, fold_zeros]
theorem sum_map_zero (f : Nat → Int) : ∀ n, (∀ i, i < n → f i = 0) → ((List.range n).map f).sum = 0
  | 0, _ => rfl
  | n + 1, h => by rw [sum_range_succ, sum_map_zero f n (fun i hi => h i (by omega)), h n (by omega)]; rfl
theorem sum_congr (f g : Nat → Int) : ∀ n, (∀ i, i < n → f i = g i) → ((List.range n).map f).sum = ((List.range n).map g).sum
  | 0, _ => rfl
  | n + 1, h => by rw [sum_range_succ, sum_range_succ, sum_congr f g n (fun i hi => h i (by omega)), h n (by omega)]
theorem pacc_app (p x : List Int) (n z : Nat) : pacc (p ++ List.replicate z 0) x n (p.length + z) = pacc p x n p.length := by
  induction z with
  | zero => simp
  | succ z ih =>
    have e : ∀ i, i < p.length + z → pterm (p ++ List.replicate (z + 1) 0) x n i = pterm (p ++ List.replicate z 0) x n i := by
      intro i hi
      unfold pterm
      split
      · by_cases h : i < p.length
        · rw [rd_app_left _ _ _ h, rd_app_left _ _ _ h]
        · rw [rd_app_zeros _ _ _ (by omega), rd_app_zeros _ _ _ (by omega)]
      · rfl
    have l : pterm (p ++ List.replicate (z + 1) 0) x n (p.length + z) = 0 := by
      unfold pterm
      split
      · rw [rd_app_zeros _ _ _ (by omega), Int.zero_mul]
      · rfl
    rw [← Nat.add_assoc, pacc_succ, l, Int.add_zero, ← ih]
    exact sum_congr _ _ _ e
theorem pred_app (p x : List Int) (n z : Nat) : pred (p ++ List.replicate z 0) x n = pred p x n := by
  unfold pred
  rw [List.length_append, List.length_replicate, pacc_app]
theorem pred_nil (x : List Int) (n : Nat) : pred [] x n = 0 := rnd_zero 4096 (by omega)
theorem pred_zeros (x : List Int) (n z : Nat) : pred (List.replicate z 0) x n = 0 := by
  have := pred_app [] x n z
  rw [List.nil_append] at this
  rw [this, pred_nil]
theorem resid_of_zero (p x : List Int) (h : ∀ n, pred p x n = 0) : resid p x = x := by
  refine rd_ext (resid_length p x) (fun i hi => ?_)
  rw [resid_length] at hi
  unfold resid
  rw [rd_map]
  simp only [Int.toNat_natCast]
  rw [if_pos hi, h i]
  omega
theorem resid_app (p x : List Int) (z : Nat) : resid (p ++ List.replicate z 0) x = resid p x := by
  unfold resid
  simp only [pred_app]
theorem trimN_last (x : List Int) : ∀ n, 0 < trimN x n → rd x ((trimN x n : Nat) - 1 : Int) ≠ 0
  | 0, h => absurd h (by simp [trimN])
  | n + 1, h => by
    unfold trimN at h ⊢
    by_cases hz : rd x (n : Int) = 0
    · rw [if_pos hz] at h ⊢
      exact trimN_last x n h
    · rw [if_neg hz]
      rw [show ((n + 1 : Nat) : Int) - 1 = (n : Int) by omega]
      exact hz
theorem trimN_zeros (x : List Int) : ∀ n i : Nat, trimN x n ≤ i → i < n → rd x (i : Int) = 0
  | 0, i, _, h => absurd h (by omega)
  | n + 1, i, h1, h2 => by
    unfold trimN at h1
    by_cases hz : rd x (n : Int) = 0
    · rw [if_pos hz] at h1
      by_cases hi : i = n
      · subst hi; exact hz
      · exact trimN_zeros x n i h1 (by omega)
    · rw [if_neg hz] at h1; omega
theorem trimmed_app (x : List Int) : x = trimd x ++ List.replicate (x.length - trimN x x.length) 0 := by
  have hm := trimN_le x x.length
  have hl : (trimd x).length = trimN x x.length := by unfold trimd; rw [List.length_take]; omega
  refine rd_ext (by rw [List.length_append, hl, List.length_replicate]; omega) (fun i hi => ?_)
  by_cases h : i < trimN x x.length
  · rw [rd_app_left _ _ _ (by omega)]
    unfold trimd
    rw [rd_take _ _ _ (by omega)]
  · rw [rd_app_zeros _ _ _ (by omega)]
    exact trimN_zeros x x.length i (by omega) hi
end Go.Proofs.Ytafdiakomcejjaa.P
