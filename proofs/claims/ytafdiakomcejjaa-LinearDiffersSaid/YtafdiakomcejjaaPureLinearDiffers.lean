/- The plain law of LinearDiffers. -/
import Derived.Test.YtafdiakomcejjaaPf
import Derived.Test.YtafdiakomcejjaaQe
import Derived.Test.YtafdiakomcejjaaQf
namespace Go.Proofs.Ytafdiakomcejjaa.Pure
open Go.RowKit Go.Proofs.Ytafdiakomcejjaa.P Go.Proofs.YtafdiakomcejjaaW.PrintWords Go.Proofs.YtafdiakomcejjaaW.PrintLast
set_option linter.unusedVariables false
set_option linter.unusedSimpArgs false

theorem differences_l0 (x : List Int) (hx : within 1152921504606846976 x) (hl : x.length ≤ 9000) : ∀ (d i f : Nat), i + d = x.length → d < f → shawmref14_differences.l0 f ((dstep x).take i) (if i = 0 then 0 else rd x ((i : Int) - 1)) x (x.length : Int) (i : Int) = some (dstep x)
  | 0, i, f, h, hf => by
    obtain ⟨g, rfl⟩ : ∃ g, f = g + 1 := ⟨f - 1, by omega⟩
    rw [shawmref14_differences.l0, if_neg (by omega), List.take_of_length_le (by rw [dstep_length]; omega)]
  | d + 1, i, f, h, hf => by
    obtain ⟨g, rfl⟩ : ∃ g, f = g + 1 := ⟨f - 1, by omega⟩
    have b0 := within_rd hx (by omega) (i : Int)
    have b1 := within_rd hx (by omega) ((i : Int) - 1)
    have e : (dstep x).take (i + 1) = (dstep x).take i ++ [rd x (i : Int) - (if i = 0 then 0 else rd x ((i : Int) - 1))] := by
      rw [List.take_add_one, List.getElem?_eq_getElem (by rw [dstep_length]; omega)]
      have : (dstep x)[i]'(by rw [dstep_length]; omega) = dAt x i := by simp [dstep]
      rw [this]
      unfold dAt
      split
      · rename_i h0; subst h0; simp
      · simp
    have ih := differences_l0 x hx hl d (i + 1) g (by omega) (by omega)
    rw [if_neg (show ¬ i + 1 = 0 by omega), show ((i + 1 : Nat) : Int) - 1 = (i : Int) by omega] at ih
    rw [shawmref14_differences.l0, if_pos (by omega), if_pos (by omega), if_pos (by omega), if_pos (by rw [List.length_take, dstep_length]; omega), wrap64_id (x := (i : Int) + 1) (by omega) (by omega),
      wrap64_id (x := rd x (i : Int) - _) (by split <;> omega) (by split <;> omega), ← e]
    exact ih
theorem differences_f (x : List Int) (hx : within 1152921504606846976 x) (hl : x.length ≤ 9000) (f : Nat) (hf : 9000 < f) : shawmref14_differences.f f x = some (dstep x) := by
  unfold shawmref14_differences.f
  exact differences_l0 x hx hl x.length 0 f (by omega) (by omega)
theorem differ_l0 (x : List Int) (hx : within 2097152 x) (hl : x.length ≤ 8192) (n : Nat) (hn : n ≤ 4) : ∀ (d i f : Nat), i + d = n → 9010 < f - d → shawmref14_Differ.l0 f (diffs x i) (n : Int) (i : Int) = some (diffs x n, 0)
  | 0, i, f, h, hf => by
    obtain ⟨g, rfl⟩ : ∃ g, f = g + 1 := ⟨f - 1, by omega⟩
    obtain rfl : i = n := by omega
    rw [shawmref14_Differ.l0, if_neg (by omega)]
  | d + 1, i, f, h, hf => by
    obtain ⟨g, rfl⟩ : ∃ g, f = g + 1 := ⟨f - 1, by omega⟩
    have hw := within_mono (within_diffs hx i (by omega)) (show (33554432 : Int) ≤ 1152921504606846976 by omega)
    rw [shawmref14_Differ.l0, if_pos (by omega), differences_f _ hw (by rw [diffs_length]; omega) g (by omega)]
    simp only [Option.bind_some]
    rw [wrap64_id (x := (i : Int) + 1) (by omega) (by omega)]
    exact differ_l0 x hx hl n hn d (i + 1) g (by omega) (by omega)
theorem ref_differ (x : List Int) (k : Int) (hx : x.length ≤ 9000) : shawmref14_Differ.f 60000 x k = if k < 0 ∨ 4 < k then some ([], 1) else if chk x 2097152 = 0 then some (diffs x k.toNat, 0) else some ([], chk x 2097152) := by
  have j : shawmref14_Differ.j0 60000 x k false = if chk x 2097152 = 0 then (if k < 0 ∨ 4 < k then shawmref14_Differ.j0 60000 x k false else some (diffs x k.toNat, 0)) else some ([], chk x 2097152) := by
    by_cases hc : chk x 2097152 = 0
    · rw [if_pos hc]
      by_cases hk : k < 0 ∨ 4 < k
      · rw [if_pos hk]
      · rw [if_neg hk, shawmref14_Differ.j0, if_neg (by decide), list_f x 2097152 (by omega) (by omega) 59999 (by omega)]
        simp only [Option.bind_some]
        obtain ⟨hxl, hxw⟩ := chk_zero hc
        rw [if_pos hc, if_pos (by simp; omega), List.nil_append]
        obtain ⟨n, rfl⟩ : ∃ n : Nat, k = n := ⟨k.toNat, by omega⟩
        rw [Int.toNat_natCast]
        exact differ_l0 x hxw hxl n (by omega) n 0 59999 (by omega) (by omega)
    · rw [if_neg hc, shawmref14_Differ.j0, if_neg (by decide), list_f x 2097152 (by omega) (by omega) 59999 (by omega)]
      simp only [Option.bind_some]
      rw [if_neg hc]
  unfold shawmref14_Differ.f
  by_cases h1 : k < 0
  · rw [if_pos h1, if_pos (Or.inl h1), shawmref14_Differ.j0, if_pos rfl]
  · rw [if_neg h1]
    by_cases h2 : k > 4
    · rw [decide_eq_true h2, if_pos (Or.inr h2), shawmref14_Differ.j0, if_pos rfl]
    · rw [decide_eq_false h2, j, if_neg (show ¬ (k < 0 ∨ 4 < k) by omega), if_neg (show ¬ (k < 0 ∨ 4 < k) by omega)]

theorem ref_add (x : List Int) (k : Int) (hx : x.length ≤ 9000) : shawmref14_Add.f 60000 x k = linear_Add.f x k := by
  have hl : x.length ≤ 9223372036854775807 := by omega
  unfold linear_Add.f shawmref14_Add.f
  rw [if_pos hl, if_pos hl]
  by_cases h1 : k < 0 ∨ 4 < k
  · rw [if_pos h1, if_pos h1]
  · rw [if_neg h1, if_neg h1]
    by_cases hc : chk x 67108864 = 0
    · rw [if_pos hc, if_pos hc, ← sums_added x (chk_zero hc).1 k.toNat (by omega)]
      rfl
    · rw [if_neg hc, if_neg hc]
theorem add_some (x : List Int) (k : Int) (hx : x.length ≤ 9000) : ∃ r e, linear_Add.f x k = some (r, e) ∧ r.length ≤ 9000 := by
  unfold linear_Add.f
  rw [if_pos (by omega)]
  split
  · exact ⟨_, _, rfl, by simp⟩
  · split
    · cases h : sums x k.toNat with
      | none => exact ⟨_, _, rfl, by simp⟩
      | some y =>
        have := (diffs_sums _ x y h).2
        simp only
        split
        · exact ⟨_, _, rfl, by omega⟩
        · exact ⟨_, _, rfl, by simp⟩
    · exact ⟨_, _, rfl, by simp⟩
theorem differ_some (x : List Int) (k : Int) (hx : x.length ≤ 9000) : ∃ r e, linear_Differ.f x k = some (r, e) ∧ r.length ≤ 9000 ∧ shawmref14_Differ.f 60000 x k = some (r, e) := by
  rw [ref_differ x k hx]
  unfold linear_Differ.f
  rw [if_pos (by omega)]
  split
  · exact ⟨_, _, rfl, by simp, rfl⟩
  · split
    · exact ⟨_, _, rfl, by rw [diffs_length]; exact hx, rfl⟩
    · exact ⟨_, _, rfl, by simp, rfl⟩

theorem LinearDiffers : shawmlaw14_LinearDiffers.Pure := by
  intro x k _ _ _ _
  refine ⟨60000, ?_⟩
  unfold shawmlaw14_LinearDiffers.f
  by_cases h1 : (x.length : Int) > 9000
  · rw [if_pos h1]; rfl
  · rw [if_neg h1]
    obtain ⟨r, e, hd, hrl, hrd⟩ := differ_some x k (by omega)
    obtain ⟨s, e2, ha, hsl⟩ := add_some x k (by omega)
    rw [hd, hrd, ref_add x k (by omega), ha]
    simp only [Option.bind_some]
    rw [ints_refl r r rfl 60000 (by omega) (by omega)]
    simp only [Option.bind_some, if_true]
    rw [ints_refl s s rfl 60000 (by omega) (by omega)]
    rfl
end Go.Proofs.Ytafdiakomcejjaa.Pure
