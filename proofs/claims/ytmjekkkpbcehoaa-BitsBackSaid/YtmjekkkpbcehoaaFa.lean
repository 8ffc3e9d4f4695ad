/- What was written is read again: plain law. -/
import Derived.Test.YtmjekkkpbcehoaaDb
import Derived.Test.YtmjekkkpbcehoaaEd
namespace Go.Proofs.Ytmjekkkpbcehoaa.P
open Go.RowKit Go.Shelf Go.Proofs.Ytmjekkkpbcehoaa.Bits Go.Proofs.YtmjekkkpbcehoaaW.PrintWords Go.Proofs.YtmjekkkpbcehoaaW.PrintLast Go.Proofs.YtmjekkkpbcehoaaW.PrintMore
set_option linter.unusedVariables false
set_option linter.unusedSimpArgs false

theorem wput_ok {L M : List Int} (h : (wput L M).1 = 0) : (wput L M).2 = L ++ M := by
  unfold wput putE putL at *
  dsimp only at *
  split at h
  · omega
  · rename_i q; rw [if_neg q]
theorem back_drop (L M R : List Int) : ((L ++ M) ++ R).drop L.length = M ++ R := by rw [List.append_assoc, List.drop_left]
theorem back_take (L M R : List Int) : (((L ++ M) ++ R).drop L.length).take M.length = M := by rw [back_drop, List.take_left]
theorem back_put (L R : List Int) (v n : Int) (h : (wPut L v n).1 = 0) : rGet ((wPut L v n).2 ++ R) L.length n = (v, 0, (wPut L v n).2.length) := by
  unfold wPut at *
  split at h
  · simp at h
  · rename_i q
    rw [if_neg q, wput_ok h]
    obtain ⟨m, rfl⟩ : ∃ m : Nat, n = m := ⟨n.toNat, by omega⟩
    rw [Int.toNat_natCast] at *
    have hl := numb_length v m
    have hv := val_numb v m
    unfold rGet
    have ht := back_take L (numb v m) R
    rw [hl] at ht
    rw [if_neg (by omega), if_neg (by simp [hl]; omega), Int.toNat_natCast, ht, hv, Int.emod_eq_of_lt (by omega) (by omega), List.length_append, hl]
theorem back_signed (L R : List Int) (v n : Int) (h : (wSigned L v n).1 = 0) : rSigned ((wSigned L v n).2 ++ R) L.length n = (v, 0, (wSigned L v n).2.length) := by
  unfold wSigned at *
  split at h
  · simp at h
  · rename_i q
    rw [if_neg q, wput_ok h]
    obtain ⟨m, rfl⟩ : ∃ m : Nat, n = m := ⟨n.toNat, by omega⟩
    rw [Int.toNat_natCast] at *
    have hl := numb_length (v % 2 ^ m) m
    have hv := val_numb (v % 2 ^ m) m
    have ht := back_take L (numb (v % 2 ^ m) m) R
    rw [hl] at ht
    unfold rSigned
    rw [if_neg (by omega), if_neg (by simp [hl]; omega), Int.toNat_natCast, ht, hv, Int.emod_emod_of_dvd _ (Int.dvd_refl _), List.length_append, hl]
    have hp : (2 : Int) ^ m = 2 * 2 ^ (m - 1) := by
      obtain ⟨k, rfl⟩ : ∃ k, m = k + 1 := ⟨m - 1, by omega⟩
      rw [Nat.add_sub_cancel, Int.pow_succ]; omega
    have hp0 : (0 : Int) < 2 ^ (m - 1) := Int.pow_pos (by omega)
    have hs : sgn (v % 2 ^ m) m = v := by
      unfold sgn
      by_cases h0 : 0 ≤ v
      · rw [Int.emod_eq_of_lt h0 (by omega), if_neg (by omega)]
      · have e : v % 2 ^ m = v + 2 ^ m := by
          rw [← Int.add_emod_right, Int.emod_eq_of_lt (by omega) (by omega)]
        rw [e, if_pos (by omega)]; omega
    rw [hs]
theorem zs_zeros (k : Nat) (b : Int) (R : List Int) (hb : b ≠ 0) : zs (List.replicate k 0 ++ b :: R) = k := by
  induction k with
  | zero => simp [zs, hb]
  | succ k ih => rw [List.replicate_succ, List.cons_append, zs, if_pos rfl, ih]
theorem back_unary (L R : List Int) (v : Int) (h : (wUnary L v).1 = 0) : rUnary ((wUnary L v).2 ++ R) L.length 1000 = (v, 0, (wUnary L v).2.length) := by
  unfold wUnary at *
  split at h
  · simp at h
  · rename_i q
    rw [if_neg q, wput_ok h]
    obtain ⟨m, rfl⟩ : ∃ m : Nat, v = m := ⟨v.toNat, by omega⟩
    rw [Int.toNat_natCast] at *
    have h1 : numb 1 1 = [1] := by decide
    rw [h1, numb_zero]
    have hz : zs (((L ++ (List.replicate m 0 ++ [1])) ++ R).drop L.length) = m := by
      rw [back_drop, List.append_assoc]; exact zs_zeros m 1 R (by decide)
    unfold rUnary rZeros
    rw [if_neg (by omega), show (1000 : Int).toNat = 1000 from rfl, hz, if_neg (by omega), if_pos (by simp)]
    simp; omega
theorem lg_bounds {v : Int} (h : 1 ≤ v) (h2 : v < 2097152) : 2 ^ lg v ≤ v ∧ v < 2 ^ (lg v + 1) ∧ lg v ≤ 20 := by
  obtain ⟨x, rfl⟩ : ∃ x : Nat, v = x := ⟨v.toNat, by omega⟩
  unfold lg
  rw [Int.toNat_natCast]
  have h1 := Nat.log2_self_le (n := x) (by omega)
  have h3 := Nat.lt_log2_self (n := x)
  have e1 : ((2 ^ x.log2 : Nat) : Int) = (2 : Int) ^ x.log2 := Int.natCast_pow 2 _
  have e2 : ((2 ^ (x.log2 + 1) : Nat) : Int) = (2 : Int) ^ (x.log2 + 1) := Int.natCast_pow 2 _
  refine ⟨by omega, by omega, ?_⟩
  apply Nat.le_of_not_lt
  intro hc
  have := Nat.pow_le_pow_right (show 0 < 2 by omega) (show 21 ≤ x.log2 by omega)
  omega
theorem numb_head (v : Int) (k : Nat) : ∃ M, numb v (k + 1) = (v / 2 ^ k % 2) :: M ∧ M.length = k := by
  have hl := numb_length v (k + 1)
  cases hM : numb v (k + 1) with
  | nil => rw [hM] at hl; simp at hl
  | cons b M =>
    rw [hM] at hl
    refine ⟨M, ?_, by simpa using hl⟩
    have : (numb v (k + 1)).getD 0 0 = v / 2 ^ k % 2 := by simp [numb]
    rw [hM] at this
    simp at this
    rw [this]
theorem back_gamma (L R : List Int) (v : Int) (h : (wGamma L v).1 = 0) : rGamma ((wGamma L v).2 ++ R) L.length = (v, 0, (wGamma L v).2.length) := by
  unfold wGamma at *
  split at h
  · simp at h
  · rename_i q
    rw [if_neg q, wput_ok h]
    obtain ⟨b1, b2, b3⟩ := lg_bounds (v := v) (by omega) (by omega)
    generalize lg v = k at *
    obtain ⟨M, hM, hMl⟩ := numb_head v k
    have hp : (2 : Int) ^ (k + 1) = 2 * 2 ^ k := by rw [Int.pow_succ]; omega
    have hd : v / 2 ^ k = 1 := by
      have hp0 : (0 : Int) < 2 ^ k := Int.pow_pos (by omega)
      have e1 : 1 ≤ v / 2 ^ k := (Int.le_ediv_iff_mul_le hp0).2 (by omega)
      have e2 : v / 2 ^ k < 2 := (Int.ediv_lt_iff_lt_mul hp0).2 (by omega)
      omega
    rw [hd] at hM
    have hM1 : numb v (k + 1) = 1 :: M := hM
    have hv := val_numb v (k + 1)
    rw [hM1, val_cons, hMl, Int.emod_eq_of_lt (by omega) b2] at hv
    rw [hM1, numb_zero]
    have hdr : ((L ++ (List.replicate k 0 ++ 1 :: M)) ++ R).drop L.length = List.replicate k 0 ++ 1 :: (M ++ R) := by
      rw [back_drop, List.append_assoc]; rfl
    have hz := zs_zeros k 1 (M ++ R) (by decide)
    have hrz : rZeros ((L ++ (List.replicate k 0 ++ 1 :: M)) ++ R) L.length 20 = ((k : Int), 0, L.length + k + 1) := by
      unfold rZeros
      rw [hdr, hz, if_neg (by omega), if_pos (by simp)]
    have hd2 : ((L ++ (List.replicate k 0 ++ 1 :: M)) ++ R).drop (L.length + k + 1) = M ++ R := by
      rw [Nat.add_assoc, ← List.drop_drop, hdr, show k + 1 = (List.replicate k (0 : Int)).length + 1 by simp, ← List.drop_drop, List.drop_left]; rfl
    unfold rGamma
    rw [hrz]
    dsimp only
    rw [if_neg (by decide), if_neg (by simp; omega), Int.toNat_natCast, hd2, ← hMl, List.take_left, hMl]
    refine Prod.ext (by dsimp only; omega) (Prod.ext rfl ?_)
    simp [hMl]; omega
theorem back_align (L R : List Int) (b : Int) (h : (wAlign L b).1 = 0) : rAlign ((wAlign L b).2 ++ R) L.length = (wAlign L b).2.length ∧ (wAlign L b).2.length % 8 = 0 := by
  unfold wAlign at *
  split at h
  · simp at h
  · rename_i q
    rw [if_neg q]
    unfold rAlign padN
    simp
    omega
theorem back_append (L R B : List Int) (n : Int) (h : (wAppend L B n).1 = 0) : rTake ((wAppend L B n).2 ++ R) L.length n = (ofB B n.toNat, 0, (wAppend L B n).2.length) ∧ 0 ≤ n ∧ n ≤ 8 * B.length := by
  unfold wAppend at *
  split at h
  · simp at h
  · rename_i q
    rw [if_neg q, wput_ok h]
    obtain ⟨m, rfl⟩ : ∃ m : Nat, n = m := ⟨n.toNat, by omega⟩
    rw [Int.toNat_natCast] at *
    have hl := ofB_length B m
    have ht := back_take L (ofB B m) R
    rw [hl] at ht
    unfold rTake
    rw [if_neg (by omega), if_neg (by simp [hl]; omega), Int.toNat_natCast, ht, List.length_append, hl]
    exact ⟨rfl, by omega, by omega⟩
theorem wput_ext (L M : List Int) : ∃ E, (wput L M).2 = L ++ E := by
  unfold wput putL
  dsimp only
  split
  · exact ⟨[], by simp⟩
  · exact ⟨M, rfl⟩
theorem wOp_ext (L : List Int) (o : OpD) : ∃ E, (wOp L o).2 = L ++ E := by
  have nil : ∃ E, L = L ++ E := ⟨[], by simp⟩
  unfold wOp
  split
  · unfold wPut; split; exact nil; exact wput_ext _ _
  · unfold wSigned; split; exact nil; exact wput_ext _ _
  · unfold wUnary; split; exact nil; exact wput_ext _ _
  · unfold wGamma; split; exact nil; exact wput_ext _ _
  · unfold wAlign; split; exact nil; exact ⟨_, rfl⟩
  · unfold wAppend; split; exact nil; exact wput_ext _ _
theorem wRun_ext : ∀ (l : List OpD) (L : List Int), ∃ R, wRunFrom L l = L ++ R
  | [], L => ⟨[], by simp [wRunFrom]⟩
  | o :: r, L => by
    obtain ⟨E, hE⟩ := wOp_ext L o
    obtain ⟨R, hR⟩ := wRun_ext r (wOp L o).2
    refine ⟨E ++ R, ?_⟩
    show wRunFrom (wOp L o).2 r = _
    rw [hR, hE, List.append_assoc]
theorem done_ok : ∀ (ops : List OpD) (L : List Int) (k : Nat) (h : k < (wDone L ops).length), (wOp (wRunFrom L ((wDone L ops).take k)) ((wDone L ops)[k])).1 = 0
  | [], L, k, h => by simp [wDone] at h
  | o :: r, L, k, h => by
    have key : ∀ D, D = wDone L (o :: r) → ∀ (hk : k < D.length), (wOp (wRunFrom L (D.take k)) (D[k])).1 = 0 := by
      intro D hD hk
      rw [wDone] at hD
      split at hD
      · rename_i h0
        subst hD
        cases k with
        | zero => exact h0
        | succ k => exact done_ok r (wOp L o).2 k (by simpa using hk)
      · rename_i h0
        subst hD
        have e := wOp_err L o h0
        have := done_ok r (wOp L o).2 k hk
        clear h0 h
        generalize (wOp L o).2 = L' at *
        subst e
        exact this
    exact key _ rfl h
/-- At each call that was done: what was there before, no error, and what comes after. -/
theorem back_at (ops : List OpD) (k : Nat) (h : k < (wDone [] ops).length) : ∃ R, (wOp (wRun ((wDone [] ops).take k)) (wDone [] ops)[k]).1 = 0 ∧ wRun (wDone [] ops) = (wOp (wRun ((wDone [] ops).take k)) (wDone [] ops)[k]).2 ++ R ∧ wRun ((wDone [] ops).take (k + 1)) = (wOp (wRun ((wDone [] ops).take k)) (wDone [] ops)[k]).2 := by
  have h1 := done_ok ops [] k h
  have h2 := wRun_take (wDone [] ops) k h
  obtain ⟨R, hR⟩ := wRun_ext ((wDone [] ops).drop (k + 1)) (wRun ((wDone [] ops).take (k + 1)))
  have h3 : wRun (wDone [] ops) = wRunFrom (wRun ((wDone [] ops).take (k + 1))) ((wDone [] ops).drop (k + 1)) := by
    have e := List.take_append_drop (k + 1) (wDone [] ops)
    conv => lhs; rw [← e]
    unfold wRun wRunFrom
    rw [List.foldl_append]
  exact ⟨R, h1, by rw [h3, hR, h2], h2⟩
end Go.Proofs.Ytmjekkkpbcehoaa.P
