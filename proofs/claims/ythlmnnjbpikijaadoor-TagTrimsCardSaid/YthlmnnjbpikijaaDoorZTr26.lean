/- The values of the reference's Trim and Grown. -/
import Derived.Test.YthlmnnjbpikijaaDoorZTr19
import Derived.Test.YthlmnnjbpikijaaDoorZTr24
import Derived.Test.YthlmnnjbpikijaaDoorZTr23
import Derived.Test.YthlmnnjbpikijaaDoorZTr25
namespace Go.Proofs.YthlmnnjbpikijaaDoor.P
open Go.RowKit Go.Shelf Go.Proofs.YthlmnnjbpikijaaDoor.Bits Go.Proofs.YthlmnnjbpikijaaDoorW.PrintWords Go.Proofs.YthlmnnjbpikijaaDoorW.PrintLast Go.Proofs.YthlmnnjbpikijaaDoorW.PrintMore
set_option linter.unusedVariables false
set_option linter.unusedSimpArgs false
theorem leo_le {α : Type} {g : Nat → Option α} (hm : ∀ k, LeO (g k) (g (k + 1))) {a b : Nat} {x : α} (h : g a = some x) (hab : a ≤ b) : g b = some x := by
  induction hab with
  | refl => exact h
  | step _ ih => exact hm _ _ ih
theorem check02_val (r : Int) (ls : List (List Int)) (hl : ls.length ≤ 1000000000) (k : Nat) (hk : 20000 ≤ k) : shawmref02_Check.f k r ls = some (if okSnd r ls = true then 0 else 1) := by
  have h : shawmref02_Check.f 20000 r ls = some (if okSnd r ls = true then 0 else 1) := by
    unfold shawmref02_Check.f
    rw [valid_val r ls hl, Option.bind_some]
    split <;> rfl
  exact leo_le (g := fun k => shawmref02_Check.f k r ls) (fun k => shawmref02_Check.mono r ls k) h hk
theorem drop_L {β : Type} (f : List Int → β) (ls : List (List Int)) (i : Nat) (h : i < ls.length) : (ls.drop i).map f = f (lth ls i) :: (ls.drop (i + 1)).map f := by
  rw [List.drop_eq_getElem_cons h, List.map_cons]
  unfold lth
  rw [List.getD_eq_getElem?_getD, List.getElem?_eq_getElem h]
  rfl
theorem rd_L (ls : List (List Int)) (i : Nat) : rd_L5 ls (i : Int) = lth ls i := by unfold rd_L5; rw [Int.toNat_natCast]
theorem trim_l0 (r : Int) (ls : List (List Int)) (hl : ls.length ≤ 2) (n0 sk cu : Nat) (hn : n0 ≤ 8192) (hfit : sk + cu ≤ n0) (hlen : ∀ j, j < ls.length → (lth ls j).length = n0) (l : List S56) : ∀ (d i k : Nat) (acc : List (List Int)), d = ls.length - i → i ≤ ls.length → acc.length ≤ 10 * i → d < k → shawmref27_Trim.l0 k ls (ls.length : Int) (i : Int) (sk : Int) (cu : Int) l r acc = some (r, acc ++ (ls.drop i).map (cutR sk (n0 - cu)), 0)
  | 0, i, k + 1, acc, hd, hi, ha, hk => by
    have : i = ls.length := by omega
    subst this
    rw [shawmref27_Trim.l0, if_neg (by omega), List.drop_length]
    simp
  | d + 1, i, k + 1, acc, hd, hi, ha, hk => by
    have hlt : i < ls.length := by omega
    have hli := hlen i hlt
    have hw : wrap64 (((lth ls i).length : Int) - (cu : Int)) = ((n0 - cu : Nat) : Int) := by rw [hli, wrap64_id (by omega) (by omega)]; omega
    rw [shawmref27_Trim.l0, if_pos (by omega), if_pos (by omega), if_pos (by omega), Option.bind_some, rd_L, hw, if_pos (by omega), if_pos (by omega), if_pos (by omega), Int.toNat_natCast, Int.toNat_natCast,
      if_pos (by rw [List.length_drop, List.length_take]; simp; omega), if_pos (by omega), wrap64_id (by omega) (by omega), show (i : Int) + 1 = ((i + 1 : Nat) : Int) by omega,
      trim_l0 r ls hl n0 sk cu hn hfit hlen l d (i + 1) k _ (by omega) (by omega) (by simp; omega) (by omega), drop_L _ ls i hlt]
    simp [cutR]
theorem trim_val (r : Int) (ls : List (List Int)) (s u : Int) (l : List S56) (hls : ls.length ≤ 1000000000) (hl : l.length ≤ 140737488355328) (M : Nat) (hM : ∀ p ∈ l, p.f0.size ≤ M) (hM2 : M ≤ 140737488355328) (k : Nat) (hk : M + 2 * l.length + 20003 < k) : shawmref27_Trim.f k r ls s u l = some (fTrim r ls ⟨s, u, l⟩) := by
  obtain ⟨k, rfl⟩ : ∃ k', k = k' + 1 := ⟨k - 1, by omega⟩
  unfold shawmref27_Trim.f fTrim
  rw [check02_val r ls hls (k + 1) (by omega), Option.bind_some]
  by_cases ho : okSnd r ls = true
  · rw [if_pos ho, if_pos rfl, right_val s u l hl M hM hM2 (k + 1) (by omega), Option.bind_some, shawmref27_Trim.j0]
    by_cases ht : okT ⟨s, u, l⟩ = true
    · rw [ht, if_neg (by decide), if_pos ⟨ho, rfl⟩]
      obtain ⟨-, ⟨h1, h2⟩, hch⟩ := (okSnd_iff r ls).1 ho
      have htk := okT_fs ht
      obtain ⟨-, -, hs, hu⟩ := htk
      unfold okN at hs hu
      simp only [decide_eq_true_eq] at hs hu
      obtain ⟨sk, rfl⟩ : ∃ sk : Nat, s = (sk : Int) := ⟨s.toNat, by omega⟩
      obtain ⟨cu, rfl⟩ : ∃ cu : Nat, u = (cu : Int) := ⟨u.toNat, by omega⟩
      have hlen : ∀ j, j < ls.length → (lth ls j).length = (lth ls 0).length ∧ (lth ls j).length ≤ 8192 := fun j hj => by
        have := hch j hj
        unfold okCh at this
        simp only [Bool.and_eq_true, decide_eq_true_eq] at this
        exact this.1
      have h08 := (hlen 0 (by omega)).2
      have hLen : shawmref27_Len.f r ls = some ((lth ls 0).length : Int) := by unfold shawmref27_Len.f; rw [if_pos (by omega)]; rfl
      rw [hLen, Option.bind_some, wrap64_id (by omega) (by omega)]
      dsimp only
      by_cases hb : ((lth ls 0).length : Int) < (sk : Int) + (cu : Int)
      · rw [if_pos hb, if_pos hb]
      · rw [if_neg hb, if_neg hb, Int.toNat_natCast, Int.toNat_natCast, show (0 : Int) = ((0 : Nat) : Int) from rfl,
          trim_l0 r ls h2 (lth ls 0).length sk cu h08 (by omega) (fun j hj => (hlen j hj).1) l ls.length 0 k [] (by omega) (by omega) (by simp) (by omega)]
        simp
    · rw [show okT ⟨s, u, l⟩ = false by simpa using ht, if_pos (by decide), if_neg (by simp)]
  · rw [if_neg ho, if_neg (by decide), if_neg (fun q => ho q.1), shawmref27_Trim.j0, if_pos rfl]
theorem grown_l0 (r : Int) (ls : List (List Int)) (hl : ls.length ≤ 2) (n0 sk wh : Nat) (hn : n0 ≤ 8192) (hwh : wh ≤ 8192) (hfit : sk + n0 ≤ wh) (hlen : ∀ j, j < ls.length → (lth ls j).length = n0) : ∀ (d i k : Nat) (acc : List (List Int)), d = ls.length - i → i ≤ ls.length → acc.length ≤ 10 * i → d < k → shawmref27_Grown.l0 k (sk : Int) ((wh - (sk + n0) : Nat) : Int) ls (ls.length : Int) (i : Int) r acc = some (r, acc ++ (ls.drop i).map (padded sk wh), (sk : Int), ((wh - (sk + n0) : Nat) : Int), [], 0)
  | 0, i, k + 1, acc, hd, hi, ha, hk => by
    have : i = ls.length := by omega
    subst this
    rw [shawmref27_Grown.l0, if_neg (by omega), List.drop_length]
    simp
  | d + 1, i, k + 1, acc, hd, hi, ha, hk => by
    have hlt : i < ls.length := by omega
    have hli := hlen i hlt
    rw [shawmref27_Grown.l0, if_pos (by omega), if_pos (by omega), if_pos (by omega), if_pos (by omega), Int.toNat_natCast, if_pos (by omega), Option.bind_some, rd_L, if_pos (by simp only [List.length_replicate]; omega), Option.bind_some, if_pos (by omega), Int.toNat_natCast,
      if_pos (by simp only [List.length_replicate, List.length_append]; omega), if_pos (by omega), wrap64_id (by omega) (by omega), show (i : Int) + 1 = ((i + 1 : Nat) : Int) by omega,
      grown_l0 r ls hl n0 sk wh hn hwh hfit hlen d (i + 1) k _ (by omega) (by omega) (by simp; omega) (by omega), drop_L _ ls i hlt]
    have e : wh - sk - (lth ls i).length = wh - (sk + n0) := by omega
    unfold padded zeros
    rw [e, List.append_assoc]
    simp
theorem cut_val (n : Nat) (hn : n ≤ 100000) : Int.tmod (wrap64 (128 - Int.tmod (n : Int) 128)) 128 = ((wholeN n - n : Nat) : Int) ∧ (n : Int) + ((wholeN n - n : Nat) : Int) = (wholeN n : Int) := by
  have h1 : Int.tmod (n : Int) 128 = (n : Int) % 128 := Int.tmod_eq_emod_of_nonneg (by omega)
  rw [h1, wrap64_id (by omega) (by omega), Int.tmod_eq_emod_of_nonneg (by omega)]
  unfold wholeN
  omega
theorem grown_val (r : Int) (ls : List (List Int)) (skip : Int) (hls : ls.length ≤ 1000000000) (k : Nat) (hk : 20000 < k) : shawmref27_Grown.f k r ls skip = some ((fGrown r ls skip).rate, (fGrown r ls skip).ls, (fGrown r ls skip).tag.skip, (fGrown r ls skip).tag.cut, [], (fGrown r ls skip).err) := by
  unfold shawmref27_Grown.f fGrown
  rw [check02_val r ls hls k (by omega), Option.bind_some]
  by_cases ho : okSnd r ls = true
  · rw [if_pos ho, if_pos rfl, if_pos ho]
    obtain ⟨-, ⟨h1, h2⟩, hch⟩ := (okSnd_iff r ls).1 ho
    by_cases hs : okN skip = true
    · rw [if_pos hs]
      unfold okN at hs
      simp only [decide_eq_true_eq] at hs
      obtain ⟨sk, rfl⟩ : ∃ sk : Nat, skip = (sk : Int) := ⟨skip.toNat, by omega⟩
      rw [if_neg (by omega), if_neg (by omega)]
      have hlen : ∀ j, j < ls.length → (lth ls j).length = (lth ls 0).length ∧ (lth ls j).length ≤ 8192 := fun j hj => by
        have := hch j hj
        unfold okCh at this
        simp only [Bool.and_eq_true, decide_eq_true_eq] at this
        exact this.1
      have h08 := (hlen 0 (by omega)).2
      have hLen : shawmref27_Len.f r ls = some ((lth ls 0).length : Int) := by unfold shawmref27_Len.f; rw [if_pos (by omega)]; rfl
      rw [hLen, Option.bind_some, Int.toNat_natCast]
      obtain ⟨n0, hn0⟩ : ∃ n0, (lth ls 0).length = n0 := ⟨_, rfl⟩
      rw [hn0] at hlen h08 ⊢
      have hw : wrap64 ((sk : Int) + (n0 : Int)) = ((sk + n0 : Nat) : Int) := by rw [wrap64_id (by omega) (by omega)]; omega
      obtain ⟨c1, c2⟩ := cut_val (sk + n0) (by omega)
      rw [hw, c1, c2, wrap64_id (by have := (whole_ge (sk + n0)); omega) (by have := (whole_ge (sk + n0)); omega)]
      by_cases hb : 8192 < wholeN (sk + n0)
      · rw [if_pos (by omega), if_pos hb]
        rfl
      · rw [if_neg (by omega), if_neg hb, show (0 : Int) = ((0 : Nat) : Int) from rfl,
          grown_l0 r ls h2 n0 sk (wholeN (sk + n0)) h08 (by omega) (whole_ge (sk + n0)).1 (fun j hj => (hlen j hj).1) ls.length 0 k [] (by omega) (by omega) (by simp) (by omega)]
        simp
    · rw [if_neg hs]
      by_cases h3 : skip < 0
      · rw [if_pos h3]; rfl
      · rw [if_neg h3, if_pos (by unfold okN at hs; simp at hs; omega)]; rfl
  · rw [if_neg ho, if_neg (by decide), if_neg ho]
    rfl
end Go.Proofs.YthlmnnjbpikijaaDoor.P
