/- The plain law of LinearNone. -/
import Derived.Test.YtafdiakomcejjaaPk
import Derived.Test.YtafdiakomcejjaaQd
namespace Go.Proofs.Ytafdiakomcejjaa.Pure
open Go.RowKit Go.Proofs.Ytafdiakomcejjaa.P Go.Proofs.YtafdiakomcejjaaW.PrintWords Go.Proofs.YtafdiakomcejjaaW.PrintLast
set_option linter.unusedVariables false
set_option linter.unusedSimpArgs false

theorem resid_c (x l : List Int) (hx : x.length ≤ 9000) (hl : l.length ≤ 100) (hf : isF l = true) : linear_Residual.f x l = if chk x 2097152 = 0 then some (resid (wts l) x, 0) else some ([], chk x 2097152) := by
  unfold linear_Residual.f
  rw [if_pos ⟨by omega, by omega⟩, if_neg (by rw [hf]; decide)]
theorem isF_zeros (z : Nat) (hz : z ≤ 12) : isF (List.replicate z 0) = true := by
  unfold isF
  rw [Bool.and_eq_true, decide_eq_true_eq, List.length_replicate, Bool.not_eq_true']
  refine ⟨hz, ?_⟩
  rw [List.any_eq_false]
  intro x hx
  rw [(List.mem_replicate.1 hx).2]
  decide
theorem isF_take (l : List Int) (n : Nat) (h : isF l = true) : isF (l.take n) = true := by
  obtain ⟨h1, h2⟩ := isF_within h
  unfold isF
  rw [Bool.and_eq_true, decide_eq_true_eq, List.length_take, Bool.not_eq_true']
  refine ⟨by omega, ?_⟩
  rw [List.any_eq_false]
  intro x hx
  have := h2 x (List.mem_of_mem_take hx)
  simp [outB]
  omega

theorem n2_ok (x l : List Int) (hx : x.length ≤ 9000) (hl : l.length ≤ 100) (hf : isF l = true) (n : Nat) (hn : 9001 < n) : shawmlaw14_LinearNone.j2 n x l (trimd l) false = some true := by
  obtain ⟨m, rfl⟩ : ∃ m, n = m + 1 := ⟨n - 1, by omega⟩
  have ht : (trimd l).length ≤ 100 := by unfold trimd; rw [List.length_take]; omega
  have e : resid (wts l) x = resid (wts (trimd l)) x := by
    have := trimmed_app l
    have h2 : wts l = wts (trimd l) ++ List.replicate (l.length - trimN l l.length) 0 := by
      rw [← wts_app_zeros, ← this]
    rw [h2, resid_app]
  rw [shawmlaw14_LinearNone.j2, if_neg (by decide), resid_c x (trimd l) hx ht (isF_take l _ hf), resid_c x l hx hl hf]
  by_cases hc : chk x 2097152 = 0
  · simp only [if_pos hc, Option.bind_some, if_true]
    rw [e, ints_refl _ _ rfl m (by rw [resid_length]; omega) (by rw [resid_length]; omega)]
    rfl
  · simp only [if_neg hc, Option.bind_some, if_true]
    rw [ints_refl [] [] rfl m (by simp; omega) (by decide)]
    rfl
theorem n1_ok (x l : List Int) (hx : x.length ≤ 9000) (hl : l.length ≤ 100) (n : Nat) (hn : 9002 < n) : shawmlaw14_LinearNone.j1 n x l false = some true := by
  obtain ⟨m, rfl⟩ : ∃ m, n = m + 1 := ⟨n - 1, by omega⟩
  rw [shawmlaw14_LinearNone.j1, if_neg (by decide), trim_f l m (by omega)]
  by_cases hf : isF l = true
  · simp only [if_pos hf, Option.bind_some, if_true]
    have hm := trimN_le l l.length
    have hlen : (trimd l).length = trimN l l.length := by unfold trimd; rw [List.length_take]; omega
    have htk : l.take (trimd l).length = trimd l := by rw [hlen]; rfl
    have hin : shawmref02_Ints.f m (trimd l) (l.take (trimd l).length) = some true := ints_refl _ _ htk.symm m (by omega) (by omega)
    have h2 := n2_ok x l hx hl hf m (by omega)
    have hng : ¬ ((trimd l).length : Int) > (l.length : Int) := by omega
    have h0 : (0 : Int) ≤ ((trimd l).length : Int) := by omega
    have h1 : ((trimd l).length : Int) ≤ (l.length : Int) := by omega
    by_cases hp : ((trimd l).length : Int) > 0
    · have hw : wrap64 (((trimd l).length : Int) - 1) = ((trimd l).length : Int) - 1 := wrap64_id (by omega) (by omega)
      have hne : ¬ rd (trimd l) (((trimd l).length : Int) - 1) = 0 := by
        have := trimN_last l l.length (by omega)
        rw [hlen]
        unfold trimd
        rw [rd_take _ _ _ (by omega)]
        exact this
      rw [if_pos hp, hw, if_pos (by omega), if_pos (by omega), if_neg hne, if_neg hng, if_pos h0, if_pos h1, Int.toNat_natCast, hin]
      exact h2
    · rw [if_neg hp, if_neg hng, if_pos h0, if_pos h1, Int.toNat_natCast, hin]
      exact h2
  · simp only [if_neg hf, Option.bind_some]
    rfl
theorem n0_ok (x l : List Int) (a : Int) (hx : x.length ≤ 9000) (hl : l.length ≤ 100) (h0 : 0 ≤ a) (h1 : a ≤ 255) (n : Nat) (hn : 9003 < n) : shawmlaw14_LinearNone.j0 n x l a false = some true := by
  obtain ⟨m, rfl⟩ : ∃ m, n = m + 1 := ⟨n - 1, by omega⟩
  have ht : 0 ≤ a.tmod 13 ∧ a.tmod 13 ≤ 12 := by
    rw [Int.tmod_eq_emod_of_nonneg h0]
    omega
  rw [shawmlaw14_LinearNone.j0, if_neg (by decide), wrap64_id (x := a) (by omega) (by omega), resid_c x [] hx (by simp) (by decide)]
  generalize hz : (a.tmod 13).toNat = z
  have hzl : z ≤ 12 := by omega
  have e0 : resid (wts []) x = x := resid_of_zero _ _ (fun k => pred_nil x k)
  have e1 : resid (wts (List.replicate z 0)) x = x := resid_of_zero _ _ (fun k => by rw [wts_zeros]; exact pred_zeros x k z)
  have r1 := resid_c x (List.replicate z 0) hx (by rw [List.length_replicate]; omega) (isF_zeros z hzl)
  rw [e0]
  rw [e1] at r1
  have h2 := n1_ok x l hx hl m (by omega)
  by_cases hc : chk x 2097152 = 0
  · rw [if_pos hc] at r1 ⊢
    simp only [Option.bind_some]
    rw [if_pos ht.1, if_pos (by omega), r1]
    simp only [Option.bind_some, if_true]
    rw [ints_refl x x rfl m (by omega) (by omega)]
    simp only [Option.bind_some, if_true]
    exact h2
  · rw [if_neg hc] at r1 ⊢
    simp only [Option.bind_some]
    rw [if_pos ht.1, if_pos (by omega), r1]
    simp only [Option.bind_some, if_true]
    rw [if_neg hc]
    exact h2

theorem LinearNone : shawmlaw14_LinearNone.Pure := by
  intro x l a _ _ _ _ _ _ ha
  refine ⟨9100, ?_⟩
  have ha' : 0 ≤ a ∧ a ≤ 255 := by
    have h := ha
    simp [Lit.wf, IntKind.min, IntKind.max, IntKind.signed, IntKind.bits] at h
    omega
  unfold shawmlaw14_LinearNone.f
  by_cases h1 : (x.length : Int) > 9000
  · rw [if_pos h1]; rfl
  · rw [if_neg h1]
    by_cases h2 : (l.length : Int) > 100
    · rw [show decide ((l.length : Int) > 100) = true by simpa using h2]; rfl
    · rw [show decide ((l.length : Int) > 100) = false by simpa using h2]
      exact n0_ok x l a (by omega) (by omega) ha'.1 ha'.2 9100 (by omega)
end Go.Proofs.Ytafdiakomcejjaa.Pure
