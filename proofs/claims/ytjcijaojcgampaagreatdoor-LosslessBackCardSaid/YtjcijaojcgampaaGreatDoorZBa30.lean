/- Plain laws of chapter 14: lists that agree; prediction is undone; differences are undone. -/
import Derived.Test.YtjcijaojcgampaaGreatDoorZBa5
import Derived.Test.YtjcijaojcgampaaGreatDoorZBa26
import Derived.Test.YtjcijaojcgampaaGreatDoorZBa24
namespace Go.Proofs.YtjcijaojcgampaaGreatDoor.P.Lin
open Go.RowKit Go.Proofs.YtjcijaojcgampaaGreatDoorW.PrintWords Go.Proofs.YtjcijaojcgampaaGreatDoorW.PrintLast Go.Proofs.YtjcijaojcgampaaGreatDoorW.PrintMore
set_option linter.unusedVariables false
set_option linter.unusedSimpArgs false
theorem rd_take (x : List Int) (n : Nat) (i : Int) (h : i.toNat < n) : rd (x.take n) i = rd x i := by
  unfold rd
  rw [List.getD_eq_getElem?_getD, List.getD_eq_getElem?_getD, List.getElem?_take, if_pos h]
theorem pterm_take (p x : List Int) (n j : Nat) : pterm p (x.take n) n j = pterm p x n j := by
  unfold pterm
  split
  · rw [rd_take _ _ _ (by omega)]
  · rfl
theorem pred_take (p x : List Int) (n : Nat) : pred p (x.take n) n = pred p x n := by
  have e : pterm p (x.take n) n = pterm p x n := funext (pterm_take p x n)
  unfold pred pacc
  rw [e]
theorem take_snoc (x : List Int) (k : Nat) (h : k < x.length) : x.take k ++ [rd x (k : Int)] = x.take (k + 1) := by
  rw [List.take_add_one, List.getElem?_eq_getElem h]
  simp [rd, List.getD_eq_getElem?_getD, h]
theorem restF_resid (p x : List Int) (hx : within 2097152 x) : ∀ (m k : Nat), k + m = x.length → restF p (x.take k) ((resid p x).drop k) = some x
  | 0, k, h => by
    rw [List.drop_of_length_le (by rw [resid_length]; omega), restF, List.take_of_length_le (by omega)]
  | m + 1, k, h => by
    have hk : k < x.length := by omega
    have hl : (x.take k).length = k := by rw [List.length_take]; omega
    have hd := drop_head (resid p x) k (by rw [resid_length]; exact hk)
    have hr : rd (resid p x) (k : Int) = rd x (k : Int) - pred p x k := by unfold resid; rw [rd_map]; simp [hk]
    have hb := within_rd hx (by omega) (k : Int)
    have e : rd x (k : Int) - pred p x k + pred p x k = rd x (k : Int) := by omega
    rw [hd, restF, hl, pred_take, hr, e, if_neg (by omega), take_snoc x k hk]
    exact restF_resid p x hx m (k + 1) (by omega)
theorem rd_ext {a b : List Int} (hl : a.length = b.length) (h : ∀ i : Nat, i < a.length → rd a (i : Int) = rd b (i : Int)) : a = b := by
  apply List.ext_getElem hl
  intro i h1 h2
  have := h i h1
  simpa [rd, List.getD_eq_getElem?_getD, h1, h2] using this
theorem chk_ok {l : List Int} {m : Int} (h1 : l.length ≤ 8192) (h2 : within m l) : chk l m = 0 := by
  unfold chk
  rw [if_neg (by omega), if_neg]
  intro hq
  obtain ⟨x, hx, hb⟩ := List.any_eq_true.1 hq
  have := h2 x hx
  simp [outB] at hb
  omega
theorem pred_bound2 {p x : List Int} (hp : within 16777216 p) (hx : within 2097152 x) (n : Nat) (hl : p.length ≤ 12) : -103079215104 ≤ pred p x n ∧ pred p x n ≤ 103079215104 := by
  have h := pacc_bound hp hx n p.length
  exact rnd_bound _ _ _ (by omega) (by omega) (by omega)
theorem resid_within {p x : List Int} (hp : within 16777216 p) (hx : within 2097152 x) (hl : p.length ≤ 12) : within 1099511627776 (resid p x) := by
  intro y hy
  obtain ⟨n, _, rfl⟩ := List.mem_map.1 hy
  have h1 := pred_bound2 hp hx n hl
  have h2 := within_rd hx (by omega) (n : Int)
  omega
/-! differences -/
def dlist : Int → List Int → List Int
  | _, [] => []
  | p, x :: l => (x - p) :: dlist x l
theorem dlist_length : ∀ (p : Int) (l : List Int), (dlist p l).length = l.length
  | _, [] => rfl
  | p, x :: l => by rw [dlist, List.length_cons, List.length_cons, dlist_length]
theorem dlist_rd : ∀ (l : List Int) (p : Int) (i : Nat), i < l.length → rd (dlist p l) (i : Int) = rd l (i : Int) - (if i = 0 then p else rd l ((i : Int) - 1))
  | [], _, _, h => absurd h (by simp)
  | x :: l, p, 0, _ => by simp [dlist, rd]
  | x :: l, p, i + 1, h => by
    have ih := dlist_rd l x i (by simpa using h)
    have e1 : rd (dlist p (x :: l)) ((i + 1 : Nat) : Int) = rd (dlist x l) (i : Int) := rfl
    have e2 : rd (x :: l) ((i + 1 : Nat) : Int) = rd l (i : Int) := rfl
    rw [e1, ih, e2, if_neg (show ¬ i + 1 = 0 by omega)]
    cases i with
    | zero => simp [rd]
    | succ i =>
      rw [if_neg (show ¬ i + 1 = 0 by omega), show ((i + 1 : Nat) : Int) - 1 = (i : Int) by omega, show ((i + 1 + 1 : Nat) : Int) - 1 = ((i + 1 : Nat) : Int) by omega]
      rfl
theorem dstep_dlist (l : List Int) : dstep l = dlist 0 l := by
  refine rd_ext (by rw [dstep_length, dlist_length]) (fun i hi => ?_)
  rw [dstep_length] at hi
  rw [dlist_rd l 0 i hi]
  unfold dstep
  rw [rd_map]
  simp only [Int.toNat_natCast]
  rw [if_pos hi]
  unfold dAt
  split
  · rename_i h0; subst h0; simp
  · rfl
theorem psum_dlist {m : Int} : ∀ (l : List Int) (p : Int), within m l → psum m p (dlist p l) = some l
  | [], _, _ => rfl
  | x :: l, p, h => by
    have hx := h x (by simp)
    rw [dlist, psum, if_neg (by omega), show x - p + p = x by omega, psum_dlist l x (fun y hy => h y (List.mem_cons_of_mem _ hy))]
    rfl
theorem within_diffs2 {l : List Int} (h : within 2097152 l) : ∀ n, within (mostD n) (diffs l n)
  | 0 => by simpa [mostD, diffs] using h
  | n + 1 => by
    have ih := within_diffs2 h n
    have h0 : (0 : Int) ≤ mostD n := by unfold mostD; exact Int.mul_nonneg (by omega) (by have := Int.pow_pos (n := 2) (m := n) (by omega); omega)
    have e : mostD (n + 1) = 2 * mostD n := by unfold mostD; rw [Int.pow_succ]; omega
    rw [e, diffs]
    exact within_dstep ih h0
theorem sums_diffs {l : List Int} (h : within 2097152 l) : ∀ n, sums (diffs l n) n = some l
  | 0 => rfl
  | n + 1 => by
    rw [diffs, sums, dstep_dlist, psum_dlist _ _ (within_diffs2 h n)]
    exact sums_diffs h n
end Go.Proofs.YtjcijaojcgampaaGreatDoor.P.Lin
