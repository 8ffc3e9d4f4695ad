/- Plain laws of chapter 14: lists that agree; prediction is undone; differences are undone. -/
import Derived.Test.YtafdiakomcejjaaPa
import Derived.Test.YtafdiakomcejjaaHp
import Derived.Test.YtafdiakomcejjaaHg
namespace Go.Proofs.Ytafdiakomcejjaa.P
open Go.RowKit Go.Proofs.YtafdiakomcejjaaW.PrintWords Go.Proofs.YtafdiakomcejjaaW.PrintLast Go.Proofs.YtafdiakomcejjaaW.PrintMore
set_option linter.unusedVariables false
set_option linter.unusedSimpArgs false

theorem ints_l0 (a b : List Int) (hab : a = b) (n : Nat) (hn : a.length = n) (hm : n < 4611686018427387904) : ∀ (k i : Nat), i ≤ n → n - i < k → shawmref02_Ints.l0 k a b (n : Int) (i : Int) = some true
  | 0, i, _, h => by omega
  | k + 1, i, hi, h => by
    subst hab
    unfold shawmref02_Ints.l0
    by_cases hlt : i < n
    · rw [if_pos (by omega), if_pos (by omega), if_pos (by omega), if_pos (by omega), if_pos rfl, wrap64_id (by omega) (by omega)]
      exact ints_l0 a a rfl n hn hm k (i + 1) (by omega) (by omega)
    · rw [if_neg (by omega)]
theorem ints_refl (a b : List Int) (hab : a = b) (k : Nat) (hk : a.length < k) (hm : a.length < 4611686018427387904) : shawmref02_Ints.f k a b = some true := by
  unfold shawmref02_Ints.f
  rw [if_pos (by rw [hab])]
  exact ints_l0 a b hab a.length rfl hm k 0 (by omega) (by omega)

theorem rd_take (x : List Int) (n : Nat) (i : Int) (h : i.toNat < n) : rd (x.take n) i = rd x i := by
  unfold rd
  rw [List.getD_eq_getElem?_getD, List.getD_eq_getElem?_getD, List.getElem?_take, if_pos h]
theorem pterm_take (p x : List Int) (n j : Nat) : pterm p (x.take n) n j = pterm p x n j := by
  unfold pterm
  split
  · rw [rd_take _ _ _ (by omega)]
  · rfl
theorem pred_take (p x : List Int) (n : Nat) : pred p (x.take n) n = pred p x n := by
  have e : pterm p (x.take n) n = pterm p x n := funext (pterm_take p x n)
  unfold pred pacc
  rw [e]
theorem take_snoc (x : List Int) (k : Nat) (h : k < x.length) : x.take k ++ [rd x (k : Int)] = x.take (k + 1) := by
  rw [List.take_add_one, List.getElem?_eq_getElem h]
  simp [rd, List.getD_eq_getElem?_getD, h]
theorem restF_resid (p x : List Int) (hx : within 2097152 x) : ∀ (m k : Nat), k + m = x.length → restF p (x.take k) ((resid p x).drop k) = some x
  | 0, k, h => by
    rw [List.drop_of_length_le (by rw [resid_length]; omega), restF, List.take_of_length_le (by omega)]
  | m + 1, k, h => by
    have hk : k < x.length := by omega
    have hl : (x.take k).length = k := by rw [List.length_take]; omega
    have hd := drop_head (resid p x) k (by rw [resid_length]; exact hk)
    have hr : rd (resid p x) (k : Int) = rd x (k : Int) - pred p x k := by unfold resid; rw [rd_map]; simp [hk]
    have hb := within_rd hx (by omega) (k : Int)
    have e : rd x (k : Int) - pred p x k + pred p x k = rd x (k : Int) := by omega
    rw [hd, restF, hl, pred_take, hr, e, if_neg (by omega), take_snoc x k hk]
    exact restF_resid p x hx m (k + 1) (by omega)
theorem restF_some (p : List Int) : ∀ (d out y : List Int), restF p out d = some y → within 2097152 out → y.take out.length = out ∧ y.length = out.length + d.length ∧ within 2097152 y ∧ ∀ i, i < d.length → rd y ((out.length + i : Nat) : Int) = rd d (i : Int) + pred p y (out.length + i)
  | [], out, y, h, hw => by
    rw [restF] at h
    obtain rfl := Option.some.inj h
    exact ⟨List.take_length, by simp, hw, fun i hi => absurd hi (by simp)⟩
  | v :: d, out, y, h, hw => by
    rw [restF] at h
    split at h
    · cases h
    · rename_i hb
      have hw' : within 2097152 (out ++ [v + pred p out out.length]) := fun t ht => by
        rcases List.mem_append.1 ht with ht | ht
        · exact hw t ht
        · obtain rfl := List.mem_singleton.1 ht; omega
      obtain ⟨h1, h2, h3, h4⟩ := restF_some p d _ y h hw'
      rw [List.length_append, List.length_singleton] at h1 h2 h4
      have ht : y.take out.length = out := by
        have := congrArg (List.take out.length) h1
        rw [List.take_take, Nat.min_eq_left (by omega), List.take_left] at this
        exact this
      refine ⟨ht, by rw [h2, List.length_cons]; omega, h3, fun i hi => ?_⟩
      cases i with
      | zero =>
        have e : rd (y.take (out.length + 1)) (out.length : Int) = rd y (out.length : Int) := rd_take _ _ _ (by omega)
        rw [h1] at e
        have e2 : rd (out ++ [v + pred p out out.length]) (out.length : Int) = v + pred p out out.length := by simp [rd, List.getD_eq_getElem?_getD]
        have e3 := pred_take p y out.length
        rw [ht] at e3
        rw [Nat.add_zero, ← e, e2, e3]
        rfl
      | succ i =>
        have := h4 i (by simp at hi; omega)
        rw [show out.length + (i + 1) = out.length + 1 + i by omega, this]
        rfl
theorem rd_ext {a b : List Int} (hl : a.length = b.length) (h : ∀ i : Nat, i < a.length → rd a (i : Int) = rd b (i : Int)) : a = b := by
  apply List.ext_getElem hl
  intro i h1 h2
  have := h i h1
  simpa [rd, List.getD_eq_getElem?_getD, h1, h2] using this
theorem resid_restF (p d y : List Int) (h : restF p [] d = some y) : resid p y = d ∧ within 2097152 y ∧ y.length = d.length := by
  obtain ⟨_, h2, h3, h4⟩ := restF_some p d [] y h (fun x hx => by cases hx)
  simp only [List.length_nil, Nat.zero_add] at h2 h4
  refine ⟨rd_ext (by rw [resid_length, h2]) (fun i hi => ?_), h3, h2⟩
  rw [resid_length] at hi
  have := h4 i (by omega)
  unfold resid
  rw [rd_map]
  simp only [Int.toNat_natCast]
  rw [if_pos hi, this]
  omega

theorem chk_ok {l : List Int} {m : Int} (h1 : l.length ≤ 8192) (h2 : within m l) : chk l m = 0 := by
  unfold chk
  rw [if_neg (by omega), if_neg]
  intro hq
  obtain ⟨x, hx, hb⟩ := List.any_eq_true.1 hq
  have := h2 x hx
  simp [outB] at hb
  omega
theorem pred_bound2 {p x : List Int} (hp : within 16777216 p) (hx : within 2097152 x) (n : Nat) (hl : p.length ≤ 12) : -103079215104 ≤ pred p x n ∧ pred p x n ≤ 103079215104 := by
  have h := pacc_bound hp hx n p.length
  exact rnd_bound _ _ _ (by omega) (by omega) (by omega)
theorem resid_within {p x : List Int} (hp : within 16777216 p) (hx : within 2097152 x) (hl : p.length ≤ 12) : within 1099511627776 (resid p x) := by
  intro y hy
  obtain ⟨n, _, rfl⟩ := List.mem_map.1 hy
  have h1 := pred_bound2 hp hx n hl
  have h2 := within_rd hx (by omega) (n : Int)
  omega

/-! differences -/
def dlist : Int → List Int → List Int
  | _, [] => []
  | p, x :: l => (x - p) :: dlist x l
theorem dlist_length : ∀ (p : Int) (l : List Int), (dlist p l).length = l.length
  | _, [] => rfl
  | p, x :: l => by rw [dlist, List.length_cons, List.length_cons, dlist_length]
theorem dlist_rd : ∀ (l : List Int) (p : Int) (i : Nat), i < l.length → rd (dlist p l) (i : Int) = rd l (i : Int) - (if i = 0 then p else rd l ((i : Int) - 1))
  | [], _, _, h => absurd h (by simp)
  | x :: l, p, 0, _ => by simp [dlist, rd]
  | x :: l, p, i + 1, h => by
    have ih := dlist_rd l x i (by simpa using h)
    have e1 : rd (dlist p (x :: l)) ((i + 1 : Nat) : Int) = rd (dlist x l) (i : Int) := rfl
    have e2 : rd (x :: l) ((i + 1 : Nat) : Int) = rd l (i : Int) := rfl
    rw [e1, ih, e2, if_neg (show ¬ i + 1 = 0 by omega)]
    cases i with
    | zero => simp [rd]
    | succ i =>
      rw [if_neg (show ¬ i + 1 = 0 by omega), show ((i + 1 : Nat) : Int) - 1 = (i : Int) by omega, show ((i + 1 + 1 : Nat) : Int) - 1 = ((i + 1 : Nat) : Int) by omega]
      rfl
theorem dstep_dlist (l : List Int) : dstep l = dlist 0 l := by
  refine rd_ext (by rw [dstep_length, dlist_length]) (fun i hi => ?_)
  rw [dstep_length] at hi
  rw [dlist_rd l 0 i hi]
  unfold dstep
  rw [rd_map]
  simp only [Int.toNat_natCast]
  rw [if_pos hi]
  unfold dAt
  split
  · rename_i h0; subst h0; simp
  · rfl
theorem psum_dlist {m : Int} : ∀ (l : List Int) (p : Int), within m l → psum m p (dlist p l) = some l
  | [], _, _ => rfl
  | x :: l, p, h => by
    have hx := h x (by simp)
    rw [dlist, psum, if_neg (by omega), show x - p + p = x by omega, psum_dlist l x (fun y hy => h y (List.mem_cons_of_mem _ hy))]
    rfl
theorem dlist_psum {m : Int} : ∀ (l : List Int) (p : Int) (r : List Int), psum m p l = some r → dlist p r = l ∧ within m r
  | [], p, r, h => by
    rw [psum] at h
    obtain rfl := Option.some.inj h
    exact ⟨rfl, fun x hx => by cases hx⟩
  | x :: l, p, r, h => by
    rw [psum] at h
    split at h
    · cases h
    · rename_i hb
      obtain ⟨r', hr', rfl⟩ := Option.map_eq_some_iff.1 h
      have ih := dlist_psum l (x + p) r' hr'
      refine ⟨?_, fun y hy => ?_⟩
      · rw [dlist, ih.1, show x + p - p = x by omega]
      · rcases List.mem_cons.1 hy with rfl | hy
        · omega
        · exact ih.2 y hy
theorem within_diffs2 {l : List Int} (h : within 2097152 l) : ∀ n, within (mostD n) (diffs l n)
  | 0 => by simpa [mostD, diffs] using h
  | n + 1 => by
    have ih := within_diffs2 h n
    have h0 : (0 : Int) ≤ mostD n := by unfold mostD; exact Int.mul_nonneg (by omega) (by have := Int.pow_pos (n := 2) (m := n) (by omega); omega)
    have e : mostD (n + 1) = 2 * mostD n := by unfold mostD; rw [Int.pow_succ]; omega
    rw [e, diffs]
    exact within_dstep ih h0
theorem sums_diffs {l : List Int} (h : within 2097152 l) : ∀ n, sums (diffs l n) n = some l
  | 0 => rfl
  | n + 1 => by
    rw [diffs, sums, dstep_dlist, psum_dlist _ _ (within_diffs2 h n)]
    exact sums_diffs h n
theorem diffs_sums : ∀ (n : Nat) (l y : List Int), sums l n = some y → diffs y n = l ∧ y.length = l.length
  | 0, l, y, h => by
    rw [sums] at h
    obtain rfl := Option.some.inj h
    exact ⟨rfl, rfl⟩
  | n + 1, l, y, h => by
    rw [sums] at h
    obtain ⟨r, hr, hy⟩ := Option.bind_eq_some_iff.1 h
    have ih := diffs_sums n r y hy
    have hd := dlist_psum l 0 r hr
    exact ⟨by rw [diffs, ih.1, dstep_dlist, hd.1], by rw [ih.2, ← psum_length hr]⟩
end Go.Proofs.Ytafdiakomcejjaa.P
