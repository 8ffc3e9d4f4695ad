/- Plain laws of chapter 14: the reference's sums. -/
import Derived.Test.YtafdiakomcejjaaQa
namespace Go.Proofs.Ytafdiakomcejjaa.P
open Go.RowKit Go.Proofs.YtafdiakomcejjaaW.PrintWords Go.Proofs.YtafdiakomcejjaaW.PrintLast Go.Proofs.YtafdiakomcejjaaW.PrintMore
set_option linter.unusedVariables false
set_option linter.unusedSimpArgs false

/-! the reference's sums -/
def recF (pr : List Int → Int) : List Int → List Int → Option (List Int)
  | out, [] => some out
  | out, v :: d => if v + pr out < -2097152 ∨ 2097152 < v + pr out then none else recF pr (out ++ [v + pr out]) d
theorem recF_of (pr : List Int → Int) (x d : List Int) (hx : within 2097152 x) (hl : d.length = x.length) (h : ∀ i : Nat, i < x.length → rd d (i : Int) = rd x (i : Int) - pr (x.take i)) : ∀ (m k : Nat), k + m = x.length → recF pr (x.take k) (d.drop k) = some x
  | 0, k, hk => by
    rw [List.drop_of_length_le (by omega), recF, List.take_of_length_le (by omega)]
  | m + 1, k, hk => by
    have hb := within_rd hx (by omega) (k : Int)
    rw [drop_head d k (by omega), recF, h k (by omega), show rd x (k : Int) - pr (x.take k) + pr (x.take k) = rd x (k : Int) by omega, if_neg (by omega), take_snoc x k (by omega)]
    exact recF_of pr x d hx hl h m (k + 1) (by omega)
theorem recF_some (pr : List Int → Int) : ∀ (d out y : List Int), recF pr out d = some y → within 2097152 out → y.take out.length = out ∧ y.length = out.length + d.length ∧ within 2097152 y ∧ ∀ i, i < d.length → rd y ((out.length + i : Nat) : Int) = rd d (i : Int) + pr (y.take (out.length + i))
  | [], out, y, h, hw => by
    rw [recF] at h
    obtain rfl := Option.some.inj h
    exact ⟨List.take_length, by simp, hw, fun i hi => absurd hi (by simp)⟩
  | v :: d, out, y, h, hw => by
    rw [recF] at h
    split at h
    · cases h
    · rename_i hb
      have hw' : within 2097152 (out ++ [v + pr out]) := fun t ht => by
        rcases List.mem_append.1 ht with ht | ht
        · exact hw t ht
        · obtain rfl := List.mem_singleton.1 ht; omega
      obtain ⟨h1, h2, h3, h4⟩ := recF_some pr d _ y h hw'
      rw [List.length_append, List.length_singleton] at h1 h2 h4
      have ht : y.take out.length = out := by
        have := congrArg (List.take out.length) h1
        rw [List.take_take, Nat.min_eq_left (by omega), List.take_left] at this
        exact this
      refine ⟨ht, by rw [h2, List.length_cons]; omega, h3, fun i hi => ?_⟩
      cases i with
      | zero =>
        have e : rd (y.take (out.length + 1)) (out.length : Int) = rd y (out.length : Int) := rd_take _ _ _ (by omega)
        rw [h1] at e
        have e2 : rd (out ++ [v + pr out]) (out.length : Int) = v + pr out := by simp [rd, List.getD_eq_getElem?_getD]
        rw [Nat.add_zero, ← e, e2, ht]
        rfl
      | succ i =>
        have := h4 i (by simp at hi; omega)
        rw [show out.length + (i + 1) = out.length + 1 + i by omega, this]
        rfl

/-- An element, 0 ahead of the list. -/
def ex (l : List Int) (i : Int) : Int := if i < 0 then 0 else rd l i
def dotr : List Int → List Int → Int → Int
  | [], _, _ => 0
  | c :: row, y, i => c * ex y (i - 1) + dotr row y (i - 1)
theorem ex_dstep (y : List Int) (j : Int) (h : j < y.length) : ex (dstep y) j = ex y j - ex y (j - 1) := by
  unfold ex
  by_cases h0 : j < 0
  · rw [if_pos h0, if_pos h0, if_pos (by omega)]; rfl
  · obtain ⟨n, rfl⟩ : ∃ n : Nat, j = n := ⟨j.toNat, by omega⟩
    rw [if_neg h0, if_neg h0]
    unfold dstep
    rw [rd_map]
    simp only [Int.toNat_natCast]
    rw [if_pos (by omega)]
    unfold dAt
    by_cases hn : n = 0
    · subst hn; simp
    · rw [if_neg hn, if_neg (by omega)]
def rowOf : Nat → List Int
  | 0 => []
  | 1 => [1]
  | 2 => [2, -1]
  | 3 => [3, -3, 1]
  | _ => [4, -6, 4, -1]
theorem diffs_dot (y : List Int) (k : Nat) (hk : k ≤ 4) (i : Nat) (hi : i < y.length) : rd (diffs y k) (i : Int) = rd y (i : Int) - dotr (rowOf k) y (i : Int) := by
  have hx : ∀ l : List Int, ex l (i : Int) = rd l (i : Int) := fun l => by unfold ex; rw [if_neg (by omega)]
  rw [← hx, ← hx]
  have hl : ∀ n, (diffs y n).length = y.length := diffs_length y
  have s : ∀ (n : Nat) (j : Int), j < y.length → ex (diffs y (n + 1)) j = ex (diffs y n) j - ex (diffs y n) (j - 1) := fun n j hj => by
    rw [diffs]; exact ex_dstep _ j (by rw [hl]; exact hj)
  have z : ∀ j, ex (diffs y 0) j = ex y j := fun j => rfl
  match k, hk with
  | 0, _ => simp [diffs, rowOf, dotr]
  | 1, _ => rw [s 0 _ (by omega)]; simp only [z, rowOf, dotr]; omega
  | 2, _ => rw [s 1 _ (by omega), s 0 _ (by omega), s 0 _ (by omega)]; simp only [z, rowOf, dotr]; omega
  | 3, _ =>
    rw [s 2 _ (by omega), s 1 _ (by omega), s 1 _ (by omega), s 0 _ (by omega), s 0 _ (by omega), s 0 _ (by omega)]; simp only [z, rowOf, dotr]; omega
  | 4, _ =>
    rw [s 3 _ (by omega), s 2 _ (by omega), s 2 _ (by omega), s 1 _ (by omega), s 1 _ (by omega), s 1 _ (by omega), s 0 _ (by omega), s 0 _ (by omega), s 0 _ (by omega), s 0 _ (by omega)]; simp only [z, rowOf, dotr]; omega
theorem dotr_take (y : List Int) (n : Nat) : ∀ (row : List Int) (i : Int), i ≤ n → dotr row (y.take n) i = dotr row y i
  | [], _, _ => rfl
  | c :: row, i, h => by
    rw [dotr, dotr, dotr_take y n row (i - 1) (by omega)]
    congr 2
    unfold ex
    split
    · rfl
    · rw [rd_take _ _ _ (by omega)]
def smallR (row : List Int) : Prop := ∀ c ∈ row, -6 ≤ c ∧ c ≤ 6
theorem dotr_bound {y : List Int} (hy : within 2097152 y) : ∀ (row : List Int) (i : Int), smallR row → -(12582912 * row.length) ≤ dotr row y i ∧ dotr row y i ≤ 12582912 * row.length
  | [], _, _ => by simp [dotr]
  | c :: row, i, h => by
    have ih := dotr_bound hy row (i - 1) (fun x hx => h x (List.mem_cons_of_mem _ hx))
    have hc := h c (by simp)
    have he : -2097152 ≤ ex y (i - 1) ∧ ex y (i - 1) ≤ 2097152 := by unfold ex; split; omega; exact within_rd hy (by omega) _
    have := mul_bound hc he
    rw [dotr, List.length_cons]
    omega
def added (row out d : List Int) : List Int × Int := match recF (fun o => dotr row o (o.length : Int)) out d with
  | some y => (y, 0)
  | none => ([], 6)
theorem rowOf_small (k : Nat) (hk : k ≤ 4) : smallR (rowOf k) ∧ (rowOf k).length ≤ 4 := by
  match k, hk with
  | 0, _ => exact ⟨by intro c hc; simp [rowOf] at hc, by decide⟩
  | 1, _ => exact ⟨by intro c hc; simp [rowOf] at hc; omega, by decide⟩
  | 2, _ => exact ⟨by intro c hc; simp [rowOf] at hc; omega, by decide⟩
  | 3, _ => exact ⟨by intro c hc; simp [rowOf] at hc; omega, by decide⟩
  | 4, _ => exact ⟨by intro c hc; simp [rowOf] at hc; omega, by decide⟩
/-- The program's answer in the reference's words. -/
theorem sums_added (x : List Int) (hxl : x.length ≤ 8192) (k : Nat) (hk : k ≤ 4) : (match sums x k with | none => some (([] : List Int), (6 : Int)) | some r => if chk r 2097152 = 0 then some (r, 0) else some ([], 6)) = some (added (rowOf k) [] x) := by
  unfold added
  cases h : recF (fun o => dotr (rowOf k) o (o.length : Int)) [] x with
  | some y =>
    obtain ⟨_, h2, h3, h4⟩ := recF_some _ x [] y h (fun t ht => by cases ht)
    simp only [List.length_nil, Nat.zero_add] at h2 h4
    have hd : diffs y k = x := by
      refine rd_ext (by rw [diffs_length, h2]) (fun i hi => ?_)
      rw [diffs_length] at hi
      have h5 := h4 i (by omega)
      rw [List.length_take, Nat.min_eq_left (by omega), dotr_take y i _ _ (Int.le_refl _)] at h5
      rw [diffs_dot y k hk i hi, h5]
      omega
    have hs := sums_diffs h3 k
    rw [hd] at hs
    rw [hs]
    simp only
    rw [if_pos (chk_ok (by omega) h3)]
  | none =>
    cases hs : sums x k with
    | none => rfl
    | some r =>
      simp only
      by_cases hc : chk r 2097152 = 0
      · exfalso
        obtain ⟨hd, hrl⟩ := diffs_sums k x r hs
        obtain ⟨_, hw⟩ := chk_zero hc
        have := recF_of (fun o => dotr (rowOf k) o (o.length : Int)) r x hw hrl.symm (fun i hi => by
          rw [← hd, diffs_dot r k hk i hi]
          simp only [List.length_take]
          rw [Nat.min_eq_left (by omega), dotr_take r i _ _ (Int.le_refl _)]) r.length 0 (by omega)
        rw [List.take_zero, List.drop_zero, h] at this
        cases this
      · rw [if_neg hc]

/-- The sum of the first j products. -/
def dacc (row y : List Int) (i : Int) : Nat → Int
  | 0 => 0
  | j + 1 => dacc row y i j + rd row (j : Int) * ex y (i - 1 - (j : Int))
theorem dacc_drop (y : List Int) : ∀ (d : Nat) (row : List Int) (i : Int) (j : Nat), j + d = row.length → dacc row y i row.length = dacc row y i j + dotr (row.drop j) y (i - j)
  | 0, row, i, j, h => by
    obtain rfl : j = row.length := by omega
    rw [List.drop_length, dotr, Int.add_zero]
  | d + 1, row, i, j, h => by
    rw [dacc_drop y d row i (j + 1) (by omega), drop_head row j (by omega), dotr, dacc, show i - (j : Int) - 1 = i - 1 - (j : Int) by omega, show i - ((j + 1 : Nat) : Int) = i - 1 - (j : Int) by omega]
    omega
theorem dacc_all (row y : List Int) (i : Int) : dacc row y i row.length = dotr row y i := by
  have := dacc_drop y row.length row i 0 (by omega)
  rw [List.drop_zero, dacc] at this
  rw [this]
  simp
theorem dacc_bound {row y : List Int} (hy : within 2097152 y) (hr : smallR row) (i : Int) : ∀ j : Nat, -(12582912 * j) ≤ dacc row y i j ∧ dacc row y i j ≤ 12582912 * j
  | 0 => by simp [dacc]
  | j + 1 => by
    have h := dacc_bound hy hr i j
    have hc := within_rd (B := 6) hr (by omega) (j : Int)
    have he : -2097152 ≤ ex y (i - 1 - (j : Int)) ∧ ex y (i - 1 - (j : Int)) ≤ 2097152 := by unfold ex; split; omega; exact within_rd hy (by omega) _
    have := mul_bound hc he
    rw [dacc]
    omega
end Go.Proofs.Ytafdiakomcejjaa.P
