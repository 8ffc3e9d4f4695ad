/- The plain law of LinearConstant. -/
import Derived.Test.YtafdiakomcejjaaPl
import Derived.Test.YtafdiakomcejjaaQa
namespace Go.Proofs.Ytafdiakomcejjaa.Pure
open Go.RowKit Go.Proofs.Ytafdiakomcejjaa.P Go.Proofs.YtafdiakomcejjaaW.PrintWords Go.Proofs.YtafdiakomcejjaaW.PrintLast Go.Proofs.YtafdiakomcejjaaW.PrintMore
set_option linter.unusedVariables false
set_option linter.unusedSimpArgs false

theorem rd_rep (n : Nat) (v : Int) (i : Int) : rd (List.replicate n v) i = if i.toNat < n then v else 0 := by
  unfold rd
  rw [List.getD_eq_getElem?_getD, List.getElem?_replicate]
  split <;> rfl
theorem rd_rep0 (n : Nat) (i : Int) : rd (List.replicate n 0) i = 0 := by rw [rd_rep]; split <;> rfl
theorem outB_no {m x : Int} (h : -m ≤ x ∧ x ≤ m) : outB m x = false := by unfold outB; simp; omega
theorem chk_rep (n : Nat) (v m : Int) (hn : n ≤ 8192) (h : -m ≤ v ∧ v ≤ m) : chk (List.replicate n v) m = 0 := by
  unfold chk
  rw [if_neg (by simp; omega), if_neg]
  rw [List.any_eq_true]
  rintro ⟨x, hx, ho⟩
  rw [List.eq_of_mem_replicate hx, outB_no h] at ho
  cases ho

theorem rnd0 (b : Int) (h : 0 < b) : rnd 0 b = 0 := by
  unfold rnd
  exact Int.ediv_eq_zero_of_lt (by omega) (by omega)
/-- What Differ makes of one number, many times. -/
def firstOnly (n : Nat) (v : Int) : List Int := (List.range n).map fun j => if j = 0 then v else 0
theorem diffs_rep (n : Nat) (v : Int) : diffs (List.replicate n v) 1 = firstOnly n v := by
  show dstep (diffs (List.replicate n v) 0) = _
  unfold dstep firstOnly
  show (List.range (List.replicate n v).length).map (dAt (List.replicate n v)) = _
  rw [List.length_replicate]
  apply List.map_congr_left
  intro j hj
  have := List.mem_range.1 hj
  unfold dAt
  by_cases h : j = 0
  · subst h; rw [if_pos rfl, if_pos rfl, rd_rep, if_pos (by simpa using this)]
  · rw [if_neg h, if_neg h, rd_rep, rd_rep, if_pos (by simpa using this), if_pos (by omega)]; omega
theorem firstOnly_length (n : Nat) (v : Int) : (firstOnly n v).length = n := by simp [firstOnly]
theorem rd_firstOnly (n : Nat) (v : Int) (j : Nat) (h : j < n) : rd (firstOnly n v) (j : Int) = if j = 0 then v else 0 := by
  unfold firstOnly; rw [rd_map, if_pos (by simpa using h)]; simp

/-! ### the filter of zeros -/
theorem prods_rep0 (n far : Nat) : prods (List.replicate n 0) far = List.replicate (n - far) 0 := by
  unfold prods
  rw [List.length_replicate, List.eq_replicate_iff]
  refine ⟨by simp, fun b hb => ?_⟩
  obtain ⟨j, _, rfl⟩ := List.mem_map.1 hb
  rw [rd_rep0, rd_rep0]; rfl
theorem sum_rep0 (n : Nat) : (List.replicate n (0 : Int)).sum = 0 := by
  induction n with
  | zero => rfl
  | succ n ih => rw [List.replicate_succ, List.sum_cons, ih]; rfl
theorem map_zero (f : Nat → Int) (n : Nat) (h : ∀ j, j < n → f j = 0) : (List.range n).map f = List.replicate n 0 := by
  rw [List.eq_replicate_iff]
  refine ⟨by simp, fun b hb => ?_⟩
  obtain ⟨j, hj, rfl⟩ := List.mem_map.1 hb
  exact h j (List.mem_range.1 hj)
theorem normd_rep0 (n o : Nat) : normd (List.replicate n 0) o = List.replicate (o + 1) 0 := by
  unfold normd autos
  rw [List.map_map]
  apply map_zero
  intro j _
  show wsum (prods (List.replicate n 0) j) / _ = 0
  rw [prods_rep0]
  unfold wsum
  rw [sum_rep0]
  simp [wrap64]
theorem refK_rep0 (a b : Nat) : refK (List.replicate a 0) (List.replicate b 0) = 0 := by unfold refK; rw [rd_rep0, if_neg (by omega)]
theorem rst_rep0 (a b : Nat) : ∀ n, ∃ a' b', rst (List.replicate a 0) (List.replicate b 0) n = (List.replicate a' 0, List.replicate b' 0)
  | 0 => ⟨a, b, rfl⟩
  | n + 1 => by
    obtain ⟨a', b', h⟩ := rst_rep0 a b n
    refine ⟨a' - 1, a' - 1, ?_⟩
    unfold rst
    rw [h]
    unfold nextA nextB
    rw [List.length_replicate, refK_rep0]
    congr 1
    · apply map_zero; intro j _; unfold refA; rw [rd_rep0, Int.zero_mul, rnd0 _ (by omega)]; rfl
    · apply map_zero; intro j _; unfold refB; rw [rd_rep0, Int.zero_mul, rnd0 _ (by omega)]; rfl
theorem reflected_rep0 (n o : Nat) : reflected (List.replicate n 0) o = List.replicate o 0 := by
  unfold reflected coefs
  rw [normd_rep0]
  apply map_zero
  intro j _
  have h1 : (List.replicate (o + 1) (0 : Int)).tail = List.replicate o 0 := by rw [List.replicate_succ]; rfl
  have h2 : (List.replicate (o + 1) (0 : Int)).take o = List.replicate o 0 := by rw [List.take_replicate, Nat.min_eq_left (by omega)]
  rw [h1, h2]
  obtain ⟨a', b', h⟩ := rst_rep0 o o j
  rw [h]
  exact refK_rep0 _ _

/-! ### the sign of the first coefficient -/
theorem rnd_nonpos (a b : Int) (hb : 0 < b) (ha : a ≤ 0) : rnd a b ≤ 0 := by
  unfold rnd
  have h1 : (2 * a + b) / (2 * b) < 1 := Int.ediv_lt_of_lt_mul (by omega) (by omega)
  omega
theorem rnd_nonneg (a b : Int) (hb : 0 < b) (ha : 0 ≤ a) : 0 ≤ rnd a b := Int.ediv_nonneg (by omega) (by omega)
theorem coefs_range (u v : List Int) (o : Nat) : ∀ c ∈ coefs u v o, -127 ≤ c ∧ c ≤ 127 := by
  intro c hc
  unfold coefs at hc
  obtain ⟨n, _, rfl⟩ := List.mem_map.1 hc
  exact refK_range _ _
theorem normd_one (x : List Int) (hx : within 2097152 x) (hl : x.length ≤ 8192) (o : Nat) (ho : 0 < o) : rd (normd x o).tail 0 = (prods x 1).sum / 2 ^ shf (rd (autos x o) 0) := by
  obtain ⟨o, rfl⟩ : ∃ m, o = m + 1 := ⟨o - 1, by omega⟩
  unfold normd
  generalize shf (rd (autos x (o + 1)) 0) = h
  unfold autos
  rw [List.map_map, List.range_succ_eq_map, List.map_cons, List.tail_cons, List.map_map, List.range_succ_eq_map]
  show wsum (prods x 1) / 2 ^ h = _
  rw [(wsum_prods hx (by omega) 1).1]
theorem first_sign (x : List Int) (hx : within 2097152 x) (hl : x.length ≤ 8192) (o : Nat) (ho : 0 < o) : rd (reflected x o) 0 = 0 ∨ (decide (rd (reflected x o) 0 < 0)) = decide ((prods x 1).sum > 0) := by
  have h0 : rd (reflected x o) 0 = refK (normd x o).tail ((normd x o).take o) := by
    unfold reflected coefs
    rw [rd_map, if_pos (by simpa using ho)]
    rfl
  rw [h0]
  unfold refK
  split
  · rename_i hv
    rw [normd_one x hx hl o ho]
    have hp : (0 : Int) < 2 ^ shf (rd (autos x o) 0) := Int.pow_pos (by omega)
    by_cases hs : (prods x 1).sum > 0
    · have hq := Int.ediv_nonneg (Int.le_of_lt hs) (Int.le_of_lt hp)
      have := rnd_nonpos (-128 * ((prods x 1).sum / 2 ^ shf (rd (autos x o) 0))) (rd ((normd x o).take o) 0) hv (by omega)
      rw [decide_eq_true hs]
      generalize rnd _ _ = k at *
      by_cases hk : k = 0
      · left; omega
      · right; simp; omega
    · have hq : (prods x 1).sum / 2 ^ shf (rd (autos x o) 0) ≤ 0 := by
        have := Int.ediv_le_ediv hp (show (prods x 1).sum ≤ 0 by omega)
        rwa [Int.zero_ediv] at this
      have := rnd_nonneg (-128 * ((prods x 1).sum / 2 ^ shf (rd (autos x o) 0))) (rd ((normd x o).take o) 0) hv (by omega)
      rw [decide_eq_false hs]
      right
      simp; omega
  · left; rfl

/-! ### the stages -/
theorem l3_end (k : List Int) (s : Int) (o : Nat) (hk : ∀ c ∈ k, -127 ≤ c ∧ c ≤ 127) (hl : k.length = o) (ho : 0 < o) (ho' : o ≤ 12) (hs : rd k 0 = 0 ∨ decide (rd k 0 < 0) = decide (s > 0)) : ∀ (d i f : Nat), i + d = o → d < f → shawmlaw14_LinearConstant.l3 f (o : Int) k s k (o : Int) (i : Int) = some true
  | 0, i, f, h, hf => by
    obtain ⟨g, rfl⟩ : ∃ g, f = g + 1 := ⟨f - 1, by omega⟩
    rw [shawmlaw14_LinearConstant.l3, if_neg (by omega), if_pos (by omega), if_pos (by omega)]
    by_cases h0 : rd k 0 = 0
    · rw [if_pos h0]; rfl
    · rw [if_neg h0, if_pos (by rcases hs with q | q; exact absurd q h0; simp [q])]; rfl
  | d + 1, i, f, h, hf => by
    obtain ⟨g, rfl⟩ : ∃ g, f = g + 1 := ⟨f - 1, by omega⟩
    have hb : -127 ≤ rd k (i : Int) ∧ rd k (i : Int) ≤ 127 := within_rd hk (by omega) _
    rw [shawmlaw14_LinearConstant.l3, if_pos (by omega), if_pos (by omega), if_pos (by omega), if_neg (by omega), if_neg (by omega), wrap64_id (x := (i : Int) + 1) (by omega) (by omega)]
    exact l3_end k s o hk hl ho ho' hs d (i + 1) g (by omega) (by omega)

theorem sum_take_prods (x : List Int) (i : Nat) (h : i < x.length - 1) : ((prods x 1).take (i + 1)).sum = ((prods x 1).take i).sum + rd x (i : Int) * rd x ((i : Int) + 1) := by
  rw [prods_take x 1 i h, List.sum_append, List.sum_singleton, Int.mul_comm, show ((1 + i : Nat) : Int) = (i : Int) + 1 by omega]
theorem sum_take_bound (x : List Int) (hx : within 2097152 x) : ∀ i : Nat, i ≤ x.length - 1 → -(4398046511104 * i) ≤ ((prods x 1).take i).sum ∧ ((prods x 1).take i).sum ≤ 4398046511104 * i
  | 0, _ => by simp
  | i + 1, h => by
    have ih := sum_take_bound x hx i (by omega)
    have := mul_bound (within_rd hx (by omega) (i : Int)) (within_rd hx (by omega) ((i : Int) + 1))
    rw [sum_take_prods x i (by omega)]
    omega
theorem l2_end (x k : List Int) (hx : within 2097152 x) (hl : x.length ≤ 8192) (o : Nat) (hk : ∀ c ∈ k, -127 ≤ c ∧ c ≤ 127) (hkl : k.length = o) (ho : 0 < o) (ho' : o ≤ 12) (hs : rd k 0 = 0 ∨ decide (rd k 0 < 0) = decide ((prods x 1).sum > 0)) : ∀ (d i f : Nat), i + d = x.length - 1 → d + 20 < f → shawmlaw14_LinearConstant.l2 f x (o : Int) k (((prods x 1).take i).sum) (i : Int) = some true
  | 0, i, f, h, hf => by
    obtain ⟨g, rfl⟩ : ∃ g, f = g + 1 := ⟨f - 1, by omega⟩
    rw [shawmlaw14_LinearConstant.l2, wrap64_id (x := (i : Int) + 1) (by omega) (by omega), if_neg (by omega), hkl, List.take_of_length_le (by rw [prods_length]; omega)]
    exact l3_end k _ o hk hkl ho ho' hs o 0 g (by omega) (by omega)
  | d + 1, i, f, h, hf => by
    obtain ⟨g, rfl⟩ : ∃ g, f = g + 1 := ⟨f - 1, by omega⟩
    have hb := sum_take_bound x hx i (by omega)
    have hb2 := sum_take_bound x hx (i + 1) (by omega)
    have e := sum_take_prods x i (by omega)
    have hm := mul_bound (within_rd hx (by omega) (i : Int)) (within_rd hx (by omega) ((i : Int) + 1))
    rw [shawmlaw14_LinearConstant.l2, wrap64_id (x := (i : Int) + 1) (by omega) (by omega), if_pos (by omega), if_pos (by omega), if_pos (by omega), if_pos (by omega), wrap64_id (x := rd x (i : Int) * _) (by omega) (by omega),
      wrap64_id (x := ((prods x 1).take i).sum + _) (by omega) (by omega), ← e]
    exact l2_end x k hx hl o hk hkl ho ho' hs d (i + 1) g (by omega) (by omega)

theorem j4_end (x : List Int) (hl : x.length ≤ 8192) (o : Nat) (ho : o ≤ 12) (f : Nat) (hf : 8300 < f) : shawmlaw14_LinearConstant.j4 f x (o : Int) false = some true := by
  obtain ⟨g, rfl⟩ : ∃ g, f = (g + 1) + 1 := ⟨f - 2, by omega⟩
  rw [shawmlaw14_LinearConstant.j4, if_neg (by decide)]
  unfold linear_Reflect.f
  rw [if_pos (by omega), if_neg (by omega)]
  by_cases hc : chk x 2097152 = 0
  · have hw := (chk_zero hc).2
    rw [if_pos hc]
    simp only [Option.bind_some, if_true, Int.toNat_natCast]
    rw [shawmlaw14_LinearConstant.j5]
    by_cases h0 : o = 0
    · subst h0; rfl
    · rw [if_neg (by simp; omega)]
      have := l2_end x (reflected x o) hw hl o (by unfold reflected; exact coefs_range _ _ _) (by unfold reflected; exact coefs_length _ _ _) (by omega) ho (first_sign x hw hl o (by omega)) (x.length - 1) 0 g (by omega) (by omega)
      simpa using this
  · rw [if_neg hc]
    simp only [Option.bind_some, if_neg hc]
    rfl

theorem l1_end (x : List Int) (v a2 : Int) (hl : x.length ≤ 8192) (ha : 0 ≤ a2 ∧ a2 < 256) : ∀ (d i f : Nat), i + d = x.length → d + 8400 < f → shawmlaw14_LinearConstant.l1 f x v a2 (firstOnly x.length v) (x.length : Int) (i : Int) = some true
  | 0, i, f, h, hf => by
    obtain ⟨g, rfl⟩ : ∃ g, f = g + 1 := ⟨f - 1, by omega⟩
    obtain ⟨o, ho⟩ : ∃ o : Nat, Int.tmod (wrap64 a2) 13 = o ∧ o ≤ 12 := by
      rw [wrap64_id (by omega) (by omega), Int.tmod_eq_emod_of_nonneg ha.1]
      exact ⟨(a2 % 13).toNat, by omega, by omega⟩
    have hrf : linear_Reflect.f (List.replicate x.length 0) (o : Int) = some (List.replicate o 0, 0) := by
      unfold linear_Reflect.f
      rw [if_pos (by simp; omega), if_neg (by omega), if_pos (chk_rep _ _ _ hl (by omega)), Int.toNat_natCast, reflected_rep0]
    rw [shawmlaw14_LinearConstant.l1, if_neg (by omega), if_pos (by omega), Int.toNat_natCast, if_pos (by omega), ho.1, hrf]
    simp only [Option.bind_some, if_true, Int.toNat_natCast]
    rw [if_pos (by omega), if_pos (by omega), ints_refl _ _ rfl g (by simp; omega) (by simp; omega)]
    simp only [Option.bind_some, Bool.not_true]
    exact j4_end x hl o ho.2 g (by omega)
  | d + 1, i, f, h, hf => by
    obtain ⟨g, rfl⟩ : ∃ g, f = g + 1 := ⟨f - 1, by omega⟩
    have ih := l1_end x v a2 hl ha d (i + 1) g (by omega) (by omega)
    have hr := rd_firstOnly x.length v i (by omega)
    rw [shawmlaw14_LinearConstant.l1, if_pos (by omega), if_pos (by omega), if_pos (by rw [firstOnly_length]; omega), wrap64_id (x := (i : Int) + 1) (by omega) (by omega)]
    by_cases h0 : i = 0
    · rw [if_pos h0] at hr
      rw [if_pos (by omega), if_pos hr, if_neg (by omega)]
      exact ih
    · rw [if_neg h0] at hr
      rw [if_neg (by omega), if_pos (by omega), if_pos hr]
      exact ih

theorem l0_end (x : List Int) (v a2 : Int) (hl : x.length ≤ 8192) (hv : -2097152 ≤ v ∧ v ≤ 2097152) (ha : 0 ≤ a2 ∧ a2 < 256) : ∀ (d i f : Nat), i + d = x.length → d + 17000 < f → shawmlaw14_LinearConstant.l0 f x v a2 (List.replicate i v ++ List.replicate (x.length - i) 0) (x.length : Int) (i : Int) = some true
  | 0, i, f, h, hf => by
    obtain ⟨g, rfl⟩ : ∃ g, f = (g + 1) + 1 := ⟨f - 2, by omega⟩
    obtain rfl : i = x.length := by omega
    have hd : linear_Differ.f (List.replicate x.length v) 1 = some (firstOnly x.length v, 0) := by
      unfold linear_Differ.f
      rw [if_pos (by simp; omega), if_neg (by omega), if_pos (chk_rep _ _ _ hl hv), show (1 : Int).toNat = 1 from rfl, diffs_rep]
    rw [shawmlaw14_LinearConstant.l0, if_neg (by omega), Nat.sub_self, List.replicate_zero, List.append_nil, hd]
    simp only [Option.bind_some, if_true]
    rw [firstOnly_length, shawmlaw14_LinearConstant.j2, if_neg (by simp), firstOnly_length]
    exact l1_end x v a2 hl ha x.length 0 g (by omega) (by omega)
  | d + 1, i, f, h, hf => by
    obtain ⟨g, rfl⟩ : ∃ g, f = g + 1 := ⟨f - 1, by omega⟩
    have ih := l0_end x v a2 hl hv ha d (i + 1) g (by omega) (by omega)
    rw [shawmlaw14_LinearConstant.l0, if_pos (by omega), if_pos (by omega), if_pos (by simp; omega), wrap64_id (x := (i : Int) + 1) (by omega) (by omega), Int.toNat_natCast]
    have e : (List.replicate i v ++ List.replicate (x.length - i) (0 : Int)).set i v = List.replicate (i + 1) v ++ List.replicate (x.length - (i + 1)) 0 := by
      rw [List.set_append_right _ _ (by simp), List.length_replicate, Nat.sub_self, show x.length - i = (x.length - (i + 1)) + 1 by omega, List.replicate_succ, List.set_cons_zero, List.replicate_succ' , List.append_assoc]
      rfl
    rw [e]
    exact ih

theorem wf_u8 {x : Int} (h : (Lit.int .u8 x).wf = true) : 0 ≤ x ∧ x < 256 := by
  unfold Lit.wf at h
  rw [Bool.and_eq_true, decide_eq_true_eq, decide_eq_true_eq] at h
  have h1 : IntKind.u8.min = 0 := by decide
  have h2 : IntKind.u8.max = 255 := by decide
  omega

theorem LinearConstant : shawmlaw14_LinearConstant.Pure := by
  intro x v a2 _ _ _ _ h2
  have ha := wf_u8 h2
  refine ⟨60000, ?_⟩
  unfold shawmlaw14_LinearConstant.f
  have hj : ∀ b, b = true → shawmlaw14_LinearConstant.j0 60000 x v a2 b = some true := by rintro b rfl; rw [shawmlaw14_LinearConstant.j0, if_pos rfl]; rfl
  by_cases h1 : (x.length : Int) > 8192
  · rw [if_pos h1]; exact hj _ rfl
  · rw [if_neg h1]
    by_cases h2 : v < -2097152
    · rw [if_pos h2]; exact hj _ rfl
    · rw [if_neg h2]
      by_cases h3 : v > 2097152
      · exact hj _ (decide_eq_true h3)
      · rw [decide_eq_false h3, shawmlaw14_LinearConstant.j0, if_neg (by decide), if_pos (by omega), Int.toNat_natCast, if_pos (by omega)]
        simp only [Option.bind_some, List.length_replicate]
        have := l0_end x v a2 (by omega) (by omega) ha x.length 0 59999 (by omega) (by omega)
        simpa using this
end Go.Proofs.Ytafdiakomcejjaa.Pure
