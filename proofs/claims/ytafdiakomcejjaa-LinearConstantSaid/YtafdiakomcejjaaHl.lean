/- The plain words of linear.Reflect: bounds. -/
import Derived.Test.YtafdiakomcejjaaHk
namespace Go.Proofs.Ytafdiakomcejjaa.P
open Go.RowKit Go.Shelf Go.Proofs.YtafdiakomcejjaaW.PrintWords Go.Proofs.YtafdiakomcejjaaW.PrintLast Go.Proofs.YtafdiakomcejjaaW.PrintMore
set_option linter.unusedVariables false
set_option linter.unusedSimpArgs false
attribute [local go_sem ↓] Go.wp_at_zero Go.wp_at_succ

/-- The lists of the closure after n calls. -/
def rst (u v : List Int) : Nat → List Int × List Int
  | 0 => (u, v)
  | n + 1 => (nextA (rst u v n).1 (rst u v n).2, nextB (rst u v n).1 (rst u v n).2)
/-- The coefficients. -/
def coefs (u v : List Int) (o : Nat) : List Int := (List.range o).map fun n => refK (rst u v n).1 (rst u v n).2
theorem coefs_take (u v : List Int) (o k : Nat) (h : k < o) : (coefs u v o).take (k + 1) = (coefs u v o).take k ++ [refK (rst u v k).1 (rst u v k).2] := by
  rw [List.take_add_one]
  simp [coefs, h]
theorem coefs_length (u v : List Int) (o : Nat) : (coefs u v o).length = o := by simp [coefs]
theorem rst_length {u v : List Int} {o : Nat} (hu : u.length = o) (hv : v.length = o) : ∀ n, (rst u v n).1.length = o - n ∧ (rst u v n).2.length = o - n
  | 0 => ⟨by simpa [rst] using hu, by simpa [rst] using hv⟩
  | n + 1 => by
    have h := rst_length hu hv n
    simp only [rst, nextA, nextB, List.length_map, List.length_range]
    omega
theorem rd_map (f : Nat → Int) (n : Nat) (i : Int) : rd ((List.range n).map f) i = if i.toNat < n then f i.toNat else 0 := by
  unfold rd
  rw [List.getD_eq_getElem?_getD]
  split
  · rename_i h; simp [h]
  · rename_i h; rw [List.getElem?_eq_none (by simpa using h)]; rfl
theorem bnd_next {M : Int} {u v : List Int} (h0 : 0 ≤ M) (hu : bnd M u) (hv : bnd M v) : bnd (2 * M) (nextA u v) ∧ bnd (2 * M) (nextB u v) := by
  have hk := refK_range u v
  constructor
  · intro i
    unfold nextA
    rw [rd_map]
    split
    · have h1 := hu ((i.toNat : Int) + 1)
      have h2 := kstep hk (hv ((i.toNat : Int) + 1))
      show -(2 * M) ≤ refA u v (refK u v) i.toNat ∧ refA u v (refK u v) i.toNat ≤ 2 * M
      unfold refA
      omega
    · omega
  · intro i
    unfold nextB
    rw [rd_map]
    split
    · have h1 := hv (i.toNat : Int)
      have h2 := kstep hk (hu (i.toNat : Int))
      show -(2 * M) ≤ refB u v (refK u v) i.toNat ∧ refB u v (refK u v) i.toNat ≤ 2 * M
      unfold refB
      omega
    · omega
theorem bnd_mono {M M' : Int} {l : List Int} (h : bnd M l) (hm : M ≤ M') : bnd M' l := fun i => by have := h i; omega
theorem bnd_rst {u v : List Int} (hu : bnd 1073741824 u) (hv : bnd 1073741824 v) : ∀ n, bnd (1073741824 * 2 ^ n) (rst u v n).1 ∧ bnd (1073741824 * 2 ^ n) (rst u v n).2
  | 0 => ⟨by simpa [rst] using hu, by simpa [rst] using hv⟩
  | n + 1 => by
    have h := bnd_rst hu hv n
    have hp : (0 : Int) ≤ 1073741824 * 2 ^ n := Int.mul_nonneg (by omega) (by have := Int.pow_pos (n := 2) (m := n) (by omega); omega)
    have := bnd_next hp h.1 h.2
    have e : (1073741824 : Int) * 2 ^ (n + 1) = 2 * (1073741824 * 2 ^ n) := by rw [Int.pow_succ]; omega
    rw [e]
    exact this
theorem bnd_rst' {u v : List Int} (hu : bnd 1073741824 u) (hv : bnd 1073741824 v) (n : Nat) (hn : n ≤ 12) : bnd 35184372088832 (rst u v n).1 ∧ bnd 35184372088832 (rst u v n).2 := by
  have h := bnd_rst hu hv n
  have hp : (2 : Int) ^ n ≤ 2 ^ 12 := by have := Nat.pow_le_pow_right (show 0 < 2 by omega) hn; exact_mod_cast this
  have hm : (1073741824 : Int) * 2 ^ n ≤ 35184372088832 := by omega
  exact ⟨bnd_mono h.1 hm, bnd_mono h.2 hm⟩

/-! the sums of products are at most the sum of squares -/
theorem sum_range_succ (f : Nat → Int) (n : Nat) : ((List.range (n + 1)).map f).sum = ((List.range n).map f).sum + f n := by
  rw [List.range_succ, List.map_append, List.sum_append]; simp
theorem sum_le (f g : Nat → Int) : ∀ n, (∀ i, i < n → f i ≤ g i) → ((List.range n).map f).sum ≤ ((List.range n).map g).sum
  | 0, _ => by simp
  | n + 1, h => by
    have := sum_le f g n (fun i hi => h i (by omega))
    have := h n (by omega)
    rw [sum_range_succ, sum_range_succ]; omega
theorem sum_add (f g : Nat → Int) : ∀ n, ((List.range n).map fun i => f i + g i).sum = ((List.range n).map f).sum + ((List.range n).map g).sum
  | 0 => by simp
  | n + 1 => by have := sum_add f g n; rw [sum_range_succ, sum_range_succ, sum_range_succ]; omega
theorem sum_two (f : Nat → Int) : ∀ n, ((List.range n).map fun i => 2 * f i).sum = 2 * ((List.range n).map f).sum
  | 0 => by simp
  | n + 1 => by have := sum_two f n; rw [sum_range_succ, sum_range_succ]; omega
theorem sum_neg (f : Nat → Int) : ∀ n, ((List.range n).map fun i => -f i).sum = -((List.range n).map f).sum
  | 0 => by simp
  | n + 1 => by have := sum_neg f n; rw [sum_range_succ, sum_range_succ]; omega
theorem sum_mono_n (f : Nat → Int) (hf : ∀ i, 0 ≤ f i) : ∀ k n, ((List.range n).map f).sum ≤ ((List.range (n + k)).map f).sum
  | 0, n => by simp
  | k + 1, n => by have := sum_mono_n f hf k n; have := hf (n + k); rw [← Nat.add_assoc, sum_range_succ]; omega
theorem sum_shift (f : Nat → Int) (hf : ∀ i, 0 ≤ f i) (s : Nat) : ∀ n, ((List.range n).map fun i => f (s + i)).sum ≤ ((List.range (s + n)).map f).sum
  | 0 => by
    have := sum_mono_n f hf s 0
    simpa using this
  | n + 1 => by
    have := sum_shift f hf s n
    rw [sum_range_succ, ← Nat.add_assoc, sum_range_succ]; omega
theorem sq_nonneg (x : Int) : 0 ≤ x * x := by
  rcases Int.le_total 0 x with q | q
  · exact Int.mul_nonneg q q
  · exact Int.mul_nonneg_of_nonpos_of_nonpos q q
theorem two_mul_le (x y : Int) : 2 * (x * y) ≤ x * x + y * y := by
  have h := sq_nonneg (x - y)
  have e : (x - y) * (x - y) = x * x - x * y - (y * x - y * y) := by rw [Int.sub_mul, Int.mul_sub, Int.mul_sub]
  rw [e, Int.mul_comm y x] at h
  omega
theorem two_mul_ge (x y : Int) : -(x * x + y * y) ≤ 2 * (x * y) := by
  have h := sq_nonneg (x + y)
  have e : (x + y) * (x + y) = x * x + x * y + (y * x + y * y) := by rw [Int.add_mul, Int.mul_add, Int.mul_add]
  rw [e, Int.mul_comm y x] at h
  omega
theorem prods_le (x : List Int) (far : Nat) : -(prods x 0).sum ≤ (prods x far).sum ∧ (prods x far).sum ≤ (prods x 0).sum := by
  rcases Nat.lt_or_ge x.length far with hlt | hge
  · have e : prods x far = [] := by unfold prods; rw [show x.length - far = 0 by omega]; rfl
    have h0 : 0 ≤ (prods x 0).sum := sum_nonneg _ (fun y hy => by obtain ⟨j, _, rfl⟩ := List.mem_map.1 hy; rw [Nat.zero_add]; exact sq_nonneg _)
    rw [e]
    simp only [List.sum_nil]
    omega
  · obtain ⟨n, hn⟩ : ∃ n, x.length = far + n := ⟨x.length - far, by omega⟩
    have a := sum_shift (fun i => rd x (i : Int) * rd x (i : Int)) (fun i => sq_nonneg _) far n
    have b := sum_mono_n (fun i => rd x (i : Int) * rd x (i : Int)) (fun i => sq_nonneg _) far n
    have c1 := sum_le (fun j => 2 * (rd x ((far + j : Nat) : Int) * rd x (j : Int))) (fun j => rd x ((far + j : Nat) : Int) * rd x ((far + j : Nat) : Int) + rd x (j : Int) * rd x (j : Int)) n (fun j _ => two_mul_le _ _)
    have c2 := sum_le (fun j => -(rd x ((far + j : Nat) : Int) * rd x ((far + j : Nat) : Int) + rd x (j : Int) * rd x (j : Int))) (fun j => 2 * (rd x ((far + j : Nat) : Int) * rd x (j : Int))) n (fun j _ => two_mul_ge _ _)
    rw [sum_two, sum_add] at c1
    rw [sum_two, sum_neg, sum_add] at c2
    have e1 : (prods x far).sum = ((List.range n).map fun (j : Nat) => rd x ((far + j : Nat) : Int) * rd x (j : Int)).sum := by unfold prods; rw [show x.length - far = n by omega]
    have e0 : (prods x 0).sum = ((List.range (far + n)).map fun (i : Nat) => rd x (i : Int) * rd x (i : Int)).sum := by
      unfold prods
      rw [show x.length - 0 = far + n by omega]
      simp only [Nat.zero_add]
    rw [e1, e0]
    rw [Nat.add_comm n far] at b
    omega
theorem normd_bnd {x : List Int} (hw : within 2097152 x) (hl : x.length ≤ 9000) (o : Nat) : bnd 1073741824 (normd x o) := by
  have hS : rd (autos x o) 0 = (prods x 0).sum := by
    have : rd (autos x o) 0 = wsum (prods x 0) := by simp [autos, rd, List.getD_eq_getElem?_getD]
    rw [this, (wsum_prods hw hl 0).1]
  have h0 := prods_zero_nonneg hw hl
  rw [(wsum_prods hw hl 0).1] at h0
  have h1 : (prods x 0).sum ≤ 39582418599936000 := by have := wsum_prods hw hl 0; omega
  have hsh : ∀ f h : Nat, f + h = 64 → (prods x 0).sum / 2 ^ shfrom (prods x 0).sum f h < 1073741824 := by
    intro f
    induction f with
    | zero =>
      intro h hh
      obtain rfl : h = 64 := by omega
      show (prods x 0).sum / 2 ^ 64 < 1073741824
      omega
    | succ f ih =>
      intro h hh
      by_cases hq : (prods x 0).sum / 2 ^ h < 1073741824
      · rw [shfrom_stop _ _ _ hq]; exact hq
      · rw [shfrom_step _ _ _ (by omega)]; exact ih (h + 1) (by omega)
  have hS2 := hsh 64 0 rfl
  intro i
  have e : normd x o = (List.range (o + 1)).map fun j => wsum (prods x j) / 2 ^ shf ((prods x 0).sum) := by
    unfold normd; rw [hS]; unfold autos; simp
  rw [e, rd_map]
  split
  · show -1073741824 ≤ wsum (prods x i.toNat) / 2 ^ shf ((prods x 0).sum) ∧ wsum (prods x i.toNat) / 2 ^ shf ((prods x 0).sum) ≤ 1073741824
    rw [(wsum_prods hw hl i.toNat).1]
    unfold shf
    have hp : (0 : Int) < 2 ^ shfrom (prods x 0).sum 64 0 := Int.pow_pos (by omega)
    have hb := prods_le x i.toNat
    generalize (2 : Int) ^ shfrom (prods x 0).sum 64 0 = D at *
    have hlt : (prods x 0).sum < 1073741824 * D := by
      have := (Int.ediv_lt_iff_lt_mul hp).1 hS2
      omega
    constructor
    · rw [Int.le_ediv_iff_mul_le hp]
      have : -1073741824 * D = -(1073741824 * D) := Int.neg_mul _ _
      omega
    · have := (Int.ediv_lt_iff_lt_mul hp (a := (prods x i.toNat).sum) (b := 1073741824)).2 (by omega)
      omega
  · omega
end Go.Proofs.Ytafdiakomcejjaa.P
