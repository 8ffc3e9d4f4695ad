/- The plain law of LinearReflects. -/
import Derived.Test.YtafdiakomcejjaaPg
import Derived.Test.YtafdiakomcejjaaQe
import Derived.Test.YtafdiakomcejjaaQb
namespace Go.Proofs.Ytafdiakomcejjaa.Pure
open Go.RowKit Go.Proofs.Ytafdiakomcejjaa.P Go.Proofs.YtafdiakomcejjaaW.PrintWords Go.Proofs.YtafdiakomcejjaaW.PrintLast Go.Proofs.YtafdiakomcejjaaW.PrintMore
set_option linter.unusedVariables false
set_option linter.unusedSimpArgs false

/-- The sum of the first j products. -/
def psumP (x : List Int) (far j : Nat) : Int := ((List.range j).map fun (t : Nat) => rd x ((far + t : Nat) : Int) * rd x (t : Int)).sum
theorem psumP_succ (x : List Int) (far j : Nat) : psumP x far (j + 1) = psumP x far j + rd x ((far + j : Nat) : Int) * rd x (j : Int) := by
  unfold psumP; rw [sum_range_succ]
theorem psumP_bound {x : List Int} (hx : within 2097152 x) (far : Nat) : ∀ j : Nat, -(4398046511104 * j) ≤ psumP x far j ∧ psumP x far j ≤ 4398046511104 * j
  | 0 => by simp [psumP]
  | j + 1 => by
    have h := psumP_bound hx far j
    have := mul_bound (within_rd hx (by omega) ((far + j : Nat) : Int)) (within_rd hx (by omega) (j : Int))
    rw [psumP_succ]; omega
theorem products_l0 (x : List Int) (hx : within 2097152 x) (hl : x.length ≤ 8192) (far : Nat) (hf : far ≤ 100) : ∀ (d j f : Nat), j + d = x.length - far → d < f → shawmref14_products.l0 f x (far : Int) (psumP x far j) (j : Int) = some (prods x far).sum
  | 0, j, f, h, hf' => by
    obtain ⟨g, rfl⟩ : ∃ g, f = g + 1 := ⟨f - 1, by omega⟩
    obtain rfl : j = x.length - far := by omega
    rw [shawmref14_products.l0, wrap64_id (x := ((x.length - far : Nat) : Int) + (far : Int)) (by omega) (by omega), if_neg (by omega)]
    rfl
  | d + 1, j, f, h, hf' => by
    obtain ⟨g, rfl⟩ : ∃ g, f = g + 1 := ⟨f - 1, by omega⟩
    have hb := psumP_bound hx far j
    have hb1 := psumP_bound hx far (j + 1)
    have hs := psumP_succ x far j
    have hm := mul_bound (within_rd hx (by omega) (j : Int)) (within_rd hx (by omega) ((j : Int) + (far : Int)))
    have e : rd x (j : Int) * rd x ((j : Int) + (far : Int)) = rd x ((far + j : Nat) : Int) * rd x (j : Int) := by rw [Int.mul_comm, show ((far + j : Nat) : Int) = (j : Int) + (far : Int) by omega]
    rw [shawmref14_products.l0, wrap64_id (x := (j : Int) + (far : Int)) (by omega) (by omega), if_pos (by omega), if_pos (by omega), if_pos (by omega), if_pos (by omega), wrap64_id (x := rd x (j : Int) * _) (by omega) (by omega),
      wrap64_id (x := psumP x far j + _) (by rw [e, ← hs]; omega) (by rw [e, ← hs]; omega), wrap64_id (x := (j : Int) + 1) (by omega) (by omega), e, ← hs]
    exact products_l0 x hx hl far hf d (j + 1) g (by omega) (by omega)
theorem products_f (x : List Int) (hx : within 2097152 x) (hl : x.length ≤ 8192) (far : Nat) (hf : far ≤ 100) (f : Nat) (hk : 8192 < f) : shawmref14_products.f f x (far : Int) = some (prods x far).sum := by
  unfold shawmref14_products.f
  exact products_l0 x hx hl far hf (x.length - far) 0 f (by omega) (by omega)

theorem shr_nat (s : Int) (h : Nat) (hh : h ≤ 64) : shr .i64 s (h : Int) = s / 2 ^ h := by
  unfold shr
  rw [Int.toNat_natCast, Nat.min_eq_left (by show h ≤ 64; exact hh)]

/-! ### the coefficients -/
theorem l3_ok (o : Nat) (u v : List Int) (n : Nat) (k : Int) (hk : -127 ≤ k ∧ k ≤ 127) (hn : n < o) (ho : o ≤ 12) (hul : u.length = o - n) (hvl : v.length = o - n) (hu : bnd 35184372088832 u) (hv : bnd 35184372088832 v) (out : List Int) (R : List Int × Int) (G : Nat)
    (hG : ∀ g, G ≤ g → shawmref14_Reflect.l2 g (o : Int) ((List.range (o - n - 1)).map (refA u v k)) ((List.range (o - n - 1)).map (refB u v k)) out ((n : Int) + 2) = some R) : ∀ (d i f : Nat), i + d = o - n - 1 → G + d < f →
    shawmref14_Reflect.l3 f (o : Int) u v out ((n : Int) + 1) k ((List.range i).map (refA u v k)) ((List.range i).map (refB u v k)) (i : Int) = some R
  | 0, i, f, h, hf => by
    obtain ⟨g, rfl⟩ : ∃ g, f = g + 1 := ⟨f - 1, by omega⟩
    obtain rfl : i = o - n - 1 := by omega
    rw [shawmref14_Reflect.l3, wrap64_id (x := (o : Int) - ((n : Int) + 1)) (by omega) (by omega), if_neg (by omega), wrap64_id (x := (n : Int) + 1 + 1) (by omega) (by omega), show (n : Int) + 1 + 1 = (n : Int) + 2 by omega]
    exact hG g (by omega)
  | d + 1, i, f, h, hf => by
    obtain ⟨g, rfl⟩ : ∃ g, f = g + 1 := ⟨f - 1, by omega⟩
    have b1 := hu ((i : Int) + 1)
    have b2 := hv ((i : Int) + 1)
    have b3 := hu (i : Int)
    have b4 := hv (i : Int)
    have m1 := kmul hk b2
    have m2 := kmul hk b3
    have s1 := kstep hk b2
    have s2 := kstep hk b3
    rw [shawmref14_Reflect.l3, wrap64_id (x := (o : Int) - ((n : Int) + 1)) (by omega) (by omega), if_pos (by omega), wrap64_id (x := (i : Int) + 1) (by omega) (by omega), if_pos (by omega), if_pos (by omega), if_pos (by omega),
      wrap64_id (x := k * rd v ((i : Int) + 1)) (by omega) (by omega), near_f _ 128 (by omega) (by omega) (by omega) (by omega)]
    simp only [Option.bind_some]
    rw [if_pos (by simp; omega), if_pos (by omega), if_pos (by omega), if_pos (by omega), wrap64_id (x := k * rd u (i : Int)) (by omega) (by omega), near_f _ 128 (by omega) (by omega) (by omega) (by omega)]
    simp only [Option.bind_some]
    rw [if_pos (by simp; omega), wrap64_id (x := rd u ((i : Int) + 1) + _) (by omega) (by omega), wrap64_id (x := rd v (i : Int) + _) (by omega) (by omega)]
    have ih := l3_ok o u v n k hk hn ho hul hvl hu hv out R G hG d (i + 1) g (by omega) (by omega)
    rw [List.range_succ, List.map_append, List.map_append] at ih
    exact ih

theorem clamp_eq (t : Int) : mx (-127) (mn 127 t) = min (max t (-127)) 127 := by unfold mx mn; split <;> split <;> omega
theorem l2_ok (o : Nat) (U V : List Int) (hU : U.length = o) (hV : V.length = o) (bU : bnd 1073741824 U) (bV : bnd 1073741824 V) (ho : o ≤ 12) : ∀ (d n f : Nat), n + d = o → 20 * d < f →
    shawmref14_Reflect.l2 f (o : Int) (rst U V n).1 (rst U V n).2 ((coefs U V o).take n) ((n : Int) + 1) = some (coefs U V o, 0)
  | 0, n, f, h, hf => by
    obtain ⟨g, rfl⟩ : ∃ g, f = g + 1 := ⟨f - 1, by omega⟩
    obtain rfl : n = o := by omega
    rw [shawmref14_Reflect.l2, if_neg (by omega), List.take_of_length_le (by rw [coefs_length]; exact Nat.le_refl _)]
  | d + 1, n, f, h, hf => by
    obtain ⟨g, rfl⟩ : ∃ g, f = (g + 1) + 1 := ⟨f - 2, by omega⟩
    obtain ⟨hul, hvl⟩ := rst_length hU hV n
    obtain ⟨bu, bv⟩ := bnd_rst' bU bV n (by omega)
    have hT := coefs_take U V o n (by omega)
    have hk := refK_range (rst U V n).1 (rst U V n).2
    have next : shawmref14_Reflect.j4 (g + 1) (o : Int) (rst U V n).1 (rst U V n).2 ((coefs U V o).take n) ((n : Int) + 1) (refK (rst U V n).1 (rst U V n).2) = some (coefs U V o, 0) := by
      rw [shawmref14_Reflect.j4, if_pos (by rw [List.length_take, coefs_length]; omega), ← hT]
      have hG : ∀ q, 20 * d + 1 ≤ q → shawmref14_Reflect.l2 q (o : Int) ((List.range (o - n - 1)).map (refA (rst U V n).1 (rst U V n).2 (refK (rst U V n).1 (rst U V n).2))) ((List.range (o - n - 1)).map (refB (rst U V n).1 (rst U V n).2 (refK (rst U V n).1 (rst U V n).2))) ((coefs U V o).take (n + 1)) ((n : Int) + 2) = some (coefs U V o, 0) := by
        intro q hq
        have ih := l2_ok o U V hU hV bU bV ho d (n + 1) q (by omega) (by omega)
        rw [show ((n + 1 : Nat) : Int) + 1 = (n : Int) + 2 by omega] at ih
        simp only [rst, nextA, nextB, hul] at ih
        exact ih
      exact l3_ok o _ _ n _ hk (by omega) ho hul hvl bu bv _ _ (20 * d + 1) hG (o - n - 1) 0 g (by omega) (by omega)
    rw [shawmref14_Reflect.l2, if_pos (by omega), if_pos (by omega)]
    unfold refK at next
    by_cases hp : 0 < rd (rst U V n).2 0
    · have b1 := bu 0
      have b2 := bv 0
      rw [if_pos hp] at next
      rw [if_pos hp, if_pos (by omega), wrap64_id (x := -128 * rd (rst U V n).1 0) (by omega) (by omega), near_f _ _ hp (by omega) (by omega) (by omega)]
      simp only [Option.bind_some]
      rw [clamp_eq]
      exact next
    · rw [if_neg hp] at next
      rw [if_neg hp]
      exact next

/-! ### the lists -/
def UU (x : List Int) (h o : Nat) : List Int := (List.range o).map fun j => (prods x (j + 1)).sum / 2 ^ h
def VV (x : List Int) (h o : Nat) : List Int := (List.range o).map fun j => (prods x j).sum / 2 ^ h
theorem take_map_succ (f : Nat → Int) (o i : Nat) (h : i < o) : ((List.range o).map f).take (i + 1) = ((List.range o).map f).take i ++ [f i] := by
  rw [List.take_add_one]; simp [h]
theorem l1_ok (x : List Int) (hx : within 2097152 x) (hl : x.length ≤ 8192) (o h : Nat) (ho : o ≤ 12) (hh : h ≤ 27) (R : List Int × Int) (G : Nat) (hG : ∀ g, G ≤ g → shawmref14_Reflect.l2 g (o : Int) (UU x h o) (VV x h o) [] 1 = some R) :
    ∀ (d i f : Nat), i + d = o → G + d + 8200 < f → shawmref14_Reflect.l1 f x (o : Int) (h : Int) ((UU x h o).take i) ((VV x h o).take i) (o : Int) (i : Int) = some R
  | 0, i, f, hi, hf => by
    obtain ⟨g, rfl⟩ : ∃ g, f = g + 1 := ⟨f - 1, by omega⟩
    rw [shawmref14_Reflect.l1, if_neg (by omega), List.take_of_length_le (by simp [UU]; omega), List.take_of_length_le (by simp [VV]; omega)]
    exact hG g (by omega)
  | d + 1, i, f, hi, hf => by
    obtain ⟨g, rfl⟩ : ∃ g, f = g + 1 := ⟨f - 1, by omega⟩
    have p1 := products_f x hx hl (i + 1) (by omega) g (by omega)
    have p0 := products_f x hx hl i (by omega) g (by omega)
    rw [shawmref14_Reflect.l1, if_pos (by omega), wrap64_id (x := (i : Int) + 1) (by omega) (by omega), show (i : Int) + 1 = ((i + 1 : Nat) : Int) by omega, p1]
    simp only [Option.bind_some]
    rw [if_pos (by omega), if_pos (by simp [UU]; omega), p0]
    simp only [Option.bind_some]
    rw [if_pos (by simp [VV]; omega), shr_nat _ h (by omega), shr_nat _ h (by omega)]
    have ih := l1_ok x hx hl o h ho hh R G hG d (i + 1) g (by omega) (by omega)
    unfold UU VV at ih ⊢
    rw [take_map_succ _ o i (by omega), take_map_succ _ o i (by omega)] at ih
    exact ih
theorem l0_ok (x : List Int) (hx : within 2097152 x) (hl : x.length ≤ 8192) (o : Nat) (R : List Int × Int) (G : Nat) (hs0 : 0 ≤ (prods x 0).sum) (hs1 : (prods x 0).sum ≤ 39582418599936000)
    (hG : ∀ g, G ≤ g → shawmref14_Reflect.l1 g x (o : Int) (shf (prods x 0).sum : Int) [] [] (o : Int) 0 = some R) : ∀ (d h f : Nat), h + d = 27 → G + d + 8200 < f → shf (prods x 0).sum = shfrom (prods x 0).sum (64 - h) h → shawmref14_Reflect.l0 f x (o : Int) (h : Int) = some R := by
  intro d
  induction d with
  | zero =>
    intro h f hd hf he
    obtain ⟨g, rfl⟩ : ∃ g, f = g + 1 := ⟨f - 1, by omega⟩
    have hlt : (prods x 0).sum / 2 ^ h < 1073741824 := by
      apply Int.not_le.1
      intro hq
      have := div_pow_le _ h hs0 hs1 hq
      omega
    rw [show 64 - h = (63 - h) + 1 by omega, shfrom_stop _ _ _ hlt] at he
    have p0 := products_f x hx hl 0 (by omega) g (by omega)
    rw [shawmref14_Reflect.l0, show (0 : Int) = ((0 : Nat) : Int) from rfl, p0]
    simp only [Option.bind_some]
    rw [if_pos (by omega), shr_nat _ h (by omega), if_neg (by omega), ← he]
    exact hG g (by omega)
  | succ d ih =>
    intro h f hd hf he
    obtain ⟨g, rfl⟩ : ∃ g, f = g + 1 := ⟨f - 1, by omega⟩
    have p0 := products_f x hx hl 0 (by omega) g (by omega)
    rw [shawmref14_Reflect.l0, show (0 : Int) = ((0 : Nat) : Int) from rfl, p0]
    simp only [Option.bind_some]
    rw [if_pos (by omega), shr_nat _ h (by omega)]
    by_cases hq : (prods x 0).sum / 2 ^ h < 1073741824
    · rw [show 64 - h = (63 - h) + 1 by omega, shfrom_stop _ _ _ hq] at he
      rw [if_neg (by omega), ← he]
      exact hG g (by omega)
    · rw [show 64 - h = (64 - (h + 1)) + 1 by omega, shfrom_step _ _ _ (by omega)] at he
      rw [if_pos (by omega), wrap64_id (x := (h : Int) + 1) (by omega) (by omega)]
      exact ih (h + 1) g (by omega) (by omega) he

theorem normd_eq (x : List Int) (hx : within 2097152 x) (hl : x.length ≤ 8192) (o : Nat) : normd x o = (List.range (o + 1)).map fun j => (prods x j).sum / 2 ^ shf (prods x 0).sum := by
  have hS : rd (autos x o) 0 = (prods x 0).sum := by
    have : rd (autos x o) 0 = wsum (prods x 0) := by simp [autos, rd, List.getD_eq_getElem?_getD]
    rw [this, (wsum_prods hx (by omega) 0).1]
  unfold normd
  rw [hS]
  unfold autos
  rw [List.map_map]
  apply List.map_congr_left
  intro j _
  show wsum (prods x j) / _ = _
  rw [(wsum_prods hx (by omega) j).1]
theorem tail_eq (x : List Int) (hx : within 2097152 x) (hl : x.length ≤ 8192) (o : Nat) : (normd x o).tail = UU x (shf (prods x 0).sum) o := by
  rw [normd_eq x hx hl o, List.range_succ_eq_map]
  simp [UU, Function.comp_def]
theorem take_eq (x : List Int) (hx : within 2097152 x) (hl : x.length ≤ 8192) (o : Nat) : (normd x o).take o = VV x (shf (prods x 0).sum) o := by
  rw [normd_eq x hx hl o, List.range_succ]
  simp [VV]

theorem bnd_tail {x : List Int} (hx : within 2097152 x) (hl : x.length ≤ 8192) (o : Nat) : bnd 1073741824 (UU x (shf (prods x 0).sum) o) ∧ bnd 1073741824 (VV x (shf (prods x 0).sum) o) := by
  have hb := normd_bnd hx (by omega) o
  rw [← tail_eq x hx hl o, ← take_eq x hx hl o]
  constructor
  · intro i
    rcases h : normd x o with _ | ⟨a, t⟩
    · simp [rd]
    · by_cases hi : 0 ≤ i
      · have := hb (i + 1)
        rw [h] at this
        rwa [show rd (a :: t) (i + 1) = rd t i from by unfold rd; rw [show (i + 1).toNat = i.toNat + 1 by omega]; rfl] at this
      · have := hb 1
        rw [h] at this
        rwa [show rd (a :: t) 1 = rd t i from by unfold rd; rw [show i.toNat = 0 by omega]; rfl] at this
  · intro i
    have h1 := hb i
    unfold rd at h1 ⊢
    rw [List.getD_eq_getElem?_getD] at h1 ⊢
    rw [List.getElem?_take]
    split
    · exact h1
    · simp
theorem shfrom_le (S : Int) (h0 : 0 ≤ S) (h1 : S ≤ 39582418599936000) : ∀ d h : Nat, h + d = 27 → shfrom S (64 - h) h ≤ 27
  | 0, h, hd => by
    have hlt : S / 2 ^ h < 1073741824 := by
      apply Int.not_le.1
      intro hq
      have := div_pow_le _ h h0 h1 hq
      omega
    rw [show 64 - h = (63 - h) + 1 by omega, shfrom_stop _ _ _ hlt]
    omega
  | d + 1, h, hd => by
    by_cases hq : S / 2 ^ h < 1073741824
    · rw [show 64 - h = (63 - h) + 1 by omega, shfrom_stop _ _ _ hq]
      omega
    · rw [show 64 - h = (64 - (h + 1)) + 1 by omega, shfrom_step _ _ _ (by omega)]
      exact shfrom_le S h0 h1 d (h + 1) (by omega)
theorem ref_reflect (x : List Int) (k : Int) (hx : x.length ≤ 9000) : shawmref14_Reflect.f 60000 x k = linear_Reflect.f x k := by
  have hl : x.length ≤ 9223372036854775807 := by omega
  unfold linear_Reflect.f shawmref14_Reflect.f
  rw [if_pos hl]
  by_cases h1 : k < 0
  · rw [if_pos h1, if_pos (Or.inl h1), shawmref14_Reflect.j0, if_pos rfl]
  · rw [if_neg h1]
    by_cases h2 : k > 12
    · rw [decide_eq_true h2, if_pos (Or.inr h2), shawmref14_Reflect.j0, if_pos rfl]
    · rw [decide_eq_false h2, if_neg (show ¬ (k < 0 ∨ 12 < k) by omega), shawmref14_Reflect.j0, if_neg (by decide), list_f x 2097152 (by omega) (by omega) 59999 (by omega)]
      simp only [Option.bind_some]
      by_cases hc : chk x 2097152 = 0
      · obtain ⟨hxl, hxw⟩ := chk_zero hc
        obtain ⟨o, rfl⟩ : ∃ o : Nat, k = o := ⟨k.toNat, by omega⟩
        rw [if_pos hc, if_pos hc, Int.toNat_natCast]
        have hs := wsum_prods hxw (by omega) 0
        have hs0 := prods_zero_nonneg hxw (by omega)
        rw [hs.1] at hs0 hs
        have hb := bnd_tail hxw hxl o
        have hsh : shf (prods x 0).sum ≤ 27 := shfrom_le _ hs0 hs.2.2 27 0 (by omega)
        have hG2 : ∀ g, 20 * o + 1 ≤ g → shawmref14_Reflect.l2 g (o : Int) (UU x (shf (prods x 0).sum) o) (VV x (shf (prods x 0).sum) o) [] 1 = some (reflected x o, 0) := by
          intro g hg
          have := l2_ok o (UU x (shf (prods x 0).sum) o) (VV x (shf (prods x 0).sum) o) (by simp [UU]) (by simp [VV]) hb.1 hb.2 (by omega) o 0 g (by omega) (by omega)
          unfold reflected
          rw [tail_eq x hxw hxl o, take_eq x hxw hxl o]
          exact this
        have hG1 : ∀ g, 20 * o + 1 + o + 8201 ≤ g → shawmref14_Reflect.l1 g x (o : Int) (shf (prods x 0).sum : Int) [] [] (o : Int) 0 = some (reflected x o, 0) := fun g hg =>
          l1_ok x hxw hxl o _ (by omega) hsh _ _ hG2 o 0 g (by omega) (by omega)
        exact l0_ok x hxw hxl o _ _ hs0 hs.2.2 hG1 27 0 59999 (by omega) (by omega) rfl
      · rw [if_neg hc, if_neg hc]
theorem reflect_some (x : List Int) (k : Int) (hx : x.length ≤ 9000) : ∃ r e, linear_Reflect.f x k = some (r, e) ∧ r.length ≤ 9000 ∧ shawmref14_Reflect.f 60000 x k = some (r, e) := by
  rw [ref_reflect x k hx]
  unfold linear_Reflect.f
  rw [if_pos (by omega)]
  split
  · exact ⟨_, _, rfl, by simp, rfl⟩
  · split
    · exact ⟨_, _, rfl, by unfold reflected; rw [coefs_length]; omega, rfl⟩
    · exact ⟨_, _, rfl, by simp, rfl⟩

theorem LinearReflects : shawmlaw14_LinearReflects.Pure := by
  intro x k _ _ _ _
  refine ⟨60000, ?_⟩
  unfold shawmlaw14_LinearReflects.f
  by_cases h1 : (x.length : Int) > 9000
  · rw [if_pos h1]; rfl
  · rw [if_neg h1]
    obtain ⟨r, e, hd, hrl, hrd⟩ := reflect_some x k (by omega)
    rw [hd, hrd]
    simp only [Option.bind_some]
    rw [ints_refl r r rfl 60000 (by omega) (by omega)]
    rfl
end Go.Proofs.Ytafdiakomcejjaa.Pure
