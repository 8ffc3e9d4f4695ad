/- The weights of a filter, and what they predict: plain words, and the contract of predictor.at. -/
import Derived.Test.YtafdiakomcejjaaHl
import Derived.Test.YtafdiakomcejjaaHe
namespace Go.Proofs.Ytafdiakomcejjaa.P
open Go.RowKit Go.Shelf Go.Proofs.YtafdiakomcejjaaW.PrintWords Go.Proofs.YtafdiakomcejjaaW.PrintLast Go.Proofs.YtafdiakomcejjaaW.PrintMore
set_option linter.unusedVariables false
set_option linter.unusedSimpArgs false

theorem within_stepW {B : Int} {a : List Int} {k : Int} (h : within B a) (hB : 4064 ≤ 2 * B) (hk : -127 ≤ k ∧ k ≤ 127) : within (2 * B) (stepW a k) := by
  intro x hx
  unfold stepW newW at hx
  rw [List.drop_length, List.append_nil, List.mem_append] at hx
  rcases hx with hx | hx
  · obtain ⟨j, _, rfl⟩ := List.mem_map.1 hx
    have h1 := within_rd h (by omega) (j : Int)
    have h2 := kstep hk (within_rd h (by omega) ((a.length : Int) - 1 - (j : Int)))
    omega
  · obtain rfl := List.mem_singleton.1 hx
    omega
theorem stepW_length (a : List Int) (k : Int) : (stepW a k).length = a.length + 1 := by simp [stepW, newW_length]
theorem smallL_of {B : Int} {a : List Int} (h : within B a) (hB : B ≤ 1099511627776) : smallL a = true := by
  unfold smallL
  rw [List.all_eq_true]
  intro x hx
  have := h x hx
  simp
  omega
/-- The weights of a filter. -/
def wts (l : List Int) : List Int := l.foldl stepW []
theorem wfold_some : ∀ (l a : List Int) (j : Nat), within 127 l → within (4064 * 2 ^ j) a → a.length ≤ j → j + l.length ≤ 12 → wfold a l = some (l.foldl stepW a) ∧ within 16646144 (l.foldl stepW a) ∧ (l.foldl stepW a).length = a.length + l.length
  | [], a, j, _, ha, _, hj => by
    have hp : (2 : Int) ^ j ≤ 2 ^ 12 := by have := Nat.pow_le_pow_right (show 0 < 2 by omega) (show j ≤ 12 by simpa using hj); exact_mod_cast this
    exact ⟨rfl, within_mono ha (by omega), by simp⟩
  | k :: l, a, j, hk, ha, hl, hj => by
    simp only [List.length_cons] at hj
    have hp : (2 : Int) ^ j ≤ 2 ^ 12 := by have := Nat.pow_le_pow_right (show 0 < 2 by omega) (show j ≤ 12 by omega); exact_mod_cast this
    have hp0 : (1 : Int) ≤ 2 ^ j := by have := Int.pow_pos (n := 2) (m := j) (by omega); omega
    have hkk := hk k (by simp)
    have hs := smallL_of ha (by omega)
    have hw := within_stepW ha (by omega) hkk
    rw [show (2 : Int) * (4064 * 2 ^ j) = 4064 * 2 ^ (j + 1) by rw [Int.pow_succ]; omega] at hw
    have ih := wfold_some l (stepW a k) (j + 1) (fun x hx => hk x (List.mem_cons_of_mem _ hx)) hw (by rw [stepW_length]; omega) (by omega)
    have e : stepW? a k = some (stepW a k) := by unfold stepW?; rw [if_pos ⟨hs, by omega, by omega, by omega⟩]
    refine ⟨by rw [wfold, e]; exact ih.1, ih.2.1, ?_⟩
    rw [List.foldl_cons, ih.2.2, stepW_length, List.length_cons]; omega
theorem isF_within {l : List Int} (h : isF l = true) : l.length ≤ 12 ∧ within 127 l := by
  unfold isF at h
  rw [Bool.and_eq_true, decide_eq_true_eq, Bool.not_eq_true'] at h
  refine ⟨h.1, fun x hx => ?_⟩
  have : outB 127 x = false := by
    cases hb : outB 127 x
    · rfl
    · rw [List.any_eq_true.2 ⟨x, hx, hb⟩] at h; cases h.2
  simp [outB] at this
  omega
theorem isF_wts {l : List Int} (h : isF l = true) : linear_weights.f l = some (wts l) ∧ within 16646144 (wts l) ∧ (wts l).length = l.length := by
  obtain ⟨h1, h2⟩ := isF_within h
  have := wfold_some l [] 0 h2 (fun x hx => absurd hx (by simp)) (by simp) (by omega)
  refine ⟨?_, this.2.1, by simpa [wts] using this.2.2⟩
  unfold linear_weights.f
  rw [if_pos (by omega), this.1]
  rfl

/-- What is added for the weight at j. -/
def pterm (p x : List Int) (n j : Nat) : Int := if j < n then rd p (j : Int) * rd x ((n : Int) - 1 - (j : Int)) else 0
def pacc (p x : List Int) (n i : Nat) : Int := ((List.range i).map (pterm p x n)).sum
theorem pacc_succ (p x : List Int) (n i : Nat) : pacc p x n (i + 1) = pacc p x n i + pterm p x n i := by
  unfold pacc; rw [List.range_succ, List.map_append, List.sum_append]; simp
/-- The prediction at n. -/
def pred (p x : List Int) (n : Nat) : Int := rnd (-pacc p x n p.length) 4096
theorem pterm_bound {p x : List Int} (hp : within 16777216 p) (hx : within 2097152 x) (n j : Nat) : -35184372088832 ≤ pterm p x n j ∧ pterm p x n j ≤ 35184372088832 := by
  unfold pterm
  split
  · have := mul_bound (within_rd hp (by omega) (j : Int)) (within_rd hx (by omega) ((n : Int) - 1 - (j : Int)))
    omega
  · omega
theorem pacc_bound {p x : List Int} (hp : within 16777216 p) (hx : within 2097152 x) (n : Nat) : ∀ i : Nat, -(35184372088832 * i) ≤ pacc p x n i ∧ pacc p x n i ≤ 35184372088832 * i
  | 0 => by simp [pacc]
  | i + 1 => by
    have h := pacc_bound hp hx n i
    have := pterm_bound hp hx n i
    rw [pacc_succ]
    omega
theorem pred_bound {p x : List Int} (hp : within 16777216 p) (hx : within 2097152 x) (n : Nat) (hl : p.length ≤ 12) : -1099511627776 ≤ pred p x n ∧ pred p x n ≤ 1099511627776 := by
  have h := pacc_bound hp hx n p.length
  exact rnd_bound _ _ _ (by omega) (by omega) (by omega)

set_option maxHeartbeats 1000000 in
set_option maxRecDepth 100000 in
theorem at_any (Ap Ax : Option Addr) (cp cx : Nat) (p x : List Int) (n : Nat) (w : World) (hCp : Kd.C (Kd.int .i64) w Ap p.length p) (hCx : Kd.C (Kd.int .i64) w Ax x.length x) (hp : within 16777216 p) (hx : within 2097152 x) (hl : p.length ≤ 12) (hn : n ≤ x.length) :
    Calls Try.prog 38 #[.slice Ap p.length cp, .slice Ax x.length cx, .int .i64 n] w fun e w' => e = .returned (.int .i64 (pred p x n)) ∧ w = w' := by
  have hlx := Kd.C_max hCx
  have HP := Aside0.mk hCp
  have HX := Aside0.mk hCx
  have BP := Aside0.mk hp
  have BX := Aside0.mk hx
  clear hCp hCx hp hx
  go_enter Try.func38, Try.ntmps38
  go_wp2
  go_loop [7, 8, 9, 12] (fun s _ _ i => ∃ j : Nat, j ≤ p.length ∧ i = .int .i64 j ∧ s = .int .i64 (pacc p x n j)) (fun _ _ _ i => p.length - (intOf i).toNat)
  case atStart => exact ⟨0, Nat.zero_le _, rfl, rfl⟩
  case round =>
    obtain ⟨j, hj, rfl, rfl⟩ := hrel
    by_cases hlt : j < p.length
    · obtain ⟨ad, e, hc⟩ := Kd.at_int HP.out (j : Int) (by omega) (by omega)
      cases e
      rw [Int.toNat_natCast] at hc
      have hb := pacc_bound BP.out BX.out n j
      have hs := pacc_succ p x n j
      have hb1 := pacc_bound BP.out BX.out n (j + 1)
      have i1 : (0 : Int) ≤ (j : Int) := by omega
      have i2 : (j : Int) < (p.length : Int) := by omega
      have w1' : IntKind.i64.wrap ((n : Int) - 1) = (n : Int) - 1 := IntWalk.i64_in _ (by omega)
      have w2' : IntKind.i64.wrap ((n : Int) - 1 - (j : Int)) = (n : Int) - 1 - (j : Int) := IntWalk.i64_in _ (by omega)
      by_cases hjn : j < n
      · have hm := mul_bound (within_rd BP.out (by omega) (j : Int)) (within_rd BX.out (by omega) ((n : Int) - 1 - (j : Int)))
        obtain ⟨ax, e2, hcx⟩ := Kd.at_int HX.out ((n : Int) - 1 - (j : Int)) (by omega) (by omega)
        cases e2
        have ht : pterm p x n j = rd p (j : Int) * rd x ((n : Int) - 1 - (j : Int)) := by unfold pterm; rw [if_pos hjn]
        rw [ht] at hs
        rw [hs] at hb1
        have HS := Aside0.mk hs
        have q1 : decide ((0 : Int) ≤ (n : Int) - 1 - (j : Int)) = true := by simp; omega
        have i3 : (0 : Int) ≤ (n : Int) - 1 - (j : Int) := by omega
        have i4 : (n : Int) - 1 - (j : Int) < (x.length : Int) := by omega
        have i5 : (j : Int) ≤ (n : Int) - 1 := by omega
        obtain ⟨z, hz⟩ : ∃ z, z = rd p (j : Int) := ⟨_, rfl⟩
        obtain ⟨y, hy⟩ : ∃ y, y = rd x ((n : Int) - 1 - (j : Int)) := ⟨_, rfl⟩
        rw [← hz, ← hy] at hm hb1 HS
        rw [← hz] at hc
        rw [← hy] at hcx
        have w3' : IntKind.i64.wrap (z * y) = z * y := IntWalk.i64_in _ (by omega)
        have w4' : IntKind.i64.wrap (pacc p x n j + z * y) = pacc p x n j + z * y := IntWalk.i64_in _ (by omega)
        have hcx' : w.cell? (ax.add (n - 1 - j)) = some (.int .i64 y) := by rw [← hcx, show ((n : Int) - 1 - (j : Int)).toNat = n - 1 - j by omega]
        clear hs ht hz hy hcx
        go_wp2
        go_round
        case rel => exact ⟨j + 1, by omega, by go_num, by rw [HS.out]⟩
        case measure => simp [intOf]; omega
      · have ht : pterm p x n j = 0 := by unfold pterm; rw [if_neg hjn]
        rw [ht, Int.add_zero] at hs
        have HS := Aside0.mk hs
        have q1 : decide ((0 : Int) ≤ (n : Int) - 1 - (j : Int)) = false := by simp; omega
        have i5 : ¬ (j : Int) ≤ (n : Int) - 1 := by omega
        clear hs ht
        go_wp2
        go_round
        case rel => exact ⟨j + 1, by omega, by go_num, by rw [HS.out]⟩
        case measure => simp [intOf]; omega
    · obtain rfl : j = p.length := by omega
      have hb := pacc_bound BP.out BX.out n p.length
      go_wp2_with (go_at_call 44; refine (round_any _ 4096 _ (by omega) (by omega) (by omega) (by omega)).mono ?_; rintro e w1 ⟨rfl, rfl⟩)
      go_ret
      exact ⟨rfl, rfl⟩
end Go.Proofs.Ytafdiakomcejjaa.P
