/- Contract of linear.round; the plain words of linear.weights. -/
import Derived.StillTailTactics
import Derived.Outline
import Derived.Test.YtjcijaojcgampaaGreatDoorZPl22
set_option linter.unusedVariables false
set_option linter.unusedSimpArgs false
set_option maxHeartbeats 16000000
set_option maxRecDepth 100000
namespace Go.Proofs.YtjcijaojcgampaaGreatDoor.P.Lin
open Go.RowKit Go.Proofs.YtjcijaojcgampaaGreatDoorW.PrintWords Go.Proofs.YtjcijaojcgampaaGreatDoorW.PrintLast Go.Proofs.YtjcijaojcgampaaGreatDoorW.PrintMore
theorem ret_int {k : IntKind} {a b : Int} (h : a = b) : Ending.returned (.int k a) = Ending.returned (.int k b) := by rw [h]
def rnd (a b : Int) : Int := (2 * a + b) / (2 * b)
theorem rnd_t (a b : Int) (h0 : 0 < b) : rnd a b = if (2 * a + b).tmod (2 * b) < 0 then (2 * a + b).tdiv (2 * b) - 1 else (2 * a + b).tdiv (2 * b) := by
  unfold rnd
  have e1 := Int.mul_tdiv_add_tmod (2 * a + b) (2 * b)
  have e2 := Int.mul_ediv_add_emod (2 * a + b) (2 * b)
  have e3 := Int.emod_nonneg (2 * a + b) (show 2 * b ≠ 0 by omega)
  have e4 := Int.emod_lt_of_pos (2 * a + b) (show 0 < 2 * b by omega)
  have e5 : -(2 * b) < (2 * a + b).tmod (2 * b) ∧ (2 * a + b).tmod (2 * b) < 2 * b := by
    have := Int.natAbs_tmod (2 * a + b) (2 * b)
    have h4 : (2 * a + b).natAbs % (2 * b).natAbs < (2 * b).natAbs := Nat.mod_lt _ (by omega)
    omega
  generalize (2 * a + b).tdiv (2 * b) = q at *
  generalize (2 * a + b) / (2 * b) = q' at *
  generalize (2 * a + b).tmod (2 * b) = r at *
  generalize (2 * a + b) % (2 * b) = r' at *
  have h5 : 2 * b * (q - q') = r' - r := by rw [Int.mul_sub]; omega
  split
  · have h6 : 2 * b * (q - q') < 2 * b * 2 := by omega
    have h7 : 2 * b * 0 < 2 * b * (q - q') := by omega
    have h8 := Int.lt_of_mul_lt_mul_left h6 (by omega)
    have h9 := Int.lt_of_mul_lt_mul_left h7 (by omega)
    omega
  · have h6 : 2 * b * (q - q') < 2 * b * 1 := by omega
    have h7 : 2 * b * (-1) < 2 * b * (q - q') := by omega
    have h8 := Int.lt_of_mul_lt_mul_left h6 (by omega)
    have h9 := Int.lt_of_mul_lt_mul_left h7 (by omega)
    omega
theorem rnd_bound (a b M : Int) (h0 : 0 < b) (h1 : -(M * b) ≤ a) (h2 : a ≤ M * b) : -M ≤ rnd a b ∧ rnd a b ≤ M := by
  unfold rnd
  have e2 := Int.mul_ediv_add_emod (2 * a + b) (2 * b)
  have e3 := Int.emod_nonneg (2 * a + b) (show 2 * b ≠ 0 by omega)
  have e4 := Int.emod_lt_of_pos (2 * a + b) (show 0 < 2 * b by omega)
  generalize (2 * a + b) / (2 * b) = q' at *
  generalize (2 * a + b) % (2 * b) = r' at *
  have m1 : 2 * b * q' < 2 * b * (M + 1) := by
    have : 2 * b * (M + 1) = 2 * (M * b) + 2 * b := by rw [Int.mul_add, Int.mul_assoc, Int.mul_comm b M]; omega
    omega
  have m2 : 2 * b * (-M - 1) < 2 * b * q' := by
    have : 2 * b * (-M - 1) = -(2 * (M * b)) - 2 * b := by rw [Int.mul_sub, Int.mul_neg, Int.mul_assoc, Int.mul_comm b M]; omega
    omega
  have h8 := Int.lt_of_mul_lt_mul_left m1 (by omega)
  have h9 := Int.lt_of_mul_lt_mul_left m2 (by omega)
  omega
theorem wrap64_id {x : Int} (h0 : -9223372036854775808 ≤ x) (h1 : x ≤ 9223372036854775807) : wrap64 x = x := by unfold wrap64; omega
theorem round_any (a b : Int) (w : World) (h0 : 0 < b) (h1 : b ≤ 1152921504606846976) (h2 : -1152921504606846976 ≤ a) (h3 : a ≤ 1152921504606846976) :
    Calls Tryz.prog 173 #[.int .i64 a, .int .i64 b] w fun e w' => e = .returned (.int .i64 (rnd a b)) ∧ w = w' := by
  have hz : (2 * b == 0) = false := by simp; omega
  have HR := Aside0.mk (rnd_t a b h0)
  have HB := Aside0.mk (rnd_bound a b 1152921504606846976 h0 (by have := Int.mul_le_mul_of_nonneg_left (show 1 ≤ b by omega) (show (0 : Int) ≤ 1152921504606846976 by omega); omega) (by have := Int.mul_le_mul_of_nonneg_left (show 1 ≤ b by omega) (show (0 : Int) ≤ 1152921504606846976 by omega); omega))
  by_cases hn : (2 * a + b).tmod (2 * b) < 0
  · have hd : decide ((2 * a + b).tmod (2 * b) < 0) = true := by simpa using hn
    go_enter Tryz.func173, Tryz.ntmps173
    go_wp2
    go_ret
    have h4 := HR.out
    rw [if_pos hn] at h4
    have h5 := HB.out
    exact ⟨ret_int (show wrap64 ((2 * a + b).tdiv (2 * b) - 1) = rnd a b by rw [← h4]; exact wrap64_id (by omega) (by omega)), rfl⟩
  · have hd : decide ((2 * a + b).tmod (2 * b) < 0) = false := by simpa using hn
    go_enter Tryz.func173, Tryz.ntmps173
    go_wp2
    go_ret
    have h4 := HR.out
    rw [if_neg (by omega)] at h4
    exact ⟨ret_int h4.symm, rfl⟩
def smallL (a : List Int) : Bool := a.all fun x => decide (-1099511627776 ≤ x) && decide (x ≤ 1099511627776)
theorem smallL_rd {a : List Int} (h : smallL a = true) (i : Int) : -1099511627776 ≤ rd a i ∧ rd a i ≤ 1099511627776 := by
  unfold rd
  rw [List.getD_eq_getElem?_getD]
  by_cases hi : i.toNat < a.length
  · rw [List.getElem?_eq_getElem hi]
    have := List.all_eq_true.1 h _ (List.getElem_mem hi)
    simpa using this
  · rw [List.getElem?_eq_none (by omega)]
    simp
def newW (a : List Int) (k : Int) (n : Nat) : List Int := (List.range n).map (fun (j : Nat) => rd a (j : Int) + rnd (k * rd a ((a.length : Int) - 1 - (j : Int))) 128) ++ a.drop n
theorem newW_zero (a : List Int) (k : Int) : newW a k 0 = a := by simp [newW]
theorem newW_length (a : List Int) (k : Int) (n : Nat) (h : n ≤ a.length) : (newW a k n).length = a.length := by simp [newW]; omega
theorem newW_set (a : List Int) (k : Int) (n : Nat) (h : n < a.length) : (newW a k n).set n (rd a (n : Int) + rnd (k * rd a ((a.length : Int) - 1 - (n : Int))) 128) = newW a k (n + 1) := by
  unfold newW
  rw [List.set_append, List.range_succ]
  simp only [List.length_map, List.length_range, Nat.lt_irrefl, if_false, Nat.sub_self, List.map_append, List.map_cons, List.map_nil, List.append_assoc, List.singleton_append]
  rw [drop_head a n h]
  simp
theorem newW_rd (a : List Int) (k : Int) (n : Nat) (h : n < a.length) : rd (newW a k n) n = rd a n := by
  unfold newW
  rw [drop_head a n h]
  simp [rd, List.getD_eq_getElem?_getD, List.getElem?_append_right]
def stepW (a : List Int) (k : Int) : List Int := newW a k a.length ++ [32 * k]
def stepW? (a : List Int) (k : Int) : Option (List Int) := if smallL a = true ∧ a.length ≤ 1000 ∧ -1000 ≤ k ∧ k ≤ 1000 then some (stepW a k) else none
end Go.Proofs.YtjcijaojcgampaaGreatDoor.P.Lin
