/- Rice codes in plain numbers: words, costs, parameters, parts and orders (plain law); the printed functions have these values. -/
import Derived.Test.YtjcijaojcgampaaGreatDoorZPl5
import Derived.Test.YtjcijaojcgampaaGreatDoorZPl6
set_option linter.unusedVariables false
set_option linter.unusedSimpArgs false
set_option maxHeartbeats 16000000
set_option maxRecDepth 100000
namespace Go.Proofs.YtjcijaojcgampaaGreatDoor.P
open Go.RowKit Go.Proofs.YtjcijaojcgampaaGreatDoor.Bits Go.Proofs.YtjcijaojcgampaaGreatDoorW.PrintWords Go.Proofs.YtjcijaojcgampaaGreatDoorW.PrintLast Go.Proofs.YtjcijaojcgampaaGreatDoorW.PrintMore
def foldI (v : Int) : Int := if v < 0 then -2 * v - 1 else 2 * v
def unfoldI (u : Int) : Int := if u % 2 = 1 then -((u + 1) / 2) else u / 2
def small (v : Int) : Bool := decide (-2147483648 ≤ v) && decide (v ≤ 2147483647)
def smallL (l : List Int) : Prop := ∀ v ∈ l, -2147483648 ≤ v ∧ v ≤ 2147483647
def lenW (v : Int) (k : Nat) : Int := if foldI v / 2 ^ k < 24 then foldI v / 2 ^ k + 1 + k else 57
def sumW (l : List Int) (k : Nat) : Int := (l.map fun v => lenW v k).sum
def chk (l : List Int) : Int := if 8192 < l.length then 2 else if l.all small then 0 else 6
def iter {S : Type} (st : S → Nat → S) : Nat → Nat → S → S
  | 0, _, s => s
  | n + 1, k, s => iter st n (k + 1) (st s k)
def bstep (f : Nat → Int) (s : Int × Int) (k : Nat) : Int × Int := if f k < s.2 then ((k : Int), f k) else s
def bestW (l : List Int) : Int × Int := iter (bstep (sumW l)) 14 1 (0, sumW l 0)
def partN (l : List Int) (p : Nat) : Nat := l.length / 2 ^ p
def partL (l : List Int) (p i : Nat) : List Int := (l.take (i * partN l p + partN l p)).drop (i * partN l p)
def partsL (l : List Int) (p : Nat) : List (List Int) := (List.range' 0 (2 ^ p)).map (partL l p)
def costP (x : List Int) : Int := 4 + (bestW x).2
def wholeW (l : List Int) (p : Nat) : Int := 2 + ((partsL l p).map costP).sum
def divB (n p : Nat) : Bool := decide (n % 2 ^ p = 0) && (decide (0 < n) || decide (p = 0))
def ostep (l : List Int) (s : Int × Int) (p : Nat) : Int × Int := if divB l.length p then bstep (wholeW l) s p else s
def orderW (l : List Int) : Int × Int := iter (ostep l) 3 1 (0, wholeW l 0)
theorem small_iff (v : Int) : small v = true ↔ -2147483648 ≤ v ∧ v ≤ 2147483647 := by simp [small]
theorem all_small (l : List Int) : l.all small = true ↔ smallL l := by
  rw [List.all_eq_true]
  exact ⟨fun h v hv => (small_iff v).1 (h v hv), fun h v hv => (small_iff v).2 (h v hv)⟩
theorem foldI_bound {v : Int} (h : -2147483648 ≤ v ∧ v ≤ 2147483647) : 0 ≤ foldI v ∧ foldI v ≤ 4294967295 := by unfold foldI; split <;> omega
theorem q_bound {v : Int} (h : -2147483648 ≤ v ∧ v ≤ 2147483647) (k : Nat) : 0 ≤ foldI v / 2 ^ k ∧ foldI v / 2 ^ k ≤ 4294967295 := by
  have hb := foldI_bound h
  exact ⟨Int.ediv_nonneg hb.1 (Int.le_of_lt (Int.pow_pos (by omega))), Int.le_trans (Int.ediv_le_self _ hb.1) hb.2⟩
theorem lenW_bound {v : Int} (h : -2147483648 ≤ v ∧ v ≤ 2147483647) {k : Nat} (hk : k ≤ 14) : 1 ≤ lenW v k ∧ lenW v k ≤ 57 := by
  have hq := q_bound h k
  unfold lenW
  split <;> omega
theorem sumW_cons (v : Int) (l : List Int) (k : Nat) : sumW (v :: l) k = lenW v k + sumW l k := by simp [sumW]
theorem sumW_drop (l : List Int) (k i : Nat) (h : i < l.length) : sumW (l.drop i) k = lenW l[i] k + sumW (l.drop (i + 1)) k := by
  rw [List.drop_eq_getElem_cons h, sumW_cons]
theorem sumW_bound {l : List Int} (h : smallL l) {k : Nat} (hk : k ≤ 14) : 0 ≤ sumW l k ∧ sumW l k ≤ 57 * l.length := by
  induction l with
  | nil => simp [sumW]
  | cons v l ih =>
    have h1 := lenW_bound (h v (by simp)) hk
    have h2 := ih (fun x hx => h x (by simp [hx]))
    rw [sumW_cons, List.length_cons]
    omega
theorem shr_nat (x : Int) (k : Nat) (hk : k ≤ 63) : shr .i64 x (k : Int) = x / 2 ^ k := by
  unfold shr
  rw [Int.toNat_natCast, Nat.min_eq_left (show k ≤ IntKind.i64.bits by show k ≤ 64; omega)]
theorem iter_inv {S : Type} {st : S → Nat → S} (I : S → Prop) : ∀ (n k : Nat) (s : S), (∀ s j, k ≤ j → j < k + n → I s → I (st s j)) → I s → I (iter st n k s)
  | 0, _, _, _, h => h
  | n + 1, k, s, hst, h => iter_inv I n (k + 1) (st s k) (fun s j h1 h2 => hst s j (by omega) (by omega)) (hst s k (by omega) (by omega) h)
theorem bestW_bound {l : List Int} (h : smallL l) : (∃ k : Nat, (bestW l).1 = k ∧ k ≤ 14) ∧ 0 ≤ (bestW l).2 ∧ (bestW l).2 ≤ 57 * l.length := by
  unfold bestW
  refine iter_inv (fun s : Int × Int => (∃ k : Nat, s.1 = k ∧ k ≤ 14) ∧ 0 ≤ s.2 ∧ s.2 ≤ 57 * l.length) 14 1 _ (fun s j h1 h2 hs => ?_) ⟨⟨0, rfl, by omega⟩, sumW_bound h (by omega)⟩
  unfold bstep
  split
  · exact ⟨⟨j, rfl, by omega⟩, sumW_bound h (by omega)⟩
  · exact hs
theorem smallL_take {l : List Int} (h : smallL l) (n : Nat) : smallL (l.take n) := fun v hv => h v (List.mem_of_mem_take hv)
theorem smallL_drop {l : List Int} (h : smallL l) (n : Nat) : smallL (l.drop n) := fun v hv => h v (List.mem_of_mem_drop hv)
theorem partL_small {l : List Int} (h : smallL l) (p i : Nat) : smallL (partL l p i) := smallL_drop (smallL_take h _) _
theorem part_le (l : List Int) (p i : Nat) (hi : i < 2 ^ p) : i * partN l p + partN l p ≤ l.length := by
  have h1 : (i + 1) * partN l p ≤ 2 ^ p * partN l p := Nat.mul_le_mul_right _ hi
  have h2 : 2 ^ p * partN l p ≤ l.length := Nat.mul_div_le _ _
  rw [Nat.succ_mul] at h1
  omega
theorem partL_length (l : List Int) (p i : Nat) (hi : i < 2 ^ p) : (partL l p i).length = partN l p := by
  have := part_le l p i hi
  unfold partL
  rw [List.length_drop, List.length_take]
  omega
theorem partsL_length (l : List Int) (p : Nat) : (partsL l p).length = 2 ^ p := by unfold partsL; rw [List.length_map, List.length_range']
theorem partsL_getElem (l : List Int) (p i : Nat) (h : i < (partsL l p).length) : (partsL l p)[i] = partL l p i := by
  have hi : i < 2 ^ p := by rw [partsL_length] at h; exact h
  have : ((List.range' 0 (2 ^ p)).map (partL l p))[i]? = some (partL l p i) := by
    rw [List.getElem?_map, List.getElem?_range' hi]; simp
  exact Option.some.inj ((List.getElem?_eq_getElem h).symm.trans this)
theorem partN_le (l : List Int) (p : Nat) : partN l p ≤ l.length := Nat.div_le_self _ _
theorem sum_bound {α : Type} (f : α → Int) (m : Int) : ∀ (l : List α), (∀ x ∈ l, 0 ≤ f x ∧ f x ≤ m) → 0 ≤ (l.map f).sum ∧ (l.map f).sum ≤ m * l.length
  | [], _ => by simp
  | x :: l, h => by
    have h1 := h x (by simp)
    have h2 := sum_bound f m l (fun y hy => h y (by simp [hy]))
    rw [List.map_cons, List.sum_cons, List.length_cons, Int.natCast_add, Int.mul_add]
    omega
theorem parts_mem {l x : List Int} {p : Nat} (h : x ∈ partsL l p) : ∃ i, i < 2 ^ p ∧ x = partL l p i := by
  obtain ⟨i, hi, rfl⟩ := List.getElem_of_mem h
  exact ⟨i, by rw [partsL_length] at hi; exact hi, partsL_getElem l p i hi⟩
theorem pow_le8 {p : Nat} (h : p ≤ 3) : 1 ≤ 2 ^ p ∧ 2 ^ p ≤ 8 := by
  rcases (by omega : p = 0 ∨ p = 1 ∨ p = 2 ∨ p = 3) with rfl | rfl | rfl | rfl <;> decide
theorem costP_bound {l x : List Int} {p : Nat} (hs : smallL l) (hl : l.length ≤ 100000) (h : x ∈ partsL l p) : 0 ≤ costP x ∧ costP x ≤ 5700004 := by
  obtain ⟨i, hi, rfl⟩ := parts_mem h
  have hb := (bestW_bound (partL_small hs p i)).2
  have h1 := partL_length l p i hi
  have h2 := partN_le l p
  unfold costP
  omega
theorem wholeW_bound {l : List Int} (hs : smallL l) (hl : l.length ≤ 100000) {p : Nat} (hp : p ≤ 3) : 0 ≤ wholeW l p ∧ wholeW l p ≤ 45600034 := by
  have hb := sum_bound costP 5700004 (partsL l p) (fun x hx => costP_bound hs hl hx)
  have h8 := pow_le8 hp
  rw [partsL_length] at hb
  unfold wholeW
  omega
theorem orderW_bound {l : List Int} (hs : smallL l) (hl : l.length ≤ 100000) : (∃ p : Nat, (orderW l).1 = p ∧ p ≤ 3 ∧ divB l.length p = true ∧ (orderW l).2 = wholeW l p) ∧ 0 ≤ (orderW l).2 ∧ (orderW l).2 ≤ 45600034 := by
  unfold orderW
  refine iter_inv (fun s : Int × Int => (∃ p : Nat, s.1 = p ∧ p ≤ 3 ∧ divB l.length p = true ∧ s.2 = wholeW l p) ∧ 0 ≤ s.2 ∧ s.2 ≤ 45600034) 3 1 _ (fun s j h1 h2 h => ?_) ⟨⟨0, rfl, by omega, by simp [divB, Nat.mod_one], rfl⟩, wholeW_bound hs hl (by omega)⟩
  unfold ostep
  split
  · rename_i hd
    unfold bstep
    split
    · exact ⟨⟨j, rfl, by omega, hd, rfl⟩, wholeW_bound hs hl (by omega)⟩
    · exact h
  · exact h
theorem ref_small (v : Int) : shawmref05_small.f v = some (small v) := by
  unfold shawmref05_small.f small
  by_cases h : -2147483648 ≤ v
  · rw [if_pos h, decide_eq_true h, Bool.true_and]; congr 1; rw [decide_eq_decide]; omega
  · rw [if_neg h, decide_eq_false h, Bool.false_and]
theorem own_small (v : Int) : rice_inRange.f v = some (small v) := by
  unfold rice_inRange.f small
  by_cases h : -2147483648 ≤ v
  · rw [if_pos h, decide_eq_true h, Bool.true_and]
  · rw [if_neg h, decide_eq_false h, Bool.false_and]
theorem ref_folded {v : Int} (h : -2147483648 ≤ v ∧ v ≤ 2147483647) : shawmref05_folded.f v = some (foldI v) := by
  unfold shawmref05_folded.f foldI
  by_cases h0 : v < 0
  · rw [if_neg (by omega), if_pos h0, wrap64_id (x := -2 * v) (by omega) (by omega), wrap64_id (by omega) (by omega)]
  · rw [if_pos (by omega), if_neg h0, wrap64_id (by omega) (by omega)]
theorem own_fold {v : Int} (h : -2147483648 ≤ v ∧ v ≤ 2147483647) : rice_fold.f v = some (foldI v) := by
  unfold rice_fold.f foldI
  by_cases h0 : v < 0
  · rw [if_pos h0, if_pos h0, wrap64_id (x := -2 * v) (by omega) (by omega), wrap64_id (by omega) (by omega)]
  · rw [if_neg h0, if_neg h0, wrap64_id (by omega) (by omega)]
theorem ref_size (v : Int) (k : Nat) (hv : -2147483648 ≤ v ∧ v ≤ 2147483647) (hk : k ≤ 14) : shawmref05_size.f v (k : Int) = some (lenW v k) := by
  have hq := q_bound hv k
  unfold shawmref05_size.f lenW
  rw [ref_folded hv]
  simp only [Option.bind_some]
  rw [if_pos (by omega), shr_nat _ _ (by omega)]
  generalize foldI v / 2 ^ k = q at *
  by_cases h : q < 24
  · rw [if_pos h, if_pos h, wrap64_id (x := q + 1) (by omega) (by omega), wrap64_id (by omega) (by omega)]
  · rw [if_neg h, if_neg h]
theorem own_length (v : Int) (k : Nat) (hv : -2147483648 ≤ v ∧ v ≤ 2147483647) (hk : k ≤ 14) : rice_length.f v (k : Int) = some (lenW v k) := by
  have hq := q_bound hv k
  unfold rice_length.f lenW
  rw [own_fold hv]
  simp only [Option.bind_some]
  rw [if_pos (by omega), shr_nat _ _ (by omega)]
  generalize foldI v / 2 ^ k = q at *
  by_cases h : q < 24
  · rw [if_pos h, if_pos h, wrap64_id (x := q + 1) (by omega) (by omega), wrap64_id (by omega) (by omega)]
  · rw [if_neg h, if_neg h]
theorem shawmref05_cost_l0 (l : List Int) (k : Nat) (hk : k ≤ 14) (hs : smallL l) (hl : l.length ≤ 100000) : ∀ (f i : Nat) (acc : Int), i ≤ l.length → l.length - i < f → 0 ≤ acc → acc ≤ 57 * i → shawmref05_cost.l0 f (k : Int) acc l (l.length : Int) (i : Int) = some (acc + sumW (l.drop i) k)
  | 0, i, acc, _, h, _, _ => by omega
  | f + 1, i, acc, hi, hf, h0, h1 => by
    unfold shawmref05_cost.l0
    by_cases hlt : i < l.length
    · have hx := hs l[i] (List.getElem_mem hlt)
      have hb := lenW_bound hx hk
      have hr : rd l (i : Int) = l[i] := by unfold rd; rw [Int.toNat_natCast, List.getD_eq_getElem?_getD, List.getElem?_eq_getElem hlt]; rfl
      rw [if_pos (by omega), if_pos (by omega), if_pos (by omega), hr, ref_size _ _ hx hk]
      simp only [Option.bind_some]
      rw [wrap64_id (by omega) (by omega), wrap64_id (by omega) (by omega), show (i : Int) + 1 = ((i + 1 : Nat) : Int) by omega]
      rw [shawmref05_cost_l0 l k hk hs hl f (i + 1) _ (by omega) (by omega) (by omega) (by omega), sumW_drop l k i hlt]
      congr 1
      omega
    · obtain rfl : i = l.length := by omega
      rw [if_neg (by omega), List.drop_length]
      congr 1
      simp [sumW]
theorem shawmref05_cost_f (l : List Int) (k f : Nat) (hk : k ≤ 14) (hs : smallL l) (hl : l.length ≤ 100000) (hf : l.length < f) : shawmref05_cost.f f l (k : Int) = some (sumW l k) := by
  unfold shawmref05_cost.f
  have := shawmref05_cost_l0 l k hk hs hl f 0 0 (by omega) (by omega) (by omega) (by omega)
  rw [List.drop_zero, Int.zero_add] at this
  exact this
theorem rice_sum_l0 (l : List Int) (k : Nat) (hk : k ≤ 14) (hs : smallL l) (hl : l.length ≤ 100000) : ∀ (f i : Nat) (acc : Int), i ≤ l.length → l.length - i < f → 0 ≤ acc → acc ≤ 57 * i → rice_sum.l0 f (k : Int) acc l (l.length : Int) (i : Int) = some (acc + sumW (l.drop i) k)
  | 0, i, acc, _, h, _, _ => by omega
  | f + 1, i, acc, hi, hf, h0, h1 => by
    unfold rice_sum.l0
    by_cases hlt : i < l.length
    · have hx := hs l[i] (List.getElem_mem hlt)
      have hb := lenW_bound hx hk
      have hr : rd l (i : Int) = l[i] := by unfold rd; rw [Int.toNat_natCast, List.getD_eq_getElem?_getD, List.getElem?_eq_getElem hlt]; rfl
      rw [if_pos (by omega), if_pos (by omega), if_pos (by omega), hr, own_length _ _ hx hk]
      simp only [Option.bind_some]
      rw [wrap64_id (by omega) (by omega), wrap64_id (by omega) (by omega), show (i : Int) + 1 = ((i + 1 : Nat) : Int) by omega]
      rw [rice_sum_l0 l k hk hs hl f (i + 1) _ (by omega) (by omega) (by omega) (by omega), sumW_drop l k i hlt]
      congr 1
      omega
    · obtain rfl : i = l.length := by omega
      rw [if_neg (by omega), List.drop_length]
      congr 1
      simp [sumW]
theorem rice_sum_f (l : List Int) (k f : Nat) (hk : k ≤ 14) (hs : smallL l) (hl : l.length ≤ 100000) (hf : l.length < f) : rice_sum.f f l (k : Int) = some (sumW l k) := by
  unfold rice_sum.f
  have := rice_sum_l0 l k hk hs hl f 0 0 (by omega) (by omega) (by omega) (by omega)
  rw [List.drop_zero, Int.zero_add] at this
  exact this
theorem ref_best_l0 (l : List Int) (hs : smallL l) (hl : l.length ≤ 100000) : ∀ (n k f : Nat) (s : Int × Int), k + n = 15 → n + l.length + 1 < f → shawmref05_best.l0 f l s.1 s.2 (k : Int) = some (iter (bstep (sumW l)) n k s)
  | n, k, 0, s, _, h => by omega
  | 0, k, f + 1, s, hk, hf => by
    unfold shawmref05_best.l0
    rw [if_neg (by omega)]
    rfl
  | n + 1, k, f + 1, s, hk, hf => by
    unfold shawmref05_best.l0
    rw [if_pos (by omega), shawmref05_cost_f l k f (by omega) hs hl (by omega)]
    simp only [Option.bind_some]
    rw [wrap64_id (by omega) (by omega), show (k : Int) + 1 = ((k + 1 : Nat) : Int) by omega]
    have ih := ref_best_l0 l hs hl n (k + 1) f (bstep (sumW l) s k) (by omega) (by omega)
    unfold iter
    unfold bstep at ih ⊢
    by_cases h : sumW l k < s.2
    · rw [if_pos h]; rw [if_pos h] at ih ⊢; exact ih
    · rw [if_neg h]; rw [if_neg h] at ih ⊢; exact ih
theorem ref_best (l : List Int) (f : Nat) (hs : smallL l) (hl : l.length ≤ 100000) (hf : l.length + 15 < f) : shawmref05_best.f f l = some (bestW l) := by
  have h0 := shawmref05_cost_f l 0 f (by omega) hs hl (by omega)
  unfold shawmref05_best.f bestW
  rw [show (0 : Int) = ((0 : Nat) : Int) from rfl, h0]
  simp only [Option.bind_some]
  exact ref_best_l0 l hs hl 14 1 f (0, sumW l 0) (by omega) (by omega)
theorem ref_parts_l0 (l : List Int) (p : Nat) (hl : l.length ≤ 100000) (hp : p ≤ 3) : ∀ (n i f : Nat) (acc : List (List Int)), i + n = 2 ^ p → n < f → acc.length ≤ i → shawmref05_parts.l0 f l (partN l p : Int) acc ((2 ^ p : Nat) : Int) (i : Int) = some (acc ++ (List.range' i n).map (partL l p))
  | n, i, 0, acc, _, h, _ => by omega
  | 0, i, f + 1, acc, hi, hf, ha => by
    unfold shawmref05_parts.l0
    rw [if_neg (by omega)]
    simp
  | n + 1, i, f + 1, acc, hi, hf, ha => by
    have h8 := pow_le8 hp
    have hle := part_le l p i (by omega)
    have hm : (i : Int) * (partN l p : Int) = ((i * partN l p : Nat) : Int) := (Int.natCast_mul _ _).symm
    have hpl : partL l p i = (l.take (i * partN l p + partN l p)).drop (i * partN l p) := rfl
    unfold shawmref05_parts.l0
    rw [hm]
    clear hm
    generalize i * partN l p = a at *
    generalize hN : partN l p = b at *
    rw [if_pos (by omega), wrap64_id (x := (a : Int)) (by omega) (by omega), wrap64_id (x := (a : Int) + (b : Int)) (by omega) (by omega)]
    rw [if_pos (by omega)]
    rw [if_pos (by omega)]
    rw [if_pos (by omega)]
    rw [if_pos (by omega), wrap64_id (by omega) (by omega)]
    rw [show (i : Int) + 1 = ((i + 1 : Nat) : Int) by omega, show ((a : Int) + (b : Int)).toNat = a + b by omega, Int.toNat_natCast, ← hpl]
    have ih := ref_parts_l0 l p hl hp n (i + 1) f (acc ++ [partL l p i]) (by omega) (by omega) (by simp; omega)
    rw [hN] at ih
    rw [ih, List.range'_succ, List.map_cons, List.append_assoc]
    rfl
theorem shl_nat {p : Nat} (hp : p ≤ 3) : shl .i64 1 (p : Int) = ((2 ^ p : Nat) : Int) := by
  rcases (by omega : p = 0 ∨ p = 1 ∨ p = 2 ∨ p = 3) with rfl | rfl | rfl | rfl <;> decide
theorem ref_parts (l : List Int) (p f : Nat) (hl : l.length ≤ 100000) (hp : p ≤ 3) (hf : 8 < f) : shawmref05_parts.f f l (p : Int) = some (partsL l p) := by
  have h8 := pow_le8 hp
  have hn : shr .i64 (l.length : Int) (p : Int) = (partN l p : Int) := by rw [shr_nat _ _ (by omega)]; unfold partN; push_cast; rfl
  unfold shawmref05_parts.f
  rw [if_pos (by omega), hn, shl_nat hp]
  have := ref_parts_l0 l p hl hp (2 ^ p) 0 f [] (by omega) (by omega) (by simp)
  rw [List.nil_append] at this
  exact this
theorem ref_whole_l0 (P : List (List Int)) (hP : ∀ x ∈ P, smallL x ∧ x.length ≤ 100000) (hl : P.length ≤ 8) : ∀ (f i : Nat) (acc : Int), i ≤ P.length → P.length - i + 100020 < f → 0 ≤ acc → acc ≤ 2 + 5700004 * i → shawmref05_whole.l0 f acc P (P.length : Int) (i : Int) = some (acc + ((P.drop i).map costP).sum)
  | 0, i, acc, _, h, _, _ => by omega
  | f + 1, i, acc, hi, hf, h0, h1 => by
    unfold shawmref05_whole.l0
    by_cases hlt : i < P.length
    · have hx := hP P[i] (List.getElem_mem hlt)
      have hb := (bestW_bound hx.1).2
      have hr : rd_L1 P (i : Int) = P[i] := by unfold rd_L1; rw [Int.toNat_natCast, List.getD_eq_getElem?_getD, List.getElem?_eq_getElem hlt]; rfl
      have hc : costP P[i] = 4 + (bestW P[i]).2 := rfl
      rw [if_pos (by omega), if_pos (by omega), if_pos (by omega), hr, ref_best _ _ hx.1 hx.2 (by omega)]
      simp only [Option.bind_some]
      rw [wrap64_id (x := 4 + (bestW P[i]).2) (by omega) (by omega), ← hc, wrap64_id (x := acc + costP P[i]) (by omega) (by omega), wrap64_id (by omega) (by omega), show (i : Int) + 1 = ((i + 1 : Nat) : Int) by omega]
      rw [ref_whole_l0 P hP hl f (i + 1) _ (by omega) (by omega) (by omega) (by omega), List.drop_eq_getElem_cons hlt, List.map_cons, List.sum_cons]
      congr 1
      omega
    · obtain rfl : i = P.length := by omega
      rw [if_neg (by omega), List.drop_length]
      simp
theorem ref_whole (l : List Int) (p f : Nat) (hs : smallL l) (hl : l.length ≤ 100000) (hp : p ≤ 3) (hf : 100040 < f) : shawmref05_whole.f f l (p : Int) = some (wholeW l p) := by
  have h8 := pow_le8 hp
  unfold shawmref05_whole.f
  rw [ref_parts l p f hl hp (by omega)]
  simp only [Option.bind_some]
  have := ref_whole_l0 (partsL l p) (fun x hx => by
    obtain ⟨i, hi, rfl⟩ := parts_mem hx
    exact ⟨partL_small hs p i, by have := partL_length l p i hi; have := partN_le l p; omega⟩) (by rw [partsL_length]; omega) f 0 2 (by omega) (by rw [partsL_length]; omega) (by omega) (by omega)
  rw [List.drop_zero] at this
  exact this
theorem ref_divided (n p : Nat) (hp : p ≤ 3) : shawmref05_divided.f (n : Int) (p : Int) = some (divB n p) := by
  have h8 := pow_le8 hp
  have ht : Int.tmod (n : Int) ((2 ^ p : Nat) : Int) = ((n % 2 ^ p : Nat) : Int) := by
    rw [Int.tmod_eq_emod_of_nonneg (by omega)]; exact (Int.natCast_emod _ _).symm
  unfold shawmref05_divided.f divB
  rw [if_pos (by omega), shl_nat hp, if_neg (by omega), ht]
  by_cases h1 : n % 2 ^ p = 0
  · rw [if_pos (by omega), decide_eq_true h1, Bool.true_and]
    by_cases h2 : 0 < n
    · rw [if_pos (by omega), decide_eq_true h2, Bool.true_or]
    · rw [if_neg (by omega), decide_eq_false h2, Bool.false_or]
      congr 1
      rw [Bool.eq_iff_iff]
      simp
  · rw [if_neg (by omega), decide_eq_false h1, Bool.false_and]
theorem ref_order_l0 (l : List Int) (hs : smallL l) (hl : l.length ≤ 100000) : ∀ (n p f : Nat) (s : Int × Int), p + n = 4 → n + 100040 < f → shawmref05_order.l0 f l s.1 s.2 (p : Int) = some (iter (ostep l) n p s)
  | n, p, 0, s, _, h => by omega
  | 0, p, f + 1, s, hk, hf => by
    unfold shawmref05_order.l0
    rw [if_neg (by omega)]
    rfl
  | n + 1, p, f + 1, s, hk, hf => by
    unfold shawmref05_order.l0
    rw [if_pos (by omega), ref_divided _ _ (by omega)]
    simp only [Option.bind_some]
    rw [wrap64_id (by omega) (by omega), show (p : Int) + 1 = ((p + 1 : Nat) : Int) by omega]
    have ih := ref_order_l0 l hs hl n (p + 1) f (ostep l s p) (by omega) (by omega)
    unfold iter
    by_cases hd : divB l.length p = true
    · rw [if_pos hd, ref_whole l p f hs hl (by omega) (by omega)]
      simp only [Option.bind_some]
      have e : ostep l s p = bstep (wholeW l) s p := by unfold ostep; rw [if_pos hd]
      rw [e] at ih ⊢
      unfold bstep at ih ⊢
      by_cases h : wholeW l p < s.2
      · rw [if_pos h]; rw [if_pos h] at ih ⊢; exact ih
      · rw [if_neg h]; rw [if_neg h] at ih ⊢; exact ih
    · have e : ostep l s p = s := by unfold ostep; rw [if_neg hd]
      rw [if_neg hd]
      rw [e] at ih ⊢
      exact ih
theorem ref_order (l : List Int) (f : Nat) (hs : smallL l) (hl : l.length ≤ 100000) (hf : 100050 < f) : shawmref05_order.f f l = some (orderW l) := by
  have h0 := ref_whole l 0 f hs hl (by omega) (by omega)
  unfold shawmref05_order.f orderW
  rw [show (0 : Int) = ((0 : Nat) : Int) from rfl, h0]
  simp only [Option.bind_some]
  exact ref_order_l0 l hs hl 3 1 f (0, wholeW l 0) (by omega) (by omega)
theorem ref_listed_l0 (l : List Int) (hl : l.length ≤ 9000000000000000000) : ∀ (f i : Nat), i ≤ l.length → l.length - i < f → shawmref05_listed.l0 f l (l.length : Int) (i : Int) = some (if (l.drop i).all small then 0 else 6)
  | 0, i, _, h => by omega
  | f + 1, i, hi, hf => by
    unfold shawmref05_listed.l0
    by_cases hlt : i < l.length
    · have hr : rd l (i : Int) = l[i] := by unfold rd; rw [Int.toNat_natCast, List.getD_eq_getElem?_getD, List.getElem?_eq_getElem hlt]; rfl
      rw [if_pos (by omega), if_pos (by omega), if_pos (by omega), hr, ref_small]
      simp only [Option.bind_some]
      rw [List.drop_eq_getElem_cons hlt, List.all_cons]
      by_cases hs : small l[i] = true
      · rw [if_pos hs, hs, Bool.true_and, wrap64_id (by omega) (by omega), show (i : Int) + 1 = ((i + 1 : Nat) : Int) by omega]
        exact ref_listed_l0 l hl f (i + 1) (by omega) (by omega)
      · rw [if_neg hs]
        simp [hs]
    · obtain rfl : i = l.length := by omega
      rw [if_neg (by omega), List.drop_length]
      simp
theorem ref_listed (l : List Int) (f : Nat) (hl : l.length ≤ 9000000000000000000) (hf : l.length < f) : shawmref05_listed.f f l = some (chk l) := by
  unfold shawmref05_listed.f chk
  by_cases h : 8192 < l.length
  · rw [if_pos (by omega), if_pos h]
  · rw [if_neg (by omega), if_neg h]
    have := ref_listed_l0 l hl f 0 (by omega) (by omega)
    rw [List.drop_zero] at this
    exact this
theorem chk_zero {l : List Int} : chk l = 0 ↔ l.length ≤ 8192 ∧ smallL l := by
  unfold chk
  rw [← all_small]
  split
  · constructor
    · intro h; omega
    · intro h; omega
  · split
    · rename_i h1 h2; exact ⟨fun _ => ⟨by omega, h2⟩, fun _ => rfl⟩
    · rename_i h1 h2
      constructor
      · intro h; omega
      · intro h; exact absurd h.2 h2
end Go.Proofs.YtjcijaojcgampaaGreatDoor.P
