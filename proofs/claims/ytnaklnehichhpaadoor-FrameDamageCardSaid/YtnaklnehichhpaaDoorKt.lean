/- Damage: plain facts. -/
import Derived.Test.YtnaklnehichhpaaDoorKq
namespace Go.Proofs.YtnaklnehichhpaaDoor.P
open Go.RowKit Go.Shelf Go.Proofs.YtnaklnehichhpaaDoor.Bits Go.Proofs.YtnaklnehichhpaaDoorW.PrintWords Go.Proofs.YtnaklnehichhpaaDoorW.PrintLast Go.Proofs.YtnaklnehichhpaaDoorW.PrintMore
set_option linter.unusedVariables false
set_option linter.unusedSimpArgs false

def xorB (x : Int) (k : Nat) : Int := ((x.toNat ^^^ k : Nat) : Int)
theorem xorB_8 (x : Int) (k : Nat) (h : 0 ≤ x ∧ x < 256) (hk : k < 256) : 0 ≤ xorB x k ∧ xorB x k < 256 := by
  unfold xorB
  have : x.toNat ^^^ k < 2 ^ 8 := Nat.xor_lt_two_pow (by omega) (by omega)
  omega
theorem is8_set {B : List Int} (h : is8 B) (i : Nat) (x : Int) (hx : 0 ≤ x ∧ x < 256) : is8 (B.set i x) := fun b hb => by
  rcases List.mem_or_eq_of_mem_set hb with q | q
  · exact h b q
  · subst q; exact hx
theorem p27 (p : Nat) : 2 ^ (7 - p % 8) < 256 := by have := Nat.pow_le_pow_right (show 0 < 2 by omega) (show 7 - p % 8 ≤ 7 by omega); omega
/-- The k-th bit of the mask is one that is flipped. -/
def Hit (n a mask k : Nat) : Prop := mask / 2 ^ k % 2 = 1 ∧ a + k < 8 * n ∧ ¬ (34 ≤ a + k ∧ a + k ≤ 44)
instance (n a mask k : Nat) : Decidable (Hit n a mask k) := inferInstanceAs (Decidable (_ ∧ _ ∧ ¬ _))
/-- Bytes with the first k bits of a mask flipped; and whether there were some. -/
def dm (a mask : Nat) (B : List Int) : Nat → List Int × Bool
  | 0 => (B, false)
  | k + 1 => if Hit B.length a mask k then ((dm a mask B k).1.set ((a + k) / 8) (xorB ((dm a mask B k).1.getD ((a + k) / 8) 0) (2 ^ (7 - (a + k) % 8))), true) else dm a mask B k
theorem dm_hit {a mask : Nat} {B : List Int} {k : Nat} (h : Hit B.length a mask k) : dm a mask B (k + 1) = ((dm a mask B k).1.set ((a + k) / 8) (xorB ((dm a mask B k).1.getD ((a + k) / 8) 0) (2 ^ (7 - (a + k) % 8))), true) := by rw [dm, if_pos h]
theorem dm_miss {a mask : Nat} {B : List Int} {k : Nat} (h : ¬ Hit B.length a mask k) : dm a mask B (k + 1) = dm a mask B k := by rw [dm, if_neg h]
theorem dm_length (a mask : Nat) (B : List Int) : ∀ k, (dm a mask B k).1.length = B.length
  | 0 => rfl
  | k + 1 => by
    by_cases h : Hit B.length a mask k
    · rw [dm_hit h]; dsimp only; rw [List.length_set, dm_length a mask B k]
    · rw [dm_miss h]; exact dm_length a mask B k
theorem dm_8 (a mask : Nat) {B : List Int} (h8 : is8 B) : ∀ k, is8 (dm a mask B k).1
  | 0 => h8
  | k + 1 => by
    by_cases h : Hit B.length a mask k
    · rw [dm_hit h]; exact is8_set (dm_8 a mask h8 k) _ _ (xorB_8 _ _ (getD8 (dm_8 a mask h8 k) _) (p27 _))
    · rw [dm_miss h]; exact dm_8 a mask h8 k
theorem flip_bit : ∀ x : Fin 256, ∀ a b : Fin 8, (x.val ^^^ 2 ^ a.val) / 2 ^ b.val % 2 = if a = b then 1 - x.val / 2 ^ b.val % 2 else x.val / 2 ^ b.val % 2 := by decide +kernel
theorem bit_set (Y : List Int) (h8 : is8 Y) (p i : Nat) (hp : p < 8 * Y.length) : bitAt (Y.set (p / 8) (xorB (Y.getD (p / 8) 0) (2 ^ (7 - p % 8)))) i = if i = p then 1 - bitAt Y i else bitAt Y i := by
  unfold bitAt
  rw [getD_set _ _ _ _ (by omega)]
  split
  · rename_i hj
    have hx := getD8 h8 (i / 8)
    rw [hj]
    generalize Y.getD (i / 8) 0 = x at *
    obtain ⟨x, rfl⟩ : ∃ y : Nat, x = y := ⟨x.toNat, by omega⟩
    have := flip_bit ⟨x, by omega⟩ ⟨7 - p % 8, by omega⟩ ⟨7 - i % 8, by omega⟩
    simp only at this
    unfold xorB
    rw [Int.toNat_natCast]
    have g : ∀ z : Nat, (z : Int) / 2 ^ (7 - i % 8) % 2 = ((z / 2 ^ (7 - i % 8) % 2 : Nat) : Int) := fun z => by norm_cast
    rw [g, g, this]
    by_cases hip : i = p
    · subst hip
      rw [if_pos rfl, if_pos rfl]
      have := Nat.mod_lt (x / 2 ^ (7 - i % 8)) (show 0 < 2 by omega)
      omega
    · rw [if_neg hip, if_neg (by intro e; injection e with e; omega)]
  · rename_i hj
    rw [if_neg (by intro e; subst e; exact hj rfl)]
theorem dm_bit (a mask : Nat) {B : List Int} (h8 : is8 B) (i : Nat) : ∀ k, bitAt (dm a mask B k).1 i = if a ≤ i ∧ i < a + k ∧ Hit B.length a mask (i - a) then 1 - bitAt B i else bitAt B i
  | 0 => by rw [if_neg (by omega)]; rfl
  | k + 1 => by
    have ih := dm_bit a mask h8 i k
    by_cases h : Hit B.length a mask k
    · rw [dm_hit h]
      dsimp only
      rw [bit_set _ (dm_8 a mask h8 k) _ _ (by rw [dm_length]; exact h.2.1)]
      by_cases hi : i = a + k
      · subst hi
        rw [if_pos rfl, if_pos ⟨by omega, by omega, by rw [Nat.add_sub_cancel_left]; exact h⟩, ih, if_neg (by omega)]
      · rw [if_neg hi, ih]
        by_cases hc : a ≤ i ∧ i < a + k ∧ Hit B.length a mask (i - a)
        · rw [if_pos hc, if_pos ⟨hc.1, by omega, hc.2.2⟩]
        · rw [if_neg hc, if_neg (fun q => hc ⟨q.1, by omega, q.2.2⟩)]
    · rw [dm_miss h, ih]
      by_cases hc : a ≤ i ∧ i < a + k ∧ Hit B.length a mask (i - a)
      · rw [if_pos hc, if_pos ⟨hc.1, by omega, hc.2.2⟩]
      · rw [if_neg hc, if_neg (fun q => hc ⟨q.1, by
          apply Nat.lt_of_le_of_ne (by omega)
          rintro rfl
          apply h
          have := q.2.2
          rwa [Nat.add_sub_cancel_left] at this, q.2.2⟩)]
theorem dm_none (a mask : Nat) (B : List Int) : ∀ k, (dm a mask B k).2 = false → (dm a mask B k).1 = B
  | 0, _ => rfl
  | k + 1, e => by
    by_cases h : Hit B.length a mask k
    · rw [dm_hit h] at e; cases e
    · rw [dm_miss h] at e ⊢; exact dm_none a mask B k e
theorem dm_some (a mask : Nat) (B : List Int) : ∀ k, (dm a mask B k).2 = true → ∃ j, j < k ∧ Hit B.length a mask j
  | 0, e => by cases e
  | k + 1, e => by
    by_cases h : Hit B.length a mask k
    · exact ⟨k, by omega, h⟩
    · rw [dm_miss h] at e
      obtain ⟨j, hj, hh⟩ := dm_some a mask B k e
      exact ⟨j, by omega, hh⟩
theorem sum_frame (h : HD) (body : List Int) : sumB (wFrame h body) = 0 := by
  have := lawOwn (outB h body)
  unfold sumB wFrame
  rw [List.length_append]
  exact this
theorem size_frame (h : HD) (body : List Int) (hok : OkH h) (h8 : is8 body) (hl : body.length ≤ 2047) : (gv (wFrame h body) 34 11).toNat = body.length := by
  have e := read_back h body [] hok h8 hl
  rw [List.append_nil, fReadB_eq] at e
  have hlen := wFrame_length h body
  split at e
  · simp at e
  split at e
  · rename_i hp; simp at e; exact absurd e.2.2 hp
  split at e
  · simp at e
  split at e
  · simp at e
  · simp only [Prod.mk.injEq] at e
    have := congrArg List.length e.2.1
    rw [List.length_take, List.length_drop] at this
    omega
theorem gv_same {X Y : List Int} (hX : X.length = Y.length) (hXl : 7 ≤ X.length) (h : ∀ i, 34 ≤ i → i ≤ 44 → bitAt Y i = bitAt X i) : gv Y 34 11 = gv X 34 11 := by
  unfold gv
  congr 1
  apply ext_getD
  · simp only [List.length_take, List.length_drop, ofB_length]
  · intro j hj
    simp only [List.length_take, List.length_drop, ofB_length] at hj
    rw [List.getD_eq_getElem?_getD, List.getD_eq_getElem?_getD, List.getElem?_take, List.getElem?_take, if_pos (by omega), if_pos (by omega), List.getElem?_drop, List.getElem?_drop, ← List.getD_eq_getElem?_getD, ← List.getD_eq_getElem?_getD,
      getD_ofB _ _ _ (by omega), getD_ofB _ _ _ (by omega)]
    exact h _ (by omega) (by omega)
/-- The law: a frame that was damaged so is read with an error, and only then. -/
theorem damage (h : HD) (body : List Int) (a mask : Nat) (hok : OkH h) (h8 : is8 body) (hl : body.length ≤ 2047) : decide ((fReadB (dm a mask (wFrame h body) 16).1).2.2 = 0) = !(dm a mask (wFrame h body) 16).2 := by
  have h8X := wFrame_8 h h8
  have hlX := wFrame_length h body
  cases hs : (dm a mask (wFrame h body) 16).2 with
  | false =>
    rw [dm_none _ _ _ _ hs]
    have e := read_back h body [] hok h8 hl
    rw [List.append_nil] at e
    rw [e]
    rfl
  | true =>
    apply decide_eq_false
    intro e
    have hY8 := dm_8 a mask h8X 16
    have hYl := dm_length a mask (wFrame h body) 16
    have hgv : gv (dm a mask (wFrame h body) 16).1 34 11 = gv (wFrame h body) 34 11 := gv_same hYl.symm (by omega) (fun i h1 h2 => by
      rw [dm_bit a mask h8X, if_neg (fun q => q.2.2.2.2 (by omega))])
    rw [fReadB_eq, hgv, size_frame h body hok h8 hl, hYl, hlX] at e
    split at e
    · simp at e
    split at e
    · rename_i hp; exact hp e
    split at e
    · simp at e
    split at e
    · simp at e
    rename_i hsum
    have hsum : sumB ((dm a mask (wFrame h body) 16).1.take (9 + body.length)) = 0 := by simpa using hsum
    rw [List.take_of_length_le (by omega)] at hsum
    have hc : crc16 (ofB (dm a mask (wFrame h body) 16).1 (8 * (wFrame h body).length)) = crc16 (ofB (wFrame h body) (8 * (wFrame h body).length)) := by
      have h0 := sum_frame h body
      unfold sumB at hsum h0
      rw [hYl] at hsum
      rw [hsum, h0]
    have heq := burst16 a (ofB_01 _ _) (ofB_01 _ _) (by rw [ofB_length, ofB_length]) (fun i hi hw => by
      rw [ofB_length] at hi
      rw [getD_ofB _ _ _ hi, getD_ofB _ _ _ hi, dm_bit a mask h8X, if_neg (by omega)]) hc
    obtain ⟨j, hj, hh⟩ := dm_some a mask _ _ hs
    have h1 : bitAt (dm a mask (wFrame h body) 16).1 (a + j) = bitAt (wFrame h body) (a + j) := by
      rw [← getD_ofB _ (8 * (wFrame h body).length) _ hh.2.1, ← getD_ofB _ (8 * (wFrame h body).length) _ hh.2.1, heq]
    rw [dm_bit a mask h8X, if_pos ⟨by omega, by omega, by rw [Nat.add_sub_cancel_left]; exact hh⟩] at h1
    omega
end Go.Proofs.YtnaklnehichhpaaDoor.P
