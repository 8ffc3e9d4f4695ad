/- Bits that end before a frame does, and bits behind a frame (plain law): what is read is the same, or there are too few bits. A frame that was written is read again (plain law). shawmlaw20.few, shawmref20.Same of a list and itself; the walk of shawmlaw20.LosslessShort. The walk of shawmlaw20.LosslessShort. -/
import Derived.Test.YtjcijaojcgampaaGreatDoorZSh28
import Derived.Test.YtjcijaojcgampaaGreatDoorZSh30
import Derived.Test.YtjcijaojcgampaaGreatDoorZSh20
section
namespace Go.Proofs.YtjcijaojcgampaaGreatDoor.P
open Go.RowKit Go.Shelf Go.Proofs.YtjcijaojcgampaaGreatDoor.Bits Go.Proofs.YtjcijaojcgampaaGreatDoorW.PrintWords Go.Proofs.YtjcijaojcgampaaGreatDoorW.PrintLast Go.Proofs.YtjcijaojcgampaaGreatDoorW.PrintMore
set_option linter.unusedVariables false
set_option linter.unusedSimpArgs false
theorem take_ext {L M : List Int} {a n : Nat} (h : a + n ≤ L.length) : ((L ++ M).drop a).take n = (L.drop a).take n := by
  rw [List.drop_append_of_le_length (by omega), List.take_append_of_le_length (by rw [List.length_drop]; omega)]
theorem ext_get {L : List Int} {a : Nat} (M : List Int) (n : Int) (ha : a ≤ L.length) : (rGet L a n).2.1 = 3 ∨ rGet (L ++ M) a n = rGet L a n := by
  unfold rGet
  by_cases h1 : n < 0 ∨ 32 < n
  · right; rw [if_pos h1, if_pos h1]
  by_cases h2 : (L.length : Int) - a < n
  · left; rw [if_neg h1, if_pos h2]
  right
  rw [if_neg h1, if_neg h1, if_neg h2, if_neg (by rw [List.length_append]; omega), take_ext (by omega)]
theorem pos_get {L : List Int} {a : Nat} (n : Int) (ha : a ≤ L.length) : (rGet L a n).2.2 ≤ L.length := by
  unfold rGet
  split
  · exact ha
  · split
    · exact ha
    · dsimp only; omega
theorem ext_sgn {L : List Int} {a : Nat} (M : List Int) (n : Int) (ha : a ≤ L.length) : (rSigned L a n).2.1 = 3 ∨ rSigned (L ++ M) a n = rSigned L a n := by
  unfold rSigned
  by_cases h1 : n < 1 ∨ 32 < n
  · right; rw [if_pos h1, if_pos h1]
  by_cases h2 : (L.length : Int) - a < n
  · left; rw [if_neg h1, if_pos h2]
  right
  rw [if_neg h1, if_neg h1, if_neg h2, if_neg (by rw [List.length_append]; omega), take_ext (by omega)]
theorem pos_sgn {L : List Int} {a : Nat} (n : Int) (ha : a ≤ L.length) : (rSigned L a n).2.2 ≤ L.length := by
  unfold rSigned
  split
  · exact ha
  · split
    · exact ha
    · dsimp only; omega
theorem zs_append (M : List Int) : ∀ A : List Int, zs A ≤ zs (A ++ M) ∧ (zs A < A.length → zs (A ++ M) = zs A)
  | [] => ⟨Nat.zero_le _, fun h => absurd h (by simp)⟩
  | b :: A => by
    have ih := zs_append M A
    rw [List.cons_append]
    unfold zs
    by_cases hb : b = 0
    · rw [if_pos hb, if_pos hb]
      exact ⟨by omega, fun h => by rw [ih.2 (by rw [List.length_cons] at h; omega)]⟩
    · rw [if_neg hb, if_neg hb]
      exact ⟨Nat.le_refl _, fun _ => rfl⟩
theorem ext_zeros {L : List Int} {a : Nat} (M : List Int) (m : Nat) (ha : a ≤ L.length) : (rZeros L a m).2.1 = 3 ∨ rZeros (L ++ M) a m = rZeros L a m := by
  have hd : (L ++ M).drop a = L.drop a ++ M := List.drop_append_of_le_length ha
  obtain ⟨z1, z2⟩ := zs_append M (L.drop a)
  have hz := zs_le (L.drop a)
  rw [List.length_drop] at z2 hz
  unfold rZeros
  rw [hd]
  by_cases h1 : m < zs (L.drop a)
  · right; rw [if_pos h1, if_pos (by omega)]
  by_cases h2 : a + zs (L.drop a) < L.length
  · right; rw [z2 (by omega), if_neg h1, if_neg h1, if_pos h2, if_pos (by rw [List.length_append]; omega)]
  · left; rw [if_neg h1, if_neg h2]
theorem pos_zeros {L : List Int} {a : Nat} (m : Nat) (ha : a ≤ L.length) : (rZeros L a m).2.2 ≤ L.length := by
  unfold rZeros
  split
  · exact ha
  · split
    · dsimp only; omega
    · exact ha
theorem ext_unary {L : List Int} {a : Nat} (M : List Int) (n : Int) (ha : a ≤ L.length) : (rUnary L a n).2.1 = 3 ∨ rUnary (L ++ M) a n = rUnary L a n := by
  unfold rUnary
  by_cases h1 : n < 0 ∨ 1000 < n
  · right; rw [if_pos h1, if_pos h1]
  · rw [if_neg h1, if_neg h1]; exact ext_zeros M _ ha
theorem pos_unary {L : List Int} {a : Nat} (n : Int) (ha : a ≤ L.length) : (rUnary L a n).2.2 ≤ L.length := by
  unfold rUnary
  split
  · exact ha
  · exact pos_zeros _ ha
theorem ext_rice {L : List Int} {a : Nat} (M : List Int) (k : Nat) (ha : a ≤ L.length) : (rRice L a k).2.1 = 3 ∨ rRice (L ++ M) a k = rRice L a k := by
  unfold rRice
  have hp := pos_unary (n := 24) ha
  rcases ext_unary M 24 ha with h | h
  · left; rw [if_pos (by rw [h]; decide)]; exact h
  rw [h]
  generalize rUnary L a 24 = u at *
  by_cases h1 : u.2.1 ≠ 0
  · right; rw [if_pos h1, if_pos h1]
  rw [if_neg h1, if_neg h1]
  by_cases h2 : u.1 < 24
  · rw [if_pos h2, if_pos h2]
    rcases ext_get M (k : Int) hp with h | h
    · left; rw [if_pos (by rw [h]; decide)]; exact h
    · right; rw [h]
  · rw [if_neg h2, if_neg h2]
    rcases ext_get M 32 hp with h | h
    · left; rw [if_pos (by rw [h]; decide)]; exact h
    · right; rw [h]
theorem pos_rice {L : List Int} {a : Nat} (k : Nat) (ha : a ≤ L.length) : (rRice L a k).2.2 ≤ L.length := by
  have hp := pos_unary (n := 24) ha
  unfold rRice
  repeat' split
  all_goals first | exact ha | exact pos_get _ hp
theorem ext_words {L : List Int} (M : List Int) (k : Nat) : ∀ (n a : Nat) (acc : List Int), a ≤ L.length → (rWords L k n a acc).1 = 3 ∨ rWords (L ++ M) k n a acc = rWords L k n a acc
  | 0, a, acc, ha => .inr (by rw [rWords, rWords])
  | n + 1, a, acc, ha => by
    have hp := pos_rice k ha
    rw [rWords, rWords]
    rcases ext_rice M k ha with h | h
    · left; rw [if_pos (by rw [h]; decide)]; exact h
    rw [h]
    by_cases h1 : (rRice L a k).2.1 ≠ 0
    · right; rw [if_pos h1, if_pos h1]
    rw [if_neg h1, if_neg h1]
    exact ext_words M k n _ _ hp
theorem pos_words {L : List Int} (k : Nat) : ∀ (n a : Nat) (acc : List Int), a ≤ L.length → (rWords L k n a acc).2.2 ≤ L.length
  | 0, a, acc, ha => by rw [rWords]; exact ha
  | n + 1, a, acc, ha => by
    rw [rWords]
    split
    · exact ha
    · exact pos_words k n _ _ (pos_rice k ha)
theorem ext_parts {L : List Int} (M : List Int) (N : Nat) : ∀ (m a : Nat) (acc : List Int), a ≤ L.length → (rParts L N m a acc).1 = 3 ∨ rParts (L ++ M) N m a acc = rParts L N m a acc
  | 0, a, acc, ha => .inr (by rw [rParts, rParts])
  | m + 1, a, acc, ha => by
    have hp := pos_get 4 ha
    rw [rParts, rParts]
    rcases ext_get M 4 ha with h | h
    · left; rw [if_pos (by rw [h]; decide)]; exact h
    rw [h]
    generalize rGet L a 4 = g at *
    by_cases h1 : g.2.1 ≠ 0
    · right; rw [if_pos h1, if_pos h1]
    rw [if_neg h1, if_neg h1]
    by_cases h2 : 14 < g.1
    · right; rw [if_pos h2, if_pos h2]
    rw [if_neg h2, if_neg h2]
    have hq := pos_words g.1.toNat N g.2.2 acc hp
    rcases ext_words M g.1.toNat N g.2.2 acc hp with h | h
    · left; rw [if_pos (by rw [h]; decide)]; exact h
    rw [h]
    generalize rWords L g.1.toNat N g.2.2 acc = v at *
    by_cases h3 : v.1 ≠ 0
    · right; rw [if_pos h3, if_pos h3]
    rw [if_neg h3, if_neg h3]
    exact ext_parts M N m _ _ hq
theorem pos_parts {L : List Int} (N : Nat) : ∀ (m a : Nat) (acc : List Int), a ≤ L.length → (rParts L N m a acc).2.2 ≤ L.length
  | 0, a, acc, ha => by rw [rParts]; exact ha
  | m + 1, a, acc, ha => by
    rw [rParts]
    have hq := pos_words (L := L) (rGet L a 4).1.toNat N (rGet L a 4).2.2 acc (pos_get 4 ha)
    split
    · exact ha
    · split
      · exact ha
      · split
        · exact hq
        · exact pos_parts N m _ _ hq
theorem ext_list {L : List Int} {a : Nat} (M : List Int) (n : Nat) (ha : a ≤ L.length) : (rList L a n).1 = 3 ∨ rList (L ++ M) a n = rList L a n := by
  have hp := pos_get 2 ha
  unfold rList
  rcases ext_get M 2 ha with h | h
  · left; rw [if_pos (by rw [h]; decide)]; exact h
  rw [h]
  generalize rGet L a 2 = g at *
  by_cases h1 : g.2.1 ≠ 0
  · right; rw [if_pos h1, if_pos h1]
  rw [if_neg h1, if_neg h1]
  by_cases h2 : divB n g.1.toNat = true
  · rw [if_pos h2, if_pos h2]
    exact ext_parts M _ _ _ _ hp
  · right; rw [if_neg h2, if_neg h2]
theorem pos_list {L : List Int} {a : Nat} (n : Nat) (ha : a ≤ L.length) : (rList L a n).2.2 ≤ L.length := by
  unfold rList
  split
  · exact ha
  · split
    · exact pos_parts _ _ _ _ (pos_get 2 ha)
    · exact ha
theorem ext_read {L : List Int} {a : Nat} (M : List Int) (n : Int) (ha : a ≤ L.length) : (fRead L a n).2.1 = 3 ∨ fRead (L ++ M) a n = fRead L a n := by
  unfold fRead
  by_cases h1 : n < 0 ∨ 8192 < n
  · right; rw [if_pos h1, if_pos h1]
  rw [if_neg h1, if_neg h1]
  rcases ext_list M n.toNat ha with h | h
  · left; rw [if_pos (by rw [h]; decide)]; exact h
  right; rw [h]
theorem pos_read {L : List Int} {a : Nat} (n : Int) (ha : a ≤ L.length) : (fRead L a n).2.2 ≤ L.length := by
  unfold fRead
  split
  · exact ha
  · split
    · exact ha
    · exact pos_list _ ha
theorem ext_sgns {L : List Int} (M : List Int) (wd : Int) : ∀ (m a : Nat) (acc : List Int), a ≤ L.length → (sgnsR L wd m a acc).2.1 = 3 ∨ sgnsR (L ++ M) wd m a acc = sgnsR L wd m a acc
  | 0, a, acc, ha => .inr (by rw [sgnsR, sgnsR])
  | m + 1, a, acc, ha => by
    have hp := pos_sgn wd ha
    rw [sgnsR, sgnsR]
    rcases ext_sgn M wd ha with h | h
    · left; rw [if_pos (by rw [h]; decide)]; exact h
    rw [h]
    by_cases h1 : (rSigned L a wd).2.1 ≠ 0
    · right; rw [if_pos h1, if_pos h1]
    rw [if_neg h1, if_neg h1]
    exact ext_sgns M wd m _ _ hp
theorem pos_sgns {L : List Int} (wd : Int) : ∀ (m a : Nat) (acc : List Int), a ≤ L.length → (sgnsR L wd m a acc).2.2 ≤ L.length
  | 0, a, acc, ha => by rw [sgnsR]; exact ha
  | m + 1, a, acc, ha => by
    rw [sgnsR]
    split
    · exact pos_sgn wd ha
    · exact pos_sgns wd m _ _ (pos_sgn wd ha)
theorem ext_coef {L : List Int} (M : List Int) : ∀ (m a : Nat) (acc : List Int), a ≤ L.length → (coefR L m a acc).2.1 = 3 ∨ coefR (L ++ M) m a acc = coefR L m a acc
  | 0, a, acc, ha => .inr (by rw [coefR, coefR])
  | m + 1, a, acc, ha => by
    have hp := pos_sgn 8 ha
    rw [coefR, coefR]
    rcases ext_sgn M 8 ha with h | h
    · left; rw [if_pos (by rw [h]; decide)]; exact h
    rw [h]
    by_cases h1 : (rSigned L a 8).2.1 ≠ 0
    · right; rw [if_pos h1, if_pos h1]
    rw [if_neg h1, if_neg h1]
    by_cases h2 : (rSigned L a 8).1 = -128
    · right; rw [if_pos h2, if_pos h2]
    rw [if_neg h2, if_neg h2]
    exact ext_coef M m _ _ hp
theorem pos_coef {L : List Int} : ∀ (m a : Nat) (acc : List Int), a ≤ L.length → (coefR L m a acc).2.2 ≤ L.length
  | 0, a, acc, ha => by rw [coefR]; exact ha
  | m + 1, a, acc, ha => by
    rw [coefR]
    split
    · exact pos_sgn 8 ha
    · split
      · exact pos_sgn 8 ha
      · exact pos_coef m _ _ (pos_sgn 8 ha)
theorem ext_ali {L : List Int} {a : Nat} (M : List Int) (n : Nat) (ha : a ≤ L.length) : (aliR L a n).2.1 = 3 ∨ aliR (L ++ M) a n = aliR L a n := by
  unfold aliR
  rcases ext_sgn M 17 ha with h | h
  · left; rw [if_pos (by rw [h]; decide)]; exact h
  right; rw [h]
theorem pos_ali {L : List Int} {a : Nat} (n : Nat) (ha : a ≤ L.length) : (aliR L a n).2.2 ≤ L.length := by
  unfold aliR
  split <;> exact pos_sgn 17 ha
theorem ext_add {L : List Int} {a : Nat} (M : List Int) (n : Nat) (ha : a ≤ L.length) : (addR L a n).2.1 = 3 ∨ addR (L ++ M) a n = addR L a n := by
  have hp := pos_get 3 ha
  unfold addR
  rcases ext_get M 3 ha with h | h
  · left; rw [if_pos (by rw [h]; decide)]; exact h
  rw [h]
  generalize rGet L a 3 = g at *
  by_cases h1 : g.2.1 ≠ 0
  · right; rw [if_pos h1, if_pos h1]
  rw [if_neg h1, if_neg h1]
  by_cases h2 : 4 < g.1
  · right; rw [if_pos h2, if_pos h2]
  rw [if_neg h2, if_neg h2]
  rcases ext_read M (n : Int) hp with h | h
  · left; rw [if_pos (by rw [h]; decide)]; exact h
  right; rw [h]
theorem pos_add {L : List Int} {a : Nat} (n : Nat) (ha : a ≤ L.length) : (addR L a n).2.2 ≤ L.length := by
  have hp := pos_get 3 ha
  have hq := pos_read (n : Int) hp
  unfold addR
  repeat' split
  all_goals first | exact hp | exact hq
theorem ext_rest {L : List Int} {a : Nat} (M : List Int) (n : Nat) (ha : a ≤ L.length) : (restR L a n).2.1 = 3 ∨ restR (L ++ M) a n = restR L a n := by
  have hp := pos_get 4 ha
  unfold restR
  rcases ext_get M 4 ha with h | h
  · left; rw [if_pos (by rw [h]; decide)]; exact h
  rw [h]
  generalize rGet L a 4 = g at *
  by_cases h1 : g.2.1 ≠ 0
  · right; rw [if_pos h1, if_pos h1]
  rw [if_neg h1, if_neg h1]
  by_cases h2 : g.1 = 0 ∨ 12 < g.1
  · right; rw [if_pos h2, if_pos h2]
  rw [if_neg h2, if_neg h2]
  have hq := pos_coef g.1.toNat g.2.2 [] hp
  rcases ext_coef M g.1.toNat g.2.2 [] hp with h | h
  · left; rw [if_pos (by rw [h]; decide)]; exact h
  rw [h]
  generalize coefR L g.1.toNat g.2.2 [] = c at *
  by_cases h3 : c.2.1 ≠ 0
  · right; rw [if_pos h3, if_pos h3]
  rw [if_neg h3, if_neg h3]
  rcases ext_read M (n : Int) hq with h | h
  · left; rw [if_pos (by rw [h]; decide)]; exact h
  right; rw [h]
theorem pos_rest {L : List Int} {a : Nat} (n : Nat) (ha : a ≤ L.length) : (restR L a n).2.2 ≤ L.length := by
  have hp := pos_get 4 ha
  have hq := pos_coef (rGet L a 4).1.toNat (rGet L a 4).2.2 [] hp
  have hr := pos_read (n : Int) hq
  unfold restR
  repeat' split
  all_goals first | exact hp | exact hq | exact hr
theorem ext_told {L : List Int} {a : Nat} (M : List Int) (k : Int) (n : Nat) (ha : a ≤ L.length) : (toldR L a k n).2.1 = 3 ∨ toldR (L ++ M) a k n = toldR L a k n := by
  unfold toldR
  split
  · exact ext_ali M n ha
  · split
    · exact ext_sgns M 17 n a [] ha
    · split
      · exact ext_add M n ha
      · exact ext_rest M n ha
theorem pos_told {L : List Int} {a : Nat} (k : Int) (n : Nat) (ha : a ≤ L.length) : (toldR L a k n).2.2 ≤ L.length := by
  unfold toldR
  split
  · exact pos_ali n ha
  · split
    · exact pos_sgns 17 n a [] ha
    · split
      · exact pos_add n ha
      · exact pos_rest n ha
theorem ext_sig {L : List Int} {a : Nat} (M : List Int) (n : Nat) (ha : a ≤ L.length) : (sigR L a n).2.1 = 3 ∨ sigR (L ++ M) a n = sigR L a n := by
  have hp := pos_get 2 ha
  unfold sigR
  rcases ext_get M 2 ha with h | h
  · left; rw [if_pos (by rw [h]; decide)]; exact h
  rw [h]
  generalize rGet L a 2 = g at *
  by_cases h1 : g.2.1 ≠ 0
  · right; rw [if_pos h1, if_pos h1]
  rw [if_neg h1, if_neg h1]
  rcases ext_told M g.1 n hp with h | h
  · left; rw [if_pos (by rw [h]; decide)]; exact h
  right; rw [h]
theorem pos_sig {L : List Int} {a : Nat} (n : Nat) (ha : a ≤ L.length) : (sigR L a n).2.2 ≤ L.length := by
  have hp := pos_get 2 ha
  have hq := pos_told (rGet L a 2).1 n hp
  unfold sigR
  repeat' split
  all_goals first | exact hp | exact hq
theorem ext_sigs {L : List Int} (M : List Int) (n : Nat) : ∀ (m a : Nat) (acc : List (List Int)), a ≤ L.length → (sigsR L n m a acc).2.1 = 3 ∨ sigsR (L ++ M) n m a acc = sigsR L n m a acc
  | 0, a, acc, ha => .inr (by rw [sigsR, sigsR])
  | m + 1, a, acc, ha => by
    have hp := pos_sig n ha
    rw [sigsR, sigsR]
    rcases ext_sig M n ha with h | h
    · left; rw [if_pos (by rw [h]; decide)]; exact h
    rw [h]
    by_cases h1 : (sigR L a n).2.1 ≠ 0
    · right; rw [if_pos h1, if_pos h1]
    rw [if_neg h1, if_neg h1]
    exact ext_sigs M n m _ _ hp
theorem pos_sigs {L : List Int} (n : Nat) : ∀ (m a : Nat) (acc : List (List Int)), a ≤ L.length → (sigsR L n m a acc).2.2 ≤ L.length
  | 0, a, acc, ha => by rw [sigsR]; exact ha
  | m + 1, a, acc, ha => by
    rw [sigsR]
    split
    · exact pos_sig n ha
    · exact pos_sigs n m _ _ (pos_sig n ha)
theorem ext_mid {L : List Int} {a : Nat} (M : List Int) (ch : Nat) (ha : a ≤ L.length) : (midR L a ch).2.1 = 3 ∨ midR (L ++ M) a ch = midR L a ch := by
  unfold midR
  split
  · exact ext_get M 1 ha
  · exact .inr rfl
theorem pos_mid {L : List Int} {a : Nat} (ch : Nat) (ha : a ≤ L.length) : (midR L a ch).2.2 ≤ L.length := by
  unfold midR
  split
  · exact pos_get 1 ha
  · exact ha
theorem ext_frame {L : List Int} {a : Nat} (M : List Int) (ch n : Nat) (ha : a ≤ L.length) : (readR L a ch n).2.1 = 3 ∨ readR (L ++ M) a ch n = readR L a ch n := by
  have hp := pos_mid ch ha
  unfold readR
  rcases ext_mid M ch ha with h | h
  · left; rw [if_pos (by rw [h]; decide)]; exact h
  rw [h]
  generalize midR L a ch = g at *
  by_cases h1 : g.2.1 ≠ 0
  · right; rw [if_pos h1, if_pos h1]
  rw [if_neg h1, if_neg h1]
  rcases ext_sigs M n ch g.2.2 [] hp with h | h
  · left; rw [if_pos (by rw [h]; decide)]; exact h
  right; rw [h]
theorem pos_frame {L : List Int} {a : Nat} (ch n : Nat) (ha : a ≤ L.length) : (readR L a ch n).2.2 ≤ L.length := by
  have hp := pos_mid ch ha
  have hq := pos_sigs n ch (midR L a ch).2.2 [] hp
  unfold readR
  repeat' split
  all_goals first | exact hp | exact hq
/-- Bits of a frame that end before it does. -/
theorem frame_short {L : List Int} {ls : List (List Int)} {ch n k : Nat} (h : readR L 0 ch n = (ls, 0, L.length)) (hk : k < L.length) : (readR (L.take k) 0 ch n).2.1 = 3 := by
  rcases ext_frame (L := L.take k) (L.drop k) ch n (Nat.zero_le _) with h1 | h1
  · exact h1
  · rw [List.take_append_drop, h] at h1
    have := pos_frame (L := L.take k) (a := 0) ch n (Nat.zero_le _)
    rw [← h1, List.length_take] at this
    dsimp only at this
    omega
end Go.Proofs.YtjcijaojcgampaaGreatDoor.P
end
section
namespace Go.Proofs.YtjcijaojcgampaaGreatDoor.P
open Go.RowKit Go.Shelf Go.Proofs.YtjcijaojcgampaaGreatDoor.Bits Go.Proofs.YtjcijaojcgampaaGreatDoorW.PrintWords Go.Proofs.YtjcijaojcgampaaGreatDoorW.PrintLast Go.Proofs.YtjcijaojcgampaaGreatDoorW.PrintMore
set_option linter.unusedVariables false
set_option linter.unusedSimpArgs false
theorem len_app (L M : List Int) : (L ++ M).length = L.length + M.length := List.length_append
theorem fRead_at {l : List Int} (hs : smallL l) (hl : l.length ≤ 8192) {p : Nat} (hp : p ≤ 3) (hd : divB l.length p = true) (L R : List Int) : fRead (L ++ listBits l p ++ R) L.length (l.length : Int) = (l, 0, (L ++ listBits l p).length) := by
  have e1 : L ++ listBits l p ++ R = L ++ numb (p : Int) 2 ++ (partsBits l p (List.range' 0 (2 ^ p)) ++ R) := by unfold listBits; simp only [List.append_assoc]
  have e2 : L ++ listBits l p ++ R = (L ++ numb (p : Int) 2) ++ partsBits l p (List.range' 0 (2 ^ p)) ++ R := by rw [e1]; simp only [List.append_assoc]
  have hg : rGet (L ++ listBits l p ++ R) L.length 2 = ((p : Int), 0, L.length + 2) := by rw [e1]; exact rGet_at L _ (p : Int) 2 (by omega) ⟨by omega, by simp only [Int.reducePow]; omega⟩
  have hpp := rParts_at hs p (2 ^ p) 0 (L ++ numb (p : Int) 2) R [] (by omega)
  rw [← e2, List.nil_append, parts_all hd, len_app L (numb (p : Int) 2), numb_length] at hpp
  unfold fRead rList
  rw [if_neg (by omega), Int.toNat_natCast, hg]
  dsimp only
  rw [if_neg (c := (0 : Int) ≠ 0) (by simp), Int.toNat_natCast, if_pos hd]
  have hN : l.length / 2 ^ p = partN l p := rfl
  rw [hN, hpp, if_neg (by simp)]
  have e3 : L ++ numb (p : Int) 2 ++ partsBits l p (List.range' 0 (2 ^ p)) = L ++ listBits l p := by unfold listBits; simp only [List.append_assoc]
  rw [e3]
theorem fWrite_ok {L l : List Int} (h : (fWrite L l).1 = 0) : ∃ p, p ≤ 3 ∧ divB l.length p = true ∧ smallL l ∧ l.length ≤ 8192 ∧ (fWrite L l).2 = L ++ listBits l p := by
  unfold fWrite at h ⊢
  by_cases hc : chk l = 0
  · have hc' := chk_zero.1 hc
    rw [if_neg (by simp [hc])] at h ⊢
    split at h
    · cases h
    · rename_i h2
      rw [if_neg h2]
      obtain ⟨⟨p, hp, hp3, hd, _⟩, _⟩ := orderW_bound hc'.2 (by omega)
      exact ⟨p, hp3, hd, hc'.2, hc'.1, by rw [hp, Int.toNat_natCast]⟩
  · rw [if_pos hc] at h; exact absurd h hc
theorem pow_half (n : Nat) (hn : 1 ≤ n) : (2 : Int) ^ n = 2 * 2 ^ (n - 1) := by
  obtain ⟨m, rfl⟩ : ∃ m, n = m + 1 := ⟨n - 1, by omega⟩
  rw [Nat.add_sub_cancel, Int.pow_succ, Int.mul_comm]
theorem sgn_mod {v : Int} {n : Nat} (hn : 1 ≤ n) (h : -2 ^ (n - 1) ≤ v ∧ v < 2 ^ (n - 1)) : sgn (v % 2 ^ n) n = v := by
  have hp := pow_half n hn
  have hq : (0 : Int) < 2 ^ (n - 1) := Int.pow_pos (by omega)
  unfold sgn
  rw [hp]
  generalize (2 : Int) ^ (n - 1) = q at *
  by_cases h0 : 0 ≤ v
  · rw [Int.emod_eq_of_lt h0 (by omega), if_neg (by omega)]
  · have e : v % (2 * q) = v + 2 * q := by
      rw [← Int.add_emod_right, Int.emod_eq_of_lt (by omega) (by omega)]
    rw [e, if_pos (by omega)]; omega
theorem rSigned_at (L R : List Int) (v : Int) (n : Nat) (hn : 1 ≤ n ∧ n ≤ 32) (hv : -2 ^ (n - 1) ≤ v ∧ v < 2 ^ (n - 1)) : rSigned (L ++ numb (v % 2 ^ n) n ++ R) L.length (n : Int) = (v, 0, L.length + n) := by
  have hl := numb_length (v % 2 ^ n) n
  have hvv := val_numb (v % 2 ^ n) n
  rw [Int.emod_emod] at hvv
  have ht : ((L ++ numb (v % 2 ^ n) n ++ R).drop L.length).take n = numb (v % 2 ^ n) n := by rw [back_drop, List.take_append_of_le_length (by omega), List.take_of_length_le (by omega)]
  unfold rSigned
  rw [if_neg (by omega), if_neg (by simp only [List.length_append, hl]; omega), Int.toNat_natCast, ht, hvv, sgn_mod hn.1 hv]
theorem sgnBits_cons (n : Nat) (v : Int) (x : List Int) : sgnBits n (v :: x) = numb (v % 2 ^ n) n ++ sgnBits n x := by unfold sgnBits; rw [List.flatMap_cons]
theorem sgnsR_at (n : Nat) (hn : 1 ≤ n ∧ n ≤ 32) : ∀ (x L R acc : List Int), (∀ v ∈ x, -2 ^ (n - 1) ≤ v ∧ v < 2 ^ (n - 1)) → sgnsR (L ++ sgnBits n x ++ R) (n : Int) x.length L.length acc = (acc ++ x, 0, (L ++ sgnBits n x).length)
  | [], L, R, acc, _ => by
    rw [List.length_nil, sgnsR]
    simp [sgnBits]
  | v :: x, L, R, acc, hs => by
    have e : L ++ sgnBits n (v :: x) ++ R = L ++ numb (v % 2 ^ n) n ++ (sgnBits n x ++ R) := by rw [sgnBits_cons]; simp only [List.append_assoc]
    have e2 : L ++ sgnBits n (v :: x) ++ R = (L ++ numb (v % 2 ^ n) n) ++ sgnBits n x ++ R := by rw [e]; simp only [List.append_assoc]
    have hl : (L ++ numb (v % 2 ^ n) n).length = L.length + n := by rw [List.length_append, numb_length]
    have h1 : rSigned (L ++ sgnBits n (v :: x) ++ R) L.length (n : Int) = (v, 0, L.length + n) := by rw [e]; exact rSigned_at L _ v n hn (hs v (by simp))
    have h2 := sgnsR_at n hn x (L ++ numb (v % 2 ^ n) n) R (acc ++ [v]) (fun y hy => hs y (by simp [hy]))
    rw [← e2, hl] at h2
    rw [List.length_cons, sgnsR, h1, if_neg (by simp), h2, sgnBits_cons]
    simp only [List.append_assoc, List.cons_append, List.nil_append]
theorem coefR_at : ∀ (x L R acc : List Int), (∀ v ∈ x, -127 ≤ v ∧ v ≤ 127) → coefR (L ++ sgnBits 8 x ++ R) x.length L.length acc = (acc ++ x, 0, (L ++ sgnBits 8 x).length)
  | [], L, R, acc, _ => by
    rw [List.length_nil, coefR]
    simp [sgnBits]
  | v :: x, L, R, acc, hs => by
    have hv := hs v (by simp)
    have e : L ++ sgnBits 8 (v :: x) ++ R = L ++ numb (v % 2 ^ 8) 8 ++ (sgnBits 8 x ++ R) := by rw [sgnBits_cons]; simp only [List.append_assoc]
    have e2 : L ++ sgnBits 8 (v :: x) ++ R = (L ++ numb (v % 2 ^ 8) 8) ++ sgnBits 8 x ++ R := by rw [e]; simp only [List.append_assoc]
    have hl : (L ++ numb (v % 2 ^ 8) 8).length = L.length + 8 := by rw [List.length_append, numb_length]
    have h1 : rSigned (L ++ sgnBits 8 (v :: x) ++ R) L.length 8 = (v, 0, L.length + 8) := by rw [e]; exact rSigned_at L _ v 8 (by omega) (by simp only [Nat.reduceSub, Int.reducePow]; omega)
    have h2 := coefR_at x (L ++ numb (v % 2 ^ 8) 8) R (acc ++ [v]) (fun y hy => hs y (by simp [hy]))
    rw [← e2, hl] at h2
    rw [List.length_cons, coefR, h1, if_neg (by simp), if_neg (by dsimp only; omega), h2, sgnBits_cons]
    simp only [List.append_assoc, List.cons_append, List.nil_append]
theorem sig_within {x : List Int} (h : sigL x) : Lin.within 2097152 x := fun v hv => by have := h v hv; omega
theorem fAdd_diffs {x : List Int} {k : Nat} (hs : sigL x) (hl : x.length ≤ 128) (hk : k ≤ 4) : fAdd (Lin.diffs x k) (k : Int) = (x, 0) := by
  have hw := sig_within hs
  have hc : Lin.chk x 2097152 = 0 := Lin.chk_ok (by omega) hw
  unfold fAdd Lin.linear_Add.f
  rw [Int.toNat_natCast, Lin.diffs_length, if_pos (by omega), if_neg (by omega), if_pos (Lin.chk_ok (by rw [Lin.diffs_length]; omega) (Lin.within_mono (Lin.within_diffs hw k hk) (by omega))), Lin.sums_diffs hw]
  dsimp only
  rw [if_pos hc]; rfl
theorem fRest_resid {x f : List Int} (hs : sigL x) (hl : x.length ≤ 128) (hf : Lin.isF f = true) : fRest (Lin.resid (Lin.wts f) x) f = (x, 0) := by
  have hw := sig_within hs
  obtain ⟨_, hWb, hWl⟩ := Lin.isF_wts hf
  have hWb' : Lin.within 16777216 (Lin.wts f) := Lin.within_mono hWb (by omega)
  have hl12 := (Lin.isF_within hf).1
  have hq := Lin.restF_resid (Lin.wts f) x hw x.length 0 (by omega)
  rw [List.take_zero, List.drop_zero] at hq
  unfold fRest Lin.linear_Restore.f
  rw [if_pos ⟨by rw [Lin.resid_length]; omega, by omega⟩, if_neg (by rw [hf]; decide), if_pos (Lin.chk_ok (by rw [Lin.resid_length]; omega) (Lin.resid_within hWb' hw (by omega))), hq]
  rfl
theorem allSame_rep {x : List Int} (h : allSame x = true) : List.replicate x.length (x.getD 0 0) = x := by
  unfold allSame at h
  rw [List.all_eq_true] at h
  refine (List.eq_replicate_iff.2 ⟨rfl, fun v hv => ?_⟩).symm
  simpa using h v hv
/-- A signal that was written with a plan is read again. -/
theorem told_at {x : List Int} {q : Nat × Nat} (hq : okPlan q) (hs : sigL x) (h1 : 1 ≤ x.length) (hl : x.length ≤ 128) (hok : (planW x q).2 = true) (L R : List Int) :
    ∃ B, (planW x q).1 = numb (q.1 : Int) 2 ++ B ∧ toldR (L ++ B ++ R) L.length (q.1 : Int) x.length = (x, 0, (L ++ B).length) := by
  have hx0 : -65536 ≤ x.getD 0 0 ∧ x.getD 0 0 ≤ 65535 := hs _ (by rw [List.getD_eq_getElem?_getD, List.getElem?_eq_getElem (by omega)]; exact List.getElem_mem _)
  rcases hq with rfl | rfl | ⟨h2, hk⟩ | ⟨h3, hp1, hp12⟩
  · refine ⟨numb (x.getD 0 0 % 2 ^ 17) 17, rfl, ?_⟩
    have hsm : allSame x = true := hok
    unfold toldR aliR
    rw [if_pos (show (((0, 0) : Nat × Nat).1 : Int) = 0 from rfl)]
    have h := rSigned_at L R (x.getD 0 0) 17 (by omega) (by simp only [Nat.reduceSub, Int.reducePow]; omega)
    rw [show ((17 : Nat) : Int) = 17 from rfl] at h
    rw [h]
    dsimp only
    rw [if_neg (by simp), allSame_rep hsm, List.length_append, numb_length]
  · refine ⟨sgnBits 17 x, rfl, ?_⟩
    unfold toldR
    rw [if_neg (by decide), if_pos (show (((1, 0) : Nat × Nat).1 : Int) = 1 from rfl)]
    have h := sgnsR_at 17 (by omega) x L R [] (fun v hv => by have := hs v hv; simp only [Nat.reduceSub, Int.reducePow]; omega)
    rw [show ((17 : Nat) : Int) = 17 from rfl, List.nil_append] at h
    exact h
  · obtain ⟨k0, k⟩ := q
    obtain rfl : k0 = 2 := h2
    have hk : k ≤ 4 := hk
    have hw : planW x (2, k) = ((wDiff x k).2, (wDiff x k).1 == 0) := rfl
    rw [hw] at hok
    obtain ⟨p, hp3, hd, hsm, hdl, hb⟩ := fWrite_ok (show (wDiff x k).1 = 0 by simpa using hok)
    refine ⟨numb (k : Int) 3 ++ listBits (Lin.diffs x k) p, ?_, ?_⟩
    · rw [hw]
      show (wDiff x k).2 = _
      unfold wDiff
      rw [hb, List.append_assoc]; rfl
    · unfold toldR
      dsimp only
      rw [if_neg (by decide), if_neg (by decide), if_pos (show ((2 : Nat) : Int) = 2 from rfl)]
      have e1 : L ++ (numb (k : Int) 3 ++ listBits (Lin.diffs x k) p) ++ R = L ++ numb (k : Int) 3 ++ (listBits (Lin.diffs x k) p ++ R) := by simp only [List.append_assoc]
      have e2 : L ++ (numb (k : Int) 3 ++ listBits (Lin.diffs x k) p) ++ R = (L ++ numb (k : Int) 3) ++ listBits (Lin.diffs x k) p ++ R := by simp only [List.append_assoc]
      have hg : rGet (L ++ (numb (k : Int) 3 ++ listBits (Lin.diffs x k) p) ++ R) L.length 3 = ((k : Int), 0, L.length + 3) := by rw [e1]; exact rGet_at L _ (k : Int) 3 (by omega) ⟨by omega, by simp only [Int.reducePow]; omega⟩
      have hf := fRead_at hsm hdl hp3 hd (L ++ numb (k : Int) 3) R
      rw [← e2, Lin.diffs_length, len_app L (numb (k : Int) 3), numb_length] at hf
      unfold addR
      rw [hg]
      dsimp only
      rw [if_neg (by simp), if_neg (by omega), hf]
      dsimp only
      rw [if_neg (by simp), fAdd_diffs hs hl hk, List.append_assoc]
  · obtain ⟨k0, k⟩ := q
    obtain rfl : k0 = 3 := h3
    have hp1 : 1 ≤ k := hp1
    have hp12 : k ≤ 12 := hp12
    obtain ⟨hisF, hfl, hfb⟩ := reflected_isF x k hp12
    have hw : planW x (3, k) = ((wFilt x k).2, (wFilt x k).1 == 0) := rfl
    rw [hw] at hok
    obtain ⟨p, hp3, hd, hsm, hdl, hb⟩ := fWrite_ok (show (wFilt x k).1 = 0 by simpa using hok)
    obtain ⟨f, hfe⟩ : ∃ f, f = Lin.reflected x k := ⟨_, rfl⟩
    rw [← hfe] at hisF hfl hfb hd hsm hdl hb
    have hrl := Lin.resid_length (Lin.wts f) x
    have hrr := fRest_resid hs hl hisF
    refine ⟨numb (k : Int) 4 ++ (sgnBits 8 f ++ listBits (Lin.resid (Lin.wts f) x) p), ?_, ?_⟩
    · rw [hw]
      show (wFilt x k).2 = _
      unfold wFilt
      rw [← hfe, hb]
      unfold filtHead
      rw [← hfe]
      simp only [List.append_assoc]; rfl
    · generalize Lin.resid (Lin.wts f) x = d at *
      unfold toldR
      dsimp only
      rw [if_neg (by decide), if_neg (by decide), if_neg (by decide)]
      have e1 : L ++ (numb (k : Int) 4 ++ (sgnBits 8 f ++ listBits d p)) ++ R = L ++ numb (k : Int) 4 ++ (sgnBits 8 f ++ (listBits d p ++ R)) := by simp only [List.append_assoc]
      have e2 : L ++ (numb (k : Int) 4 ++ (sgnBits 8 f ++ listBits d p)) ++ R = (L ++ numb (k : Int) 4) ++ sgnBits 8 f ++ (listBits d p ++ R) := by simp only [List.append_assoc]
      have e3 : L ++ (numb (k : Int) 4 ++ (sgnBits 8 f ++ listBits d p)) ++ R = (L ++ numb (k : Int) 4 ++ sgnBits 8 f) ++ listBits d p ++ R := by simp only [List.append_assoc]
      have hg : rGet (L ++ (numb (k : Int) 4 ++ (sgnBits 8 f ++ listBits d p)) ++ R) L.length 4 = ((k : Int), 0, L.length + 4) := by rw [e1]; exact rGet_at L _ (k : Int) 4 (by omega) ⟨by omega, by simp only [Int.reducePow]; omega⟩
      have hc := coefR_at f (L ++ numb (k : Int) 4) (listBits d p ++ R) [] hfb
      rw [← e2, hfl, len_app L (numb (k : Int) 4), numb_length, List.nil_append] at hc
      have hf := fRead_at hsm hdl hp3 hd (L ++ numb (k : Int) 4 ++ sgnBits 8 f) R
      rw [← e3, hrl] at hf
      unfold restR
      rw [hg]
      dsimp only
      rw [if_neg (by simp), if_neg (by omega), Int.toNat_natCast, hc]
      dsimp only
      rw [if_neg (by simp), hf]
      dsimp only
      rw [if_neg (by simp), hrr]
      simp only [List.append_assoc]
theorem sig_at {x : List Int} (hc : chkS x = 0) (L R : List Int) : sigR (L ++ sigBits x ++ R) L.length x.length = (x, 0, (L ++ sigBits x).length) := by
  obtain ⟨⟨h1, hl⟩, hs⟩ := chkS_zero.1 hc
  have hok := ((planL_best x).some (planL_found x)).1
  obtain ⟨B, hB, ht⟩ := told_at (plans_ok _ (planL_mem x)) hs h1 hl hok (L ++ numb ((planL x).1.1 : Int) 2) R
  have hk : (planL x).1.1 ≤ 3 := by
    rcases plans_ok _ (planL_mem x) with h | h | ⟨h, _⟩ | ⟨h, _⟩
    · rw [h]; decide
    · rw [h]; decide
    · omega
    · omega
  have hsb : sigBits x = numb ((planL x).1.1 : Int) 2 ++ B := hB
  rw [hsb]
  generalize (planL x).1.1 = k at *
  have e1 : L ++ (numb (k : Int) 2 ++ B) ++ R = L ++ numb (k : Int) 2 ++ (B ++ R) := by simp only [List.append_assoc]
  have e2 : L ++ (numb (k : Int) 2 ++ B) ++ R = (L ++ numb (k : Int) 2) ++ B ++ R := by simp only [List.append_assoc]
  have hg : rGet (L ++ (numb (k : Int) 2 ++ B) ++ R) L.length 2 = ((k : Int), 0, L.length + 2) := by rw [e1]; exact rGet_at L _ (k : Int) 2 (by omega) ⟨by omega, by simp only [Int.reducePow]; omega⟩
  rw [← e2, len_app L (numb (k : Int) 2), numb_length] at ht
  unfold sigR
  rw [hg]
  dsimp only
  rw [if_neg (by simp), ht]
  dsimp only
  rw [if_neg (by simp), hc, List.append_assoc]
theorem sigsR_at {n : Nat} : ∀ (ls : List (List Int)) (L R : List Int) (acc : List (List Int)), (∀ x ∈ ls, chkS x = 0 ∧ x.length = n) → sigsR (L ++ ls.flatMap sigBits ++ R) n ls.length L.length acc = (acc ++ ls, 0, (L ++ ls.flatMap sigBits).length)
  | [], L, R, acc, _ => by
    rw [List.length_nil, sigsR]
    simp
  | x :: ls, L, R, acc, h => by
    obtain ⟨hc, hn⟩ := h x (by simp)
    have e1 : L ++ (x :: ls).flatMap sigBits ++ R = L ++ sigBits x ++ (ls.flatMap sigBits ++ R) := by rw [List.flatMap_cons]; simp only [List.append_assoc]
    have e2 : L ++ (x :: ls).flatMap sigBits ++ R = (L ++ sigBits x) ++ ls.flatMap sigBits ++ R := by rw [e1]; simp only [List.append_assoc]
    have h1 : sigR (L ++ (x :: ls).flatMap sigBits ++ R) L.length n = (x, 0, (L ++ sigBits x).length) := by rw [e1, ← hn]; exact sig_at hc L _
    have h2 := sigsR_at ls (L ++ sigBits x) R (acc ++ [x]) (fun y hy => h y (by simp [hy]))
    rw [← e2] at h2
    rw [List.length_cons, sigsR, h1, if_neg (by simp), h2, List.flatMap_cons]
    simp only [List.append_assoc, List.cons_append, List.nil_append]
theorem mid_undone {x y : List Int} (hl : y.length = x.length) : lefL (midsL x y) (difsL x y) = x ∧ rigL (midsL x y) (difsL x y) = y := by
  have hml : (midsL x y).length = x.length := by simp [midsL]
  have hg : ∀ i, i < x.length → (midsL x y).getD i 0 = midM (x.getD i 0) (y.getD i 0) ∧ (difsL x y).getD i 0 = x.getD i 0 - y.getD i 0 := fun i hi => by
    constructor
    · unfold midsL; rw [List.getD_eq_getElem?_getD, List.getElem?_map, List.getElem?_range hi]; rfl
    · unfold difsL; rw [List.getD_eq_getElem?_getD, List.getElem?_map, List.getElem?_range hi]; rfl
  refine ⟨List.ext_getElem (by simp [lefL, hml]) (fun i h1 h2 => ?_), List.ext_getElem (by simp [rigL, hml, hl]) (fun i h1 h2 => ?_)⟩
  · simp only [lefL, List.getElem_map, List.getElem_range]
    rw [(hg i h2).1, (hg i h2).2]
    have : x.getD i 0 = x[i] := by rw [List.getD_eq_getElem?_getD, List.getElem?_eq_getElem h2]; rfl
    unfold sideR midM
    omega
  · have h3 : i < x.length := by omega
    simp only [rigL, List.getElem_map, List.getElem_range]
    rw [(hg i h3).1, (hg i h3).2]
    have : y.getD i 0 = y[i] := by rw [List.getD_eq_getElem?_getD, List.getElem?_eq_getElem h2]; rfl
    unfold sideR midM
    omega
/-- A frame that was written is read again. -/
theorem frame_at {ls : List (List Int)} (h : okF ls = true) (L R : List Int) : readR (L ++ frameBits ls ++ R) L.length ls.length (ls.getD 0 []).length = (ls, 0, (L ++ frameBits ls).length) := by
  obtain ⟨hn, ho⟩ := (okF_iff ls).1 h
  have hch := okF_chk h
  by_cases h1 : ls.length = 1
  · have hfb : frameBits ls = ls.flatMap sigBits := by unfold frameBits; rw [if_pos h1]
    have hs := sigsR_at (n := (ls.getD 0 []).length) ls L R [] (fun x hx => ⟨hch x hx, ((ho x hx).1).1⟩)
    rw [List.nil_append] at hs
    unfold readR midR outR
    rw [hfb, if_neg (show ¬ ls.length = 2 by omega)]
    dsimp only
    rw [if_neg (by simp), hs]
    dsimp only
    rw [if_neg (by simp), if_neg (c := (0 : Int) = 1) (by decide), if_pos h]
  · obtain ⟨a, b, rfl⟩ : ∃ a b, ls = [a, b] := by
      match ls, (by omega : ls.length = 2) with
      | [a, b], _ => exact ⟨a, b, rfl⟩
    have hA := ho a (by simp)
    have hB := ho b (by simp)
    rw [show ([a, b] : List (List Int)).getD 0 [] = a from rfl] at hA hB ⊢
    rw [show ([a, b] : List (List Int)).length = 2 from rfl]
    have hfb : frameBits [a, b] = if (frame1 a b).length < (frame0 [a, b]).length then frame1 a b else frame0 [a, b] := rfl
    rw [hfb]
    unfold readR midR
    rw [if_pos rfl]
    by_cases hlt : (frame1 a b).length < (frame0 [a, b]).length
    · rw [if_pos hlt]
      have hcm := mids_chk hB.1.1 hA.1.2 hA.2 hB.2
      unfold frame1
      generalize hT : [midsL a b, difsL a b] = T
      have hTl : T.length = 2 := by rw [← hT]; rfl
      have e1 : L ++ (numb 1 1 ++ T.flatMap sigBits) ++ R = L ++ numb 1 1 ++ (T.flatMap sigBits ++ R) := by simp only [List.append_assoc]
      have e2 : L ++ (numb 1 1 ++ T.flatMap sigBits) ++ R = (L ++ numb 1 1) ++ T.flatMap sigBits ++ R := by simp only [List.append_assoc]
      have hg : rGet (L ++ (numb 1 1 ++ T.flatMap sigBits) ++ R) L.length 1 = (1, 0, L.length + 1) := by rw [e1]; exact rGet_at L _ 1 1 (by omega) (by decide)
      have hs := sigsR_at (n := a.length) T (L ++ numb 1 1) R [] (fun x hx => by
        rw [← hT] at hx
        simp only [List.mem_cons, List.not_mem_nil, or_false] at hx
        rcases hx with rfl | rfl
        · exact ⟨hcm.1, by simp [midsL]⟩
        · exact ⟨hcm.2, by simp [difsL]⟩)
      rw [← e2, hTl, len_app L (numb 1 1), numb_length, List.nil_append] at hs
      rw [hg]
      dsimp only
      rw [if_neg (by simp), hs]
      dsimp only
      have ho2 : outR 1 T = [a, b] := by
        rw [← hT]
        obtain ⟨u1, u2⟩ := mid_undone (x := a) (y := b) hB.1.1
        unfold outR
        rw [if_pos rfl]
        show [lefL (midsL a b) (difsL a b), rigL (midsL a b) (difsL a b)] = _
        rw [u1, u2]
      rw [if_neg (by simp), ho2, if_pos h, List.append_assoc]
    · rw [if_neg hlt]
      unfold frame0
      generalize hT : [a, b] = T at *
      have hTl : T.length = 2 := by rw [← hT]; rfl
      have e1 : L ++ (numb 0 1 ++ T.flatMap sigBits) ++ R = L ++ numb 0 1 ++ (T.flatMap sigBits ++ R) := by simp only [List.append_assoc]
      have e2 : L ++ (numb 0 1 ++ T.flatMap sigBits) ++ R = (L ++ numb 0 1) ++ T.flatMap sigBits ++ R := by simp only [List.append_assoc]
      have hg : rGet (L ++ (numb 0 1 ++ T.flatMap sigBits) ++ R) L.length 1 = (0, 0, L.length + 1) := by rw [e1]; exact rGet_at L _ 0 1 (by omega) (by decide)
      have hs := sigsR_at (n := a.length) T (L ++ numb 0 1) R [] (fun x hx => by
        refine ⟨hch x hx, ?_⟩
        rw [← hT] at hx
        simp only [List.mem_cons, List.not_mem_nil, or_false] at hx
        rcases hx with rfl | rfl
        · rfl
        · exact hB.1.1)
      rw [← e2, hTl, len_app L (numb 0 1), numb_length, List.nil_append] at hs
      rw [hg]
      dsimp only
      rw [if_neg (by simp), hs]
      dsimp only
      rw [if_neg (by simp)]
      unfold outR
      rw [if_neg (c := (0 : Int) = 1) (by decide), if_pos h, List.append_assoc]
theorem frame_read {ls : List (List Int)} (h : okF ls = true) : readR (frameBits ls) 0 ls.length (ls.getD 0 []).length = (ls, 0, (frameBits ls).length) := by
  have := frame_at h [] []
  simpa using this
theorem frame_isN {ls : List (List Int)} (h : okF ls = true) : isN (ls.length : Int) ((ls.getD 0 []).length : Int) = true := by
  obtain ⟨hn, ho⟩ := (okF_iff ls).1 h
  have h0 := (ho (ls.getD 0 []) (by rw [List.getD_eq_getElem?_getD, List.getElem?_eq_getElem (by omega)]; exact List.getElem_mem _)).1.2
  exact (isN_iff _ _).2 ⟨by omega, by omega⟩
theorem frame_readF {ls : List (List Int)} (h : okF ls = true) (L R : List Int) : fReadF (L ++ frameBits ls ++ R) L.length (ls.length : Int) ((ls.getD 0 []).length : Int) = (ls, 0, (L ++ frameBits ls).length) := by
  unfold fReadF
  rw [if_pos (frame_isN h), Int.toNat_natCast, Int.toNat_natCast, frame_at h L R, if_neg (by simp)]
theorem frame_shortF {ls : List (List Int)} (h : okF ls = true) {k : Nat} (hk : k < (frameBits ls).length) : fReadF ((frameBits ls).take k) 0 (ls.length : Int) ((ls.getD 0 []).length : Int) = ([], 3, 0) := by
  have h3 := frame_short (frame_read h) hk
  unfold fReadF
  rw [if_pos (frame_isN h), Int.toNat_natCast, Int.toNat_natCast, h3, if_pos (by decide)]
end Go.Proofs.YtjcijaojcgampaaGreatDoor.P
end
section
namespace Go.Proofs.YtjcijaojcgampaaGreatDoor.P
open Go.RowKit Go.Shelf Go.Proofs.YtjcijaojcgampaaGreatDoor.Bits Go.Proofs.YtjcijaojcgampaaGreatDoorW.PrintWords Go.Proofs.YtjcijaojcgampaaGreatDoorW.PrintLast Go.Proofs.YtjcijaojcgampaaGreatDoorW.PrintMore
set_option linter.unusedVariables false
set_option linter.unusedSimpArgs false
attribute [local go_sem ↓] Go.wp_at_zero Go.wp_at_succ
theorem few_l0 (ls : List (List Int)) (hl : ls.length ≤ 9000000000000000000) : ∀ (f i : Nat) (x : Int), i ≤ ls.length → ls.length - i < f → ∃ b, shawmlaw20_few.l0 f x ls (ls.length : Int) (i : Int) = some b
  | 0, i, x, _, h => by omega
  | f + 1, i, x, hi, hf => by
    unfold shawmlaw20_few.l0
    by_cases hlt : i < ls.length
    · rw [if_pos (by omega), if_pos (by omega), if_pos (by omega)]
      split
      · exact ⟨_, rfl⟩
      · rw [wrap64_id (x := (i : Int) + 1) (by omega) (by omega)]
        exact few_l0 ls hl f (i + 1) _ (by omega) (by omega)
    · rw [if_neg (by omega)]; exact ⟨_, rfl⟩
theorem few_any (A : Option Addr) (c : Nat) (ls : List (List Int)) (w : World) (hC : Kd.C KdL w A ls.length ls) (hc : ls.length ≤ c) (hl : ls.length ≤ 9000000000000000000) :
    ∃ b : Bool, Calls Tryz.prog 14 #[.slice A ls.length c] w fun e w' => e = .returned (.bool b) ∧ Drawn0 w w' := by
  obtain ⟨b, hb⟩ := few_l0 ls hl (ls.length + 1) 0 (ls.length : Int) (by omega) (by omega)
  exact ⟨b, shawmlaw20_few.calls (ls.length + 1) A c ls b w hC hc hb⟩
theorem same_l1 (ls : List (List Int)) (j : Nat) (hj : j < ls.length) (hjl : ls.length ≤ 1000) (x : List Int) (hx : ls.getD j [] = x) (hxl : x.length ≤ 100000) (F : Nat) : ∀ (d i : Nat), i + d = x.length → shawmref20_Same.l1 (F + d + 1) ls ls (j : Int) (ls.length : Int) (j : Int) (x.length : Int) (i : Int) = shawmref20_Same.l0 F ls ls (ls.length : Int) ((j + 1 : Nat) : Int)
  | 0, i, h => by
    unfold shawmref20_Same.l1
    rw [if_neg (by omega), wrap64_id (by omega) (by omega)]
    rfl
  | d + 1, i, h => by
    have ih := same_l1 ls j hj hjl x hx hxl F d (i + 1) (by omega)
    rw [show F + (d + 1) + 1 = (F + d + 1) + 1 by omega]
    unfold shawmref20_Same.l1
    rw [rd_L1_nat, hx, if_pos (by omega), if_pos (by omega), if_pos (by omega), if_pos (by omega), if_pos (by omega), if_pos (by omega), if_pos (by omega), if_pos rfl, wrap64_id (by omega) (by omega)]
    exact ih
theorem same_l0' (ls : List (List Int)) (hl : ls.length ≤ 1000) (hx : ∀ x ∈ ls, x.length ≤ 100000) : ∀ (d i F : Nat), i + d = ls.length → 100002 * d < F → shawmref20_Same.l0 F ls ls (ls.length : Int) (i : Int) = some true
  | 0, i, F + 1, h, _ => by
    unfold shawmref20_Same.l0
    rw [if_neg (by omega)]
  | d + 1, i, F + 1, h, hF => by
    have hm : ls.getD i [] ∈ ls := by rw [List.getD_eq_getElem?_getD, List.getElem?_eq_getElem (by omega)]; exact List.getElem_mem _
    have hxl := hx _ hm
    unfold shawmref20_Same.l0
    rw [rd_L1_nat, if_pos (by omega), if_pos (by omega), if_pos (by omega), if_pos (by omega), if_pos rfl]
    obtain ⟨G, hG⟩ : ∃ G, F = G + (ls.getD i []).length + 1 := ⟨F - (ls.getD i []).length - 1, by omega⟩
    have h1 := same_l1 ls i (by omega) hl _ rfl hxl G (ls.getD i []).length 0 (by omega)
    rw [hG]
    refine Eq.trans h1 ?_
    exact same_l0' ls hl hx d (i + 1) G (by omega) (by omega)
theorem same_refl {ls : List (List Int)} (hl : ls.length ≤ 1000) (hx : ∀ x ∈ ls, x.length ≤ 100000) : shawmref20_Same.f (100002 * ls.length + 1) ls ls = some true := by
  unfold shawmref20_Same.f
  rw [if_pos rfl]
  exact same_l0' ls hl hx ls.length 0 _ (by omega) (by omega)
/-- Same of a list and itself. -/
theorem SameL_any (A : Option Addr) (c : Nat) (A2 : Option Addr) (c2 : Nat) (ls : List (List Int)) (w : World) (h : Kd.C KdL w A ls.length ls) (hc : ls.length ≤ c) (h2 : Kd.C KdL w A2 ls.length ls) (hc2 : ls.length ≤ c2) (hl : ls.length ≤ 1000) (hx : ∀ x ∈ ls, x.length ≤ 100000) :
    Calls Tryz.prog 23 #[.slice A ls.length c, .slice A2 ls.length c2] w fun e w' => e = .returned (.bool true) ∧ Drawn0 w w' :=
  shawmref20_Same.calls _ A c ls A2 c2 ls true w h hc h2 hc2 (same_refl hl hx)
theorem C_lt8 {w : World} {A : Option Addr} {n : Nat} {B : List Int} (h : Kd.C (Kd.int .u8) w A n B) (hn : 0 < n) : ∀ ad, A = some ad → ad.block < w.heap.size := by
  rintro ad rfl
  obtain ⟨ad', e, hx⟩ := Kd.at_int h (0 : Int) (by omega) (by omega)
  cases e
  have := World.block_lt_of_cell? w _ hx
  simpa [Addr.add] using this
theorem sigBits_pos {x : List Int} (hc : chkS x = 0) : 2 ≤ (sigBits x).length := by
  obtain ⟨⟨h1, hl⟩, hs⟩ := chkS_zero.1 hc
  obtain ⟨B, hB, _⟩ := told_at (plans_ok _ (planL_mem x)) hs h1 hl ((planL_best x).some (planL_found x)).1 [] []
  have : sigBits x = numb ((planL x).1.1 : Int) 2 ++ B := hB
  rw [this, List.length_append, numb_length]; omega
theorem frameBits_pos {ls : List (List Int)} (h : okF ls = true) : 1 ≤ (frameBits ls).length := by
  have hn := ((okF_iff ls).1 h).1
  have hch := okF_chk h
  unfold frameBits
  split
  · cases ls with
    | nil => simp at hn
    | cons x ls => rw [List.flatMap_cons, List.length_append]; have := sigBits_pos (hch x (by simp)); omega
  · split
    · unfold frame1; rw [List.length_append, numb_length]; omega
    · unfold frame0; rw [List.length_append, numb_length]; omega
theorem rem_nat (c n : Nat) : (c : Int) % (n : Int) = ((c % n : Nat) : Int) := by push_cast; rfl
end Go.Proofs.YtjcijaojcgampaaGreatDoor.P
end
section
namespace Go.Proofs.YtjcijaojcgampaaGreatDoor.P
open Go.RowKit Go.Shelf Go.Proofs.YtjcijaojcgampaaGreatDoor.Bits Go.Proofs.YtjcijaojcgampaaGreatDoorW.PrintWords Go.Proofs.YtjcijaojcgampaaGreatDoorW.PrintLast Go.Proofs.YtjcijaojcgampaaGreatDoorW.PrintMore
set_option linter.unusedVariables false
set_option linter.unusedSimpArgs false
attribute [local go_sem ↓] Go.wp_at_zero Go.wp_at_succ
/-- Open of the first bits of what a writer has. -/
theorem Open_pkL (A : Option Addr) (c : Nat) (L : List Int) (k : Nat) (w : World) (h01 : is01 L) (hk : k ≤ L.length) (hl : L.length ≤ 1048576) (hC : Kd.C (Kd.int .u8) w A (pk L).length (pk L)) (hc : (pk L).length ≤ c) :
    Calls Tryz.prog 18 #[.slice A (pk L).length c, .int .i64 (k : Int)] w fun e w' => ∃ p S, e = .returned (.tuple #[.pointer (some ⟨p, 0, none⟩), .int .i64 0]) ∧ Rd w' S p (L.take k) 0 ∧ w.heap.size ≤ p ∧ (∀ k, S k → w.heap.size ≤ k) ∧ Below w.heap.size w w' := by
  refine (Open_any A c (pk L) (k : Int) w hC (pk_is8 h01) (pk_len_le hl) hc).mono ?_
  intro e w' hop
  unfold OpenPost at hop
  have he : openE (pk L) (k : Int) = 0 := by
    have := pk_length L
    unfold openE
    rw [if_neg (by omega), if_neg (by omega)]
  rw [he, if_pos rfl, Int.toNat_natCast, ofB_pk h01 _ hk] at hop
  exact hop
set_option maxHeartbeats 8000000 in
set_option maxRecDepth 100000 in
theorem LosslessShort_any (A : Option Addr) (c : Nat) (ls : List (List Int)) (cn : Nat) (A2 : Option Addr) (c2 : Nat) (B : List Int) (w : World) (hg : HO w) (hC : Kd.C KdL w A ls.length ls) (hc : ls.length ≤ c) (hl : ls.length ≤ 1000000000000000000)
    (hcn : cn ≤ 65535) (hC2 : Kd.C (Kd.int .u8) w A2 B.length B) (h8 : is8 B) (hc2 : B.length ≤ c2) (hl2 : B.length ≤ 1000000000000000000) :
    Calls Tryz.prog 4 #[.slice A ls.length c, .int .u16 (cn : Int), .slice A2 B.length c2] w fun e w' => e = .returned (.bool true) ∧ Below w.heap.size w w' := by
  have HG := Aside0.mk hg
  obtain ⟨bf, hfew⟩ := few_any A c ls w hC hc (by omega)
  have HFEW := Aside0.mk hfew
  have HAW : Aside0 (∀ W, Below w.heap.size w W → Calls Tryz.prog 12 #[] W fun e w' => e = .returned (.bool true) ∧ Below w.heap.size w w') := ⟨fun W hb => (awake20_any W (hg.below hb)).mono (fun e w' h => ⟨h.1, hb.trans (h.2.mono hb.size)⟩)⟩
  by_cases h0 : bf = false ∨ 50 < B.length
  · have hd : bf = false ∨ (bf = true ∧ decide ((50 : Int) < (B.length : Int)) = true) := by
      rcases h0 with h | h
      · exact .inl h
      · cases bf
        · exact .inl rfl
        · exact .inr ⟨rfl, by simp; omega⟩
    clear h0 hC hC2 hg hfew
    rcases hd with rfl | ⟨rfl, d1⟩
    all_goals
      go_enter Tryz.func4, Tryz.ntmps4
      go_wp2_with fail
      refine HFEW.out.mono ?_
      rintro e w1 ⟨rfl, hd⟩
      have HB1 := Aside0.mk hd.below
      clear hd
      go_wp2_with fail
      refine (HAW.out w1 HB1.out).mono ?_
      rintro e w9 ⟨rfl, hb⟩
      have HB9 := Aside0.mk hb
      clear hb
      go_wp2_with fail
      go_ret
      exact ⟨rfl, HB9.out⟩
  obtain rfl : bf = true := by cases bf; exact absurd (.inl rfl) h0; rfl
  have d1 : decide ((50 : Int) < (B.length : Int)) = false := by
    simp only [decide_eq_false_iff_not]
    intro h
    exact h0 (.inr (by omega))
  have h50 : B.length ≤ 50 := by omega
  have HWR := Aside0.mk (fun W p (hW : Wr W (fun _ => False) p []) (hb : Below w.heap.size w W) => WriteF_any (fun _ => False) p [] A c ls W hW (by simp) (hg.below hb) (Kd.C_below hC hb) hc)
  by_cases hok : okF ls = true
  case neg =>
    have hok : okF ls = false := by simpa using hok
    have HE : Aside0 (fWriteF [] ls = (1, [])) := ⟨by unfold fWriteF; rw [hok]; rfl⟩
    rw [HE.out] at HWR
    clear h0 hC hC2 hg hfew hok
    go_enter Tryz.func4, Tryz.ntmps4
    go_wp2_with fail
    refine HFEW.out.mono ?_
    rintro e w1 ⟨rfl, hd⟩
    have HB1 := Aside0.mk hd.below
    clear hd
    go_wp2_with fail
    refine (New_any w1).mono ?_
    rintro e w2 ⟨rfl, hw⟩
    have hW2 : Wr w2 (fun _ => False) w1.heap.size [] := by rw [hw]; exact Wr.new w1
    have hb12 : Below w1.heap.size w1 w2 := by rw [hw]; exact below_alloc (Below.refl _ _) _
    obtain ⟨p, hp⟩ : ∃ p, p = w1.heap.size := ⟨_, rfl⟩
    rw [← hp] at hW2 ⊢
    have HP := Aside0.mk (show w.heap.size ≤ p by rw [hp]; exact HB1.out.size)
    have HW2 := Aside0.mk hW2
    have HB2 := Aside0.mk (HB1.out.trans (hb12.mono HB1.out.size))
    clear hw hp hW2 hb12
    go_wp2_with fail
    refine (HWR.out w2 p HW2.out HB2.out).mono ?_
    rintro e w3 ⟨rfl, S3, hW3, hs3, hf3⟩
    have HB3 := Aside0.mk (HB2.out.trans (hf3.to_below HB2.out.size (fun k hk => by rcases hk with o | o; (have := HP.out; omega); exact o.elim)))
    clear hW3 hs3 hf3
    go_wp2_with fail
    refine (HAW.out w3 HB3.out).mono ?_
    rintro e w9 ⟨rfl, hb⟩
    have HB9 := Aside0.mk hb
    clear hb
    go_wp2_with fail
    go_ret
    exact ⟨rfl, HB9.out⟩
  have hle := frameBits_le hok
  have hpos := frameBits_pos hok
  obtain ⟨L, hL⟩ : ∃ L, L = frameBits ls := ⟨_, rfl⟩
  rw [← hL] at hle hpos
  have HE : Aside0 (fWriteF [] ls = (0, L)) := ⟨by
    unfold fWriteF
    rw [if_pos hok, ← hL]
    unfold wput putE putL
    rw [if_neg (by simp; omega), if_neg (by simp; omega), List.nil_append]⟩
  rw [HE.out] at HWR
  obtain ⟨x0, hx0⟩ : ∃ x, x = ls.getD 0 [] := ⟨_, rfl⟩
  have HSH : Aside0 (∀ k, k < L.length → fReadF (L.take k) 0 (ls.length : Int) (x0.length : Int) = ([], 3, 0)) := ⟨fun k hk => by rw [hL] at hk ⊢; rw [hx0]; exact frame_shortF hok hk⟩
  have HRD : Aside0 (∀ M, fReadF (L ++ M) 0 (ls.length : Int) (x0.length : Int) = (ls, 0, L.length)) := ⟨fun M => by
    have := frame_readF hok [] M
    rw [List.nil_append, ← hL, ← hx0] at this
    exact this⟩
  obtain ⟨hn, ho⟩ := (okF_iff ls).1 hok
  have HLS : Aside0 (ls.length ≤ 1000 ∧ ∀ x ∈ ls, x.length ≤ 100000) := ⟨by omega, fun x hx => by have := (ho x hx).1.2.2; omega⟩
  have HC := Aside0.mk (Kd.C_F (Kd.heap_slice _ (Kd.heap_int .i64)) hC)
  have HC2 := Aside0.mk hC2
  have H8 := Aside0.mk h8
  have H50 := Aside0.mk h50
  have HLT := Aside0.mk (fun h => C_lt8 hC2 h)
  have HLL := Aside0.mk (show 1 ≤ L.length ∧ L.length ≤ 4357 from ⟨hpos, hle⟩)
  have HHC := Aside0.mk hc
  obtain ⟨kN, hkN⟩ : ∃ k, k = cn % L.length := ⟨_, rfl⟩
  have hkl : kN < L.length := by rw [hkN]; exact Nat.mod_lt _ (by omega)
  obtain ⟨nI, hnI⟩ : ∃ z : Int, (L.length : Int) = z := ⟨_, rfl⟩
  obtain ⟨cI, hcI⟩ : ∃ z : Int, (cn : Int) = z := ⟨_, rfl⟩
  have hrem : cI % nI = (kN : Int) := by rw [← hnI, ← hcI, hkN]; exact rem_nat cn L.length
  have HCN : Aside0 ((wrap64 (cn : Int)).tmod nI = (kN : Int)) := ⟨by
    rw [wrap64_id (by omega) (by omega), Int.tmod_eq_emod_of_nonneg (by omega), hcI]; exact hrem⟩
  have d3 : decide (nI < 1) = false := by simp; omega
  have hnp : 0 < nI := by omega
  have hnb : nI ≤ 4357 := by omega
  have HNI := Aside0.mk hnI
  have HKL := Aside0.mk hkl
  have hls0 : (0 : Int) < (ls.length : Int) := by omega
  obtain ⟨mI, hmI⟩ : ∃ z : Int, (ls.length : Int) = z := ⟨_, rfl⟩
  rw [hmI] at hls0 HSH HRD
  have HMI := Aside0.mk hmI
  clear hmI
  have HX0 := Aside0.mk hx0
  have HAP := Aside0.mk (fun S p W (hW : Wr W S p L) (hb : Below w.heap.size w W) (hp : w.heap.size ≤ p) (hS : ∀ k, S k → w.heap.size ≤ k) => Append_any S p L A2 c2 B (8 * (B.length : Int)) W hW (by omega) (Kd.C_below hC2 hb) h8 (by omega) (fun ad e h o => by
    have h1 := C_lt8 hC2 h ad e
    rcases o with o | o
    · omega
    · have := hS _ o; omega))
  have HM : Aside0 (wAppend L B (8 * (B.length : Int)) = (0, L ++ ofB B (8 * B.length)) ∧ (L ++ ofB B (8 * B.length)).length ≤ 10000) := ⟨by
    have hol := ofB_length B (8 * B.length)
    refine ⟨?_, by rw [List.length_append, hol]; omega⟩
    unfold wAppend
    rw [if_neg (by omega), show (8 * (B.length : Int)).toNat = 8 * B.length by omega]
    unfold wput putE putL
    rw [if_neg (by rw [hol]; omega), if_neg (by rw [hol]; omega)]⟩
  rw [HM.out.1] at HAP
  have HML := Aside0.mk HM.out.2
  have h8w : IntKind.i64.wrap (8 * (B.length : Int)) = 8 * (B.length : Int) := IntWalk.i64_in _ (by omega)
  have HW8 := Aside0.mk h8w
  have HRD0 := Aside0.mk (HRD.out (ofB B (8 * B.length)))
  generalize L ++ ofB B (8 * B.length) = L2 at *
  clear HM h8w h0 hC hC2 hg hfew hok hle hpos hL h8 h50 hn ho hc hkN hkl hnI hcn hcI hrem hl hl2 hx0 hc2
  go_enter Tryz.func4, Tryz.ntmps4
  have hmI := HMI.out
  clear HMI
  go_wp2_with fail
  refine HFEW.out.mono ?_
  rintro e w1 ⟨rfl, hd⟩
  have HB1 := Aside0.mk hd.below
  clear hd
  go_wp2_with fail
  refine (New_any w1).mono ?_
  rintro e w2 ⟨rfl, hw⟩
  have hW2 : Wr w2 (fun _ => False) w1.heap.size [] := by rw [hw]; exact Wr.new w1
  have hb12 : Below w1.heap.size w1 w2 := by rw [hw]; exact below_alloc (Below.refl _ _) _
  obtain ⟨p, hp⟩ : ∃ p, p = w1.heap.size := ⟨_, rfl⟩
  rw [← hp] at hW2 ⊢
  have HP := Aside0.mk (show w.heap.size ≤ p by rw [hp]; exact HB1.out.size)
  have HW2 := Aside0.mk hW2
  have HB2 := Aside0.mk (HB1.out.trans (hb12.mono HB1.out.size))
  clear hw hp hW2 hb12
  go_wp2_with fail
  refine (HWR.out w2 p HW2.out HB2.out).mono ?_
  rintro e w3 ⟨rfl, S3, hW3, hs3, hf3⟩
  have HB3 := Aside0.mk (HB2.out.trans (hf3.to_below HB2.out.size (fun k hk => by rcases hk with o | o; (have := HP.out; omega); exact o.elim)))
  have HS3 : Aside0 (∀ k, S3 k → w.heap.size ≤ k) := ⟨fun k hk => by
    rcases hs3 k hk with o | o
    · exact o.elim
    · exact Nat.le_trans HB2.out.size o⟩
  have HW3 := Aside0.mk hW3
  clear hW3 hs3 hf3
  go_wp2_with fail
  refine (Len_any S3 p L w3 HW3.out).mono ?_
  rintro e w4 ⟨rfl, hw⟩
  obtain rfl := hw.symm
  rw [HNI.out]
  have hcn := HCN.out
  go_wp2_with fail
  clear hcn
  refine (Bytes_any S3 p L w3 HW3.out (by have := HLL.out; omega)).mono ?_
  rintro e w5 ⟨v5, S5, rfl, hr5, hs5, hb⟩
  have HB5 := Aside0.mk (HB3.out.trans (hb.mono HB3.out.size))
  have HW5 := Aside0.mk (HW3.out.below hb)
  obtain ⟨A5, c5, rfl, hc5, hC5⟩ := Kd.R_reads hr5
  have hop := Open_pkL A5 c5 L kN w5 HW3.out.bits (Nat.le_of_lt HKL.out) (by have := HLL.out; omega) hC5 hc5
  have HOP := Aside0.mk hop
  clear hb hr5 hs5 hc5 hC5 hop
  go_wp2_with fail
  refine HOP.out.mono ?_
  rintro e w6 ⟨p6, S6, rfl, hR6, hp6, hS6, hb⟩
  have HB6 := Aside0.mk (HB5.out.trans (hb.mono HB5.out.size))
  have HB56 := Aside0.mk hb
  have HP6 := Aside0.mk (Nat.le_trans HB5.out.size hp6)
  have HPW := Aside0.mk (show p < w5.heap.size ∧ w5.heap.size ≤ p6 ∧ ∀ k, S3 k → k < w5.heap.size from ⟨HW5.out.p_lt, hp6, fun k hk => HW5.out.lt k hk⟩)
  have hrd := ReadF_any S6 p6 0 mI (x0.length : Int) (L.take kN) w6 hR6
  rw [HSH.out kN HKL.out] at hrd
  unfold FReadPost at hrd
  dsimp only at hrd
  have HRD1 := Aside0.mk hrd
  obtain ⟨ad, A1, c1, e, hx, hc1, hC1⟩ := at_L1 (Kd.F_now (Kd.F_below HC.out HB6.out)) (0 : Int) (by omega) (by omega)
  subst e
  rw [show rd_L1 ls 0 = x0 by rw [HX0.out]; exact rd_L1_nat ls 0] at hx
  rw [show ad.add (0 : Int).toNat = ad by simp [Addr.add]] at hx
  clear hR6 hp6 hS6 hb hrd hc1 hC1
  go_wp2_with fail
  refine HRD1.out.mono ?_
  rintro e w7 ⟨A7, c7, rfl, hc7, hF7, hr7, hf7⟩
  have HR7 := Aside0.mk hr7
  have HB7 := Aside0.mk (HB6.out.trans (hf7.to_below HB6.out.size (fun k hk => by rw [hk]; exact HP6.out)))
  have hfw : Fr (fun k => k = p6) w5 w7 := (Fr.below HB56.out _).trans hf7
  have HW7 := Aside0.mk (HW5.out.fr hfw (by have := HPW.out; omega) (fun k hk o => by have h1 := HPW.out.2.2 k hk; have := HPW.out.2.1; omega))
  clear hx hc7 hF7 hr7 hf7 hfw
  go_wp2_with fail
  refine (At_any S6 p6 0 (L.take kN) w7 HR7.out).mono ?_
  rintro e w8 ⟨rfl, hw⟩
  obtain rfl := hw.symm
  have hw8 := HW8.out
  go_wp2_with fail
  clear hw8
  refine (HAP.out S3 p w7 HW7.out HB7.out HP.out HS3.out).mono ?_
  rintro e w8 ⟨rfl, S8, hW8, hs8, hf8⟩
  have HW8 := Aside0.mk hW8
  have HB8 := Aside0.mk (HB7.out.trans (hf8.to_below HB7.out.size (fun k hk => by
    rcases hk with o | o
    · rw [o]; exact HP.out
    · exact HS3.out k o)))
  clear hW8 hs8 hf8
  go_wp2_with fail
  refine (Bytes_any S8 p L2 w8 HW8.out (by have := HML.out; omega)).mono ?_
  rintro e w9 ⟨v9, S9, rfl, hr9, hs9, hb⟩
  have HB9 := Aside0.mk (HB8.out.trans (hb.mono HB8.out.size))
  have HW9 := Aside0.mk (HW8.out.below hb)
  obtain ⟨A9, c9, rfl, hc9, hC9⟩ := Kd.R_reads hr9
  have hop := Open_pkL A9 c9 L2 L2.length w9 HW8.out.bits (Nat.le_refl _) (by have := HML.out; omega) hC9 hc9
  rw [List.take_length] at hop
  have HOP2 := Aside0.mk hop
  clear hb hr9 hs9 hc9 hC9 hop
  go_wp2_with fail
  refine (Len_any S8 p L2 w9 HW9.out).mono ?_
  rintro e w10 ⟨rfl, hw⟩
  obtain rfl := hw.symm
  go_wp2_with fail
  refine HOP2.out.mono ?_
  rintro e w10 ⟨p10, S10, rfl, hR10, hp10, hS10, hb⟩
  have HB10 := Aside0.mk (HB9.out.trans (hb.mono HB9.out.size))
  have HP10 := Aside0.mk (Nat.le_trans HB9.out.size hp10)
  have hrd := ReadF_any S10 p10 0 mI (x0.length : Int) L2 w10 hR10
  rw [HRD0.out] at hrd
  unfold FReadPost at hrd
  dsimp only at hrd
  have HRD2 := Aside0.mk hrd
  obtain ⟨ad', A1', c1', e, hx, hc1, hC1⟩ := at_L1 (Kd.F_now (Kd.F_below HC.out HB10.out)) (0 : Int) (by omega) (by omega)
  cases e
  rw [show rd_L1 ls 0 = x0 by rw [HX0.out]; exact rd_L1_nat ls 0] at hx
  rw [show ad.add (0 : Int).toNat = ad by simp [Addr.add]] at hx
  clear hR10 hp10 hS10 hb hrd hc1 hC1
  go_wp2_with fail
  refine HRD2.out.mono ?_
  rintro e w11 ⟨A11, c11, rfl, hc11, hF11, hr11, hf11⟩
  have HR11 := Aside0.mk hr11
  have hB11 : Below w.heap.size w w11 := HB10.out.trans (hf11.to_below HB10.out.size (fun k hk => by rw [hk]; exact HP10.out))
  have HB11 := Aside0.mk hB11
  have HSM := Aside0.mk (SameL_any A11 c11 (some ad) c ls w11 (Kd.F_now hF11) hc11 (Kd.F_now (Kd.F_below HC.out hB11)) HHC.out HLS.out.1 HLS.out.2)
  clear hx hc11 hF11 hr11 hf11 hB11
  go_wp2_with fail
  refine HSM.out.mono ?_
  rintro e w12 ⟨rfl, hd⟩
  have HB12 := Aside0.mk (HB11.out.trans (hd.below.mono HB11.out.size))
  have HR12 := Aside0.mk (HR11.out.below hd.below)
  clear hd
  go_wp2_with fail
  refine (At_any S10 p10 L.length L2 w12 HR12.out).mono ?_
  rintro e w13 ⟨rfl, hw⟩
  obtain rfl := hw.symm
  rw [HNI.out]
  have y1 : (nI == nI) = true := by simp
  go_wp2_with fail
  refine (HAW.out w12 HB12.out).mono ?_
  rintro e w14 ⟨rfl, hb⟩
  have HB14 := Aside0.mk hb
  clear hb
  go_wp2_with fail
  go_ret
  exact ⟨rfl, HB14.out⟩
end Go.Proofs.YtjcijaojcgampaaGreatDoor.P
end
