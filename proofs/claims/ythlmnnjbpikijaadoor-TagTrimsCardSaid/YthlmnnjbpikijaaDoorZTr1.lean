/- Bits and bytes as lists of numbers: plain facts, with no program in sight. -/
namespace Go.Proofs.YthlmnnjbpikijaaDoor.Bits
set_option linter.unusedVariables false
set_option linter.unusedSimpArgs false
/-- Bits, each 0 or 1. -/
def is01 (L : List Int) : Prop := ∀ b ∈ L, b = 0 ∨ b = 1
/-- Bytes. -/
def is8 (B : List Int) : Prop := ∀ b ∈ B, 0 ≤ b ∧ b < 256
def byteAt (L : List Int) (j : Nat) : Int := 128 * L.getD (8 * j) 0 + 64 * L.getD (8 * j + 1) 0 + 32 * L.getD (8 * j + 2) 0 + 16 * L.getD (8 * j + 3) 0 + 8 * L.getD (8 * j + 4) 0 + 4 * L.getD (8 * j + 5) 0 + 2 * L.getD (8 * j + 6) 0 + L.getD (8 * j + 7) 0
/-- Bits as bytes, the last one filled with zeros. -/
def pk (L : List Int) : List Int := (List.range ((L.length + 7) / 8)).map (byteAt L)
def bitAt (B : List Int) (i : Nat) : Int := B.getD (i / 8) 0 / 2 ^ (7 - i % 8) % 2
/-- The first n bits of bytes. -/
def ofB (B : List Int) (n : Nat) : List Int := (List.range n).map (bitAt B)
theorem getD01 {L : List Int} (h : is01 L) (i : Nat) : 0 ≤ L.getD i 0 ∧ L.getD i 0 ≤ 1 := by
  rw [List.getD_eq_getElem?_getD]
  cases e : L[i]? with
  | none => simp
  | some b =>
    have := h b (List.mem_of_getElem? e)
    simp; omega
theorem getD8 {B : List Int} (h : is8 B) (i : Nat) : 0 ≤ B.getD i 0 ∧ B.getD i 0 < 256 := by
  rw [List.getD_eq_getElem?_getD]
  cases e : B[i]? with
  | none => simp
  | some b =>
    have := h b (List.mem_of_getElem? e)
    simp; omega
theorem is01_nil : is01 [] := fun _ h => by cases h
theorem is01_append {L M : List Int} (h : is01 L) (k : is01 M) : is01 (L ++ M) := fun b hb => by
  rcases List.mem_append.1 hb with q | q
  · exact h b q
  · exact k b q
theorem is01_one {b : Int} (h : b = 0 ∨ b = 1) : is01 [b] := fun x hx => by rw [List.mem_singleton.1 hx]; exact h
theorem is01_snoc {L : List Int} {b : Int} (h : is01 L) (k : b = 0 ∨ b = 1) : is01 (L ++ [b]) := is01_append h (is01_one k)
theorem is01_take {L : List Int} (h : is01 L) (n : Nat) : is01 (L.take n) := fun b hb => h b (List.mem_of_mem_take hb)
theorem is01_drop {L : List Int} (h : is01 L) (n : Nat) : is01 (L.drop n) := fun b hb => h b (List.mem_of_mem_drop hb)
theorem is01_map {α : Type} (l : List α) (f : α → Int) (h : ∀ a ∈ l, f a = 0 ∨ f a = 1) : is01 (l.map f) := fun b hb => by
  obtain ⟨a, ha, rfl⟩ := List.mem_map.1 hb
  exact h a ha
theorem getD_snoc (L : List Int) (b : Int) (i : Nat) : (L ++ [b]).getD i 0 = L.getD i 0 + if i = L.length then b else 0 := by
  simp only [List.getD_eq_getElem?_getD]
  rcases Nat.lt_trichotomy i L.length with h | h | h
  · rw [List.getElem?_append_left h, if_neg (by omega)]; simp
  · subst h; simp
  · rw [List.getElem?_eq_none (by simp; omega), List.getElem?_eq_none (by omega), if_neg (by omega)]; simp
theorem pow_lt8 {m : Nat} (h : m < 8) : m = 0 ∨ m = 1 ∨ m = 2 ∨ m = 3 ∨ m = 4 ∨ m = 5 ∨ m = 6 ∨ m = 7 := by omega
theorem byteAt_snoc (L : List Int) (b : Int) (j : Nat) : byteAt (L ++ [b]) j = byteAt L j + if j = L.length / 8 then b * 2 ^ (7 - L.length % 8) else 0 := by
  unfold byteAt
  simp only [getD_snoc]
  by_cases hj : j = L.length / 8
  · rw [if_pos hj]
    have hl : L.length = 8 * j + L.length % 8 := by omega
    rcases pow_lt8 (Nat.mod_lt L.length (show 8 > 0 by omega)) with h | h | h | h | h | h | h | h
    · rw [h]; rw [h] at hl
      rw [if_pos (show 8 * j = L.length by omega), if_neg (show ¬ 8 * j + 1 = L.length by omega), if_neg (show ¬ 8 * j + 2 = L.length by omega), if_neg (show ¬ 8 * j + 3 = L.length by omega), if_neg (show ¬ 8 * j + 4 = L.length by omega), if_neg (show ¬ 8 * j + 5 = L.length by omega), if_neg (show ¬ 8 * j + 6 = L.length by omega), if_neg (show ¬ 8 * j + 7 = L.length by omega)]
      omega
    · rw [h]; rw [h] at hl
      rw [if_neg (show ¬ 8 * j = L.length by omega), if_pos (show 8 * j + 1 = L.length by omega), if_neg (show ¬ 8 * j + 2 = L.length by omega), if_neg (show ¬ 8 * j + 3 = L.length by omega), if_neg (show ¬ 8 * j + 4 = L.length by omega), if_neg (show ¬ 8 * j + 5 = L.length by omega), if_neg (show ¬ 8 * j + 6 = L.length by omega), if_neg (show ¬ 8 * j + 7 = L.length by omega)]
      omega
    · rw [h]; rw [h] at hl
      rw [if_neg (show ¬ 8 * j = L.length by omega), if_neg (show ¬ 8 * j + 1 = L.length by omega), if_pos (show 8 * j + 2 = L.length by omega), if_neg (show ¬ 8 * j + 3 = L.length by omega), if_neg (show ¬ 8 * j + 4 = L.length by omega), if_neg (show ¬ 8 * j + 5 = L.length by omega), if_neg (show ¬ 8 * j + 6 = L.length by omega), if_neg (show ¬ 8 * j + 7 = L.length by omega)]
      omega
    · rw [h]; rw [h] at hl
      rw [if_neg (show ¬ 8 * j = L.length by omega), if_neg (show ¬ 8 * j + 1 = L.length by omega), if_neg (show ¬ 8 * j + 2 = L.length by omega), if_pos (show 8 * j + 3 = L.length by omega), if_neg (show ¬ 8 * j + 4 = L.length by omega), if_neg (show ¬ 8 * j + 5 = L.length by omega), if_neg (show ¬ 8 * j + 6 = L.length by omega), if_neg (show ¬ 8 * j + 7 = L.length by omega)]
      omega
    · rw [h]; rw [h] at hl
      rw [if_neg (show ¬ 8 * j = L.length by omega), if_neg (show ¬ 8 * j + 1 = L.length by omega), if_neg (show ¬ 8 * j + 2 = L.length by omega), if_neg (show ¬ 8 * j + 3 = L.length by omega), if_pos (show 8 * j + 4 = L.length by omega), if_neg (show ¬ 8 * j + 5 = L.length by omega), if_neg (show ¬ 8 * j + 6 = L.length by omega), if_neg (show ¬ 8 * j + 7 = L.length by omega)]
      omega
    · rw [h]; rw [h] at hl
      rw [if_neg (show ¬ 8 * j = L.length by omega), if_neg (show ¬ 8 * j + 1 = L.length by omega), if_neg (show ¬ 8 * j + 2 = L.length by omega), if_neg (show ¬ 8 * j + 3 = L.length by omega), if_neg (show ¬ 8 * j + 4 = L.length by omega), if_pos (show 8 * j + 5 = L.length by omega), if_neg (show ¬ 8 * j + 6 = L.length by omega), if_neg (show ¬ 8 * j + 7 = L.length by omega)]
      omega
    · rw [h]; rw [h] at hl
      rw [if_neg (show ¬ 8 * j = L.length by omega), if_neg (show ¬ 8 * j + 1 = L.length by omega), if_neg (show ¬ 8 * j + 2 = L.length by omega), if_neg (show ¬ 8 * j + 3 = L.length by omega), if_neg (show ¬ 8 * j + 4 = L.length by omega), if_neg (show ¬ 8 * j + 5 = L.length by omega), if_pos (show 8 * j + 6 = L.length by omega), if_neg (show ¬ 8 * j + 7 = L.length by omega)]
      omega
    · rw [h]; rw [h] at hl
      rw [if_neg (show ¬ 8 * j = L.length by omega), if_neg (show ¬ 8 * j + 1 = L.length by omega), if_neg (show ¬ 8 * j + 2 = L.length by omega), if_neg (show ¬ 8 * j + 3 = L.length by omega), if_neg (show ¬ 8 * j + 4 = L.length by omega), if_neg (show ¬ 8 * j + 5 = L.length by omega), if_neg (show ¬ 8 * j + 6 = L.length by omega), if_pos (show 8 * j + 7 = L.length by omega)]
      omega
  · rw [if_neg hj, if_neg (show ¬ 8 * j = L.length by omega), if_neg (show ¬ 8 * j + 1 = L.length by omega), if_neg (show ¬ 8 * j + 2 = L.length by omega), if_neg (show ¬ 8 * j + 3 = L.length by omega), if_neg (show ¬ 8 * j + 4 = L.length by omega), if_neg (show ¬ 8 * j + 5 = L.length by omega), if_neg (show ¬ 8 * j + 6 = L.length by omega), if_neg (show ¬ 8 * j + 7 = L.length by omega)]
    omega
theorem pk_length (L : List Int) : (pk L).length = (L.length + 7) / 8 := by simp [pk]
theorem getD_pk (L : List Int) (j : Nat) (h : j < (L.length + 7) / 8) : (pk L).getD j 0 = byteAt L j := by simp [pk, h]
theorem byteAt_out (L : List Int) (j : Nat) (h : L.length ≤ 8 * j) : byteAt L j = 0 := by
  have hz : ∀ i, L.length ≤ i → L.getD i 0 = 0 := fun i hi => by rw [List.getD_eq_getElem?_getD, List.getElem?_eq_none hi]; rfl
  unfold byteAt
  rw [hz _ (by omega), hz _ (by omega), hz _ (by omega), hz _ (by omega), hz _ (by omega), hz _ (by omega), hz _ (by omega), hz _ (by omega)]
  rfl
theorem getD_pk' (L : List Int) (j : Nat) : (pk L).getD j 0 = byteAt L j := by
  by_cases h : j < (L.length + 7) / 8
  · exact getD_pk L j h
  · rw [byteAt_out L j (by omega), List.getD_eq_getElem?_getD, List.getElem?_eq_none (by rw [pk_length]; omega)]; rfl
theorem pk_nil : pk [] = [] := rfl
theorem ext_getD {A B : List Int} (hl : A.length = B.length) (h : ∀ j, j < A.length → A.getD j 0 = B.getD j 0) : A = B := by
  apply List.ext_getElem hl
  intro j h1 h2
  have := h j h1
  rw [List.getD_eq_getElem?_getD, List.getD_eq_getElem?_getD, List.getElem?_eq_getElem h1, List.getElem?_eq_getElem h2] at this
  exact this
theorem getD_set (L : List Int) (i j : Nat) (b : Int) (h : i < L.length) : (L.set i b).getD j 0 = if i = j then b else L.getD j 0 := by
  simp only [List.getD_eq_getElem?_getD]
  rw [List.getElem?_set]
  split
  · rename_i e; subst e; simp [h]
  · rfl
theorem pk_snoc_new (L : List Int) (b : Int) (h : L.length % 8 = 0) : pk (L ++ [b]) = pk L ++ [128 * b] := by
  apply ext_getD
  · simp [pk_length]; omega
  · intro j _
    rw [getD_pk', getD_snoc, getD_pk', byteAt_snoc, pk_length]
    by_cases hj : j = L.length / 8
    · rw [if_pos hj, if_pos (by omega), h]; omega
    · rw [if_neg hj, if_neg (by omega)]
theorem pk_snoc_old (L : List Int) (b : Int) (h : L.length % 8 ≠ 0) : pk (L ++ [b]) = (pk L).set (L.length / 8) ((pk L).getD (L.length / 8) 0 + b * 2 ^ (7 - L.length % 8)) := by
  apply ext_getD
  · simp [pk_length]; omega
  · intro j _
    rw [getD_pk', getD_set _ _ _ _ (by rw [pk_length]; omega), getD_pk', getD_pk', byteAt_snoc]
    by_cases hj : j = L.length / 8
    · rw [if_pos hj, if_pos hj.symm, hj]
    · rw [if_neg hj, if_neg (fun e => hj e.symm)]; omega
theorem byteAt_is8 {L : List Int} (h : is01 L) (j : Nat) : 0 ≤ byteAt L j ∧ byteAt L j < 256 := by
  have h0 := getD01 h (8 * j)
  have h1 := getD01 h (8 * j + 1)
  have h2 := getD01 h (8 * j + 2)
  have h3 := getD01 h (8 * j + 3)
  have h4 := getD01 h (8 * j + 4)
  have h5 := getD01 h (8 * j + 5)
  have h6 := getD01 h (8 * j + 6)
  have h7 := getD01 h (8 * j + 7)
  unfold byteAt
  omega
/-- Where the next bit comes there is none yet. -/
theorem byteAt_rest (L : List Int) : byteAt L (L.length / 8) % 2 ^ (8 - L.length % 8) = 0 := by
  have hz : ∀ i, L.length ≤ i → L.getD i 0 = 0 := fun i hi => by rw [List.getD_eq_getElem?_getD, List.getElem?_eq_none hi]; rfl
  unfold byteAt
  generalize hj : L.length / 8 = j
  rcases pow_lt8 (Nat.mod_lt L.length (show 8 > 0 by omega)) with h | h | h | h | h | h | h | h
  · rw [h, hz _ (by omega : L.length ≤ 8 * j), hz _ (by omega : L.length ≤ 8 * j + 1), hz _ (by omega : L.length ≤ 8 * j + 2), hz _ (by omega : L.length ≤ 8 * j + 3), hz _ (by omega : L.length ≤ 8 * j + 4), hz _ (by omega : L.length ≤ 8 * j + 5), hz _ (by omega : L.length ≤ 8 * j + 6), hz _ (by omega : L.length ≤ 8 * j + 7)]
    omega
  · rw [h, hz _ (by omega : L.length ≤ 8 * j + 1), hz _ (by omega : L.length ≤ 8 * j + 2), hz _ (by omega : L.length ≤ 8 * j + 3), hz _ (by omega : L.length ≤ 8 * j + 4), hz _ (by omega : L.length ≤ 8 * j + 5), hz _ (by omega : L.length ≤ 8 * j + 6), hz _ (by omega : L.length ≤ 8 * j + 7)]
    omega
  · rw [h, hz _ (by omega : L.length ≤ 8 * j + 2), hz _ (by omega : L.length ≤ 8 * j + 3), hz _ (by omega : L.length ≤ 8 * j + 4), hz _ (by omega : L.length ≤ 8 * j + 5), hz _ (by omega : L.length ≤ 8 * j + 6), hz _ (by omega : L.length ≤ 8 * j + 7)]
    omega
  · rw [h, hz _ (by omega : L.length ≤ 8 * j + 3), hz _ (by omega : L.length ≤ 8 * j + 4), hz _ (by omega : L.length ≤ 8 * j + 5), hz _ (by omega : L.length ≤ 8 * j + 6), hz _ (by omega : L.length ≤ 8 * j + 7)]
    omega
  · rw [h, hz _ (by omega : L.length ≤ 8 * j + 4), hz _ (by omega : L.length ≤ 8 * j + 5), hz _ (by omega : L.length ≤ 8 * j + 6), hz _ (by omega : L.length ≤ 8 * j + 7)]
    omega
  · rw [h, hz _ (by omega : L.length ≤ 8 * j + 5), hz _ (by omega : L.length ≤ 8 * j + 6), hz _ (by omega : L.length ≤ 8 * j + 7)]
    omega
  · rw [h, hz _ (by omega : L.length ≤ 8 * j + 6), hz _ (by omega : L.length ≤ 8 * j + 7)]
    omega
  · rw [h, hz _ (by omega : L.length ≤ 8 * j + 7)]
    omega
theorem bitAt_01 (B : List Int) (i : Nat) : bitAt B i = 0 ∨ bitAt B i = 1 := by unfold bitAt; omega
theorem ofB_01 (B : List Int) (n : Nat) : is01 (ofB B n) := is01_map _ _ fun i _ => bitAt_01 B i
theorem ofB_length (B : List Int) (n : Nat) : (ofB B n).length = n := by simp [ofB]
theorem getD_ofB (B : List Int) (n i : Nat) (h : i < n) : (ofB B n).getD i 0 = bitAt B i := by simp [ofB, h]
theorem pk_ofB {B : List Int} (h : is8 B) : pk (ofB B (8 * B.length)) = B := by
  apply List.ext_getElem
  · simp [pk_length, ofB_length]; omega
  · intro j h1 h2
    have hj : j < B.length := h2
    have hb := getD8 h j
    rw [show B[j] = B.getD j 0 from by rw [List.getD_eq_getElem?_getD, List.getElem?_eq_getElem hj]; rfl]
    simp only [pk, List.getElem_map, List.getElem_range, byteAt]
    rw [getD_ofB _ _ _ (by omega), getD_ofB _ _ _ (by omega), getD_ofB _ _ _ (by omega), getD_ofB _ _ _ (by omega), getD_ofB _ _ _ (by omega), getD_ofB _ _ _ (by omega), getD_ofB _ _ _ (by omega), getD_ofB _ _ _ (by omega)]
    unfold bitAt
    rw [show (8 * j) / 8 = j by omega, show (8 * j + 1) / 8 = j by omega, show (8 * j + 2) / 8 = j by omega, show (8 * j + 3) / 8 = j by omega, show (8 * j + 4) / 8 = j by omega, show (8 * j + 5) / 8 = j by omega, show (8 * j + 6) / 8 = j by omega, show (8 * j + 7) / 8 = j by omega,
      show (8 * j) % 8 = 0 by omega, show (8 * j + 1) % 8 = 1 by omega, show (8 * j + 2) % 8 = 2 by omega, show (8 * j + 3) % 8 = 3 by omega, show (8 * j + 4) % 8 = 4 by omega, show (8 * j + 5) % 8 = 5 by omega, show (8 * j + 6) % 8 = 6 by omega, show (8 * j + 7) % 8 = 7 by omega]
    omega
theorem ofB_succ (B : List Int) (n : Nat) : ofB B (n + 1) = ofB B n ++ [bitAt B n] := by simp [ofB, List.range_succ]
/-- The number that bits are. -/
def val (L : List Int) : Int := L.foldl (fun v b => 2 * v + b) 0
theorem val_snoc (L : List Int) (b : Int) : val (L ++ [b]) = 2 * val L + b := by simp [val]
theorem snoc_ind {P : List Int → Prop} (h0 : P []) (h1 : ∀ L b, P L → P (L ++ [b])) (L : List Int) : P L := by
  have : ∀ M : List Int, P M.reverse := by
    intro M
    induction M with
    | nil => exact h0
    | cons b M ih => rw [List.reverse_cons]; exact h1 _ _ ih
  have := this L.reverse
  rwa [List.reverse_reverse] at this
theorem val_bound {L : List Int} (h : is01 L) : 0 ≤ val L ∧ val L < 2 ^ L.length := by
  induction L using snoc_ind with
  | h0 => simp [val]
  | h1 L b ih =>
    have h1 : is01 L := fun x hx => h x (List.mem_append_left _ hx)
    have h2 := h b (by simp)
    have := ih h1
    rw [val_snoc, List.length_append, List.length_singleton, Int.pow_succ]
    omega
/-- The bits of a number, the highest one first. -/
def numb (v : Int) (n : Nat) : List Int := (List.range n).map fun i => v / 2 ^ (n - 1 - i) % 2
theorem numb_length (v : Int) (n : Nat) : (numb v n).length = n := by simp [numb]
theorem numb_succ (v : Int) (n : Nat) : numb v (n + 1) = numb (v / 2) n ++ [v % 2] := by
  unfold numb
  rw [List.range_succ, List.map_append]
  congr 1
  · apply List.map_congr_left
    intro i hi
    have := List.mem_range.1 hi
    rw [show n + 1 - 1 - i = (n - 1 - i) + 1 by omega, Int.pow_succ, Int.mul_comm, ← Int.ediv_ediv_of_nonneg (by omega)]
  · simp
theorem val_numb (v : Int) (n : Nat) : val (numb v n) = v % 2 ^ n := by
  induction n generalizing v with
  | zero => simp [numb, val]
  | succ n ih =>
    rw [numb_succ, val_snoc, ih, Int.pow_succ]
    have hp : (0 : Int) < 2 ^ n := Int.pow_pos (by omega)
    have e1 := Int.emod_add_mul_ediv v (2 ^ n * 2)
    have e2 := Int.emod_add_mul_ediv (v / 2) (2 ^ n)
    have e3 : v / (2 ^ n * 2) = v / 2 / 2 ^ n := by rw [Int.mul_comm, Int.ediv_ediv_of_nonneg (by omega)]
    rw [e3] at e1
    have e4 : 2 ^ n * 2 * (v / 2 / 2 ^ n) = 2 * (2 ^ n * (v / 2 / 2 ^ n)) := by rw [Int.mul_comm (2 ^ n) 2, Int.mul_assoc]
    rw [e4] at e1
    generalize 2 ^ n * (v / 2 / 2 ^ n) = q at *
    generalize v / 2 % 2 ^ n = s at *
    omega
end Go.Proofs.YthlmnnjbpikijaaDoor.Bits
