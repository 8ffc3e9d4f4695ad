/- Bursts: what the sums do with bits that are changed. -/
import Derived.Test.YtmjekkkpbcehoaaCa
namespace Go.Proofs.Ytmjekkkpbcehoaa.P
open Go.RowKit Go.Shelf Go.Proofs.Ytmjekkkpbcehoaa.Bits Go.Proofs.YtmjekkkpbcehoaaW.PrintWords Go.Proofs.YtmjekkkpbcehoaaW.PrintLast Go.Proofs.YtmjekkkpbcehoaaW.PrintMore
set_option linter.unusedVariables false
set_option linter.unusedSimpArgs false

theorem xor_cancel {a b p : Nat} (h : a ^^^ p = b ^^^ p) : a = b := by
  have := congrArg (· ^^^ p) h
  simpa [Nat.xor_assoc, Nat.xor_self, Nat.xor_zero] using this
theorem xor_odd_one (a p : Nat) (hp : p % 2 = 1) : (a ^^^ p) % 2 = 1 - a % 2 := by
  have h := Nat.xor_mod_two_eq_one (a := a) (b := p)
  omega
theorem st16_par (r : Nat) (b : Int) : st16 r b % 2 = if ((r / 32768 : Nat) : Int) = b then 0 else 1 := by
  unfold st16
  split
  · omega
  · rw [xor_odd_one _ _ (by decide)]; omega
theorem st16_inj {r r' : Nat} {b : Int} (h : r < 65536) (h' : r' < 65536) (hb : b = 0 ∨ b = 1) (e : st16 r b = st16 r' b) : r = r' := by
  have hp := st16_par r b
  have hp' := st16_par r' b
  rw [e] at hp
  rw [hp] at hp'
  unfold st16 at e
  split at hp'
  · split at hp'
    · rename_i h1 h2
      rw [if_pos h1, if_pos h2] at e
      omega
    · omega
  · split at hp'
    · omega
    · rename_i h1 h2
      rw [if_neg h1, if_neg h2] at e
      have := xor_cancel e
      omega
theorem fold16_inj : ∀ {L : List Int} {r r' : Nat}, is01 L → r < 65536 → r' < 65536 → L.foldl st16 r = L.foldl st16 r' → r = r'
  | [], r, r', _, _, _, e => e
  | b :: L, r, r', h, hr, hr', e => st16_inj hr hr' (h b List.mem_cons_self) (fold16_inj (fun x hx => h x (List.mem_cons_of_mem _ hx)) (st16_lt r b) (st16_lt r' b) e)
/-- The lowest bits of the states. -/
def low16 : Nat → List Int → List Nat
  | _, [] => []
  | r, b :: L => st16 r b % 2 :: low16 (st16 r b) L
theorem back16 : ∀ {L L' : List Int} {r r' m : Nat}, L.length = L'.length → L.length ≤ m → m ≤ 16 → L.foldl st16 r % 2 ^ m = L'.foldl st16 r' % 2 ^ m → low16 r L = low16 r' L' ∧ r % 2 ^ (m - L.length) = r' % 2 ^ (m - L.length)
  | [], [], r, r', m, _, _, _, e => ⟨rfl, e⟩
  | b :: L, b' :: L', r, r', m, hl, hm, hm6, e => by
    have hl' : L.length = L'.length := by simpa using hl
    have hm' : L.length + 1 ≤ m := by simpa using hm
    obtain ⟨h1, h2⟩ := back16 (r := st16 r b) (r' := st16 r' b') hl' (by omega) hm6 e
    obtain ⟨k, hk⟩ : ∃ k, m - L.length = k + 1 := ⟨m - L.length - 1, by omega⟩
    have hk16 : k + 1 ≤ 16 := by omega
    rw [hk] at h2
    have hd : 2 ^ (k + 1) ∣ 65536 := by rw [show 65536 = 2 ^ 16 from rfl]; exact Nat.pow_dvd_pow 2 hk16
    have hpar : st16 r b % 2 = st16 r' b' % 2 := by
      have this : (st16 r b % 2 ^ (k + 1)) % 2 = (st16 r' b' % 2 ^ (k + 1)) % 2 := by rw [h2]
      rwa [Nat.mod_mod_of_dvd _ ⟨2 ^ k, by rw [Nat.pow_succ, Nat.mul_comm]⟩, Nat.mod_mod_of_dvd _ ⟨2 ^ k, by rw [Nat.pow_succ, Nat.mul_comm]⟩] at this
    refine ⟨by rw [low16, low16, h1, hpar], ?_⟩
    have e2 : m - (b :: L).length = k := by simp; omega
    rw [e2]
    have key : 2 * r % 2 ^ (k + 1) = 2 * r' % 2 ^ (k + 1) := by
      rw [st16_par, st16_par] at hpar
      unfold st16 at h2
      split at hpar
      · split at hpar
        · rename_i q1 q2
          rw [if_pos q1, if_pos q2, Nat.mod_mod_of_dvd _ hd, Nat.mod_mod_of_dvd _ hd] at h2
          exact h2
        · omega
      · split at hpar
        · omega
        · rename_i q1 q2
          rw [if_neg q1, if_neg q2, Nat.xor_mod_two_pow, Nat.xor_mod_two_pow, Nat.mod_mod_of_dvd _ hd, Nat.mod_mod_of_dvd _ hd] at h2
          exact xor_cancel h2
    rw [Nat.pow_succ, Nat.mul_comm (2 ^ k) 2, Nat.mul_mod_mul_left, Nat.mul_mod_mul_left] at key
    omega
theorem low16_inj : ∀ {L L' : List Int} {r : Nat}, is01 L → is01 L' → L.length = L'.length → r < 65536 → low16 r L = low16 r L' → L = L'
  | [], [], _, _, _, _, _, _ => rfl
  | b :: L, b' :: L', r, h, h', hl, hr, e => by
    rw [low16, low16] at e
    injection e with e1 e2
    have hb := h b List.mem_cons_self
    have hb' := h' b' List.mem_cons_self
    have hbb : b = b' := by
      rw [st16_par, st16_par] at e1
      split at e1 <;> split at e1 <;> omega
    subst hbb
    rw [low16_inj (fun x hx => h x (List.mem_cons_of_mem _ hx)) (fun x hx => h' x (List.mem_cons_of_mem _ hx)) (by simpa using hl) (st16_lt r b) e2]
theorem window16 {L L' : List Int} {r : Nat} (h : is01 L) (h' : is01 L') (hl : L.length = L'.length) (h6 : L.length ≤ 16) (hr : r < 65536) (e : L.foldl st16 r = L'.foldl st16 r) : L = L' :=
  low16_inj h h' hl hr (back16 (m := 16) hl h6 (Nat.le_refl _) (by rw [e])).1
/-- Lists that agree outside of a window. -/
theorem split_window {α : Type} {X Y : List α} (d : α) (p m : Nat) (hl : X.length = Y.length) (h : ∀ i, i < X.length → (i < p ∨ p + m ≤ i) → X.getD i d = Y.getD i d) :
    ∃ U V W W', X = U ++ (W ++ V) ∧ Y = U ++ (W' ++ V) ∧ W.length = W'.length ∧ W.length ≤ m := by
  have ext : ∀ (A B : List α), A.length = B.length → (∀ i, i < A.length → A.getD i d = B.getD i d) → A = B := by
    intro A B hAB hh
    apply List.ext_getElem hAB
    intro j h1 h2
    have := hh j h1
    rw [List.getD_eq_getElem?_getD, List.getD_eq_getElem?_getD, List.getElem?_eq_getElem h1, List.getElem?_eq_getElem h2] at this
    exact this
  have e1 : X.take p = Y.take p := by
    apply ext
    · simp [hl]
    · intro i hi
      have hi' : i < p ∧ i < X.length := by rw [List.length_take] at hi; omega
      have := h i hi'.2 (.inl hi'.1)
      rw [List.getD_eq_getElem?_getD, List.getD_eq_getElem?_getD] at this ⊢
      rw [List.getElem?_take, List.getElem?_take, if_pos hi'.1, if_pos hi'.1]
      exact this
  have e2 : X.drop (p + m) = Y.drop (p + m) := by
    apply ext
    · simp [hl]
    · intro i hi
      have hi' : i < X.length - (p + m) := by simpa using hi
      have := h (p + m + i) (by omega) (.inr (by omega))
      rw [List.getD_eq_getElem?_getD, List.getD_eq_getElem?_getD] at this ⊢
      rw [List.getElem?_drop, List.getElem?_drop]
      exact this
  refine ⟨X.take p, X.drop (p + m), (X.drop p).take m, (Y.drop p).take m, ?_, ?_, by simp [hl], by simp; omega⟩
  · rw [← List.drop_drop, List.take_append_drop, List.take_append_drop]
  · rw [e1, e2, ← List.drop_drop, List.take_append_drop, List.take_append_drop]
theorem is01_mid {U W V : List Int} (h : is01 (U ++ (W ++ V))) : is01 U ∧ is01 W ∧ is01 V := ⟨fun x hx => h x (by simp [hx]), fun x hx => h x (by simp [hx]), fun x hx => h x (by simp [hx])⟩
theorem burst16 {X Y : List Int} (p : Nat) (hX : is01 X) (hY : is01 Y) (hl : X.length = Y.length) (h : ∀ i, i < X.length → (i < p ∨ p + 16 ≤ i) → X.getD i 0 = Y.getD i 0) (e : crc16 X = crc16 Y) : X = Y := by
  obtain ⟨U, V, W, W', rfl, rfl, h1, h2⟩ := split_window (0 : Int) p 16 hl h
  have hx := is01_mid hX
  have hy := is01_mid hY
  unfold crc16 at e
  simp only [List.foldl_append] at e
  have hu := fold16_lt U 65535 (by omega)
  have e1 := fold16_inj hx.2.2 (fold16_lt W _ hu) (fold16_lt W' _ hu) e
  rw [window16 hx.2.1 hy.2.1 h1 h2 hu e1]

/- The sum of 32 bits. -/
theorem s32_top (r b : Nat) (h : r < 4294967296) : s32 r b / 2147483648 = if r % 2 = b then 0 else 1 := by
  unfold s32
  split
  · omega
  · have h1 := Nat.shiftRight_xor_distrib (a := r / 2) (b := 3988292384) (i := 31)
    simp only [Nat.shiftRight_eq_div_pow] at h1
    rw [show (2147483648 : Nat) = 2 ^ 31 from rfl, h1, show r / 2 / 2 ^ 31 = 0 by omega]
    decide
theorem s32_inj {r r' b : Nat} (h : r < 4294967296) (h' : r' < 4294967296) (hb : b < 2) (e : s32 r b = s32 r' b) : r = r' := by
  have hp := s32_top r b h
  have hp' := s32_top r' b h'
  rw [e] at hp
  rw [hp] at hp'
  unfold s32 at e
  split at hp'
  · split at hp'
    · rename_i h1 h2
      rw [if_pos h1, if_pos h2] at e
      omega
    · omega
  · split at hp'
    · omega
    · rename_i h1 h2
      rw [if_neg h1, if_neg h2] at e
      have := xor_cancel e
      omega
theorem fold32_lt (L : List Nat) (r : Nat) (h : r < 4294967296) : L.foldl s32 r < 4294967296 := by
  induction L generalizing r with
  | nil => exact h
  | cons b L ih => exact ih _ (s32_lt r b h)
theorem fold32_inj : ∀ {L : List Nat} {r r' : Nat}, (∀ b ∈ L, b < 2) → r < 4294967296 → r' < 4294967296 → L.foldl s32 r = L.foldl s32 r' → r = r'
  | [], r, r', _, _, _, e => e
  | b :: L, r, r', h, hr, hr', e => s32_inj hr hr' (h b List.mem_cons_self) (fold32_inj (fun x hx => h x (List.mem_cons_of_mem _ hx)) (s32_lt r b hr) (s32_lt r' b hr') e)
def top32 : Nat → List Nat → List Nat
  | _, [] => []
  | r, b :: L => s32 r b / 2147483648 :: top32 (s32 r b) L
theorem back32 : ∀ {L L' : List Nat} {r r' m : Nat}, r < 4294967296 → r' < 4294967296 → L.length = L'.length → m + L.length ≤ 32 → L.foldl s32 r / 2 ^ m = L'.foldl s32 r' / 2 ^ m → top32 r L = top32 r' L' ∧ r / 2 ^ (m + L.length) = r' / 2 ^ (m + L.length)
  | [], [], r, r', m, _, _, _, _, e => ⟨rfl, e⟩
  | b :: L, b' :: L', r, r', m, hr, hr', hl, hm, e => by
    have hl' : L.length = L'.length := by simpa using hl
    have hm' : m + L.length + 1 ≤ 32 := by simpa [Nat.add_assoc] using hm
    obtain ⟨h1, h2⟩ := back32 (r := s32 r b) (r' := s32 r' b') (s32_lt r b hr) (s32_lt r' b' hr') hl' (by omega) e
    obtain ⟨k, hk⟩ : ∃ k, m + L.length = k := ⟨_, rfl⟩
    rw [hk] at h2
    have hk32 : k ≤ 31 := by omega
    have hpar : s32 r b / 2147483648 = s32 r' b' / 2147483648 := by
      have := congrArg (· / 2 ^ (31 - k)) h2
      simp only [Nat.div_div_eq_div_mul, ← Nat.pow_add] at this
      rwa [show k + (31 - k) = 31 by omega] at this
    refine ⟨by rw [top32, top32, h1, hpar], ?_⟩
    have e2 : m + (b :: L).length = k + 1 := by simp; omega
    rw [e2]
    have key : r / 2 / 2 ^ k = r' / 2 / 2 ^ k := by
      rw [s32_top _ _ hr, s32_top _ _ hr'] at hpar
      unfold s32 at h2
      have xd : ∀ a c : Nat, (a ^^^ c) / 2 ^ k = (a / 2 ^ k) ^^^ (c / 2 ^ k) := fun a c => by
        have h1 := Nat.shiftRight_xor_distrib (a := a) (b := c) (i := k)
        simpa only [Nat.shiftRight_eq_div_pow] using h1
      split at hpar
      · split at hpar
        · rename_i q1 q2
          rw [if_pos q1, if_pos q2] at h2
          exact h2
        · omega
      · split at hpar
        · omega
        · rename_i q1 q2
          rw [if_neg q1, if_neg q2, xd, xd] at h2
          exact xor_cancel h2
    rw [Nat.pow_succ, Nat.mul_comm (2 ^ k) 2, ← Nat.div_div_eq_div_mul, ← Nat.div_div_eq_div_mul]
    exact key
theorem top32_inj : ∀ {L L' : List Nat} {r : Nat}, (∀ b ∈ L, b < 2) → (∀ b ∈ L', b < 2) → L.length = L'.length → r < 4294967296 → top32 r L = top32 r L' → L = L'
  | [], [], _, _, _, _, _, _ => rfl
  | b :: L, b' :: L', r, h, h', hl, hr, e => by
    rw [top32, top32] at e
    injection e with e1 e2
    have hb := h b List.mem_cons_self
    have hb' := h' b' List.mem_cons_self
    have hbb : b = b' := by
      rw [s32_top _ _ hr, s32_top _ _ hr] at e1
      split at e1 <;> split at e1 <;> omega
    subst hbb
    rw [top32_inj (fun x hx => h x (List.mem_cons_of_mem _ hx)) (fun x hx => h' x (List.mem_cons_of_mem _ hx)) (by simpa using hl) (s32_lt r b hr) e2]
theorem burst32 {X Y : List Nat} (r p : Nat) (hr : r < 4294967296) (hX : ∀ b ∈ X, b < 2) (hY : ∀ b ∈ Y, b < 2) (hl : X.length = Y.length) (h : ∀ i, i < X.length → (i < p ∨ p + 32 ≤ i) → X.getD i 0 = Y.getD i 0) (e : X.foldl s32 r = Y.foldl s32 r) : X = Y := by
  obtain ⟨U, V, W, W', rfl, rfl, h1, h2⟩ := split_window (0 : Nat) p 32 hl h
  simp only [List.foldl_append] at e
  have hu := fold32_lt U r hr
  have e1 := fold32_inj (L := V) (fun x hx => hX x (by simp [hx])) (fold32_lt W _ hu) (fold32_lt W' _ hu) e
  have e2 : W = W' := top32_inj (fun x hx => hX x (by simp [hx])) (fun x hx => hY x (by simp [hx])) h1 hu (back32 (m := 0) hu hu h1 (by omega) (by rw [e1])).1
  rw [e2]

/- Bits from the lowest one of each byte. -/
def lowAt (B : List Int) (i : Nat) : Nat := (B.getD (i / 8) 0).toNat / 2 ^ (i % 8) % 2
def lowB (B : List Int) (n : Nat) : List Nat := (List.range n).map (lowAt B)
theorem lowB_succ (B : List Int) (n : Nat) : lowB B (n + 1) = lowB B n ++ [lowAt B n] := by simp [lowB, List.range_succ]
theorem lowB_byte (B : List Int) (j r : Nat) : ∀ k, k ≤ 8 → ((List.range k).map fun i => lowAt B (8 * j + i)).foldl s32 r = sr32 (B.getD j 0).toNat k r
  | 0, _ => rfl
  | k + 1, hk => by
    rw [List.range_succ, List.map_append, List.foldl_append, lowB_byte B j r k (by omega)]
    show s32 _ (lowAt B (8 * j + k)) = s32 _ _
    unfold lowAt
    rw [show (8 * j + k) / 8 = j by omega, show (8 * j + k) % 8 = k by omega]
theorem lowB_split (B : List Int) (j : Nat) : ∀ k, lowB B (8 * j + k) = lowB B (8 * j) ++ (List.range k).map fun i => lowAt B (8 * j + i)
  | 0 => by simp
  | k + 1 => by rw [← Nat.add_assoc, lowB_succ, lowB_split B j k, List.range_succ, List.map_append, List.append_assoc]; rfl
theorem fold_lowB {B : List Int} (h : is8 B) (r : Nat) : ∀ n, n ≤ B.length → (lowB B (8 * n)).foldl s32 r = (B.take n).foldl byte32 r
  | 0, _ => by simp [lowB]
  | n + 1, hn => by
    have hT : B.take (n + 1) = B.take n ++ [B.getD n 0] := by
      rw [List.take_succ_eq_append_getElem (by omega), List.getD_eq_getElem?_getD, List.getElem?_eq_getElem (by omega)]; rfl
    have hx := getD8 h n
    rw [show 8 * (n + 1) = 8 * n + 8 by omega, lowB_split, List.foldl_append, fold_lowB h r n (by omega), lowB_byte _ _ _ _ (Nat.le_refl _), hT, List.foldl_append]
    show _ = byte32 _ _
    unfold byte32
    rw [it32_eight _ _ (by omega)]
theorem lowB_lt (B : List Int) (n : Nat) : ∀ b ∈ lowB B n, b < 2 := fun b hb => by
  obtain ⟨i, _, rfl⟩ := List.mem_map.1 hb
  unfold lowAt; omega
theorem byte_of_low (x y : Nat) (hx : x < 256) (hy : y < 256) (h : ∀ k, k < 8 → x / 2 ^ k % 2 = y / 2 ^ k % 2) : x = y := by
  have h0 := h 0 (by omega)
  have h1 := h 1 (by omega)
  have h2 := h 2 (by omega)
  have h3 := h 3 (by omega)
  have h4 := h 4 (by omega)
  have h5 := h 5 (by omega)
  have h6 := h 6 (by omega)
  have h7 := h 7 (by omega)
  omega
theorem lowB_inj {B C : List Int} (hB : is8 B) (hC : is8 C) (hl : B.length = C.length) (h : lowB B (8 * B.length) = lowB C (8 * B.length)) : B = C := by
  apply ext_getD hl
  intro j hj
  have hb := getD8 hB j
  have hc := getD8 hC j
  have := byte_of_low (B.getD j 0).toNat (C.getD j 0).toNat (by omega) (by omega) (fun k hk => by
    have e := congrArg (fun L => L.getD (8 * j + k) 0) h
    have hlt : 8 * j + k < 8 * B.length := by omega
    have g : ∀ D : List Int, (lowB D (8 * B.length)).getD (8 * j + k) 0 = lowAt D (8 * j + k) := fun D => by simp [lowB, hlt]
    simp only [g] at e
    unfold lowAt at e
    rwa [show (8 * j + k) / 8 = j by omega, show (8 * j + k) % 8 = k by omega] at e)
  omega

/- What is flipped. -/
theorem flip_bit : ∀ x : Fin 256, ∀ a b : Fin 8, a ≠ b → (x.val ^^^ 2 ^ a.val) / 2 ^ b.val % 2 = x.val / 2 ^ b.val % 2 := by decide +kernel
theorem fl_high (a0 mask : Nat) {B : List Int} (h8 : is8 B) (hm : mask < 65536) (i : Nat) (hi : i < a0 ∨ a0 + 16 ≤ i) : ∀ k, bitAt (fl false a0 mask B k) i = bitAt B i
  | 0 => rfl
  | k + 1 => by
    rw [fl]
    split
    · exact fl_high a0 mask h8 hm i hi k
    · rename_i hc
      have hk : k < 16 := by
        apply Nat.lt_of_not_le
        intro h
        have := Nat.pow_le_pow_right (show 0 < 2 by omega) h
        have : mask / 2 ^ k = 0 := Nat.div_eq_of_lt (by omega)
        rw [this] at hc
        simp at hc
      rw [← fl_high a0 mask h8 hm i hi k]
      have h8' := fl_8 false a0 mask h8 k
      have hl := fl_length false a0 mask B k
      generalize fl false a0 mask B k = Y at *
      unfold bitAt
      rw [getD_set _ _ _ _ (by omega)]
      split
      · rename_i hj
        have hx := getD8 h8' (i / 8)
        have hne : i % 8 ≠ (a0 + k) % 8 := by omega
        rw [hj]
        generalize Y.getD (i / 8) 0 = x at *
        obtain ⟨x, rfl⟩ : ∃ y : Nat, x = y := ⟨x.toNat, by omega⟩
        have := flip_bit ⟨x, by omega⟩ ⟨7 - (a0 + k) % 8, by omega⟩ ⟨7 - i % 8, by omega⟩ (by intro e; injection e with e; omega)
        simp only at this
        unfold xorB fbit
        rw [if_neg (by decide), Int.toNat_natCast]
        have g : ∀ z : Nat, (z : Int) / 2 ^ (7 - i % 8) % 2 = ((z / 2 ^ (7 - i % 8) % 2 : Nat) : Int) := fun z => by norm_cast
        rw [g, g, this]
      · rfl
theorem fl_low (a0 mask : Nat) {B : List Int} (h8 : is8 B) (i : Nat) (hi : i < a0 ∨ a0 + 32 ≤ i) : ∀ k, k ≤ 32 → lowAt (fl true a0 mask B k) i = lowAt B i
  | 0, _ => rfl
  | k + 1, hk => by
    rw [fl]
    split
    · exact fl_low a0 mask h8 i hi k (by omega)
    · rename_i hc
      rw [← fl_low a0 mask h8 i hi k (by omega)]
      have h8' := fl_8 true a0 mask h8 k
      have hl := fl_length true a0 mask B k
      generalize fl true a0 mask B k = Y at *
      unfold lowAt
      rw [getD_set _ _ _ _ (by omega)]
      split
      · rename_i hj
        have hx := getD8 h8' (i / 8)
        have hne : i % 8 ≠ (a0 + k) % 8 := by omega
        rw [hj]
        generalize Y.getD (i / 8) 0 = x at *
        obtain ⟨x, rfl⟩ : ∃ y : Nat, x = y := ⟨x.toNat, by omega⟩
        have := flip_bit ⟨x, by omega⟩ ⟨(a0 + k) % 8, by omega⟩ ⟨i % 8, by omega⟩ (by intro e; injection e with e; omega)
        simp only at this
        unfold xorB fbit
        rw [if_pos rfl, Int.toNat_natCast, Int.toNat_natCast, this]
      · rfl
theorem law16 (a0 mask : Nat) {B : List Int} (h8 : is8 B) (hm : mask < 65536) (h : crc16 (ofB (fl false a0 mask B 32) (8 * B.length)) = crc16 (ofB B (8 * B.length))) : fl false a0 mask B 32 = B := by
  have h8' := fl_8 false a0 mask h8 32
  have hl := fl_length false a0 mask B 32
  have e := burst16 a0 (ofB_01 _ _) (ofB_01 _ _) (by rw [ofB_length, ofB_length]) (fun i hi hw => by
    rw [ofB_length] at hi
    rw [getD_ofB _ _ _ hi, getD_ofB _ _ _ hi]
    exact fl_high a0 mask h8 hm i hw 32) h
  have h1 := pk_ofB h8'
  rw [hl, e, pk_ofB h8] at h1
  exact h1.symm
theorem law32 (a0 mask : Nat) {B : List Int} (h8 : is8 B) (h : crc32 (fl true a0 mask B 32) = crc32 B) : fl true a0 mask B 32 = B := by
  have h8' := fl_8 true a0 mask h8 32
  have hl := fl_length true a0 mask B 32
  have e0 := xor_cancel h
  have f1 := fold_lowB h8' 4294967295 _ (Nat.le_refl _)
  have f2 := fold_lowB h8 4294967295 _ (Nat.le_refl _)
  rw [List.take_length] at f1 f2
  rw [← f1, ← f2, hl] at e0
  have e := burst32 4294967295 a0 (by omega) (lowB_lt _ _) (lowB_lt _ _) (by simp [lowB]) (fun i hi hw => by
    have hi' : i < 8 * B.length := by simpa [lowB] using hi
    have g : ∀ D : List Int, (lowB D (8 * B.length)).getD i 0 = lowAt D i := fun D => by simp [lowB, hi']
    rw [g, g]
    exact fl_low a0 mask h8 i hw 32 (Nat.le_refl _)) e0
  exact lowB_inj h8' h8 hl (by rw [hl]; exact e)

/- Bytes and their own sum. -/
theorem numb16 (s : Nat) (h : s < 65536) : numb ((s / 256 : Nat) : Int) 8 ++ numb ((s % 256 : Nat) : Int) 8 = numb (s : Int) 16 := by
  simp only [numb, List.range_succ, List.range_zero, List.nil_append, List.map_append, List.map_cons, List.map_nil, List.append_assoc, List.cons_append, List.singleton_append]
  simp only [Nat.reduceSub, Int.reducePow, List.cons.injEq, and_true]
  omega
theorem own16 (s : Nat) (h : s < 65536) : (numb (s : Int) 16).foldl st16 s = 0 := by
  have key : ∀ k, k ≤ 16 → (numb ((s / 2 ^ (16 - k) : Nat) : Int) k).foldl st16 s = s * 2 ^ k % 65536 := by
    intro k
    induction k with
    | zero => intro _; simp [numb]; omega
    | succ k ih =>
      intro hk
      have e : ((s / 2 ^ (16 - (k + 1)) : Nat) : Int) / 2 = ((s / 2 ^ (16 - k) : Nat) : Int) := by
        rw [show 16 - k = (16 - (k + 1)) + 1 by omega, Nat.pow_succ, ← Nat.div_div_eq_div_mul]; omega
      rw [numb_succ, e, List.foldl_append, ih (by omega)]
      show st16 _ _ = _
      unfold st16
      have hk' : k < 16 := by omega
      have g : s * 2 ^ k % 65536 / 32768 = s / 2 ^ (16 - (k + 1)) % 2 := by
        have : k = 0 ∨ k = 1 ∨ k = 2 ∨ k = 3 ∨ k = 4 ∨ k = 5 ∨ k = 6 ∨ k = 7 ∨ k = 8 ∨ k = 9 ∨ k = 10 ∨ k = 11 ∨ k = 12 ∨ k = 13 ∨ k = 14 ∨ k = 15 := by omega
        rcases this with q | q | q | q | q | q | q | q | q | q | q | q | q | q | q | q <;> subst q <;> simp only [Nat.reducePow, Nat.reduceSub, Nat.reduceAdd] <;> omega
      rw [if_pos (by rw [g]; omega), Nat.pow_succ, ← Nat.mul_assoc]
      omega
  have := key 16 (Nat.le_refl _)
  rw [show 16 - 16 = 0 from rfl, Nat.pow_zero, Nat.div_one] at this
  rw [this]
  omega
theorem bitAt_append (B C : List Int) (i : Nat) (h : i < 8 * B.length) : bitAt (B ++ C) i = bitAt B i := by
  unfold bitAt
  rw [List.getD_eq_getElem?_getD, List.getElem?_append_left (by omega), ← List.getD_eq_getElem?_getD]
theorem ofB_append (B C : List Int) (n : Nat) (h : n ≤ 8 * B.length) : ofB (B ++ C) n = ofB B n := by
  unfold ofB
  apply List.map_congr_left
  intro i hi
  have := List.mem_range.1 hi
  exact bitAt_append B C i (by omega)
theorem lawOwn (B : List Int) : crc16 (ofB (B ++ [((crc16 (ofB B (8 * B.length)) / 256 : Nat) : Int), ((crc16 (ofB B (8 * B.length)) % 256 : Nat) : Int)]) (8 * (B.length + 2))) = 0 := by
  have hs := fold16_lt (ofB B (8 * B.length)) 65535 (by omega)
  generalize hS : crc16 (ofB B (8 * B.length)) = s
  have hs' : s < 65536 := by rw [← hS]; exact hs
  rw [show B.length + 2 = (B.length + 1) + 1 by omega, ofB_byte, ofB_byte, ofB_append _ _ _ (Nat.le_refl _)]
  have g1 : (B ++ [((s / 256 : Nat) : Int), ((s % 256 : Nat) : Int)]).getD B.length 0 = ((s / 256 : Nat) : Int) := by simp
  have g2 : (B ++ [((s / 256 : Nat) : Int), ((s % 256 : Nat) : Int)]).getD (B.length + 1) 0 = ((s % 256 : Nat) : Int) := by simp
  rw [g1, g2, List.append_assoc, numb16 s hs']
  unfold crc16
  rw [List.foldl_append]
  unfold crc16 at hS
  rw [hS, own16 s hs']
end Go.Proofs.Ytmjekkkpbcehoaa.P
