/- The sum of 16 bits: bursts, bytes and their own sum (plain law). -/
import Derived.Test.YtnaklnehichhpaaDoorBp
namespace Go.Proofs.YtnaklnehichhpaaDoor.P
open Go.RowKit Go.Shelf Go.Proofs.YtnaklnehichhpaaDoor.Bits
set_option linter.unusedVariables false
set_option linter.unusedSimpArgs false

theorem xor_cancel {a b p : Nat} (h : a ^^^ p = b ^^^ p) : a = b := by
  have := congrArg (· ^^^ p) h
  simpa [Nat.xor_assoc, Nat.xor_self, Nat.xor_zero] using this
theorem xor_odd_one (a p : Nat) (hp : p % 2 = 1) : (a ^^^ p) % 2 = 1 - a % 2 := by
  have h := Nat.xor_mod_two_eq_one (a := a) (b := p)
  omega
theorem st16_par (r : Nat) (b : Int) : st16 r b % 2 = if ((r / 32768 : Nat) : Int) = b then 0 else 1 := by
  unfold st16
  split
  · omega
  · rw [xor_odd_one _ _ (by decide)]; omega
theorem st16_inj {r r' : Nat} {b : Int} (h : r < 65536) (h' : r' < 65536) (hb : b = 0 ∨ b = 1) (e : st16 r b = st16 r' b) : r = r' := by
  have hp := st16_par r b
  have hp' := st16_par r' b
  rw [e] at hp
  rw [hp] at hp'
  unfold st16 at e
  split at hp'
  · split at hp'
    · rename_i h1 h2
      rw [if_pos h1, if_pos h2] at e
      omega
    · omega
  · split at hp'
    · omega
    · rename_i h1 h2
      rw [if_neg h1, if_neg h2] at e
      have := xor_cancel e
      omega
theorem fold16_inj : ∀ {L : List Int} {r r' : Nat}, is01 L → r < 65536 → r' < 65536 → L.foldl st16 r = L.foldl st16 r' → r = r'
  | [], r, r', _, _, _, e => e
  | b :: L, r, r', h, hr, hr', e => st16_inj hr hr' (h b List.mem_cons_self) (fold16_inj (fun x hx => h x (List.mem_cons_of_mem _ hx)) (st16_lt r b) (st16_lt r' b) e)
/-- The lowest bits of the states. -/
def low16 : Nat → List Int → List Nat
  | _, [] => []
  | r, b :: L => st16 r b % 2 :: low16 (st16 r b) L
theorem back16 : ∀ {L L' : List Int} {r r' m : Nat}, L.length = L'.length → L.length ≤ m → m ≤ 16 → L.foldl st16 r % 2 ^ m = L'.foldl st16 r' % 2 ^ m → low16 r L = low16 r' L' ∧ r % 2 ^ (m - L.length) = r' % 2 ^ (m - L.length)
  | [], [], r, r', m, _, _, _, e => ⟨rfl, e⟩
  | b :: L, b' :: L', r, r', m, hl, hm, hm6, e => by
    have hl' : L.length = L'.length := by simpa using hl
    have hm' : L.length + 1 ≤ m := by simpa using hm
    obtain ⟨h1, h2⟩ := back16 (r := st16 r b) (r' := st16 r' b') hl' (by omega) hm6 e
    obtain ⟨k, hk⟩ : ∃ k, m - L.length = k + 1 := ⟨m - L.length - 1, by omega⟩
    have hk16 : k + 1 ≤ 16 := by omega
    rw [hk] at h2
    have hd : 2 ^ (k + 1) ∣ 65536 := by rw [show 65536 = 2 ^ 16 from rfl]; exact Nat.pow_dvd_pow 2 hk16
    have hpar : st16 r b % 2 = st16 r' b' % 2 := by
      have this : (st16 r b % 2 ^ (k + 1)) % 2 = (st16 r' b' % 2 ^ (k + 1)) % 2 := by rw [h2]
      rwa [Nat.mod_mod_of_dvd _ ⟨2 ^ k, by rw [Nat.pow_succ, Nat.mul_comm]⟩, Nat.mod_mod_of_dvd _ ⟨2 ^ k, by rw [Nat.pow_succ, Nat.mul_comm]⟩] at this
    refine ⟨by rw [low16, low16, h1, hpar], ?_⟩
    have e2 : m - (b :: L).length = k := by simp; omega
    rw [e2]
    have key : 2 * r % 2 ^ (k + 1) = 2 * r' % 2 ^ (k + 1) := by
      rw [st16_par, st16_par] at hpar
      unfold st16 at h2
      split at hpar
      · split at hpar
        · rename_i q1 q2
          rw [if_pos q1, if_pos q2, Nat.mod_mod_of_dvd _ hd, Nat.mod_mod_of_dvd _ hd] at h2
          exact h2
        · omega
      · split at hpar
        · omega
        · rename_i q1 q2
          rw [if_neg q1, if_neg q2, Nat.xor_mod_two_pow, Nat.xor_mod_two_pow, Nat.mod_mod_of_dvd _ hd, Nat.mod_mod_of_dvd _ hd] at h2
          exact xor_cancel h2
    rw [Nat.pow_succ, Nat.mul_comm (2 ^ k) 2, Nat.mul_mod_mul_left, Nat.mul_mod_mul_left] at key
    omega
theorem low16_inj : ∀ {L L' : List Int} {r : Nat}, is01 L → is01 L' → L.length = L'.length → r < 65536 → low16 r L = low16 r L' → L = L'
  | [], [], _, _, _, _, _, _ => rfl
  | b :: L, b' :: L', r, h, h', hl, hr, e => by
    rw [low16, low16] at e
    injection e with e1 e2
    have hb := h b List.mem_cons_self
    have hb' := h' b' List.mem_cons_self
    have hbb : b = b' := by
      rw [st16_par, st16_par] at e1
      split at e1 <;> split at e1 <;> omega
    subst hbb
    rw [low16_inj (fun x hx => h x (List.mem_cons_of_mem _ hx)) (fun x hx => h' x (List.mem_cons_of_mem _ hx)) (by simpa using hl) (st16_lt r b) e2]
theorem window16 {L L' : List Int} {r : Nat} (h : is01 L) (h' : is01 L') (hl : L.length = L'.length) (h6 : L.length ≤ 16) (hr : r < 65536) (e : L.foldl st16 r = L'.foldl st16 r) : L = L' :=
  low16_inj h h' hl hr (back16 (m := 16) hl h6 (Nat.le_refl _) (by rw [e])).1
/-- Lists that agree outside of a window. -/
theorem split_window {α : Type} {X Y : List α} (d : α) (p m : Nat) (hl : X.length = Y.length) (h : ∀ i, i < X.length → (i < p ∨ p + m ≤ i) → X.getD i d = Y.getD i d) :
    ∃ U V W W', X = U ++ (W ++ V) ∧ Y = U ++ (W' ++ V) ∧ W.length = W'.length ∧ W.length ≤ m := by
  have ext : ∀ (A B : List α), A.length = B.length → (∀ i, i < A.length → A.getD i d = B.getD i d) → A = B := by
    intro A B hAB hh
    apply List.ext_getElem hAB
    intro j h1 h2
    have := hh j h1
    rw [List.getD_eq_getElem?_getD, List.getD_eq_getElem?_getD, List.getElem?_eq_getElem h1, List.getElem?_eq_getElem h2] at this
    exact this
  have e1 : X.take p = Y.take p := by
    apply ext
    · simp [hl]
    · intro i hi
      have hi' : i < p ∧ i < X.length := by rw [List.length_take] at hi; omega
      have := h i hi'.2 (.inl hi'.1)
      rw [List.getD_eq_getElem?_getD, List.getD_eq_getElem?_getD] at this ⊢
      rw [List.getElem?_take, List.getElem?_take, if_pos hi'.1, if_pos hi'.1]
      exact this
  have e2 : X.drop (p + m) = Y.drop (p + m) := by
    apply ext
    · simp [hl]
    · intro i hi
      have hi' : i < X.length - (p + m) := by simpa using hi
      have := h (p + m + i) (by omega) (.inr (by omega))
      rw [List.getD_eq_getElem?_getD, List.getD_eq_getElem?_getD] at this ⊢
      rw [List.getElem?_drop, List.getElem?_drop]
      exact this
  refine ⟨X.take p, X.drop (p + m), (X.drop p).take m, (Y.drop p).take m, ?_, ?_, by simp [hl], by simp; omega⟩
  · rw [← List.drop_drop, List.take_append_drop, List.take_append_drop]
  · rw [e1, e2, ← List.drop_drop, List.take_append_drop, List.take_append_drop]
theorem is01_mid {U W V : List Int} (h : is01 (U ++ (W ++ V))) : is01 U ∧ is01 W ∧ is01 V := ⟨fun x hx => h x (by simp [hx]), fun x hx => h x (by simp [hx]), fun x hx => h x (by simp [hx])⟩
theorem burst16 {X Y : List Int} (p : Nat) (hX : is01 X) (hY : is01 Y) (hl : X.length = Y.length) (h : ∀ i, i < X.length → (i < p ∨ p + 16 ≤ i) → X.getD i 0 = Y.getD i 0) (e : crc16 X = crc16 Y) : X = Y := by
  obtain ⟨U, V, W, W', rfl, rfl, h1, h2⟩ := split_window (0 : Int) p 16 hl h
  have hx := is01_mid hX
  have hy := is01_mid hY
  unfold crc16 at e
  simp only [List.foldl_append] at e
  have hu := fold16_lt U 65535 (by omega)
  have e1 := fold16_inj hx.2.2 (fold16_lt W _ hu) (fold16_lt W' _ hu) e
  rw [window16 hx.2.1 hy.2.1 h1 h2 hu e1]

/- The sum of 32 bits. -/
theorem numb16 (s : Nat) (h : s < 65536) : numb ((s / 256 : Nat) : Int) 8 ++ numb ((s % 256 : Nat) : Int) 8 = numb (s : Int) 16 := by
  simp only [numb, List.range_succ, List.range_zero, List.nil_append, List.map_append, List.map_cons, List.map_nil, List.append_assoc, List.cons_append, List.singleton_append]
  simp only [Nat.reduceSub, Int.reducePow, List.cons.injEq, and_true]
  omega
theorem own16 (s : Nat) (h : s < 65536) : (numb (s : Int) 16).foldl st16 s = 0 := by
  have key : ∀ k, k ≤ 16 → (numb ((s / 2 ^ (16 - k) : Nat) : Int) k).foldl st16 s = s * 2 ^ k % 65536 := by
    intro k
    induction k with
    | zero => intro _; simp [numb]; omega
    | succ k ih =>
      intro hk
      have e : ((s / 2 ^ (16 - (k + 1)) : Nat) : Int) / 2 = ((s / 2 ^ (16 - k) : Nat) : Int) := by
        rw [show 16 - k = (16 - (k + 1)) + 1 by omega, Nat.pow_succ, ← Nat.div_div_eq_div_mul]; omega
      rw [numb_succ, e, List.foldl_append, ih (by omega)]
      show st16 _ _ = _
      unfold st16
      have hk' : k < 16 := by omega
      have g : s * 2 ^ k % 65536 / 32768 = s / 2 ^ (16 - (k + 1)) % 2 := by
        have : k = 0 ∨ k = 1 ∨ k = 2 ∨ k = 3 ∨ k = 4 ∨ k = 5 ∨ k = 6 ∨ k = 7 ∨ k = 8 ∨ k = 9 ∨ k = 10 ∨ k = 11 ∨ k = 12 ∨ k = 13 ∨ k = 14 ∨ k = 15 := by omega
        rcases this with q | q | q | q | q | q | q | q | q | q | q | q | q | q | q | q <;> subst q <;> simp only [Nat.reducePow, Nat.reduceSub, Nat.reduceAdd] <;> omega
      rw [if_pos (by rw [g]; omega), Nat.pow_succ, ← Nat.mul_assoc]
      omega
  have := key 16 (Nat.le_refl _)
  rw [show 16 - 16 = 0 from rfl, Nat.pow_zero, Nat.div_one] at this
  rw [this]
  omega
theorem bitAt_append (B C : List Int) (i : Nat) (h : i < 8 * B.length) : bitAt (B ++ C) i = bitAt B i := by
  unfold bitAt
  rw [List.getD_eq_getElem?_getD, List.getElem?_append_left (by omega), ← List.getD_eq_getElem?_getD]
theorem ofB_append (B C : List Int) (n : Nat) (h : n ≤ 8 * B.length) : ofB (B ++ C) n = ofB B n := by
  unfold ofB
  apply List.map_congr_left
  intro i hi
  have := List.mem_range.1 hi
  exact bitAt_append B C i (by omega)
theorem lawOwn (B : List Int) : crc16 (ofB (B ++ [((crc16 (ofB B (8 * B.length)) / 256 : Nat) : Int), ((crc16 (ofB B (8 * B.length)) % 256 : Nat) : Int)]) (8 * (B.length + 2))) = 0 := by
  have hs := fold16_lt (ofB B (8 * B.length)) 65535 (by omega)
  generalize hS : crc16 (ofB B (8 * B.length)) = s
  have hs' : s < 65536 := by rw [← hS]; exact hs
  rw [show B.length + 2 = (B.length + 1) + 1 by omega, ofB_byte, ofB_byte, ofB_append _ _ _ (Nat.le_refl _)]
  have g1 : (B ++ [((s / 256 : Nat) : Int), ((s % 256 : Nat) : Int)]).getD B.length 0 = ((s / 256 : Nat) : Int) := by simp
  have g2 : (B ++ [((s / 256 : Nat) : Int), ((s % 256 : Nat) : Int)]).getD (B.length + 1) 0 = ((s % 256 : Nat) : Int) := by simp
  rw [g1, g2, List.append_assoc, numb16 s hs']
  unfold crc16
  rw [List.foldl_append]
  unfold crc16 at hS
  rw [hS, own16 s hs']
end Go.Proofs.YtnaklnehichhpaaDoor.P
