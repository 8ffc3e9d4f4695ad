/- The sum of 16 bits: bursts, bytes and their own sum (plain law). Frames (plain law): what Write writes and Read reads. -/
import Derived.Test.YtnaklnehichhpaaDoorBp
namespace Go.Proofs.YtnaklnehichhpaaDoor.P
section
open Go.RowKit Go.Shelf Go.Proofs.YtnaklnehichhpaaDoor.Bits
set_option linter.unusedVariables false
set_option linter.unusedSimpArgs false

theorem xor_cancel {a b p : Nat} (h : a ^^^ p = b ^^^ p) : a = b := by
  have := congrArg (· ^^^ p) h
  simpa [Nat.xor_assoc, Nat.xor_self, Nat.xor_zero] using this
theorem xor_odd_one (a p : Nat) (hp : p % 2 = 1) : (a ^^^ p) % 2 = 1 - a % 2 := by
  have h := Nat.xor_mod_two_eq_one (a := a) (b := p)
  omega
theorem st16_par (r : Nat) (b : Int) : st16 r b % 2 = if ((r / 32768 : Nat) : Int) = b then 0 else 1 := by
  unfold st16
  split
  · omega
  · rw [xor_odd_one _ _ (by decide)]; omega
theorem st16_inj {r r' : Nat} {b : Int} (h : r < 65536) (h' : r' < 65536) (hb : b = 0 ∨ b = 1) (e : st16 r b = st16 r' b) : r = r' := by
  have hp := st16_par r b
  have hp' := st16_par r' b
  rw [e] at hp
  rw [hp] at hp'
  unfold st16 at e
  split at hp'
  · split at hp'
    · rename_i h1 h2
      rw [if_pos h1, if_pos h2] at e
      omega
    · omega
  · split at hp'
    · omega
    · rename_i h1 h2
      rw [if_neg h1, if_neg h2] at e
      have := xor_cancel e
      omega
theorem fold16_inj : ∀ {L : List Int} {r r' : Nat}, is01 L → r < 65536 → r' < 65536 → L.foldl st16 r = L.foldl st16 r' → r = r'
  | [], r, r', _, _, _, e => e
  | b :: L, r, r', h, hr, hr', e => st16_inj hr hr' (h b List.mem_cons_self) (fold16_inj (fun x hx => h x (List.mem_cons_of_mem _ hx)) (st16_lt r b) (st16_lt r' b) e)
/-- The lowest bits of the states. -/
def low16 : Nat → List Int → List Nat
  | _, [] => []
  | r, b :: L => st16 r b % 2 :: low16 (st16 r b) L
theorem back16 : ∀ {L L' : List Int} {r r' m : Nat}, L.length = L'.length → L.length ≤ m → m ≤ 16 → L.foldl st16 r % 2 ^ m = L'.foldl st16 r' % 2 ^ m → low16 r L = low16 r' L' ∧ r % 2 ^ (m - L.length) = r' % 2 ^ (m - L.length)
  | [], [], r, r', m, _, _, _, e => ⟨rfl, e⟩
  | b :: L, b' :: L', r, r', m, hl, hm, hm6, e => by
    have hl' : L.length = L'.length := by simpa using hl
    have hm' : L.length + 1 ≤ m := by simpa using hm
    obtain ⟨h1, h2⟩ := back16 (r := st16 r b) (r' := st16 r' b') hl' (by omega) hm6 e
    obtain ⟨k, hk⟩ : ∃ k, m - L.length = k + 1 := ⟨m - L.length - 1, by omega⟩
    have hk16 : k + 1 ≤ 16 := by omega
    rw [hk] at h2
    have hd : 2 ^ (k + 1) ∣ 65536 := by rw [show 65536 = 2 ^ 16 from rfl]; exact Nat.pow_dvd_pow 2 hk16
    have hpar : st16 r b % 2 = st16 r' b' % 2 := by
      have this : (st16 r b % 2 ^ (k + 1)) % 2 = (st16 r' b' % 2 ^ (k + 1)) % 2 := by rw [h2]
      rwa [Nat.mod_mod_of_dvd _ ⟨2 ^ k, by rw [Nat.pow_succ, Nat.mul_comm]⟩, Nat.mod_mod_of_dvd _ ⟨2 ^ k, by rw [Nat.pow_succ, Nat.mul_comm]⟩] at this
    refine ⟨by rw [low16, low16, h1, hpar], ?_⟩
    have e2 : m - (b :: L).length = k := by simp; omega
    rw [e2]
    have key : 2 * r % 2 ^ (k + 1) = 2 * r' % 2 ^ (k + 1) := by
      rw [st16_par, st16_par] at hpar
      unfold st16 at h2
      split at hpar
      · split at hpar
        · rename_i q1 q2
          rw [if_pos q1, if_pos q2, Nat.mod_mod_of_dvd _ hd, Nat.mod_mod_of_dvd _ hd] at h2
          exact h2
        · omega
      · split at hpar
        · omega
        · rename_i q1 q2
          rw [if_neg q1, if_neg q2, Nat.xor_mod_two_pow, Nat.xor_mod_two_pow, Nat.mod_mod_of_dvd _ hd, Nat.mod_mod_of_dvd _ hd] at h2
          exact xor_cancel h2
    rw [Nat.pow_succ, Nat.mul_comm (2 ^ k) 2, Nat.mul_mod_mul_left, Nat.mul_mod_mul_left] at key
    omega
theorem low16_inj : ∀ {L L' : List Int} {r : Nat}, is01 L → is01 L' → L.length = L'.length → r < 65536 → low16 r L = low16 r L' → L = L'
  | [], [], _, _, _, _, _, _ => rfl
  | b :: L, b' :: L', r, h, h', hl, hr, e => by
    rw [low16, low16] at e
    injection e with e1 e2
    have hb := h b List.mem_cons_self
    have hb' := h' b' List.mem_cons_self
    have hbb : b = b' := by
      rw [st16_par, st16_par] at e1
      split at e1 <;> split at e1 <;> omega
    subst hbb
    rw [low16_inj (fun x hx => h x (List.mem_cons_of_mem _ hx)) (fun x hx => h' x (List.mem_cons_of_mem _ hx)) (by simpa using hl) (st16_lt r b) e2]
theorem window16 {L L' : List Int} {r : Nat} (h : is01 L) (h' : is01 L') (hl : L.length = L'.length) (h6 : L.length ≤ 16) (hr : r < 65536) (e : L.foldl st16 r = L'.foldl st16 r) : L = L' :=
  low16_inj h h' hl hr (back16 (m := 16) hl h6 (Nat.le_refl _) (by rw [e])).1
/-- Lists that agree outside of a window. -/
theorem split_window {α : Type} {X Y : List α} (d : α) (p m : Nat) (hl : X.length = Y.length) (h : ∀ i, i < X.length → (i < p ∨ p + m ≤ i) → X.getD i d = Y.getD i d) :
    ∃ U V W W', X = U ++ (W ++ V) ∧ Y = U ++ (W' ++ V) ∧ W.length = W'.length ∧ W.length ≤ m := by
  have ext : ∀ (A B : List α), A.length = B.length → (∀ i, i < A.length → A.getD i d = B.getD i d) → A = B := by
    intro A B hAB hh
    apply List.ext_getElem hAB
    intro j h1 h2
    have := hh j h1
    rw [List.getD_eq_getElem?_getD, List.getD_eq_getElem?_getD, List.getElem?_eq_getElem h1, List.getElem?_eq_getElem h2] at this
    exact this
  have e1 : X.take p = Y.take p := by
    apply ext
    · simp [hl]
    · intro i hi
      have hi' : i < p ∧ i < X.length := by rw [List.length_take] at hi; omega
      have := h i hi'.2 (.inl hi'.1)
      rw [List.getD_eq_getElem?_getD, List.getD_eq_getElem?_getD] at this ⊢
      rw [List.getElem?_take, List.getElem?_take, if_pos hi'.1, if_pos hi'.1]
      exact this
  have e2 : X.drop (p + m) = Y.drop (p + m) := by
    apply ext
    · simp [hl]
    · intro i hi
      have hi' : i < X.length - (p + m) := by simpa using hi
      have := h (p + m + i) (by omega) (.inr (by omega))
      rw [List.getD_eq_getElem?_getD, List.getD_eq_getElem?_getD] at this ⊢
      rw [List.getElem?_drop, List.getElem?_drop]
      exact this
  refine ⟨X.take p, X.drop (p + m), (X.drop p).take m, (Y.drop p).take m, ?_, ?_, by simp [hl], by simp; omega⟩
  · rw [← List.drop_drop, List.take_append_drop, List.take_append_drop]
  · rw [e1, e2, ← List.drop_drop, List.take_append_drop, List.take_append_drop]
theorem is01_mid {U W V : List Int} (h : is01 (U ++ (W ++ V))) : is01 U ∧ is01 W ∧ is01 V := ⟨fun x hx => h x (by simp [hx]), fun x hx => h x (by simp [hx]), fun x hx => h x (by simp [hx])⟩
theorem burst16 {X Y : List Int} (p : Nat) (hX : is01 X) (hY : is01 Y) (hl : X.length = Y.length) (h : ∀ i, i < X.length → (i < p ∨ p + 16 ≤ i) → X.getD i 0 = Y.getD i 0) (e : crc16 X = crc16 Y) : X = Y := by
  obtain ⟨U, V, W, W', rfl, rfl, h1, h2⟩ := split_window (0 : Int) p 16 hl h
  have hx := is01_mid hX
  have hy := is01_mid hY
  unfold crc16 at e
  simp only [List.foldl_append] at e
  have hu := fold16_lt U 65535 (by omega)
  have e1 := fold16_inj hx.2.2 (fold16_lt W _ hu) (fold16_lt W' _ hu) e
  rw [window16 hx.2.1 hy.2.1 h1 h2 hu e1]

/- The sum of 32 bits. -/
theorem numb16 (s : Nat) (h : s < 65536) : numb ((s / 256 : Nat) : Int) 8 ++ numb ((s % 256 : Nat) : Int) 8 = numb (s : Int) 16 := by
  simp only [numb, List.range_succ, List.range_zero, List.nil_append, List.map_append, List.map_cons, List.map_nil, List.append_assoc, List.cons_append, List.singleton_append]
  simp only [Nat.reduceSub, Int.reducePow, List.cons.injEq, and_true]
  omega
theorem own16 (s : Nat) (h : s < 65536) : (numb (s : Int) 16).foldl st16 s = 0 := by
  have key : ∀ k, k ≤ 16 → (numb ((s / 2 ^ (16 - k) : Nat) : Int) k).foldl st16 s = s * 2 ^ k % 65536 := by
    intro k
    induction k with
    | zero => intro _; simp [numb]; omega
    | succ k ih =>
      intro hk
      have e : ((s / 2 ^ (16 - (k + 1)) : Nat) : Int) / 2 = ((s / 2 ^ (16 - k) : Nat) : Int) := by
        rw [show 16 - k = (16 - (k + 1)) + 1 by omega, Nat.pow_succ, ← Nat.div_div_eq_div_mul]; omega
      rw [numb_succ, e, List.foldl_append, ih (by omega)]
      show st16 _ _ = _
      unfold st16
      have hk' : k < 16 := by omega
      have g : s * 2 ^ k % 65536 / 32768 = s / 2 ^ (16 - (k + 1)) % 2 := by
        have : k = 0 ∨ k = 1 ∨ k = 2 ∨ k = 3 ∨ k = 4 ∨ k = 5 ∨ k = 6 ∨ k = 7 ∨ k = 8 ∨ k = 9 ∨ k = 10 ∨ k = 11 ∨ k = 12 ∨ k = 13 ∨ k = 14 ∨ k = 15 := by omega
        rcases this with q | q | q | q | q | q | q | q | q | q | q | q | q | q | q | q <;> subst q <;> simp only [Nat.reducePow, Nat.reduceSub, Nat.reduceAdd] <;> omega
      rw [if_pos (by rw [g]; omega), Nat.pow_succ, ← Nat.mul_assoc]
      omega
  have := key 16 (Nat.le_refl _)
  rw [show 16 - 16 = 0 from rfl, Nat.pow_zero, Nat.div_one] at this
  rw [this]
  omega
theorem bitAt_append (B C : List Int) (i : Nat) (h : i < 8 * B.length) : bitAt (B ++ C) i = bitAt B i := by
  unfold bitAt
  rw [List.getD_eq_getElem?_getD, List.getElem?_append_left (by omega), ← List.getD_eq_getElem?_getD]
theorem ofB_append (B C : List Int) (n : Nat) (h : n ≤ 8 * B.length) : ofB (B ++ C) n = ofB B n := by
  unfold ofB
  apply List.map_congr_left
  intro i hi
  have := List.mem_range.1 hi
  exact bitAt_append B C i (by omega)
theorem lawOwn (B : List Int) : crc16 (ofB (B ++ [((crc16 (ofB B (8 * B.length)) / 256 : Nat) : Int), ((crc16 (ofB B (8 * B.length)) % 256 : Nat) : Int)]) (8 * (B.length + 2))) = 0 := by
  have hs := fold16_lt (ofB B (8 * B.length)) 65535 (by omega)
  generalize hS : crc16 (ofB B (8 * B.length)) = s
  have hs' : s < 65536 := by rw [← hS]; exact hs
  rw [show B.length + 2 = (B.length + 1) + 1 by omega, ofB_byte, ofB_byte, ofB_append _ _ _ (Nat.le_refl _)]
  have g1 : (B ++ [((s / 256 : Nat) : Int), ((s % 256 : Nat) : Int)]).getD B.length 0 = ((s / 256 : Nat) : Int) := by simp
  have g2 : (B ++ [((s / 256 : Nat) : Int), ((s % 256 : Nat) : Int)]).getD (B.length + 1) 0 = ((s % 256 : Nat) : Int) := by simp
  rw [g1, g2, List.append_assoc, numb16 s hs']
  unfold crc16
  rw [List.foldl_append]
  unfold crc16 at hS
  rw [hS, own16 s hs']
end
section
open Go.RowKit Go.Shelf Go.Proofs.YtnaklnehichhpaaDoor.Bits
set_option linter.unusedVariables false
set_option linter.unusedSimpArgs false

/-- A header. -/
structure HD where
  num : Int
  lossy : Bool
  rate : Int
  ch : Int
  kind : Int
  count : Int
  back : Int
deriving DecidableEq
def HD0 : HD := ⟨0, false, 0, 0, 0, 0, 0⟩
def rates : List Int := [8000, 11025, 12000, 16000, 22050, 24000, 32000, 44100, 48000]
/-- The position of a rate; below 0: there is none. -/
def rix (r : Int) : Int := if r = 8000 then 0 else if r = 11025 then 1 else if r = 12000 then 2 else if r = 16000 then 3 else if r = 22050 then 4 else if r = 24000 then 5 else if r = 32000 then 6 else if r = 44100 then 7 else if r = 48000 then 8 else -1
def one (b : Bool) : Int := if b then 1 else 0
def okH (h : HD) : Bool := decide (0 ≤ h.num ∧ h.num ≤ 63) && decide (0 ≤ rix h.rate) && decide (1 ≤ h.ch ∧ h.ch ≤ 2) && decide (0 ≤ h.kind ∧ h.kind ≤ 4) && decide (1 ≤ h.count ∧ h.count ≤ 128) && decide (0 ≤ h.back ∧ h.back ≤ 511) && (h.lossy || decide (h.kind = 0 ∧ h.back = 0))
structure OkH (h : HD) : Prop where
  num : 0 ≤ h.num ∧ h.num ≤ 63
  rate : 0 ≤ rix h.rate
  ch : 1 ≤ h.ch ∧ h.ch ≤ 2
  kind : 0 ≤ h.kind ∧ h.kind ≤ 4
  count : 1 ≤ h.count ∧ h.count ≤ 128
  back : 0 ≤ h.back ∧ h.back ≤ 511
  plain : h.lossy = true ∨ h.kind = 0 ∧ h.back = 0
theorem okH_iff (h : HD) : okH h = true ↔ OkH h := by
  unfold okH
  simp only [Bool.and_eq_true, Bool.or_eq_true, decide_eq_true_eq]
  constructor
  · rintro ⟨⟨⟨⟨⟨⟨a, b⟩, c⟩, d⟩, e⟩, f⟩, g⟩; exact ⟨a, b, c, d, e, f, g⟩
  · rintro ⟨a, b, c, d, e, f, g⟩; exact ⟨⟨⟨⟨⟨⟨a, b⟩, c⟩, d⟩, e⟩, f⟩, g⟩
theorem rix_lt (r : Int) : -1 ≤ rix r ∧ rix r ≤ 8 := by
  unfold rix
  repeat' split
  all_goals omega
theorem rates_rix (r : Int) (h : 0 ≤ rix r) : rates.getD (rix r).toNat 0 = r := by
  unfold rix at *
  repeat' split
  all_goals (rename_i q; first | (subst q; rfl) | skip)
  simp_all
theorem rix_rates (i : Nat) (h : i < 9) : rix (rates.getD i 0) = i := by
  have : i = 0 ∨ i = 1 ∨ i = 2 ∨ i = 3 ∨ i = 4 ∨ i = 5 ∨ i = 6 ∨ i = 7 ∨ i = 8 := by omega
  rcases this with rfl | rfl | rfl | rfl | rfl | rfl | rfl | rfl | rfl <;> rfl

/-- The fields of a header, each with its width. -/
def hflds (h : HD) (n : Nat) : List (Int × Nat) := [(4013, 12), (h.num, 6), (one h.lossy, 1), (h.ch - 1, 1), (rix h.rate, 4), (h.kind, 3), (h.count - 1, 7), ((n : Int), 11), (h.back, 9), (0, 2)]
def hbits (h : HD) (n : Nat) : List Int := (hflds h n).flatMap fun f => numb f.1 f.2
theorem hbits_eq (h : HD) (n : Nat) : hbits h n = numb 4013 12 ++ (numb h.num 6 ++ (numb (one h.lossy) 1 ++ (numb (h.ch - 1) 1 ++ (numb (rix h.rate) 4 ++ (numb h.kind 3 ++ (numb (h.count - 1) 7 ++ (numb (n : Int) 11 ++ (numb h.back 9 ++ numb 0 2)))))))) := by
  simp [hbits, hflds]
theorem hbits_length (h : HD) (n : Nat) : (hbits h n).length = 56 := by rw [hbits_eq]; simp only [List.length_append, numb_length]
theorem hbits_01 (h : HD) (n : Nat) : is01 (hbits h n) := by
  rw [hbits_eq]
  repeat' apply is01_append
  all_goals exact numb_01 _ _
def hbytes (h : HD) (n : Nat) : List Int := pk (hbits h n)
theorem hbytes_length (h : HD) (n : Nat) : (hbytes h n).length = 7 := by unfold hbytes; rw [pk_length, hbits_length]
theorem hbytes_8 (h : HD) (n : Nat) : is8 (hbytes h n) := pk_is8 (hbits_01 h n)
/-- The sum of 16 bits of bytes. -/
def sumB (B : List Int) : Nat := crc16 (ofB B (8 * B.length))
theorem sumB_lt (B : List Int) : sumB B < 65536 := fold16_lt _ _ (by omega)
def outB (h : HD) (body : List Int) : List Int := hbytes h body.length ++ body
def wFrame (h : HD) (body : List Int) : List Int := outB h body ++ [((sumB (outB h body) / 256 : Nat) : Int), ((sumB (outB h body) % 256 : Nat) : Int)]
theorem outB_length (h : HD) (body : List Int) : (outB h body).length = 7 + body.length := by unfold outB; rw [List.length_append, hbytes_length]
theorem wFrame_length (h : HD) (body : List Int) : (wFrame h body).length = 9 + body.length := by unfold wFrame; rw [List.length_append, outB_length]; simp; omega
theorem is8_append {A B : List Int} (h : is8 A) (k : is8 B) : is8 (A ++ B) := fun b hb => by
  rcases List.mem_append.1 hb with q | q
  · exact h b q
  · exact k b q
theorem outB_8 (h : HD) {body : List Int} (hb : is8 body) : is8 (outB h body) := is8_append (hbytes_8 _ _) hb
theorem wFrame_8 (h : HD) {body : List Int} (hb : is8 body) : is8 (wFrame h body) := is8_append (outB_8 h hb) (fun b hm => by
  have := sumB_lt (outB h body)
  simp only [List.mem_cons, List.not_mem_nil, or_false] at hm
  rcases hm with rfl | rfl <;> omega)
def fWrite (h : HD) (body : List Int) : List Int × Int := if okH h = false then ([], 1) else if 2047 < body.length then ([], 2) else (wFrame h body, 0)

/-- A field of the first seven bytes. -/
def gv (B : List Int) (a n : Nat) : Int := val (((ofB B 56).drop a).take n)
def hdOf (B : List Int) : HD := ⟨gv B 12 6, decide (gv B 18 1 = 1), rates.getD (gv B 20 4).toNat 0, gv B 19 1 + 1, gv B 24 3, gv B 27 7 + 1, gv B 45 9⟩
def fReadB (B : List Int) : HD × List Int × Int :=
  if B.length < 9 then (HD0, [], 3)
  else if gv B 0 12 ≠ 4013 then (HD0, [], 8)
  else if gv B 54 2 ≠ 0 ∨ 9 ≤ gv B 20 4 then (HD0, [], 4)
  else if okH (hdOf B) = false then (HD0, [], 4)
  else if B.length < 9 + (gv B 34 11).toNat then (HD0, [], 3)
  else if sumB (B.take (9 + (gv B 34 11).toNat)) ≠ 0 then (HD0, [], 7)
  else (hdOf B, (B.drop 7).take (gv B 34 11).toNat, 0)
def fRead (b : List Int) (a : Int) : HD × List Int × Int := if a < 0 ∨ (b.length : Int) < a then (HD0, [], 6) else fReadB (b.drop a.toNat)

theorem gv_bound (B : List Int) (a n : Nat) : 0 ≤ gv B a n ∧ gv B a n < 2 ^ n := by
  have h := val_bound (is01_take (is01_drop (ofB_01 B 56) a) n)
  have hl : (((ofB B 56).drop a).take n).length ≤ n := by rw [List.length_take]; omega
  refine ⟨h.1, Int.lt_of_lt_of_le h.2 ?_⟩
  exact_mod_cast Nat.pow_le_pow_right (by omega) hl
theorem seg (P R : List Int) (v : Int) (n a : Nat) (ha : a = P.length) (h : 0 ≤ v ∧ v < 2 ^ n) : val (((P ++ (numb v n ++ R)).drop a).take n) = v := by
  subst ha
  rw [List.drop_left]
  have := List.take_left (l₁ := numb v n) (l₂ := R)
  rw [numb_length] at this
  rw [this, val_numb]
  exact Int.emod_eq_of_lt h.1 h.2
theorem seg_end (P : List Int) (v : Int) (n a : Nat) (ha : a = P.length) (h : 0 ≤ v ∧ v < 2 ^ n) : val (((P ++ numb v n).drop a).take n) = v := by
  have := seg P [] v n a ha h
  rwa [List.append_nil] at this
/-- What is written is read again. -/
theorem read_back (h : HD) (body post : List Int) (hok : OkH h) (h8 : is8 body) (hl : body.length ≤ 2047) : fReadB (wFrame h body ++ post) = (h, body, 0) := by
  have hof : ofB (wFrame h body ++ post) 56 = hbits h body.length := by
    have e : wFrame h body ++ post = hbytes h body.length ++ (body ++ ([((sumB (outB h body) / 256 : Nat) : Int), ((sumB (outB h body) % 256 : Nat) : Int)] ++ post)) := by
      unfold wFrame outB; simp [List.append_assoc]
    rw [e, ofB_append _ _ _ (by have := hbytes_length h body.length; omega)]
    have := ofB_pk_all (hbits_01 h body.length)
    rwa [hbits_length] at this
  have hr := rix_lt h.rate
  have h1 := hok.num
  have h2 := hok.ch
  have h3 := hok.kind
  have h4 := hok.count
  have h5 := hok.back
  have h6 := hok.rate
  have ho : 0 ≤ one h.lossy ∧ one h.lossy < 2 := by unfold one; split <;> omega
  have g (a n : Nat) : gv (wFrame h body ++ post) a n = val (((hbits h body.length).drop a).take n) := by unfold gv; rw [hof]
  have f0 : gv (wFrame h body ++ post) 0 12 = 4013 := by
    rw [g, hbits_eq]; exact seg [] _ 4013 12 0 rfl (by omega)
  have f1 : gv (wFrame h body ++ post) 12 6 = h.num := by
    rw [g, hbits_eq]; exact seg (numb 4013 12) _ h.num 6 12 (by simp [numb_length]) (by omega)
  have f2 : gv (wFrame h body ++ post) 18 1 = one h.lossy := by
    rw [g, hbits_eq, ← List.append_assoc]; exact seg (numb 4013 12 ++ numb h.num 6) _ (one h.lossy) 1 18 (by simp [numb_length]) (by omega)
  have f3 : gv (wFrame h body ++ post) 19 1 = h.ch - 1 := by
    rw [g, hbits_eq, ← List.append_assoc, ← List.append_assoc]; exact seg (numb 4013 12 ++ numb h.num 6 ++ numb (one h.lossy) 1) _ (h.ch - 1) 1 19 (by simp [numb_length]) (by omega)
  have f4 : gv (wFrame h body ++ post) 20 4 = rix h.rate := by
    rw [g, hbits_eq, ← List.append_assoc, ← List.append_assoc, ← List.append_assoc]; exact seg (numb 4013 12 ++ numb h.num 6 ++ numb (one h.lossy) 1 ++ numb (h.ch - 1) 1) _ (rix h.rate) 4 20 (by simp [numb_length]) (by omega)
  have f5 : gv (wFrame h body ++ post) 24 3 = h.kind := by
    rw [g, hbits_eq, ← List.append_assoc, ← List.append_assoc, ← List.append_assoc, ← List.append_assoc]; exact seg (numb 4013 12 ++ numb h.num 6 ++ numb (one h.lossy) 1 ++ numb (h.ch - 1) 1 ++ numb (rix h.rate) 4) _ h.kind 3 24 (by simp [numb_length]) (by omega)
  have f6 : gv (wFrame h body ++ post) 27 7 = h.count - 1 := by
    rw [g, hbits_eq, ← List.append_assoc, ← List.append_assoc, ← List.append_assoc, ← List.append_assoc, ← List.append_assoc]; exact seg (numb 4013 12 ++ numb h.num 6 ++ numb (one h.lossy) 1 ++ numb (h.ch - 1) 1 ++ numb (rix h.rate) 4 ++ numb h.kind 3) _ (h.count - 1) 7 27 (by simp [numb_length]) (by omega)
  have f7 : gv (wFrame h body ++ post) 34 11 = body.length := by
    rw [g, hbits_eq, ← List.append_assoc, ← List.append_assoc, ← List.append_assoc, ← List.append_assoc, ← List.append_assoc, ← List.append_assoc]; exact seg (numb 4013 12 ++ numb h.num 6 ++ numb (one h.lossy) 1 ++ numb (h.ch - 1) 1 ++ numb (rix h.rate) 4 ++ numb h.kind 3 ++ numb (h.count - 1) 7) _ (body.length : Int) 11 34 (by simp [numb_length]) (by omega)
  have f8 : gv (wFrame h body ++ post) 45 9 = h.back := by
    rw [g, hbits_eq, ← List.append_assoc, ← List.append_assoc, ← List.append_assoc, ← List.append_assoc, ← List.append_assoc, ← List.append_assoc, ← List.append_assoc]; exact seg (numb 4013 12 ++ numb h.num 6 ++ numb (one h.lossy) 1 ++ numb (h.ch - 1) 1 ++ numb (rix h.rate) 4 ++ numb h.kind 3 ++ numb (h.count - 1) 7 ++ numb (body.length : Int) 11) _ h.back 9 45 (by simp [numb_length]) (by omega)
  have f9 : gv (wFrame h body ++ post) 54 2 = 0 := by
    rw [g, hbits_eq, ← List.append_assoc, ← List.append_assoc, ← List.append_assoc, ← List.append_assoc, ← List.append_assoc, ← List.append_assoc, ← List.append_assoc, ← List.append_assoc]; exact seg_end (numb 4013 12 ++ numb h.num 6 ++ numb (one h.lossy) 1 ++ numb (h.ch - 1) 1 ++ numb (rix h.rate) 4 ++ numb h.kind 3 ++ numb (h.count - 1) 7 ++ numb (body.length : Int) 11 ++ numb h.back 9) 0 2 54 (by simp [numb_length]) (by omega)
  have hh : hdOf (wFrame h body ++ post) = h := by
    unfold hdOf
    rw [f1, f2, f3, f4, f5, f6, f8, rates_rix _ h6]
    obtain ⟨a, b, c, d, e, f, g⟩ := h
    dsimp only
    congr 1
    · unfold one; cases b <;> simp
    · omega
    · omega
  have hlen : (wFrame h body ++ post).length = 9 + body.length + post.length := by rw [List.length_append, wFrame_length]
  unfold fReadB
  rw [if_neg (by omega), if_neg (by rw [f0]; simp), if_neg (by rw [f9, f4]; omega), hh, if_neg (by rw [(okH_iff h).2 hok]; simp), f7, Int.toNat_natCast, if_neg (by omega)]
  have ht : (wFrame h body ++ post).take (9 + body.length) = wFrame h body := by
    have := List.take_left (l₁ := wFrame h body) (l₂ := post)
    rwa [wFrame_length] at this
  have hz : sumB (wFrame h body) = 0 := by
    have := lawOwn (outB h body)
    unfold sumB
    rw [show (wFrame h body).length = (outB h body).length + 2 by rw [wFrame_length, outB_length]; omega]
    exact this
  rw [if_neg (by rw [ht, hz]; simp)]
  congr 2
  have e : wFrame h body ++ post = hbytes h body.length ++ (body ++ ([((sumB (outB h body) / 256 : Nat) : Int), ((sumB (outB h body) % 256 : Nat) : Int)] ++ post)) := by
    unfold wFrame outB; simp [List.append_assoc]
  rw [e]
  have := List.drop_left (l₁ := hbytes h body.length) (l₂ := body ++ ([((sumB (outB h body) / 256 : Nat) : Int), ((sumB (outB h body) % 256 : Nat) : Int)] ++ post))
  rw [hbytes_length] at this
  rw [this, List.take_left]
/-- The sum of bytes and two more is 0 just if these are the sum. -/
theorem sum_two (X : List Int) (a b : Int) (ha : 0 ≤ a ∧ a < 256) (hb : 0 ≤ b ∧ b < 256) : sumB (X ++ [a, b]) = 0 ↔ (sumB X : Int) = a * 256 + b := by
  have hs := sumB_lt X
  have e : sumB (X ++ [a, b]) = (numb (a * 256 + b) 16).foldl st16 (sumB X) := by
    unfold sumB
    rw [show (X ++ [a, b]).length = (X.length + 1) + 1 by simp, ofB_byte, ofB_byte, ofB_append _ _ _ (Nat.le_refl _)]
    have g1 : (X ++ [a, b]).getD X.length 0 = a := by simp
    have g2 : (X ++ [a, b]).getD (X.length + 1) 0 = b := by simp
    have hn := numb16 (a * 256 + b).toNat (by omega)
    rw [show (((a * 256 + b).toNat / 256 : Nat) : Int) = a by omega, show (((a * 256 + b).toNat % 256 : Nat) : Int) = b by omega, show (((a * 256 + b).toNat : Nat) : Int) = a * 256 + b by omega] at hn
    rw [g1, g2, List.append_assoc, hn]
    unfold crc16
    rw [List.foldl_append]
  rw [e]
  constructor
  · intro q
    have w := window16 (numb_01 _ _) (numb_01 _ _) (by rw [numb_length, numb_length]) (by rw [numb_length]; omega) hs (q.trans (own16 (sumB X) hs).symm)
    have := congrArg val w
    rw [val_numb, val_numb] at this
    omega
  · intro q
    rw [← q]
    exact own16 _ hs
end
end Go.Proofs.YtnaklnehichhpaaDoor.P
