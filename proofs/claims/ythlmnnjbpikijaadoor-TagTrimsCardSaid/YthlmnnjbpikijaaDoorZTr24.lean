/- The values of the law's few and of the reference's at, Key, Right, Check, Get. -/
import Derived.Test.YthlmnnjbpikijaaDoorZTr15
import Derived.Test.YthlmnnjbpikijaaDoorZTr12
import Derived.Test.YthlmnnjbpikijaaDoorZTr23
namespace Go.Proofs.YthlmnnjbpikijaaDoor.P
open Go.RowKit Go.Shelf Go.Proofs.YthlmnnjbpikijaaDoor.Bits Go.Proofs.YthlmnnjbpikijaaDoorW.PrintWords Go.Proofs.YthlmnnjbpikijaaDoorW.PrintLast Go.Proofs.YthlmnnjbpikijaaDoorW.PrintMore
set_option linter.unusedVariables false
set_option linter.unusedSimpArgs false
theorem few_l0 (l : List S56) (hl : l.length ≤ 140737488355328) (s u : Int) : ∀ (d i k : Nat) (acc : Int), d = l.length - i → i ≤ l.length → d < k → ∃ b, shawmlaw27_few.l0 k acc l (l.length : Int) (i : Int) s u l = some b ∧ (b = true → l.length ≤ 40)
  | 0, i, k + 1, acc, hd, hi, hk => by
    rw [shawmlaw27_few.l0, if_neg (by omega)]
    by_cases h : (l.length : Int) ≤ 40
    · rw [if_pos h]
      exact ⟨_, rfl, fun _ => by omega⟩
    · rw [if_neg h]
      exact ⟨_, rfl, fun h => by cases h⟩
  | d + 1, i, k + 1, acc, hd, hi, hk => by
    rw [shawmlaw27_few.l0, if_pos (by omega), if_pos (by omega), if_pos (by omega), wrap64_id (x := (i : Int) + 1) (by omega) (by omega), show (i : Int) + 1 = ((i + 1 : Nat) : Int) by omega]
    exact few_l0 l hl s u d (i + 1) k _ (by omega) (by omega) (by omega)
theorem few_val (l : List S56) (hl : l.length ≤ 140737488355328) (s u : Int) : ∃ b, shawmlaw27_few.f (l.length + 2) s u l = some b ∧ (b = true → l.length ≤ 40) :=
  few_l0 l hl s u l.length 0 (l.length + 2) _ (by omega) (by omega) (by omega)
theorem str_same (s t : ByteArray) : s.toList = t.toList ↔ s = t := by
  constructor
  · intro h
    rw [ByteArray.toList_eq, ByteArray.toList_eq] at h
    exact ByteArray.ext (Array.toList_inj.1 h)
  · rintro rfl; rfl
def atV (o : Option Nat) : Int := match o with | some j => (j : Int) | none => -1
theorem rd_T (l : List S56) (i : Nat) : rd_T56 l (i : Int) = nth l i := by unfold rd_T56; rw [Int.toNat_natCast]
theorem drop_T (l : List S56) (i : Nat) (h : i < l.length) : l.drop i = nth l i :: l.drop (i + 1) := by
  rw [List.drop_eq_getElem_cons h]
  unfold nth
  rw [List.getD_eq_getElem?_getD, List.getElem?_eq_getElem h]
  rfl
theorem at_l0 (l : List S56) (hl : l.length ≤ 140737488355328) (key : ByteArray) : ∀ (d i k : Nat), d = l.length - i → i ≤ l.length → d < k → shawmref27_at.l0 k key l (l.length : Int) (i : Int) = some (atV (seekK key (l.drop i) i))
  | 0, i, k + 1, hd, hi, hk => by
    have : i = l.length := by omega
    subst this
    rw [shawmref27_at.l0, if_neg (by omega), List.drop_length]
    rfl
  | d + 1, i, k + 1, hd, hi, hk => by
    have hlt : i < l.length := by omega
    rw [shawmref27_at.l0, if_pos (by omega), if_pos (by omega), if_pos (by omega), rd_T, drop_T l i hlt, seekK]
    by_cases h : (nth l i).f0 = key
    · rw [if_pos ((str_same _ _).2 h), if_pos h]
      rfl
    · rw [if_neg (fun q => h ((str_same _ _).1 q)), if_neg h, wrap64_id (by omega) (by omega), show (i : Int) + 1 = ((i + 1 : Nat) : Int) by omega]
      exact at_l0 l hl key d (i + 1) k (by omega) (by omega) (by omega)
theorem at_val (l : List S56) (hl : l.length ≤ 140737488355328) (key : ByteArray) (k : Nat) (hk : l.length < k) : shawmref27_at.f k l key = some (atV (seekK key l 0)) :=
  at_l0 l hl key l.length 0 k (by omega) (by omega) hk
theorem atV_none (o : Option Nat) : 0 ≤ atV o ↔ o.isSome = true := by
  cases o with
  | none => simp [atV]
  | some j => simp [atV]
theorem key_l0 (s : ByteArray) (hs : s.size ≤ 140737488355328) : ∀ (d i k : Nat), d = s.size - i → i ≤ s.size → d < k → ∃ b, shawmref27_Key.l0 k s (s.size : Int) (i : Int) = some b ∧ (b = true ↔ s.size = 4 ∧ ∀ j : Nat, i ≤ j → j < s.size → okC (bt s (j : Int)) = true)
  | 0, i, k + 1, hd, hi, hk => by
    rw [shawmref27_Key.l0, if_neg (by omega)]
    refine ⟨_, rfl, ?_⟩
    rw [beq_iff_eq]
    exact ⟨fun h => ⟨by omega, fun j h1 h2 => by omega⟩, fun h => by have := h.1; omega⟩
  | d + 1, i, k + 1, hd, hi, hk => by
    have hlt : i < s.size := by omega
    rw [shawmref27_Key.l0, if_pos (by omega), if_pos (by omega), if_pos (by omega), wrap64_id (by omega) (by omega), show (i : Int) + 1 = ((i + 1 : Nat) : Int) by omega]
    obtain ⟨b, hb, hc⟩ := key_l0 s hs d (i + 1) k (by omega) (by omega) (by omega)
    rw [hb]
    obtain ⟨c, hcc⟩ : ∃ c, bt s (i : Int) = c := ⟨_, rfl⟩
    rw [hcc]
    have hbad : okC c = false → ∃ b', some false = some b' ∧ (b' = true ↔ s.size = 4 ∧ ∀ j : Nat, i ≤ j → j < s.size → okC (bt s (j : Int)) = true) := fun h => ⟨false, rfl, (fun q => by cases q), (fun q => by have := q.2 i (Nat.le_refl _) hlt; rw [hcc, h] at this; cases this)⟩
    have hgood : okC c = true → ∃ b', some b = some b' ∧ (b' = true ↔ s.size = 4 ∧ ∀ j : Nat, i ≤ j → j < s.size → okC (bt s (j : Int)) = true) := fun h => ⟨b, rfl, (fun q => ⟨(hc.1 q).1, fun j h1 h2 => by
      by_cases hj : j = i
      · subst hj; rw [hcc]; exact h
      · exact (hc.1 q).2 j (by omega) h2⟩), (fun q => hc.2 ⟨q.1, fun j h1 h2 => q.2 j (by omega) h2⟩)⟩
    have hiff : okC c = true ↔ (65 ≤ c ∧ c ≤ 90) ∨ (48 ≤ c ∧ c ≤ 57) := by unfold okC; simp
    have hno : ¬ ((65 ≤ c ∧ c ≤ 90) ∨ (48 ≤ c ∧ c ≤ 57)) → okC c = false := fun h => by
      cases e : okC c with
      | false => rfl
      | true => exact absurd (hiff.1 e) h
    by_cases h1 : c < 65
    · rw [if_pos h1]
      by_cases h2 : c < 48
      · rw [if_pos h2]; exact hbad (hno (by omega))
      · rw [if_neg h2]
        by_cases h3 : c > 57
        · rw [if_pos h3]; exact hbad (hno (by omega))
        · rw [if_neg h3]; exact hgood (hiff.2 (by omega))
    · rw [if_neg h1]
      by_cases h2 : c > 90
      · rw [if_pos h2, if_neg (by omega), if_pos (by omega)]; exact hbad (hno (by omega))
      · rw [if_neg h2]; exact hgood (hiff.2 (by omega))
theorem key_val (s : ByteArray) (hs : s.size ≤ 140737488355328) (k : Nat) (hk : s.size < k) : shawmref27_Key.f k s = some (keyOk s) := by
  obtain ⟨b, hb, hc⟩ := key_l0 s hs s.size 0 k (by omega) (by omega) hk
  unfold shawmref27_Key.f
  rw [show (0 : Int) = ((0 : Nat) : Int) from rfl, hb]
  congr 1
  have : b = true ↔ keyOk s = true := by
    rw [hc]
    unfold keyOk
    simp only [Bool.and_eq_true, decide_eq_true_eq]
    constructor
    · rintro ⟨h4, h⟩
      exact ⟨h4, ⟨⟨h 0 (by omega) (by omega), h 1 (by omega) (by omega)⟩, h 2 (by omega) (by omega)⟩, h 3 (by omega) (by omega)⟩
    · rintro ⟨h4, ⟨⟨h0, h1⟩, h2⟩, h3⟩
      refine ⟨h4, fun j _ hj => ?_⟩
      have : j = 0 ∨ j = 1 ∨ j = 2 ∨ j = 3 := by omega
      rcases this with rfl | rfl | rfl | rfl
      · exact h0
      · exact h1
      · exact h2
      · exact h3
  cases b <;> cases ho : keyOk s <;> simp_all
theorem right_l0 (l : List S56) (hl : l.length ≤ 140737488355328) (M : Nat) (hM : ∀ j, (nth l j).f0.size ≤ M) (hM2 : M ≤ 140737488355328) (s u : Int) : ∀ (d i k : Nat), d = l.length - i → i ≤ l.length → d + M + l.length + 1 < k → ∃ b, shawmref27_Right.l0 k l (l.length : Int) (i : Int) s u l = some b ∧ (b = true ↔ ∀ j, i ≤ j → j < l.length → goodF l j = true)
  | 0, i, k + 1, hd, hi, hk => by
    rw [shawmref27_Right.l0, if_neg (by omega)]
    exact ⟨true, rfl, (fun _ j h1 h2 => by omega), (fun _ => rfl)⟩
  | d + 1, i, k + 1, hd, hi, hk => by
    have hlt : i < l.length := by omega
    have hMi := hM i
    rw [shawmref27_Right.l0, if_pos (by omega), if_pos (by omega), if_pos (by omega), rd_T, key_val _ (by omega) k (by omega), Option.bind_some]
    have hbad : goodF l i = false → ∃ b', some false = some b' ∧ (b' = true ↔ ∀ j, i ≤ j → j < l.length → goodF l j = true) := fun h => ⟨false, rfl, (fun q => by cases q), (fun q => by rw [q i (Nat.le_refl _) hlt] at h; cases h)⟩
    cases hk1 : keyOk (nth l i).f0 with
    | false =>
      rw [if_neg (by decide)]
      exact hbad (by unfold goodF; rw [hk1]; rfl)
    | true =>
      rw [if_pos rfl]
      by_cases hb : ((nth l i).f1.size : Int) > 1000
      · rw [if_pos hb]
        exact hbad (by unfold goodF; rw [decide_eq_false (by omega), Bool.and_false])
      · rw [if_neg hb, if_pos (by omega), Int.toNat_natCast, at_val (l.take i) (by rw [List.length_take]; omega) _ k (by rw [List.length_take]; omega), Option.bind_some]
        by_cases hs : atV (seekK (nth l i).f0 (l.take i) 0) ≥ 0
        · rw [if_pos hs]
          have := (atV_none _).1 hs
          exact hbad (by unfold goodF; rw [Option.isSome_iff_ne_none] at this; cases e : seekK (nth l i).f0 (l.take i) 0 with
            | none => exact absurd e this
            | some j => simp)
        · rw [if_neg hs, wrap64_id (by omega) (by omega), show (i : Int) + 1 = ((i + 1 : Nat) : Int) by omega]
          obtain ⟨b, hb2, hc⟩ := right_l0 l hl M hM hM2 s u d (i + 1) k (by omega) (by omega) (by omega)
          rw [hb2]
          have hg : goodF l i = true := by
            unfold goodF
            rw [hk1, decide_eq_true (by omega)]
            cases e : seekK (nth l i).f0 (l.take i) 0 with
            | none => rfl
            | some j => exact absurd ((atV_none _).2 (by rw [e]; rfl)) hs
          refine ⟨b, rfl, (fun q j h1 h2 => ?_), (fun q => hc.2 (fun j h1 h2 => q j (by omega) h2))⟩
          by_cases hj : j = i
          · subst hj; exact hg
          · exact hc.1 q j (by omega) h2
/-- A bound for the sizes of keys. -/
theorem nth_size {l : List S56} {M : Nat} (h : ∀ p ∈ l, p.f0.size ≤ M) (j : Nat) : (nth l j).f0.size ≤ M := by
  unfold nth
  rw [List.getD_eq_getElem?_getD]
  rcases Nat.lt_or_ge j l.length with hj | hj
  · rw [List.getElem?_eq_getElem hj]; exact h _ (List.getElem_mem hj)
  · rw [List.getElem?_eq_none hj]; exact Nat.zero_le _
theorem right_val (s u : Int) (l : List S56) (hl : l.length ≤ 140737488355328) (M : Nat) (hM : ∀ p ∈ l, p.f0.size ≤ M) (hM2 : M ≤ 140737488355328) (k : Nat) (hk : M + 2 * l.length + 3 < k) : shawmref27_Right.f k s u l = some (okT ⟨s, u, l⟩) := by
  obtain ⟨k, rfl⟩ : ∃ k', k = k' + 1 := ⟨k - 1, by omega⟩
  have hno : ∀ b, b = false → (some false : Option Bool) = some b := fun b h => by rw [h]
  have hf : shawmref27_Right.j0 (k + 1) true s u l = some false := by rw [shawmref27_Right.j0, if_pos rfl]
  have e1 : okT ⟨s, u, l⟩ = (decide (0 ≤ s ∧ s ≤ 8192) && decide (0 ≤ u ∧ u ≤ 8192) && decide (l.length ≤ 32) && okFs l) := rfl
  rw [e1]
  unfold shawmref27_Right.f
  by_cases h1 : s < 0
  · rw [if_pos h1, hf]; exact hno _ (by rw [decide_eq_false (by omega)]; rfl)
  · rw [if_neg h1]
    by_cases h2 : s > 8192
    · rw [if_pos h2, hf]; exact hno _ (by rw [decide_eq_false (by omega)]; rfl)
    · rw [if_neg h2, decide_eq_true (show 0 ≤ s ∧ s ≤ 8192 by omega), Bool.true_and]
      by_cases h3 : u < 0
      · rw [if_pos h3, hf]; exact hno _ (by rw [decide_eq_false (by omega)]; rfl)
      · rw [if_neg h3]
        by_cases h4 : u > 8192
        · rw [if_pos h4, hf]; exact hno _ (by rw [decide_eq_false (by omega)]; rfl)
        · rw [if_neg h4, decide_eq_true (show 0 ≤ u ∧ u ≤ 8192 by omega), Bool.true_and]
          by_cases h5 : (l.length : Int) > 32
          · rw [decide_eq_true h5, hf]; exact hno _ (by rw [decide_eq_false (by omega)]; rfl)
          · rw [decide_eq_false h5, decide_eq_true (show l.length ≤ 32 by omega), Bool.true_and, shawmref27_Right.j0, if_neg (by decide)]
            obtain ⟨b, hb, hc⟩ := right_l0 l hl M (nth_size hM) hM2 s u l.length 0 k (by omega) (by omega) (by omega)
            rw [show (0 : Int) = ((0 : Nat) : Int) from rfl, hb]
            congr 1
            have : b = true ↔ okFs l = true := by
              rw [hc, okFs_iff]
              exact ⟨fun h j hj => h j (by omega) hj, fun h j _ hj => h j hj⟩
            cases b <;> cases ho : okFs l <;> simp_all
end Go.Proofs.YthlmnnjbpikijaaDoor.P
