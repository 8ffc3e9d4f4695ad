/- What was written is read again: the plain law. -/
import Derived.Test.YtnpheeendbchbaaHu
import Derived.Test.YtnpheeendbchbaaHr
import Derived.Test.YtnpheeendbchbaaHm
namespace Go.Proofs.Ytnpheeendbchbaa.P
open Go.RowKit Go.Shelf Go.Proofs.Ytnpheeendbchbaa.Bits Go.Proofs.YtnpheeendbchbaaW.PrintWords Go.Proofs.YtnpheeendbchbaaW.PrintLast Go.Proofs.YtnpheeendbchbaaW.PrintMore
set_option linter.unusedVariables false
set_option linter.unusedSimpArgs false

theorem back_drop (L M R : List Int) : ((L ++ M) ++ R).drop L.length = M ++ R := by rw [List.append_assoc, List.drop_left]
theorem rGet_at (L R : List Int) (v : Int) (n : Nat) (hn : n ≤ 32) (hv : 0 ≤ v ∧ v < 2 ^ n) : rGet (L ++ numb v n ++ R) L.length (n : Int) = (v, 0, L.length + n) := by
  have hl := numb_length v n
  have hvv := val_numb v n
  have ht : ((L ++ numb v n ++ R).drop L.length).take n = numb v n := by rw [back_drop, List.take_append_of_le_length (by omega), List.take_of_length_le (by omega)]
  unfold rGet
  rw [if_neg (by omega), if_neg (by simp only [List.length_append, hl]; omega), Int.toNat_natCast, ht, hvv, Int.emod_eq_of_lt hv.1 hv.2]
theorem zs_zeros (k : Nat) (b : Int) (R : List Int) (hb : b ≠ 0) : zs (List.replicate k 0 ++ b :: R) = k := by
  induction k with
  | zero => simp [zs, hb]
  | succ k ih => rw [List.replicate_succ, List.cons_append, zs, if_pos rfl, ih]
theorem rUnary_at (L R : List Int) (z : Nat) (hz : z ≤ 24) : rUnary (L ++ (numb 0 z ++ numb 1 1) ++ R) L.length 24 = ((z : Int), 0, L.length + z + 1) := by
  have h1 : numb 1 1 = [1] := by decide
  rw [h1, numb_zero]
  have hzs : zs (((L ++ (List.replicate z 0 ++ [1])) ++ R).drop L.length) = z := by
    rw [back_drop, List.append_assoc]; exact zs_zeros z 1 R (by decide)
  unfold rUnary rZeros
  rw [if_neg (by omega), show (24 : Int).toNat = 24 from rfl, hzs, if_neg (by omega), if_pos (by simp)]
theorem unfoldI_foldI {v : Int} (h : -2147483648 ≤ v ∧ v ≤ 2147483647) : unfoldI (foldI v) = v := by
  have h1 := unfold_fold h
  have hb := foldI_bound h
  unfold fUnfold at h1
  rw [if_neg (by omega)] at h1
  exact (Prod.mk.inj h1).1
theorem rRice_at (L R : List Int) {v : Int} {k : Nat} (h : -2147483648 ≤ v ∧ v ≤ 2147483647) (hk : k ≤ 14) : rRice (L ++ word v k ++ R) L.length k = (v, 0, (L ++ word v k).length) := by
  have hfb := foldI_bound h
  have hqb := q_bound h k
  have hpk : (0 : Int) < 2 ^ k := Int.pow_pos (by omega)
  have hmb : 0 ≤ foldI v % 2 ^ k ∧ foldI v % 2 ^ k < 2 ^ k := ⟨Int.emod_nonneg _ (by omega), Int.emod_lt_of_pos _ hpk⟩
  have hdm := Int.mul_ediv_add_emod (foldI v) (2 ^ k)
  by_cases hlt : foldI v / 2 ^ k < 24
  · obtain ⟨z, hz⟩ : ∃ z : Nat, foldI v / 2 ^ k = z := ⟨(foldI v / 2 ^ k).toNat, by omega⟩
    have hw : word v k = numb 0 z ++ numb 1 1 ++ numb (foldI v % 2 ^ k) k := by unfold word; rw [if_pos hlt, hz, Int.toNat_natCast]
    have e1 : L ++ word v k ++ R = L ++ (numb 0 z ++ numb 1 1) ++ (numb (foldI v % 2 ^ k) k ++ R) := by rw [hw]; simp only [List.append_assoc]
    have e2 : L ++ word v k ++ R = (L ++ (numb 0 z ++ numb 1 1)) ++ numb (foldI v % 2 ^ k) k ++ R := by rw [hw]; simp only [List.append_assoc]
    have hu : rUnary (L ++ word v k ++ R) L.length 24 = ((z : Int), 0, L.length + z + 1) := by rw [e1]; exact rUnary_at L _ z (by omega)
    have hl : (L ++ (numb 0 z ++ numb 1 1)).length = L.length + z + 1 := by simp only [List.length_append, numb_length]; omega
    have hg : rGet (L ++ word v k ++ R) (L.length + z + 1) (k : Int) = (foldI v % 2 ^ k, 0, L.length + z + 1 + k) := by rw [e2, ← hl]; exact rGet_at _ R _ k (by omega) hmb
    unfold rRice
    rw [hu]
    dsimp only
    rw [if_neg (by simp), if_pos (by omega), hg]
    dsimp only
    rw [if_neg (by simp)]
    have e3 : (z : Int) * 2 ^ k + foldI v % 2 ^ k = foldI v := by rw [← hz, Int.mul_comm]; exact hdm
    rw [e3, unfoldI_foldI h]
    congr 2
    rw [hw]; simp only [List.length_append, numb_length]; omega
  · have hw : word v k = numb 0 24 ++ numb 1 1 ++ numb (foldI v) 32 := by unfold word; rw [if_neg hlt]
    have e1 : L ++ word v k ++ R = L ++ (numb 0 24 ++ numb 1 1) ++ (numb (foldI v) 32 ++ R) := by rw [hw]; simp only [List.append_assoc]
    have e2 : L ++ word v k ++ R = (L ++ (numb 0 24 ++ numb 1 1)) ++ numb (foldI v) 32 ++ R := by rw [hw]; simp only [List.append_assoc]
    have hu : rUnary (L ++ word v k ++ R) L.length 24 = (((24 : Nat) : Int), 0, L.length + 24 + 1) := by rw [e1]; exact rUnary_at L _ 24 (by omega)
    have hl : (L ++ (numb 0 24 ++ numb 1 1)).length = L.length + 24 + 1 := by simp only [List.length_append, numb_length]
    have hg : rGet (L ++ word v k ++ R) (L.length + 24 + 1) 32 = (foldI v, 0, L.length + 24 + 1 + 32) := by rw [e2, ← hl]; exact rGet_at _ R _ 32 (by omega) ⟨hfb.1, by simp only [Int.reducePow]; omega⟩
    unfold rRice
    rw [hu]
    dsimp only
    rw [if_neg (by simp), if_neg (by decide), hg]
    dsimp only
    rw [if_neg (by simp), if_neg hlt, unfoldI_foldI h]
    congr 2
    rw [hw]; simp only [List.length_append, numb_length]
    try omega
theorem rWords_at {k : Nat} (hk : k ≤ 14) : ∀ (x L R acc : List Int), smallL x → rWords (L ++ wordsBits x k ++ R) k x.length L.length acc = (0, acc ++ x, (L ++ wordsBits x k).length)
  | [], L, R, acc, _ => by
    rw [List.length_nil, rWords]
    simp [wordsBits]
  | v :: x, L, R, acc, hs => by
    have e : L ++ wordsBits (v :: x) k ++ R = L ++ word v k ++ (wordsBits x k ++ R) := by unfold wordsBits; rw [List.flatMap_cons]; simp only [List.append_assoc]
    have e2 : L ++ wordsBits (v :: x) k ++ R = (L ++ word v k) ++ wordsBits x k ++ R := by rw [e]; simp only [List.append_assoc]
    have h1 : rRice (L ++ wordsBits (v :: x) k ++ R) L.length k = (v, 0, (L ++ word v k).length) := by rw [e]; exact rRice_at L _ (hs v (by simp)) hk
    have h2 := rWords_at hk x (L ++ word v k) R (acc ++ [v]) (fun y hy => hs y (by simp [hy]))
    rw [← e2] at h2
    rw [List.length_cons, rWords, h1, if_neg (by simp), h2]
    have e3 : L ++ wordsBits (v :: x) k = (L ++ word v k) ++ wordsBits x k := by unfold wordsBits; rw [List.flatMap_cons]; simp only [List.append_assoc]
    rw [e3]
    simp
theorem rParts_at {l : List Int} (hs : smallL l) (p : Nat) : ∀ (m i : Nat) (L R acc : List Int), i + m ≤ 2 ^ p → rParts (L ++ partsBits l p (List.range' i m) ++ R) (partN l p) m L.length acc = (0, acc ++ (List.range' i m).flatMap (partL l p), (L ++ partsBits l p (List.range' i m)).length)
  | 0, i, L, R, acc, _ => by
    rw [rParts]
    simp [partsBits]
  | m + 1, i, L, R, acc, hm => by
    have hX := partL_small hs p i
    have hXl := partL_length l p i (by omega)
    obtain ⟨⟨k, hkk, hk14⟩, _⟩ := bestW_bound hX
    have hpb : partBits (partL l p i) = numb (k : Int) 4 ++ wordsBits (partL l p i) k := by unfold partBits; rw [hkk, Int.toNat_natCast]
    have e : L ++ partsBits l p (List.range' i (m + 1)) ++ R = L ++ numb (k : Int) 4 ++ (wordsBits (partL l p i) k ++ (partsBits l p (List.range' (i + 1) m) ++ R)) := by
      unfold partsBits; rw [List.range'_succ, List.flatMap_cons, hpb]; simp only [List.append_assoc]
    have e2 : L ++ partsBits l p (List.range' i (m + 1)) ++ R = (L ++ numb (k : Int) 4) ++ wordsBits (partL l p i) k ++ (partsBits l p (List.range' (i + 1) m) ++ R) := by rw [e]; simp only [List.append_assoc]
    have e3 : L ++ partsBits l p (List.range' i (m + 1)) ++ R = (L ++ numb (k : Int) 4 ++ wordsBits (partL l p i) k) ++ partsBits l p (List.range' (i + 1) m) ++ R := by rw [e]; simp only [List.append_assoc]
    have h1 : rGet (L ++ partsBits l p (List.range' i (m + 1)) ++ R) L.length 4 = ((k : Int), 0, L.length + 4) := by rw [e]; exact rGet_at L _ (k : Int) 4 (by omega) ⟨by omega, by simp only [Int.reducePow]; omega⟩
    have hl : (L ++ numb (k : Int) 4).length = L.length + 4 := by rw [List.length_append, numb_length]
    have h2 := rWords_at hk14 (partL l p i) (L ++ numb (k : Int) 4) (partsBits l p (List.range' (i + 1) m) ++ R) acc hX
    rw [← e2, hXl, hl] at h2
    have h3 := rParts_at hs p m (i + 1) (L ++ numb (k : Int) 4 ++ wordsBits (partL l p i) k) R (acc ++ partL l p i) (by omega)
    rw [← e3] at h3
    rw [rParts, h1]
    dsimp only
    rw [if_neg (by simp), if_neg (by omega), Int.toNat_natCast, h2]
    dsimp only
    rw [if_neg (by simp), h3, List.range'_succ, List.flatMap_cons]
    have e4 : L ++ partsBits l p (i :: List.range' (i + 1) m) = (L ++ numb (k : Int) 4 ++ wordsBits (partL l p i) k) ++ partsBits l p (List.range' (i + 1) m) := by
      unfold partsBits; rw [List.flatMap_cons, hpb]; simp only [List.append_assoc]
    rw [e4]
    simp only [List.append_assoc]
theorem parts_take (l : List Int) (p : Nat) : ∀ m, (List.range' 0 m).flatMap (partL l p) = l.take (m * partN l p)
  | 0 => by simp
  | m + 1 => by
    have e : List.range' 0 (m + 1) = List.range' 0 m ++ [m] := by rw [List.range'_concat]; simp
    rw [e, List.flatMap_append, parts_take l p m]
    simp only [List.flatMap_cons, List.flatMap_nil, List.append_nil]
    unfold partL
    rw [show (m + 1) * partN l p = m * partN l p + partN l p by rw [Nat.succ_mul]]
    have h1 : l.take (m * partN l p) = (l.take (m * partN l p + partN l p)).take (m * partN l p) := by rw [List.take_take]; congr 1; omega
    rw [h1, List.take_append_drop]
theorem parts_all {l : List Int} {p : Nat} (h : divB l.length p = true) : (List.range' 0 (2 ^ p)).flatMap (partL l p) = l := by
  have h0 : l.length % 2 ^ p = 0 := by simp only [divB, Bool.and_eq_true, decide_eq_true_eq] at h; exact h.1
  rw [parts_take]
  refine List.take_of_length_le ?_
  unfold partN
  have := Nat.div_add_mod l.length (2 ^ p)
  omega
theorem fRead_list {l : List Int} (hs : smallL l) (hl : l.length ≤ 8192) {p : Nat} (hp : p ≤ 3) (hd : divB l.length p = true) : fRead (listBits l p) 0 (l.length : Int) = (l, 0, (listBits l p).length) := by
  have hg : rGet (listBits l p) 0 2 = ((p : Int), 0, 2) := by
    have := rGet_at [] (partsBits l p (List.range' 0 (2 ^ p))) (p : Int) 2 (by omega) ⟨by omega, by simp only [Int.reducePow]; omega⟩
    simpa [listBits] using this
  have hpp := rParts_at hs p (2 ^ p) 0 (numb (p : Int) 2) [] [] (by omega)
  rw [List.append_nil, List.nil_append, parts_all hd, numb_length] at hpp
  unfold fRead rList
  rw [if_neg (by omega), Int.toNat_natCast, hg]
  dsimp only
  rw [if_neg (c := (0 : Int) ≠ 0) (by simp), Int.toNat_natCast, if_pos hd]
  have hb : listBits l p = numb (p : Int) 2 ++ partsBits l p (List.range' 0 (2 ^ p)) := rfl
  have hN : l.length / 2 ^ p = partN l p := rfl
  rw [hN, hb, hpp]
  simp
theorem fWrite_small {l : List Int} (hs : smallL l) (hl : l.length ≤ 600) : ∃ p, p ≤ 3 ∧ divB l.length p = true ∧ fWrite [] l = (0, listBits l p) ∧ (listBits l p).length ≤ 40000 := by
  obtain ⟨p, hp3, hdv, hoe, hp1, _⟩ := orderW_least l
  have h0 := wholeW0_le hs
  have h1 := hp1 0 (by omega) (by simp [divB, Nat.mod_one])
  have hlen := listBits_length hs p
  refine ⟨p, hp3, hdv, ?_, by omega⟩
  unfold fWrite
  rw [if_neg (by simp [chk_zero.2 ⟨by omega, hs⟩]), hoe]
  dsimp only
  rw [if_neg (by simp; omega), Int.toNat_natCast, List.nil_append]
theorem words_len {x : List Int} (hs : smallL x) {k : Nat} (hk : k ≤ 14) : (wordsBits x k).length ≤ 57 * x.length := by
  have h1 := words_length hs (k := k)
  have h2 := (sumW_bound hs hk).2
  omega
theorem wordsBits_take {X : List Int} {j : Nat} (h : j < X.length) (k : Nat) : wordsBits (X.take (j + 1)) k = wordsBits (X.take j) k ++ word (X.getD j 0) k := by
  rw [take_snoc h]; unfold wordsBits; rw [List.flatMap_append]; simp
theorem words_split {X : List Int} {j : Nat} (h : j < X.length) (k : Nat) : wordsBits X k = wordsBits (X.take j) k ++ word (X.getD j 0) k ++ wordsBits (X.drop (j + 1)) k := by
  have h1 := wordsBits_drop h k
  have h2 : wordsBits X k = wordsBits (X.take j) k ++ wordsBits (X.drop j) k := by
    unfold wordsBits
    rw [← List.flatMap_append, List.take_append_drop]
  rw [h2, h1, List.append_assoc]
end Go.Proofs.Ytnpheeendbchbaa.P
