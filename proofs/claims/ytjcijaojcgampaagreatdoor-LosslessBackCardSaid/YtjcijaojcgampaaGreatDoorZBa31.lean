/- A frame that was written is read again (plain law). shawmlaw20.few, shawmref20.Same of a list and itself; the walk of shawmlaw20.LosslessShort. shawmref20.Right; what Samples answers of the bytes of a frame (plain law). The walk of shawmlaw20.LosslessShort. The walk of shawmlaw20.LosslessBack. -/
import Derived.Test.YtjcijaojcgampaaGreatDoorZBa28
import Derived.Test.YtjcijaojcgampaaGreatDoorZBa30
import Derived.Test.YtjcijaojcgampaaGreatDoorZBa20
section
namespace Go.Proofs.YtjcijaojcgampaaGreatDoor.P
open Go.RowKit Go.Shelf Go.Proofs.YtjcijaojcgampaaGreatDoor.Bits Go.Proofs.YtjcijaojcgampaaGreatDoorW.PrintWords Go.Proofs.YtjcijaojcgampaaGreatDoorW.PrintLast Go.Proofs.YtjcijaojcgampaaGreatDoorW.PrintMore
set_option linter.unusedVariables false
set_option linter.unusedSimpArgs false
theorem len_app (L M : List Int) : (L ++ M).length = L.length + M.length := List.length_append
theorem fRead_at {l : List Int} (hs : smallL l) (hl : l.length ≤ 8192) {p : Nat} (hp : p ≤ 3) (hd : divB l.length p = true) (L R : List Int) : fRead (L ++ listBits l p ++ R) L.length (l.length : Int) = (l, 0, (L ++ listBits l p).length) := by
  have e1 : L ++ listBits l p ++ R = L ++ numb (p : Int) 2 ++ (partsBits l p (List.range' 0 (2 ^ p)) ++ R) := by unfold listBits; simp only [List.append_assoc]
  have e2 : L ++ listBits l p ++ R = (L ++ numb (p : Int) 2) ++ partsBits l p (List.range' 0 (2 ^ p)) ++ R := by rw [e1]; simp only [List.append_assoc]
  have hg : rGet (L ++ listBits l p ++ R) L.length 2 = ((p : Int), 0, L.length + 2) := by rw [e1]; exact rGet_at L _ (p : Int) 2 (by omega) ⟨by omega, by simp only [Int.reducePow]; omega⟩
  have hpp := rParts_at hs p (2 ^ p) 0 (L ++ numb (p : Int) 2) R [] (by omega)
  rw [← e2, List.nil_append, parts_all hd, len_app L (numb (p : Int) 2), numb_length] at hpp
  unfold fRead rList
  rw [if_neg (by omega), Int.toNat_natCast, hg]
  dsimp only
  rw [if_neg (c := (0 : Int) ≠ 0) (by simp), Int.toNat_natCast, if_pos hd]
  have hN : l.length / 2 ^ p = partN l p := rfl
  rw [hN, hpp, if_neg (by simp)]
  have e3 : L ++ numb (p : Int) 2 ++ partsBits l p (List.range' 0 (2 ^ p)) = L ++ listBits l p := by unfold listBits; simp only [List.append_assoc]
  rw [e3]
theorem fWrite_ok {L l : List Int} (h : (fWrite L l).1 = 0) : ∃ p, p ≤ 3 ∧ divB l.length p = true ∧ smallL l ∧ l.length ≤ 8192 ∧ (fWrite L l).2 = L ++ listBits l p := by
  unfold fWrite at h ⊢
  by_cases hc : chk l = 0
  · have hc' := chk_zero.1 hc
    rw [if_neg (by simp [hc])] at h ⊢
    split at h
    · cases h
    · rename_i h2
      rw [if_neg h2]
      obtain ⟨⟨p, hp, hp3, hd, _⟩, _⟩ := orderW_bound hc'.2 (by omega)
      exact ⟨p, hp3, hd, hc'.2, hc'.1, by rw [hp, Int.toNat_natCast]⟩
  · rw [if_pos hc] at h; exact absurd h hc
theorem pow_half (n : Nat) (hn : 1 ≤ n) : (2 : Int) ^ n = 2 * 2 ^ (n - 1) := by
  obtain ⟨m, rfl⟩ : ∃ m, n = m + 1 := ⟨n - 1, by omega⟩
  rw [Nat.add_sub_cancel, Int.pow_succ, Int.mul_comm]
theorem sgn_mod {v : Int} {n : Nat} (hn : 1 ≤ n) (h : -2 ^ (n - 1) ≤ v ∧ v < 2 ^ (n - 1)) : sgn (v % 2 ^ n) n = v := by
  have hp := pow_half n hn
  have hq : (0 : Int) < 2 ^ (n - 1) := Int.pow_pos (by omega)
  unfold sgn
  rw [hp]
  generalize (2 : Int) ^ (n - 1) = q at *
  by_cases h0 : 0 ≤ v
  · rw [Int.emod_eq_of_lt h0 (by omega), if_neg (by omega)]
  · have e : v % (2 * q) = v + 2 * q := by
      rw [← Int.add_emod_right, Int.emod_eq_of_lt (by omega) (by omega)]
    rw [e, if_pos (by omega)]; omega
theorem rSigned_at (L R : List Int) (v : Int) (n : Nat) (hn : 1 ≤ n ∧ n ≤ 32) (hv : -2 ^ (n - 1) ≤ v ∧ v < 2 ^ (n - 1)) : rSigned (L ++ numb (v % 2 ^ n) n ++ R) L.length (n : Int) = (v, 0, L.length + n) := by
  have hl := numb_length (v % 2 ^ n) n
  have hvv := val_numb (v % 2 ^ n) n
  rw [Int.emod_emod] at hvv
  have ht : ((L ++ numb (v % 2 ^ n) n ++ R).drop L.length).take n = numb (v % 2 ^ n) n := by rw [back_drop, List.take_append_of_le_length (by omega), List.take_of_length_le (by omega)]
  unfold rSigned
  rw [if_neg (by omega), if_neg (by simp only [List.length_append, hl]; omega), Int.toNat_natCast, ht, hvv, sgn_mod hn.1 hv]
theorem sgnBits_cons (n : Nat) (v : Int) (x : List Int) : sgnBits n (v :: x) = numb (v % 2 ^ n) n ++ sgnBits n x := by unfold sgnBits; rw [List.flatMap_cons]
theorem sgnsR_at (n : Nat) (hn : 1 ≤ n ∧ n ≤ 32) : ∀ (x L R acc : List Int), (∀ v ∈ x, -2 ^ (n - 1) ≤ v ∧ v < 2 ^ (n - 1)) → sgnsR (L ++ sgnBits n x ++ R) (n : Int) x.length L.length acc = (acc ++ x, 0, (L ++ sgnBits n x).length)
  | [], L, R, acc, _ => by
    rw [List.length_nil, sgnsR]
    simp [sgnBits]
  | v :: x, L, R, acc, hs => by
    have e : L ++ sgnBits n (v :: x) ++ R = L ++ numb (v % 2 ^ n) n ++ (sgnBits n x ++ R) := by rw [sgnBits_cons]; simp only [List.append_assoc]
    have e2 : L ++ sgnBits n (v :: x) ++ R = (L ++ numb (v % 2 ^ n) n) ++ sgnBits n x ++ R := by rw [e]; simp only [List.append_assoc]
    have hl : (L ++ numb (v % 2 ^ n) n).length = L.length + n := by rw [List.length_append, numb_length]
    have h1 : rSigned (L ++ sgnBits n (v :: x) ++ R) L.length (n : Int) = (v, 0, L.length + n) := by rw [e]; exact rSigned_at L _ v n hn (hs v (by simp))
    have h2 := sgnsR_at n hn x (L ++ numb (v % 2 ^ n) n) R (acc ++ [v]) (fun y hy => hs y (by simp [hy]))
    rw [← e2, hl] at h2
    rw [List.length_cons, sgnsR, h1, if_neg (by simp), h2, sgnBits_cons]
    simp only [List.append_assoc, List.cons_append, List.nil_append]
theorem coefR_at : ∀ (x L R acc : List Int), (∀ v ∈ x, -127 ≤ v ∧ v ≤ 127) → coefR (L ++ sgnBits 8 x ++ R) x.length L.length acc = (acc ++ x, 0, (L ++ sgnBits 8 x).length)
  | [], L, R, acc, _ => by
    rw [List.length_nil, coefR]
    simp [sgnBits]
  | v :: x, L, R, acc, hs => by
    have hv := hs v (by simp)
    have e : L ++ sgnBits 8 (v :: x) ++ R = L ++ numb (v % 2 ^ 8) 8 ++ (sgnBits 8 x ++ R) := by rw [sgnBits_cons]; simp only [List.append_assoc]
    have e2 : L ++ sgnBits 8 (v :: x) ++ R = (L ++ numb (v % 2 ^ 8) 8) ++ sgnBits 8 x ++ R := by rw [e]; simp only [List.append_assoc]
    have hl : (L ++ numb (v % 2 ^ 8) 8).length = L.length + 8 := by rw [List.length_append, numb_length]
    have h1 : rSigned (L ++ sgnBits 8 (v :: x) ++ R) L.length 8 = (v, 0, L.length + 8) := by rw [e]; exact rSigned_at L _ v 8 (by omega) (by simp only [Nat.reduceSub, Int.reducePow]; omega)
    have h2 := coefR_at x (L ++ numb (v % 2 ^ 8) 8) R (acc ++ [v]) (fun y hy => hs y (by simp [hy]))
    rw [← e2, hl] at h2
    rw [List.length_cons, coefR, h1, if_neg (by simp), if_neg (by dsimp only; omega), h2, sgnBits_cons]
    simp only [List.append_assoc, List.cons_append, List.nil_append]
theorem sig_within {x : List Int} (h : sigL x) : Lin.within 2097152 x := fun v hv => by have := h v hv; omega
theorem fAdd_diffs {x : List Int} {k : Nat} (hs : sigL x) (hl : x.length ≤ 128) (hk : k ≤ 4) : fAdd (Lin.diffs x k) (k : Int) = (x, 0) := by
  have hw := sig_within hs
  have hc : Lin.chk x 2097152 = 0 := Lin.chk_ok (by omega) hw
  unfold fAdd Lin.linear_Add.f
  rw [Int.toNat_natCast, Lin.diffs_length, if_pos (by omega), if_neg (by omega), if_pos (Lin.chk_ok (by rw [Lin.diffs_length]; omega) (Lin.within_mono (Lin.within_diffs hw k hk) (by omega))), Lin.sums_diffs hw]
  dsimp only
  rw [if_pos hc]; rfl
theorem fRest_resid {x f : List Int} (hs : sigL x) (hl : x.length ≤ 128) (hf : Lin.isF f = true) : fRest (Lin.resid (Lin.wts f) x) f = (x, 0) := by
  have hw := sig_within hs
  obtain ⟨_, hWb, hWl⟩ := Lin.isF_wts hf
  have hWb' : Lin.within 16777216 (Lin.wts f) := Lin.within_mono hWb (by omega)
  have hl12 := (Lin.isF_within hf).1
  have hq := Lin.restF_resid (Lin.wts f) x hw x.length 0 (by omega)
  rw [List.take_zero, List.drop_zero] at hq
  unfold fRest Lin.linear_Restore.f
  rw [if_pos ⟨by rw [Lin.resid_length]; omega, by omega⟩, if_neg (by rw [hf]; decide), if_pos (Lin.chk_ok (by rw [Lin.resid_length]; omega) (Lin.resid_within hWb' hw (by omega))), hq]
  rfl
theorem allSame_rep {x : List Int} (h : allSame x = true) : List.replicate x.length (x.getD 0 0) = x := by
  unfold allSame at h
  rw [List.all_eq_true] at h
  refine (List.eq_replicate_iff.2 ⟨rfl, fun v hv => ?_⟩).symm
  simpa using h v hv
/-- A signal that was written with a plan is read again. -/
theorem told_at {x : List Int} {q : Nat × Nat} (hq : okPlan q) (hs : sigL x) (h1 : 1 ≤ x.length) (hl : x.length ≤ 128) (hok : (planW x q).2 = true) (L R : List Int) :
    ∃ B, (planW x q).1 = numb (q.1 : Int) 2 ++ B ∧ toldR (L ++ B ++ R) L.length (q.1 : Int) x.length = (x, 0, (L ++ B).length) := by
  have hx0 : -65536 ≤ x.getD 0 0 ∧ x.getD 0 0 ≤ 65535 := hs _ (by rw [List.getD_eq_getElem?_getD, List.getElem?_eq_getElem (by omega)]; exact List.getElem_mem _)
  rcases hq with rfl | rfl | ⟨h2, hk⟩ | ⟨h3, hp1, hp12⟩
  · refine ⟨numb (x.getD 0 0 % 2 ^ 17) 17, rfl, ?_⟩
    have hsm : allSame x = true := hok
    unfold toldR aliR
    rw [if_pos (show (((0, 0) : Nat × Nat).1 : Int) = 0 from rfl)]
    have h := rSigned_at L R (x.getD 0 0) 17 (by omega) (by simp only [Nat.reduceSub, Int.reducePow]; omega)
    rw [show ((17 : Nat) : Int) = 17 from rfl] at h
    rw [h]
    dsimp only
    rw [if_neg (by simp), allSame_rep hsm, List.length_append, numb_length]
  · refine ⟨sgnBits 17 x, rfl, ?_⟩
    unfold toldR
    rw [if_neg (by decide), if_pos (show (((1, 0) : Nat × Nat).1 : Int) = 1 from rfl)]
    have h := sgnsR_at 17 (by omega) x L R [] (fun v hv => by have := hs v hv; simp only [Nat.reduceSub, Int.reducePow]; omega)
    rw [show ((17 : Nat) : Int) = 17 from rfl, List.nil_append] at h
    exact h
  · obtain ⟨k0, k⟩ := q
    obtain rfl : k0 = 2 := h2
    have hk : k ≤ 4 := hk
    have hw : planW x (2, k) = ((wDiff x k).2, (wDiff x k).1 == 0) := rfl
    rw [hw] at hok
    obtain ⟨p, hp3, hd, hsm, hdl, hb⟩ := fWrite_ok (show (wDiff x k).1 = 0 by simpa using hok)
    refine ⟨numb (k : Int) 3 ++ listBits (Lin.diffs x k) p, ?_, ?_⟩
    · rw [hw]
      show (wDiff x k).2 = _
      unfold wDiff
      rw [hb, List.append_assoc]; rfl
    · unfold toldR
      dsimp only
      rw [if_neg (by decide), if_neg (by decide), if_pos (show ((2 : Nat) : Int) = 2 from rfl)]
      have e1 : L ++ (numb (k : Int) 3 ++ listBits (Lin.diffs x k) p) ++ R = L ++ numb (k : Int) 3 ++ (listBits (Lin.diffs x k) p ++ R) := by simp only [List.append_assoc]
      have e2 : L ++ (numb (k : Int) 3 ++ listBits (Lin.diffs x k) p) ++ R = (L ++ numb (k : Int) 3) ++ listBits (Lin.diffs x k) p ++ R := by simp only [List.append_assoc]
      have hg : rGet (L ++ (numb (k : Int) 3 ++ listBits (Lin.diffs x k) p) ++ R) L.length 3 = ((k : Int), 0, L.length + 3) := by rw [e1]; exact rGet_at L _ (k : Int) 3 (by omega) ⟨by omega, by simp only [Int.reducePow]; omega⟩
      have hf := fRead_at hsm hdl hp3 hd (L ++ numb (k : Int) 3) R
      rw [← e2, Lin.diffs_length, len_app L (numb (k : Int) 3), numb_length] at hf
      unfold addR
      rw [hg]
      dsimp only
      rw [if_neg (by simp), if_neg (by omega), hf]
      dsimp only
      rw [if_neg (by simp), fAdd_diffs hs hl hk, List.append_assoc]
  · obtain ⟨k0, k⟩ := q
    obtain rfl : k0 = 3 := h3
    have hp1 : 1 ≤ k := hp1
    have hp12 : k ≤ 12 := hp12
    obtain ⟨hisF, hfl, hfb⟩ := reflected_isF x k hp12
    have hw : planW x (3, k) = ((wFilt x k).2, (wFilt x k).1 == 0) := rfl
    rw [hw] at hok
    obtain ⟨p, hp3, hd, hsm, hdl, hb⟩ := fWrite_ok (show (wFilt x k).1 = 0 by simpa using hok)
    obtain ⟨f, hfe⟩ : ∃ f, f = Lin.reflected x k := ⟨_, rfl⟩
    rw [← hfe] at hisF hfl hfb hd hsm hdl hb
    have hrl := Lin.resid_length (Lin.wts f) x
    have hrr := fRest_resid hs hl hisF
    refine ⟨numb (k : Int) 4 ++ (sgnBits 8 f ++ listBits (Lin.resid (Lin.wts f) x) p), ?_, ?_⟩
    · rw [hw]
      show (wFilt x k).2 = _
      unfold wFilt
      rw [← hfe, hb]
      unfold filtHead
      rw [← hfe]
      simp only [List.append_assoc]; rfl
    · generalize Lin.resid (Lin.wts f) x = d at *
      unfold toldR
      dsimp only
      rw [if_neg (by decide), if_neg (by decide), if_neg (by decide)]
      have e1 : L ++ (numb (k : Int) 4 ++ (sgnBits 8 f ++ listBits d p)) ++ R = L ++ numb (k : Int) 4 ++ (sgnBits 8 f ++ (listBits d p ++ R)) := by simp only [List.append_assoc]
      have e2 : L ++ (numb (k : Int) 4 ++ (sgnBits 8 f ++ listBits d p)) ++ R = (L ++ numb (k : Int) 4) ++ sgnBits 8 f ++ (listBits d p ++ R) := by simp only [List.append_assoc]
      have e3 : L ++ (numb (k : Int) 4 ++ (sgnBits 8 f ++ listBits d p)) ++ R = (L ++ numb (k : Int) 4 ++ sgnBits 8 f) ++ listBits d p ++ R := by simp only [List.append_assoc]
      have hg : rGet (L ++ (numb (k : Int) 4 ++ (sgnBits 8 f ++ listBits d p)) ++ R) L.length 4 = ((k : Int), 0, L.length + 4) := by rw [e1]; exact rGet_at L _ (k : Int) 4 (by omega) ⟨by omega, by simp only [Int.reducePow]; omega⟩
      have hc := coefR_at f (L ++ numb (k : Int) 4) (listBits d p ++ R) [] hfb
      rw [← e2, hfl, len_app L (numb (k : Int) 4), numb_length, List.nil_append] at hc
      have hf := fRead_at hsm hdl hp3 hd (L ++ numb (k : Int) 4 ++ sgnBits 8 f) R
      rw [← e3, hrl] at hf
      unfold restR
      rw [hg]
      dsimp only
      rw [if_neg (by simp), if_neg (by omega), Int.toNat_natCast, hc]
      dsimp only
      rw [if_neg (by simp), hf]
      dsimp only
      rw [if_neg (by simp), hrr]
      simp only [List.append_assoc]
theorem sig_at {x : List Int} (hc : chkS x = 0) (L R : List Int) : sigR (L ++ sigBits x ++ R) L.length x.length = (x, 0, (L ++ sigBits x).length) := by
  obtain ⟨⟨h1, hl⟩, hs⟩ := chkS_zero.1 hc
  have hok := ((planL_best x).some (planL_found x)).1
  obtain ⟨B, hB, ht⟩ := told_at (plans_ok _ (planL_mem x)) hs h1 hl hok (L ++ numb ((planL x).1.1 : Int) 2) R
  have hk : (planL x).1.1 ≤ 3 := by
    rcases plans_ok _ (planL_mem x) with h | h | ⟨h, _⟩ | ⟨h, _⟩
    · rw [h]; decide
    · rw [h]; decide
    · omega
    · omega
  have hsb : sigBits x = numb ((planL x).1.1 : Int) 2 ++ B := hB
  rw [hsb]
  generalize (planL x).1.1 = k at *
  have e1 : L ++ (numb (k : Int) 2 ++ B) ++ R = L ++ numb (k : Int) 2 ++ (B ++ R) := by simp only [List.append_assoc]
  have e2 : L ++ (numb (k : Int) 2 ++ B) ++ R = (L ++ numb (k : Int) 2) ++ B ++ R := by simp only [List.append_assoc]
  have hg : rGet (L ++ (numb (k : Int) 2 ++ B) ++ R) L.length 2 = ((k : Int), 0, L.length + 2) := by rw [e1]; exact rGet_at L _ (k : Int) 2 (by omega) ⟨by omega, by simp only [Int.reducePow]; omega⟩
  rw [← e2, len_app L (numb (k : Int) 2), numb_length] at ht
  unfold sigR
  rw [hg]
  dsimp only
  rw [if_neg (by simp), ht]
  dsimp only
  rw [if_neg (by simp), hc, List.append_assoc]
theorem sigsR_at {n : Nat} : ∀ (ls : List (List Int)) (L R : List Int) (acc : List (List Int)), (∀ x ∈ ls, chkS x = 0 ∧ x.length = n) → sigsR (L ++ ls.flatMap sigBits ++ R) n ls.length L.length acc = (acc ++ ls, 0, (L ++ ls.flatMap sigBits).length)
  | [], L, R, acc, _ => by
    rw [List.length_nil, sigsR]
    simp
  | x :: ls, L, R, acc, h => by
    obtain ⟨hc, hn⟩ := h x (by simp)
    have e1 : L ++ (x :: ls).flatMap sigBits ++ R = L ++ sigBits x ++ (ls.flatMap sigBits ++ R) := by rw [List.flatMap_cons]; simp only [List.append_assoc]
    have e2 : L ++ (x :: ls).flatMap sigBits ++ R = (L ++ sigBits x) ++ ls.flatMap sigBits ++ R := by rw [e1]; simp only [List.append_assoc]
    have h1 : sigR (L ++ (x :: ls).flatMap sigBits ++ R) L.length n = (x, 0, (L ++ sigBits x).length) := by rw [e1, ← hn]; exact sig_at hc L _
    have h2 := sigsR_at ls (L ++ sigBits x) R (acc ++ [x]) (fun y hy => h y (by simp [hy]))
    rw [← e2] at h2
    rw [List.length_cons, sigsR, h1, if_neg (by simp), h2, List.flatMap_cons]
    simp only [List.append_assoc, List.cons_append, List.nil_append]
theorem mid_undone {x y : List Int} (hl : y.length = x.length) : lefL (midsL x y) (difsL x y) = x ∧ rigL (midsL x y) (difsL x y) = y := by
  have hml : (midsL x y).length = x.length := by simp [midsL]
  have hg : ∀ i, i < x.length → (midsL x y).getD i 0 = midM (x.getD i 0) (y.getD i 0) ∧ (difsL x y).getD i 0 = x.getD i 0 - y.getD i 0 := fun i hi => by
    constructor
    · unfold midsL; rw [List.getD_eq_getElem?_getD, List.getElem?_map, List.getElem?_range hi]; rfl
    · unfold difsL; rw [List.getD_eq_getElem?_getD, List.getElem?_map, List.getElem?_range hi]; rfl
  refine ⟨List.ext_getElem (by simp [lefL, hml]) (fun i h1 h2 => ?_), List.ext_getElem (by simp [rigL, hml, hl]) (fun i h1 h2 => ?_)⟩
  · simp only [lefL, List.getElem_map, List.getElem_range]
    rw [(hg i h2).1, (hg i h2).2]
    have : x.getD i 0 = x[i] := by rw [List.getD_eq_getElem?_getD, List.getElem?_eq_getElem h2]; rfl
    unfold sideR midM
    omega
  · have h3 : i < x.length := by omega
    simp only [rigL, List.getElem_map, List.getElem_range]
    rw [(hg i h3).1, (hg i h3).2]
    have : y.getD i 0 = y[i] := by rw [List.getD_eq_getElem?_getD, List.getElem?_eq_getElem h2]; rfl
    unfold sideR midM
    omega
/-- A frame that was written is read again. -/
theorem frame_at {ls : List (List Int)} (h : okF ls = true) (L R : List Int) : readR (L ++ frameBits ls ++ R) L.length ls.length (ls.getD 0 []).length = (ls, 0, (L ++ frameBits ls).length) := by
  obtain ⟨hn, ho⟩ := (okF_iff ls).1 h
  have hch := okF_chk h
  by_cases h1 : ls.length = 1
  · have hfb : frameBits ls = ls.flatMap sigBits := by unfold frameBits; rw [if_pos h1]
    have hs := sigsR_at (n := (ls.getD 0 []).length) ls L R [] (fun x hx => ⟨hch x hx, ((ho x hx).1).1⟩)
    rw [List.nil_append] at hs
    unfold readR midR outR
    rw [hfb, if_neg (show ¬ ls.length = 2 by omega)]
    dsimp only
    rw [if_neg (by simp), hs]
    dsimp only
    rw [if_neg (by simp), if_neg (c := (0 : Int) = 1) (by decide), if_pos h]
  · obtain ⟨a, b, rfl⟩ : ∃ a b, ls = [a, b] := by
      match ls, (by omega : ls.length = 2) with
      | [a, b], _ => exact ⟨a, b, rfl⟩
    have hA := ho a (by simp)
    have hB := ho b (by simp)
    rw [show ([a, b] : List (List Int)).getD 0 [] = a from rfl] at hA hB ⊢
    rw [show ([a, b] : List (List Int)).length = 2 from rfl]
    have hfb : frameBits [a, b] = if (frame1 a b).length < (frame0 [a, b]).length then frame1 a b else frame0 [a, b] := rfl
    rw [hfb]
    unfold readR midR
    rw [if_pos rfl]
    by_cases hlt : (frame1 a b).length < (frame0 [a, b]).length
    · rw [if_pos hlt]
      have hcm := mids_chk hB.1.1 hA.1.2 hA.2 hB.2
      unfold frame1
      generalize hT : [midsL a b, difsL a b] = T
      have hTl : T.length = 2 := by rw [← hT]; rfl
      have e1 : L ++ (numb 1 1 ++ T.flatMap sigBits) ++ R = L ++ numb 1 1 ++ (T.flatMap sigBits ++ R) := by simp only [List.append_assoc]
      have e2 : L ++ (numb 1 1 ++ T.flatMap sigBits) ++ R = (L ++ numb 1 1) ++ T.flatMap sigBits ++ R := by simp only [List.append_assoc]
      have hg : rGet (L ++ (numb 1 1 ++ T.flatMap sigBits) ++ R) L.length 1 = (1, 0, L.length + 1) := by rw [e1]; exact rGet_at L _ 1 1 (by omega) (by decide)
      have hs := sigsR_at (n := a.length) T (L ++ numb 1 1) R [] (fun x hx => by
        rw [← hT] at hx
        simp only [List.mem_cons, List.not_mem_nil, or_false] at hx
        rcases hx with rfl | rfl
        · exact ⟨hcm.1, by simp [midsL]⟩
        · exact ⟨hcm.2, by simp [difsL]⟩)
      rw [← e2, hTl, len_app L (numb 1 1), numb_length, List.nil_append] at hs
      rw [hg]
      dsimp only
      rw [if_neg (by simp), hs]
      dsimp only
      have ho2 : outR 1 T = [a, b] := by
        rw [← hT]
        obtain ⟨u1, u2⟩ := mid_undone (x := a) (y := b) hB.1.1
        unfold outR
        rw [if_pos rfl]
        show [lefL (midsL a b) (difsL a b), rigL (midsL a b) (difsL a b)] = _
        rw [u1, u2]
      rw [if_neg (by simp), ho2, if_pos h, List.append_assoc]
    · rw [if_neg hlt]
      unfold frame0
      generalize hT : [a, b] = T at *
      have hTl : T.length = 2 := by rw [← hT]; rfl
      have e1 : L ++ (numb 0 1 ++ T.flatMap sigBits) ++ R = L ++ numb 0 1 ++ (T.flatMap sigBits ++ R) := by simp only [List.append_assoc]
      have e2 : L ++ (numb 0 1 ++ T.flatMap sigBits) ++ R = (L ++ numb 0 1) ++ T.flatMap sigBits ++ R := by simp only [List.append_assoc]
      have hg : rGet (L ++ (numb 0 1 ++ T.flatMap sigBits) ++ R) L.length 1 = (0, 0, L.length + 1) := by rw [e1]; exact rGet_at L _ 0 1 (by omega) (by decide)
      have hs := sigsR_at (n := a.length) T (L ++ numb 0 1) R [] (fun x hx => by
        refine ⟨hch x hx, ?_⟩
        rw [← hT] at hx
        simp only [List.mem_cons, List.not_mem_nil, or_false] at hx
        rcases hx with rfl | rfl
        · rfl
        · exact hB.1.1)
      rw [← e2, hTl, len_app L (numb 0 1), numb_length, List.nil_append] at hs
      rw [hg]
      dsimp only
      rw [if_neg (by simp), hs]
      dsimp only
      rw [if_neg (by simp)]
      unfold outR
      rw [if_neg (c := (0 : Int) = 1) (by decide), if_pos h, List.append_assoc]
theorem frame_isN {ls : List (List Int)} (h : okF ls = true) : isN (ls.length : Int) ((ls.getD 0 []).length : Int) = true := by
  obtain ⟨hn, ho⟩ := (okF_iff ls).1 h
  have h0 := (ho (ls.getD 0 []) (by rw [List.getD_eq_getElem?_getD, List.getElem?_eq_getElem (by omega)]; exact List.getElem_mem _)).1.2
  exact (isN_iff _ _).2 ⟨by omega, by omega⟩
theorem frame_readF {ls : List (List Int)} (h : okF ls = true) (L R : List Int) : fReadF (L ++ frameBits ls ++ R) L.length (ls.length : Int) ((ls.getD 0 []).length : Int) = (ls, 0, (L ++ frameBits ls).length) := by
  unfold fReadF
  rw [if_pos (frame_isN h), Int.toNat_natCast, Int.toNat_natCast, frame_at h L R, if_neg (by simp)]
end Go.Proofs.YtjcijaojcgampaaGreatDoor.P
end
section
namespace Go.Proofs.YtjcijaojcgampaaGreatDoor.P
open Go.RowKit Go.Shelf Go.Proofs.YtjcijaojcgampaaGreatDoor.Bits Go.Proofs.YtjcijaojcgampaaGreatDoorW.PrintWords Go.Proofs.YtjcijaojcgampaaGreatDoorW.PrintLast Go.Proofs.YtjcijaojcgampaaGreatDoorW.PrintMore
set_option linter.unusedVariables false
set_option linter.unusedSimpArgs false
attribute [local go_sem ↓] Go.wp_at_zero Go.wp_at_succ
theorem few_l0 (ls : List (List Int)) (hl : ls.length ≤ 9000000000000000000) : ∀ (f i : Nat) (x : Int), i ≤ ls.length → ls.length - i < f → ∃ b, shawmlaw20_few.l0 f x ls (ls.length : Int) (i : Int) = some b
  | 0, i, x, _, h => by omega
  | f + 1, i, x, hi, hf => by
    unfold shawmlaw20_few.l0
    by_cases hlt : i < ls.length
    · rw [if_pos (by omega), if_pos (by omega), if_pos (by omega)]
      split
      · exact ⟨_, rfl⟩
      · rw [wrap64_id (x := (i : Int) + 1) (by omega) (by omega)]
        exact few_l0 ls hl f (i + 1) _ (by omega) (by omega)
    · rw [if_neg (by omega)]; exact ⟨_, rfl⟩
theorem same_l1 (ls : List (List Int)) (j : Nat) (hj : j < ls.length) (hjl : ls.length ≤ 1000) (x : List Int) (hx : ls.getD j [] = x) (hxl : x.length ≤ 100000) (F : Nat) : ∀ (d i : Nat), i + d = x.length → shawmref20_Same.l1 (F + d + 1) ls ls (j : Int) (ls.length : Int) (j : Int) (x.length : Int) (i : Int) = shawmref20_Same.l0 F ls ls (ls.length : Int) ((j + 1 : Nat) : Int)
  | 0, i, h => by
    unfold shawmref20_Same.l1
    rw [if_neg (by omega), wrap64_id (by omega) (by omega)]
    rfl
  | d + 1, i, h => by
    have ih := same_l1 ls j hj hjl x hx hxl F d (i + 1) (by omega)
    rw [show F + (d + 1) + 1 = (F + d + 1) + 1 by omega]
    unfold shawmref20_Same.l1
    rw [rd_L1_nat, hx, if_pos (by omega), if_pos (by omega), if_pos (by omega), if_pos (by omega), if_pos (by omega), if_pos (by omega), if_pos (by omega), if_pos rfl, wrap64_id (by omega) (by omega)]
    exact ih
theorem same_l0' (ls : List (List Int)) (hl : ls.length ≤ 1000) (hx : ∀ x ∈ ls, x.length ≤ 100000) : ∀ (d i F : Nat), i + d = ls.length → 100002 * d < F → shawmref20_Same.l0 F ls ls (ls.length : Int) (i : Int) = some true
  | 0, i, F + 1, h, _ => by
    unfold shawmref20_Same.l0
    rw [if_neg (by omega)]
  | d + 1, i, F + 1, h, hF => by
    have hm : ls.getD i [] ∈ ls := by rw [List.getD_eq_getElem?_getD, List.getElem?_eq_getElem (by omega)]; exact List.getElem_mem _
    have hxl := hx _ hm
    unfold shawmref20_Same.l0
    rw [rd_L1_nat, if_pos (by omega), if_pos (by omega), if_pos (by omega), if_pos (by omega), if_pos rfl]
    obtain ⟨G, hG⟩ : ∃ G, F = G + (ls.getD i []).length + 1 := ⟨F - (ls.getD i []).length - 1, by omega⟩
    have h1 := same_l1 ls i (by omega) hl _ rfl hxl G (ls.getD i []).length 0 (by omega)
    rw [hG]
    refine Eq.trans h1 ?_
    exact same_l0' ls hl hx d (i + 1) G (by omega) (by omega)
theorem same_refl {ls : List (List Int)} (hl : ls.length ≤ 1000) (hx : ∀ x ∈ ls, x.length ≤ 100000) : shawmref20_Same.f (100002 * ls.length + 1) ls ls = some true := by
  unfold shawmref20_Same.f
  rw [if_pos rfl]
  exact same_l0' ls hl hx ls.length 0 _ (by omega) (by omega)
/-- Same of a list and itself. -/
theorem SameL_any (A : Option Addr) (c : Nat) (A2 : Option Addr) (c2 : Nat) (ls : List (List Int)) (w : World) (h : Kd.C KdL w A ls.length ls) (hc : ls.length ≤ c) (h2 : Kd.C KdL w A2 ls.length ls) (hc2 : ls.length ≤ c2) (hl : ls.length ≤ 1000) (hx : ∀ x ∈ ls, x.length ≤ 100000) :
    Calls Tryz.prog 23 #[.slice A ls.length c, .slice A2 ls.length c2] w fun e w' => e = .returned (.bool true) ∧ Drawn0 w w' :=
  shawmref20_Same.calls _ A c ls A2 c2 ls true w h hc h2 hc2 (same_refl hl hx)
end Go.Proofs.YtjcijaojcgampaaGreatDoor.P
end
section
namespace Go.Proofs.YtjcijaojcgampaaGreatDoor.P
open Go.RowKit Go.Shelf Go.Proofs.YtjcijaojcgampaaGreatDoor.Bits Go.Proofs.YtjcijaojcgampaaGreatDoorW.PrintWords Go.Proofs.YtjcijaojcgampaaGreatDoorW.PrintLast Go.Proofs.YtjcijaojcgampaaGreatDoorW.PrintMore
set_option linter.unusedVariables false
set_option linter.unusedSimpArgs false
theorem samp16_l0 (x : List Int) (hl : x.length ≤ 9000000000000000000) : ∀ (f i : Nat), i ≤ x.length → x.length - i < f → shawmref20_Samples16.l0 f x (x.length : Int) (i : Int) = some ((x.drop i).all s16)
  | 0, i, _, h => by omega
  | f + 1, i, hi, hf => by
    unfold shawmref20_Samples16.l0
    by_cases hlt : i < x.length
    · have h0 : rd x (i : Int) = x[i] := by unfold rd; rw [Int.toNat_natCast, List.getD_eq_getElem?_getD, List.getElem?_eq_getElem hlt]; rfl
      have ih := samp16_l0 x hl f (i + 1) (by omega) (by omega)
      rw [if_pos (by omega), if_pos (by omega), if_pos (by omega), h0, wrap64_id (by omega) (by omega), List.drop_eq_getElem_cons hlt, List.all_cons]
      by_cases h1 : x[i] < -32768
      · rw [if_pos h1, show s16 x[i] = false by unfold s16; simp; omega]; rfl
      rw [if_neg h1]
      by_cases h2 : x[i] > 32767
      · rw [if_pos h2, show s16 x[i] = false by unfold s16; simp; omega]; rfl
      rw [if_neg h2, show s16 x[i] = true by unfold s16; simp; omega, Bool.true_and]
      exact ih
    · rw [if_neg (by omega), List.drop_eq_nil_of_le (by omega)]; rfl
theorem samp16_f (x : List Int) (hl : x.length ≤ 9000000000000000000) (k : Nat) (hk : x.length < k) : shawmref20_Samples16.f k x = some (x.all s16) := by
  unfold shawmref20_Samples16.f
  have := samp16_l0 x hl k 0 (by omega) (by omega)
  rw [List.drop_zero] at this
  exact this
theorem right_l0 (ls : List (List Int)) (n M : Nat) (hn : ls.length ≤ 2) (hM : M ≤ 9000000000000000000) (hx : ∀ x ∈ ls, x.length ≤ M) : ∀ (d i F : Nat), i + d = ls.length → M + 2 + d < F →
    shawmref20_Right.l0 F (n : Int) ls (ls.length : Int) (i : Int) = some ((ls.drop i).all (fun x => decide (x.length = n) && x.all s16) && (decide (1 ≤ n) && decide (n ≤ 128)))
  | 0, i, F + 1, h, _ => by
    unfold shawmref20_Right.l0
    rw [if_neg (by omega), List.drop_eq_nil_of_le (by omega)]
    simp only [List.all_nil, Bool.true_and]
    by_cases h1 : 1 ≤ n
    · rw [if_pos (show (n : Int) ≥ 1 by omega), decide_eq_true h1, Bool.true_and]; congr 1; rw [decide_eq_decide]; omega
    · rw [if_neg (show ¬ (n : Int) ≥ 1 by omega), decide_eq_false h1]; rfl
  | d + 1, i, F + 1, h, hF => by
    have hlt : i < ls.length := by omega
    have h0 : rd_L1 ls (i : Int) = ls[i] := by rw [rd_L1_nat, List.getD_eq_getElem?_getD, List.getElem?_eq_getElem hlt]; rfl
    have hxl := hx ls[i] (List.getElem_mem hlt)
    have ih := right_l0 ls n M hn hM hx d (i + 1) F (by omega) (by omega)
    unfold shawmref20_Right.l0
    rw [if_pos (by omega), if_pos (by omega), if_pos (by omega), h0, List.drop_eq_getElem_cons hlt, List.all_cons]
    by_cases h1 : ls[i].length = n
    · rw [if_pos (by omega), decide_eq_true h1, Bool.true_and, samp16_f _ (by omega) F (by omega)]
      simp only [Option.bind_some]
      cases ls[i].all s16
      · rfl
      · rw [if_pos rfl, Bool.true_and, wrap64_id (by omega) (by omega)]
        exact ih
    · rw [if_neg (by omega), decide_eq_false h1]; rfl
theorem right_eq (ls : List (List Int)) : okF ls = (decide (1 ≤ ls.length ∧ ls.length ≤ 2) && (ls.all (fun x => decide (x.length = (ls.getD 0 []).length) && x.all s16) && (decide (1 ≤ (ls.getD 0 []).length) && decide ((ls.getD 0 []).length ≤ 128)))) := by
  unfold okF
  by_cases hn : 1 ≤ ls.length ∧ ls.length ≤ 2
  · rw [decide_eq_true hn, Bool.true_and, Bool.true_and]
    have hm : ls.getD 0 [] ∈ ls := by rw [List.getD_eq_getElem?_getD, List.getElem?_eq_getElem (by omega)]; exact List.getElem_mem _
    generalize ls.getD 0 [] = z at *
    rw [Bool.eq_iff_iff]
    unfold okC
    simp only [List.all_eq_true, Bool.and_eq_true, decide_eq_true_eq]
    constructor
    · intro h
      exact ⟨fun x hx => ⟨(h x hx).1.1, (h x hx).2⟩, (h z hm).1.2⟩
    · rintro ⟨h, h1⟩ x hx
      exact ⟨⟨(h x hx).1, by rw [(h x hx).1]; exact h1⟩, (h x hx).2⟩
  · rw [decide_eq_false hn]; rfl
theorem right_f (ls : List (List Int)) (M : Nat) (hM : M ≤ 9000000000000000000) (hx : ∀ x ∈ ls, x.length ≤ M) : shawmref20_Right.f (M + 10) ls = some (okF ls) := by
  have hj : ∀ b, shawmref20_Right.j0 (M + 10) ls b = if b = true then some false else (if 0 < (ls.length : Int) then (shawmref20_Right.l0 (M + 9) ((rd_L1 ls 0).length : Int) ls (ls.length : Int) 0) else none) := fun b => rfl
  unfold shawmref20_Right.f
  rw [hj, hj, right_eq]
  by_cases h1 : (ls.length : Int) < 1
  · rw [if_pos h1, if_pos rfl, decide_eq_false (by omega)]; rfl
  rw [if_neg h1]
  by_cases h2 : (ls.length : Int) > 2
  · rw [if_pos (by rw [decide_eq_true h2]), decide_eq_false (by omega)]; rfl
  rw [if_neg (by rw [decide_eq_false h2]; simp), if_pos (by omega), decide_eq_true (by omega), Bool.true_and]
  have := right_l0 ls (ls.getD 0 []).length M (by omega) hM hx ls.length 0 (M + 9) (by omega) (by omega)
  rw [List.drop_zero] at this
  exact this
theorem Right_any (A : Option Addr) (c : Nat) (ls : List (List Int)) (M : Nat) (w : World) (hC : Kd.C KdL w A ls.length ls) (hc : ls.length ≤ c) (hM : M ≤ 9000000000000000000) (hx : ∀ x ∈ ls, x.length ≤ M) :
    Calls Tryz.prog 41 #[.slice A ls.length c] w fun e w' => e = .returned (.bool (okF ls)) ∧ Drawn0 w w' := shawmref20_Right.calls _ A c ls _ w hC hc (right_f ls M hM hx)
theorem ofB_pk_pad {L : List Int} (h : is01 L) : ofB (pk L) (8 * (pk L).length) = L ++ List.replicate (8 * (pk L).length - L.length) 0 := by
  have hl := pk_length L
  apply ext_getD
  · rw [ofB_length, List.length_append, List.length_replicate]; omega
  · intro j hj
    rw [ofB_length] at hj
    rw [getD_ofB _ _ _ hj, bitAt_pk h]
    by_cases hjl : j < L.length
    · rw [List.getD_eq_getElem?_getD, List.getD_eq_getElem?_getD, List.getElem?_append_left hjl]
    · rw [List.getD_eq_getElem?_getD, List.getD_eq_getElem?_getD, List.getElem?_append_right (by omega), List.getElem?_eq_none (by omega), List.getElem?_replicate]
      split <;> rfl
theorem val_zeros : ∀ n, val (List.replicate n 0) = 0 := by
  intro n
  induction n with
  | zero => rfl
  | succ n ih => rw [← rep_append, val_snoc, ih]; rfl
theorem samp_back {ls : List (List Int)} (h : okF ls = true) (h01 : is01 (frameBits ls)) : fSamp (pk (frameBits ls)) (ls.length : Int) ((ls.getD 0 []).length : Int) = (ls, 0) := by
  have hl := pk_length (frameBits ls)
  have hle := frameBits_le h
  have hr := frame_readF h [] (List.replicate (8 * (pk (frameBits ls)).length - (frameBits ls).length) 0)
  rw [List.nil_append] at hr
  have hp := ofB_pk_pad h01
  unfold fSamp
  rw [if_pos (frame_isN h), if_neg (by omega), hp]
  rw [show ([] : List Int).length = 0 from rfl] at hr
  rw [hr]
  unfold restB
  dsimp only
  rw [if_neg (by simp)]
  have hlen : (frameBits ls ++ List.replicate (8 * (pk (frameBits ls)).length - (frameBits ls).length) 0).length = 8 * (pk (frameBits ls)).length := by rw [List.length_append, List.length_replicate]; omega
  obtain ⟨z, hz⟩ : ∃ z, z = 8 * (pk (frameBits ls)).length - (frameBits ls).length := ⟨_, rfl⟩
  rw [← hz] at hlen ⊢
  rw [if_neg (by rw [hlen]; omega)]
  have hg : (rGet (frameBits ls ++ List.replicate z 0) (frameBits ls).length (((frameBits ls ++ List.replicate z 0).length : Int) - ((frameBits ls).length : Nat))).1 = 0 := by
    rw [hlen, show ((8 * (pk (frameBits ls)).length : Nat) : Int) - ((frameBits ls).length : Nat) = (z : Int) by omega]
    unfold rGet
    rw [if_neg (by omega), if_neg (by rw [hlen]; omega), Int.toNat_natCast, List.drop_left, List.take_of_length_le (by rw [List.length_replicate]; exact Nat.le_refl _)]
    exact val_zeros z
  rw [if_neg (by rw [hg]; simp)]
end Go.Proofs.YtjcijaojcgampaaGreatDoor.P
end
section
namespace Go.Proofs.YtjcijaojcgampaaGreatDoor.P
open Go.RowKit Go.Shelf Go.Proofs.YtjcijaojcgampaaGreatDoor.Bits Go.Proofs.YtjcijaojcgampaaGreatDoorW.PrintWords Go.Proofs.YtjcijaojcgampaaGreatDoorW.PrintLast Go.Proofs.YtjcijaojcgampaaGreatDoorW.PrintMore
set_option linter.unusedVariables false
set_option linter.unusedSimpArgs false
attribute [local go_sem ↓] Go.wp_at_zero Go.wp_at_succ
/-- Open of the first bits of what a writer has. -/
theorem Open_pkL (A : Option Addr) (c : Nat) (L : List Int) (k : Nat) (w : World) (h01 : is01 L) (hk : k ≤ L.length) (hl : L.length ≤ 1048576) (hC : Kd.C (Kd.int .u8) w A (pk L).length (pk L)) (hc : (pk L).length ≤ c) :
    Calls Tryz.prog 18 #[.slice A (pk L).length c, .int .i64 (k : Int)] w fun e w' => ∃ p S, e = .returned (.tuple #[.pointer (some ⟨p, 0, none⟩), .int .i64 0]) ∧ Rd w' S p (L.take k) 0 ∧ w.heap.size ≤ p ∧ (∀ k, S k → w.heap.size ≤ k) ∧ Below w.heap.size w w' := by
  refine (Open_any A c (pk L) (k : Int) w hC (pk_is8 h01) (pk_len_le hl) hc).mono ?_
  intro e w' hop
  unfold OpenPost at hop
  have he : openE (pk L) (k : Int) = 0 := by
    have := pk_length L
    unfold openE
    rw [if_neg (by omega), if_neg (by omega)]
  rw [he, if_pos rfl, Int.toNat_natCast, ofB_pk h01 _ hk] at hop
  exact hop
end Go.Proofs.YtjcijaojcgampaaGreatDoor.P
end
section
namespace Go.Proofs.YtjcijaojcgampaaGreatDoor.P
open Go.RowKit Go.Shelf Go.Proofs.YtjcijaojcgampaaGreatDoor.Bits Go.Proofs.YtjcijaojcgampaaGreatDoorW.PrintWords Go.Proofs.YtjcijaojcgampaaGreatDoorW.PrintLast Go.Proofs.YtjcijaojcgampaaGreatDoorW.PrintMore
set_option linter.unusedVariables false
set_option linter.unusedSimpArgs false
attribute [local go_sem ↓] Go.wp_at_zero Go.wp_at_succ
/-- Whether channels are as small as is asked. -/
def fewL (ls : List (List Int)) : Bool := (shawmlaw20_few.f (ls.length + 1) ls).getD false
theorem fewL_any (A : Option Addr) (c : Nat) (ls : List (List Int)) (w : World) (hC : Kd.C KdL w A ls.length ls) (hc : ls.length ≤ c) (hl : ls.length ≤ 9000000000000000000) :
    Calls Tryz.prog 14 #[.slice A ls.length c] w fun e w' => e = .returned (.bool (fewL ls)) ∧ Below w.heap.size w w' := by
  obtain ⟨b, hb⟩ := few_l0 ls hl (ls.length + 1) 0 (ls.length : Int) (by omega) (by omega)
  have hf : shawmlaw20_few.f (ls.length + 1) ls = some b := hb
  have hfb : fewL ls = b := by unfold fewL; rw [hf]; rfl
  rw [hfb]
  exact (shawmlaw20_few.calls (ls.length + 1) A c ls b w hC hc hf).mono (fun e w' h => ⟨h.1, h.2.below⟩)
theorem room_guard (left : Int) : (decide (0 ≤ left) = true ∧ decide (left ≤ 4000) = true) ∨ (¬ (0 ≤ left ∧ left ≤ 4000) ∧ (decide (0 ≤ left) = false ∨ (decide (0 ≤ left) = true ∧ decide (left ≤ 4000) = false))) := by
  by_cases h0 : 0 ≤ left
  · by_cases h1 : left ≤ 4000
    · exact .inl ⟨decide_eq_true h0, decide_eq_true h1⟩
    · exact .inr ⟨fun h => h1 h.2, .inr ⟨decide_eq_true h0, decide_eq_false h1⟩⟩
  · exact .inr ⟨fun h => h0 h.1, .inl (decide_eq_false h0)⟩
set_option maxHeartbeats 16000000 in
set_option maxRecDepth 100000 in
theorem LosslessBack_any (A : Option Addr) (c : Nat) (H : List Int) (left : Int) (A2 : Option Addr) (c2 : Nat) (ls : List (List Int)) (w : World) (hg : HO w) (hC : Kd.C (Kd.int .u8) w A H.length H) (h8 : is8 H) (hc : H.length ≤ c) (hlH : H.length ≤ 1000000000000000000)
    (hC2 : Kd.C KdL w A2 ls.length ls) (hc2 : ls.length ≤ c2) (hl2 : ls.length ≤ 1000000000000000000) (hx2 : ∀ x ∈ ls, x.length ≤ 1000000000000000000) :
    Calls Tryz.prog 10 #[.agg (roomCells A H.length c left), .slice A2 ls.length c2] w fun e w' => e = .returned (.bool true) ∧ Below w.heap.size w w' := by
  obtain ⟨w1, hw1⟩ : ∃ w1, w1 = w.alloc (.cells (roomCells A H.length c left) 53) := ⟨_, rfl⟩
  obtain ⟨b, hb⟩ : ∃ b, b = w.heap.size := ⟨_, rfl⟩
  have hk : w1.heap[b]? = some (.cells (roomCells A H.length c left) 53 (0, 0)) := by rw [hw1, hb]; exact World.alloc_heap_new w _
  have hb1 : Below w.heap.size w w1 := by rw [hw1]; exact below_alloc (Below.refl _ _) _
  have HZ0 : Aside0 (∀ W, Below w1.heap.size w1 W → W.cell? ⟨b, 0, none⟩ = some (.slice A H.length c)) := ⟨fun W hW => by
    have := blk_fr hk (Fr.below hW (fun _ => False)) (fun h => h)
    rw [cell_of_row W b 0 _ _ _ this]; rfl⟩
  have HZ1 : Aside0 (∀ W, Below w1.heap.size w1 W → W.cell? ⟨b, 1, none⟩ = some (.int .i64 left)) := ⟨fun W hW => by
    have := blk_fr hk (Fr.below hW (fun _ => False)) (fun h => h)
    rw [cell_of_row W b 1 _ _ _ this]; rfl⟩
  have HFEW : Aside0 (∀ W, Below w.heap.size w W → Calls Tryz.prog 14 #[.slice A2 ls.length c2] W fun e w' => e = .returned (.bool (fewL ls)) ∧ Below W.heap.size W w') := ⟨fun W hb => fewL_any A2 c2 ls W (Kd.C_below hC2 hb) hc2 (by omega)⟩
  have HAW : Aside0 (∀ W, Below w.heap.size w W → Calls Tryz.prog 12 #[] W fun e w' => e = .returned (.bool true) ∧ Below w.heap.size w w') := ⟨fun W hb => (awake20_any W (hg.below hb)).mono (fun e w' h => ⟨h.1, hb.trans (h.2.mono hb.size)⟩)⟩
  have HRF := Aside0.mk (RoomFew_any A H.length c left w1 (by omega))
  have HB1 := Aside0.mk hb1
  have HE1 : Aside0 (w.alloc (.cells (roomCells A H.length c left) 53) = w1) := ⟨hw1.symm⟩
  have HBB := Aside0.mk hb.symm
  generalize fewL ls = bf at *
  have hgd := room_guard left
  by_cases hsm : H.length ≤ 50 ∧ bf = true
  case neg =>
    have hcs : decide (H.length ≤ 50) = false ∨ (decide (H.length ≤ 50) = true ∧ bf = false) := by
      by_cases h : H.length ≤ 50
      · exact .inr ⟨decide_eq_true h, by cases bf; rfl; exact absurd ⟨h, rfl⟩ hsm⟩
      · exact .inl (decide_eq_false h)
    generalize decide (H.length ≤ 50) = b5 at *
    clear hw1 hb hk hb1 hC hC2 hg hgd hsm hx2
    rcases hcs with rfl | ⟨rfl, rfl⟩
    all_goals
      have z0 := HZ0.out w1 (Below.refl _ _)
      have z1 := HZ1.out w1 (Below.refl _ _)
      go_enter Tryz.func10, Tryz.ntmps10
      go_wp2_with (rw [HE1.out, HBB.out])
      refine HRF.out.mono ?_
      rintro e w2 ⟨rfl, hb2⟩
      have HB2 := Aside0.mk (HB1.out.trans (hb2.mono HB1.out.size))
      clear z0 z1 hb2
      go_wp2_with fail
      try (refine (HFEW.out w2 HB2.out).mono ?_; rintro e w3 ⟨rfl, hb3⟩; have HB3 := Aside0.mk (HB2.out.trans (hb3.mono HB2.out.size)); clear HB2 hb3; rename World => w2; have HB2 := HB3; clear HB3; go_wp2_with fail)
      refine (HAW.out _ HB2.out).mono ?_
      rintro e w9 ⟨rfl, hb⟩
      have HB9 := Aside0.mk hb
      clear hb
      go_wp2_with fail
      go_ret
      exact ⟨rfl, HB9.out⟩
  obtain ⟨h50, rfl⟩ := hsm
  rw [decide_eq_true h50] at HRF
  rcases hgd with ⟨d1, d2⟩ | ⟨hin, hd⟩
  · clear hw1 hb hk hb1 hC hC2 hg h50 hx2
    have z0 := HZ0.out w1 (Below.refl _ _)
    have z1 := HZ1.out w1 (Below.refl _ _)
    go_enter Tryz.func10, Tryz.ntmps10
    go_wp2_with (rw [HE1.out, HBB.out])
    refine HRF.out.mono ?_
    rintro e w2 ⟨rfl, hb2⟩
    have HB12 := Aside0.mk hb2
    have HB2 := Aside0.mk (HB1.out.trans (hb2.mono HB1.out.size))
    clear z0 z1 hb2
    go_wp2_with fail
    refine (HFEW.out w2 HB2.out).mono ?_
    rintro e w3 ⟨rfl, hb3⟩
    have z1 := HZ1.out w3 (HB12.out.trans (hb3.mono HB12.out.size))
    have HB3 := Aside0.mk (HB2.out.trans (hb3.mono HB2.out.size))
    clear hb3
    go_wp2_with fail
    refine (HAW.out _ HB3.out).mono ?_
    rintro e w9 ⟨rfl, hb⟩
    have HB9 := Aside0.mk hb
    clear hb
    go_wp2_with fail
    go_ret
    exact ⟨rfl, HB9.out⟩
  obtain ⟨L0, hL0⟩ : ∃ L, L = roomBits H left := ⟨_, rfl⟩
  have hL0l : L0.length ≤ 400 := by
    rw [hL0]; unfold roomBits; rw [if_neg hin, ofB_length]; omega
  have HBG : Aside0 (∀ W, Below w.heap.size w W → Calls Tryz.prog 33 #[.agg (roomCells A H.length c left)] W (BegunPost W L0)) := ⟨fun W hb => by rw [hL0]; exact RoomBegun_any A c H left W (Kd.C_below hC hb) h8 hc h50⟩
  have HSZ := Aside0.mk (fun W (hb : Below w.heap.size w W) => Size_any A2 c2 ls W (hg.below hb) (Kd.C_below hC2 hb) hc2)
  have HWF := Aside0.mk (fun S p W (hW : Wr W S p L0) (hb : Below w.heap.size w W) => WriteF_any S p L0 A2 c2 ls W hW (by omega) (hg.below hb) (Kd.C_below hC2 hb) hc2)
  have HRT := Aside0.mk (fun W (hb : Below w.heap.size w W) => Right_any A2 c2 ls 1000000000000000000 W (Kd.C_below hC2 hb) hc2 (by omega) hx2)
  have HBY := Aside0.mk (fun W (hb : Below w.heap.size w W) => BytesF_any A2 c2 ls W (hg.below hb) (Kd.C_below hC2 hb) hc2)
  obtain ⟨aI, haI⟩ : ∃ z : Int, (L0.length : Int) = z := ⟨_, rfl⟩
  have HAI := Aside0.mk haI
  have ha0 : 0 ≤ aI := by omega
  have ha1 : aI ≤ 400 := by omega
  have y0 : (aI == aI) = true := by simp
  by_cases hok : okF ls = true
  case neg =>
    have hok : okF ls = false := by simpa using hok
    have e1 : fSize ls = (0, 1) := by unfold fSize; rw [hok]; rfl
    have e2 : fWriteF L0 ls = (1, L0) := by unfold fWriteF; rw [hok]; rfl
    rw [e1] at HSZ
    rw [e2] at HWF
    rw [hok] at HRT
    clear hw1 hb hk hb1 hC hC2 hg h50 hx2 hin e1 e2 hok hL0 haI hL0l HBY
    rcases hd with d1 | ⟨d1, d2⟩
    all_goals
      have z0 := HZ0.out w1 (Below.refl _ _)
      have z1 := HZ1.out w1 (Below.refl _ _)
      go_enter Tryz.func10, Tryz.ntmps10
      go_wp2_with (rw [HE1.out, HBB.out])
      refine HRF.out.mono ?_
      rintro e w2 ⟨rfl, hb2⟩
      have HB12 := Aside0.mk hb2
      have HB2 := Aside0.mk (HB1.out.trans (hb2.mono HB1.out.size))
      clear z0 z1 hb2
      go_wp2_with fail
      refine (HFEW.out w2 HB2.out).mono ?_
      rintro e w3 ⟨rfl, hb3⟩
      have z0 := HZ0.out w3 (HB12.out.trans (hb3.mono HB12.out.size))
      have z1 := HZ1.out w3 (HB12.out.trans (hb3.mono HB12.out.size))
      have HB3 := Aside0.mk (HB2.out.trans (hb3.mono HB2.out.size))
      clear hb3
      go_wp2_with fail
      refine (HBG.out w3 HB3.out).mono ?_
      rintro e w4 ⟨p, S, v, rfl, hW, _, hp, hS, hb⟩
      have HB4 := Aside0.mk (HB3.out.trans (hb.mono HB3.out.size))
      have HW4 := Aside0.mk hW
      have HPS := Aside0.mk (show w.heap.size ≤ p ∧ ∀ k, S k → w.heap.size ≤ k from ⟨Nat.le_trans HB3.out.size hp, fun k hk => Nat.le_trans HB3.out.size (hS k hk)⟩)
      clear hW hp hS hb z0 z1
      go_wp2_with fail
      refine (Len_any S p L0 w4 HW4.out).mono ?_
      rintro e w5 ⟨rfl, hw⟩
      obtain rfl := hw.symm
      rw [HAI.out]
      go_wp2_with fail
      refine (HSZ.out w4 HB4.out).mono ?_
      rintro e w5 ⟨rfl, hb⟩
      have HB5 := Aside0.mk (HB4.out.trans (hb.mono HB4.out.size))
      have HW5 := Aside0.mk (HW4.out.below hb)
      clear hb
      go_wp2_with fail
      refine (HWF.out S p w5 HW5.out HB5.out).mono ?_
      rintro e w6 ⟨rfl, S6, hW6, hs6, hf6⟩
      have HB6 := Aside0.mk (HB5.out.trans (hf6.to_below HB5.out.size (fun k hk => by rcases hk with o | o; rw [o]; exact HPS.out.1; exact HPS.out.2 k o)))
      have HW6 := Aside0.mk hW6
      clear hW6 hs6 hf6
      go_wp2_with fail
      refine (HRT.out w6 HB6.out).mono ?_
      rintro e w7 ⟨rfl, hd⟩
      have HB7 := Aside0.mk (HB6.out.trans (hd.below.mono HB6.out.size))
      have HW7 := Aside0.mk (HW6.out.below hd.below)
      clear hd
      go_wp2_with fail
      refine (Len_any S6 p L0 w7 HW7.out).mono ?_
      rintro e w8 ⟨rfl, hw⟩
      obtain rfl := hw.symm
      rw [HAI.out]
      go_wp2_with fail
      refine (HAW.out _ HB7.out).mono ?_
      rintro e w9 ⟨rfl, hb⟩
      have HB9 := Aside0.mk hb
      clear hb
      go_wp2_with fail
      go_ret
      exact ⟨rfl, HB9.out⟩
  obtain ⟨F, hF⟩ : ∃ F, F = frameBits ls := ⟨_, rfl⟩
  obtain ⟨L1, hL1⟩ : ∃ L, L = L0 ++ F := ⟨_, rfl⟩
  obtain ⟨x0, hx0⟩ : ∃ x, x = ls.getD 0 [] := ⟨_, rfl⟩
  have hFl := frameBits_le hok
  have e1 : fSize ls = ((F.length : Int), 0) := by unfold fSize; rw [if_pos hok, hF]
  have e2 : fWriteF L0 ls = (0, L1) := by
    unfold fWriteF
    rw [if_pos hok, ← hF]
    rw [← hF] at hFl
    unfold wput putE putL
    rw [if_neg (by omega), if_neg (by omega), hL1]
  have e3 : fBytes ls = (pk F, 0) := by unfold fBytes; rw [if_pos hok, hF]
  rw [e1] at HSZ
  rw [e2] at HWF
  rw [e3] at HBY
  rw [hok] at HRT
  have hll : L1.length = L0.length + F.length := by rw [hL1, List.length_append]
  rw [← hF] at hFl
  have HRD : Aside0 (fReadF L1 L0.length (ls.length : Int) (x0.length : Int) = (ls, 0, L1.length)) := ⟨by
    have := frame_readF hok L0 []
    rw [List.append_nil, ← hF, ← hL1, ← hx0] at this
    exact this⟩
  have HSP : Aside0 (is01 L1 → fSamp (pk F) (ls.length : Int) (x0.length : Int) = (ls, 0) ∧ is8 (pk F)) := ⟨fun h => by
    have h01 : is01 F := by
      have := is01_drop h L0.length
      rw [hL1, List.drop_left] at this
      exact this
    have := samp_back hok (by rw [← hF]; exact h01)
    rw [← hF, ← hx0] at this
    exact ⟨this, pk_is8 h01⟩⟩
  obtain ⟨hn, ho⟩ := (okF_iff ls).1 hok
  have HLS : Aside0 (ls.length ≤ 1000 ∧ ∀ x ∈ ls, x.length ≤ 100000) := ⟨by omega, fun x hx => by have := (ho x hx).1.2.2; omega⟩
  have HC := Aside0.mk (Kd.C_F (Kd.heap_slice _ (Kd.heap_int .i64)) hC2)
  have HHC := Aside0.mk hc2
  have HX0 := Aside0.mk hx0
  obtain ⟨nI, hnI⟩ : ∃ z : Int, (F.length : Int) = z := ⟨_, rfl⟩
  obtain ⟨lI, hlI⟩ : ∃ z : Int, (L1.length : Int) = z := ⟨_, rfl⟩
  obtain ⟨kI, hkI⟩ : ∃ z : Int, ((pk F).length : Int) = z := ⟨_, rfl⟩
  rw [hnI] at HSZ
  have hpk := pk_length F
  have hn0 : 0 ≤ nI := by omega
  have hn1 : nI ≤ 4357 := by omega
  have y1 : (lI != aI + nI) = false := by simp; omega
  have y2 : (nI + 7) / 8 = kI := by omega
  have y3 : (kI == kI) = true := by simp
  have HLI := Aside0.mk hlI
  have HKI := Aside0.mk hkI
  have HLL := Aside0.mk (show L1.length ≤ 10000 ∧ L0.length ≤ L1.length ∧ (pk F).length ≤ 10000 from ⟨by omega, by omega, by omega⟩)
  have HY2 := Aside0.mk y2
  have hls0 : (0 : Int) < (ls.length : Int) := by omega
  obtain ⟨mI, hmI⟩ : ∃ z : Int, (ls.length : Int) = z := ⟨_, rfl⟩
  have HMI := Aside0.mk hmI
  rw [hmI] at hls0 HRD HSP
  clear hw1 hb hk hb1 hC hC2 hg h50 hx2 hin e1 e2 e3 hok hL0 haI hL0l hF hL1 hx0 hFl hll hn ho hc2 hnI hlI hkI hpk y2 hmI h8 hc hlH hl2
  rcases hd with d1 | ⟨d1, d2⟩
  all_goals
    have z0 := HZ0.out w1 (Below.refl _ _)
    have z1 := HZ1.out w1 (Below.refl _ _)
    go_enter Tryz.func10, Tryz.ntmps10
    go_wp2_with (rw [HE1.out, HBB.out])
    refine HRF.out.mono ?_
    rintro e w2 ⟨rfl, hb2⟩
    have HB12 := Aside0.mk hb2
    have HB2 := Aside0.mk (HB1.out.trans (hb2.mono HB1.out.size))
    clear z0 z1 hb2
    go_wp2_with fail
    refine (HFEW.out w2 HB2.out).mono ?_
    rintro e w3 ⟨rfl, hb3⟩
    have z0 := HZ0.out w3 (HB12.out.trans (hb3.mono HB12.out.size))
    have z1 := HZ1.out w3 (HB12.out.trans (hb3.mono HB12.out.size))
    have HB3 := Aside0.mk (HB2.out.trans (hb3.mono HB2.out.size))
    clear hb3
    go_wp2_with fail
    refine (HBG.out w3 HB3.out).mono ?_
    rintro e w4 ⟨p, S, v, rfl, hW, _, hp, hS, hb⟩
    have HB4 := Aside0.mk (HB3.out.trans (hb.mono HB3.out.size))
    have HW4 := Aside0.mk hW
    have HPS := Aside0.mk (show w.heap.size ≤ p ∧ ∀ k, S k → w.heap.size ≤ k from ⟨Nat.le_trans HB3.out.size hp, fun k hk => Nat.le_trans HB3.out.size (hS k hk)⟩)
    clear hW hp hS hb z0 z1
    go_wp2_with fail
    refine (Len_any S p L0 w4 HW4.out).mono ?_
    rintro e w5 ⟨rfl, hw⟩
    obtain rfl := hw.symm
    rw [HAI.out]
    go_wp2_with fail
    refine (HSZ.out w4 HB4.out).mono ?_
    rintro e w5 ⟨rfl, hb⟩
    have HB5 := Aside0.mk (HB4.out.trans (hb.mono HB4.out.size))
    have HW5 := Aside0.mk (HW4.out.below hb)
    clear hb
    go_wp2_with fail
    refine (HWF.out S p w5 HW5.out HB5.out).mono ?_
    rintro e w6 ⟨rfl, S6, hW6, hs6, hf6⟩
    have HB6 := Aside0.mk (HB5.out.trans (hf6.to_below HB5.out.size (fun k hk => by rcases hk with o | o; rw [o]; exact HPS.out.1; exact HPS.out.2 k o)))
    have HW6 := Aside0.mk hW6
    clear hW6 hs6 hf6
    go_wp2_with fail
    refine (HRT.out w6 HB6.out).mono ?_
    rintro e w7 ⟨rfl, hd⟩
    have HB7 := Aside0.mk (HB6.out.trans (hd.below.mono HB6.out.size))
    have HW7 := Aside0.mk (HW6.out.below hd.below)
    clear hd
    go_wp2_with fail
    refine (Bytes_any S6 p L1 w7 HW7.out (by have := HLL.out; omega)).mono ?_
    rintro e w8 ⟨v8, S8, rfl, hr8, hs8, hb⟩
    have HB8 := Aside0.mk (HB7.out.trans (hb.mono HB7.out.size))
    have HW8 := Aside0.mk (HW7.out.below hb)
    obtain ⟨A8, c8, rfl, hc8, hC8⟩ := Kd.R_reads hr8
    have hop := Open_pkL A8 c8 L1 L1.length w8 HW8.out.bits (Nat.le_refl _) (by have := HLL.out; omega) hC8 hc8
    rw [List.take_length, HLI.out] at hop
    have HOP := Aside0.mk hop
    have HSA := Aside0.mk (HSP.out HW8.out.bits)
    clear hb hr8 hs8 hc8 hC8 hop
    go_wp2_with fail
    refine (Len_any S6 p L1 w8 HW8.out).mono ?_
    rintro e w9 ⟨rfl, hw⟩
    obtain rfl := hw.symm
    rw [HLI.out]
    go_wp2_with fail
    refine HOP.out.mono ?_
    rintro e w9 ⟨p9, S9, rfl, hR9, hp9, hS9, hb⟩
    have HB9 := Aside0.mk (HB8.out.trans (hb.mono HB8.out.size))
    have HW9 := Aside0.mk (HW8.out.below hb)
    have HP9 := Aside0.mk (Nat.le_trans HB8.out.size hp9)
    have HR9 := Aside0.mk hR9
    clear hb hR9 hp9 hS9
    go_wp2_with fail
    refine (Len_any S6 p L1 w9 HW9.out).mono ?_
    rintro e w10 ⟨rfl, hw⟩
    obtain rfl := hw.symm
    rw [HLI.out]
    have hsk := Seek_any S9 p9 0 L1 aI w9 HR9.out
    have hrs : rSeek L1 0 aI = (0, L0.length) := by
      have := HAI.out; have := HLL.out.2.1
      unfold rSeek
      rw [if_neg (by omega)]
      congr 1; omega
    rw [hrs] at hsk
    have HSK := Aside0.mk hsk
    clear hsk hrs
    go_wp2_with fail
    refine HSK.out.mono ?_
    rintro e w10 ⟨rfl, hR10, hf10⟩
    have HB10 := Aside0.mk (HB9.out.trans (hf10.to_below HB9.out.size (fun k hk => by rw [hk]; exact HP9.out)))
    have hrd := ReadF_any S9 p9 L0.length mI (x0.length : Int) L1 w10 hR10
    rw [HRD.out] at hrd
    unfold FReadPost at hrd
    dsimp only at hrd
    have HRD1 := Aside0.mk hrd
    have hmI := HMI.out
    obtain ⟨ad, A1, c1, e, hx, hc1, hC1⟩ := at_L1 (Kd.F_now (Kd.F_below HC.out HB10.out)) (0 : Int) (by omega) (by omega)
    subst e
    rw [show rd_L1 ls 0 = x0 by rw [HX0.out]; exact rd_L1_nat ls 0] at hx
    rw [show ad.add (0 : Int).toNat = ad by simp [Addr.add]] at hx
    clear hR10 hf10 hrd hc1 hC1
    go_wp2_with fail
    refine HRD1.out.mono ?_
    rintro e w11 ⟨A11, c11, rfl, hc11, hF11, hR11, hf11⟩
    have HB11 := Aside0.mk (HB10.out.trans (hf11.to_below HB10.out.size (fun k hk => by rw [hk]; exact HP9.out)))
    have HF11 := Aside0.mk (Kd.F_bound hF11)
    have HC11 := Aside0.mk hc11
    have HR11 := Aside0.mk hR11
    clear hx hc11 hF11 hR11 hf11
    go_wp2_with fail
    refine (HBY.out w11 HB11.out).mono ?_
    rintro e w12 ⟨v12, S12, rfl, hr12, hs12, hb⟩
    have HB12b := Aside0.mk (HB11.out.trans (hb.mono HB11.out.size))
    have HF12 := Aside0.mk (Kd.F_below HF11.out hb)
    have HR12 := Aside0.mk (HR11.out.below hb)
    obtain ⟨A12, c12, rfl, hc12, hC12⟩ := Kd.R_reads hr12
    have hsm := Samples_any A12 c12 (pk F) mI (x0.length : Int) w12 hC12 HSA.out.2 (by have := HLL.out.2.2; omega) hc12
    unfold LsPost at hsm
    rw [HSA.out.1] at hsm
    dsimp only at hsm
    have HSM := Aside0.mk hsm
    obtain ⟨ad', A1', c1', e, hx, hc1, hC1⟩ := at_L1 (Kd.F_now (Kd.F_below HC.out HB12b.out)) (0 : Int) (by omega) (by omega)
    cases e
    rw [show rd_L1 ls 0 = x0 by rw [HX0.out]; exact rd_L1_nat ls 0] at hx
    rw [show ad.add (0 : Int).toNat = ad by simp [Addr.add]] at hx
    clear hr12 hs12 hb hc12 hC12 hsm hc1 hC1
    go_wp2_with fail
    refine HSM.out.mono ?_
    rintro e w13 ⟨A13, c13, rfl, hc13, hF13, hb⟩
    have HB13 := Aside0.mk (HB12b.out.trans (hb.mono HB12b.out.size))
    have HR13 := Aside0.mk (HR12.out.below hb)
    have HS1 := Aside0.mk (SameL_any A11 c11 (some ad) c2 ls w13 (Kd.F_now (Kd.F_below HF12.out hb)) HC11.out (Kd.F_now (Kd.F_below HC.out HB13.out)) HHC.out HLS.out.1 HLS.out.2)
    have HF13 := Aside0.mk (Kd.F_bound hF13)
    have HC13 := Aside0.mk hc13
    clear hx hc13 hF13 hb
    go_wp2_with fail
    refine HS1.out.mono ?_
    rintro e w14 ⟨rfl, hd⟩
    have HB14 := Aside0.mk (HB13.out.trans (hd.below.mono HB13.out.size))
    have HR14 := Aside0.mk (HR13.out.below hd.below)
    have HF14 := Aside0.mk (Kd.F_below HF13.out hd.below)
    clear hd
    go_wp2_with fail
    have hlf := Left_any S9 p9 L1.length L1 w14 HR14.out
    rw [show (L1.length : Int) - (L1.length : Nat) = 0 by omega] at hlf
    refine hlf.mono ?_
    rintro e w15 ⟨rfl, k15, hw15⟩
    have hb15 : Below w14.heap.size w14 w15 := by rw [hw15]; exact pw_below_drewN (Below.refl _ _) k15
    have HB15 := Aside0.mk (HB14.out.trans (hb15.mono HB14.out.size))
    have HS2 := Aside0.mk (SameL_any A13 c13 (some ad) c2 ls w15 (Kd.F_now (Kd.F_below HF14.out hb15)) HC13.out (Kd.F_now (Kd.F_below HC.out HB15.out)) HHC.out HLS.out.1 HLS.out.2)
    clear hw15 hb15 hlf
    have hkI := HKI.out
    have hy2 := HY2.out
    go_wp2_with fail
    clear hkI hy2
    refine HS2.out.mono ?_
    rintro e w16 ⟨rfl, hd⟩
    have HB16 := Aside0.mk (HB15.out.trans (hd.below.mono HB15.out.size))
    clear hd
    go_wp2_with fail
    refine (HAW.out _ HB16.out).mono ?_
    rintro e w17 ⟨rfl, hb⟩
    have HB17 := Aside0.mk hb
    clear hb
    go_wp2_with fail
    go_ret
    exact ⟨rfl, HB17.out⟩
end Go.Proofs.YtjcijaojcgampaaGreatDoor.P
end
