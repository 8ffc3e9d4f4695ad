/- A frame that was written is read again (plain law). A signal's differences and residuals are small: a list of them is always written (plain law). shawmref20.planned: its value (plain law). shawmref20.best, Cost: contracts. Printed by the kit's print.py over stubs; the sections are put in order by pp2.py. The reference's Best, Size, Bytes: their values (plain law). The contract of shawmref20.Cost; the walk of shawmlaw20.LosslessPlans. -/
import Derived.Test.YtjcijaojcgampaaGreatDoorZPl28
import Derived.Test.YtjcijaojcgampaaGreatDoorZPl32
import Derived.Test.YtjcijaojcgampaaGreatDoorZPl20
import Derived.Test.YtjcijaojcgampaaGreatDoorZPl31
import Derived.Test.YtjcijaojcgampaaGreatDoorZPl27
import Derived.Test.YtjcijaojcgampaaGreatDoorZPl5
import Derived.Test.YtjcijaojcgampaaGreatDoorZPl14
set_option linter.unusedVariables false
set_option linter.unusedSimpArgs false
set_option maxHeartbeats 16000000
set_option maxRecDepth 100000
section
namespace Go.Proofs.YtjcijaojcgampaaGreatDoor.P
open Go.RowKit Go.Shelf Go.Proofs.YtjcijaojcgampaaGreatDoor.Bits Go.Proofs.YtjcijaojcgampaaGreatDoorW.PrintWords Go.Proofs.YtjcijaojcgampaaGreatDoorW.PrintLast Go.Proofs.YtjcijaojcgampaaGreatDoorW.PrintMore
theorem sig_within {x : List Int} (h : sigL x) : Lin.within 2097152 x := fun v hv => by have := h v hv; omega
def l1n (l : List Int) : Nat := (l.map Int.natAbs).sum
theorem l1n_append (a b : List Int) : l1n (a ++ b) = l1n a + l1n b := by unfold l1n; rw [List.map_append, List.sum_append]
theorem sum_rev (g : Nat → Nat) : ∀ n, ((List.range n).map (fun j => g (n - 1 - j))).sum = ((List.range n).map g).sum
  | 0 => rfl
  | n + 1 => by
    rw [List.range_succ_eq_map, List.map_cons, List.map_map, List.sum_cons]
    have ih := sum_rev g n
    have e : ((List.range n).map ((fun j => g (n + 1 - 1 - j)) ∘ Nat.succ)) = (List.range n).map (fun j => g (n - 1 - j)) := by
      refine List.map_congr_left (fun j hj => ?_)
      simp only [Function.comp]
      rw [show n + 1 - 1 - Nat.succ j = n - 1 - j by omega]
    rw [e, ih, ← List.range_succ_eq_map, List.range_succ, List.map_append, List.sum_append]
    simp only [List.map_cons, List.map_nil, List.sum_cons, List.sum_nil]
    rw [show n + 1 - 1 - 0 = n by omega]
    omega
theorem sum_le_sum (f g : Nat → Nat) (h : ∀ j, f j ≤ g j) : ∀ l : List Nat, (l.map f).sum ≤ (l.map g).sum
  | [] => Nat.le_refl _
  | j :: l => by
    have h1 := h j
    have h2 := sum_le_sum f g h l
    simp only [List.map_cons, List.sum_cons]; omega
theorem sum_add (f g : Nat → Nat) : ∀ l : List Nat, (l.map (fun j => f j + g j)).sum = (l.map f).sum + (l.map g).sum
  | [] => rfl
  | j :: l => by
    have := sum_add f g l
    simp only [List.map_cons, List.sum_cons]; omega
theorem range_rd (a : List Int) : (List.range a.length).map (fun (j : Nat) => (rd a (j : Int)).natAbs) = a.map Int.natAbs := by
  refine List.ext_getElem (by simp) (fun i h1 h2 => ?_)
  have hi : i < a.length := by simpa using h2
  simp only [List.getElem_map, List.getElem_range]
  unfold rd
  rw [Int.toNat_natCast, List.getD_eq_getElem?_getD, List.getElem?_eq_getElem hi]; rfl
theorem rnd_le {k y : Int} (hk : -127 ≤ k ∧ k ≤ 127) : (Lin.rnd (k * y) 128).natAbs ≤ y.natAbs := by
  have := Lin.kstep hk (M := y.natAbs) (y := y) (by omega)
  omega
theorem l1n_step {a : List Int} {k : Int} (hk : -127 ≤ k ∧ k ≤ 127) : l1n (Lin.stepW a k) ≤ 2 * l1n a + 4064 := by
  unfold Lin.stepW
  rw [l1n_append]
  have h1 : l1n (Lin.newW a k a.length) ≤ 2 * l1n a := by
    unfold Lin.newW l1n
    rw [List.drop_length, List.append_nil, List.map_map]
    have hle := sum_le_sum (Int.natAbs ∘ fun (j : Nat) => rd a (j : Int) + Lin.rnd (k * rd a ((a.length : Int) - 1 - (j : Int))) 128) (fun j => (rd a (j : Int)).natAbs + (rd a ((a.length - 1 - j : Nat) : Int)).natAbs) (fun j => by
      simp only [Function.comp]
      have h2 := rnd_le (k := k) (y := rd a ((a.length : Int) - 1 - (j : Int))) hk
      by_cases hj : j < a.length
      · have e : ((a.length : Int) - 1 - (j : Int)) = ((a.length - 1 - j : Nat) : Int) := by omega
        rw [e] at h2 ⊢
        omega
      · have e : rd a ((a.length : Int) - 1 - (j : Int)) = rd a 0 := by unfold rd; rw [show ((a.length : Int) - 1 - (j : Int)).toNat = 0 by omega]; rfl
        have e2 : rd a ((a.length - 1 - j : Nat) : Int) = rd a 0 := by rw [show a.length - 1 - j = 0 by omega]; rfl
        rw [e] at h2 ⊢
        rw [e2]
        omega) (List.range a.length)
    rw [sum_add, sum_rev (fun j => (rd a (j : Int)).natAbs) a.length, range_rd] at hle
    omega
  have h2 : l1n [32 * k] ≤ 4064 := by
    unfold l1n
    simp only [List.map_cons, List.map_nil, List.sum_cons, List.sum_nil]
    omega
  omega
theorem l1n_fold : ∀ (l a : List Int), (∀ k ∈ l, -127 ≤ k ∧ k ≤ 127) → l1n (l.foldl Lin.stepW a) + 4064 ≤ 2 ^ l.length * (l1n a + 4064)
  | [], a, _ => by simp
  | k :: l, a, h => by
    have h1 := l1n_step (a := a) (h k (by simp))
    have ih := l1n_fold l (Lin.stepW a k) (fun x hx => h x (by simp [hx]))
    rw [List.foldl_cons, List.length_cons, Nat.pow_succ]
    have h2 : 2 ^ l.length * (l1n (Lin.stepW a k) + 4064) ≤ 2 ^ l.length * (2 * (l1n a + 4064)) := Nat.mul_le_mul_left _ (by omega)
    rw [Nat.mul_assoc]
    exact Nat.le_trans ih h2
theorem l1n_wts {l : List Int} (hl : l.length ≤ 12) (h : ∀ k ∈ l, -127 ≤ k ∧ k ≤ 127) : l1n (Lin.wts l) ≤ 16642080 := by
  have h1 := l1n_fold l [] h
  have h2 : 2 ^ l.length ≤ 2 ^ 12 := Nat.pow_le_pow_right (by omega) hl
  have h5 : (2 : Nat) ^ 12 = 4096 := by decide
  rw [h5] at h2
  have h4 : l1n [] = 0 := rfl
  rw [h4] at h1
  unfold Lin.wts
  generalize 2 ^ l.length = P at *
  generalize l1n (l.foldl Lin.stepW []) = Q at *
  omega
theorem pacc_l1 {p x : List Int} (hx : sigL x) (n : Nat) : ∀ i, i ≤ p.length → (Lin.pacc p x n i).natAbs ≤ l1n (p.take i) * 65536
  | 0, _ => by simp [Lin.pacc]
  | i + 1, hi => by
    have ih := pacc_l1 (p := p) hx n i (by omega)
    rw [Lin.pacc_succ]
    have hlt : i < p.length := by omega
    have ht : p.take (i + 1) = p.take i ++ [rd p (i : Int)] := by
      rw [List.take_succ_eq_append_getElem hlt]
      unfold rd
      rw [Int.toNat_natCast, List.getD_eq_getElem?_getD, List.getElem?_eq_getElem hlt]; rfl
    have hw : -65536 ≤ rd x ((n : Int) - 1 - (i : Int)) ∧ rd x ((n : Int) - 1 - (i : Int)) ≤ 65536 := Lin.within_rd (fun v hv => by have := hx v hv; omega) (by omega) _
    have htm : (Lin.pterm p x n i).natAbs ≤ (rd p (i : Int)).natAbs * 65536 := by
      unfold Lin.pterm
      split
      · rw [Int.natAbs_mul]
        exact Nat.mul_le_mul_left _ (by omega)
      · simp
    rw [ht, l1n_append]
    have e : l1n [rd p (i : Int)] = (rd p (i : Int)).natAbs := by simp [l1n]
    rw [e, Nat.add_mul]
    omega
theorem pred_small {f x : List Int} (hl : f.length ≤ 12) (h : ∀ k ∈ f, -127 ≤ k ∧ k ≤ 127) (hx : sigL x) (n : Nat) : -266273280 ≤ Lin.pred (Lin.wts f) x n ∧ Lin.pred (Lin.wts f) x n ≤ 266273280 := by
  have h1 := pacc_l1 (p := Lin.wts f) hx n (Lin.wts f).length (Nat.le_refl _)
  rw [List.take_length] at h1
  have h2 := l1n_wts hl h
  have h3 : l1n (Lin.wts f) * 65536 ≤ 16642080 * 65536 := Nat.mul_le_mul_right _ h2
  unfold Lin.pred
  exact Lin.rnd_bound _ _ _ (by omega) (by omega) (by omega)
theorem resid_small {f x : List Int} (hl : f.length ≤ 12) (h : ∀ k ∈ f, -127 ≤ k ∧ k ≤ 127) (hx : sigL x) : smallL (Lin.resid (Lin.wts f) x) := by
  intro y hy
  obtain ⟨n, _, rfl⟩ := List.mem_map.1 hy
  have h1 := pred_small hl h hx n
  have h2 := Lin.within_rd (B := 65536) (l := x) (fun v hv => by have := hx v hv; omega) (by omega) (n : Int)
  omega
theorem diffs_small {x : List Int} (hx : sigL x) {k : Nat} (hk : k ≤ 4) : smallL (Lin.diffs x k) := by
  have := Lin.within_diffs (sig_within hx) k hk
  exact fun v hv => by have := this v hv; omega
theorem fWrite_short {L l : List Int} (hs : smallL l) (hl : l.length ≤ 128) (hL : L.length ≤ 1000) : ∃ p, p ≤ 3 ∧ divB l.length p = true ∧ fWrite L l = (0, L ++ listBits l p) ∧ fWrite [] l = (0, listBits l p) ∧ (listBits l p).length ≤ 40000 := by
  obtain ⟨p, hp3, hdv, hw, hle⟩ := fWrite_small hs (by omega)
  obtain ⟨⟨q, hq, hq3, hqd, hq2⟩, hb1, hb2⟩ := orderW_bound hs (by omega : l.length ≤ 100000)
  have hsz : (orderW l).2 ≤ 1000000 := by
    have hb := wholeW_bound hs (by omega : l.length ≤ 100000) hq3
    have h8 := pow_le8 hq3
    obtain ⟨p', _, _, hoe, hp1, _⟩ := orderW_least l
    have h0 := wholeW0_le hs
    have h1 := hp1 0 (by omega) (by simp [divB, Nat.mod_one])
    rw [hoe]
    dsimp only
    omega
  refine ⟨p, hp3, hdv, ?_, hw, hle⟩
  unfold fWrite at hw ⊢
  have hc := chk_zero.2 ⟨show l.length ≤ 8192 by omega, hs⟩
  rw [if_neg (by simp [hc]), if_neg (by simp; omega)] at hw
  rw [if_neg (by simp [hc]), if_neg (by omega)]
  have := (Prod.mk.inj hw).2
  rw [List.nil_append] at this
  rw [this]
theorem wDiff_ok {x : List Int} (hx : sigL x) (hl : x.length ≤ 128) {k : Nat} (hk : k ≤ 4) : wDiff x k = (0, numb 2 2 ++ numb (k : Int) 3 ++ (fWrite [] (Lin.diffs x k)).2) := by
  obtain ⟨p, _, _, h1, h2, _⟩ := fWrite_short (L := numb 2 2 ++ numb (k : Int) 3) (diffs_small hx hk) (by rw [Lin.diffs_length]; exact hl) (by rw [List.length_append, numb_length, numb_length]; omega)
  unfold wDiff
  rw [h1, h2]
theorem wFilt_ok {x : List Int} (hx : sigL x) (hl : x.length ≤ 128) {k : Nat} (hk : k ≤ 12) : wFilt x k = (0, filtHead x k ++ (fWrite [] (Lin.resid (Lin.wts (Lin.reflected x k)) x)).2) := by
  obtain ⟨hisF, hfl, hfb⟩ := reflected_isF x k hk
  obtain ⟨p, _, _, h1, h2, _⟩ := fWrite_short (L := filtHead x k) (resid_small (by omega) hfb hx) (by rw [Lin.resid_length]; exact hl) (by
    unfold filtHead
    rw [List.length_append, List.length_append, numb_length, numb_length, sgnBits_length, hfl]; omega)
  unfold wFilt
  rw [h1, h2]
theorem signed17_f {v : Int} (hv : -9223372036854775808 ≤ v ∧ v < 9223372036854775808) {n : Nat} (hn : n = 17 ∨ n = 8) {L : List Int} (hL : L.length + n ≤ 100000000) {f : Nat} (hf : n < f) : shawmref20_signed.f f L v (n : Int) = some (L ++ numb (v % 2 ^ n) n) := by
  have hs : wrap64 (shl .i64 1 (n : Int) - 1) = 2 ^ n - 1 := by rcases hn with rfl | rfl <;> kernel_rfl
  have hb := andm_i64 v n (by omega) hv
  have hp : (0 : Int) < 2 ^ n := Int.pow_pos (by omega)
  have hp2 : (2 : Int) ^ n ≤ 131072 := by rcases hn with rfl | rfl <;> decide
  have h1 := Int.emod_nonneg v (show (2 : Int) ^ n ≠ 0 by omega)
  have h2 := Int.emod_lt_of_pos v hp
  unfold shawmref20_signed.f
  rw [if_pos (by omega), hs, hb, put17_f ⟨by omega, by omega⟩ (by omega) hL hf]
  rfl
theorem same20_l0 (x : List Int) (hl : x.length ≤ 9000000000000000000) : ∀ (f i : Nat), i ≤ x.length → x.length - i < f → shawmref20_same.l0 f x x (x.length : Int) (i : Int) = some ((x.drop i).all fun v => decide (v = x.getD 0 0))
  | 0, i, _, h => by omega
  | f + 1, i, hi, hf => by
    unfold shawmref20_same.l0
    by_cases hlt : i < x.length
    · have h0 : rd x (i : Int) = x[i] := by unfold rd; rw [Int.toNat_natCast, List.getD_eq_getElem?_getD, List.getElem?_eq_getElem hlt]; rfl
      have h1 : rd x 0 = x.getD 0 0 := rfl
      rw [if_pos (by omega), if_pos (by omega), if_pos (by omega), if_pos (by omega), h0, h1, wrap64_id (by omega) (by omega), List.drop_eq_getElem_cons hlt, List.all_cons]
      have ih := same20_l0 x hl f (i + 1) (by omega) (by omega)
      by_cases he : x[i] = x.getD 0 0
      · rw [if_pos he, decide_eq_true he, Bool.true_and]
        exact ih
      · rw [if_neg he, decide_eq_false he, Bool.false_and]
    · rw [if_neg (by omega), List.drop_eq_nil_of_le (by omega)]; rfl
theorem same20_f {x : List Int} (hl : x.length ≤ 1000) {f : Nat} (hf : 1000 < f) : shawmref20_same.f f x = some (allSame x) := by
  unfold shawmref20_same.f allSame
  have := same20_l0 x (by omega) f 0 (by omega) (by omega)
  rw [List.drop_zero] at this
  exact this
theorem rd_get {x : List Int} {i : Nat} : rd x (i : Int) = x.getD i 0 := by unfold rd; rw [Int.toNat_natCast]
theorem planned_l0 (x row : List Int) (hs : sigL x) (hl : x.length ≤ 1000) (hr : row.length ≤ 100) : ∀ (d i f : Nat), i + d = x.length → d + 20 < f → shawmref20_planned.l0 f (row ++ sgnBits 17 (x.take i)) x (x.length : Int) (i : Int) = some (row ++ sgnBits 17 x, true)
  | 0, i, f + 1, h, _ => by
    unfold shawmref20_planned.l0
    rw [if_neg (by omega), List.take_of_length_le (by omega)]
  | d + 1, i, f + 1, h, hf => by
    have hlt : i < x.length := by omega
    have hv : -65536 ≤ x.getD i 0 ∧ x.getD i 0 ≤ 65535 := hs _ (by rw [List.getD_eq_getElem?_getD, List.getElem?_eq_getElem hlt]; exact List.getElem_mem hlt)
    have hsl := sgnBits_length 17 (x.take i)
    have htl : (x.take i).length ≤ 1000 := by rw [List.length_take]; omega
    have hsg := signed17_f (v := x.getD i 0) ⟨by omega, by omega⟩ (n := 17) (.inl rfl) (L := row ++ sgnBits 17 (x.take i)) (by rw [List.length_append, hsl]; omega) (f := f) (by omega)
    have ih := planned_l0 x row hs hl hr d (i + 1) f (by omega) (by omega)
    have hst := sgnBits_take hlt 17
    unfold shawmref20_planned.l0
    rw [if_pos (by omega), if_pos (by omega), if_pos (by omega), rd_get, show (17 : Int) = ((17 : Nat) : Int) from rfl, hsg]
    simp only [Option.bind_some]
    rw [wrap64_id (by omega) (by omega), List.append_assoc, ← hst]
    exact ih
theorem planned_l1 (x row f : List Int) (hfb : ∀ k ∈ f, -127 ≤ k ∧ k ≤ 127) (hl : f.length ≤ 12) (hr : row.length ≤ 100) (R : List Int × Bool)
    (hR : ∀ k, 10000 < k → ((shawmref14_Residual.f k x f).bind fun bt274 => ((shawmref20_listed.f (row ++ sgnBits 8 f) bt274.1).bind fun t278 => (some (t278, true)))) = some R) : ∀ (d i g : Nat), i + d = f.length → d + 20000 < g → shawmref20_planned.l1 g x (row ++ sgnBits 8 (f.take i)) f f (f.length : Int) (i : Int) = some R
  | 0, i, g + 1, h, _ => by
    unfold shawmref20_planned.l1
    rw [if_neg (by omega), List.take_of_length_le (by omega)]
    exact hR g (by omega)
  | d + 1, i, g + 1, h, hg => by
    have hlt : i < f.length := by omega
    have hv : -127 ≤ f.getD i 0 ∧ f.getD i 0 ≤ 127 := hfb _ (by rw [List.getD_eq_getElem?_getD, List.getElem?_eq_getElem hlt]; exact List.getElem_mem hlt)
    have hsl := sgnBits_length 8 (f.take i)
    have htl : (f.take i).length ≤ 12 := by rw [List.length_take]; omega
    have hsg := signed17_f (v := f.getD i 0) ⟨by omega, by omega⟩ (n := 8) (.inr rfl) (L := row ++ sgnBits 8 (f.take i)) (by rw [List.length_append, hsl]; omega) (f := g) (by omega)
    have ih := planned_l1 x row f hfb hl hr R hR d (i + 1) g (by omega) (by omega)
    have hst := sgnBits_take hlt 8
    unfold shawmref20_planned.l1
    rw [if_pos (by omega), if_pos (by omega), if_pos (by omega), rd_get, show (8 : Int) = ((8 : Nat) : Int) from rfl, hsg]
    simp only [Option.bind_some]
    rw [wrap64_id (by omega) (by omega), List.append_assoc, ← hst]
    exact ih
theorem listed_f {row d : List Int} (hs : smallL d) (hl : d.length ≤ 128) (hr : row.length ≤ 1000) : shawmref20_listed.f row d = some (row ++ (fWrite [] d).2) := by
  obtain ⟨p, _, _, _, h2, h3⟩ := fWrite_short (L := []) hs hl (by simp)
  unfold shawmref20_listed.f
  rw [if_pos ⟨by omega, by omega, by rw [h2]; dsimp only; omega⟩]
theorem planned_f {x : List Int} (hs : sigL x) (h1 : 1 ≤ x.length) (hl : x.length ≤ 128) {q : Nat × Nat} (hq : okPlan q) {K : Nat} (hK : K = 60000) : shawmref20_planned.f K x (q.1 : Int) (q.2 : Int) = some (planW x q) := by
  have hx0 : -65536 ≤ x.getD 0 0 ∧ x.getD 0 0 ≤ 65535 := hs _ (by rw [List.getD_eq_getElem?_getD, List.getElem?_eq_getElem (by omega)]; exact List.getElem_mem _)
  have hw := sig_within hs
  have hc : Lin.chk x 2097152 = 0 := Lin.chk_ok (by omega) hw
  have hput : ∀ k : Nat, k ≤ 3 → shawmref17_Put.f K [] (k : Int) 2 = some (numb (k : Int) 2) := fun k hk => by
    have := put17_f (v := (k : Int)) ⟨by omega, by omega⟩ (n := 2) (by omega) (L := []) (by simp) (f := K) (by omega)
    simpa using this
  unfold shawmref20_planned.f
  rcases hq with rfl | rfl | ⟨h2, hk⟩ | ⟨h3, hp1, hp12⟩
  · rw [hput 0 (by omega)]
    simp only [Option.bind_some]
    have hsg := signed17_f (v := x.getD 0 0) ⟨by omega, by omega⟩ (n := 17) (.inl rfl) (L := numb ((0 : Nat) : Int) 2) (by rw [numb_length]; omega) (f := K) (by omega)
    rw [if_pos (show ((0 : Nat) : Int) = 0 from rfl), if_pos (by omega), show rd x 0 = x.getD 0 0 from rfl, show (17 : Int) = ((17 : Nat) : Int) from rfl, hsg]
    simp only [Option.bind_some]
    rw [same20_f (by omega) (by omega)]
    rfl
  · rw [hput 1 (by omega)]
    simp only [Option.bind_some]
    rw [if_neg (by decide), if_pos (show ((1 : Nat) : Int) = 1 from rfl)]
    have := planned_l0 x (numb ((1 : Nat) : Int) 2) hs (by omega) (by rw [numb_length]; omega) x.length 0 K (by omega) (by omega)
    rw [List.take_zero, show sgnBits 17 [] = [] from rfl, List.append_nil] at this
    exact this
  · obtain ⟨k0, k⟩ := q
    obtain rfl : k0 = 2 := h2
    have hk : k ≤ 4 := hk
    rw [hput 2 (by omega)]
    simp only [Option.bind_some]
    have hdf : shawmref14_Differ.f K x (k : Int) = some (Lin.diffs x k, 0) := by rw [hK, Lin.ref_differ x (k : Int) (by omega), if_neg (by omega), if_pos hc, Int.toNat_natCast]
    rw [if_neg (by decide), if_neg (by decide), if_pos (show ((2 : Nat) : Int) = 2 from rfl), hdf]
    simp only [Option.bind_some]
    have hp3 := put17_f (v := (k : Int)) ⟨by omega, by omega⟩ (n := 3) (by omega) (L := numb ((2 : Nat) : Int) 2) (by rw [numb_length]; omega) (f := K) (by omega)
    rw [show (3 : Int) = ((3 : Nat) : Int) from rfl, hp3]
    simp only [Option.bind_some]
    rw [listed_f (diffs_small hs hk) (by rw [Lin.diffs_length]; omega) (by rw [List.length_append, numb_length, numb_length]; omega)]
    simp only [Option.bind_some]
    show _ = some ((wDiff x k).2, (wDiff x k).1 == 0)
    rw [wDiff_ok hs hl hk]
    rfl
  · obtain ⟨k0, k⟩ := q
    obtain rfl : k0 = 3 := h3
    have hp1 : 1 ≤ k := hp1
    have hp12 : k ≤ 12 := hp12
    obtain ⟨hisF, hfl, hfb⟩ := reflected_isF x k hp12
    rw [hput 3 (by omega)]
    simp only [Option.bind_some]
    have hrf : shawmref14_Reflect.f K x (k : Int) = some (Lin.reflected x k, 0) := by
      rw [hK, Lin.ref_reflect x (k : Int) (by omega)]
      unfold Lin.linear_Reflect.f
      rw [if_pos (by omega), if_neg (by omega), if_pos hc, Int.toNat_natCast]
    rw [if_neg (by decide), if_neg (by decide), if_neg (by decide), hrf]
    simp only [Option.bind_some]
    have hp4 := put17_f (v := (k : Int)) ⟨by omega, by omega⟩ (n := 4) (by omega) (L := numb ((3 : Nat) : Int) 2) (by rw [numb_length]; omega) (f := K) (by omega)
    rw [show (4 : Int) = ((4 : Nat) : Int) from rfl, hp4]
    simp only [Option.bind_some]
    have hl1 := planned_l1 x (numb ((3 : Nat) : Int) 2 ++ numb (k : Int) 4) (Lin.reflected x k) hfb (by omega) (by rw [List.length_append, numb_length, numb_length]; omega) (planW x (3, k)) (fun g hg => by
      rw [Lin.ref_residual x (Lin.reflected x k) (by omega) g (by omega), if_pos hisF, if_pos hc]
      simp only [Option.bind_some]
      rw [listed_f (resid_small (by omega) hfb hs) (by rw [Lin.resid_length]; omega) (by rw [List.length_append, List.length_append, numb_length, numb_length, sgnBits_length, hfl]; omega)]
      simp only [Option.bind_some]
      show _ = some ((wFilt x k).2, (wFilt x k).1 == 0)
      rw [wFilt_ok hs hl hp12]
      rfl) (Lin.reflected x k).length 0 K (by omega) (by omega)
    rw [List.take_zero, show sgnBits 8 [] = [] from rfl, List.append_nil] at hl1
    exact hl1
end Go.Proofs.YtjcijaojcgampaaGreatDoor.P
end
section
namespace Go.Proofs.YtjcijaojcgampaaGreatDoor.P
open Go.RowKit Go.Shelf Go.Proofs.YtjcijaojcgampaaGreatDoor.Bits Go.Proofs.YtjcijaojcgampaaGreatDoorW.PrintWords Go.Proofs.YtjcijaojcgampaaGreatDoorW.PrintLast Go.Proofs.YtjcijaojcgampaaGreatDoorW.PrintMore
attribute [local go_sem ↓] Go.wp_at_zero Go.wp_at_succ
abbrev rpBox (a b : Int) : Obj := .cells #[.int .i64 a, .int .i64 b] 87 (0, 0)
def plansS : List S87 := plansL.map fun q => ⟨(q.1 : Int), (q.2 : Int)⟩
theorem Plans_f : shawmref20_Plans.f 100 = some plansS := by kernel_rfl
theorem plansS_len : plansS.length = 19 := rfl
theorem plansL_len : plansL.length = 19 := rfl
theorem plansS_get {i : Nat} (hi : i < 19) : rd_T87 plansS (i : Int) = ⟨((plansL.getD i (0, 0)).1 : Int), ((plansL.getD i (0, 0)).2 : Int)⟩ := by
  unfold rd_T87 plansS
  rw [Int.toNat_natCast, List.getD_eq_getElem?_getD, List.getElem?_map, List.getD_eq_getElem?_getD, List.getElem?_eq_getElem (show i < plansL.length from hi)]
  rfl
theorem planned20_any (A : Option Addr) (c : Nat) (x : List Int) (q : Nat × Nat) (w : World) (hC : Kd.C (Kd.int .i64) w A x.length x) (hc : x.length ≤ c) (hs : sigL x) (h1 : 1 ≤ x.length) (hl : x.length ≤ 128) (hq : okPlan q) :
    Calls Tryz.prog 57 #[.slice A x.length c, .agg #[.int .i64 (q.1 : Int), .int .i64 (q.2 : Int)]] w fun e w' => ∃ v0_ : Value, e = .returned (.tuple #[v0_, .bool (planW x q).2]) ∧ Kd.R (Kd.int .u8) 5 w' w.heap.size (fun _ => True) v0_ (planW x q).1 ∧ Below w.heap.size w w' := by
  obtain ⟨K, hK⟩ : ∃ K : Nat, K = 60000 := ⟨_, rfl⟩
  exact shawmref20_planned.calls K A c x q.1 q.2 _ _ w hC hc (planned_f hs h1 hl hq hK)
structure RJ (w : World) (b2 b4 : Nat) (a b : Int) (W : World) : Prop where
  low : Below w.heap.size w W
  k2 : W.heap[b2]? = some (rpBox 0 0)
  k4 : W.heap[b4]? = some (rpBox a b)
theorem RJ.below {w X Y : World} {b2 b4 : Nat} {a b : Int} (h : RJ w b2 b4 a b X) (hb : Below X.heap.size X Y) : RJ w b2 b4 a b Y :=
  ⟨h.low.trans (hb.mono h.low.size), blk_fr h.k2 (Fr.below hb (fun _ => False)) (fun h => h), blk_fr h.k4 (Fr.below hb (fun _ => False)) (fun h => h)⟩
theorem RJ.store {w X : World} {b2 b4 : Nat} {a b : Int} (h : RJ w b2 b4 a b X) (hn : w.heap.size ≤ b4 ∧ b2 ≠ b4) (a' b' : Int) : RJ w b2 b4 a' b' (X.setRow b4 #[.int .i64 a', .int .i64 b']) ∧ Fr (fun k => k = b4) X (X.setRow b4 #[.int .i64 a', .int .i64 b']) := by
  have hf := fr_setRow' X b4 #[.int .i64 a', .int .i64 b']
  exact ⟨⟨h.low.trans (hf.to_below h.low.size (fun k hk => by rw [hk]; exact hn.1)), blk_fr h.k2 hf hn.2, setRow_heap _ _ _ _ _ _ h.k4⟩, hf⟩
theorem plan_row {x : List Int} {q : Nat × Nat} (h : okPlan q) (hs : sigL x) (h1 : 1 ≤ x.length) (hl : x.length ≤ 128) : 1 ≤ (planW x q).1.length ∧ (planW x q).1.length ≤ 100000 := by
  rcases h with rfl | rfl | ⟨h2, hk⟩ | ⟨h3, hp1, hp12⟩
  · show 1 ≤ (numb 0 2 ++ numb _ 17).length ∧ (numb 0 2 ++ numb _ 17).length ≤ 100000
    rw [List.length_append, numb_length, numb_length]; omega
  · show 1 ≤ (numb 1 2 ++ sgnBits 17 x).length ∧ (numb 1 2 ++ sgnBits 17 x).length ≤ 100000
    rw [List.length_append, numb_length, sgnBits_length]; omega
  · obtain ⟨k0, k⟩ := q
    obtain rfl : k0 = 2 := h2
    have hk : k ≤ 4 := hk
    show 1 ≤ (wDiff x k).2.length ∧ (wDiff x k).2.length ≤ 100000
    obtain ⟨p, _, _, _, h2, h3⟩ := fWrite_short (L := []) (diffs_small hs hk) (by rw [Lin.diffs_length]; omega) (by simp)
    rw [wDiff_ok hs hl hk, h2]
    dsimp only
    rw [List.length_append, List.length_append, numb_length, numb_length]; omega
  · obtain ⟨k0, k⟩ := q
    obtain rfl : k0 = 3 := h3
    have hp12 : k ≤ 12 := hp12
    obtain ⟨_, hfl, hfb⟩ := reflected_isF x k hp12
    show 1 ≤ (wFilt x k).2.length ∧ (wFilt x k).2.length ≤ 100000
    obtain ⟨p, _, _, _, h2, h3⟩ := fWrite_short (L := []) (resid_small (f := Lin.reflected x k) (by omega) hfb hs) (by rw [Lin.resid_length]; omega) (by simp)
    rw [wFilt_ok hs hl hp12, h2]
    unfold filtHead
    dsimp only
    rw [List.length_append, List.length_append, List.length_append, numb_length, numb_length, sgnBits_length, hfl]; omega
theorem RBest20_any (A : Option Addr) (c : Nat) (x : List Int) (w : World) (hC : Kd.C (Kd.int .i64) w A x.length x) (hc : x.length ≤ c) (hs : sigL x) (h1 : 1 ≤ x.length) (hl : x.length ≤ 128) :
    Calls Tryz.prog 53 #[.slice A x.length c] w fun e w' => ∃ v2_ : Value, e = .returned (.tuple #[.agg #[.int .i64 ((planL x).1.1 : Int), .int .i64 ((planL x).1.2 : Int)], v2_]) ∧ Kd.R (Kd.int .u8) 5 w' w.heap.size (fun _ => True) v2_ (sigBits x) ∧ Below w.heap.size w w' := by
  obtain ⟨w1, hw1⟩ : ∃ w1, w1 = (w.alloc (rpBox 0 0)).alloc (rpBox 0 0) := ⟨_, rfl⟩
  obtain ⟨b2, hb2⟩ : ∃ b, b = w.heap.size := ⟨_, rfl⟩
  obtain ⟨b4, hb4⟩ : ∃ b, b = w.heap.size + 1 := ⟨_, rfl⟩
  have hJ : RJ w b2 b4 0 0 w1 := ⟨by rw [hw1]; exact below_alloc (below_alloc (Below.refl _ _) _) _, by rw [hw1, hb2]; exact blk_alloc' (World.alloc_heap_new w _) _, by
    rw [hw1, hb4]
    have := World.alloc_heap_new (w.alloc (rpBox 0 0)) (rpBox 0 0)
    simpa using this⟩
  have hsz : w1.heap.size = b4 + 1 := by rw [hw1, hb4]; simp
  have hpl := shawmref20_Plans.calls 100 plansS w1 Plans_f
  have HPL := Aside0.mk hpl
  have HJ := Aside0.mk hJ
  have HSZ := Aside0.mk hsz
  have HE1 := Aside0.mk hw1.symm
  have HB2 := Aside0.mk hb2
  have HB4 := Aside0.mk hb4
  have HB2' := Aside0.mk hb2.symm
  have HB4' := Aside0.mk hb4.symm
  have HPD := Aside0.mk (fun q W (hq : okPlan q) (hb : Below w.heap.size w W) => planned20_any A c x q W (Kd.C_below hC hb) hc hs h1 hl hq)
  have HRW := Aside0.mk (fun q (hq : okPlan q) => plan_row hq hs h1 hl)
  obtain ⟨C, hCC⟩ : ∃ C : Nat × Nat → Int, C = fun q => ((planW x q).1.length : Int) := ⟨_, rfl⟩
  obtain ⟨ok, hok⟩ : ∃ ok : Nat × Nat → Bool, ok = fun q => (planW x q).2 := ⟨_, rfl⟩
  have HPX : Aside0 (planL x = bFold C ok plansL ∧ (planL x).2.2 = true ∧ sigBits x = (planW x (planL x).1).1) := ⟨by rw [hCC, hok]; rfl, planL_found x, rfl⟩
  have HCC := Aside0.mk hCC
  have HOK := Aside0.mk hok
  clear hw1 hb2 hb4 hJ hsz hpl hC hc hs h1 hl hCC hok
  go_enter Tryz.func53, Tryz.ntmps53
  go_wp2_with (rw [HE1.out, HB4'.out, HB2'.out])
  refine HPL.out.mono ?_
  rintro e w2 ⟨v10, rfl, hr, hb⟩
  obtain ⟨A10, c10, rfl, hc10, hC10⟩ := Kd.R_reads hr
  rw [plansS_len] at hC10 hc10
  have HJ2 := Aside0.mk (HJ.out.below hb)
  have hr' := Kd.R_mono (Kd.R_bound hr) (ok' := fun k => w1.heap.size ≤ k) (fun k hk => hk.2.1)
  have HPF := Aside0.mk (Kd.R_F hr')
  clear hr hb hc10 hC10 hr'
  rw [plansS_len] at *
  go_wp2_with fail
  go_loopw [5, 12] (fun u v wr => ∃ (i : Nat) (s : (Nat × Nat) × Int × Bool), v = .int .i64 (i : Int) ∧ i ≤ 19 ∧ Aside0 (s = bFold C ok (plansL.take i)) ∧ Aside0 (RJ w b2 b4 (s.1.1 : Int) (s.1.2 : Int) wr) ∧ Aside0 (Fr (fun k => k = b4) w2 wr) ∧
      ((u = .slice none 0 0 ∧ s.2.2 = false) ∨ ∃ (ad : Addr) (c5 n5 : Nat), u = .slice (some ad) n5 c5 ∧ s.2.2 = true ∧ s.2.1 = (n5 : Int) ∧ n5 ≤ 100000 ∧ Aside0 ((planW x s.1).1.length = n5 ∧ Kd.R (Kd.int .u8) 5 wr w.heap.size (fun k => k ≠ b2 ∧ k ≠ b4) u (planW x s.1).1))) (fun _ v _ => 19 - (intOf v).toNat)
  case atStart => exact ⟨0, ((0, 0), 0, false), rfl, by omega, ⟨rfl⟩, HJ2, ⟨Fr.refl _ _⟩, .inl ⟨rfl, rfl⟩⟩
  case round =>
    obtain ⟨i, s, rfl, hi, HS, HJR, HFR, hu⟩ := hrel
    by_cases hlt : i < 19
    · obtain ⟨q, hq⟩ : ∃ q, q = plansL.getD i (0, 0) := ⟨_, rfl⟩
      have hqm : q ∈ plansL := by rw [hq, List.getD_eq_getElem?_getD, List.getElem?_eq_getElem (show i < plansL.length from hlt)]; exact List.getElem_mem _
      have hqo := plans_ok q hqm
      have hst : plansL.take (i + 1) = plansL.take i ++ [q] := by
        rw [List.take_succ_eq_append_getElem (show i < plansL.length from hlt), hq, List.getD_eq_getElem?_getD, List.getElem?_eq_getElem (show i < plansL.length from hlt)]; rfl
      have HNS : Aside0 (bFold C ok (plansL.take (i + 1)) = bStep C ok s q) := ⟨by rw [hst, bFold_snoc, ← HS.out]⟩
      obtain ⟨ad, e, z0, z1⟩ := at_T87 (Kd.F_now (Kd.F_step HPF.out (fun k hk hlt => HFR.out.block k hlt (fun e => by have h1 : w1.heap.size ≤ k := hk; have := HSZ.out; omega)))) (i : Int) (by omega) (by omega)
      rw [plansS_get hlt, ← hq, Int.toNat_natCast] at z0 z1
      subst e
      dsimp only at z0 z1
      obtain ⟨kI, hkI⟩ : ∃ z : Int, (q.1 : Int) = z := ⟨_, rfl⟩
      obtain ⟨oI, hoI⟩ : ∃ z : Int, (q.2 : Int) = z := ⟨_, rfl⟩
      rw [hkI] at z0
      rw [hoI] at z1
      have HKI := Aside0.mk hkI
      have HOI := Aside0.mk hoI
      have HQO := Aside0.mk hqo
      clear hq hqm hqo hst hkI hoI
      go_wp2_with fail
      have hpd := HPD.out q (wr.alloc (rpBox kI oI)) HQO.out (below_alloc HJR.out.low _)
      rw [HKI.out, HOI.out] at hpd
      refine hpd.mono ?_
      rintro e w4 ⟨v4, rfl, hr4, hb4⟩
      have hrw := HRW.out q HQO.out
      obtain ⟨ad4, c4, e4⟩ := Kd.R_slice1 hr4 (by omega)
      subst e4
      have hb4' : Below wr.heap.size wr w4 := (below_alloc (Below.refl _ _) _).trans (hb4.mono (by simp))
      have hkq : w4.heap[wr.heap.size]? = some (rpBox kI oI) := blk_fr (World.alloc_heap_new wr _) (Fr.below hb4 (fun _ => False)) (fun h => h)
      have y0 : w4.cell? ⟨wr.heap.size, 0, none⟩ = some (.int .i64 kI) := by rw [cell_of_row w4 _ 0 _ _ _ hkq]; rfl
      have y1 : w4.cell? ⟨wr.heap.size, 1, none⟩ = some (.int .i64 oI) := by rw [cell_of_row w4 _ 1 _ _ _ hkq]; rfl
      have hNE : b2 ≠ b4 ∧ w.heap.size ≤ b4 ∧ b4 < wr.heap.size := by
        have := HB2.out; have := HB4.out
        refine ⟨by omega, by omega, lt_of_block HJR.out.k4⟩
      have hR4 : Kd.R (Kd.int .u8) 5 w4 w.heap.size (fun k => k ≠ b2 ∧ k ≠ b4) (.slice (some ad4) (planW x q).1.length c4) (planW x q).1 := Kd.R_lower (Kd.R_mono (Kd.R_bound hr4) (fun k hk => by
        have h1 := hk.2.1
        have h2 := lt_of_block HJR.out.k2
        simp at h1
        omega)) (Nat.le_trans HJR.out.low.size (by simp))
      have HR4 := Aside0.mk hR4
      have HJ4 := Aside0.mk (HJR.out.below hb4')
      have HF4 := Aside0.mk (HFR.out.trans (Fr.below hb4' _))
      have HB4w := Aside0.mk hb4'
      have HNE := Aside0.mk hNE
      have HQL := Aside0.mk hrw
      have hns := HNS.out
      rw [show bStep C ok s q = if ok q && (!s.2.2 || decide (C q < s.2.1)) then (q, C q, true) else s from rfl] at hns
      rw [show ok q = (planW x q).2 by rw [HOK.out], show C q = ((planW x q).1.length : Int) by rw [HCC.out]] at hns
      clear hpd hr4 hb4 hb4' hkq hNE hR4 hrw z0 z1
      have hu4 : (u5 = .slice none 0 0 ∧ s.2.2 = false) ∨ ∃ (ad : Addr) (c5 n5 : Nat), u5 = .slice (some ad) n5 c5 ∧ s.2.2 = true ∧ s.2.1 = (n5 : Int) ∧ n5 ≤ 100000 ∧ Aside0 ((planW x s.1).1.length = n5 ∧ Kd.R (Kd.int .u8) 5 w4 w.heap.size (fun k => k ≠ b2 ∧ k ≠ b4) u5 (planW x s.1).1) := by
        rcases hu with h | ⟨ad5, c5, n5, e, h1, h2, h3, h4⟩
        · exact .inl h
        · exact .inr ⟨ad5, c5, n5, e, h1, h2, h3, ⟨h4.out.1, Kd.R_below h4.out.2 HB4w.out⟩⟩
      clear hu
      have HPW : Aside0 (∃ P, P = planW x q) := ⟨_, rfl⟩
      obtain ⟨P, hP⟩ := HPW.out
      rw [← hP] at HR4 HQL hns ⊢
      have HP := Aside0.mk hP
      clear HPW hP
      obtain ⟨bits, pok⟩ := P
      dsimp only at HR4 HQL hns ⊢
      obtain ⟨n4, hn4⟩ : ∃ n, n = bits.length := ⟨_, rfl⟩
      rw [← hn4] at HR4 HQL hns ⊢
      have HN4 := Aside0.mk hn4
      clear hn4
      cases pok with
      | false =>
        have HN := Aside0.mk (show s = bFold C ok (plansL.take (i + 1)) by rw [hns]; simp)
        have HU := Aside0.mk hu4
        clear hns hu4
        go_wp2_with fail
        go_roundw
        case rel => exact ⟨i + 1, s, by go_num, by omega, HN, HJ4, HF4, HU.out⟩
        case measure => simp [intOf]; omega
      | true =>
        have hst4 := HJ4.out.store ⟨HNE.out.2.1, HNE.out.1⟩ kI oI
        have HS4 := Aside0.mk hst4
        have k4 := HJ4.out.k4
        have hRs : Kd.R (Kd.int .u8) 5 (w4.setRow b4 #[.int .i64 kI, .int .i64 oI]) w.heap.size (fun k => k ≠ b2 ∧ k ≠ b4) (.slice (some ad4) n4 c4) bits := Kd.R_step HR4.out (fun k hk hlt => hst4.2.block k hlt hk.2)
        have HRS := Aside0.mk hRs
        clear hst4 hRs
        have qT : ∀ (w : World) (a : Option Addr) (n c n' c' : Nat), (binOp .eql 54 (.slice a n c) (.slice none n' c')).run Tryz.prog w = .ok (.bool a.isNone) w := fun w a n c n' c' => Lib.run_eql_slice_nil w _ _ a n c n' c' Tryz.underlying54
        rcases hu4 with ⟨rfl, hsf⟩ | ⟨ad5, c5, n5, rfl, hst, hsn, hn5, HR5⟩
        · have HN := Aside0.mk (show (q, (n4 : Int), true) = bFold C ok (plansL.take (i + 1)) by rw [hns, hsf]; simp)
          clear hns hsf
          go_wp2_with (refine wpList_store_row rfl _ _ _ rfl b4 #[.int .i64 kI, .int .i64 oI] rfl rfl _ _ k4 (by kernel_rfl) rfl (by kernel_rfl) ?_)
          go_roundw
          case rel => exact ⟨i + 1, (q, (n4 : Int), true), by go_num, by omega, HN, ⟨by rw [HKI.out, HOI.out]; exact HS4.out.1⟩, ⟨HF4.out.trans HS4.out.2⟩, .inr ⟨ad4, c4, n4, rfl, rfl, rfl, HQL.out.2, ⟨by rw [← HP.out]; exact HN4.out.symm, by rw [← HP.out]; exact HRS.out⟩⟩⟩
          case measure => simp [intOf]; omega
        · have HR5' := HR5
          by_cases hlt5 : n4 < n5
          · have d5 : decide (n4 < n5) = true := decide_eq_true hlt5
            have HN := Aside0.mk (show (q, (n4 : Int), true) = bFold C ok (plansL.take (i + 1)) by rw [hns, hst, hsn]; simp [hlt5])
            clear hns hst hsn hlt5
            go_wp2_with (refine wpList_store_row rfl _ _ _ rfl b4 #[.int .i64 kI, .int .i64 oI] rfl rfl _ _ k4 (by kernel_rfl) rfl (by kernel_rfl) ?_)
            go_roundw
            case rel => exact ⟨i + 1, (q, (n4 : Int), true), by go_num, by omega, HN, ⟨by rw [HKI.out, HOI.out]; exact HS4.out.1⟩, ⟨HF4.out.trans HS4.out.2⟩, .inr ⟨ad4, c4, n4, rfl, rfl, rfl, HQL.out.2, ⟨by rw [← HP.out]; exact HN4.out.symm, by rw [← HP.out]; exact HRS.out⟩⟩⟩
            case measure => simp [intOf]; omega
          · have d5 : decide (n4 < n5) = false := decide_eq_false hlt5
            have HN := Aside0.mk (show s = bFold C ok (plansL.take (i + 1)) by rw [hns, hst, hsn]; simp; omega)
            have HU := Aside0.mk (show s.2.2 = true ∧ s.2.1 = (n5 : Int) from ⟨hst, hsn⟩)
            clear hns hst hsn hlt5
            go_wp2_with fail
            go_roundw
            case rel => exact ⟨i + 1, s, by go_num, by omega, HN, HJ4, HF4, .inr ⟨ad5, c5, n5, rfl, HU.out.1, HU.out.2, hn5, HR5⟩⟩
            case measure => simp [intOf]; omega
    · obtain rfl : i = 19 := by omega
      have hse : s = planL x := by rw [HS.out, HPX.out.1, List.take_of_length_le (by rw [plansL_len]; omega)]
      rcases hu with ⟨_, hsf⟩ | ⟨ad5, c5, n5, rfl, hst, hsn, hn5, HR5⟩
      · rw [hse, HPX.out.2.1] at hsf; cases hsf
      have hR5 := HR5.out.2
      rw [hse, ← HPX.out.2.2] at hR5
      rw [hse] at HJR
      have hj := HJR.out
      obtain ⟨kI, hkI⟩ : ∃ z : Int, ((planL x).1.1 : Int) = z := ⟨_, rfl⟩
      obtain ⟨oI, hoI⟩ : ∃ z : Int, ((planL x).1.2 : Int) = z := ⟨_, rfl⟩
      rw [hkI, hoI] at hj
      have HKQ := Aside0.mk hkI
      have HOQ := Aside0.mk hoI
      have y0 : wr.cell? ⟨b4, 0, none⟩ = some (.int .i64 kI) := by rw [cell_of_row wr _ 0 _ _ _ hj.k4]; rfl
      have y1 : wr.cell? ⟨b4, 1, none⟩ = some (.int .i64 oI) := by rw [cell_of_row wr _ 1 _ _ _ hj.k4]; rfl
      have k2 := hj.k2
      have hf := fr_setRow' wr b2 #[.int .i64 kI, .int .i64 oI]
      have HR6 := Aside0.mk (Kd.R_step hR5 (fun k hk hlt => hf.block k hlt hk.1))
      have HB6 := Aside0.mk (hj.low.trans (hf.to_below hj.low.size (fun k hk => by have := HB2.out; rw [hk, this]; exact Nat.le_refl _)))
      have HK2 := Aside0.mk k2
      clear hse hst hsn hR5 HR5 HJR hj hkI hoI hf
      go_wp2_with (refine wpList_store_row rfl _ _ _ rfl b2 #[.int .i64 kI, .int .i64 oI] rfl rfl _ _ k2 (by kernel_rfl) rfl (by kernel_rfl) ?_)
      refine bodyPost_ret (results_ct rfl _ _ b2 _ _ _ _ rfl (setRow_heap _ _ _ _ _ _ HK2.out) Tryz.underlying87 rfl (by kernel_rfl)) rfl ?_
      rw [HKQ.out, HOQ.out]
      exact ⟨_, rfl, Kd.R_mono HR6.out (fun _ _ => trivial), HB6.out⟩
def shawmref20_best.f (k : Nat) (l0 : List Int) : Option (Int × Int × List Int) := if chkS l0 = 0 then some (((planL l0).1.1 : Int), ((planL l0).1.2 : Int), sigBits l0) else none
theorem shawmref20_best.calls (k : Nat) (A0 : Option Addr) (c0 : Nat) (l0 : List Int) (r1 : Int) (r2 : Int) (r3 : List Int) (w : World) (hr0 : Kd.C (Kd.int .i64) w A0 l0.length l0) (hc0 : l0.length ≤ c0) (h : shawmref20_best.f k l0 = some (r1, r2, r3)) :
    Calls Tryz.prog 53 #[.slice A0 l0.length c0] w fun e w' => ∃ v2_ : Value, e = .returned (.tuple #[.agg #[.int .i64 r1, .int .i64 r2], v2_]) ∧ Kd.R (Kd.int .u8) 5 w' w.heap.size (fun _ => True) v2_ r3 ∧ Below w.heap.size w w' := by
  unfold shawmref20_best.f at h
  split at h
  case isFalse => cases h
  rename_i hc
  obtain ⟨⟨h1, hl⟩, hs⟩ := chkS_zero.1 hc
  simp only [Option.some.injEq, Prod.mk.injEq] at h
  obtain ⟨rfl, rfl, rfl⟩ := h
  exact RBest20_any A0 c0 l0 w hr0 hc0 hs h1 hl
end Go.Proofs.YtjcijaojcgampaaGreatDoor.P
end
section
namespace Go.Proofs.YtjcijaojcgampaaGreatDoor.P
open Go.RowKit Go.Proofs.YtjcijaojcgampaaGreatDoorW.PrintWords Go.Proofs.YtjcijaojcgampaaGreatDoorW.PrintLast Go.Proofs.YtjcijaojcgampaaGreatDoorW.PrintMore
attribute [local go_sem] max2_int min2_int max_two min_two max_three min_three max_four min_four
def shawmref20_Best.f (k : Nat) (l0 : List Int) : Option (Int × Int × Int × Int) := (shawmref20_sure.f k l0).bind fun t287 => (if t287 = 0 then ((shawmref20_best.f k l0).bind fun bt288 => (some (bt288.1, bt288.2.1, (bt288.2.2.length : Int), 0))) else (some (0, 0, 0, t287)))
theorem shawmref20_Best.calls (k : Nat) (A0 : Option Addr) (c0 : Nat) (l0 : List Int) (r1 : Int) (r2 : Int) (r3 : Int) (r4 : Int) (w : World) (hr0 : Kd.C (Kd.int .i64) w A0 l0.length l0) (hc0 : l0.length ≤ c0) (h : shawmref20_Best.f k l0 = some (r1, r2, r3, r4)) :
    Calls Tryz.prog 25 #[.slice A0 l0.length c0] w fun e w' => e = .returned (.tuple #[.int .i64 r1, .int .i64 r2, .int .i64 r3, .int .i64 r4]) ∧ Below w.heap.size w w' := by
  have hu87 := Tryz.underlying87
  have HR0 := Aside0.mk hr0
  have HC0 := Aside0.mk hc0
  clear hr0 hc0
  have HB := Aside0.mk (Below.refl w.heap.size w)
  have H : ((shawmref20_sure.f k l0).bind fun t287 => (if t287 = 0 then ((shawmref20_best.f k l0).bind fun bt288 => (some (bt288.1, bt288.2.1, (bt288.2.2.length : Int), 0))) else (some (0, 0, 0, t287)))) = some (r1, r2, r3, r4) := h
  clear h
  replace H := Option.bind_eq_some_iff.mp H
  obtain ⟨t287, A20, H⟩ := H
  replace H : (if t287 = 0 then ((shawmref20_best.f k l0).bind fun bt288 => (some (bt288.1, bt288.2.1, (bt288.2.2.length : Int), 0))) else (some (0, 0, 0, t287))) = some (r1, r2, r3, r4) := H
  have A2 := Aside0.mk A20
  clear A20
  by_cases c3 : t287 = 0
  · rw [if_pos c3] at H
    have c3b0 : (t287 == 0) = true := beq_iff_eq.mpr c3
    have c3b1 : (t287 != 0) = false := bne_eq_false_iff_eq.mpr c3
    clear c3
    replace H := Option.bind_eq_some_iff.mp H
    obtain ⟨⟨t288, t289, t290⟩, A40, H⟩ := H
    replace H : (some (t288, t289, (t290.length : Int), 0)) = some (r1, r2, r3, r4) := H
    have A4 := Aside0.mk A40
    clear A40
    simp only [Option.some.injEq, Prod.mk.injEq] at H
    obtain ⟨rfl, rfl, rfl, rfl⟩ := H
    go_enter Tryz.func25, Tryz.ntmps25
    go_wp2_with (first | (go_at_call 52; (with_reducible refine (shawmref20_sure.calls k _ _ l0 t287 _ ?side1 ?side2 A2.out).mono ?_); (case side1 => exact zC HR0.out); (case side2 => exact HC0.out); rintro e w' ⟨rfl, ⟨nd, rfl⟩⟩; (try first | exact ⟨rfl, _, World.drewN_drewN _ _ _⟩ | exact ⟨rfl, _, Eq.trans (World.drewN_drewN _ _ _) (congrArg (World.drewN _) (Nat.add_assoc _ _ _))⟩)) | (go_at_call 53; (with_reducible refine (shawmref20_best.calls k _ _ l0 t288 t289 t290 _ ?side1 ?side2 A4.out).mono ?_); (case side1 => exact zC HR0.out); (case side2 => exact HC0.out); rintro e w5 ⟨v291, rfl, ho0, hb⟩; have n0_ := Aside0.mk (Kd.R_lower ho0 (below_size (zB HB))); have n1_ := Aside0.mk (below_step (zB HB) hb); clear HB; have HO292 := n0_; have HB := n1_; clear n0_ n1_; (try clear hb); (try clear hb2); (try clear hk); (try clear hi); (try clear ho0)) | ((with_reducible refine gate_dst (N := 7) rfl ?_); refine box_event ?hg (N := 7) ?hd (cs := #[.int .i64 0, .int .i64 0]) (t := 87) ?hr ?_; (case hd => rfl); (case hg => rfl); (case hr => first | (go_simp; done) | (go_simp; rfl)); intro gb293 hg w6 hbox hb; have n0_ := Aside0.mk (Kd.R_below (zR HO292) hb); have n1_ := Aside0.mk (below_step (zB HB) hb); have n2_ := Aside0.mk (hbox); have n3_ := Aside0.mk ((by rw [hg]; exact (below_size (zB HB)) : w.heap.size ≤ gb293)); have n4_ := Aside0.mk ((by rw [hg]; exact (below_size (zB HB)) : w.heap.size ≤ gb293)); clear HO292; clear HB; have HO292 := n0_; have HB := n1_; have BK293 := n2_; have GW293 := n3_; have GE293 := n4_; clear n0_ n1_ n2_ n3_ n4_; clear hb hbox hg; have hcz7_0 : w6.cell? ⟨gb293, 0, none⟩ = some (.int .i64 0) := (blk_cell BK293.out 0).trans rfl; have hcz7_1 : w6.cell? ⟨gb293, 1, none⟩ = some (.int .i64 0) := (blk_cell BK293.out 1).trans rfl; have hfz7_0 := blk_frozen BK293.out 0; have hfz7_1 := blk_frozen BK293.out 1; obtain ⟨Ao8, co8, eo8⟩ := Kd.R_slice HO292.out; subst eo8))
    repeat (go_quiet (first | (go_at_call 52; (with_reducible refine (shawmref20_sure.calls k _ _ l0 t287 _ ?side1 ?side2 A2.out).mono ?_); (case side1 => exact zC HR0.out); (case side2 => exact HC0.out); rintro e w' ⟨rfl, ⟨nd, rfl⟩⟩; (try first | exact ⟨rfl, _, World.drewN_drewN _ _ _⟩ | exact ⟨rfl, _, Eq.trans (World.drewN_drewN _ _ _) (congrArg (World.drewN _) (Nat.add_assoc _ _ _))⟩)) | (go_at_call 53; (with_reducible refine (shawmref20_best.calls k _ _ l0 t288 t289 t290 _ ?side1 ?side2 A4.out).mono ?_); (case side1 => exact zC HR0.out); (case side2 => exact HC0.out); rintro e w5 ⟨v291, rfl, ho0, hb⟩; have n0_ := Aside0.mk (Kd.R_lower ho0 (below_size (zB HB))); have n1_ := Aside0.mk (below_step (zB HB) hb); clear HB; have HO292 := n0_; have HB := n1_; clear n0_ n1_; (try clear hb); (try clear hb2); (try clear hk); (try clear hi); (try clear ho0)) | ((with_reducible refine gate_dst (N := 7) rfl ?_); refine box_event ?hg (N := 7) ?hd (cs := #[.int .i64 0, .int .i64 0]) (t := 87) ?hr ?_; (case hd => rfl); (case hg => rfl); (case hr => first | (go_simp; done) | (go_simp; rfl)); intro gb293 hg w6 hbox hb; have n0_ := Aside0.mk (Kd.R_below (zR HO292) hb); have n1_ := Aside0.mk (below_step (zB HB) hb); have n2_ := Aside0.mk (hbox); have n3_ := Aside0.mk ((by rw [hg]; exact (below_size (zB HB)) : w.heap.size ≤ gb293)); have n4_ := Aside0.mk ((by rw [hg]; exact (below_size (zB HB)) : w.heap.size ≤ gb293)); clear HO292; clear HB; have HO292 := n0_; have HB := n1_; have BK293 := n2_; have GW293 := n3_; have GE293 := n4_; clear n0_ n1_ n2_ n3_ n4_; clear hb hbox hg; have hcz7_0 : w6.cell? ⟨gb293, 0, none⟩ = some (.int .i64 0) := (blk_cell BK293.out 0).trans rfl; have hcz7_1 : w6.cell? ⟨gb293, 1, none⟩ = some (.int .i64 0) := (blk_cell BK293.out 1).trans rfl; have hfz7_0 := blk_frozen BK293.out 0; have hfz7_1 := blk_frozen BK293.out 1; obtain ⟨Ao8, co8, eo8⟩ := Kd.R_slice HO292.out; subst eo8)); try go_wp2_with (first | (go_at_call 52; (with_reducible refine (shawmref20_sure.calls k _ _ l0 t287 _ ?side1 ?side2 A2.out).mono ?_); (case side1 => exact zC HR0.out); (case side2 => exact HC0.out); rintro e w' ⟨rfl, ⟨nd, rfl⟩⟩; (try first | exact ⟨rfl, _, World.drewN_drewN _ _ _⟩ | exact ⟨rfl, _, Eq.trans (World.drewN_drewN _ _ _) (congrArg (World.drewN _) (Nat.add_assoc _ _ _))⟩)) | (go_at_call 53; (with_reducible refine (shawmref20_best.calls k _ _ l0 t288 t289 t290 _ ?side1 ?side2 A4.out).mono ?_); (case side1 => exact zC HR0.out); (case side2 => exact HC0.out); rintro e w5 ⟨v291, rfl, ho0, hb⟩; have n0_ := Aside0.mk (Kd.R_lower ho0 (below_size (zB HB))); have n1_ := Aside0.mk (below_step (zB HB) hb); clear HB; have HO292 := n0_; have HB := n1_; clear n0_ n1_; (try clear hb); (try clear hb2); (try clear hk); (try clear hi); (try clear ho0)) | ((with_reducible refine gate_dst (N := 7) rfl ?_); refine box_event ?hg (N := 7) ?hd (cs := #[.int .i64 0, .int .i64 0]) (t := 87) ?hr ?_; (case hd => rfl); (case hg => rfl); (case hr => first | (go_simp; done) | (go_simp; rfl)); intro gb293 hg w6 hbox hb; have n0_ := Aside0.mk (Kd.R_below (zR HO292) hb); have n1_ := Aside0.mk (below_step (zB HB) hb); have n2_ := Aside0.mk (hbox); have n3_ := Aside0.mk ((by rw [hg]; exact (below_size (zB HB)) : w.heap.size ≤ gb293)); have n4_ := Aside0.mk ((by rw [hg]; exact (below_size (zB HB)) : w.heap.size ≤ gb293)); clear HO292; clear HB; have HO292 := n0_; have HB := n1_; have BK293 := n2_; have GW293 := n3_; have GE293 := n4_; clear n0_ n1_ n2_ n3_ n4_; clear hb hbox hg; have hcz7_0 : w6.cell? ⟨gb293, 0, none⟩ = some (.int .i64 0) := (blk_cell BK293.out 0).trans rfl; have hcz7_1 : w6.cell? ⟨gb293, 1, none⟩ = some (.int .i64 0) := (blk_cell BK293.out 1).trans rfl; have hfz7_0 := blk_frozen BK293.out 0; have hfz7_1 := blk_frozen BK293.out 1; obtain ⟨Ao8, co8, eo8⟩ := Kd.R_slice HO292.out; subst eo8)))
    refine bodyPost_ret (results_list (rs := [.tmp 2, .tmp 3, .tmp 4, .tmp 5]) rfl (by simp) (.tmp (.tmp (.tmp (.tmp .nil))))) rfl ?_
    exact ⟨by first | rfl | (simp [errW_none, errW_some] <;> rfl) | (simp [*, errW_none, errW_some] <;> rfl), zB1 HB GE293⟩
  · rw [if_neg c3] at H
    have c3b0 : (t287 == 0) = false := beq_eq_false_iff_ne.mpr c3
    have c3b1 : (t287 != 0) = true := bne_iff_ne.mpr c3
    simp only [Option.some.injEq, Prod.mk.injEq] at H
    obtain ⟨rfl, rfl, rfl, rfl⟩ := H
    go_enter Tryz.func25, Tryz.ntmps25
    go_wp2_with (first | (go_at_call 52; (with_reducible refine (shawmref20_sure.calls k _ _ l0 t287 _ ?side1 ?side2 A2.out).mono ?_); (case side1 => exact zC HR0.out); (case side2 => exact HC0.out); rintro e w' ⟨rfl, ⟨nd, rfl⟩⟩; (try first | exact ⟨rfl, _, World.drewN_drewN _ _ _⟩ | exact ⟨rfl, _, Eq.trans (World.drewN_drewN _ _ _) (congrArg (World.drewN _) (Nat.add_assoc _ _ _))⟩)))
    repeat (go_quiet (first | (go_at_call 52; (with_reducible refine (shawmref20_sure.calls k _ _ l0 t287 _ ?side1 ?side2 A2.out).mono ?_); (case side1 => exact zC HR0.out); (case side2 => exact HC0.out); rintro e w' ⟨rfl, ⟨nd, rfl⟩⟩; (try first | exact ⟨rfl, _, World.drewN_drewN _ _ _⟩ | exact ⟨rfl, _, Eq.trans (World.drewN_drewN _ _ _) (congrArg (World.drewN _) (Nat.add_assoc _ _ _))⟩))); try go_wp2_with (first | (go_at_call 52; (with_reducible refine (shawmref20_sure.calls k _ _ l0 t287 _ ?side1 ?side2 A2.out).mono ?_); (case side1 => exact zC HR0.out); (case side2 => exact HC0.out); rintro e w' ⟨rfl, ⟨nd, rfl⟩⟩; (try first | exact ⟨rfl, _, World.drewN_drewN _ _ _⟩ | exact ⟨rfl, _, Eq.trans (World.drewN_drewN _ _ _) (congrArg (World.drewN _) (Nat.add_assoc _ _ _))⟩))))
    refine bodyPost_ret (results_list (rs := [.tmp 2, .tmp 3, .tmp 4, .tmp 5]) rfl (by simp) (.tmp (.tmp (.tmp (.tmp .nil))))) rfl ?_
    exact ⟨by first | rfl | (simp [errW_none, errW_some] <;> rfl) | (simp [*, errW_none, errW_some] <;> rfl), zB HB⟩
end Go.Proofs.YtjcijaojcgampaaGreatDoor.P
end
section
namespace Go.Proofs.YtjcijaojcgampaaGreatDoor.P
open Go.RowKit Go.Shelf Go.Proofs.YtjcijaojcgampaaGreatDoor.Bits Go.Proofs.YtjcijaojcgampaaGreatDoorW.PrintWords Go.Proofs.YtjcijaojcgampaaGreatDoorW.PrintLast Go.Proofs.YtjcijaojcgampaaGreatDoorW.PrintMore
theorem signal_l0 (x : List Int) (hl : x.length ≤ 128) : ∀ (f i : Nat), i ≤ x.length → x.length - i < f → shawmref20_Signal.l0 f x (x.length : Int) (i : Int) = some ((x.drop i).all sigB)
  | 0, i, _, h => by omega
  | f + 1, i, hi, hf => by
    unfold shawmref20_Signal.l0
    by_cases hlt : i < x.length
    · have h0 : rd x (i : Int) = x[i] := by unfold rd; rw [Int.toNat_natCast, List.getD_eq_getElem?_getD, List.getElem?_eq_getElem hlt]; rfl
      have ih := signal_l0 x hl f (i + 1) (by omega) (by omega)
      rw [if_pos (by omega), if_pos (by omega), if_pos (by omega), h0, wrap64_id (by omega) (by omega), List.drop_eq_getElem_cons hlt, List.all_cons]
      by_cases h1 : x[i] < -65536
      · rw [if_pos h1, show sigB x[i] = false by unfold sigB; simp; omega]; rfl
      rw [if_neg h1]
      by_cases h2 : x[i] > 65535
      · rw [if_pos h2, show sigB x[i] = false by unfold sigB; simp; omega]; rfl
      rw [if_neg h2, show sigB x[i] = true by unfold sigB; simp; omega, Bool.true_and]
      exact ih
    · rw [if_neg (by omega), List.drop_eq_nil_of_le (by omega)]; rfl
theorem signal_f {x : List Int} (hl : x.length ≤ 128) {k : Nat} (hk : 150 < k) : shawmref20_Signal.f k x = some (x.all sigB) := by
  unfold shawmref20_Signal.f
  have := signal_l0 x hl k 0 (by omega) (by omega)
  rw [List.drop_zero] at this
  exact this
theorem sure_f (x : List Int) {k : Nat} (hk : 200 < k) : shawmref20_sure.f k x = some (chkS x) := by
  obtain ⟨m, rfl⟩ : ∃ m, k = m + 1 := ⟨k - 1, by omega⟩
  have hj : ∀ b, shawmref20_sure.j0 (m + 1) x b = if b = true then some 1 else ((shawmref20_Signal.f m x).bind fun t102 => (if t102 = true then (some 0) else (some 6))) := fun b => rfl
  unfold shawmref20_sure.f chkS
  rw [hj, hj]
  by_cases h1 : x.length < 1
  · rw [if_pos (show (x.length : Int) < 1 by omega), if_pos rfl, if_pos (show x.length < 1 ∨ 128 < x.length from .inl h1)]
  · rw [if_neg (show ¬ (x.length : Int) < 1 by omega)]
    by_cases h2 : 128 < x.length
    · rw [if_pos (show decide ((x.length : Int) > 128) = true by simp; omega), if_pos (show x.length < 1 ∨ 128 < x.length from .inr h2)]
    · rw [if_neg (show ¬ decide ((x.length : Int) > 128) = true by simp; omega), if_neg (show ¬ (x.length < 1 ∨ 128 < x.length) by omega), signal_f (by omega) (by omega)]
      simp only [Option.bind_some]
      cases x.all sigB <;> rfl
theorem Best20_f (x : List Int) {k : Nat} (hk : 200 < k) : shawmref20_Best.f k x = some ((fPlan x).1, (fPlan x).2.1, (fPlan x).2.2.1, (fPlan x).2.2.2) := by
  unfold shawmref20_Best.f
  rw [sure_f x hk]
  simp only [Option.bind_some]
  unfold fPlan
  by_cases h : chkS x = 0
  · rw [if_pos h, if_pos h]
    unfold shawmref20_best.f
    rw [if_pos h]
    simp only [Option.bind_some]
    rw [sigBits_len]
  · rw [if_neg h, if_neg h]
end Go.Proofs.YtjcijaojcgampaaGreatDoor.P
end
section
namespace Go.Proofs.YtjcijaojcgampaaGreatDoor.P
open Go.RowKit Go.Shelf Go.Proofs.YtjcijaojcgampaaGreatDoor.Bits Go.Proofs.YtjcijaojcgampaaGreatDoorW.PrintWords Go.Proofs.YtjcijaojcgampaaGreatDoorW.PrintLast Go.Proofs.YtjcijaojcgampaaGreatDoorW.PrintMore
attribute [local go_sem ↓] Go.wp_at_zero Go.wp_at_succ
theorem Sure20_any (A : Option Addr) (c : Nat) (x : List Int) (w : World) (hC : Kd.C (Kd.int .i64) w A x.length x) (hc : x.length ≤ c) :
    Calls Tryz.prog 52 #[.slice A x.length c] w fun e w' => e = .returned (.int .i64 (chkS x)) ∧ Below w.heap.size w w' :=
  (shawmref20_sure.calls 300 A c x _ w hC hc (sure_f x (by omega))).mono (fun e w' h => ⟨h.1, h.2.below⟩)
theorem Cost20_any (A : Option Addr) (c : Nat) (x : List Int) (k o : Int) (w : World) (hC : Kd.C (Kd.int .i64) w A x.length x) (hc : x.length ≤ c) :
    Calls Tryz.prog 27 #[.slice A x.length c, .int .i64 k, .int .i64 o] w fun e w' => e = .returned (.tuple #[.int .i64 (fCostP x k o).1, .int .i64 (fCostP x k o).2]) ∧ Below w.heap.size w w' := by
  have HSU := Aside0.mk (Sure20_any A c x w hC hc)
  by_cases h3 : chkS x = 0
  case neg =>
    have HF : fCostP x k o = (0, chkS x) := by unfold fCostP; rw [if_neg h3]
    rw [HF]
    dsimp only
    generalize chkS x = e at *
    have d1 : (e != 0) = true := by simpa using h3
    clear hC hc HF h3
    go_enter Tryz.func27, Tryz.ntmps27
    go_wp2_with fail
    refine HSU.out.mono ?_
    rintro e w1 ⟨rfl, hb⟩
    have HB1 := Aside0.mk hb
    clear hb
    go_wp2_with fail
    go_ret2
    exact ⟨rfl, HB1.out⟩
  have HF : fCostP x k o = costL x k o := by unfold fCostP; rw [if_pos h3]
  obtain ⟨⟨h1, hl⟩, hs⟩ := chkS_zero.1 h3
  rw [HF]
  rw [h3] at HSU
  have HCS := Aside0.mk (fun q hq => costL_some (x := x) (k := k) (o := o) (q := q) hq)
  have HCN := Aside0.mk (costL_none (x := x) (k := k) (o := o))
  have HPD := Aside0.mk (fun q W (hq : okPlan q) (hb : Below w.heap.size w W) => planned20_any A c x q W (Kd.C_below hC hb) hc hs h1 hl hq)
  have HPL := Aside0.mk (fun W => shawmref20_Plans.calls 100 plansS W Plans_f)
  clear hC hc HF h3 h1 hl hs
  go_enter Tryz.func27, Tryz.ntmps27
  go_wp2_with fail
  refine HSU.out.mono ?_
  rintro e w1 ⟨rfl, hb⟩
  have HB1 := Aside0.mk hb
  clear hb
  go_wp2_with fail
  refine (HPL.out w1).mono ?_
  rintro e w2 ⟨v10, rfl, hr, hb⟩
  obtain ⟨A10, c10, rfl, hc10, hC10⟩ := Kd.R_reads hr
  rw [plansS_len] at hC10 hc10
  have HB2 := Aside0.mk (HB1.out.trans (hb.mono HB1.out.size))
  have HPF := Aside0.mk (Kd.C_F k87_heap hC10)
  clear hr hb hc10 hC10
  rw [plansS_len] at *
  go_wp2_with fail
  go_loopw [20] (fun v wr => ∃ i : Nat, v = .int .i64 (i : Int) ∧ i ≤ 19 ∧ Aside0 (∀ q ∈ plansL.take i, costT x k o q = false) ∧ Aside0 (Below w2.heap.size w2 wr)) (fun v _ => 19 - (intOf v).toNat)
  case atStart => exact ⟨0, rfl, by omega, ⟨fun q hq => by simp at hq⟩, ⟨Below.refl _ _⟩⟩
  case round =>
    obtain ⟨i, rfl, hi, HALL, HBW⟩ := hrel
    by_cases hlt : i < 19
    · obtain ⟨q, hq⟩ : ∃ q, q = plansL.getD i (0, 0) := ⟨_, rfl⟩
      have hqm : q ∈ plansL := by rw [hq, List.getD_eq_getElem?_getD, List.getElem?_eq_getElem (show i < plansL.length from hlt)]; exact List.getElem_mem _
      have hqo := plans_ok q hqm
      have hst : plansL.take (i + 1) = plansL.take i ++ [q] := by
        rw [List.take_succ_eq_append_getElem (show i < plansL.length from hlt), hq, List.getD_eq_getElem?_getD, List.getElem?_eq_getElem (show i < plansL.length from hlt)]; rfl
      have HGO : Aside0 (costT x k o q = false → ∀ q ∈ plansL.take (i + 1), costT x k o q = false) := ⟨fun h q' hq' => by
        rw [hst] at hq'
        rcases List.mem_append.1 hq' with h' | h'
        · exact HALL.out q' h'
        · rw [List.mem_singleton.1 h']; exact h⟩
      obtain ⟨ad, e, z0, z1⟩ := at_T87 (Kd.F_now (Kd.F_below HPF.out HBW.out)) (i : Int) (by omega) (by omega)
      rw [plansS_get hlt, ← hq, Int.toNat_natCast] at z0 z1
      subst e
      dsimp only at z0 z1
      have HCT : Aside0 (costT x k o q = ((decide ((q.1 : Int) = k) && decide ((q.2 : Int) = o)) && (planW x q).2)) := ⟨rfl⟩
      have HQM := Aside0.mk hqm
      have HPDQ : Aside0 (∀ W, Below w.heap.size w W → Calls Tryz.prog 57 #[.slice A x.length c, .agg #[.int .i64 (q.1 : Int), .int .i64 (q.2 : Int)]] W fun e w' => ∃ v0_ : Value, e = .returned (.tuple #[v0_, .bool (planW x q).2]) ∧ Kd.R (Kd.int .u8) 5 w' W.heap.size (fun _ => True) v0_ (planW x q).1 ∧ Below W.heap.size W w') := ⟨fun W hW => HPD.out q W hqo hW⟩
      have HCSQ := Aside0.mk (HCS.out q hqm)
      obtain ⟨kI, hkI⟩ : ∃ z : Int, (q.1 : Int) = z := ⟨_, rfl⟩
      obtain ⟨oI, hoI⟩ : ∃ z : Int, (q.2 : Int) = z := ⟨_, rfl⟩
      rw [hkI] at z0 HCT HPDQ
      rw [hoI] at z1 HCT HPDQ
      clear hq hqm hqo hst hkI hoI
      by_cases he : kI = k ∧ oI = o
      · obtain ⟨rfl, rfl⟩ := he
        rw [decide_eq_true rfl, decide_eq_true rfl, Bool.and_true, Bool.true_and] at HCT
        generalize planW x q = P at *
        obtain ⟨bits, y⟩ := P
        dsimp only at HCT HPDQ HCSQ
        go_wp2_with fail
        refine (HPDQ.out _ (HB2.out.trans (HBW.out.trans (below_alloc (Below.refl _ _) _ |>.mono HBW.out.size) |>.mono HB2.out.size))).mono ?_
        rintro e w4 ⟨v4, rfl, hr4, hb4⟩
        obtain ⟨A4, c4, rfl, _, _⟩ := Kd.R_reads hr4
        have HB4 := Aside0.mk (HBW.out.trans (((below_alloc (Below.refl _ _) _).trans (hb4.mono (by simp))).mono HBW.out.size))
        clear hr4 hb4 z0 z1
        cases y with
        | false =>
          go_wp2_with fail
          go_roundw
          case rel => exact ⟨i + 1, by go_num, by omega, ⟨HGO.out HCT.out⟩, HB4⟩
          case measure => simp [intOf]; omega
        | true =>
          go_wp2_with fail
          go_ret2
          rw [HCSQ.out HCT.out]
          exact ⟨rfl, HB2.out.trans (HB4.out.mono HB2.out.size)⟩
      · have hct : costT x k o q = false := by
          rw [HCT.out]
          by_cases h1 : kI = k
          · rw [decide_eq_false (fun h => he ⟨h1, h⟩)]; simp
          · rw [decide_eq_false h1]; simp
        have HN := Aside0.mk (HGO.out hct)
        clear hct HCT HGO
        have hbw2 : ∀ ob, Below w2.heap.size w2 (wr.alloc ob) := fun ob => HBW.out.trans ((below_alloc (Below.refl _ _) ob).mono HBW.out.size)
        have HBN := Aside0.mk hbw2
        clear hbw2
        by_cases h1 : kI = k
        · have h2 : (oI == o) = false := by simp; exact fun h => he ⟨h1, h⟩
          subst h1
          clear he
          go_wp2_with fail
          go_roundw
          case rel => exact ⟨i + 1, by go_num, by omega, HN, ⟨HBN.out _⟩⟩
          case measure => simp [intOf]; omega
        · have h2 : (kI == k) = false := by simpa using h1
          clear he
          go_wp2_with fail
          go_roundw
          case rel => exact ⟨i + 1, by go_num, by omega, HN, ⟨HBN.out _⟩⟩
          case measure => simp [intOf]; omega
    · obtain rfl : i = 19 := by omega
      have HN := Aside0.mk (HCN.out (fun q hq => HALL.out q (by rw [List.take_of_length_le (by rw [plansL_len]; omega)]; exact hq)))
      go_wp2_with fail
      go_ret2
      rw [HN.out]
      exact ⟨rfl, HB2.out.trans (HBW.out.mono HB2.out.size)⟩
theorem LosslessPlans_any (A : Option Addr) (c : Nat) (x : List Int) (k o : Int) (w : World) (hg : HO w) (hC : Kd.C (Kd.int .i64) w A x.length x) (hc : x.length ≤ c) (hl : x.length ≤ 1000000000000000000) :
    Calls Tryz.prog 5 #[.slice A x.length c, .int .i64 k, .int .i64 o] w fun e w' => e = .returned (.bool true) ∧ Below w.heap.size w w' := by
  have HAW : Aside0 (∀ W, Below w.heap.size w W → Calls Tryz.prog 12 #[] W fun e w' => e = .returned (.bool true) ∧ Below w.heap.size w w') := ⟨fun W hb => (awake20_any W (hg.below hb)).mono (fun e w' h => ⟨h.1, hb.trans (h.2.mono hb.size)⟩)⟩
  by_cases h1 : 300 < x.length
  · have d1 : decide ((300 : Int) < (x.length : Int)) = true := by simp; omega
    clear h1 hC hg
    go_enter Tryz.func5, Tryz.ntmps5
    go_wp2_with fail
    refine (HAW.out w (Below.refl _ _)).mono ?_
    rintro e w9 ⟨rfl, hb⟩
    have HB9 := Aside0.mk hb
    clear hb
    go_wp2_with fail
    go_ret
    exact ⟨rfl, HB9.out⟩
  have d1 : decide ((300 : Int) < (x.length : Int)) = false := by simp; omega
  have HP1 := Aside0.mk (Plan_any A c x w hg hC hc)
  have HP2 : Aside0 (∀ W, Below w.heap.size w W → Calls Tryz.prog 25 #[.slice A x.length c] W fun e w' => e = .returned (.tuple #[.int .i64 (fPlan x).1, .int .i64 (fPlan x).2.1, .int .i64 (fPlan x).2.2.1, .int .i64 (fPlan x).2.2.2]) ∧ Below W.heap.size W w') := ⟨fun W hb => shawmref20_Best.calls 300 A c x _ _ _ _ W (Kd.C_below hC hb) hc (Best20_f x (by omega))⟩
  have HC1 := Aside0.mk (fun W (hb : Below w.heap.size w W) => Cost_any A c x k o W (hg.below hb) (Kd.C_below hC hb) hc)
  have HC2 := Aside0.mk (fun W (hb : Below w.heap.size w W) => Cost20_any A c x k o W (Kd.C_below hC hb) hc)
  generalize fPlan x = r at *
  generalize fCostP x k o = s at *
  obtain ⟨r1, r2, r3, r4⟩ := r
  obtain ⟨s1, s2⟩ := s
  dsimp only at HP1 HP2 HC1 HC2
  have y1 : (r1 == r1) = true := by simp
  have y2 : (r2 == r2) = true := by simp
  have y3 : (r3 == r3) = true := by simp
  have y4 : (r4 == r4) = true := by simp
  have y5 : (s1 == s1) = true := by simp
  have y6 : (s2 == s2) = true := by simp
  clear hC hg h1 hc hl
  go_enter Tryz.func5, Tryz.ntmps5
  go_wp2_with fail
  refine HP1.out.mono ?_
  rintro e w1 ⟨rfl, hb⟩
  have HB1 := Aside0.mk hb
  clear hb
  go_wp2_with fail
  refine (HP2.out w1 HB1.out).mono ?_
  rintro e w2 ⟨rfl, hb⟩
  have HB2 := Aside0.mk (HB1.out.trans (hb.mono HB1.out.size))
  clear hb
  go_wp2_with fail
  refine (HC1.out w2 HB2.out).mono ?_
  rintro e w3 ⟨rfl, hb⟩
  have HB3 := Aside0.mk (HB2.out.trans (hb.mono HB2.out.size))
  clear hb
  go_wp2_with fail
  refine (HC2.out w3 HB3.out).mono ?_
  rintro e w4 ⟨rfl, hb⟩
  have HB4 := Aside0.mk (HB3.out.trans (hb.mono HB3.out.size))
  clear hb
  go_wp2_with fail
  refine (HAW.out w4 HB4.out).mono ?_
  rintro e w9 ⟨rfl, hb⟩
  have HB9 := Aside0.mk hb
  clear hb
  go_wp2_with fail
  go_ret
  exact ⟨rfl, HB9.out⟩
end Go.Proofs.YtjcijaojcgampaaGreatDoor.P
end
