/- Middles and sides of two numbers: the contracts of lift.Mid, lift.Sides. Plans of a signal (plain law); the contracts of lossless.same, checked, differed, filtered, written. The contracts of lossless.differed, filtered, written. All plans: the iterator that lossless.plans gives. The plan with the least cost: lossless.best, planned; Plan. The contracts of lossless.planned, Plan, Cost. The contract of lossless.Cost. Which plan is the best (plain law); the contracts of lossless.put, middles. Lists of two lists; the contract of lossless.middles. Which lists are frames (plain law); the contract of lossless.isFrame. The contracts of lossless.framed, Size, Write, Bytes. The contracts of lossless.Write, Bytes. The contracts of lossless.signed, coefficients, alike. The contracts of lossless.added, restored, told, signal. The contracts of lossless.told, signal. The contracts of lossless.sides, read. How long the signals are that are read (plain law). -/
import Derived.RangeFuncNested
import Derived.Test.YtjcijaojcgampaaGreatDoorZPl20
import Derived.Test.YtjcijaojcgampaaGreatDoorZPl26
import Derived.Test.YtjcijaojcgampaaGreatDoorZPl5
import Derived.Test.YtjcijaojcgampaaGreatDoorZPl19
import Derived.Test.YtjcijaojcgampaaGreatDoorZPl9
import Derived.Test.YtjcijaojcgampaaGreatDoorZPl24
set_option linter.unusedVariables false
set_option linter.unusedSimpArgs false
set_option maxHeartbeats 16000000
set_option maxRecDepth 100000
section
namespace Go.Proofs.YtjcijaojcgampaaGreatDoor.P
open Go.RowKit Go.Shelf Go.Proofs.YtjcijaojcgampaaGreatDoor.Bits Go.Proofs.YtjcijaojcgampaaGreatDoorW.PrintWords Go.Proofs.YtjcijaojcgampaaGreatDoorW.PrintLast Go.Proofs.YtjcijaojcgampaaGreatDoorW.PrintMore
attribute [local go_sem ↓] Go.wp_at_zero Go.wp_at_succ
abbrev inV (b : Nat) : Value := .func (.func 152) #[] #[.pointer (some ⟨b, 0, none⟩)]
theorem isWithin_any (m : Int) (w : World) : Calls Tryz.prog 123 #[.int .i64 m] w fun e w' => e = .returned (inV w.heap.size) ∧ w' = w.alloc (intBox m) := by
  go_enter Tryz.func123, Tryz.ntmps123
  go_wp2
  go_ret
  simp
theorem within1_any (b : Nat) (m x : Int) (w : World) (hb : w.heap[b]? = some (intBox m)) (hm : 0 ≤ m ∧ m ≤ 1099511627776) (hx : -m ≤ x ∧ x ≤ m) : Calls Tryz.prog 152 #[.int .i64 x, .pointer (some ⟨b, 0, none⟩)] w fun e w' => e = .returned (.bool true) ∧ w' = w := by
  have c1 := cell_of_one hb
  have d1 : decide (-m ≤ x) = true := by simpa using hx.1
  have d2 : decide (x ≤ m) = true := by simpa using hx.2
  have hw : wrap64 (-m) = -m := wrap64_id (by omega) (by omega)
  clear hb hx
  go_enter Tryz.func152, Tryz.ntmps152
  go_wp2_with fail
  go_ret
  exact ⟨rfl, rfl⟩
def midM (l r : Int) : Int := r + (l - r) / 2
theorem Mid_any (l r : Int) (w : World) (hl : -1073741824 ≤ l ∧ l ≤ 1073741824) (hr : -1073741824 ≤ r ∧ r ≤ 1073741824) :
    Calls Tryz.prog 96 #[.int .i64 l, .int .i64 r] w fun e w' => e = .returned (.tuple #[.int .i64 (midM l r), .int .i64 (l - r), .int .i64 0]) ∧ Below w.heap.size w w' := by
  obtain ⟨w1, hw1⟩ : ∃ w1, w1 = w.alloc (intBox 1073741824) := ⟨_, rfl⟩
  obtain ⟨b, hb⟩ : ∃ b, b = w.heap.size := ⟨_, rfl⟩
  have hb1 : Below w.heap.size w w1 := by rw [hw1]; exact below_alloc (Below.refl _ _) _
  have hk1 : w1.heap[b]? = some (intBox 1073741824) := by rw [hw1, hb]; exact World.alloc_heap_new w _
  have H1 := Aside0.mk (within1_any b 1073741824 l w1 hk1 (by omega) (by omega))
  have H2 := Aside0.mk (within1_any b 1073741824 r w1 hk1 (by omega) (by omega))
  have HB1 := Aside0.mk hb1
  have HW1 := Aside0.mk hw1
  have HB := Aside0.mk hb
  clear hw1 hb hb1 hk1
  go_enter Tryz.func96, Tryz.ntmps96
  go_wp2_with fail
  refine (isWithin_any 1073741824 w).mono ?_
  rintro e w2 ⟨rfl, hw⟩
  rw [← HW1.out] at hw
  obtain rfl := hw.symm
  rw [← HB.out]
  go_wp2_with fail
  refine H1.out.mono ?_
  rintro e w2 ⟨rfl, hw⟩
  obtain rfl := hw.symm
  go_wp2_with fail
  refine H2.out.mono ?_
  rintro e w2 ⟨rfl, hw⟩
  obtain rfl := hw.symm
  go_wp2_with fail
  go_ret3
  exact ⟨rfl, HB1.out⟩
def sideR (m s : Int) : Int := m - s / 2
theorem Sides_any (m s : Int) (w : World) (hm : -4294967296 ≤ m ∧ m ≤ 4294967296) (hs : -4294967296 ≤ s ∧ s ≤ 4294967296) :
    Calls Tryz.prog 98 #[.int .i64 m, .int .i64 s] w fun e w' => e = .returned (.tuple #[.int .i64 (sideR m s + s), .int .i64 (sideR m s), .int .i64 0]) ∧ Below w.heap.size w w' := by
  obtain ⟨w1, hw1⟩ : ∃ w1, w1 = w.alloc (intBox 4294967296) := ⟨_, rfl⟩
  obtain ⟨b, hb⟩ : ∃ b, b = w.heap.size := ⟨_, rfl⟩
  have hb1 : Below w.heap.size w w1 := by rw [hw1]; exact below_alloc (Below.refl _ _) _
  have hk1 : w1.heap[b]? = some (intBox 4294967296) := by rw [hw1, hb]; exact World.alloc_heap_new w _
  have H1 := Aside0.mk (within1_any b 4294967296 m w1 hk1 (by omega) (by omega))
  have H2 := Aside0.mk (within1_any b 4294967296 s w1 hk1 (by omega) (by omega))
  have HB1 := Aside0.mk hb1
  have HW1 := Aside0.mk hw1
  have HB := Aside0.mk hb
  clear hw1 hb hb1 hk1
  go_enter Tryz.func98, Tryz.ntmps98
  go_wp2_with fail
  refine (isWithin_any 4294967296 w).mono ?_
  rintro e w2 ⟨rfl, hw⟩
  rw [← HW1.out] at hw
  obtain rfl := hw.symm
  rw [← HB.out]
  go_wp2_with fail
  refine H1.out.mono ?_
  rintro e w2 ⟨rfl, hw⟩
  obtain rfl := hw.symm
  go_wp2_with fail
  refine H2.out.mono ?_
  rintro e w2 ⟨rfl, hw⟩
  obtain rfl := hw.symm
  go_wp2_with fail
  go_ret3
  exact ⟨rfl, HB1.out⟩
def sigL (x : List Int) : Prop := ∀ v ∈ x, -65536 ≤ v ∧ v ≤ 65535
def sigB (v : Int) : Bool := decide (-65536 ≤ v) && decide (v ≤ 65535)
theorem sigB_iff (v : Int) : sigB v = true ↔ -65536 ≤ v ∧ v ≤ 65535 := by simp [sigB]
theorem all_sigB (x : List Int) : x.all sigB = true ↔ sigL x := by
  rw [List.all_eq_true]
  exact ⟨fun h v hv => (sigB_iff v).1 (h v hv), fun h v hv => (sigB_iff v).2 (h v hv)⟩
def chkS (x : List Int) : Int := if x.length < 1 ∨ 128 < x.length then 1 else if x.all sigB then 0 else 6
theorem chkS_zero {x : List Int} : chkS x = 0 ↔ (1 ≤ x.length ∧ x.length ≤ 128) ∧ sigL x := by
  unfold chkS
  rw [← all_sigB]
  split
  · constructor
    · intro h; omega
    · rintro ⟨⟨_, _⟩, _⟩; omega
  · split
    · rename_i h1 h2; exact ⟨fun _ => ⟨by omega, h2⟩, fun _ => rfl⟩
    · rename_i h1 h2; exact ⟨fun h => absurd h (by decide), fun h => absurd h.2 h2⟩
def allSame (x : List Int) : Bool := x.all fun v => decide (v = x.getD 0 0)
theorem same_l0 (x : List Int) (hl : x.length ≤ 9000000000000000000) : ∀ (f i : Nat), i ≤ x.length → x.length - i < f → lossless_same.l0 f x x (x.length : Int) (i : Int) = some ((x.drop i).all fun v => decide (v = x.getD 0 0))
  | 0, i, _, h => by omega
  | f + 1, i, hi, hf => by
    unfold lossless_same.l0
    by_cases hlt : i < x.length
    · have h0 : rd x (i : Int) = x[i] := by unfold rd; rw [Int.toNat_natCast, List.getD_eq_getElem?_getD, List.getElem?_eq_getElem hlt]; rfl
      have h1 : rd x 0 = x.getD 0 0 := rfl
      rw [if_pos (by omega), if_pos (by omega), if_pos (by omega), if_pos (by omega), h0, h1, wrap64_id (by omega) (by omega), List.drop_eq_getElem_cons hlt, List.all_cons]
      have ih := same_l0 x hl f (i + 1) (by omega) (by omega)
      by_cases he : x[i] = x.getD 0 0
      · rw [if_pos he, decide_eq_true he, Bool.true_and]
        exact ih
      · rw [if_neg he, decide_eq_false he, Bool.false_and]
    · rw [if_neg (by omega), List.drop_eq_nil_of_le (by omega)]; rfl
theorem same_any (A : Option Addr) (c : Nat) (x : List Int) (w : World) (hC : Kd.C (Kd.int .i64) w A x.length x) (hc : x.length ≤ c) (hl : x.length ≤ 9000000000000000000) :
    Calls Tryz.prog 82 #[.slice A x.length c] w fun e w' => e = .returned (.bool (allSame x)) ∧ Drawn0 w w' :=
  lossless_same.calls (x.length + 1) A c x _ w hC hc (by unfold lossless_same.f allSame; have := same_l0 x hl (x.length + 1) 0 (by omega) (by omega); simpa using this)
theorem checked_l0 (x : List Int) (hl : x.length ≤ 128) : ∀ (f i : Nat), i ≤ x.length → x.length - i < f → lossless_checked.l0 f x (x.length : Int) (i : Int) = some (if (x.drop i).all sigB then 0 else 6)
  | 0, i, _, h => by omega
  | f + 1, i, hi, hf => by
    unfold lossless_checked.l0
    by_cases hlt : i < x.length
    · have h0 : rd x (i : Int) = x[i] := by unfold rd; rw [Int.toNat_natCast, List.getD_eq_getElem?_getD, List.getElem?_eq_getElem hlt]; rfl
      have ih := checked_l0 x hl f (i + 1) (by omega) (by omega)
      rw [if_pos (by omega), if_pos (by omega), if_pos (by omega), h0, wrap64_id (by omega) (by omega), List.drop_eq_getElem_cons hlt, List.all_cons]
      by_cases h1 : x[i] < -65536
      · rw [if_pos h1, show sigB x[i] = false by unfold sigB; simp; omega]; rfl
      rw [if_neg h1]
      by_cases h2 : x[i] > 65535
      · rw [if_pos h2, show sigB x[i] = false by unfold sigB; simp; omega]; rfl
      rw [if_neg h2, show sigB x[i] = true by unfold sigB; simp; omega, Bool.true_and]
      exact ih
    · rw [if_neg (by omega), List.drop_eq_nil_of_le (by omega)]; rfl
theorem checked_f (x : List Int) : lossless_checked.f 200 x = some (chkS x) := by
  have hj : ∀ b, lossless_checked.j0 200 x b = if b then some 1 else lossless_checked.l0 199 x (x.length : Int) 0 := fun b => rfl
  unfold lossless_checked.f chkS
  rw [hj, hj]
  by_cases h1 : x.length < 1
  · rw [if_pos (show (x.length : Int) < 1 by omega), if_pos rfl, if_pos (show x.length < 1 ∨ 128 < x.length from .inl h1)]
  · rw [if_neg (show ¬ (x.length : Int) < 1 by omega)]
    by_cases h2 : 128 < x.length
    · rw [if_pos (show decide ((x.length : Int) > 128) = true by simp; omega), if_pos (show x.length < 1 ∨ 128 < x.length from .inr h2)]
    · rw [if_neg (show ¬ decide ((x.length : Int) > 128) = true by simp; omega), if_neg (show ¬ (x.length < 1 ∨ 128 < x.length) by omega)]
      have := checked_l0 x (by omega) 199 0 (by omega) (by omega)
      simpa using this
theorem checked_any (A : Option Addr) (c : Nat) (x : List Int) (w : World) (hC : Kd.C (Kd.int .i64) w A x.length x) (hc : x.length ≤ c) :
    Calls Tryz.prog 50 #[.slice A x.length c] w fun e w' => e = .returned (.int .i64 (chkS x)) ∧ Drawn0 w w' := lossless_checked.calls 200 A c x _ w hC hc (checked_f x)
theorem wSigned_ok (L : List Int) (v : Int) (n : Nat) (hn : 1 ≤ n ∧ n ≤ 32) (h : -2 ^ (n - 1) ≤ v ∧ v < 2 ^ (n - 1)) (hl : L.length + n ≤ 1048576) : wSigned L v (n : Int) = (0, L ++ numb (v % 2 ^ n) n) := by
  unfold wSigned
  rw [Int.toNat_natCast, if_neg (by omega)]
  unfold wput putE putL
  rw [if_neg (by rw [numb_length]; omega), if_neg (by rw [numb_length]; omega)]
def sgnBits (n : Nat) (x : List Int) : List Int := x.flatMap fun v => numb (v % 2 ^ n) n
theorem sgnBits_length (n : Nat) (x : List Int) : (sgnBits n x).length = n * x.length := by
  induction x with
  | nil => simp [sgnBits]
  | cons v x ih =>
    unfold sgnBits at *
    rw [List.flatMap_cons, List.length_append, ih, numb_length, List.length_cons, Nat.mul_succ, Nat.add_comm]
theorem sgnBits_take {x : List Int} {j : Nat} (h : j < x.length) (n : Nat) : sgnBits n (x.take (j + 1)) = sgnBits n (x.take j) ++ numb (x.getD j 0 % 2 ^ n) n := by
  rw [take_snoc h]; unfold sgnBits; rw [List.flatMap_append]; simp
def wDiff (x : List Int) (k : Nat) : Int × List Int := fWrite (numb 2 2 ++ numb (k : Int) 3) (Lin.diffs x k)
def filtHead (x : List Int) (p : Nat) : List Int := numb 3 2 ++ numb (p : Int) 4 ++ sgnBits 8 (Lin.reflected x p)
def wFilt (x : List Int) (p : Nat) : Int × List Int := fWrite (filtHead x p) (Lin.resid (Lin.wts (Lin.reflected x p)) x)
def planW (x : List Int) (p : Nat × Nat) : List Int × Bool :=
  if p.1 = 2 then ((wDiff x p.2).2, (wDiff x p.2).1 == 0) else if p.1 = 3 then ((wFilt x p.2).2, (wFilt x p.2).1 == 0) else if p.1 = 1 then (numb 1 2 ++ sgnBits 17 x, true) else (numb 0 2 ++ numb (x.getD 0 0 % 2 ^ 17) 17, allSame x)
theorem reflected_isF (x : List Int) (o : Nat) (h : o ≤ 12) : Lin.isF (Lin.reflected x o) = true ∧ (Lin.reflected x o).length = o ∧ ∀ k ∈ Lin.reflected x o, -127 ≤ k ∧ k ≤ 127 := by
  have hb : ∀ k ∈ Lin.reflected x o, -127 ≤ k ∧ k ≤ 127 := by
    intro k hk
    unfold Lin.reflected Lin.coefs at hk
    obtain ⟨n, _, rfl⟩ := List.mem_map.1 hk
    exact Lin.refK_range _ _
  have hl : (Lin.reflected x o).length = o := by unfold Lin.reflected Lin.coefs; rw [List.length_map, List.length_range]
  refine ⟨?_, hl, hb⟩
  unfold Lin.isF
  rw [hl, decide_eq_true h, Bool.true_and, Bool.not_eq_true', List.any_eq_false]
  intro k hk
  have := hb k hk
  unfold Lin.outB
  simp; omega
theorem sig_chk {x : List Int} (hs : sigL x) (hl : x.length ≤ 128) : Lin.chk x 2097152 = 0 := by
  unfold Lin.chk
  rw [if_neg (by omega), if_neg]
  rw [List.any_eq_true]
  rintro ⟨v, hv, h⟩
  have := hs v hv
  unfold Lin.outB at h
  simp at h
  omega
theorem row_F {W : World} {base n c : Nat} {A : Option Addr} {l : List Int} (h : Kd.R (Kd.int .i64) 3 W base (fun _ => True) (.slice A n c) l) : Kd.F (Kd.int .i64) W (fun k => base ≤ k ∧ k < W.heap.size) A n l :=
  Kd.R_F (Kd.R_mono (Kd.R_bound h) (fun k hk => ⟨hk.2.1, hk.2.2.1⟩))
theorem diffs_len (x : List Int) (k : Nat) : (Lin.diffs x k).length = x.length := by
  induction k with
  | zero => rfl
  | succ k ih => unfold Lin.diffs Lin.dstep; rw [List.length_map, List.length_range, ih]
theorem F_wr {w W : World} {ok S : Nat → Prop} {p : Nat} {A : Option Addr} {n : Nat} {l : List Int} (h : Kd.F (Kd.int .i64) w ok A n l) (hok : ∀ k, ok k → k < w.heap.size → ¬ (k = p ∨ S k)) (hf : Fr (fun k => k = p ∨ S k) w W) : Kd.F (Kd.int .i64) W ok A n l :=
  Kd.F_step h (fun k hk hlt => hf.block k hlt (hok k hk hlt))
theorem differed_any (S ok : Nat → Prop) (p : Nat) (A : Option Addr) (c : Nat) (x : List Int) (k : Nat) (w : World) (hW : Wr w S p []) (hF : Kd.F (Kd.int .i64) w ok A x.length x) (hok : ∀ k, ok k → k < w.heap.size → ¬ (k = p ∨ S k)) (hc : x.length ≤ c) (hs : sigL x) (hl : x.length ≤ 128) (hk : k ≤ 4) :
    Calls Tryz.prog 79 #[.pointer (some ⟨p, 0, none⟩), .slice A x.length c, .int .i64 (k : Int)] w fun e w' => e = .returned (.bool ((wDiff x k).1 == 0)) ∧ WrTo w S p (wDiff x k).2 w' := by
  have hp1 := Put_any S p [] 2 2 w hW (by simp)
  have e1 := wPut_ok [] 2 2 (by omega) (by decide) (by simp)
  rw [show ((2 : Nat) : Int) = 2 from rfl, List.nil_append] at e1
  rw [e1] at hp1
  have hp2 := fun S1 W h => Put_any S1 p (numb 2 2) (k : Int) 3 W h (by rw [numb_length]; omega)
  have e2 := wPut_ok (numb 2 2) (k : Int) 3 (by omega) ⟨by omega, by simp only [Int.reducePow]; omega⟩ (by rw [numb_length]; omega)
  rw [show ((3 : Nat) : Int) = 3 from rfl] at e2
  rw [e2] at hp2
  have HP1 := Aside0.mk hp1
  have HP2 := Aside0.mk hp2
  have HF := Aside0.mk hF
  have HOK := Aside0.mk hok
  have HD : Aside0 (wDiff x k = fWrite (numb 2 2 ++ numb (k : Int) 3) (Lin.diffs x k)) := ⟨rfl⟩
  have HDF := Aside0.mk (fun W h => Lin.differ_yes A c x k W h hc hk (sig_chk hs hl))
  have hdl : (Lin.diffs x k).length ≤ 128 := by rw [diffs_len]; exact hl
  generalize Lin.diffs x k = d at *
  generalize wDiff x k = wd at *
  clear hW hF hok hp1 hp2 e1 e2 hs
  go_enter Tryz.func79, Tryz.ntmps79
  go_wp2_with fail
  refine HP1.out.mono ?_
  rintro e w1 ⟨rfl, S1, hW1, hs1, hf1⟩
  have HW1 := Aside0.mk hW1
  have HS1 := Aside0.mk hs1
  have HF1 := Aside0.mk hf1
  clear hW1 hs1 hf1
  go_wp2_with fail
  refine (HP2.out S1 w1 HW1.out).mono ?_
  rintro e w2 ⟨rfl, h2⟩
  obtain ⟨S2, hW2, hs2, hf2⟩ := WrTo.glue HS1.out HF1.out h2
  have HW2 := Aside0.mk hW2
  have HS2 := Aside0.mk hs2
  have HF2 := Aside0.mk hf2
  clear h2 hW2 hs2 hf2
  go_wp2_with fail
  refine (HDF.out w2 (Kd.F_now (F_wr HF.out HOK.out HF2.out))).mono ?_
  rintro e w3 ⟨v3, rfl, hr3, hb3⟩
  obtain ⟨A3, c3, rfl, hc3, hC3⟩ := Kd.R_reads hr3
  have hF3 := row_F hr3
  have hwr := Write_any5 S2 p (numb 2 2 ++ numb (k : Int) 3) A3 c3 d w3 (HW2.out.below hb3) (by rw [List.length_append, numb_length, numb_length]; omega) (fun W hf => Kd.F_now (F_wr hF3 (fun j hj _ o => by
    have hp := HW2.out.p_lt
    rcases o with o | o
    · omega
    · have := HW2.out.lt j o; omega) hf)) hc3 (by omega)
  rw [← HD.out] at hwr
  have HWR := Aside0.mk hwr
  have HB3 := Aside0.mk hb3
  clear hwr hb3 hr3 hC3 hF3
  go_wp2_with fail
  refine HWR.out.mono ?_
  rintro e w4 ⟨rfl, h4⟩
  have H4 := Aside0.mk (WrTo.glue HS2.out (HF2.out.trans (Fr.below HB3.out _)) h4)
  clear h4
  go_wp2_with fail
  go_ret
  exact ⟨rfl, H4.out⟩
theorem resid_len (p x : List Int) : (Lin.resid p x).length = x.length := by unfold Lin.resid; rw [List.length_map, List.length_range]
theorem filtHead_len (x : List Int) (p : Nat) (h : p ≤ 12) : (filtHead x p).length ≤ 102 := by
  unfold filtHead
  rw [List.length_append, List.length_append, numb_length, numb_length, sgnBits_length, (reflected_isF x p h).2.1]; omega
theorem filtered_any (S ok : Nat → Prop) (p : Nat) (A : Option Addr) (c : Nat) (x : List Int) (k : Nat) (w : World) (hW : Wr w S p []) (hF : Kd.F (Kd.int .i64) w ok A x.length x) (hok : ∀ k, ok k → k < w.heap.size → ¬ (k = p ∨ S k)) (hc : x.length ≤ c) (hs : sigL x) (hl : x.length ≤ 128) (hk : k ≤ 12) :
    Calls Tryz.prog 80 #[.pointer (some ⟨p, 0, none⟩), .slice A x.length c, .int .i64 (k : Int)] w fun e w' => e = .returned (.bool ((wFilt x k).1 == 0)) ∧ WrTo w S p (wFilt x k).2 w' := by
  have hp1 := Put_any S p [] 3 2 w hW (by simp)
  have e1 := wPut_ok [] 3 2 (by omega) (by decide) (by simp)
  rw [show ((2 : Nat) : Int) = 2 from rfl, List.nil_append] at e1
  rw [e1] at hp1
  have hp2 := fun S1 W h => Put_any S1 p (numb 3 2) (k : Int) 4 W h (by rw [numb_length]; omega)
  have e2 := wPut_ok (numb 3 2) (k : Int) 4 (by omega) ⟨by omega, by simp only [Int.reducePow]; omega⟩ (by rw [numb_length]; omega)
  rw [show ((4 : Nat) : Int) = 4 from rfl] at e2
  rw [e2] at hp2
  obtain ⟨hif, hfl0, hfb⟩ := reflected_isF x k hk
  have hfl : (Lin.reflected x k).length ≤ 12 := by omega
  have HP1 := Aside0.mk hp1
  have HP2 := Aside0.mk hp2
  have HF := Aside0.mk hF
  have HOK := Aside0.mk hok
  have hhl := filtHead_len x k hk
  have HHE : Aside0 (filtHead x k = (numb 3 2 ++ numb (k : Int) 4) ++ sgnBits 8 (Lin.reflected x k)) := ⟨rfl⟩
  have HD : Aside0 (wFilt x k = fWrite (filtHead x k) (Lin.resid (Lin.wts (Lin.reflected x k)) x)) := ⟨rfl⟩
  have HRF := Aside0.mk (fun W h => Lin.reflect_yes A c x k W h hc hk (sig_chk hs hl))
  have hrl : (Lin.resid (Lin.wts (Lin.reflected x k)) x).length ≤ 128 := by rw [resid_len]; exact hl
  have HRS := Aside0.mk (fun W A1 c1 (h : Kd.C (Kd.int .i64) W A x.length x) h1 hc1 => Lin.residual_yes A c x A1 c1 (Lin.reflected x k) W h hc h1 hc1 hif (sig_chk hs hl))
  generalize Lin.resid (Lin.wts (Lin.reflected x k)) x = d at *
  generalize Lin.reflected x k = f at *
  generalize wFilt x k = wd at *
  generalize filtHead x k = fh at *
  have HFB := Aside0.mk hfb
  have HSG : Aside0 (∀ j, j < f.length → sgnBits 8 (f.take (j + 1)) = sgnBits 8 (f.take j) ++ numb (f.getD j 0 % 2 ^ 8) 8) := ⟨fun j hj => sgnBits_take hj 8⟩
  have HSL : Aside0 (∀ j, (sgnBits 8 (f.take j)).length ≤ 96) := ⟨fun j => by rw [sgnBits_length, List.length_take]; omega⟩
  clear hW hF hok hp1 hp2 e1 e2 hif hfb hs hfl0
  go_enter Tryz.func80, Tryz.ntmps80
  go_wp2_with fail
  refine HP1.out.mono ?_
  rintro e w1 ⟨rfl, S1, hW1, hs1, hf1⟩
  have HW1 := Aside0.mk hW1
  have HS1 := Aside0.mk hs1
  have HF1 := Aside0.mk hf1
  clear hW1 hs1 hf1
  go_wp2_with fail
  refine (HP2.out S1 w1 HW1.out).mono ?_
  rintro e w2 ⟨rfl, h2⟩
  obtain ⟨S2, hW2, hs2, hf2⟩ := WrTo.glue HS1.out HF1.out h2
  have HW2 := Aside0.mk hW2
  have HS2 := Aside0.mk hs2
  have HF2 := Aside0.mk hf2
  clear h2 hW2 hs2 hf2
  go_wp2_with fail
  refine (HRF.out w2 (Kd.F_now (F_wr HF.out HOK.out HF2.out))).mono ?_
  rintro e w3 ⟨v3, rfl, hr3, hb3⟩
  obtain ⟨A3, c3, rfl, hc3, hC3⟩ := Kd.R_reads hr3
  have HF3 := Aside0.mk (row_F hr3)
  have HB3 := Aside0.mk hb3
  have HW3 := Aside0.mk (HW2.out.below hb3)
  have HO3 : Aside0 (∀ j, w2.heap.size ≤ j ∧ j < w3.heap.size → j < w3.heap.size → ¬ (j = p ∨ S2 j)) := ⟨fun j hj _ o => by
    have hp := HW2.out.p_lt
    rcases o with o | o
    · omega
    · have := HW2.out.lt j o; omega⟩
  have HF23 : Aside0 (Fr (fun k => k = p ∨ S k) w w3) := ⟨HF2.out.trans (Fr.below hb3 _)⟩
  clear hb3 hr3 hC3
  go_wp2_with fail
  go_loopw [26] (fun u wr => ∃ j : Nat, u = .int .i64 (j : Int) ∧ j ≤ f.length ∧ Aside0 (WrTo w3 S2 p ((numb 3 2 ++ numb (k : Int) 4) ++ sgnBits 8 (f.take j)) wr)) (fun u _ => f.length - (intOf u).toNat)
  case atStart => exact ⟨0, rfl, Nat.zero_le _, ⟨by rw [List.take_zero]; exact (by simpa [sgnBits] using HW3.out.wrTo (Below.refl _ _))⟩⟩
  case round =>
    obtain ⟨j, rfl, hj, HJ⟩ := hrel
    obtain ⟨S4, hW4, hs4, hf4⟩ := HJ.out
    by_cases hlt : j < f.length
    · obtain ⟨ad, e, hx⟩ := at64 (Kd.F_now (F_wr HF3.out HO3.out hf4)) j hlt
      subst e
      have hsl := HSL.out j
      have hsg := Signed_any S4 p _ (f.getD j 0) 8 wr hW4 (by rw [List.length_append, List.length_append, numb_length, numb_length]; omega)
      have hfj : -127 ≤ f.getD j 0 ∧ f.getD j 0 ≤ 127 := HFB.out _ (by rw [List.getD_eq_getElem?_getD, List.getElem?_eq_getElem hlt]; exact List.getElem_mem hlt)
      have e8 := wSigned_ok ((numb 3 2 ++ numb (k : Int) 4) ++ sgnBits 8 (f.take j)) (f.getD j 0) 8 (by omega) ⟨by simp only [Nat.reduceSub, Int.reducePow]; omega, by simp only [Nat.reduceSub, Int.reducePow]; omega⟩ (by rw [List.length_append, List.length_append, numb_length, numb_length]; omega)
      rw [show ((8 : Nat) : Int) = 8 from rfl] at e8
      rw [e8, List.append_assoc, ← HSG.out j hlt] at hsg
      have HSGN := Aside0.mk hsg
      have HS4 := Aside0.mk hs4
      have HF4 := Aside0.mk hf4
      generalize f.getD j 0 = y at *
      clear hW4 hs4 hf4 hsg e8 hfj hsl
      go_wp2_with fail
      refine HSGN.out.mono ?_
      rintro e w5 ⟨rfl, h5⟩
      have H5 := Aside0.mk (WrTo.glue HS4.out HF4.out h5)
      clear h5 hx
      go_wp2_with fail
      go_roundw
      case rel => exact ⟨j + 1, by go_num, by omega, H5⟩
      case measure => simp [intOf]; omega
    · obtain rfl : j = f.length := by omega
      obtain ⟨_, _, _, hfx⟩ := WrTo.glue HS2.out HF23.out HJ.out
      have hFx := F_wr HF.out HOK.out hfx
      have HW4 := Aside0.mk hW4
      have HS4 := Aside0.mk hs4
      have HF4 := Aside0.mk hf4
      have hff := Kd.F_now (F_wr HF3.out HO3.out hf4)
      have HRR := Aside0.mk (HRS.out wr A3 c3 (Kd.F_now hFx) hff hc3)
      clear hFx hff hW4 hs4 hf4 hfx
      go_wp2_with fail
      refine HRR.out.mono ?_
      rintro e w5 ⟨v5, rfl, hr5, hb5⟩
      obtain ⟨A5, c5, rfl, hc5, hC5⟩ := Kd.R_reads hr5
      have hF5 := row_F hr5
      have hw4 := HW4.out
      rw [List.take_length, ← HHE.out] at hw4
      have hwr := Write_any5 S4 p fh A5 c5 d w5 (hw4.below hb5) (by omega) (fun W hf => Kd.F_now (F_wr hF5 (fun j hj _ o => by
        have hp := HW4.out.p_lt
        rcases o with o | o
        · omega
        · have := HW4.out.lt j o; omega) hf)) hc5 (by omega)
      rw [← HD.out] at hwr
      have HWR := Aside0.mk hwr
      have HB5 := Aside0.mk hb5
      clear hwr hb5 hr5 hC5 hF5 hw4
      go_wp2_with fail
      refine HWR.out.mono ?_
      rintro e w6 ⟨rfl, h6⟩
      have H6 := Aside0.mk (WrTo.glue HS2.out HF23.out (WrTo.glue HS4.out (HF4.out.trans (Fr.below HB5.out _)) h6))
      clear h6
      go_wp2_with fail
      go_ret
      exact ⟨rfl, H6.out⟩
def okPlan (p : Nat × Nat) : Prop := p = (0, 0) ∨ p = (1, 0) ∨ (p.1 = 2 ∧ p.2 ≤ 4) ∨ (p.1 = 3 ∧ 1 ≤ p.2 ∧ p.2 ≤ 12)
def WPost (w : World) (L : List Int) (ok : Bool) (e : Ending) (w' : World) : Prop :=
  ∃ p S, e = .returned (.tuple #[.pointer (some ⟨p, 0, none⟩), .bool ok]) ∧ Wr w' S p L ∧ w.heap.size ≤ p ∧ (∀ k, S k → w.heap.size ≤ k) ∧ Below w.heap.size w w'
abbrev planBox (k o : Int) : Obj := .cells #[.int .i64 k, .int .i64 o] 83 (0, 0)
theorem WrTo.wpost {w w1 w' : World} {p : Nat} {L : List Int} {ok : Bool} (h : WrTo w1 (fun _ => False) p L w') (hp : w.heap.size ≤ p) (hb : Below w.heap.size w w1) : WPost w L ok (.returned (.tuple #[.pointer (some ⟨p, 0, none⟩), .bool ok])) w' := by
  obtain ⟨S', hW, hs, hf⟩ := h
  refine ⟨p, S', rfl, hW, hp, fun k hk => ?_, hb.trans (hf.to_below hb.size (fun k hk => ?_))⟩
  · rcases hs k hk with o | o
    · exact o.elim
    · exact Nat.le_trans hb.size o
  · rcases hk with o | o
    · rw [o]; exact hp
    · exact o.elim
theorem written_any (A : Option Addr) (c : Nat) (x : List Int) (q : Nat × Nat) (w : World) (hC : Kd.C (Kd.int .i64) w A x.length x) (hc : x.length ≤ c) (hs : sigL x) (h1 : 1 ≤ x.length) (hl : x.length ≤ 128) (hq : okPlan q) :
    Calls Tryz.prog 55 #[.slice A x.length c, .agg #[.int .i64 (q.1 : Int), .int .i64 (q.2 : Int)]] w (WPost w (planW x q).1 (planW x q).2) := by
  obtain ⟨kd, od⟩ := q
  dsimp only
  obtain ⟨kI, hkI⟩ : ∃ z : Int, (kd : Int) = z := ⟨_, rfl⟩
  obtain ⟨oI, hoI⟩ : ∃ z : Int, (od : Int) = z := ⟨_, rfl⟩
  rw [hkI, hoI]
  obtain ⟨w1, hw1⟩ : ∃ w1, w1 = w.alloc (planBox kI oI) := ⟨_, rfl⟩
  obtain ⟨bq, hbq⟩ : ∃ b, b = w.heap.size := ⟨_, rfl⟩
  have hb1 : Below w.heap.size w w1 := by rw [hw1]; exact below_alloc (Below.refl _ _) _
  have hk1 : w1.heap[bq]? = some (planBox kI oI) := by rw [hw1, hbq]; exact World.alloc_heap_new w _
  obtain ⟨w2, hw2⟩ : ∃ w2, w2 = w1.alloc newWr := ⟨_, rfl⟩
  obtain ⟨p, hp⟩ : ∃ p, p = w1.heap.size := ⟨_, rfl⟩
  have hb2 : Below w1.heap.size w1 w2 := by rw [hw2]; exact below_alloc (Below.refl _ _) _
  have hk2 : w2.heap[bq]? = some (planBox kI oI) := blk_fr hk1 (Fr.below hb2 (fun _ => False)) (fun h => h)
  have hW2 : Wr w2 (fun _ => False) p [] := by rw [hw2, hp]; exact Wr.new w1
  have hbq1 : bq < w1.heap.size := lt_of_block hk1
  have hF2 : Kd.F (Kd.int .i64) w2 (fun k => k < w.heap.size) A x.length x := Kd.F_below (Kd.F_below (Kd.C_F (Kd.heap_int .i64) hC) hb1) hb2
  have hok : ∀ k, k < w.heap.size → k < w2.heap.size → ¬ (k = p ∨ False) := fun k hk _ o => by rcases o with o | o; have := hb1.size; omega; exact o
  have c0 : w2.cell? ⟨bq, 0, none⟩ = some (.int .i64 kI) := by rw [cell_of_row w2 bq 0 _ _ (0, 0) hk2]; rfl
  have c1 : w2.cell? ⟨bq, 1, none⟩ = some (.int .i64 oI) := by rw [cell_of_row w2 bq 1 _ _ (0, 0) hk2]; rfl
  have HE1 : Aside0 (w.alloc (.cells #[.int .i64 kI, .int .i64 oI] 83) = w1) := ⟨hw1.symm⟩
  have HBQ := Aside0.mk hbq
  have HW2 := Aside0.mk hw2
  have HP := Aside0.mk hp
  have HPW : Aside0 (w.heap.size ≤ p) := ⟨by have := hb1.size; omega⟩
  have HB2 := Aside0.mk (hb1.trans (hb2.mono hb1.size))
  have HWR := Aside0.mk hW2
  have HF2 := Aside0.mk hF2
  have HOK := Aside0.mk hok
  rcases (show (kd = 0 ∧ od = 0) ∨ (kd = 1 ∧ od = 0) ∨ (kd = 2 ∧ od ≤ 4) ∨ (kd = 3 ∧ od ≤ 12) by
    rcases hq with h | h | h | h
    · exact .inl ⟨congrArg Prod.fst h, congrArg Prod.snd h⟩
    · exact .inr (.inl ⟨congrArg Prod.fst h, congrArg Prod.snd h⟩)
    · exact .inr (.inr (.inl h))
    · exact .inr (.inr (.inr ⟨h.1, h.2.2⟩))) with ⟨rfl, rfl⟩ | ⟨rfl, rfl⟩ | ⟨rfl, ho⟩ | ⟨rfl, ho⟩
  case inr.inr.inl =>
    obtain rfl : kI = 2 := by omega
    subst hoI
    have HD := Aside0.mk (differed_any (fun _ => False) _ p A c x od w2 hW2 hF2 hok hc hs hl ho)
    have hpl : planW x (2, od) = ((wDiff x od).2, (wDiff x od).1 == 0) := rfl
    rw [hpl]
    dsimp only
    generalize wDiff x od = wd at *
    clear hq hw1 hbq hb1 hk1 hw2 hp hb2 hk2 hW2 hbq1 hF2 hok hC hpl hs hkI
    go_enter Tryz.func55, Tryz.ntmps55
    go_wp2_with fail
    rw [HE1.out, ← HBQ.out]
    refine (New_any w1).mono ?_
    rintro e w3 ⟨rfl, hw⟩
    rw [← HW2.out] at hw
    obtain rfl := hw.symm
    rw [← HP.out]
    go_wp2_with fail
    refine HD.out.mono ?_
    rintro e w3 ⟨rfl, h3⟩
    have H3 := Aside0.mk h3
    clear h3
    go_wp2_with fail
    go_ret2
    exact H3.out.wpost HPW.out HB2.out
  case inr.inr.inr =>
    obtain rfl : kI = 3 := by omega
    subst hoI
    have HD := Aside0.mk (filtered_any (fun _ => False) _ p A c x od w2 hW2 hF2 hok hc hs hl ho)
    have hpl : planW x (3, od) = ((wFilt x od).2, (wFilt x od).1 == 0) := rfl
    rw [hpl]
    dsimp only
    generalize wFilt x od = wd at *
    clear hq hw1 hbq hb1 hk1 hw2 hp hb2 hk2 hW2 hbq1 hF2 hok hC hpl hs hkI
    go_enter Tryz.func55, Tryz.ntmps55
    go_wp2_with fail
    rw [HE1.out, ← HBQ.out]
    refine (New_any w1).mono ?_
    rintro e w3 ⟨rfl, hw⟩
    rw [← HW2.out] at hw
    obtain rfl := hw.symm
    rw [← HP.out]
    go_wp2_with fail
    refine HD.out.mono ?_
    rintro e w3 ⟨rfl, h3⟩
    have H3 := Aside0.mk h3
    clear h3
    go_wp2_with fail
    go_ret2
    exact H3.out.wpost HPW.out HB2.out
  case inl =>
    obtain rfl : kI = 0 := by omega
    obtain rfl : oI = 0 := by omega
    have hp1 := Put_any (fun _ => False) p [] 0 2 w2 hW2 (by simp)
    have e1 := wPut_ok [] 0 2 (by omega) (by decide) (by simp)
    rw [show ((2 : Nat) : Int) = 2 from rfl, List.nil_append] at e1
    rw [e1] at hp1
    obtain ⟨y, hy⟩ : ∃ y, y = x.getD 0 0 := ⟨_, rfl⟩
    have hyb : -65536 ≤ y ∧ y ≤ 65535 := hs y (by rw [hy, List.getD_eq_getElem?_getD, List.getElem?_eq_getElem (by omega)]; exact List.getElem_mem (by omega))
    have hpl : planW x (0, 0) = (numb 0 2 ++ numb (y % 2 ^ 17) 17, allSame x) := by rw [hy]; rfl
    have e2 := wSigned_ok (numb 0 2) y 17 (by omega) ⟨by simp only [Nat.reduceSub, Int.reducePow]; omega, by simp only [Nat.reduceSub, Int.reducePow]; omega⟩ (by rw [numb_length]; omega)
    rw [show ((17 : Nat) : Int) = 17 from rfl] at e2
    have HSG := Aside0.mk (fun S1 W (h : Wr W S1 p (numb 0 2)) => Signed_any S1 p _ y 17 W h (by rw [numb_length]; omega))
    rw [e2] at HSG
    have HSM := Aside0.mk (fun W h => same_any A c x W h hc (by omega))
    have HP1 := Aside0.mk hp1
    have HY := Aside0.mk hy
    rw [hpl]
    dsimp only
    generalize allSame x = sm at *
    clear hq hw1 hbq hb1 hk1 hw2 hp hb2 hk2 hW2 hbq1 hF2 hok hC hpl hs hkI hoI hp1 e1 e2 hy hyb
    generalize numb 0 2 ++ numb (y % 2 ^ 17) 17 = LL at *
    generalize numb 0 2 = L0 at *
    go_enter Tryz.func55, Tryz.ntmps55
    go_wp2_with fail
    rw [HE1.out, ← HBQ.out]
    refine (New_any w1).mono ?_
    rintro e w3 ⟨rfl, hw⟩
    rw [← HW2.out] at hw
    obtain rfl := hw.symm
    rw [← HP.out]
    go_wp2_with fail
    refine HP1.out.mono ?_
    rintro e w3 ⟨rfl, S1, hW3, hs3, hf3⟩
    have hF3 := F_wr HF2.out HOK.out hf3
    obtain ⟨ad, e, hx⟩ := at64 (Kd.F_now hF3) 0 (by omega)
    subst e
    rw [← HY.out, show ad.add 0 = ad by simp [Addr.add]] at hx
    have HW3 := Aside0.mk hW3
    have HS3 := Aside0.mk hs3
    have HF3 := Aside0.mk hf3
    clear hW3 hs3 hf3 hF3
    go_wp2_with fail
    refine (HSG.out S1 w3 HW3.out).mono ?_
    rintro e w4 ⟨rfl, h4⟩
    have H4 := Aside0.mk (WrTo.glue HS3.out HF3.out h4)
    obtain ⟨_, _, _, hf4⟩ := H4.out
    have HC4 := Aside0.mk (Kd.F_now (F_wr HF2.out HOK.out hf4))
    clear h4 hx hf4
    go_wp2_with fail
    refine (HSM.out w4 HC4.out).mono ?_
    rintro e w5 ⟨rfl, hd⟩
    obtain ⟨S5, hW5, hs5, hf5⟩ := H4.out
    have H5 : Aside0 (WrTo w2 (fun _ => False) p LL w5) := ⟨S5, hW5.below hd.below, hs5, hf5.trans (Fr.below hd.below _)⟩
    clear hd hW5 hs5 hf5
    go_wp2_with fail
    go_ret2
    exact H5.out.wpost HPW.out HB2.out
  case inr.inl =>
    obtain rfl : kI = 1 := by omega
    obtain rfl : oI = 0 := by omega
    have hp1 := Put_any (fun _ => False) p [] 1 2 w2 hW2 (by simp)
    have e1 := wPut_ok [] 1 2 (by omega) (by decide) (by simp)
    rw [show ((2 : Nat) : Int) = 2 from rfl, List.nil_append] at e1
    rw [e1] at hp1
    have hpl : planW x (1, 0) = (numb 1 2 ++ sgnBits 17 x, true) := rfl
    have HP1 := Aside0.mk hp1
    have HSB := Aside0.mk hs
    rw [hpl]
    dsimp only
    have HSG : Aside0 (∀ j, j < x.length → sgnBits 17 (x.take (j + 1)) = sgnBits 17 (x.take j) ++ numb (x.getD j 0 % 2 ^ 17) 17) := ⟨fun j hj => sgnBits_take hj 17⟩
    have HSL : Aside0 (∀ j, (sgnBits 17 (x.take j)).length ≤ 2176) := ⟨fun j => by rw [sgnBits_length, List.length_take]; omega⟩
    have HEND : Aside0 (sgnBits 17 (x.take x.length) = sgnBits 17 x) := ⟨by rw [List.take_length]⟩
    have HST : Aside0 (sgnBits 17 (x.take 0) = []) := ⟨rfl⟩
    clear hq hw1 hbq hb1 hk1 hw2 hp hb2 hk2 hW2 hbq1 hF2 hok hC hpl hs hkI hoI hp1 e1
    go_enter Tryz.func55, Tryz.ntmps55
    go_wp2_with fail
    rw [HE1.out, ← HBQ.out]
    refine (New_any w1).mono ?_
    rintro e w3 ⟨rfl, hw⟩
    rw [← HW2.out] at hw
    obtain rfl := hw.symm
    rw [← HP.out]
    go_wp2_with fail
    refine HP1.out.mono ?_
    rintro e w3 ⟨rfl, h3⟩
    have H3 := Aside0.mk h3
    clear h3
    go_wp2_with fail
    go_loopw [34] (fun u wr => ∃ j : Nat, u = .int .i64 (j : Int) ∧ j ≤ x.length ∧ Aside0 (WrTo w2 (fun _ => False) p (numb 1 2 ++ sgnBits 17 (x.take j)) wr)) (fun u _ => x.length - (intOf u).toNat)
    case atStart => exact ⟨0, rfl, Nat.zero_le _, ⟨by rw [HST.out, List.append_nil]; exact H3.out⟩⟩
    case round =>
      obtain ⟨j, rfl, hj, HJ⟩ := hrel
      by_cases hlt : j < x.length
      · obtain ⟨S4, hW4, hs4, hf4⟩ := HJ.out
        obtain ⟨ad, e, hx⟩ := at64 (Kd.F_now (F_wr HF2.out HOK.out hf4)) j hlt
        subst e
        have hsl := HSL.out j
        have hsg := Signed_any S4 p _ (x.getD j 0) 17 wr hW4 (by rw [List.length_append, numb_length]; omega)
        have hfj : -65536 ≤ x.getD j 0 ∧ x.getD j 0 ≤ 65535 := HSB.out _ (by rw [List.getD_eq_getElem?_getD, List.getElem?_eq_getElem hlt]; exact List.getElem_mem hlt)
        have e8 := wSigned_ok (numb 1 2 ++ sgnBits 17 (x.take j)) (x.getD j 0) 17 (by omega) ⟨by simp only [Nat.reduceSub, Int.reducePow]; omega, by simp only [Nat.reduceSub, Int.reducePow]; omega⟩ (by rw [List.length_append, numb_length]; omega)
        rw [show ((17 : Nat) : Int) = 17 from rfl] at e8
        rw [e8, List.append_assoc, ← HSG.out j hlt] at hsg
        have HSGN := Aside0.mk hsg
        have HS4 := Aside0.mk hs4
        have HF4 := Aside0.mk hf4
        generalize x.getD j 0 = y at *
        clear hW4 hs4 hf4 hsg e8 hfj hsl
        go_wp2_with fail
        refine HSGN.out.mono ?_
        rintro e w5 ⟨rfl, h5⟩
        have H5 := Aside0.mk (WrTo.glue HS4.out HF4.out h5)
        clear h5 hx
        go_wp2_with fail
        go_roundw
        case rel => exact ⟨j + 1, by go_num, by omega, H5⟩
        case measure => simp [intOf]; omega
      · obtain rfl : j = x.length := by omega
        rw [HEND.out] at HJ
        go_wp2_with fail
        go_ret2
        exact HJ.out.wpost HPW.out HB2.out
abbrev orderCells : Array Value := #[.int .i64 0, .int .i64 0, .int .i64 0, .int .i64 0, .int .i64 0, .int .i64 4, .int .i64 1, .int .i64 12]
def HO (w : World) : Prop := ∃ t fr, w.heap[0]? = some (.cells orderCells t fr)
theorem HO.below {w w' : World} (h : HO w) (hb : Below w.heap.size w w') : HO w' := by
  obtain ⟨t, fr, hg⟩ := h
  exact ⟨t, fr, blk_fr hg (Fr.below hb (fun _ => False)) (fun h => h)⟩
theorem HO.fr {T : Nat → Prop} {w w' : World} (h : HO w) (hf : Fr T w w') (hT : ¬ T 0) : HO w' := by
  obtain ⟨t, fr, hg⟩ := h
  exact ⟨t, fr, blk_fr hg hf hT⟩
def ordLo (k : Nat) : Nat := if k = 3 then 1 else 0
def ordHi (k : Nat) : Nat := if k = 2 then 4 else if k = 3 then 12 else 0
def ordBase (k : Nat) : Nat := if k = 0 then 0 else if k = 1 then 1 else if k = 2 then 2 else if k = 3 then 7 else 19
def plansL : List (Nat × Nat) := [(0, 0), (1, 0), (2, 0), (2, 1), (2, 2), (2, 3), (2, 4), (3, 1), (3, 2), (3, 3), (3, 4), (3, 5), (3, 6), (3, 7), (3, 8), (3, 9), (3, 10), (3, 11), (3, 12)]
theorem plans_atF : ∀ k : Fin 4, ∀ o : Fin 13, ordLo k.1 ≤ o.1 → o.1 ≤ ordHi k.1 → plansL[ordBase k.1 + (o.1 - ordLo k.1)]? = some (k.1, o.1) := by decide
theorem plans_at (k : Nat) (hk : k < 4) (o : Nat) (ho : o < 13) (h1 : ordLo k ≤ o) (h2 : o ≤ ordHi k) : plansL[ordBase k + (o - ordLo k)]? = some (k, o) := plans_atF ⟨k, hk⟩ ⟨o, ho⟩ h1 h2
theorem ord_nextF : ∀ k : Fin 4, ordBase (k.1 + 1) = ordBase k.1 + (ordHi k.1 + 1 - ordLo k.1) ∧ ordLo k.1 ≤ ordHi k.1 ∧ ordHi k.1 ≤ 12 := by decide
theorem ord_next (k : Nat) (hk : k < 4) : ordBase (k + 1) = ordBase k + (ordHi k + 1 - ordLo k) ∧ ordLo k ≤ ordHi k ∧ ordHi k ≤ 12 := ord_nextF ⟨k, hk⟩
theorem plans_ok : ∀ q ∈ plansL, okPlan q := by
  intro q hq
  unfold plansL at hq
  simp only [List.mem_cons, List.not_mem_nil, or_false] at hq
  unfold okPlan
  rcases hq with rfl | rfl | rfl | rfl | rfl | rfl | rfl | rfl | rfl | rfl | rfl | rfl | rfl | rfl | rfl | rfl | rfl | rfl | rfl <;> first | exact .inl rfl | exact .inr (.inl rfl) | exact .inr (.inr (.inl ⟨rfl, by decide⟩)) | exact .inr (.inr (.inr ⟨rfl, by decide, by decide⟩))
theorem ord_at (k : Nat) (hk : k < 4) : ∀ w : World, (Instr.index 115 (.agg orderCells) (.int .i64 (k : Int))).run Tryz.prog w = .ok (.agg #[.int .i64 (ordLo k : Int), .int .i64 (ordHi k : Int)]) w := by
  have h9 : k = 0 ∨ k = 1 ∨ k = 2 ∨ k = 3 := by omega
  rcases h9 with rfl | rfl | rfl | rfl <;> exact fun _ => by kernel_rfl
abbrev seqPl : Value := .func (.func 78) #[] #[]
theorem plans_any (w : World) : Calls Tryz.prog 54 #[] w fun e w' => e = .returned seqPl ∧ w' = w := by
  go_enter Tryz.func54, Tryz.ntmps54
  go_wp2
  go_ret
  exact ⟨rfl, rfl⟩
abbrev twoBox (a b : Int) : Obj := .cells #[.int .i64 a, .int .i64 b] 114 (0, 0)
abbrev PlX := { q : Nat × Nat // q ∈ plansL }
def plansX : List PlX := plansL.attach
theorem plansX_map : plansX.map (·.1) = plansL := List.attach_map_subtype_val _
theorem plansX_len : plansX.length = 19 := by unfold plansX; rw [List.length_attach]; rfl
theorem plansX_at (k : Nat) (hk : k < 4) (o : Nat) (ho : o < 13) (h1 : ordLo k ≤ o) (h2 : o ≤ ordHi k) : ∃ h, plansX[ordBase k + (o - ordLo k)]? = some ⟨(k, o), h⟩ := by
  have h := plans_at k hk o ho h1 h2
  obtain ⟨hlt, he⟩ := List.getElem?_eq_some_iff.1 h
  have hm : (k, o) ∈ plansL := he ▸ List.getElem_mem hlt
  refine ⟨hm, List.getElem?_eq_some_iff.2 ⟨by unfold plansX; rw [List.length_attach]; exact hlt, ?_⟩⟩
  unfold plansX
  rw [List.getElem_attach]
  exact Subtype.ext he
def KeepC (T : Nat → Prop) (w w' : World) : Prop := w.heap.size ≤ w'.heap.size ∧ ∀ k cs t fr, ¬ T k → w.heap[k]? = some (.cells cs t fr) → w'.heap[k]? = some (.cells cs t fr)
theorem KeepC.trans {T : Nat → Prop} {a b c : World} (h : KeepC T a b) (k : KeepC T b c) : KeepC T a c := ⟨Nat.le_trans h.1 k.1, fun i cs t fr hi e => k.2 i cs t fr hi (h.2 i cs t fr hi e)⟩
theorem KeepC.alloc (T : Nat → Prop) (w : World) (o : Obj) : KeepC T w (w.alloc o) := ⟨by simp, fun k cs t fr _ e => blk_alloc' e o⟩
theorem KeepC.of_fr {S T : Nat → Prop} {w w' : World} (h : Fr S w w') (hs : ∀ k, S k → T k) : KeepC T w w' := ⟨h.size, fun k cs t fr hk e => blk_fr e h (fun q => hk (hs k q))⟩
theorem KeepC.putObj (T : Nat → Prop) (W : World) (l : Nat) (o o' : Obj) (ho : W.heap[l]? = some o) (hc : o.isCells = false) : KeepC T W (W.putObj l o') := by
  refine ⟨(grownBy_putObj' W l o').size, fun k cs t fr hk e => ?_⟩
  have hkl : k ≠ l := by
    rintro rfl
    rw [ho] at e
    cases e
    cases hc
  exact (World.putObj_heap_other hkl).trans e
attribute [local go_sem] Oper.semAt_some
theorem plans_stops (m : Nat) (T : Nat → Prop) (w : World) (hg : HO w) (hT : ∀ k, T k → k < w.heap.size) :
    SeqStopsK Fence.wide m Tryz.prog 78 #[] (fun q : PlX => #[.agg #[Value.int .i64 (q.1.1 : Int), .int .i64 (q.1.2 : Int)]]) (KeepC T) (fun xs => xs.map (·.1) = plansL) (fun _ => True) 19 w := by
  intro l J Jx W hW hJ hJx hY h0
  obtain ⟨tt, fr, hgW⟩ := hg.below hW
  have HT : Aside0 (∀ k, T k → k < W.heap.size) := ⟨fun k h => Nat.lt_of_lt_of_le (hT k h) hW.size⟩
  have HY := Aside0.mk hY
  have HJ0 := Aside0.mk hJ
  clear hg hW hY hT
  refine callsIn_of_wp Tryz.func78 rfl trivial ?_ rfl
  simp only [Tryz.ntmps78, List.size_toArray, List.length_cons, List.length_nil, Nat.reduceAdd, Nat.reduceSub, Array.replicate_succ, Array.replicate_zero, List.push_toArray, List.append_toArray, List.nil_append, List.cons_append]
  have c0 : W.cell? ⟨0, 0, none⟩ = some (.int .i64 0) := by rw [cell_of_row W 0 0 _ _ _ hgW]; rfl
  have c1 : W.cell? ⟨0, 1, none⟩ = some (.int .i64 0) := by rw [cell_of_row W 0 1 _ _ _ hgW]; rfl
  have c2 : W.cell? ⟨0, 2, none⟩ = some (.int .i64 0) := by rw [cell_of_row W 0 2 _ _ _ hgW]; rfl
  have c3 : W.cell? ⟨0, 3, none⟩ = some (.int .i64 0) := by rw [cell_of_row W 0 3 _ _ _ hgW]; rfl
  have c4 : W.cell? ⟨0, 4, none⟩ = some (.int .i64 0) := by rw [cell_of_row W 0 4 _ _ _ hgW]; rfl
  have c5 : W.cell? ⟨0, 5, none⟩ = some (.int .i64 4) := by rw [cell_of_row W 0 5 _ _ _ hgW]; rfl
  have c6 : W.cell? ⟨0, 6, none⟩ = some (.int .i64 1) := by rw [cell_of_row W 0 6 _ _ _ hgW]; rfl
  have c7 : W.cell? ⟨0, 7, none⟩ = some (.int .i64 12) := by rw [cell_of_row W 0 7 _ _ _ hgW]; rfl
  have HS0 : Aside0 (W.heap.size ≤ W.heap.size) := ⟨Nat.le_refl _⟩
  clear hgW
  gi_wp2
  clear c0 c1 c2 c3 c4 c5 c6 c7
  gi_loopw [6] (fun u wr => ∃ (k : Nat), u = .int .i64 (k : Int) ∧ k ≤ 4 ∧ Aside0 (J (plansX.take (ordBase k)) wr) ∧ Aside0 (W.heap.size ≤ wr.heap.size)) (fun u _ => 4 - (intOf u).toNat)
  case atStart => exact ⟨0, rfl, Nat.zero_le _, ⟨h0⟩, HS0⟩
  case round =>
    obtain ⟨k, rfl, hk, HJ, HS⟩ := hrel
    by_cases hlt : k < 4
    · have d1 : decide ((k : Int) < 4) = true := by simp; omega
      have hix := ord_at k hlt
      obtain ⟨hnx, hlh, hhi⟩ := ord_next k hlt
      have HPA := Aside0.mk (plansX_at k hlt)
      have hbb : ordBase k + (ordHi k - ordLo k) < 19 := by
        obtain ⟨_, this⟩ := HPA.out (ordHi k) (by omega) hlh (Nat.le_refl _)
        have := (List.getElem?_eq_some_iff.1 this).1
        rwa [plansX_len] at this
      have HJN : Aside0 (∀ W', J (plansX.take (ordBase k + (ordHi k + 1 - ordLo k))) W' → J (plansX.take (ordBase (k + 1))) W') := ⟨fun W' h => by rw [hnx]; exact h⟩
      obtain ⟨b', hb'⟩ : ∃ z, z = ordBase (k + 1) := ⟨_, rfl⟩
      rw [← hb'] at hnx HJN
      have HBB := Aside0.mk hb'
      clear hb'
      generalize ordBase k = b at *
      generalize ordLo k = lo at *
      generalize ordHi k = hi at *
      obtain ⟨w1, hw1⟩ : ∃ w1, w1 = wr.alloc (twoBox lo hi) := ⟨_, rfl⟩
      obtain ⟨g, hg⟩ : ∃ g, g = wr.heap.size := ⟨_, rfl⟩
      have hk1 : w1.heap[g]? = some (twoBox lo hi) := by rw [hw1, hg]; exact World.alloc_heap_new wr _
      have HJ1 : Aside0 (J (plansX.take (b + (lo - lo))) w1) := ⟨by rw [Nat.sub_self, Nat.add_zero, hw1]; exact HJ0.out _ _ _ none HJ.out (World.grownBy_alloc wr _ none) (fun r e => by cases e)⟩
      have HGT : Aside0 (¬ T g) := ⟨fun h => by have := HT.out g h; have := HS.out; omega⟩
      have HS1 : Aside0 (W.heap.size ≤ w1.heap.size) := ⟨by rw [hw1]; have := HS.out; simp; omega⟩
      have z0 := (cell_of_row w1 g 0 _ _ (0, 0) hk1).trans (show _ = some (.int .i64 (lo : Int)) from rfl)
      have HK1 := Aside0.mk hk1
      have HW1 : Aside0 (wr.alloc (.cells #[.int .i64 (lo : Int), .int .i64 (hi : Int)] 114) = w1) := ⟨hw1.symm⟩
      have HGG := Aside0.mk hg
      have z00 : (wr.alloc (.cells #[.int .i64 (lo : Int), .int .i64 (hi : Int)] 114)).cell? ⟨wr.heap.size, 0, none⟩ = some (.int .i64 (lo : Int)) := by rw [HW1.out, ← HGG.out]; exact z0
      clear hw1 hg hk1 hnx z0
      gi_wp2
      rw [HW1.out, ← HGG.out]
      obtain ⟨wo, rfl⟩ : ∃ wo : World, wo = wr := ⟨_, rfl⟩
      gi_loopw [4] (fun u wr => ∃ o : Nat, u = .int .i64 (o : Int) ∧ lo ≤ o ∧ o ≤ hi + 1 ∧ Aside0 (J (plansX.take (b + (o - lo))) wr) ∧ Aside0 (W.heap.size ≤ wr.heap.size) ∧ Aside0 (wr.heap[g]? = some (twoBox (lo : Int) (hi : Int)))) (fun u _ => hi + 1 - (intOf u).toNat)
      case atStart => exact ⟨lo, rfl, Nat.le_refl _, by omega, HJ1, HS1, HK1⟩
      case round =>
        obtain ⟨o, rfl, ho1, ho2, HJO, HSO, HKO⟩ := hrel
        have z1 : wr.cell? ⟨g, 1, none⟩ = some (.int .i64 (hi : Int)) := by rw [cell_of_row wr g 1 _ _ (0, 0) HKO.out]; rfl
        by_cases hoh : o ≤ hi
        · have d2 : decide ((o : Int) ≤ (hi : Int)) = true := by simp; omega
          obtain ⟨hmem, hat⟩ := HPA.out o (by omega) ho1 hoh
          obtain ⟨hlt2, hge⟩ := List.getElem?_eq_some_iff.1 hat
          have HT2 : Aside0 (plansX.take (b + (o + 1 - lo)) = plansX.take (b + (o - lo)) ++ [⟨(k, o), hmem⟩]) := ⟨by
            rw [show b + (o + 1 - lo) = (b + (o - lo)) + 1 by omega, List.take_succ_eq_append_getElem hlt2, hge]⟩
          obtain ⟨fn, tmps, assign, body, hy, hR⟩ := HY.out _ ⟨(k, o), hmem⟩ wr HJO.out (by rw [List.length_take]; omega)
          have HRR := Aside0.mk hR
          clear hat hlt2 hge hR
          gi_wp2
          refine ⟨fun h => by simp [Fence.wide] at h, ?_⟩
          refine HRR.out.mono ?_
          rintro e W' (⟨rfl, hJ', hk'⟩ | ⟨rfl, hJx'⟩)
          · have HJ' := Aside0.mk hJ'
            have HK' := Aside0.mk (hk'.2 _ _ _ _ HGT.out HKO.out)
            have HS' : Aside0 (W.heap.size ≤ W'.heap.size) := ⟨Nat.le_trans HSO.out hk'.1⟩
            clear hJ' hk' hy
            gi_wp2
            go_roundw
            case rel => exact ⟨o + 1, by go_num, by omega, by omega, ⟨by rw [HT2.out]; exact HJ'.out⟩, HS', HK'⟩
            case measure => simp [intOf]; omega
          · gi_wp2
            refine bodyPost_ret (results_none rfl _ _ _) rfl ?_
            exact ⟨⟨_, rfl⟩, .inr ⟨_, trivial, hJx'⟩⟩
        · obtain rfl : o = hi + 1 := by omega
          have d2 : decide (((hi + 1 : Nat) : Int) ≤ (hi : Int)) = false := by simp; omega
          have HJE := Aside0.mk (HJN.out _ HJO.out)
          gi_wp2
          go_roundw
          case rel => exact ⟨k + 1, by go_num, by omega, ⟨by rw [← HBB.out]; exact HJE.out⟩, HSO⟩
          case measure => simp [intOf]; omega
    · obtain rfl : k = 4 := by omega
      have d1 : decide (((4 : Nat) : Int) < 4) = false := by decide
      have HEND : Aside0 ((plansX.take (ordBase 4)).map (·.1) = plansL) := ⟨by rw [List.take_of_length_le (by rw [plansX_len]; decide)]; exact plansX_map⟩
      gi_wp2
      (try simp only [Exit.inBlock, Exit.then])
      first | refine bodyPost_ret (results_none rfl _ _ _) rfl ?_ | refine bodyPost_end (results_none rfl _ _ _) rfl ?_
      exact ⟨⟨_, rfl⟩, .inl ⟨_, HEND.out, HJ.out⟩⟩
theorem wpListIn_store_row {F : Fence} {n : Nat} {P : Program} {ops : Array Oper} {rest : List Oper} {o : Oper} {a : Act} {w : World} {Q : Exit → Act → World → Prop} (hgd : o.guard = none) (ty : TypeId) (x y : Operand) (ho : o.op = .store ty x y)
    (g : Nat) (cells : Array Value) (hx : a.eval x = .pointer (some ⟨g, 0, none⟩)) (hy : a.eval y = .agg cells)
    (t : TypeId) (old : Array Value) (hg : w.heap[g]? = some (.cells old t (0, 0))) (hi : (P.info? ty).map (·.size) = some cells.size)
    (hold : old.size = cells.size) (h1 : cells.all (·.oneCell') = true)
    (h : wpListIn F n P ops Q rest (a.put o.dst undef) (w.setRow g cells)) : wpListIn F n P ops Q (o :: rest) a w := by
  refine wpListIn_plain hgd fun K hK => ?_
  unfold Oper.wpIn
  refine ⟨?_, ?_⟩
  · simp [Oper.about, ho]
  · rw [Oper.semAt_plain F _ _ (by rw [ho]; intro c hc'; cases hc')]
    unfold execOp
    simp only [ho, hx, hy, Instr.storeAt, Instr.sureAddr, Sem.run_bind, Sem.run_pure, Result.andThen_ok, run_storeVar_row w g t ty old cells hg hi hold h1]
    exact hK _ _ h
def bStep (C : Nat × Nat → Int) (ok : Nat × Nat → Bool) (s : (Nat × Nat) × Int × Bool) (q : Nat × Nat) : (Nat × Nat) × Int × Bool := if ok q && (!s.2.2 || decide (C q < s.2.1)) then (q, C q, true) else s
def bFold (C : Nat × Nat → Int) (ok : Nat × Nat → Bool) (l : List (Nat × Nat)) : (Nat × Nat) × Int × Bool := l.foldl (bStep C ok) ((0, 0), 0, false)
theorem bFold_snoc (C : Nat × Nat → Int) (ok : Nat × Nat → Bool) (l : List (Nat × Nat)) (q : Nat × Nat) : bFold C ok (l ++ [q]) = bStep C ok (bFold C ok l) q := by unfold bFold; rw [List.foldl_append]; rfl
abbrev boolBox (b : Bool) : Obj := .cells #[.bool b] 4 (0, 0)
abbrev costBox (v : Value) : Obj := .cells #[v] 112 (0, 0)
structure BJ (w : World) (b3 b4 b5 b6 : Nat) (fv : Value) (s : (Nat × Nat) × Int × Bool) (W : World) : Prop where
  low : Below w.heap.size w W
  k3 : W.heap[b3]? = some (costBox fv)
  k4 : W.heap[b4]? = some (planBox (s.1.1 : Int) (s.1.2 : Int))
  k5 : W.heap[b5]? = some (intBox s.2.1)
  k6 : W.heap[b6]? = some (boolBox s.2.2)
theorem cells_grown {X Y : World} {row : Option Nat} {b : Nat} {cs : Array Value} {t : TypeId} {fr : Nat × Nat} {B : Nat} (hs : X.heap[b]? = some (.cells cs t fr)) (hg : X.grownBy Y row) (hr : ∀ r, row = some r → B ≤ r ∧ ∃ o : Obj, X.heap[r]? = some o ∧ o.isCells = false) : Y.heap[b]? = some (.cells cs t fr) :=
  (hg.block _ (lt_of_block hs) (fun e => by
    obtain ⟨_, o, ho, hc⟩ := hr b e.symm
    rw [hs] at ho
    cases ho
    cases hc)).trans hs
theorem BJ.own {w X Y : World} {b3 b4 b5 b6 : Nat} {fv : Value} {s : (Nat × Nat) × Int × Bool} {row : Option Nat} {B : Nat} (h : BJ w b3 b4 b5 b6 fv s X) (hB : w.heap.size ≤ B) (hg : X.grownBy Y row) (hr : ∀ r, row = some r → B ≤ r ∧ ∃ o : Obj, X.heap[r]? = some o ∧ o.isCells = false) : BJ w b3 b4 b5 b6 fv s Y :=
  ⟨h.low.grown hg h.low.size (fun k e => Nat.le_trans hB (hr k e).1), cells_grown h.k3 hg hr, cells_grown h.k4 hg hr, cells_grown h.k5 hg hr, cells_grown h.k6 hg hr⟩
theorem BJ.alloc {w X : World} {b3 b4 b5 b6 : Nat} {fv : Value} {s : (Nat × Nat) × Int × Bool} (h : BJ w b3 b4 b5 b6 fv s X) (o : Obj) : BJ w b3 b4 b5 b6 fv s (X.alloc o) :=
  ⟨h.low.trans ((below_alloc (Below.refl _ _) _).mono h.low.size), blk_alloc' h.k3 o, blk_alloc' h.k4 o, blk_alloc' h.k5 o, blk_alloc' h.k6 o⟩
theorem BJ.below {w X Y : World} {b3 b4 b5 b6 : Nat} {fv : Value} {s : (Nat × Nat) × Int × Bool} (h : BJ w b3 b4 b5 b6 fv s X) (hb : Below X.heap.size X Y) : BJ w b3 b4 b5 b6 fv s Y :=
  ⟨h.low.trans (hb.mono h.low.size), blk_fr h.k3 (Fr.below hb (fun _ => False)) (fun h => h), blk_fr h.k4 (Fr.below hb (fun _ => False)) (fun h => h), blk_fr h.k5 (Fr.below hb (fun _ => False)) (fun h => h), blk_fr h.k6 (Fr.below hb (fun _ => False)) (fun h => h)⟩
def bSet (W : World) (b4 b5 b6 : Nat) (k o x : Int) : World := ((W.setRow b4 #[.int .i64 k, .int .i64 o]).setCell ⟨b5, 0, none⟩ (.int .i64 x)).setCell ⟨b6, 0, none⟩ (.bool true)
theorem BJ.store {w W : World} {b3 b4 b5 b6 : Nat} {fv : Value} {s : (Nat × Nat) × Int × Bool} (h : BJ w b3 b4 b5 b6 fv s W) (hn : w.heap.size ≤ b3 ∧ b3 < b4 ∧ b4 < b5 ∧ b5 < b6) (k o : Nat) (x : Int) :
    BJ w b3 b4 b5 b6 fv ((k, o), x, true) (bSet W b4 b5 b6 k o x) ∧ Fr (fun k => k = b4 ∨ k = b5 ∨ k = b6) W (bSet W b4 b5 b6 k o x) := by
  have f1 : Fr (fun k => k = b4) W (W.setRow b4 #[.int .i64 (k : Int), .int .i64 (o : Int)]) := fr_setRow' _ _ _
  have k51 := blk_fr h.k5 f1 (by omega)
  have k61 := blk_fr h.k6 f1 (by omega)
  have k31 := blk_fr h.k3 f1 (by omega)
  have k41 : (W.setRow b4 #[.int .i64 (k : Int), .int .i64 (o : Int)]).heap[b4]? = some (planBox (k : Int) (o : Int)) := setRow_heap _ _ _ _ _ _ h.k4
  obtain ⟨W1, hW1⟩ : ∃ W1, W1 = W.setRow b4 #[.int .i64 (k : Int), .int .i64 (o : Int)] := ⟨_, rfl⟩
  rw [← hW1] at f1 k51 k61 k31 k41
  have f2 : Fr (fun k => k = b5) W1 (W1.setCell ⟨b5, 0, none⟩ (.int .i64 x)) := (Fr.refl _ _).setCell (S := fun k => k = b5) (p := ⟨b5, 0, none⟩) (fun _ => rfl) _
  have k62 := blk_fr k61 f2 (by omega)
  have k32 := blk_fr k31 f2 (by omega)
  have k42 := blk_fr k41 f2 (by omega)
  have k52 : (W1.setCell ⟨b5, 0, none⟩ (.int .i64 x)).heap[b5]? = some (intBox x) := heap_setCell_same _ _ _ _ _ _ k51
  obtain ⟨W2, hW2⟩ : ∃ W2, W2 = W1.setCell ⟨b5, 0, none⟩ (.int .i64 x) := ⟨_, rfl⟩
  rw [← hW2] at f2 k62 k32 k42 k52
  have f3 : Fr (fun k => k = b6) W2 (W2.setCell ⟨b6, 0, none⟩ (.bool true)) := (Fr.refl _ _).setCell (S := fun k => k = b6) (p := ⟨b6, 0, none⟩) (fun _ => rfl) _
  have hE : bSet W b4 b5 b6 k o x = W2.setCell ⟨b6, 0, none⟩ (.bool true) := by unfold bSet; rw [hW2, hW1]
  rw [hE]
  have hf : Fr (fun k => k = b4 ∨ k = b5 ∨ k = b6) W (W2.setCell ⟨b6, 0, none⟩ (.bool true)) := ((f1.mono (fun k _ h => .inl h)).trans (f2.mono (fun k _ h => .inr (.inl h)))).trans (f3.mono (fun k _ h => .inr (.inr h)))
  exact ⟨⟨h.low.trans (hf.to_below h.low.size (fun k hk => by omega)), blk_fr k32 f3 (by omega), blk_fr k42 f3 (by omega), blk_fr k52 f3 (by omega), heap_setCell_same _ _ _ _ _ _ k62⟩, hf⟩
theorem results_cc {P : Program} {fn : Func} {p q : Tmp} {ty ty2 : TypeId} (h : fn.results = #[.cell p ty, .cell q ty2]) (tmps : Array Value) (w : World) (g : Nat) (t : TypeId) (cs : Array Value) (fr : Nat × Nat) (d : TypeDesc)
    (hp : tmps.getD p undef = .pointer (some ⟨g, 0, none⟩)) (hg : w.heap[g]? = some (.cells cs t fr))
    (hu : P.underlying ty = some d) (hd : (match d with | .struct _ | .array _ _ => true | _ => false) = true) (hi : (P.info? ty).map (·.size) = some cs.size)
    (a : Addr) (k : IntKind) (n : Int) (hq : tmps.getD q undef = .pointer (some a)) (hc : w.cell? a = some (.int k n)) (hu2 : P.underlying ty2 = some (.int k)) :
    (results fn tmps).run P w = .ok (.tuple #[.agg cs, .int k n]) w := by
  have hp' : tmps[p]?.getD undef = .pointer (some ⟨g, 0, none⟩) := by simpa using hp
  have hq' : tmps[q]?.getD undef = .pointer (some a) := by simpa using hq
  simp [results, h, hp', hq', asAddr, run_loadVar_row w g t ty cs fr d hg hu hd hi, run_loadVar_int w a ty2 k n hu2 hc]
theorem results_cii {P : Program} {fn : Func} {p q : Tmp} {ty ty2 : TypeId} (h : fn.results = #[.cell p ty, .cell q ty2]) (tmps : Array Value) (w : World)
    (a : Addr) (k : IntKind) (n : Int) (hp : tmps.getD p undef = .pointer (some a)) (hc : w.cell? a = some (.int k n)) (hu : P.underlying ty = some (.int k))
    (a2 : Addr) (k2 : IntKind) (n2 : Int) (hq : tmps.getD q undef = .pointer (some a2)) (hc2 : w.cell? a2 = some (.int k2 n2)) (hu2 : P.underlying ty2 = some (.int k2)) :
    (results fn tmps).run P w = .ok (.tuple #[.int k n, .int k2 n2]) w := by
  have hp' : tmps[p]?.getD undef = .pointer (some a) := by simpa using hp
  have hq' : tmps[q]?.getD undef = .pointer (some a2) := by simpa using hq
  simp [results, h, hp', hq', asAddr, run_loadVar_int w a ty k n hu hc, run_loadVar_int w a2 ty2 k2 n2 hu2 hc2]
theorem BJ.again {w W : World} {b3 b4 b5 b6 : Nat} {fv : Value} {s : (Nat × Nat) × Int × Bool} (h : BJ w b3 b4 b5 b6 fv s W) (hn : w.heap.size ≤ b3 ∧ b3 < b4 ∧ b4 < b5 ∧ b5 < b6) :
    (BJ w b3 b4 b5 b6 fv s (W.setRow b4 #[.int .i64 (s.1.1 : Int), .int .i64 (s.1.2 : Int)]) ∧ Fr (fun k => k = b4) W (W.setRow b4 #[.int .i64 (s.1.1 : Int), .int .i64 (s.1.2 : Int)])) ∧
    (BJ w b3 b4 b5 b6 fv s (W.setCell ⟨b5, 0, none⟩ (.int .i64 s.2.1)) ∧ Fr (fun k => k = b5) W (W.setCell ⟨b5, 0, none⟩ (.int .i64 s.2.1))) := by
  have f1 : Fr (fun k => k = b4) W (W.setRow b4 #[.int .i64 (s.1.1 : Int), .int .i64 (s.1.2 : Int)]) := fr_setRow' _ _ _
  have f2 : Fr (fun k => k = b5) W (W.setCell ⟨b5, 0, none⟩ (.int .i64 s.2.1)) := (Fr.refl _ _).setCell (S := fun k => k = b5) (p := ⟨b5, 0, none⟩) (fun _ => rfl) _
  exact ⟨⟨⟨h.low.trans (f1.to_below h.low.size (fun k hk => by omega)), blk_fr h.k3 f1 (by omega), setRow_heap _ _ _ _ _ _ h.k4, blk_fr h.k5 f1 (by omega), blk_fr h.k6 f1 (by omega)⟩, f1⟩,
    ⟨h.low.trans (f2.to_below h.low.size (fun k hk => by omega)), blk_fr h.k3 f2 (by omega), blk_fr h.k4 f2 (by omega), heap_setCell_same _ _ _ _ _ _ h.k5, blk_fr h.k6 f2 (by omega)⟩, f2⟩
theorem BJ.cells {w W : World} {b3 b4 b5 b6 : Nat} {fv : Value} {s : (Nat × Nat) × Int × Bool} (h : BJ w b3 b4 b5 b6 fv s W) : W.cell? ⟨b4, 0, none⟩ = some (.int .i64 (s.1.1 : Int)) ∧ W.cell? ⟨b4, 1, none⟩ = some (.int .i64 (s.1.2 : Int)) ∧ W.cell? ⟨b5, 0, none⟩ = some (.int .i64 s.2.1) :=
  ⟨by rw [cell_of_row W b4 0 _ _ _ h.k4]; rfl, by rw [cell_of_row W b4 1 _ _ _ h.k4]; rfl, cell_of_one h.k5⟩
attribute [local go_sem] Oper.semAt_some
theorem best_any (df : Nat) (lb : Array Value) (eg : ∀ args w, (callFunc df args).run Tryz.prog w = .ok (.enter df args) w) (C : Nat × Nat → Int) (ok : Nat × Nat → Bool) (w : World) (hg : HO w)
    (hdo : ∀ q W, q ∈ plansL → Below w.heap.size w W → Calls Tryz.prog df (#[.agg #[.int .i64 (q.1 : Int), .int .i64 (q.2 : Int)]] ++ lb) W fun e W' => e = .returned (.tuple #[.int .i64 (C q), .bool (ok q)]) ∧ Below W.heap.size W W') :
    Calls Tryz.prog 75 #[seqPl, .func (.func df) #[] lb] w fun e w' => e = .returned (.tuple #[.agg #[.int .i64 ((bFold C ok plansL).1.1 : Int), .int .i64 ((bFold C ok plansL).1.2 : Int)], .int .i64 (bFold C ok plansL).2.1]) ∧ Below w.heap.size w w' := by
  obtain ⟨w1, hw1⟩ : ∃ w1, w1 = w.alloc (costBox (.func (.func df) #[] lb)) := ⟨_, rfl⟩
  obtain ⟨w2, hw2⟩ : ∃ w2, w2 = w1.alloc (planBox 0 0) := ⟨_, rfl⟩
  obtain ⟨w3, hw3⟩ : ∃ w3, w3 = w2.alloc (intBox 0) := ⟨_, rfl⟩
  obtain ⟨w4, hw4⟩ : ∃ w4, w4 = w3.alloc (boolBox false) := ⟨_, rfl⟩
  obtain ⟨b3, hb3⟩ : ∃ b, b = w.heap.size := ⟨_, rfl⟩
  obtain ⟨b4, hb4⟩ : ∃ b, b = w1.heap.size := ⟨_, rfl⟩
  obtain ⟨b5, hb5⟩ : ∃ b, b = w2.heap.size := ⟨_, rfl⟩
  obtain ⟨b6, hb6⟩ : ∃ b, b = w3.heap.size := ⟨_, rfl⟩
  have s1 : w1.heap.size = w.heap.size + 1 := by rw [hw1]; simp
  have s2 : w2.heap.size = w.heap.size + 2 := by rw [hw2]; simp [s1]
  have s3 : w3.heap.size = w.heap.size + 3 := by rw [hw3]; simp [s2]
  have s4 : w4.heap.size = w.heap.size + 4 := by rw [hw4]; simp [s3]
  have hj : BJ w b3 b4 b5 b6 (.func (.func df) #[] lb) (bFold C ok []) w4 := by
    refine ⟨?_, ?_, ?_, ?_, ?_⟩
    · rw [hw4, hw3, hw2, hw1]
      exact below_alloc (below_alloc (below_alloc (below_alloc (Below.refl _ _) _) _) _) _
    · rw [hw4, hw3, hw2]
      exact blk_alloc' (blk_alloc' (blk_alloc' (by rw [hb3, hw1]; exact World.alloc_heap_new w _) _) _) _
    · rw [hw4, hw3]
      exact blk_alloc' (blk_alloc' (by rw [hb4, hw2]; exact World.alloc_heap_new w1 _) _) _
    · rw [hw4]
      exact blk_alloc' (by rw [hb5, hw3]; exact World.alloc_heap_new w2 _) _
    · rw [hb6, hw4]; exact World.alloc_heap_new w3 _
  have HST := Aside0.mk (plans_stops 4 (fun k => k = b4 ∨ k = b5 ∨ k = b6) w4 (hg.below hj.low) (fun k hk => by omega))
  have HN := Aside0.mk (show w.heap.size ≤ b3 ∧ b3 < b4 ∧ b4 < b5 ∧ b5 < b6 ∧ b6 + 1 = w4.heap.size ∧ w.heap.size ≤ w4.heap.size from ⟨by omega, by omega, by omega, by omega, by omega, by omega⟩)
  have HJ := Aside0.mk hj
  have HDO := Aside0.mk hdo
  have HE4 : Aside0 ((((w.alloc (costBox (.func (.func df) #[] lb))).alloc (planBox 0 0)).alloc (intBox 0)).alloc (boolBox false) = w4) := ⟨by rw [hw4, hw3, hw2, hw1]⟩
  have HB3 := Aside0.mk hb3.symm
  have HB4 : Aside0 (w.heap.size + 1 = b4) := ⟨by omega⟩
  have HB5 : Aside0 (w.heap.size + 1 + 1 = b5) := ⟨by omega⟩
  have HB6 : Aside0 (w.heap.size + 1 + 1 + 1 = b6) := ⟨by omega⟩
  clear hg hj hdo hw1 hw2 hw3 hw4 hb3 hb4 hb5 hb6 s1 s2 s3 s4
  refine (callsIn_wide (n := 5)).1 ?_
  refine callsIn_of_wp_marks Tryz.func75 rfl trivial ?_ rfl
  simp only [Tryz.ntmps75, List.size_toArray, List.length_cons, List.length_nil, Nat.reduceAdd, Nat.reduceSub, Array.replicate_succ, Array.replicate_zero, List.push_toArray, List.append_toArray, List.nil_append, List.cons_append]
  refine wpIn_wide.2 ?_
  go_wp2_with fail
  rw [HE4.out, HB6.out, HB5.out, HB4.out, HB3.out]
  refine (wpIn_wide (n := 5)).1 ?_
  refine wpIn_rangeFunc_ownH rfl (by omega) (gf := 78) (lb := #[]) rfl trivial (enters_of Tryz.func78 (by kernel_rfl) rfl)
    HST.out (fun h k => h.trans k) ?hKb (Below.refl w4.heap.size w4) (fun _ => rfl)
    (fun pre W => BJ w b3 b4 b5 b6 (.func (.func df) #[] lb) (bFold C ok (pre.map (·.1))) W)
    (fun _ _ _ => False) ?hI (fun _ _ _ _ _ hs _ _ => hs) HJ.out
    (fun (x : PlX) a' W => ∃ b7 : Nat, a' = { tmps := #[seqPl, Value.func (Fn.func df) #[] lb, undef, .pointer (some ⟨b3, 0, none⟩), .pointer (some ⟨b4, 0, none⟩), .pointer (some ⟨b5, 0, none⟩), .pointer (some ⟨b6, 0, none⟩), .pointer (some ⟨b7, 0, none⟩), undef, undef, seqPl, .agg #[.int .i64 (x.1.1 : Int), .int .i64 (x.1.2 : Int)], undef, undef, undef, undef, undef, undef, undef, undef, undef, undef, undef, undef, undef, undef, undef, undef, undef, undef, undef, undef], defers := [] } ∧ w4.heap.size ≤ b7 ∧ W.heap[b7]? = some (planBox (x.1.1 : Int) (x.1.2 : Int))) ?hAx ?assign ?body ?done ?stop
  case hKb =>
    intro W l o o' hl ho hc _
    exact KeepC.putObj _ W l o o' ho hc
  case hI =>
    intro s X Y row hs hg hr
    exact hs.own HN.out.2.2.2.2.2 hg (fun r e => hr r e)
  case hAx =>
    rintro x a' s X Y row ⟨b7, e, h7, hb⟩ hg hr
    exact ⟨b7, e, h7, cells_grown hb hg hr⟩
  case assign =>
    intro l pre x W K hI hK
    gi_wp2
    refine hK _ _ ⟨by simp, fun i o _ hi _ => blk_alloc' hi _⟩ (KeepC.alloc _ W _) (hI.alloc _) ⟨W.heap.size, rfl, ?_, World.alloc_heap_new W _⟩
    have := lt_of_block hI.k6
    have := HN.out
    omega
  case body =>
    rintro l pre ⟨⟨k, o⟩, hmem⟩ a' W hl hr hJ ⟨b7, rfl, h7, hb7⟩ hlen
    dsimp only at hb7 ⊢
    have hsn : bFold C ok ((pre ++ [(⟨(k, o), hmem⟩ : PlX)]).map (·.1)) = bStep C ok (bFold C ok (pre.map (·.1))) (k, o) := by rw [List.map_append]; exact bFold_snoc C ok _ _
    have hd := HDO.out (k, o) W hmem hJ.low
    unfold bStep at hsn
    generalize (pre ++ [(⟨(k, o), hmem⟩ : PlX)]) = xs at *
    have HSN := Aside0.mk hsn
    generalize bFold C ok (pre.map (·.1)) = s at *
    obtain ⟨⟨p1, p2⟩, lst, fnd⟩ := s
    dsimp only at hd
    dsimp only at HSN
    generalize C (k, o) = x at *
    generalize ok (k, o) = y at *
    have HD := Aside0.mk hd
    have z3 : W.cell? ⟨b3, 0, none⟩ = some (.func (.func df) #[] lb) := cell_of_one hJ.k3
    have z70 : W.cell? ⟨b7, 0, none⟩ = some (.int .i64 (k : Int)) := by rw [cell_of_row W b7 0 _ _ _ hb7]; rfl
    have z71 : W.cell? ⟨b7, 1, none⟩ = some (.int .i64 (o : Int)) := by rw [cell_of_row W b7 1 _ _ _ hb7]; rfl
    have HJ1 := Aside0.mk hJ
    have HB7 := Aside0.mk hb7
    have H7 := Aside0.mk h7
    clear hd hsn hJ hb7 h7 hlen hmem
    gi_wp2
    refine ⟨trivial, ?_⟩
    have hcall := callsIn_wide (n := 2).2 HD.out
    refine CallsIn.mono (show CallsIn (Fence.wide.inRound l) 2 Tryz.prog _ _ W _ from hcall) ?_
    rintro e W' ⟨rfl, hb2⟩
    have hj2 := HJ1.out.below hb2
    have k7 := blk_fr HB7.out (Fr.below hb2 (fun _ => False)) (fun h => h)
    have z70 : W'.cell? ⟨b7, 0, none⟩ = some (.int .i64 (k : Int)) := by rw [cell_of_row W' b7 0 _ _ _ k7]; rfl
    have z71 : W'.cell? ⟨b7, 1, none⟩ = some (.int .i64 (o : Int)) := by rw [cell_of_row W' b7 1 _ _ _ k7]; rfl
    have z5 : W'.cell? ⟨b5, 0, none⟩ = some (.int .i64 lst) := cell_of_one hj2.k5
    have z6 : W'.cell? ⟨b6, 0, none⟩ = some (.bool fnd) := cell_of_one hj2.k6
    have HJ2 := Aside0.mk hj2
    have HB2 := Aside0.mk hb2
    clear hb2 hj2 k7
    cases y with
    | false =>
      gi_wp2
      have hf : Fr (fun k => k = b4 ∨ k = b5 ∨ k = b6) W W' := Fr.below HB2.out _
      refine ⟨(Fr.below HB2.out (fun _ => False)).keepsFrom (fun k hk => hk.elim), KeepC.of_fr hf (fun k hk => hk), ?_⟩
      show BJ w b3 b4 b5 b6 _ (bFold C ok (xs.map (·.1))) W'
      rw [HSN.out]
      exact HJ2.out
    | true =>
      have HST2 := Aside0.mk (HJ2.out.store (by have := HN.out; omega) k o x)
      have k4 := HJ2.out.k4
      have k51 := blk_fr HJ2.out.k5 (fr_setRow' W' b4 #[.int .i64 (k : Int), .int .i64 (o : Int)]) (by have := HN.out; omega)
      have k61 := blk_fr HJ2.out.k6 (fr_setRow' W' b4 #[.int .i64 (k : Int), .int .i64 (o : Int)]) (by have := HN.out; omega)
      have k62 := blk_fr k61 (Fr.setCell (S := fun k => k = b5) (Fr.refl _ _) (p := ⟨b5, 0, none⟩) (fun _ => rfl) (.int .i64 x)) (by have := HN.out; omega)
      have f5 := blk_frozen k51 0
      have z51 := cell_of_one k51
      have f6 := blk_frozen k62 0
      have z61 := cell_of_one k62
      have K51 := Aside0.mk k51
      have K61 := Aside0.mk k61
      have K62 := Aside0.mk k62
      clear k51 k61 k62
      have KEEP : Aside0 (bFold C ok (xs.map (·.1)) = ((k, o), x, true) → ∀ a, ownPostG w4.heap.size (KeepC fun k => k = b4 ∨ k = b5 ∨ k = b6) (fun pre W => BJ w b3 b4 b5 b6 (.func (.func df) #[] lb) (bFold C ok (pre.map (·.1))) W) (fun _ _ _ => False) xs W .normal a (bSet W' b4 b5 b6 k o x)) := ⟨by
        intro he a
        have hf : Fr (fun k => k = b4 ∨ k = b5 ∨ k = b6) W (bSet W' b4 b5 b6 k o x) := (Fr.below HB2.out _).trans HST2.out.2
        refine ⟨hf.keepsFrom (fun k hk ob hob => ?_), KeepC.of_fr hf (fun k hk => hk), ?_⟩
        · rcases hk with rfl | rfl | rfl
          · rw [HJ1.out.k4] at hob; cases hob; rfl
          · rw [HJ1.out.k5] at hob; cases hob; rfl
          · rw [HJ1.out.k6] at hob; cases hob; rfl
        · show BJ w b3 b4 b5 b6 _ (bFold C ok (xs.map (·.1))) _
          rw [he]
          exact HST2.out.1⟩
      cases fnd with
      | false =>
        gi_wp2_with (refine wpListIn_store_row rfl _ _ _ rfl b4 #[.int .i64 (k : Int), .int .i64 (o : Int)] rfl rfl _ _ k4 (by kernel_rfl) rfl (by kernel_rfl) ?_)
        exact KEEP.out HSN.out _
      | true =>
        by_cases hx : x < lst
        · have d : decide (x < lst) = true := decide_eq_true hx
          rw [d] at HSN
          clear hx
          gi_wp2_with (refine wpListIn_store_row rfl _ _ _ rfl b4 #[.int .i64 (k : Int), .int .i64 (o : Int)] rfl rfl _ _ k4 (by kernel_rfl) rfl (by kernel_rfl) ?_)
          exact KEEP.out HSN.out _
        · have d : decide (x < lst) = false := decide_eq_false hx
          rw [d] at HSN
          clear hx
          gi_wp2
          have hf : Fr (fun k => k = b4 ∨ k = b5 ∨ k = b6) W W' := Fr.below HB2.out _
          refine ⟨(Fr.below HB2.out (fun _ => False)).keepsFrom (fun k hk => hk.elim), KeepC.of_fr hf (fun k hk => hk), ?_⟩
          show BJ w b3 b4 b5 b6 _ (bFold C ok (xs.map (·.1))) W'
          rw [HSN.out]
          exact HJ2.out
  case done =>
    rintro D ys W hD hys hJ hK
    rw [hys] at hJ
    obtain ⟨s, hs⟩ : ∃ s, s = bFold C ok plansL := ⟨_, rfl⟩
    rw [← hs] at hJ
    have HSS := Aside0.mk hs
    have HK := Aside0.mk hK
    have HJ3 := Aside0.mk hJ
    have HN4 := Aside0.mk (show w.heap.size ≤ b3 ∧ b3 < b4 ∧ b4 < b5 ∧ b5 < b6 by have := HN.out; omega)
    have HDN := Aside0.mk (show D ≠ b4 ∧ D ≠ b5 ∧ w.heap.size ≤ D by have := HN.out; omega)
    clear hJ hK hys hs
    (try simp only [Exit.inBlock, Exit.then])
    go_wp2_with fail
    refine wp_region_inv rfl (fun L a W' => ∃ v30 v31 : Value, a = { tmps := #[seqPl, .func (.func df) #[] lb, undef, .pointer (some ⟨b3, 0, none⟩), .pointer (some ⟨b4, 0, none⟩), .pointer (some ⟨b5, 0, none⟩), .pointer (some ⟨b6, 0, none⟩), undef, undef, undef, seqPl, undef, undef, undef, undef, undef, undef, undef, undef, undef, undef, undef, undef, undef, undef, undef, undef, undef, undef, undef, v30, v31], defers := [{ target := .collected D, args := #[] }] } ∧ (L.getD 0 false = true → v30 = .agg #[.int .i64 (s.1.1 : Int), .int .i64 (s.1.2 : Int)]) ∧ (L.getD 1 false = true → v31 = .int .i64 s.2.1) ∧ BJ w b3 b4 b5 b6 (.func (.func df) #[] lb) s W' ∧ W'.heap[D]? = some (.deferred (some []))) (by kernel_rfl) ?h0 ?hstep ?hend
    case h0 =>
      exact ⟨undef, undef, rfl, fun h => Bool.noConfusion (show false = true from h), fun h => Bool.noConfusion (show false = true from h), ⟨HJ3.out.low.drew, HJ3.out.k3, HJ3.out.k4, HJ3.out.k5, HJ3.out.k6⟩, HK.out⟩
    case hstep =>
      rintro i o L a W' ho hs hf he ⟨v30, v31, rfl, h30, h31, hJ, hD⟩
      have hi : i < 4 := by have := (List.getElem?_eq_some_iff.1 ho).1; simpa using this
      obtain ⟨z40, z41, z5⟩ := hJ.cells
      rcases (show i = 0 ∨ i = 1 ∨ i = 2 ∨ i = 3 by omega) with rfl | rfl | rfl | rfl
      · obtain rfl := Option.some.inj ho
        have e0 : (L.setIfInBounds 0 true).getD 1 false = L.getD 1 false := by simp [Array.getD_eq_getD_getElem?]
        refine wpOp_step rfl (fun K hK => ?_)
        go_simp
        refine hK _ _ ⟨_, v31, rfl, fun _ => rfl, fun h => h31 (e0 ▸ h), hJ, hD⟩
      · obtain rfl := Option.some.inj ho
        have e0 : (L.setIfInBounds 1 true).getD 0 false = L.getD 0 false := by simp [Array.getD_eq_getD_getElem?]
        refine wpOp_step rfl (fun K hK => ?_)
        go_simp
        refine hK _ _ ⟨v30, _, rfl, fun h => h30 (e0 ▸ h), fun _ => rfl, hJ, hD⟩
      · obtain rfl := Option.some.inj ho
        have h0 : L.getD 0 false = true := he ⟨0, .data⟩ (by simp) (by rfl)
        obtain rfl := h30 h0
        have e0 : (L.setIfInBounds 2 true).getD 0 false = L.getD 0 false := by simp [Array.getD_eq_getD_getElem?]
        have e1 : (L.setIfInBounds 2 true).getD 1 false = L.getD 1 false := by simp [Array.getD_eq_getD_getElem?]
        have ha := (hJ.again HN4.out).1
        refine wpOp_step rfl (fun K hK => ?_)
        refine Eq.mpr (if_pos (by kernel_rfl)) ?_
        refine wp_store_row _ _ _ rfl b4 #[.int .i64 (s.1.1 : Int), .int .i64 (s.1.2 : Int)] rfl rfl _ _ hJ.k4 (by kernel_rfl) rfl (by kernel_rfl) ?_
        refine hK _ _ ⟨_, v31, rfl, fun _ => rfl, fun h => h31 (e1 ▸ h), ha.1, blk_fr hD ha.2 (fun e => HDN.out.1 e)⟩
      · obtain rfl := Option.some.inj ho
        have h1 : L.getD 1 false = true := he ⟨1, .data⟩ (by simp) (by rfl)
        obtain rfl := h31 h1
        have e0 : (L.setIfInBounds 3 true).getD 0 false = L.getD 0 false := by simp [Array.getD_eq_getD_getElem?]
        have ha := (hJ.again HN4.out).2
        have q2 := blk_frozen hJ.k5 0
        refine wpOp_step rfl (fun K hK => ?_)
        go_simp
        refine hK _ _ ⟨v30, _, rfl, fun h => h30 (e0 ▸ h), fun _ => rfl, ha.1, blk_fr hD ha.2 (fun e => HDN.out.2.1 e)⟩
    case hend =>
      rintro L a W' hs hall ⟨v30, v31, rfl, _, _, hJ, hD⟩
      obtain ⟨z40, z41, z5⟩ := hJ.cells
      have HJ4 := Aside0.mk hJ
      have HD4 := Aside0.mk hD
      clear hJ hD
      go_wp2_with fail
      refine ⟨by simp, .inl ⟨_, _, rfl, run_takeDeferred HD4.out, ?_⟩⟩
      have hfD : Fr (fun k => k = D) W' (W'.putObj D (.deferred none)) := (Fr.refl _ _).grown (grownBy_putObj' W' D (.deferred none)) (fun k _ e => by cases e; rfl)
      have k4 := blk_fr HJ4.out.k4 hfD (fun e => HDN.out.1 e.symm)
      have k5 := blk_fr HJ4.out.k5 hfD (fun e => HDN.out.2.1 e.symm)
      refine ⟨_, results_cc rfl _ _ b4 _ _ _ _ rfl k4 Tryz.underlying83 rfl (by kernel_rfl) ⟨b5, 0, none⟩ .i64 s.2.1 rfl (cell_of_one k5) Tryz.underlying3, by rw [HSS.out], HJ4.out.low.trans (hfD.to_below HJ4.out.low.size (fun k hk => by subst hk; exact HDN.out.2.2))⟩
  case stop =>
    rintro D c pre W _ _ h _
    exact h.elim
def planL (x : List Int) : (Nat × Nat) × Int × Bool := bFold (fun q => ((planW x q).1.length : Int)) (fun q => (planW x q).2) plansL
theorem planned1_any (A : Option Addr) (c : Nat) (x : List Int) (b : Nat) (q : Nat × Nat) (w : World) (hb : w.heap[b]? = some (listBox A x.length c)) (hC : Kd.C (Kd.int .i64) w A x.length x) (hc : x.length ≤ c) (hs : sigL x) (h1 : 1 ≤ x.length) (hl : x.length ≤ 128) (hq : okPlan q) :
    Calls Tryz.prog 76 (#[.agg #[.int .i64 (q.1 : Int), .int .i64 (q.2 : Int)]] ++ #[.pointer (some ⟨b, 0, none⟩)]) w fun e w' => e = .returned (.tuple #[.int .i64 ((planW x q).1.length : Int), .bool (planW x q).2]) ∧ Below w.heap.size w w' := by
  show Calls Tryz.prog 76 #[.agg #[.int .i64 (q.1 : Int), .int .i64 (q.2 : Int)], .pointer (some ⟨b, 0, none⟩)] w _
  obtain ⟨w1, hw1⟩ : ∃ w1, w1 = w.alloc (planBox (q.1 : Int) (q.2 : Int)) := ⟨_, rfl⟩
  obtain ⟨bq, hbq⟩ : ∃ b, b = w.heap.size := ⟨_, rfl⟩
  have hb1 : Below w.heap.size w w1 := by rw [hw1]; exact below_alloc (Below.refl _ _) _
  have hkq : w1.heap[bq]? = some (planBox (q.1 : Int) (q.2 : Int)) := by rw [hw1, hbq]; exact World.alloc_heap_new w _
  have hb2 := blk_fr hb (Fr.below hb1 (fun _ => False)) (fun h => h)
  have z1 : w1.cell? ⟨b, 0, none⟩ = some (.slice A x.length c) := cell_of_one hb2
  have z20 : w1.cell? ⟨bq, 0, none⟩ = some (.int .i64 (q.1 : Int)) := by rw [cell_of_row w1 bq 0 _ _ _ hkq]; rfl
  have z21 : w1.cell? ⟨bq, 1, none⟩ = some (.int .i64 (q.2 : Int)) := by rw [cell_of_row w1 bq 1 _ _ _ hkq]; rfl
  have HWR := Aside0.mk (written_any A c x q w1 (Kd.C_below hC hb1) hc hs h1 hl hq)
  generalize planW x q = P at *
  obtain ⟨L, o⟩ := P
  obtain ⟨k1, k2⟩ := q
  dsimp only at *
  have HE1 : Aside0 (w.alloc (.cells #[.int .i64 (k1 : Int), .int .i64 (k2 : Int)] 83) = w1) := ⟨hw1.symm⟩
  have HBQ := Aside0.mk hbq.symm
  have HB1 := Aside0.mk hb1
  clear hb hC hs h1 hl hq hw1 hbq hb1 hkq hb2 hc
  go_enter Tryz.func76, Tryz.ntmps76
  go_wp2_with (rw [HE1.out, HBQ.out])
  refine HWR.out.mono ?_
  rintro e w2 ⟨p, S, rfl, hW, hp, hS, hb⟩
  have HL := Aside0.mk (Len_any S p L w2 hW)
  have HB2 := Aside0.mk (HB1.out.trans (hb.mono HB1.out.size))
  clear hW hp hS hb
  go_wp2_with fail
  refine HL.out.mono ?_
  rintro e w3 ⟨rfl, hw⟩
  obtain rfl := hw.symm
  go_wp2_with fail
  go_ret2
  exact ⟨rfl, HB2.out⟩
theorem results_ct {P : Program} {fn : Func} {p u : Tmp} {ty : TypeId} (h : fn.results = #[.cell p ty, .tmp u]) (tmps : Array Value) (w : World) (g : Nat) (t : TypeId) (cs : Array Value) (fr : Nat × Nat) (d : TypeDesc)
    (hp : tmps.getD p undef = .pointer (some ⟨g, 0, none⟩)) (hg : w.heap[g]? = some (.cells cs t fr))
    (hu : P.underlying ty = some d) (hd : (match d with | .struct _ | .array _ _ => true | _ => false) = true) (hi : (P.info? ty).map (·.size) = some cs.size) :
    (results fn tmps).run P w = .ok (.tuple #[.agg cs, tmps.getD u undef]) w := by
  have hp' : tmps[p]?.getD undef = .pointer (some ⟨g, 0, none⟩) := by simpa using hp
  simp [results, h, hp', asAddr, run_loadVar_row w g t ty cs fr d hg hu hd hi]
theorem planned_any (A : Option Addr) (c : Nat) (x : List Int) (w : World) (hg : HO w) (hC : Kd.C (Kd.int .i64) w A x.length x) (hc : x.length ≤ c) (hs : sigL x) (h1 : 1 ≤ x.length) (hl : x.length ≤ 128) :
    Calls Tryz.prog 51 #[.slice A x.length c] w fun e w' => e = .returned (.tuple #[.agg #[.int .i64 ((planL x).1.1 : Int), .int .i64 ((planL x).1.2 : Int)], .int .i64 (planL x).2.1]) ∧ Below w.heap.size w w' := by
  obtain ⟨w1, hw1⟩ : ∃ w1, w1 = (w.alloc (listBox A x.length c)).alloc (planBox 0 0) := ⟨_, rfl⟩
  obtain ⟨b, hb⟩ : ∃ b, b = w.heap.size := ⟨_, rfl⟩
  obtain ⟨b2, hb2⟩ : ∃ b, b = w.heap.size + 1 := ⟨_, rfl⟩
  have hb1 : Below w.heap.size w w1 := by rw [hw1]; exact below_alloc (below_alloc (Below.refl _ _) _) _
  have hk1 : w1.heap[b]? = some (listBox A x.length c) := by rw [hw1, hb]; exact blk_alloc' (World.alloc_heap_new w _) _
  have hk2 : w1.heap[b2]? = some (planBox 0 0) := by
    rw [hw1, hb2]
    have := World.alloc_heap_new (w.alloc (listBox A x.length c)) (planBox 0 0)
    simpa using this
  have hch := best_any 76 #[.pointer (some ⟨b, 0, none⟩)] (enters_of Tryz.func76 (by kernel_rfl) rfl) (fun q => ((planW x q).1.length : Int)) (fun q => (planW x q).2) w1 (hg.below hb1)
    (fun q W hq hW => planned1_any A c x b q W (blk_fr hk1 (Fr.below hW (fun _ => False)) (fun h => h)) (Kd.C_below hC (hb1.trans (hW.mono hb1.size))) hc hs h1 hl (plans_ok q hq))
  rw [show bFold (fun q => ((planW x q).1.length : Int)) (fun q => (planW x q).2) plansL = planL x from rfl] at hch
  have HCH := Aside0.mk hch
  have HB1 := Aside0.mk hb1
  have HE : Aside0 ((w.alloc (listBox A x.length c)).alloc (planBox 0 0) = w1) := ⟨hw1.symm⟩
  have HB := Aside0.mk hb.symm
  have HB2 := Aside0.mk hb2.symm
  have HK2 := Aside0.mk hk2
  generalize planL x = r at *
  obtain ⟨⟨k1, k2⟩, n, fo⟩ := r
  dsimp only at *
  clear hC hs hw1 hb hb1 hk1 hch h1 hl hg hk2 hb2 hc
  have hmf : ∀ (fn : Fn) (first cap : Array Value) (W : World), (Instr.makeFunc fn first cap).run Tryz.prog W = .ok (.func fn first cap) W := fun _ _ _ _ => rfl
  go_enter Tryz.func51, Tryz.ntmps51
  go_wp2_with (rw [HE.out, HB2.out, HB.out])
  refine (plans_any w1).mono ?_
  rintro e w2 ⟨rfl, hw⟩
  obtain rfl := hw.symm
  go_wp2_with fail
  refine HCH.out.mono ?_
  rintro e w2 ⟨rfl, hd⟩
  have k2 := blk_fr HK2.out (Fr.below hd (fun _ => False)) (fun h => h)
  have HD := Aside0.mk hd
  have HKK := Aside0.mk k2
  clear hd
  go_wp2_with (refine wpList_store_row rfl _ _ _ rfl b2 _ rfl rfl _ _ k2 (by kernel_rfl) rfl (by kernel_rfl) ?_)
  refine bodyPost_ret (results_ct rfl _ _ b2 _ _ _ _ rfl (setRow_heap _ _ _ _ _ _ HKK.out) Tryz.underlying83 rfl (by kernel_rfl)) rfl ?_
  refine ⟨rfl, HB1.out.trans ((HD.out.mono HB1.out.size).trans ((fr_setRow' _ _ _).to_below (Nat.le_trans HB1.out.size HD.out.size) (fun k hk => ?_)))⟩
  have := HB2.out
  omega
def fPlan (x : List Int) : Int × Int × Int × Int := if chkS x = 0 then (((planL x).1.1 : Int), ((planL x).1.2 : Int), (planL x).2.1, 0) else (0, 0, 0, chkS x)
theorem results_4t {P : Program} {fn : Func} {p q r s : Tmp} (h : fn.results = #[.tmp p, .tmp q, .tmp r, .tmp s]) (tmps : Array Value) (w : World) :
    (results fn tmps).run P w = .ok (.tuple #[tmps.getD p undef, tmps.getD q undef, tmps.getD r undef, tmps.getD s undef]) w := by
  simp [results, h]
theorem Plan_any (A : Option Addr) (c : Nat) (x : List Int) (w : World) (hg : HO w) (hC : Kd.C (Kd.int .i64) w A x.length x) (hc : x.length ≤ c) :
    Calls Tryz.prog 24 #[.slice A x.length c] w fun e w' => e = .returned (.tuple #[.int .i64 (fPlan x).1, .int .i64 (fPlan x).2.1, .int .i64 (fPlan x).2.2.1, .int .i64 (fPlan x).2.2.2]) ∧ Below w.heap.size w w' := by
  have HK := Aside0.mk (checked_any A c x w hC hc)
  have HC := Aside0.mk hC
  have HG := Aside0.mk hg
  by_cases h3 : chkS x = 0
  · obtain ⟨⟨h1, hl⟩, hs⟩ := chkS_zero.1 h3
    have HF : fPlan x = (((planL x).1.1 : Int), ((planL x).1.2 : Int), (planL x).2.1, 0) := by unfold fPlan; rw [if_pos h3]
    have HPL := Aside0.mk (fun W hW => planned_any A c x W (hg.below hW) (Kd.C_below hC hW) hc hs h1 hl)
    rw [HF]
    rw [h3] at HK
    generalize planL x = r at *
    obtain ⟨⟨k1, k2⟩, n, fo⟩ := r
    dsimp only at *
    clear h3 HF hC hg hs h1 hl hc
    go_enter Tryz.func24, Tryz.ntmps24
    go_wp2_with fail
    refine HK.out.mono ?_
    rintro e w1 ⟨rfl, hd⟩
    have HB1 := Aside0.mk hd.below
    clear hd
    go_wp2_with fail
    refine (HPL.out w1 HB1.out).mono ?_
    rintro e w2 ⟨rfl, hd⟩
    have HB2 := Aside0.mk (HB1.out.trans (hd.mono HB1.out.size))
    clear hd
    have hkn := World.alloc_heap_new w2 (planBox (k1 : Int) (k2 : Int))
    have z1 : (w2.alloc (planBox (k1 : Int) (k2 : Int))).cell? ⟨w2.heap.size, 0, none⟩ = some (.int .i64 (k1 : Int)) := by rw [cell_of_row _ _ 0 _ _ _ hkn]; rfl
    have z2 : (w2.alloc (planBox (k1 : Int) (k2 : Int))).cell? ⟨w2.heap.size, 1, none⟩ = some (.int .i64 (k2 : Int)) := by rw [cell_of_row _ _ 1 _ _ _ hkn]; rfl
    clear hkn
    go_wp2_with fail
    go_region
    go_wp2_with fail
    refine bodyPost_ret (results_4t rfl _ _) rfl ?_
    refine ⟨rfl, HB2.out.trans ((?_ : Below w2.heap.size w2 _).mono HB2.out.size)⟩
    exact (below_alloc (Below.refl _ _) _).drew
  · have HF : fPlan x = (0, 0, 0, chkS x) := by unfold fPlan; rw [if_neg h3]
    rw [HF]
    dsimp only
    generalize chkS x = e at *
    have d1 : (e == 0) = false := by simpa using h3
    clear hC hg HF
    go_enter Tryz.func24, Tryz.ntmps24
    go_wp2_with fail
    refine HK.out.mono ?_
    rintro e w1 ⟨rfl, hd⟩
    have HB1 := Aside0.mk hd.below
    clear hd
    go_wp2_with fail
    refine bodyPost_ret (results_4t rfl _ _) rfl ?_
    exact ⟨rfl, HB1.out⟩
def costT (x : List Int) (k o : Int) (q : Nat × Nat) : Bool := (decide ((q.1 : Int) = k) && decide ((q.2 : Int) = o)) && (planW x q).2
def costL (x : List Int) (k o : Int) : Int × Int := match plansL.find? (costT x k o) with | some q => (((planW x q).1.length : Int), 0) | none => (0, 5)
def fCostP (x : List Int) (k o : Int) : Int × Int := if chkS x = 0 then costL x k o else (0, chkS x)
theorem costL_some {x : List Int} {k o : Int} {q : Nat × Nat} (hq : q ∈ plansL) (h : costT x k o q = true) : costL x k o = (((planW x q).1.length : Int), 0) := by
  unfold costL
  cases hf : plansL.find? (costT x k o) with
  | none =>
    have := List.find?_eq_none.1 hf q hq
    exact absurd h this
  | some q' =>
    have h' := List.find?_some hf
    unfold costT at h h'
    simp only [Bool.and_eq_true, decide_eq_true_eq] at h h'
    have : q' = q := Prod.ext (by omega) (by omega)
    rw [this]
theorem costL_none {x : List Int} {k o : Int} (h : ∀ q ∈ plansL, costT x k o q = false) : costL x k o = (0, 5) := by
  unfold costL
  rw [List.find?_eq_none.2 (fun q hq => by rw [h q hq]; decide)]
structure CJ (w : World) (b3 b4 b5 b6 b7 : Nat) (A : Option Addr) (n c : Nat) (k o r e : Int) (W : World) : Prop where
  low : Below w.heap.size w W
  k3 : W.heap[b3]? = some (listBox A n c)
  k4 : W.heap[b4]? = some (intBox k)
  k5 : W.heap[b5]? = some (intBox o)
  k6 : W.heap[b6]? = some (intBox r)
  k7 : W.heap[b7]? = some (.cells #[.int .i64 e] 24 (0, 0))
section
variable {w X Y : World} {b3 b4 b5 b6 b7 : Nat} {A : Option Addr} {n c : Nat} {k o r e : Int}
theorem CJ.own {row : Option Nat} {B : Nat} (h : CJ w b3 b4 b5 b6 b7 A n c k o r e X) (hB : w.heap.size ≤ B) (hg : X.grownBy Y row) (hr : ∀ r, row = some r → B ≤ r ∧ ∃ o : Obj, X.heap[r]? = some o ∧ o.isCells = false) : CJ w b3 b4 b5 b6 b7 A n c k o r e Y :=
  ⟨h.low.grown hg h.low.size (fun k e => Nat.le_trans hB (hr k e).1), cells_grown h.k3 hg hr, cells_grown h.k4 hg hr, cells_grown h.k5 hg hr, cells_grown h.k6 hg hr, cells_grown h.k7 hg hr⟩
theorem CJ.alloc (h : CJ w b3 b4 b5 b6 b7 A n c k o r e X) (ob : Obj) : CJ w b3 b4 b5 b6 b7 A n c k o r e (X.alloc ob) :=
  ⟨h.low.trans ((below_alloc (Below.refl _ _) _).mono h.low.size), blk_alloc' h.k3 ob, blk_alloc' h.k4 ob, blk_alloc' h.k5 ob, blk_alloc' h.k6 ob, blk_alloc' h.k7 ob⟩
theorem CJ.below (h : CJ w b3 b4 b5 b6 b7 A n c k o r e X) (hb : Below X.heap.size X Y) : CJ w b3 b4 b5 b6 b7 A n c k o r e Y :=
  ⟨h.low.trans (hb.mono h.low.size), blk_fr h.k3 (Fr.below hb (fun _ => False)) (fun h => h), blk_fr h.k4 (Fr.below hb (fun _ => False)) (fun h => h), blk_fr h.k5 (Fr.below hb (fun _ => False)) (fun h => h), blk_fr h.k6 (Fr.below hb (fun _ => False)) (fun h => h), blk_fr h.k7 (Fr.below hb (fun _ => False)) (fun h => h)⟩
theorem CJ.store (h : CJ w b3 b4 b5 b6 b7 A n c k o r e X) (hn : w.heap.size ≤ b3 ∧ b3 < b4 ∧ b4 < b5 ∧ b5 < b6 ∧ b6 < b7) (r' e' : Int) :
    CJ w b3 b4 b5 b6 b7 A n c k o r' e' ((X.setCell ⟨b6, 0, none⟩ (.int .i64 r')).setCell ⟨b7, 0, none⟩ (.int .i64 e')) ∧ Fr (fun k => k = b6 ∨ k = b7) X ((X.setCell ⟨b6, 0, none⟩ (.int .i64 r')).setCell ⟨b7, 0, none⟩ (.int .i64 e')) ∧ (X.setCell ⟨b6, 0, none⟩ (.int .i64 r')).cell? ⟨b7, 0, none⟩ = some (.int .i64 e) ∧ (X.setCell ⟨b6, 0, none⟩ (.int .i64 r')).frozen? ⟨b7, 0, none⟩ = false := by
  have f1 : Fr (fun k => k = b6) X (X.setCell ⟨b6, 0, none⟩ (.int .i64 r')) := (Fr.refl _ _).setCell (S := fun k => k = b6) (p := ⟨b6, 0, none⟩) (fun _ => rfl) _
  have k31 := blk_fr h.k3 f1 (by omega)
  have k41 := blk_fr h.k4 f1 (by omega)
  have k51 := blk_fr h.k5 f1 (by omega)
  have k61 : (X.setCell ⟨b6, 0, none⟩ (.int .i64 r')).heap[b6]? = some (intBox r') := heap_setCell_same _ _ _ _ _ _ h.k6
  have k71 := blk_fr h.k7 f1 (by omega)
  obtain ⟨X1, hX⟩ : ∃ X1, X1 = X.setCell ⟨b6, 0, none⟩ (.int .i64 r') := ⟨_, rfl⟩
  rw [← hX] at f1 k31 k41 k51 k61 k71 ⊢
  have f2 : Fr (fun k => k = b7) X1 (X1.setCell ⟨b7, 0, none⟩ (.int .i64 e')) := (Fr.refl _ _).setCell (S := fun k => k = b7) (p := ⟨b7, 0, none⟩) (fun _ => rfl) _
  have hf : Fr (fun k => k = b6 ∨ k = b7) X (X1.setCell ⟨b7, 0, none⟩ (.int .i64 e')) := (f1.mono (fun k _ h => .inl h)).trans (f2.mono (fun k _ h => .inr h))
  exact ⟨⟨h.low.trans (hf.to_below h.low.size (fun k hk => by omega)), blk_fr k31 f2 (by omega), blk_fr k41 f2 (by omega), blk_fr k51 f2 (by omega), blk_fr k61 f2 (by omega), heap_setCell_same _ _ _ _ _ _ k71⟩, hf, cell_of_one k71, blk_frozen k71 0⟩
end
attribute [local go_sem] Oper.semAt_some
theorem Cost_any (A : Option Addr) (c : Nat) (x : List Int) (k o : Int) (w : World) (hg : HO w) (hC : Kd.C (Kd.int .i64) w A x.length x) (hc : x.length ≤ c) :
    Calls Tryz.prog 26 #[.slice A x.length c, .int .i64 k, .int .i64 o] w fun e w' => e = .returned (.tuple #[.int .i64 (fCostP x k o).1, .int .i64 (fCostP x k o).2]) ∧ Below w.heap.size w w' := by
  obtain ⟨w4, hw4⟩ : ∃ w4, w4 = ((((w.alloc (listBox A x.length c)).alloc (intBox k)).alloc (intBox o)).alloc (intBox 0)).alloc (.cells #[.int .i64 0] 24) := ⟨_, rfl⟩
  obtain ⟨b3, hb3⟩ : ∃ b, b = w.heap.size := ⟨_, rfl⟩
  obtain ⟨b4, hb4⟩ : ∃ b, b = w.heap.size + 1 := ⟨_, rfl⟩
  obtain ⟨b5, hb5⟩ : ∃ b, b = w.heap.size + 2 := ⟨_, rfl⟩
  obtain ⟨b6, hb6⟩ : ∃ b, b = w.heap.size + 3 := ⟨_, rfl⟩
  obtain ⟨b7, hb7⟩ : ∃ b, b = w.heap.size + 4 := ⟨_, rfl⟩
  have s4 : w4.heap.size = w.heap.size + 5 := by rw [hw4]; simp
  have hj : CJ w b3 b4 b5 b6 b7 A x.length c k o 0 0 w4 := by
    refine ⟨?_, ?_, ?_, ?_, ?_, ?_⟩
    · rw [hw4]
      exact below_alloc (below_alloc (below_alloc (below_alloc (below_alloc (Below.refl _ _) _) _) _) _) _
    · rw [hw4, hb3]
      exact blk_alloc' (blk_alloc' (blk_alloc' (blk_alloc' (World.alloc_heap_new w _) _) _) _) _
    · rw [hw4, hb4]
      refine blk_alloc' (blk_alloc' (blk_alloc' ?_ _) _) _
      have := World.alloc_heap_new (w.alloc (listBox A x.length c)) (intBox k)
      simpa using this
    · rw [hw4, hb5]
      refine blk_alloc' (blk_alloc' ?_ _) _
      have := World.alloc_heap_new ((w.alloc (listBox A x.length c)).alloc (intBox k)) (intBox o)
      simpa using this
    · rw [hw4, hb6]
      refine blk_alloc' ?_ _
      have := World.alloc_heap_new (((w.alloc (listBox A x.length c)).alloc (intBox k)).alloc (intBox o)) (intBox 0)
      simpa using this
    · rw [hw4, hb7]
      have := World.alloc_heap_new ((((w.alloc (listBox A x.length c)).alloc (intBox k)).alloc (intBox o)).alloc (intBox 0)) (.cells #[.int .i64 0] 24)
      simpa using this
  have HN := Aside0.mk (show w.heap.size ≤ b3 ∧ b3 < b4 ∧ b4 < b5 ∧ b5 < b6 ∧ b6 < b7 ∧ b7 + 1 = w4.heap.size ∧ w.heap.size ≤ w4.heap.size from ⟨by omega, by omega, by omega, by omega, by omega, by omega, by omega⟩)
  have HJ := Aside0.mk hj
  have HE4 := Aside0.mk hw4.symm
  have HB3 := Aside0.mk hb3.symm
  have HB4 : Aside0 (w.heap.size + 1 = b4) := ⟨by omega⟩
  have HB5 : Aside0 (w.heap.size + 1 + 1 = b5) := ⟨by omega⟩
  have HB6 : Aside0 (w.heap.size + 1 + 1 + 1 = b6) := ⟨by omega⟩
  have HB7 : Aside0 (w.heap.size + 1 + 1 + 1 + 1 = b7) := ⟨by omega⟩
  have HK := Aside0.mk (fun W (hW : Below w.heap.size w W) => checked_any A c x W (Kd.C_below hC hW) hc)
  have z3 : w4.cell? ⟨b3, 0, none⟩ = some (.slice A x.length c) := cell_of_one hj.k3
  have HZ3 := Aside0.mk z3
  by_cases h3 : chkS x = 0
  case neg =>
    have HF : fCostP x k o = (0, chkS x) := by unfold fCostP; rw [if_neg h3]
    rw [HF]
    dsimp only
    generalize chkS x = e at *
    have d1 : (e == 0) = false := by simpa using h3
    clear hC hg HF hw4 hb3 hb4 hb5 hb6 hb7 s4 hj
    go_enter Tryz.func26, Tryz.ntmps26
    go_wp2_with (rw [HE4.out, HB7.out, HB6.out, HB5.out, HB4.out, HB3.out])
    refine (HK.out w4 HJ.out.low).mono ?_
    rintro e w5 ⟨rfl, hd⟩
    have hj5 := HJ.out.below hd.below
    have z6 := cell_of_one hj5.k6
    have f6 := blk_frozen hj5.k6 0
    obtain ⟨hj6, hf6, z7, f7⟩ := hj5.store (by have := HN.out; omega) 0 e
    have HJ6 := Aside0.mk hj6
    have HF6 := Aside0.mk hf6
    clear hd hj5 hj6 hf6
    go_wp2_with fail
    refine bodyPost_ret (results_cii rfl _ _ ⟨b6, 0, none⟩ .i64 0 rfl (cell_of_one HJ6.out.k6) Tryz.underlying3 ⟨b7, 0, none⟩ .i64 e rfl (cell_of_one HJ6.out.k7) Tryz.underlying24) rfl ?_
    exact ⟨rfl, HJ6.out.low⟩
  obtain ⟨⟨h1, hl⟩, hs⟩ := chkS_zero.1 h3
  have HF : fCostP x k o = costL x k o := by unfold fCostP; rw [if_pos h3]
  rw [HF]
  have HCS := Aside0.mk (fun q hq => costL_some (x := x) (k := k) (o := o) (q := q) hq)
  have HCN := Aside0.mk (costL_none (x := x) (k := k) (o := o))
  have HWR := Aside0.mk (fun q W (hq : q ∈ plansL) (hW : Below w.heap.size w W) => written_any A c x q W (Kd.C_below hC hW) hc hs h1 hl (plans_ok q hq))
  have HST := Aside0.mk (fun W (hW : Below w.heap.size w W) => plans_stops 4 (fun k => False) W (hg.below hW) (fun k hk => hk.elim))
  rw [h3] at HK
  clear hC hg HF hw4 hb3 hb4 hb5 hb6 hb7 s4 hj h3 hs h1 hl hc
  refine (callsIn_wide (n := 5)).1 ?_
  refine callsIn_of_wp_marks Tryz.func26 rfl trivial ?_ rfl
  simp only [Tryz.ntmps26, List.size_toArray, List.length_cons, List.length_nil, Nat.reduceAdd, Nat.reduceSub, Array.replicate_succ, Array.replicate_zero, List.push_toArray, List.append_toArray, List.nil_append, List.cons_append]
  refine wpIn_wide.2 ?_
  go_wp2_with (rw [HE4.out, HB7.out, HB6.out, HB5.out, HB4.out, HB3.out])
  refine (HK.out w4 HJ.out.low).mono ?_
  rintro e w5 ⟨rfl, hd⟩
  have HJ5 := Aside0.mk (HJ.out.below hd.below)
  have HN5 : Aside0 (w4.heap.size ≤ w5.heap.size) := ⟨hd.below.size⟩
  clear hd z3
  go_wp2_with fail
  refine (plans_any w5).mono ?_
  rintro e w6 ⟨rfl, hw⟩
  obtain rfl := hw.symm
  go_wp2_with fail
  refine (wpIn_wide (n := 5)).1 ?_
  refine wpIn_rangeFunc_ownH rfl (by omega) (gf := 78) (lb := #[]) rfl trivial (enters_of Tryz.func78 (by kernel_rfl) rfl)
    (HST.out w5 HJ5.out.low) (fun h k => h.trans k) ?hKb (Below.refl w5.heap.size w5) (fun _ => rfl)
    (fun pre W => CJ w b3 b4 b5 b6 b7 A x.length c k o 0 0 W ∧ ∀ q ∈ pre, costT x k o q.1 = false)
    (fun cd pre W => cd = .ret ∧ ∃ q : PlX, costT x k o q.1 = true ∧ CJ w b3 b4 b5 b6 b7 A x.length c k o ((planW x q.1).1.length : Int) 0 W) ?hI ?hIx ⟨HJ5.out, fun q hq => by cases hq⟩
    (fun (q : PlX) a' W => ∃ b9 : Nat, a' = { tmps := #[.slice A x.length c, .int .i64 k, .int .i64 o, .pointer (some ⟨b3, 0, none⟩), .pointer (some ⟨b4, 0, none⟩), .pointer (some ⟨b5, 0, none⟩), .pointer (some ⟨b6, 0, none⟩), .pointer (some ⟨b7, 0, none⟩), .int .i64 0, .pointer (some ⟨b9, 0, none⟩), undef, undef, .slice A x.length c, .int .i64 0, .int .i64 0, .bool false, undef, seqPl, .agg #[.int .i64 (q.1.1 : Int), .int .i64 (q.1.2 : Int)], undef, undef, undef, undef, undef, undef, undef, undef, undef, undef, undef, undef, undef, undef], defers := [] } ∧ W.heap[b9]? = some (planBox (q.1.1 : Int) (q.1.2 : Int))) ?hAx ?assign ?body ?done ?stop
  case hKb =>
    intro W l o o' hl ho hc _
    exact KeepC.putObj _ W l o o' ho hc
  case hI =>
    intro s X Y row hs hg hr
    exact ⟨hs.1.own (Nat.le_trans HN.out.2.2.2.2.2.2 HN5.out) hg (fun r e => hr r e), hs.2⟩
  case hIx =>
    rintro cd s X Y row ⟨rfl, q, hq, hs⟩ hg hr
    exact ⟨rfl, q, hq, hs.own (Nat.le_trans HN.out.2.2.2.2.2.2 HN5.out) hg (fun r e => hr r e)⟩
  case hAx =>
    rintro q a' s X Y row ⟨b9, e, hb⟩ hg hr
    exact ⟨b9, e, cells_grown hb hg hr⟩
  case assign =>
    intro l pre q W K hI hK
    gi_wp2
    exact hK _ _ ⟨by simp, fun i o _ hi _ => blk_alloc' hi _⟩ (KeepC.alloc _ W _) ⟨hI.1.alloc _, hI.2⟩ ⟨W.heap.size, rfl, World.alloc_heap_new W _⟩
  case body =>
    rintro l pre ⟨⟨q1, q2⟩, hmem⟩ a' W hl hr ⟨hJ, hpre⟩ ⟨b9, rfl, hb9⟩ hlen
    dsimp only at hb9 ⊢
    obtain ⟨xs, hxs⟩ : ∃ xs, xs = pre ++ [(⟨(q1, q2), hmem⟩ : PlX)] := ⟨_, rfl⟩
    have HGO : Aside0 (costT x k o (q1, q2) = false → ∀ q ∈ xs, costT x k o q.1 = false) := ⟨fun h q hq => by
      rw [hxs] at hq
      rcases List.mem_append.1 hq with hq | hq
      · exact hpre q hq
      · rw [List.mem_singleton.1 hq]; exact h⟩
    rw [← hxs]
    have HQX : Aside0 (∃ q : PlX, q.1 = (q1, q2)) := ⟨⟨(q1, q2), hmem⟩, rfl⟩
    have HCT : Aside0 (costT x k o (q1, q2) = ((decide ((q1 : Int) = k) && decide ((q2 : Int) = o)) && (planW x (q1, q2)).2)) := ⟨rfl⟩
    have HWD := Aside0.mk (fun W' (hW : Below w.heap.size w W') => HWR.out (q1, q2) W' hmem hW)
    have z90 : W.cell? ⟨b9, 0, none⟩ = some (.int .i64 (q1 : Int)) := by rw [cell_of_row W b9 0 _ _ _ hb9]; rfl
    have z91 : W.cell? ⟨b9, 1, none⟩ = some (.int .i64 (q2 : Int)) := by rw [cell_of_row W b9 1 _ _ _ hb9]; rfl
    have z3 : W.cell? ⟨b3, 0, none⟩ = some (.slice A x.length c) := cell_of_one hJ.k3
    have z4 : W.cell? ⟨b4, 0, none⟩ = some (.int .i64 k) := cell_of_one hJ.k4
    have z5 : W.cell? ⟨b5, 0, none⟩ = some (.int .i64 o) := cell_of_one hJ.k5
    have HJ1 := Aside0.mk hJ
    clear hxs hpre hmem hJ hb9 hlen
    obtain ⟨kI, hkI⟩ : ∃ z : Int, (q1 : Int) = z := ⟨_, rfl⟩
    obtain ⟨oI, hoI⟩ : ∃ z : Int, (q2 : Int) = z := ⟨_, rfl⟩
    dsimp only at HWD
    rw [hkI] at z90 HCT HWD ⊢
    rw [hoI] at z91 HCT HWD ⊢
    clear hkI hoI
    by_cases he : kI = k ∧ oI = o
    · obtain ⟨rfl, rfl⟩ := he
      have HW0 := Aside0.mk (HWD.out W HJ1.out.low)
      rw [decide_eq_true rfl, decide_eq_true rfl, Bool.and_true, Bool.true_and] at HCT
      obtain ⟨P, hP⟩ : ∃ P, P = planW x (q1, q2) := ⟨_, rfl⟩
      rw [← hP] at HCT HW0
      have HP := Aside0.mk hP
      clear HWD hP
      obtain ⟨L, y⟩ := P
      dsimp only at HCT HW0
      gi_wp2
      refine ⟨trivial, ?_⟩
      have hcall := callsIn_wide (n := 2).2 HW0.out
      refine CallsIn.mono (show CallsIn (Fence.wide.inRound l) 2 Tryz.prog _ _ W _ from hcall) ?_
      rintro e W' ⟨p, S, rfl, hW, hp, hS, hb⟩
      have hj2 := HJ1.out.below hb
      have z6 : W'.cell? ⟨b6, 0, none⟩ = some (.int .i64 0) := cell_of_one hj2.k6
      have f6 := blk_frozen hj2.k6 0
      have HS2 := Aside0.mk (hj2.store (by have := HN.out; omega) (L.length : Int) 0)
      have z7 := HS2.out.2.2.1
      have f7 := HS2.out.2.2.2
      have HLN := Aside0.mk (Len_any S p L W' hW)
      have HJ2 := Aside0.mk hj2
      have HB2 := Aside0.mk hb
      clear hW hp hS hb hj2 HW0 hcall
      cases y with
      | false =>
        gi_wp2
        refine ⟨(Fr.below HB2.out (fun _ => False)).keepsFrom (fun k hk => hk.elim), KeepC.of_fr (Fr.below HB2.out (fun _ => False)) (fun k hk => hk), ?_⟩
        exact ⟨HJ2.out, HGO.out HCT.out⟩
      | true =>
        gi_wp2
        refine ⟨trivial, ?_⟩
        have hcall := callsIn_wide (n := 2).2 HLN.out
        refine CallsIn.mono (show CallsIn (Fence.wide.inRound l) 2 Tryz.prog _ _ W' _ from hcall) ?_
        rintro e W'' ⟨rfl, hw⟩
        obtain rfl := hw.symm
        clear hcall
        gi_wp2
        have hf : Fr (fun k => k = b6 ∨ k = b7) W ((W'.setCell ⟨b6, 0, none⟩ (.int .i64 (L.length : Int))).setCell ⟨b7, 0, none⟩ (.int .i64 0)) := (Fr.below HB2.out _).trans HS2.out.2.1
        refine ⟨hf.keepsFrom (fun k hk ob hob => ?_), rfl, ?_⟩
        · rcases hk with rfl | rfl
          · rw [HJ1.out.k6] at hob; cases hob; rfl
          · rw [HJ1.out.k7] at hob; cases hob; rfl
        · obtain ⟨q, hq⟩ := HQX.out
          refine ⟨q, ?_, ?_⟩
          · rw [hq]; exact HCT.out
          · rw [hq, ← HP.out]; exact HS2.out.1
    · have hct : costT x k o (q1, q2) = false := by
        rw [HCT.out]
        by_cases h1 : kI = k
        · rw [decide_eq_false (fun h => he ⟨h1, h⟩)]; simp
        · rw [decide_eq_false h1]; simp
      have HALL := Aside0.mk (HGO.out hct)
      clear hct HCT HGO
      by_cases h1 : kI = k
      · have h2 : (oI == o) = false := by simp; exact fun h => he ⟨h1, h⟩
        subst h1
        clear he
        gi_wp2
        refine ⟨KeepsFrom.refl _ _, KeepC.of_fr (Fr.refl (fun _ => False) _) (fun k hk => hk), ?_⟩
        exact ⟨HJ1.out, HALL.out⟩
      · have h2 : (kI == k) = false := by simpa using h1
        clear he
        gi_wp2
        refine ⟨KeepsFrom.refl _ _, KeepC.of_fr (Fr.refl (fun _ => False) _) (fun k hk => hk), ?_⟩
        exact ⟨HJ1.out, HALL.out⟩
  case done =>
    rintro D ys W hD hys ⟨hJ, hall⟩ hK
    have he := HCN.out (fun q hq => by
      rw [← hys] at hq
      obtain ⟨q', hq', rfl⟩ := List.mem_map.1 hq
      exact hall q' hq')
    have HE := Aside0.mk he
    have z6 := cell_of_one hJ.k6
    have f6 := blk_frozen hJ.k6 0
    have HS2 := Aside0.mk (hJ.store (by have := HN.out; omega) 0 5)
    have z7 := HS2.out.2.2.1
    have f7 := HS2.out.2.2.2
    have HK := Aside0.mk hK
    have HD := Aside0.mk (show w4.heap.size ≤ D from Nat.le_trans HN5.out hD)
    clear hJ hK hys hall he hD
    (try simp only [Exit.inBlock, Exit.then])
    go_wp2_with fail
    have hDW := blk_fr HK.out HS2.out.2.1 (by have := HN.out; have := HD.out; omega)
    refine ⟨by simp, .inl ⟨_, _, rfl, run_takeDeferred hDW, ?_⟩⟩
    have hfD : Fr (fun k => k = D) _ (((W.setCell ⟨b6, 0, none⟩ (.int .i64 0)).setCell ⟨b7, 0, none⟩ (.int .i64 5)).putObj D (.deferred none)) := (Fr.refl _ _).grown (grownBy_putObj' _ D (.deferred none)) (fun k _ e => by cases e; rfl)
    have k6 := blk_fr HS2.out.1.k6 hfD (by have := HN.out; have := HD.out; omega)
    have k7 := blk_fr HS2.out.1.k7 hfD (by have := HN.out; have := HD.out; omega)
    refine ⟨_, results_cii rfl _ _ ⟨b6, 0, none⟩ .i64 0 rfl (cell_of_one k6) Tryz.underlying3 ⟨b7, 0, none⟩ .i64 5 rfl (cell_of_one k7) Tryz.underlying24, ?_, HS2.out.1.low.trans (hfD.to_below HS2.out.1.low.size (fun k hk => by subst hk; have := HN.out; have := HD.out; omega))⟩
    rw [HE.out]
  case stop =>
    rintro D cd pre W hD _ ⟨rfl, q, hq, hJ⟩ hK
    have HE := Aside0.mk (HCS.out q.1 q.2 hq)
    obtain ⟨nn, hn⟩ : ∃ nn : Int, nn = ((planW x q.1).1.length : Int) := ⟨_, rfl⟩
    rw [← hn] at hJ HE
    have HJ6 := Aside0.mk hJ
    have HK := Aside0.mk hK
    have HD := Aside0.mk (show w4.heap.size ≤ D from Nat.le_trans HN5.out hD)
    clear hJ hK hq hD hn
    refine (wpIn_wide (n := 5)).2 ?_
    (try simp only [Exit.inBlock, Exit.then])
    go_wp2_with fail
    have hDW := HK.out
    refine ⟨by simp, .inl ⟨_, _, rfl, run_takeDeferred hDW, ?_⟩⟩
    have hfD : Fr (fun k => k = D) W (W.putObj D (.deferred none)) := (Fr.refl _ _).grown (grownBy_putObj' _ D (.deferred none)) (fun k _ e => by cases e; rfl)
    have k6 := blk_fr HJ6.out.k6 hfD (by have := HN.out; have := HD.out; omega)
    have k7 := blk_fr HJ6.out.k7 hfD (by have := HN.out; have := HD.out; omega)
    refine ⟨_, results_cii rfl _ _ ⟨b6, 0, none⟩ .i64 nn rfl (cell_of_one k6) Tryz.underlying3 ⟨b7, 0, none⟩ .i64 0 rfl (cell_of_one k7) Tryz.underlying24, ?_, HJ6.out.low.trans (hfD.to_below HJ6.out.low.size (fun k hk => by subst hk; have := HN.out; have := HD.out; omega))⟩
    rw [HE.out]
structure IsBest (C : Nat × Nat → Int) (ok : Nat × Nat → Bool) (l : List (Nat × Nat)) (s : (Nat × Nat) × Int × Bool) : Prop where
  none : s.2.2 = false → ∀ q ∈ l, ok q = false
  some : s.2.2 = true → ok s.1 = true ∧ C s.1 = s.2.1 ∧ (∀ q ∈ l, ok q = true → s.2.1 ≤ C q) ∧ ∃ l1 l2, l = l1 ++ s.1 :: l2 ∧ ∀ q ∈ l1, ok q = true → s.2.1 < C q
theorem bFold_best (C : Nat × Nat → Int) (ok : Nat × Nat → Bool) : ∀ n, ∀ l : List (Nat × Nat), l.length = n → IsBest C ok l (bFold C ok l)
  | 0, l, h => by
    obtain rfl := List.length_eq_zero_iff.1 h
    exact ⟨fun _ q hq => (by cases hq), fun h => (by cases h)⟩
  | n + 1, l, h => by
    obtain ⟨m, q, rfl⟩ : ∃ m q, l = m ++ [q] := ⟨l.dropLast, l.getLast (by intro e; rw [e] at h; cases h), (List.dropLast_concat_getLast _).symm⟩
    have hb := bFold_best C ok n m (by simpa using h)
    rw [bFold_snoc]
    generalize bFold C ok m = s at *
    unfold bStep
    by_cases hk : ok q = true
    · by_cases hf : s.2.2 = true
      · obtain ⟨h1, h2, h3, l1, l2, hl, h4⟩ := hb.some hf
        by_cases hlt : C q < s.2.1
        · rw [if_pos (by rw [hk, hf, decide_eq_true hlt]; rfl)]
          refine ⟨fun h => (by cases h), fun _ => ⟨hk, rfl, fun q' hq' ho => ?_, m, [], by simp, fun q' hq' ho => ?_⟩⟩
          · show C q ≤ C q'
            rcases List.mem_append.1 hq' with h | h
            · have := h3 q' h ho; omega
            · rw [List.mem_singleton.1 h]; exact Int.le_refl _
          · show C q < C q'
            have := h3 q' hq' ho; omega
        · rw [if_neg (by rw [hk, hf, decide_eq_false hlt]; simp)]
          refine ⟨fun h => (by rw [hf] at h; cases h), fun _ => ⟨h1, h2, fun q' hq' ho => ?_, l1, l2 ++ [q], by rw [hl]; simp, h4⟩⟩
          rcases List.mem_append.1 hq' with h | h
          · exact h3 q' h ho
          · rw [List.mem_singleton.1 h]; omega
      · have hf : s.2.2 = false := by simpa using hf
        have hno := hb.none hf
        rw [if_pos (by rw [hk, hf]; rfl)]
        refine ⟨fun h => (by cases h), fun _ => ⟨hk, rfl, fun q' hq' ho => ?_, m, [], by simp, fun q' hq' ho => ?_⟩⟩
        · show C q ≤ C q'
          rcases List.mem_append.1 hq' with h | h
          · rw [hno q' h] at ho; cases ho
          · rw [List.mem_singleton.1 h]; exact Int.le_refl _
        · rw [hno q' hq'] at ho; cases ho
    · have hk : ok q = false := by simpa using hk
      rw [if_neg (by rw [hk]; simp)]
      refine ⟨fun h q' hq' => ?_, fun hf => ?_⟩
      · rcases List.mem_append.1 hq' with h' | h'
        · exact hb.none h q' h'
        · rw [List.mem_singleton.1 h']; exact hk
      · obtain ⟨h1, h2, h3, l1, l2, hl, h4⟩ := hb.some hf
        refine ⟨h1, h2, fun q' hq' ho => ?_, l1, l2 ++ [q], by rw [hl]; simp, h4⟩
        rcases List.mem_append.1 hq' with h | h
        · exact h3 q' h ho
        · rw [List.mem_singleton.1 h, hk] at ho; cases ho
theorem planL_best (x : List Int) : IsBest (fun q => ((planW x q).1.length : Int)) (fun q => (planW x q).2) plansL (planL x) := bFold_best _ _ _ plansL rfl
theorem planW_verb (x : List Int) : planW x (1, 0) = (numb 1 2 ++ sgnBits 17 x, true) := rfl
theorem planL_found (x : List Int) : (planL x).2.2 = true := by
  cases h : (planL x).2.2 with
  | true => rfl
  | false =>
    have := (planL_best x).none h (1, 0) (by decide)
    simp [planW_verb] at this
theorem planL_mem (x : List Int) : (planL x).1 ∈ plansL := by
  obtain ⟨_, _, _, l1, l2, hl, _⟩ := (planL_best x).some (planL_found x)
  rw [hl]; simp
def sigBits (x : List Int) : List Int := (planW x (planL x).1).1
theorem sigBits_len (x : List Int) : ((sigBits x).length : Int) = (planL x).2.1 := ((planL_best x).some (planL_found x)).2.1
theorem planW_verb_len (x : List Int) : (planW x (1, 0)).1.length = 17 * x.length + 2 := by
  rw [planW_verb, List.length_append, numb_length, sgnBits_length]; omega
theorem sigBits_le (x : List Int) : (sigBits x).length ≤ 17 * x.length + 2 := by
  have h := ((planL_best x).some (planL_found x)).2.2.1 (1, 0) (by decide) rfl
  have h1 := sigBits_len x
  have h2 := planW_verb_len x
  have h3 : (planL x).2.1 ≤ ((planW x (1, 0)).1.length : Int) := h
  rw [h2] at h3
  omega
theorem sigsBits_le (ls : List (List Int)) (h : ∀ l ∈ ls, l.length ≤ 128) : (ls.flatMap sigBits).length ≤ 2178 * ls.length := by
  induction ls with
  | nil => simp
  | cons l ls ih =>
    have h1 := sigBits_le l
    have h2 := h l List.mem_cons_self
    have h3 := ih (fun m hm => h m (List.mem_cons_of_mem _ hm))
    rw [List.flatMap_cons, List.length_append, List.length_cons]
    omega
theorem F_wrG {α : Type} {d : Kd α} {w W : World} {ok S : Nat → Prop} {p : Nat} {A : Option Addr} {n : Nat} {l : List α} (h : Kd.F d w ok A n l) (hok : ∀ k, ok k → k < w.heap.size → ¬ (k = p ∨ S k)) (hf : Fr (fun k => k = p ∨ S k) w W) : Kd.F d W ok A n l :=
  Kd.F_step h (fun k hk hlt => hf.block k hlt (hok k hk hlt))
theorem rd_L1_nat (ls : List (List Int)) (i : Nat) : rd_L1 ls (i : Int) = ls.getD i [] := by unfold rd_L1; rw [Int.toNat_natCast]
theorem wAppend_ok (L B : List Int) (hB : is01 B) (hl : L.length + B.length ≤ 1048576) : wAppend L (pk B) (B.length : Int) = (0, L ++ B) := by
  unfold wAppend
  rw [if_neg (by rw [pk_length]; omega), Int.toNat_natCast, ofB_pk_all hB]
  unfold wput putE putL
  rw [if_neg (by omega), if_neg (by omega)]
theorem putS_any (S ok : Nat → Prop) (p : Nat) (A : Option Addr) (c : Nat) (ls : List (List Int)) (L : List Int) (w : World) (hW : Wr w S p L) (hg : HO w) (h0 : ¬ (0 = p ∨ S 0)) (hF : Kd.F (Kd.slice 3 (Kd.int .i64)) w ok A ls.length ls) (hok : ∀ k, ok k → k < w.heap.size → ¬ (k = p ∨ S k)) (hc : ls.length ≤ c)
    (hs : ∀ l ∈ ls, chkS l = 0) (hn : ls.length ≤ 2) (hL : L.length ≤ 10000) :
    Calls Tryz.prog 70 #[.pointer (some ⟨p, 0, none⟩), .slice A ls.length c] w fun e w' => e = .returned (.tuple #[]) ∧ WrTo w S p (L ++ ls.flatMap sigBits) w' := by
  have HG := Aside0.mk hg
  have H0 := Aside0.mk h0
  have HF := Aside0.mk hF
  have HOK := Aside0.mk hok
  have HS : Aside0 (∀ i, i < ls.length → chkS (ls.getD i []) = 0) := ⟨fun i hi => hs _ (by rw [List.getD_eq_getElem?_getD, List.getElem?_eq_getElem hi]; exact List.getElem_mem hi)⟩
  have HW := Aside0.mk hW
  have HLE : Aside0 (∀ i, (L ++ (ls.take i).flatMap sigBits).length ≤ 20000) := ⟨fun i => by
    have h1 := sigsBits_le (ls.take i) (fun l hl => ((chkS_zero.1 (hs l (List.mem_of_mem_take hl))).1).2)
    have h2 : (ls.take i).length ≤ 2 := by rw [List.length_take]; omega
    rw [List.length_append]
    have : 2178 * (ls.take i).length ≤ 2178 * 2 := Nat.mul_le_mul_left _ h2
    omega⟩
  have HST : Aside0 (∀ i, i < ls.length → L ++ (ls.take (i + 1)).flatMap sigBits = (L ++ (ls.take i).flatMap sigBits) ++ sigBits (ls.getD i [])) := ⟨fun i hi => by
    have e : ls.take (i + 1) = ls.take i ++ [ls.getD i []] := by
      rw [List.take_succ_eq_append_getElem hi, List.getD_eq_getElem?_getD, List.getElem?_eq_getElem hi]; rfl
    rw [e, List.flatMap_append]; simp⟩
  have HEND : Aside0 (L ++ (ls.take ls.length).flatMap sigBits = L ++ ls.flatMap sigBits) := ⟨by rw [List.take_length]⟩
  clear hW hg h0 hF hok hs hL
  go_enter Tryz.func70, Tryz.ntmps70
  go_wp2_with fail
  go_loopw [12] (fun u wr => ∃ i : Nat, u = .int .i64 (i : Int) ∧ i ≤ ls.length ∧ Aside0 (WrTo w S p (L ++ (ls.take i).flatMap sigBits) wr)) (fun u _ => ls.length - (intOf u).toNat)
  case atStart => exact ⟨0, rfl, Nat.zero_le _, ⟨by rw [List.take_zero, List.flatMap_nil, List.append_nil]; exact HW.out.wrTo (Below.refl _ _)⟩⟩
  case round =>
    obtain ⟨i, rfl, hi, HJ⟩ := hrel
    by_cases hlt : i < ls.length
    · obtain ⟨S1, hW1, hs1, hf1⟩ := HJ.out
      have HC1 := Aside0.mk (Kd.F_now (F_wrG HF.out HOK.out hf1))
      obtain ⟨ad, A1, c1, e, hx, hc1, hC1⟩ := at_L1 HC1.out (i : Int) (by omega) (by omega)
      subst e
      rw [rd_L1_nat] at hx hc1 hC1
      rw [Int.toNat_natCast] at hx
      have hch := HS.out i hlt
      have hst := HST.out i hlt
      have hle := HLE.out i
      have hle2 := HLE.out (i + 1)
      rw [hst, List.length_append] at hle2
      obtain ⟨⟨h1, hl⟩, hsg⟩ := chkS_zero.1 hch
      have HGR := Aside0.mk (HG.out.fr hf1 H0.out)
      have hok' : okPlan (planL (ls.getD i [])).1 := plans_ok _ (planL_mem _)
      have hsb : (planW (ls.getD i []) (planL (ls.getD i [])).1).1 = sigBits (ls.getD i []) := rfl
      have HST1 := Aside0.mk hst
      have HPL := Aside0.mk (planned_any A1 c1 (ls.getD i []) wr HGR.out hC1 hc1 hsg h1 hl)
      have HWT := Aside0.mk (fun q W (hq : okPlan q) (hb : Below wr.heap.size wr W) => written_any A1 c1 (ls.getD i []) q W (Kd.C_below hC1 hb) hc1 hsg h1 hl hq)
      clear hC1 hch hst h1 hl hsg
      obtain ⟨L2, hL2⟩ : ∃ z, z = L ++ (ls.take (i + 1)).flatMap sigBits := ⟨_, rfl⟩
      rw [← hL2] at HST1
      have HL2 := Aside0.mk hL2
      clear hL2
      generalize L ++ (ls.take i).flatMap sigBits = L1 at *
      generalize sigBits (ls.getD i []) = B at *
      generalize ls.getD i [] = y at *
      generalize planL y = r at *
      obtain ⟨⟨k1, k2⟩, n, fo⟩ := r
      dsimp only at hok' hsb HPL
      have HOKP := Aside0.mk hok'
      have HSB := Aside0.mk hsb
      have HW1 := Aside0.mk hW1
      have HS1 := Aside0.mk hs1
      have HF1 := Aside0.mk hf1
      clear hok' hsb hW1 hs1 hf1
      go_wp2_with fail
      refine HPL.out.mono ?_
      rintro e w2 ⟨rfl, hb2⟩
      have hkn := World.alloc_heap_new w2 (planBox (k1 : Int) (k2 : Int))
      have z1 : (w2.alloc (planBox (k1 : Int) (k2 : Int))).cell? ⟨w2.heap.size, 0, none⟩ = some (.int .i64 (k1 : Int)) := by rw [cell_of_row _ _ 0 _ _ _ hkn]; rfl
      have z2 : (w2.alloc (planBox (k1 : Int) (k2 : Int))).cell? ⟨w2.heap.size, 1, none⟩ = some (.int .i64 (k2 : Int)) := by rw [cell_of_row _ _ 1 _ _ _ hkn]; rfl
      have HB3 : Aside0 (Below wr.heap.size wr (w2.alloc (planBox (k1 : Int) (k2 : Int)))) := ⟨below_alloc hb2 _⟩
      clear hb2 hkn hx
      go_wp2_with fail
      refine (HWT.out (k1, k2) _ HOKP.out HB3.out).mono ?_
      rintro e w4 ⟨p2, S2, rfl, hW4, hp2, hS2, hb4⟩
      rw [HSB.out] at hW4
      have HW4 := Aside0.mk hW4
      have HB4 := Aside0.mk (HB3.out.trans (hb4.mono HB3.out.size))
      clear hW4 hp2 hS2 hb4 z1 z2
      go_wp2_with fail
      refine (Bytes_any S2 p2 B w4 HW4.out (by omega)).mono ?_
      rintro e w5 ⟨v5, S5, rfl, hr5, hs5, hb5⟩
      obtain ⟨A5, c5, ev, hcap5, hC5⟩ := Kd.R_reads hr5
      subst ev
      have HA5 : Aside0 (∀ ad, A5 = some ad → 0 < (pk B).length → ¬ (ad.block = p ∨ S1 ad.block)) := ⟨by
        rintro ad rfl _ o
        have h5 := hs5 _ (hr5.1 _ rfl)
        have h4 := HB4.out.size
        have hp := HW1.out.p_lt
        rcases o with o | o
        · omega
        · have := HW1.out.lt _ o; omega⟩
      have HC5 := Aside0.mk hC5
      have HW5 := Aside0.mk (HW4.out.below hb5)
      have HB5 := Aside0.mk (HB4.out.trans (hb5.mono HB4.out.size))
      have H801 := Aside0.mk (show is8 (pk B) ∧ is01 B from ⟨pk_is8 HW4.out.bits, HW4.out.bits⟩)
      have hpl : (pk B).length ≤ 1000000000 := by rw [pk_length]; omega
      clear hr5 hs5 hb5 hcap5 hC5
      go_wp2_with fail
      refine (Len_any S2 p2 B w5 HW5.out).mono ?_
      rintro e w6 ⟨rfl, hw⟩
      obtain rfl := hw.symm
      have hap := Append_any S1 p L1 A5 c5 (pk B) (B.length : Int) w5 (HW1.out.below HB5.out) (by omega) HC5.out H801.out.1 hpl HA5.out
      rw [wAppend_ok L1 B H801.out.2 (by omega), ← HST1.out] at hap
      have HAP := Aside0.mk hap
      clear hap hpl
      go_wp2_with fail
      refine HAP.out.mono ?_
      rintro e w7 ⟨rfl, h7⟩
      have H7 := Aside0.mk (WrTo.glue HS1.out (HF1.out.trans (Fr.below HB5.out _)) h7)
      clear h7
      go_wp2_with fail
      go_roundw
      case rel => exact ⟨i + 1, by go_num, by omega, ⟨by rw [← HL2.out]; exact H7.out⟩⟩
      case measure => simp [intOf]; omega
    · obtain rfl : i = ls.length := by omega
      rw [HEND.out] at HJ
      go_wp2_with fail
      refine bodyPost_end (results_none rfl _ _ _) rfl ?_
      exact ⟨rfl, HJ.out⟩
abbrev KdL : Kd (List Int) := Kd.slice 3 (Kd.int .i64)
theorem two_C {W : World} {g : Nat} {A1 A2 : Option Addr} {c1 c2 : Nat} {x y : List Int} {t : TypeId} {fr : Nat × Nat} (hg : W.heap[g]? = some (.cells #[.slice A1 x.length c1, .slice A2 y.length c2] t fr))
    (h1 : Kd.C (Kd.int .i64) W A1 x.length x) (hc1 : x.length ≤ c1) (h2 : Kd.C (Kd.int .i64) W A2 y.length y) (hc2 : y.length ≤ c2) : Kd.C KdL W (some ⟨g, 0, none⟩) 2 [x, y] := by
  refine ⟨rfl, by decide, fun _ => ⟨_, rfl, fun j p hj => ?_⟩⟩
  have z0 : W.cell? ⟨g, 0, none⟩ = some (.slice A1 x.length c1) := by rw [cell_of_row W g 0 _ _ _ hg]; rfl
  have z1 : W.cell? ⟨g, 1, none⟩ = some (.slice A2 y.length c2) := by rw [cell_of_row W g 1 _ _ _ hg]; rfl
  have hj2 : j < 2 := (List.getElem?_eq_some_iff.1 hj).1
  rcases (show j = 0 ∨ j = 1 by omega) with rfl | rfl
  · obtain rfl := Option.some.inj hj
    refine ⟨[.slice A1 x.length c1], rfl, ⟨A1, c1, rfl, hc1, h1⟩, fun i u hu => ?_⟩
    have hi : i < 1 := (List.getElem?_eq_some_iff.1 hu).1
    obtain rfl : i = 0 := by omega
    obtain rfl := Option.some.inj hu
    exact z0
  · obtain rfl := Option.some.inj hj
    refine ⟨[.slice A2 y.length c2], rfl, ⟨A2, c2, rfl, hc2, h2⟩, fun i u hu => ?_⟩
    have hi : i < 1 := (List.getElem?_eq_some_iff.1 hu).1
    obtain rfl : i = 0 := by omega
    obtain rfl := Option.some.inj hu
    exact z1
theorem two_F {W : World} {ok : Nat → Prop} {g : Nat} {A1 A2 : Option Addr} {c1 c2 : Nat} {x y : List Int} {t : TypeId} {fr : Nat × Nat} (hg : W.heap[g]? = some (.cells #[.slice A1 x.length c1, .slice A2 y.length c2] t fr)) (hk : ok g)
    (h1 : Kd.F (Kd.int .i64) W ok A1 x.length x) (hc1 : x.length ≤ c1) (h2 : Kd.F (Kd.int .i64) W ok A2 y.length y) (hc2 : y.length ≤ c2) : Kd.F KdL W ok (some ⟨g, 0, none⟩) 2 [x, y] :=
  fun W' hW => two_C ((hW g hk (lt_of_block hg)).trans hg) (h1 W' hW) hc1 (h2 W' hW) hc2
theorem F_row {W : World} {ok : Nat → Prop} {A : Option Addr} {n : Nat} {ls : List (List Int)} (h : Kd.F KdL W ok A n ls) (i : Nat) (hi : i < n) :
    ∃ ad A1 c1, A = some ad ∧ W.cell? (ad.add i) = some (.slice A1 (ls.getD i []).length c1) ∧ (ls.getD i []).length ≤ c1 ∧ Kd.F (Kd.int .i64) W ok A1 (ls.getD i []).length (ls.getD i []) := by
  obtain ⟨ad, c, rfl, hcl, hK, hcc, _⟩ := Kd.F_get h ([] : List Int) (i : Int) (by omega) (by omega)
  rw [Int.toNat_natCast] at hK hcc
  obtain ⟨A1, c1, rfl, hc1, hC1⟩ := Foot.now hK
  refine ⟨ad, A1, c1, rfl, ?_, hc1, Foot.imp hK (fun W' h => ?_)⟩
  · have hq := hcc 0 _ rfl
    rwa [show KdL.sz = 1 from rfl, Nat.mul_one, Nat.add_zero] at hq
  · obtain ⟨A2, c2, e, _, hC2⟩ := h
    cases e
    exact hC2
def midsL (l r : List Int) : List Int := (List.range l.length).map fun i => midM (l.getD i 0) (r.getD i 0)
def difsL (l r : List Int) : List Int := (List.range l.length).map fun i => l.getD i 0 - r.getD i 0
def TwoPost (w : World) (x y : List Int) (e : Ending) (w' : World) : Prop := ∃ A c, e = .returned (.slice A 2 c) ∧ Kd.F KdL w' (fun k => w.heap.size ≤ k) A 2 [x, y] ∧ 2 ≤ c ∧ Below w.heap.size w w'
theorem middles_any (A0 : Option Addr) (c0 : Nat) (l : List Int) (A1 : Option Addr) (c1 : Nat) (r : List Int) (m : Nat) (w : World) (h0 : Kd.C (Kd.int .i64) w A0 m l) (hc0 : m ≤ c0) (h1 : Kd.C (Kd.int .i64) w A1 m r) (hc1 : m ≤ c1)
    (hl : l.length = m) (hr : r.length = m) (hm : 1 ≤ m ∧ m ≤ 128) (hbl : ∀ v ∈ l, -32768 ≤ v ∧ v ≤ 32767) (hbr : ∀ v ∈ r, -32768 ≤ v ∧ v ≤ 32767) :
    Calls Tryz.prog 72 #[.slice A0 m c0, .slice A1 m c1] w (TwoPost w (midsL l r) (difsL l r)) := by
  have HL := Aside0.mk hl
  have HR := Aside0.mk hr
  have H0 := Aside0.mk (Kd.C_F (Kd.heap_int .i64) h0)
  have H1 := Aside0.mk (Kd.C_F (Kd.heap_int .i64) h1)
  have HBL := Aside0.mk hbl
  have HBR := Aside0.mk hbr
  clear h0 h1 hl hr hbl hbr
  have hmk := print_make_of (P := Tryz.prog) 22 3 (.int .i64 0) 8 Tryz.underlying22 Lin.hinfo3 rfl (by decide) m (by omega)
  have HMK := Aside0.mk hmk
  clear hmk
  go_enter Tryz.func72, Tryz.ntmps72
  obtain ⟨wm, rfl⟩ : ∃ x, x = w := ⟨_, rfl⟩
  go_upto_region 1 with fail
  have hmk := HMK.out
  go_cut [5, 6] (fun s5 s6 wx => ∃ b5 b6, s5 = .slice (some ⟨b5, 0, none⟩) m m ∧ s6 = .slice (some ⟨b6, 0, none⟩) m m ∧ b5 ≠ b6 ∧ wm.heap.size ≤ b5 ∧ wm.heap.size ≤ b6 ∧
      Aside0 (Kd.R (Kd.int .i64) 3 wx wm.heap.size (fun k => k = b5) (.slice (some ⟨b5, 0, none⟩) m m) (List.replicate m 0)) ∧ Aside0 (Kd.R (Kd.int .i64) 3 wx wm.heap.size (fun k => k = b6) (.slice (some ⟨b6, 0, none⟩) m m) (List.replicate m 0)) ∧ Aside0 (Below wm.heap.size wm wx))
  case first =>
    go_region
    all_goals (go_wp2_with fail; go_meet)
    · refine ⟨_, _, rfl, rfl, by simp, by simp, by simp, ⟨Kd.R_alloc (Lin.made_R wm _ m (by simp) (by omega)) _⟩, ⟨Lin.made_R' wm _ m (by omega) (by omega)⟩, ⟨by (repeat (first | with_reducible exact Below.refl _ _ | (refine Aside0.out (p := Below _ _ _) ?_; assumption) | refine below_drew ?_ | refine below_alloc ?_ _ | (refine below_step ?_ (Aside0.out (p := Below _ _ _) (by assumption)))))⟩⟩
    · refine ⟨_, _, rfl, rfl, by simp, by simp, by simp, ⟨Lin.made_R' wm _ m (by omega) (by omega)⟩, ⟨Kd.R_alloc (Lin.made_R wm _ m (by simp) (by omega)) _⟩, ⟨by (repeat (first | with_reducible exact Below.refl _ _ | (refine Aside0.out (p := Below _ _ _) ?_; assumption) | refine below_drew ?_ | refine below_alloc ?_ _ | (refine below_step ?_ (Aside0.out (p := Below _ _ _) (by assumption)))))⟩⟩
  case rest =>
    obtain ⟨b5, b6, rfl, rfl, hbb, hb5, hb6, HA, HB, HW⟩ := hcut
    clear hmk
    go_wp2_with fail
    go_loopw [7, 16] (fun _ i wr => ∃ p : Nat, p ≤ m ∧ i = .int .i64 p ∧
        Aside0 (Kd.R (Kd.int .i64) 3 wr wm.heap.size (fun k => k = b5) (.slice (some ⟨b5, 0, none⟩) m m) (Lin.fillTo (fun i => midM (l.getD i 0) (r.getD i 0)) m p)) ∧ Aside0 (Kd.R (Kd.int .i64) 3 wr wm.heap.size (fun k => k = b6) (.slice (some ⟨b6, 0, none⟩) m m) (Lin.fillTo (fun i => l.getD i 0 - r.getD i 0) m p)) ∧
        Aside0 (Below wm.heap.size wm wr)) (fun _ i _ => m - (intOf i).toNat)
    case atStart => exact ⟨0, Nat.zero_le _, rfl, ⟨by rw [Lin.fillTo_zero]; exact HA.out⟩, ⟨by rw [Lin.fillTo_zero]; exact HB.out⟩, HW⟩
    case round =>
      obtain ⟨p, hp, rfl, HAr, HBr, HWr⟩ := hrel
      by_cases hlt : p < m
      · have hla := Lin.fillTo_length (fun i => midM (l.getD i 0) (r.getD i 0)) m p hp
        have hlb := Lin.fillTo_length (fun i => l.getD i 0 - r.getD i 0) m p hp
        have HSA : Aside0 ((Lin.fillTo (fun i => midM (l.getD i 0) (r.getD i 0)) m p).set p (midM (l.getD p 0) (r.getD p 0)) = Lin.fillTo (fun i => midM (l.getD i 0) (r.getD i 0)) m (p + 1)) := ⟨Lin.fillTo_set _ _ _ hlt⟩
        have HSB : Aside0 ((Lin.fillTo (fun i => l.getD i 0 - r.getD i 0) m p).set p (l.getD p 0 - r.getD p 0) = Lin.fillTo (fun i => l.getD i 0 - r.getD i 0) m (p + 1)) := ⟨Lin.fillTo_set _ _ _ hlt⟩
        have HX0 : Aside0 (∀ w', Below wm.heap.size wr w' → ∃ ad, A0 = some ad ∧ w'.cell? (ad.add p) = some (.int .i64 (l.getD p 0))) := ⟨fun w' hb => by
          have hF := Kd.F_now (Kd.F_step H0.out (W1 := w') (fun k hk hlt => (hb.block k hlt).trans (HWr.out.block k hlt)))
          exact at64 hF p hlt⟩
        have HX1 : Aside0 (∀ w', Below wm.heap.size wr w' → ∃ ad, A1 = some ad ∧ w'.cell? (ad.add p) = some (.int .i64 (r.getD p 0))) := ⟨fun w' hb => by
          have hF := Kd.F_now (Kd.F_step H1.out (W1 := w') (fun k hk hlt => (hb.block k hlt).trans (HWr.out.block k hlt)))
          exact at64 hF p hlt⟩
        obtain ⟨ad0, e0, _⟩ := HX0.out wr (Below.refl _ _)
        obtain ⟨ad1, e1, _⟩ := HX1.out wr (Below.refl _ _)
        subst e0
        subst e1
        have hx := HBL.out (l.getD p 0) (by rw [List.getD_eq_getElem?_getD, List.getElem?_eq_getElem (by rw [HL.out]; exact hlt)]; exact List.getElem_mem _)
        have hy := HBR.out (r.getD p 0) (by rw [List.getD_eq_getElem?_getD, List.getElem?_eq_getElem (by rw [HR.out]; exact hlt)]; exact List.getElem_mem _)
        obtain ⟨fa, hfa⟩ : ∃ z, z = Lin.fillTo (fun i => midM (l.getD i 0) (r.getD i 0)) m p := ⟨_, rfl⟩
        obtain ⟨fb, hfb⟩ : ∃ z, z = Lin.fillTo (fun i => l.getD i 0 - r.getD i 0) m p := ⟨_, rfl⟩
        rw [← hfa] at hla HSA HAr
        rw [← hfb] at hlb HSB HBr
        obtain ⟨x, hx0⟩ : ∃ z, z = l.getD p 0 := ⟨_, rfl⟩
        obtain ⟨y, hy0⟩ : ∃ z, z = r.getD p 0 := ⟨_, rfl⟩
        rw [← hx0] at hx HSA HSB HX0
        rw [← hy0] at hy HSA HSB HX1
        have HZ0 : Aside0 (∀ w', Below wm.heap.size wr w' → w'.cell? (ad0.add p) = some (.int .i64 x)) := ⟨fun w' h => by obtain ⟨_, e, h⟩ := HX0.out w' h; cases e; exact h⟩
        have HZ1 : Aside0 (∀ w', Below wm.heap.size wr w' → w'.cell? (ad1.add p) = some (.int .i64 y)) := ⟨fun w' h => by obtain ⟨_, e, h⟩ := HX1.out w' h; cases e; exact h⟩
        have HLA := Aside0.mk hla
        have HLB := Aside0.mk hlb
        have HMID := Aside0.mk (fun W => Mid_any x y W (by omega) (by omega))
        have i1 : (p : Int) < (m : Int) := by omega
        clear hla hlb hfa hfb hx0 hy0 HX0 HX1 hx hy
        go_wp2
        refine wp_region_held_drew (S := fun w' => Below wm.heap.size wr w') (by kernel_rfl) (below_drew (Below.refl _ _)) (fun hHeld => ?_)
        refine wpAnyH_take (i := 0) (v := ?_) rfl (by kernel_rfl) (by kernel_rfl) (by kernel_rfl) (fun _ _ _ h => h) (Or.inl ⟨by rfl, ?_⟩) (by assumption) ?_
        rotate_left
        · (intro w hSw; (try dsimp only at hSw); go_simp; (try with_reducible rfl))
        (try simp only [Act.put, List.getElem_toArray, List.getElem_cons_zero, List.getElem_cons_succ, List.setIfInBounds_toArray, List.set_cons_zero, List.set_cons_succ])
        refine wpAnyH_take (i := 1) (v := ?_) rfl (by kernel_rfl) (by kernel_rfl) (by kernel_rfl) (fun _ _ _ h => h) (Or.inl ⟨by rfl, ?_⟩) (by assumption) ?_
        rotate_left
        · (intro w hSw; (try dsimp only at hSw); go_simp; (try with_reducible rfl))
        (try simp only [Act.put, List.getElem_toArray, List.getElem_cons_zero, List.getElem_cons_succ, List.setIfInBounds_toArray, List.set_cons_zero, List.set_cons_succ])
        refine wpAnyH_take (i := 2) (v := ?_) rfl (by kernel_rfl) (by kernel_rfl) (by kernel_rfl) (fun _ _ _ h => h) (Or.inl ⟨by rfl, ?_⟩) (by assumption) ?_
        rotate_left
        · (intro w hSw; (try dsimp only at hSw); go_simp; (try with_reducible rfl))
        (try simp only [Act.put, List.getElem_toArray, List.getElem_cons_zero, List.getElem_cons_succ, List.setIfInBounds_toArray, List.set_cons_zero, List.set_cons_succ])
        refine wpAnyH_take (i := 3) (v := ?_) rfl (by kernel_rfl) (by kernel_rfl) (by kernel_rfl) (fun _ _ _ h => h) (Or.inl ⟨by rfl, ?_⟩) (by assumption) ?_
        rotate_left
        · (intro w hSw; (try dsimp only at hSw); go_simp; (try with_reducible rfl))
        (try simp only [Act.put, List.getElem_toArray, List.getElem_cons_zero, List.getElem_cons_succ, List.setIfInBounds_toArray, List.set_cons_zero, List.set_cons_succ])
        refine wpAnyH_take (i := 4) (v := ?_) rfl (by kernel_rfl) (by kernel_rfl) (by kernel_rfl) (fun _ _ _ h => h) (Or.inl ⟨by rfl, ?_⟩) (by assumption) ?_
        rotate_left
        · (intro w hSw; (try dsimp only at hSw); go_simp; (try with_reducible rfl))
        (try simp only [Act.put, List.getElem_toArray, List.getElem_cons_zero, List.getElem_cons_succ, List.setIfInBounds_toArray, List.set_cons_zero, List.set_cons_succ])
        refine wpAnyH_take (i := 5) (v := ?_) rfl (by kernel_rfl) (by kernel_rfl) (by kernel_rfl) (fun _ _ _ h => h) (Or.inl ⟨by rfl, ?_⟩) (by assumption) ?_
        rotate_left
        · (intro w hSw; (try dsimp only at hSw); go_simp; (try with_reducible rfl))
        (try simp only [Act.put, List.getElem_toArray, List.getElem_cons_zero, List.getElem_cons_succ, List.setIfInBounds_toArray, List.set_cons_zero, List.set_cons_succ])
        refine wpAnyH_take (i := 6) (v := ?_) rfl (by kernel_rfl) (by kernel_rfl) (by kernel_rfl) (fun _ _ _ h => h) (Or.inl ⟨by rfl, ?_⟩) (by assumption) ?_
        rotate_left
        · (intro w hSw; (try dsimp only at hSw); go_simp; (try with_reducible rfl))
        (try simp only [Act.put, List.getElem_toArray, List.getElem_cons_zero, List.getElem_cons_succ, List.setIfInBounds_toArray, List.set_cons_zero, List.set_cons_succ])
        refine wpAnyH_take (i := 7) (v := ?_) rfl (by kernel_rfl) (by kernel_rfl) (by kernel_rfl) (fun _ _ _ h => h) (Or.inl ⟨by rfl, ?_⟩) (by assumption) ?_
        rotate_left
        · (intro w hSw; (try dsimp only at hSw); have z := HZ0.out w hSw; go_simp; (try with_reducible rfl))
        (try simp only [Act.put, List.getElem_toArray, List.getElem_cons_zero, List.getElem_cons_succ, List.setIfInBounds_toArray, List.set_cons_zero, List.set_cons_succ])
        refine wpAnyH_take (i := 8) (v := ?_) rfl (by kernel_rfl) (by kernel_rfl) (by kernel_rfl) (fun _ _ _ h => h) (Or.inl ⟨by rfl, ?_⟩) (by assumption) ?_
        rotate_left
        · (intro w hSw; (try dsimp only at hSw); go_simp; (try with_reducible rfl))
        (try simp only [Act.put, List.getElem_toArray, List.getElem_cons_zero, List.getElem_cons_succ, List.setIfInBounds_toArray, List.set_cons_zero, List.set_cons_succ])
        refine wpAnyH_take (i := 9) (v := ?_) rfl (by kernel_rfl) (by kernel_rfl) (by kernel_rfl) (fun _ _ _ h => h) (Or.inl ⟨by rfl, ?_⟩) (by assumption) ?_
        rotate_left
        · (intro w hSw; (try dsimp only at hSw); go_simp; (try with_reducible rfl))
        (try simp only [Act.put, List.getElem_toArray, List.getElem_cons_zero, List.getElem_cons_succ, List.setIfInBounds_toArray, List.set_cons_zero, List.set_cons_succ])
        refine wpAnyH_take (i := 10) (v := ?_) rfl (by kernel_rfl) (by kernel_rfl) (by kernel_rfl) (fun _ _ _ h => h) (Or.inl ⟨by rfl, ?_⟩) (by assumption) ?_
        rotate_left
        · (intro w hSw; (try dsimp only at hSw); go_simp; (try with_reducible rfl))
        (try simp only [Act.put, List.getElem_toArray, List.getElem_cons_zero, List.getElem_cons_succ, List.setIfInBounds_toArray, List.set_cons_zero, List.set_cons_succ])
        refine wpAnyH_take (i := 11) (v := ?_) rfl (by kernel_rfl) (by kernel_rfl) (by kernel_rfl) (fun _ _ _ h => h) (Or.inl ⟨by rfl, ?_⟩) (by assumption) ?_
        rotate_left
        · (intro w hSw; (try dsimp only at hSw); have z := HZ1.out w hSw; go_simp; (try with_reducible rfl))
        (try simp only [Act.put, List.getElem_toArray, List.getElem_cons_zero, List.getElem_cons_succ, List.setIfInBounds_toArray, List.set_cons_zero, List.set_cons_succ])
        refine wpAnyH_ready (rs := [12]) (by kernel_rfl) (by simp) ?_
        refine AllReadyH.cons rfl (fun K hK => ?_) AllReadyH.nil
        go_simp
        refine (HMID.out wr.drew).mono ?_
        rintro e w1 ⟨rfl, hb1⟩
        have hbw : Below wr.heap.size wr w1 := (below_drew (Below.refl _ _)).trans hb1
        have hA1 := Kd.R_below HAr.out hbw
        have hB1 := Kd.R_below HBr.out hbw
        have ca := Kd.R_cell (W := w1) (0 : Int) (by rw [HLA.out]; exact hA1) (p : Int) (by omega) (by have := HLA.out; omega)
        rw [Int.toNat_natCast] at ca
        have ga := ca.1
        have fa' := ca.2
        have hA2 := (Kd.R_put (W := w1) (by rw [HLA.out]; exact hA1) (p : Int) (midM x y)).1
        rw [Int.toNat_natCast, HSA.out, HLA.out] at hA2
        have hB2 := Kd.R_far (p := ⟨b5, p, none⟩) hB1 (fun k hk => by show k ≠ b5; omega) (.int .i64 (midM x y))
        have cb := Kd.R_cell (W := w1.setCell ⟨b5, p, none⟩ (.int .i64 (midM x y))) (0 : Int) (by rw [HLB.out]; exact hB2) (p : Int) (by omega) (by have := HLB.out; omega)
        rw [Int.toNat_natCast] at cb
        have gb := cb.1
        have fb' := cb.2
        have hB3 := (Kd.R_put (W := w1.setCell ⟨b5, p, none⟩ (.int .i64 (midM x y))) (by rw [HLB.out]; exact hB2) (p : Int) (x - y)).1
        rw [Int.toNat_natCast, HSB.out, HLB.out] at hB3
        have hA3 := Kd.R_far (p := ⟨b6, p, none⟩) hA2 (fun k hk => by show k ≠ b6; omega) (.int .i64 (x - y))
        have HA3 := Aside0.mk hA3
        have HB3 := Aside0.mk hB3
        have hb1' : Below wm.heap.size wr w1 := hbw.mono HWr.out.size
        have hb2' := hb1'.setCell (p := ⟨b5, p, none⟩) hb5 (.int .i64 (midM x y))
        have hb3' := hb2'.setCell (p := ⟨b6, p, none⟩) hb6 (.int .i64 (x - y))
        have HBW1 := Aside0.mk hb1'
        have HBW2 := Aside0.mk hb2'
        have HBW3 := Aside0.mk hb3'
        clear hb1 hbw hA1 hB1 ca hA2 hB2 cb hB3 hA3 hb1' hb2' hb3'
        (try go_simp)
        refine hK.out _ _ ?_ (fun hHeld => ?_)
        · exact HBW1.out
        clear hK K
        (try simp only [Act.put, List.getElem_toArray, List.getElem_cons_zero, List.getElem_cons_succ, List.setIfInBounds_toArray, List.set_cons_zero, List.set_cons_succ])
        refine wpAnyH_take (i := 13) (v := ?_) rfl (by kernel_rfl) (by kernel_rfl) (by kernel_rfl) (fun _ _ _ h => h) (Or.inl ⟨by rfl, ?_⟩) (by assumption) ?_
        rotate_left
        · (intro w hSw; (try dsimp only at hSw); go_simp; (try with_reducible rfl))
        (try simp only [Act.put, List.getElem_toArray, List.getElem_cons_zero, List.getElem_cons_succ, List.setIfInBounds_toArray, List.set_cons_zero, List.set_cons_succ])
        refine wpAnyH_take (i := 14) (v := ?_) rfl (by kernel_rfl) (by kernel_rfl) (by kernel_rfl) (fun _ _ _ h => h) (Or.inl ⟨by rfl, ?_⟩) (by assumption) ?_
        rotate_left
        · (intro w hSw; (try dsimp only at hSw); go_simp; (try with_reducible rfl))
        (try simp only [Act.put, List.getElem_toArray, List.getElem_cons_zero, List.getElem_cons_succ, List.setIfInBounds_toArray, List.set_cons_zero, List.set_cons_succ])
        refine wpAnyH_take (i := 15) (v := ?_) rfl (by kernel_rfl) (by kernel_rfl) (by kernel_rfl) (fun _ _ _ h => h) (Or.inl ⟨by rfl, ?_⟩) (by assumption) ?_
        rotate_left
        · (intro w hSw; (try dsimp only at hSw); go_simp; (try with_reducible rfl))
        (try simp only [Act.put, List.getElem_toArray, List.getElem_cons_zero, List.getElem_cons_succ, List.setIfInBounds_toArray, List.set_cons_zero, List.set_cons_succ])
        refine wpAnyH_take (i := 16) (v := ?_) rfl (by kernel_rfl) (by kernel_rfl) (by kernel_rfl) (fun _ _ _ h => h) (Or.inl ⟨by rfl, ?_⟩) (by assumption) ?_
        rotate_left
        · (intro w hSw; (try dsimp only at hSw); go_simp; (try with_reducible rfl))
        (try simp only [Act.put, List.getElem_toArray, List.getElem_cons_zero, List.getElem_cons_succ, List.setIfInBounds_toArray, List.set_cons_zero, List.set_cons_succ])
        refine wpAnyH_take (i := 17) (v := ?_) rfl (by kernel_rfl) (by kernel_rfl) (by kernel_rfl) (fun _ _ _ h => h) (Or.inl ⟨by rfl, ?_⟩) (by assumption) ?_
        rotate_left
        · (intro w hSw; (try dsimp only at hSw); go_simp; (try with_reducible rfl))
        (try simp only [Act.put, List.getElem_toArray, List.getElem_cons_zero, List.getElem_cons_succ, List.setIfInBounds_toArray, List.set_cons_zero, List.set_cons_succ])
        refine wpAnyH_ready (rs := [18]) (by kernel_rfl) (by simp) ?_
        refine AllReadyH.cons rfl (fun K hK => ?_) AllReadyH.nil
        go_simp
        (try go_simp)
        refine hK.out _ _ ?_ (fun hHeld => ?_)
        · exact HBW2.out
        clear hK K
        (try simp only [Act.put, List.getElem_toArray, List.getElem_cons_zero, List.getElem_cons_succ, List.setIfInBounds_toArray, List.set_cons_zero, List.set_cons_succ])
        refine wpAnyH_take (i := 19) (v := ?_) rfl (by kernel_rfl) (by kernel_rfl) (by kernel_rfl) (fun _ _ _ h => h) (Or.inl ⟨by rfl, ?_⟩) (by assumption) ?_
        rotate_left
        · (intro w hSw; (try dsimp only at hSw); go_simp; (try with_reducible rfl))
        (try simp only [Act.put, List.getElem_toArray, List.getElem_cons_zero, List.getElem_cons_succ, List.setIfInBounds_toArray, List.set_cons_zero, List.set_cons_succ])
        refine wpAnyH_ready (rs := [20]) (by kernel_rfl) (by simp) ?_
        refine AllReadyH.cons rfl (fun K hK => ?_) AllReadyH.nil
        go_simp
        (try go_simp)
        refine hK.out _ _ ?_ (fun hHeld => ?_)
        · exact HBW3.out
        clear hK K
        (try simp only [Act.put, List.getElem_toArray, List.getElem_cons_zero, List.getElem_cons_succ, List.setIfInBounds_toArray, List.set_cons_zero, List.set_cons_succ])
        refine wpAnyH_done (by kernel_rfl) ?_ _
        (try simp only [Exit.then])
        go_wp2_with fail
        go_roundw
        case rel => exact ⟨p + 1, by omega, by go_num, HA3, HB3, ⟨HWr.out.trans HBW3.out⟩⟩
        case measure => simp [intOf]; omega
      · obtain rfl : p = m := by omega
        have hA := HAr.out
        have hB := HBr.out
        rw [Lin.fillTo_all, ← HL.out] at hA
        rw [Lin.fillTo_all, ← HL.out] at hB
        have HM : Aside0 ((midsL l r).length = p ∧ (difsL l r).length = p) := ⟨by unfold midsL difsL; simp [HL.out]⟩
        have hA : Kd.R (Kd.int .i64) 3 wr wm.heap.size (fun k => k = b5) (.slice (some ⟨b5, 0, none⟩) p p) (midsL l r) := by rw [HL.out] at hA; unfold midsL; rw [HL.out]; exact hA
        have hB : Kd.R (Kd.int .i64) 3 wr wm.heap.size (fun k => k = b6) (.slice (some ⟨b6, 0, none⟩) p p) (difsL l r) := by rw [HL.out] at hB; unfold difsL; rw [HL.out]; exact hB
        have HA9 := Aside0.mk hA
        have HB9 := Aside0.mk hB
        clear hA hB
        go_wp2_with fail
        go_ret
        have hbw : Below wr.heap.size wr (wr.alloc (.cells #[.slice (some ⟨b5, 0, none⟩) p p, .slice (some ⟨b6, 0, none⟩) p p] 22)) := below_alloc (Below.refl _ _) _
        have hsz := HWr.out.size
        have hFA : Kd.F (Kd.int .i64) wr (fun k => wm.heap.size ≤ k) (some ⟨b5, 0, none⟩) p (midsL l r) := Kd.R_F (Kd.R_mono HA9.out (fun k hk => by omega))
        have hFB : Kd.F (Kd.int .i64) wr (fun k => wm.heap.size ≤ k) (some ⟨b6, 0, none⟩) p (difsL l r) := Kd.R_F (Kd.R_mono HB9.out (fun k hk => by omega))
        have h2 := two_F (x := midsL l r) (y := difsL l r) (ok := fun k => wm.heap.size ≤ k) (c1 := p) (c2 := p) (by rw [HM.out.1, HM.out.2]; exact World.alloc_heap_new wr _) hsz (by rw [HM.out.1]; exact Kd.F_below hFA hbw) (by rw [HM.out.1]; omega) (by rw [HM.out.2]; exact Kd.F_below hFB hbw) (by rw [HM.out.2]; omega)
        exact ⟨_, _, rfl, h2, Nat.le_refl _, HWr.out.trans (hbw.mono hsz)⟩
def s16 (v : Int) : Bool := decide (-32768 ≤ v) && decide (v ≤ 32767)
theorem s16_iff (v : Int) : s16 v = true ↔ -32768 ≤ v ∧ v ≤ 32767 := by simp [s16]
def okC (n : Nat) (l : List Int) : Bool := decide (l.length = n ∧ 1 ≤ l.length ∧ l.length ≤ 128) && l.all s16
def okF (ls : List (List Int)) : Bool := decide (1 ≤ ls.length ∧ ls.length ≤ 2) && ls.all (okC (ls.getD 0 []).length)
theorem isFrame_l1 (ls : List (List Int)) (j : Int) (hj : 0 ≤ j ∧ j ≤ 2) (x : List Int) (hx : x.length ≤ 128) (F : Nat) : ∀ (d i : Nat), i + d = x.length → lossless_isFrame.l1 (F + d + 1) ls ls (ls.length : Int) j x (x.length : Int) (i : Int) = if (x.drop i).all s16 then lossless_isFrame.l0 F ls ls (ls.length : Int) (j + 1) else some false
  | 0, i, h => by
    unfold lossless_isFrame.l1
    rw [if_neg (by omega), List.drop_eq_nil_of_le (by omega), wrap64_id (by omega) (by omega)]; rfl
  | d + 1, i, h => by
    have ih := isFrame_l1 ls j hj x hx F d (i + 1) (by omega)
    have hlt : i < x.length := by omega
    have h0 : rd x (i : Int) = x[i] := by unfold rd; rw [Int.toNat_natCast, List.getD_eq_getElem?_getD, List.getElem?_eq_getElem hlt]; rfl
    rw [show F + (d + 1) + 1 = (F + d + 1) + 1 by omega]
    unfold lossless_isFrame.l1
    rw [if_pos (by omega), if_pos (by omega), if_pos (by omega), h0, wrap64_id (by omega) (by omega), List.drop_eq_getElem_cons hlt, List.all_cons]
    by_cases h1 : x[i] < -32768
    · rw [if_pos h1, show s16 x[i] = false by unfold s16; simp; omega]; rfl
    rw [if_neg h1]
    by_cases h2 : x[i] > 32767
    · rw [if_pos h2, show s16 x[i] = false by unfold s16; simp; omega]; rfl
    rw [if_neg h2, show s16 x[i] = true by unfold s16; simp; omega, Bool.true_and]
    exact ih
theorem isFrame_l0 (ls : List (List Int)) (hn : 1 ≤ ls.length ∧ ls.length ≤ 2) : ∀ (d i F : Nat), i + d = ls.length → 131 * d < F → lossless_isFrame.l0 F ls ls (ls.length : Int) (i : Int) = some ((ls.drop i).all (okC (ls.getD 0 []).length))
  | 0, i, F + 1, h, _ => by
    unfold lossless_isFrame.l0
    rw [if_neg (by omega), List.drop_eq_nil_of_le (by omega)]; rfl
  | d + 1, i, F + 1, h, hF => by
    have hlt : i < ls.length := by omega
    have h0 : rd_L1 ls (i : Int) = ls[i] := by rw [rd_L1_nat, List.getD_eq_getElem?_getD, List.getElem?_eq_getElem hlt]; rfl
    have h00 : rd_L1 ls 0 = ls.getD 0 [] := rfl
    have hj : ∀ b, lossless_isFrame.j2 F ls ls[i] ls (ls.length : Int) (i : Int) b = if b = true then some false else lossless_isFrame.l1 (F - 1) ls ls (ls.length : Int) (i : Int) ls[i] (ls[i].length : Int) 0 := fun b => by
      obtain ⟨F', rfl⟩ : ∃ F', F = F' + 1 := ⟨F - 1, by omega⟩
      rfl
    unfold lossless_isFrame.l0
    rw [if_pos (by omega), if_pos (by omega), if_pos (by omega), if_pos (by omega), h0, h00, List.drop_eq_getElem_cons hlt, List.all_cons, hj, hj, if_pos (rfl : true = true)]
    unfold okC
    by_cases h1 : (ls[i].length : Int) = ((ls.getD 0 []).length : Int)
    · rw [if_pos h1]
      by_cases h2 : (ls[i].length : Int) < 1
      · rw [if_pos h2, decide_eq_false (by omega)]; rfl
      rw [if_neg h2]
      by_cases h3 : (ls[i].length : Int) > 128
      · rw [if_pos (by rw [decide_eq_true h3]), decide_eq_false (by omega)]; rfl
      rw [if_neg (by rw [decide_eq_false h3]; simp), decide_eq_true (by omega), Bool.true_and]
      obtain ⟨G, hG⟩ : ∃ G, F - 1 = G + ls[i].length + 1 := ⟨F - 2 - ls[i].length, by omega⟩
      have hl1 := isFrame_l1 ls (i : Int) (by omega) ls[i] (by omega) G ls[i].length 0 (by omega)
      rw [List.drop_zero] at hl1
      have ih := isFrame_l0 ls hn d (i + 1) G (by omega) (by omega)
      rw [hG]
      rw [show (((i + 1 : Nat)) : Int) = (i : Int) + 1 by omega] at ih
      rw [ih] at hl1
      refine Eq.trans hl1 ?_
      cases ls[i].all s16
      · rfl
      · rw [if_pos rfl, Bool.true_and]; rfl
    · rw [if_neg h1, decide_eq_false (by omega)]; rfl
theorem isFrame_f (ls : List (List Int)) : lossless_isFrame.f 400 ls = some (okF ls) := by
  have hj : ∀ b, lossless_isFrame.j0 400 ls b = if b = true then some false else lossless_isFrame.l0 399 ls ls (ls.length : Int) 0 := fun b => rfl
  unfold lossless_isFrame.f okF
  rw [hj, hj]
  by_cases h1 : (ls.length : Int) < 1
  · rw [if_pos h1, if_pos rfl, decide_eq_false (by omega)]; rfl
  rw [if_neg h1]
  by_cases h2 : (ls.length : Int) > 2
  · rw [if_pos (by rw [decide_eq_true h2]), decide_eq_false (by omega)]; rfl
  rw [if_neg (by rw [decide_eq_false h2]; simp), decide_eq_true (by omega), Bool.true_and]
  have := isFrame_l0 ls (by omega) ls.length 0 399 (by omega) (by omega)
  rw [List.drop_zero] at this
  exact this
theorem isFrame_any (A : Option Addr) (c : Nat) (ls : List (List Int)) (w : World) (hC : Kd.C KdL w A ls.length ls) (hc : ls.length ≤ c) :
    Calls Tryz.prog 44 #[.slice A ls.length c] w fun e w' => e = .returned (.bool (okF ls)) ∧ Drawn0 w w' := lossless_isFrame.calls 400 A c ls _ w hC hc (isFrame_f ls)
theorem okF_iff (ls : List (List Int)) : okF ls = true ↔ (1 ≤ ls.length ∧ ls.length ≤ 2) ∧ ∀ l ∈ ls, (l.length = (ls.getD 0 []).length ∧ 1 ≤ l.length ∧ l.length ≤ 128) ∧ ∀ v ∈ l, -32768 ≤ v ∧ v ≤ 32767 := by
  unfold okF okC
  simp only [Bool.and_eq_true, decide_eq_true_eq, List.all_eq_true, s16_iff]
theorem okF_chk {ls : List (List Int)} (h : okF ls = true) : ∀ l ∈ ls, chkS l = 0 := fun l hl => by
  obtain ⟨h1, h2⟩ := ((okF_iff ls).1 h).2 l hl
  exact chkS_zero.2 ⟨h1.2, fun v hv => by have := h2 v hv; omega⟩
theorem midM_range {x y : Int} (hx : -32768 ≤ x ∧ x ≤ 32767) (hy : -32768 ≤ y ∧ y ≤ 32767) : -32768 ≤ midM x y ∧ midM x y ≤ 32767 := by unfold midM; omega
theorem mids_chk {x y : List Int} (hl : y.length = x.length) (h1 : 1 ≤ x.length ∧ x.length ≤ 128) (hx : ∀ v ∈ x, -32768 ≤ v ∧ v ≤ 32767) (hy : ∀ v ∈ y, -32768 ≤ v ∧ v ≤ 32767) : chkS (midsL x y) = 0 ∧ chkS (difsL x y) = 0 := by
  have hgx : ∀ i, i < x.length → -32768 ≤ x.getD i 0 ∧ x.getD i 0 ≤ 32767 := fun i hi => hx _ (by rw [List.getD_eq_getElem?_getD, List.getElem?_eq_getElem hi]; exact List.getElem_mem hi)
  have hgy : ∀ i, i < x.length → -32768 ≤ y.getD i 0 ∧ y.getD i 0 ≤ 32767 := fun i hi => hy _ (by rw [List.getD_eq_getElem?_getD, List.getElem?_eq_getElem (by omega)]; exact List.getElem_mem _)
  refine ⟨chkS_zero.2 ⟨by simpa [midsL] using h1, fun v hv => ?_⟩, chkS_zero.2 ⟨by simpa [difsL] using h1, fun v hv => ?_⟩⟩
  · obtain ⟨i, hi, rfl⟩ := List.mem_map.1 hv
    have := midM_range (hgx i (List.mem_range.1 hi)) (hgy i (List.mem_range.1 hi))
    omega
  · obtain ⟨i, hi, rfl⟩ := List.mem_map.1 hv
    have h1 := hgx i (List.mem_range.1 hi)
    have h2 := hgy i (List.mem_range.1 hi)
    omega
def frame0 (ls : List (List Int)) : List Int := numb 0 1 ++ ls.flatMap sigBits
def frame1 (x y : List Int) : List Int := numb 1 1 ++ [midsL x y, difsL x y].flatMap sigBits
def frameBits (ls : List (List Int)) : List Int :=
  if ls.length = 1 then ls.flatMap sigBits else if (frame1 (ls.getD 0 []) (ls.getD 1 [])).length < (frame0 ls).length then frame1 (ls.getD 0 []) (ls.getD 1 []) else frame0 ls
def FPost (w : World) (L : List Int) (e : Ending) (w' : World) : Prop := ∃ p S, e = .returned (.pointer (some ⟨p, 0, none⟩)) ∧ Wr w' S p L ∧ w.heap.size ≤ p ∧ (∀ k, S k → w.heap.size ≤ k) ∧ Below w.heap.size w w'
theorem HO.pos {w : World} (h : HO w) : 0 < w.heap.size := by obtain ⟨_, _, h⟩ := h; exact lt_of_block h
theorem WrTo.fpost {w w1 w' : World} {S : Nat → Prop} {p : Nat} {L : List Int} (h : WrTo w1 S p L w') (hp : w.heap.size ≤ p) (hS : ∀ k, S k → w.heap.size ≤ k) (hb : Below w.heap.size w w1) : FPost w L (.returned (.pointer (some ⟨p, 0, none⟩))) w' := by
  obtain ⟨S', hW, hs, hf⟩ := h
  refine ⟨p, S', rfl, hW, hp, fun k hk => ?_, hb.trans (hf.to_below hb.size (fun k hk => ?_))⟩
  · rcases hs k hk with o | o
    · exact hS k o
    · exact Nat.le_trans hb.size o
  · rcases hk with o | o
    · rw [o]; exact hp
    · exact hS k o
theorem framed_any (A : Option Addr) (c : Nat) (ls : List (List Int)) (w : World) (hg : HO w) (hC : Kd.C KdL w A ls.length ls) (hc : ls.length ≤ c) (hok : okF ls = true) :
    Calls Tryz.prog 45 #[.slice A ls.length c] w (FPost w (frameBits ls)) := by
  have hn := ((okF_iff ls).1 hok).1
  have hch := okF_chk hok
  have hF := Kd.C_F (Kd.heap_slice _ (Kd.heap_int .i64)) hC
  obtain ⟨w1, hw1⟩ : ∃ w1, w1 = w.alloc newWr := ⟨_, rfl⟩
  obtain ⟨p, hp⟩ : ∃ p, p = w.heap.size := ⟨_, rfl⟩
  have hb1 : Below w.heap.size w w1 := by rw [hw1]; exact below_alloc (Below.refl _ _) _
  have hW1 : Wr w1 (fun _ => False) p [] := by rw [hw1, hp]; exact Wr.new w
  have HPS := Aside0.mk hg.pos
  have HPP := Aside0.mk hp
  have HFW := Aside0.mk hF
  have HF1 := Aside0.mk (Kd.F_below hF hb1)
  have HOK : Aside0 (∀ k, k < w.heap.size → k < w1.heap.size → ¬ (k = p ∨ False)) := ⟨fun k hk _ o => by rcases o with o | o; omega; exact o⟩
  have HG := Aside0.mk hg
  have HB1 := Aside0.mk hb1
  have HWN := Aside0.mk hw1
  have HW1 := Aside0.mk hW1
  have HCH := Aside0.mk hch
  have HOKF := Aside0.mk hok
  clear hg hC hok hch hF hw1 hp hb1 hW1
  by_cases h1 : ls.length = 1
  · have HFB : Aside0 (frameBits ls = ls.flatMap sigBits) := ⟨by unfold frameBits; rw [if_pos h1]⟩
    have HPUT := Aside0.mk (putS_any (fun _ => False) _ p A c ls [] w1 HW1.out (HG.out.below HB1.out) (by have := HPS.out; have := HPP.out; rintro (o | o); omega; exact o) HF1.out HOK.out hc HCH.out hn.2 (by simp))
    have d1 : ((ls.length : Int) == 1) = true := by rw [h1]; rfl
    rw [HFB.out]
    clear h1 hn HOK HF1
    go_enter Tryz.func45, Tryz.ntmps45
    go_wp2_with fail
    refine (New_any w).mono ?_
    rintro e w3 ⟨rfl, hw⟩
    rw [← HWN.out] at hw
    obtain rfl := hw.symm
    rw [← HPP.out]
    go_wp2_with fail
    refine HPUT.out.mono ?_
    rintro e w4 ⟨rfl, h4⟩
    have H4 := Aside0.mk h4
    clear h4
    go_wp2_with fail
    go_ret
    exact WrTo.fpost (S := fun _ => False) (by simpa using H4.out) (by rw [HPP.out]; exact Nat.le_refl _) (fun k hk => hk.elim) HB1.out
  · have hn2 : ls.length = 2 := by omega
    have hoF := ((okF_iff ls).1 HOKF.out).2
    obtain ⟨a, b, hab⟩ : ∃ a b, ls = [a, b] := by
      match ls, hn2 with
      | [a, b], _ => exact ⟨a, b, rfl⟩
    have hA := hoF a (by rw [hab]; simp)
    have hB := hoF b (by rw [hab]; simp)
    rw [hab, show ([a, b] : List (List Int)).getD 0 [] = a from rfl] at hA hB
    have HLA := Aside0.mk hA
    have HLB := Aside0.mk hB
    have HCM := Aside0.mk (mids_chk hB.1.1 hA.1.2 hA.2 hB.2)
    have HGA : Aside0 (ls.getD 0 [] = a ∧ ls.getD 1 [] = b) := ⟨by rw [hab]; exact ⟨rfl, rfl⟩⟩
    have HFB : Aside0 (frameBits ls = if (frame1 a b).length < (frame0 ls).length then frame1 a b else frame0 ls) := ⟨by unfold frameBits; rw [if_neg h1, HGA.out.1, HGA.out.2]⟩
    have HF0 : Aside0 (frame0 ls = numb 0 1 ++ ls.flatMap sigBits) := ⟨rfl⟩
    have HF1' : Aside0 (frame1 a b = numb 1 1 ++ [midsL a b, difsL a b].flatMap sigBits) := ⟨rfl⟩
    have d1 : ((ls.length : Int) == 1) = false := by simp; omega
    have hp1 := Put_any (fun _ => False) p [] 0 1 w1 HW1.out (by simp)
    have e1 := wPut_ok [] 0 1 (by omega) (by decide) (by simp)
    rw [show ((1 : Nat) : Int) = 1 from rfl, List.nil_append] at e1
    rw [e1] at hp1
    have HP1 := Aside0.mk hp1
    have HLS := Aside0.mk hn2
    have HHC := Aside0.mk hc
    clear h1 hn hn2 hoF hA hB hp1 e1 hab hc
    have hn0 : (0 : Int) < (ls.length : Int) := by have := HLS.out; omega
    have hn1 : (1 : Int) < (ls.length : Int) := by have := HLS.out; omega
    go_enter Tryz.func45, Tryz.ntmps45
    go_wp2_with fail
    refine (New_any w).mono ?_
    rintro e w3 ⟨rfl, hw⟩
    rw [← HWN.out] at hw
    obtain rfl := hw.symm
    rw [← HPP.out]
    go_wp2_with fail
    refine HP1.out.mono ?_
    rintro e w3 ⟨rfl, S3, hW3, hs3, hf3⟩
    have hS0 : ¬ (0 = p ∨ S3 0) := by
      have := HPS.out; have := HPP.out; have := HB1.out.size
      rintro (o | o)
      · omega
      · rcases hs3 0 o with q | q
        · exact q
        · omega
    have hput := putS_any S3 _ p A c ls (numb 0 1) w3 hW3 (HG.out.below (HB1.out.trans (hf3.to_below HB1.out.size (fun k hk => by rcases hk with o | o; (have := HPP.out; omega); exact o.elim)))) hS0 (F_wrG HF1.out HOK.out hf3)
      (fun k hk _ o => by
        have := HPP.out; have := HB1.out.size
        rcases o with o | o
        · omega
        · rcases hs3 k o with q | q
          · exact q
          · omega) HHC.out HCH.out (by have := HLS.out; omega) (by rw [numb_length]; omega)
    rw [← HF0.out] at hput
    have HPUT := Aside0.mk hput
    have HS3 := Aside0.mk hs3
    have HF3 := Aside0.mk hf3
    clear hput hW3 hs3 hf3 hS0
    go_wp2_with fail
    refine HPUT.out.mono ?_
    rintro e w4 ⟨rfl, h4⟩
    have hF4 := WrTo.glue HS3.out HF3.out h4
    obtain ⟨p', S4, e4, hW4, hp4, hS4, hB4⟩ := hF4.fpost (w := w) (by rw [HPP.out]; exact Nat.le_refl _) (fun k hk => hk.elim) HB1.out
    cases e4
    have HW4 := Aside0.mk hW4
    have HP4 := Aside0.mk hp4
    have HS4 := Aside0.mk hS4
    have HB4 := Aside0.mk hB4
    clear h4 hF4 hW4 hp4 hS4 hB4
    obtain ⟨w5, hw5⟩ : ∃ w5, w5 = w4.alloc newWr := ⟨_, rfl⟩
    obtain ⟨p2, hp2⟩ : ∃ p2, p2 = w4.heap.size := ⟨_, rfl⟩
    have hW5 : Wr w5 (fun _ => False) p2 [] := by rw [hw5, hp2]; exact Wr.new w4
    have hb5 : Below w4.heap.size w4 w5 := by rw [hw5]; exact below_alloc (Below.refl _ _) _
    have hp5 := Put_any (fun _ => False) p2 [] 1 1 w5 hW5 (by simp)
    have e5 := wPut_ok [] 1 1 (by omega) (by decide) (by simp)
    rw [show ((1 : Nat) : Int) = 1 from rfl, List.nil_append] at e5
    rw [e5] at hp5
    have HP5 := Aside0.mk hp5
    have HB5 := Aside0.mk hb5
    have HW5N := Aside0.mk hw5
    have HPP2 := Aside0.mk hp2
    clear hw5 hp2 hW5 hb5 hp5 e5
    go_wp2_with fail
    refine (New_any w4).mono ?_
    rintro e w6 ⟨rfl, hw⟩
    rw [← HW5N.out] at hw
    obtain rfl := hw.symm
    rw [← HPP2.out]
    go_wp2_with fail
    refine HP5.out.mono ?_
    rintro e w6 ⟨rfl, S6, hW6, hs6, hf6⟩
    have hB46 : Below w4.heap.size w4 w6 := HB5.out.trans (hf6.to_below HB5.out.size (fun k hk => by rcases hk with o | o; (have := HPP2.out; omega); exact o.elim))
    have hB6 := HB4.out.trans (hB46.mono HB4.out.size)
    obtain ⟨ad, A2, c2, e0, hx0, hc2, hC2⟩ := F_row HFW.out 0 (by have := HLS.out; omega)
    obtain ⟨ad', A3, c3, e1, hx1, hc3, hC3⟩ := F_row HFW.out 1 (by have := HLS.out; omega)
    cases e0
    cases e1
    rw [HGA.out.1] at hx0 hc2 hC2
    rw [HGA.out.2] at hx1 hc3 hC3
    have hlab : b.length = a.length := HLB.out.1.1
    rw [hlab] at hx1 hc3 hC3
    rw [show ad.add 0 = ad by simp [Addr.add]] at hx0
    rw [show ad.add 1 = ⟨ad.block, ad.off + 1, none⟩ from rfl] at hx1
    have HX0 : Aside0 (∀ w', Below w.heap.size w w' → w'.cell? ad = some (.slice A2 a.length c2)) := ⟨fun w' hb => pw_cell_below hb hx0⟩
    have HX1 : Aside0 (∀ w', Below w.heap.size w w' → w'.cell? ⟨ad.block, ad.off + 1, none⟩ = some (.slice A3 a.length c3)) := ⟨fun w' hb => pw_cell_below hb hx1⟩
    have HMD := Aside0.mk (fun W (hb : Below w.heap.size w W) => middles_any A2 c2 a A3 c3 b a.length W (Kd.F_now (Kd.F_below hC2 hb)) hc2 (Kd.F_now (Kd.F_below hC3 hb)) hc3 rfl hlab HLA.out.1.2 HLA.out.2 HLB.out.2)
    have HW6 := Aside0.mk hW6
    have HS6 := Aside0.mk hs6
    have HF6 := Aside0.mk hf6
    have HB46 := Aside0.mk hB46
    have HB6 := Aside0.mk hB6
    obtain ⟨nI, hnI⟩ : ∃ nI : Int, (ls.length : Int) = nI := ⟨_, rfl⟩
    rw [hnI] at hn0 hn1
    clear hW6 hs6 hf6 hB46 hB6 hx0 hx1 hc2 hc3 hC2 hC3 hlab
    go_wp2
    refine wp_region_held_drew (S := fun w' => Below w.heap.size w w') (by kernel_rfl) (below_drew HB6.out) (fun hHeld => ?_)
    refine wpAnyH_take (i := 0) (v := ?_) rfl (by kernel_rfl) (by kernel_rfl) (by kernel_rfl) (fun _ _ _ h => h) (Or.inl ⟨by rfl, ?_⟩) (by assumption) ?_
    rotate_left
    · (intro w hSw; (try dsimp only at hSw); go_simp; (try with_reducible rfl))
    (try simp only [Act.put, List.getElem_toArray, List.getElem_cons_zero, List.getElem_cons_succ, List.setIfInBounds_toArray, List.set_cons_zero, List.set_cons_succ])
    refine wpAnyH_take (i := 1) (v := ?_) rfl (by kernel_rfl) (by kernel_rfl) (by kernel_rfl) (fun _ _ _ h => h) (Or.inl ⟨by rfl, ?_⟩) (by assumption) ?_
    rotate_left
    · (intro w hSw; (try dsimp only at hSw); go_simp; (try with_reducible rfl))
    (try simp only [Act.put, List.getElem_toArray, List.getElem_cons_zero, List.getElem_cons_succ, List.setIfInBounds_toArray, List.set_cons_zero, List.set_cons_succ])
    refine wpAnyH_take (i := 2) (v := ?_) rfl (by kernel_rfl) (by kernel_rfl) (by kernel_rfl) (fun _ _ _ h => h) (Or.inl ⟨by rfl, ?_⟩) (by assumption) ?_
    rotate_left
    · (intro w hSw; (try dsimp only at hSw); go_simp; (try with_reducible rfl))
    (try simp only [Act.put, List.getElem_toArray, List.getElem_cons_zero, List.getElem_cons_succ, List.setIfInBounds_toArray, List.set_cons_zero, List.set_cons_succ])
    refine wpAnyH_take (i := 3) (v := ?_) rfl (by kernel_rfl) (by kernel_rfl) (by kernel_rfl) (fun _ _ _ h => h) (Or.inl ⟨by rfl, ?_⟩) (by assumption) ?_
    rotate_left
    · (intro w hSw; (try dsimp only at hSw); have z := HX0.out w hSw; go_simp; (try with_reducible rfl))
    (try simp only [Act.put, List.getElem_toArray, List.getElem_cons_zero, List.getElem_cons_succ, List.setIfInBounds_toArray, List.set_cons_zero, List.set_cons_succ])
    refine wpAnyH_take (i := 4) (v := ?_) rfl (by kernel_rfl) (by kernel_rfl) (by kernel_rfl) (fun _ _ _ h => h) (Or.inl ⟨by rfl, ?_⟩) (by assumption) ?_
    rotate_left
    · (intro w hSw; (try dsimp only at hSw); go_simp; (try with_reducible rfl))
    (try simp only [Act.put, List.getElem_toArray, List.getElem_cons_zero, List.getElem_cons_succ, List.setIfInBounds_toArray, List.set_cons_zero, List.set_cons_succ])
    refine wpAnyH_take (i := 5) (v := ?_) rfl (by kernel_rfl) (by kernel_rfl) (by kernel_rfl) (fun _ _ _ h => h) (Or.inl ⟨by rfl, ?_⟩) (by assumption) ?_
    rotate_left
    · (intro w hSw; (try dsimp only at hSw); go_simp; (try with_reducible rfl))
    (try simp only [Act.put, List.getElem_toArray, List.getElem_cons_zero, List.getElem_cons_succ, List.setIfInBounds_toArray, List.set_cons_zero, List.set_cons_succ])
    refine wpAnyH_take (i := 6) (v := ?_) rfl (by kernel_rfl) (by kernel_rfl) (by kernel_rfl) (fun _ _ _ h => h) (Or.inl ⟨by rfl, ?_⟩) (by assumption) ?_
    rotate_left
    · (intro w hSw; (try dsimp only at hSw); have z := HX1.out w hSw; go_simp; (try with_reducible rfl))
    (try simp only [Act.put, List.getElem_toArray, List.getElem_cons_zero, List.getElem_cons_succ, List.setIfInBounds_toArray, List.set_cons_zero, List.set_cons_succ])
    refine wpAnyH_ready (rs := [7]) (by kernel_rfl) (by simp) ?_
    refine AllReadyH.cons rfl (fun K hK => ?_) AllReadyH.nil
    go_simp
    refine (HMD.out w6.drew (below_drew HB6.out)).mono ?_
    rintro e w7 ⟨A7, c7, rfl, hF7, hc7, hb7⟩
    have hb67 : Below w6.heap.size w6 w7 := (below_drew (Below.refl _ _)).trans hb7
    have HB67 := Aside0.mk hb67
    have HB7 := Aside0.mk (HB6.out.trans (hb67.mono HB6.out.size))
    have hput := putS_any S6 (fun k => w6.heap.size ≤ k) p2 A7 c7 [midsL a b, difsL a b] (numb 1 1) w7 (HW6.out.below hb67) (HG.out.below HB7.out)
      (by
        have := HPS.out; have := HPP2.out; have := HB4.out.size; have := HB5.out.size
        rintro (o | o)
        · omega
        · rcases HS6.out 0 o with q | q
          · exact q
          · omega) hF7 (fun k hk _ o => by
        have hk : w6.heap.size ≤ k := hk
        have := HW6.out.p_lt
        rcases o with o | o
        · omega
        · have := HW6.out.lt k o; omega) hc7 (fun l hl => by
        simp only [List.mem_cons, List.not_mem_nil, or_false] at hl
        rcases hl with rfl | rfl
        · exact HCM.out.1
        · exact HCM.out.2) (Nat.le_refl _) (by rw [numb_length]; omega)
    rw [← HF1'.out] at hput
    have HPUT2 := Aside0.mk hput
    clear hput hF7 hb7 hb67
    (try go_simp)
    refine hK.out _ _ ?_ (fun hHeld => ?_)
    · exact HB7.out
    clear hK K
    (try simp only [Act.put, List.getElem_toArray, List.getElem_cons_zero, List.getElem_cons_succ, List.setIfInBounds_toArray, List.set_cons_zero, List.set_cons_succ])
    refine wpAnyH_ready (rs := [8]) (by kernel_rfl) (by simp) ?_
    refine AllReadyH.cons rfl (fun K hK => ?_) AllReadyH.nil
    go_simp
    refine HPUT2.out.mono ?_
    rintro e w8 ⟨rfl, h8⟩
    have h8' := WrTo.glue HS6.out (HF6.out.trans (Fr.below HB67.out _)) h8
    obtain ⟨p', S8, e8, hW8, hp8, hS8, hB8⟩ := h8'.fpost (w := w4) (by rw [HPP2.out]; exact Nat.le_refl _) (fun k hk => hk.elim) HB5.out
    cases e8
    have HW8 := Aside0.mk hW8
    have HP8 := Aside0.mk hp8
    have HS8 := Aside0.mk hS8
    have HB48 := Aside0.mk hB8
    have HB8 := Aside0.mk (HB4.out.trans (hB8.mono HB4.out.size))
    clear h8 h8' hW8 hp8 hS8 hB8
    (try go_simp)
    refine hK.out _ _ ?_ (fun hHeld => ?_)
    · exact HB8.out
    clear hK K
    (try simp only [Act.put, List.getElem_toArray, List.getElem_cons_zero, List.getElem_cons_succ, List.setIfInBounds_toArray, List.set_cons_zero, List.set_cons_succ])
    refine wpAnyH_done (by kernel_rfl) ?_ _
    (try simp only [Exit.then])
    go_wp2_with fail
    refine (Len_any S8 p2 _ w8 HW8.out).mono ?_
    rintro e w9 ⟨rfl, hw⟩
    obtain rfl := hw.symm
    go_wp2_with fail
    refine (Len_any S4 p _ w8 (HW4.out.below HB48.out)).mono ?_
    rintro e w9 ⟨rfl, hw⟩
    obtain rfl := hw.symm
    by_cases hlt : (frame1 a b).length < (frame0 ls).length
    · have d9 : decide (((frame1 a b).length : Int) < ((frame0 ls).length : Int)) = true := by simp; exact hlt
      have HE : Aside0 (frameBits ls = frame1 a b) := ⟨by rw [HFB.out, if_pos hlt]⟩
      generalize ((frame1 a b).length : Int) = n1 at *
      generalize ((frame0 ls).length : Int) = n0 at *
      clear hlt
      go_wp2_with fail
      go_ret
      rw [HE.out]
      exact ⟨p2, S8, rfl, HW8.out, Nat.le_trans HB4.out.size HP8.out, fun k hk => Nat.le_trans HB4.out.size (HS8.out k hk), HB8.out⟩
    · have d9 : decide (((frame1 a b).length : Int) < ((frame0 ls).length : Int)) = false := by simp; omega
      have HE : Aside0 (frameBits ls = frame0 ls) := ⟨by rw [HFB.out, if_neg hlt]⟩
      generalize ((frame1 a b).length : Int) = n1 at *
      generalize ((frame0 ls).length : Int) = n0 at *
      clear hlt
      go_wp2_with fail
      go_ret
      rw [HE.out]
      exact ⟨p, S4, rfl, HW4.out.below HB48.out, HP4.out, HS4.out, HB8.out⟩
def fSize (ls : List (List Int)) : Int × Int := if okF ls then (((frameBits ls).length : Int), 0) else (0, 1)
theorem Size_any (A : Option Addr) (c : Nat) (ls : List (List Int)) (w : World) (hg : HO w) (hC : Kd.C KdL w A ls.length ls) (hc : ls.length ≤ c) :
    Calls Tryz.prog 13 #[.slice A ls.length c] w fun e w' => e = .returned (.tuple #[.int .i64 (fSize ls).1, .int .i64 (fSize ls).2]) ∧ Below w.heap.size w w' := by
  have HI := Aside0.mk (isFrame_any A c ls w hC hc)
  by_cases hok : okF ls = true
  · have HFR := Aside0.mk (fun W (hb : Below w.heap.size w W) => framed_any A c ls W (hg.below hb) (Kd.C_below hC hb) hc hok)
    have HE : Aside0 (fSize ls = (((frameBits ls).length : Int), 0)) := ⟨by unfold fSize; rw [if_pos hok]⟩
    rw [hok] at HI
    clear hg hC hc hok
    go_enter Tryz.func13, Tryz.ntmps13
    go_wp2_with fail
    refine HI.out.mono ?_
    rintro e w1 ⟨rfl, hd⟩
    have HB1 := Aside0.mk hd.below
    clear hd
    go_wp2_with fail
    refine (HFR.out w1 HB1.out).mono ?_
    rintro e w2 ⟨p, S, rfl, hW, hp, hS, hb⟩
    have HLN := Aside0.mk (Len_any S p _ w2 hW)
    have HB2 := Aside0.mk (HB1.out.trans (hb.mono HB1.out.size))
    clear hW hp hS hb
    go_wp2_with fail
    refine HLN.out.mono ?_
    rintro e w3 ⟨rfl, hw⟩
    obtain rfl := hw.symm
    go_wp2_with fail
    go_ret2
    rw [HE.out]
    exact ⟨rfl, HB2.out⟩
  · have hok : okF ls = false := by simpa using hok
    have HE : Aside0 (fSize ls = (0, 1)) := ⟨by unfold fSize; rw [hok]; rfl⟩
    rw [hok] at HI
    clear hg hC hc hok
    go_enter Tryz.func13, Tryz.ntmps13
    go_wp2_with fail
    refine HI.out.mono ?_
    rintro e w1 ⟨rfl, hd⟩
    have HB1 := Aside0.mk hd.below
    clear hd
    go_wp2_with fail
    go_ret2
    rw [HE.out]
    exact ⟨rfl, HB1.out⟩
theorem frameBits_le {ls : List (List Int)} (h : okF ls = true) : (frameBits ls).length ≤ 4357 := by
  obtain ⟨hn, ho⟩ := (okF_iff ls).1 h
  have h1 := sigsBits_le ls (fun l hl => ((ho l hl).1).2.2)
  have h2 : 2178 * ls.length ≤ 4356 := by omega
  unfold frameBits
  split
  · omega
  · split
    · rename_i h3 h4
      unfold frame0 at h4
      rw [List.length_append, numb_length] at h4
      omega
    · unfold frame0
      rw [List.length_append, numb_length]; omega
def fWriteF (L : List Int) (ls : List (List Int)) : Int × List Int := if okF ls then wput L (frameBits ls) else (1, L)
theorem wAppend_put (L B : List Int) (hB : is01 B) : wAppend L (pk B) (B.length : Int) = wput L B := by
  unfold wAppend
  rw [if_neg (by rw [pk_length]; omega), Int.toNat_natCast, ofB_pk_all hB]
theorem WriteF_any (S : Nat → Prop) (p : Nat) (L : List Int) (A : Option Addr) (c : Nat) (ls : List (List Int)) (w : World) (hW : Wr w S p L) (hL : L.length ≤ 1048576) (hg : HO w) (hC : Kd.C KdL w A ls.length ls) (hc : ls.length ≤ c) :
    Calls Tryz.prog 16 #[.pointer (some ⟨p, 0, none⟩), .slice A ls.length c] w fun e w' => e = .returned (.int .i64 (fWriteF L ls).1) ∧ WrTo w S p (fWriteF L ls).2 w' := by
  have HI := Aside0.mk (isFrame_any A c ls w hC hc)
  have HW := Aside0.mk hW
  by_cases hok : okF ls = true
  · have HFR := Aside0.mk (fun W (hb : Below w.heap.size w W) => framed_any A c ls W (hg.below hb) (Kd.C_below hC hb) hc hok)
    have HE : Aside0 (fWriteF L ls = wput L (frameBits ls)) := ⟨by unfold fWriteF; rw [if_pos hok]⟩
    have hle := frameBits_le hok
    rw [hok] at HI
    generalize frameBits ls = B at *
    clear hg hC hc hok hW
    go_enter Tryz.func16, Tryz.ntmps16
    go_wp2_with fail
    refine HI.out.mono ?_
    rintro e w1 ⟨rfl, hd⟩
    have HB1 := Aside0.mk hd.below
    clear hd
    go_wp2_with fail
    refine (HFR.out w1 HB1.out).mono ?_
    rintro e w4 ⟨p2, S2, rfl, hW4, hp2, hS2, hb4⟩
    have HW4 := Aside0.mk hW4
    have HB4 := Aside0.mk (HB1.out.trans (hb4.mono HB1.out.size))
    clear hW4 hp2 hS2 hb4
    go_wp2_with fail
    refine (Bytes_any S2 p2 B w4 HW4.out (by omega)).mono ?_
    rintro e w5 ⟨v5, S5, rfl, hr5, hs5, hb5⟩
    obtain ⟨A5, c5, ev, hcap5, hC5⟩ := Kd.R_reads hr5
    subst ev
    have HA5 : Aside0 (∀ ad, A5 = some ad → 0 < (pk B).length → ¬ (ad.block = p ∨ S ad.block)) := ⟨by
      rintro ad rfl _ o
      have h5 := hs5 _ (hr5.1 _ rfl)
      have h4 := HB4.out.size
      have hp := HW.out.p_lt
      rcases o with o | o
      · omega
      · have := HW.out.lt _ o; omega⟩
    have HC5 := Aside0.mk hC5
    have HW5 := Aside0.mk (HW4.out.below hb5)
    have HB5 := Aside0.mk (HB4.out.trans (hb5.mono HB4.out.size))
    have H801 := Aside0.mk (show is8 (pk B) ∧ is01 B from ⟨pk_is8 HW4.out.bits, HW4.out.bits⟩)
    have hpl : (pk B).length ≤ 1000000000 := by rw [pk_length]; omega
    clear hr5 hs5 hb5 hcap5 hC5
    go_wp2_with fail
    refine (Len_any S2 p2 B w5 HW5.out).mono ?_
    rintro e w6 ⟨rfl, hw⟩
    obtain rfl := hw.symm
    have hap := Append_any S p L A5 c5 (pk B) (B.length : Int) w5 (HW.out.below HB5.out) hL HC5.out H801.out.1 hpl HA5.out
    rw [wAppend_put L B H801.out.2, ← HE.out] at hap
    have HAP := Aside0.mk hap
    clear hap hpl
    go_wp2_with fail
    refine HAP.out.mono ?_
    rintro e w7 ⟨rfl, h7⟩
    have H7 := Aside0.mk (WrTo.glue (fun k hk => .inl hk) (Fr.below HB5.out _) h7)
    clear h7
    go_wp2_with fail
    go_ret
    exact ⟨rfl, H7.out⟩
  · have hok : okF ls = false := by simpa using hok
    have HE : Aside0 (fWriteF L ls = (1, L)) := ⟨by unfold fWriteF; rw [hok]; rfl⟩
    rw [hok] at HI
    clear hg hC hc hok hW
    go_enter Tryz.func16, Tryz.ntmps16
    go_wp2_with fail
    refine HI.out.mono ?_
    rintro e w1 ⟨rfl, hd⟩
    have HB1 := Aside0.mk hd.below
    clear hd
    go_wp2_with fail
    go_ret
    rw [HE.out]
    exact ⟨rfl, HW.out.wrTo HB1.out⟩
def fBytes (ls : List (List Int)) : List Int × Int := if okF ls then (pk (frameBits ls), 0) else ([], 1)
theorem BytesF_any (A : Option Addr) (c : Nat) (ls : List (List Int)) (w : World) (hg : HO w) (hC : Kd.C KdL w A ls.length ls) (hc : ls.length ≤ c) :
    Calls Tryz.prog 29 #[.slice A ls.length c] w fun e w' => ∃ v S', e = .returned (.tuple #[v, .int .i64 (fBytes ls).2]) ∧ RB S' w' v (fBytes ls).1 ∧ (∀ k, S' k → w.heap.size ≤ k) ∧ Below w.heap.size w w' := by
  have HI := Aside0.mk (isFrame_any A c ls w hC hc)
  by_cases hok : okF ls = true
  · have HFR := Aside0.mk (fun W (hb : Below w.heap.size w W) => framed_any A c ls W (hg.below hb) (Kd.C_below hC hb) hc hok)
    have HE : Aside0 (fBytes ls = (pk (frameBits ls), 0)) := ⟨by unfold fBytes; rw [if_pos hok]⟩
    have hle := frameBits_le hok
    rw [hok] at HI
    generalize frameBits ls = B at *
    clear hg hC hc hok
    go_enter Tryz.func29, Tryz.ntmps29
    go_wp2_with fail
    refine HI.out.mono ?_
    rintro e w1 ⟨rfl, hd⟩
    have HB1 := Aside0.mk hd.below
    clear hd
    go_wp2_with fail
    refine (HFR.out w1 HB1.out).mono ?_
    rintro e w4 ⟨p2, S2, rfl, hW4, hp2, hS2, hb4⟩
    have HW4 := Aside0.mk hW4
    have HB4 := Aside0.mk (HB1.out.trans (hb4.mono HB1.out.size))
    clear hW4 hp2 hS2 hb4
    go_wp2_with fail
    refine (Bytes_any S2 p2 B w4 HW4.out (by omega)).mono ?_
    rintro e w5 ⟨v5, S5, rfl, hr5, hs5, hb5⟩
    have HR5 := Aside0.mk hr5
    have HS5 := Aside0.mk hs5
    have HB5 := Aside0.mk (HB4.out.trans (hb5.mono HB4.out.size))
    clear hr5 hs5 hb5
    go_wp2_with fail
    go_ret2
    rw [HE.out]
    exact ⟨_, S5, rfl, HR5.out, fun k hk => Nat.le_trans HB4.out.size (HS5.out k hk), HB5.out⟩
  · have hok : okF ls = false := by simpa using hok
    have HE : Aside0 (fBytes ls = ([], 1)) := ⟨by unfold fBytes; rw [hok]; rfl⟩
    rw [hok] at HI
    clear hg hC hc hok
    go_enter Tryz.func29, Tryz.ntmps29
    go_wp2_with fail
    refine HI.out.mono ?_
    rintro e w1 ⟨rfl, hd⟩
    have HB1 := Aside0.mk hd.below
    clear hd
    go_wp2_with fail
    go_ret2
    rw [HE.out]
    exact ⟨_, fun _ => False, rfl, Kd.R_nil _ _ _ _ _, fun k hk => hk.elim, HB1.out⟩
def sgnsR (L : List Int) (wd : Int) : Nat → Nat → List Int → List Int × Int × Nat
  | 0, a, acc => (acc, 0, a)
  | m + 1, a, acc => if (rSigned L a wd).2.1 ≠ 0 then ([], (rSigned L a wd).2.1, (rSigned L a wd).2.2) else sgnsR L wd m (rSigned L a wd).2.2 (acc ++ [(rSigned L a wd).1])
theorem signed_any (S : Nat → Prop) (p a : Nat) (many : Nat) (wd : Int) (L : List Int) (w : World) (hR : Rd w S p L a) (hm : many ≤ 100000) :
    Calls Tryz.prog 125 #[.pointer (some ⟨p, 0, none⟩), .int .i64 (many : Int), .int .i64 wd] w (LReadPost w S p L (sgnsR L wd many a [])) := by
  have HRS : Aside0 (sgnsR L wd many a [] = sgnsR L wd many a []) := ⟨rfl⟩
  obtain ⟨R, hR0⟩ : ∃ R, R = sgnsR L wd many a [] := ⟨_, rfl⟩
  rw [← hR0]
  have HR0 := Aside0.mk hR0.symm
  have HRD := Aside0.mk hR
  clear hR hR0 HRS
  obtain ⟨M, hM⟩ : ∃ M : Int, (many : Int) = M := ⟨_, rfl⟩
  rw [hM]
  go_enter Tryz.func125, Tryz.ntmps125
  go_wp2_with fail
  go_loopw [8, 12] (fun v u wr => ∃ (i b : Nat) (acc : List Int) (A1 : Option Addr) (c1 : Nat), v = .slice A1 acc.length c1 ∧ u = .int .i64 (i : Int) ∧ i ≤ many ∧ Aside0 (sgnsR L wd (many - i) b acc = R) ∧ Aside0 (acc.length ≤ i) ∧ Aside0 (RowV wr w.heap.size 3 1 v acc.length (flatI acc)) ∧ Aside0 (Rd wr S p L b) ∧ Aside0 (Fr (fun k => k = p) w wr)) (fun _ u _ => many - (intOf u).toNat)
  case atStart => exact ⟨0, a, [], none, 0, rfl, rfl, by omega, HR0, ⟨by simp⟩, ⟨World.ownsRow_nil _ _ _ _⟩, HRD, ⟨Fr.refl _ _⟩⟩
  case round =>
    obtain ⟨i, b, acc, A1, c1, rfl, rfl, hi, HPJ, HAJ, HRJ, HBJ, HFJ⟩ := hrel
    by_cases hlt : i < many
    · have d1 : decide ((i : Int) < M) = true := by simp; omega
      have hgs := RSigned_any S p b L wd wr HBJ.out
      have hpj := HPJ.out
      rw [show many - i = (many - (i + 1)) + 1 by omega, sgnsR] at hpj
      unfold RdPost at hgs
      generalize rSigned L b wd = gg at *
      obtain ⟨x, e2, b2⟩ := gg
      dsimp only at hgs hpj
      have HGG := Aside0.mk hgs
      have HNI := Aside0.mk HBJ.out.notint
      clear hgs
      by_cases he2 : e2 = 0
      case neg =>
        rw [if_pos he2] at hpj
        have q1 : (e2 != 0) = true := by simpa using he2
        have HPJ2 := Aside0.mk hpj
        clear he2 hpj
        go_wp2_with fail
        refine HGG.out.mono ?_
        rintro e w4 ⟨rfl, hr, hf⟩
        have HR4 := Aside0.mk hr
        have HF4 := Aside0.mk (HFJ.out.trans hf)
        clear hr hf
        go_wp2_with fail
        go_ret2
        unfold LReadPost
        rw [← HPJ2.out]
        exact ⟨_, rfl, World.ownsRow_nil _ _ _ _, HR4.out, HF4.out⟩
      subst he2
      rw [if_neg (by simp)] at hpj
      have HPJ2 := Aside0.mk hpj
      clear hpj
      go_wp2_with fail
      refine HGG.out.mono ?_
      rintro e w4 ⟨rfl, hr, hf⟩
      have hv4 := HRJ.out.fr hf HNI.out
      have HR4 := Aside0.mk hr
      have HF4 := Aside0.mk (HFJ.out.trans hf)
      obtain ⟨v5, w5, hrun, hr5, hg5⟩ := rowI_append (w4.alloc (.cells #[.int .i64 x] 3 (0, 0))) w.heap.size (.slice A1 acc.length c1) acc x w4.heap.size (hv4.below (below_alloc (Below.refl _ _) _)) (World.alloc_heap_new w4 _) (by have := HAJ.out; omega) (by have := HF4.out.size; simp; omega)
      obtain ⟨A5, c5, rfl⟩ := hr5.slice
      obtain ⟨hfa, hfb⟩ := row_more HF4.out hv4 hg5
      have HR5 := Aside0.mk (HR4.out.row hv4 hfb)
      have HF5 := Aside0.mk hfa
      have HV5 := Aside0.mk hr5
      have HRUN := Aside0.mk hrun
      clear hr hf hv4 hrun hr5 hg5 hfa hfb
      have hl5 : (acc ++ [x]).length = acc.length + 1 := by simp
      go_wp2_with (at_builtin; refine wpList_run_append rfl _ _ _ rfl _ _ rfl rfl HRUN.out ?_)
      go_roundw
      case rel => exact ⟨i + 1, b2, acc ++ [x], A5, c5, by rw [hl5], by go_num, by omega, HPJ2, ⟨by have := HAJ.out; omega⟩, ⟨by rw [← hl5]; exact HV5.out⟩, HR5, HF5⟩
      case measure => simp [intOf]; omega
    · obtain rfl : i = many := by omega
      have d1 : decide ((i : Int) < M) = false := by simp; omega
      have hpj := HPJ.out
      rw [Nat.sub_self, sgnsR] at hpj
      have HPJ2 := Aside0.mk hpj
      clear hpj
      go_wp2_with fail
      go_ret2
      unfold LReadPost
      rw [← HPJ2.out]
      exact ⟨_, rfl, HRJ.out, HBJ.out, HFJ.out⟩
def coefR (L : List Int) : Nat → Nat → List Int → List Int × Int × Nat
  | 0, a, acc => (acc, 0, a)
  | m + 1, a, acc => if (rSigned L a 8).2.1 ≠ 0 then ([], (rSigned L a 8).2.1, (rSigned L a 8).2.2) else if (rSigned L a 8).1 = -128 then ([], 4, (rSigned L a 8).2.2) else coefR L m (rSigned L a 8).2.2 (acc ++ [(rSigned L a 8).1])
theorem coefficients_any (S : Nat → Prop) (p a : Nat) (many : Nat) (L : List Int) (w : World) (hR : Rd w S p L a) (hm : many ≤ 100000) :
    Calls Tryz.prog 156 #[.pointer (some ⟨p, 0, none⟩), .int .i64 (many : Int)] w (LReadPost w S p L (coefR L many a [])) := by
  have HRS : Aside0 (coefR L many a [] = coefR L many a []) := ⟨rfl⟩
  obtain ⟨R, hR0⟩ : ∃ R, R = coefR L many a [] := ⟨_, rfl⟩
  rw [← hR0]
  have HR0 := Aside0.mk hR0.symm
  have HRD := Aside0.mk hR
  clear hR hR0 HRS
  obtain ⟨M, hM⟩ : ∃ M : Int, (many : Int) = M := ⟨_, rfl⟩
  rw [hM]
  go_enter Tryz.func156, Tryz.ntmps156
  go_wp2_with fail
  go_loopw [6, 10] (fun v u wr => ∃ (i b : Nat) (acc : List Int) (A1 : Option Addr) (c1 : Nat), v = .slice A1 acc.length c1 ∧ u = .int .i64 (i : Int) ∧ i ≤ many ∧ Aside0 (coefR L (many - i) b acc = R) ∧ Aside0 (acc.length ≤ i) ∧ Aside0 (RowV wr w.heap.size 3 1 v acc.length (flatI acc)) ∧ Aside0 (Rd wr S p L b) ∧ Aside0 (Fr (fun k => k = p) w wr)) (fun _ u _ => many - (intOf u).toNat)
  case atStart => exact ⟨0, a, [], none, 0, rfl, rfl, by omega, HR0, ⟨by simp⟩, ⟨World.ownsRow_nil _ _ _ _⟩, HRD, ⟨Fr.refl _ _⟩⟩
  case round =>
    obtain ⟨i, b, acc, A1, c1, rfl, rfl, hi, HPJ, HAJ, HRJ, HBJ, HFJ⟩ := hrel
    by_cases hlt : i < many
    · have d1 : decide ((i : Int) < M) = true := by simp; omega
      have hgs := RSigned_any S p b L 8 wr HBJ.out
      have hpj := HPJ.out
      rw [show many - i = (many - (i + 1)) + 1 by omega, coefR] at hpj
      unfold RdPost at hgs
      generalize rSigned L b 8 = gg at *
      obtain ⟨x, e2, b2⟩ := gg
      dsimp only at hgs hpj
      have HGG := Aside0.mk hgs
      have HNI := Aside0.mk HBJ.out.notint
      clear hgs
      by_cases he2 : e2 = 0
      case neg =>
        rw [if_pos he2] at hpj
        have q1 : (e2 != 0) = true := by simpa using he2
        have HPJ2 := Aside0.mk hpj
        clear he2 hpj
        go_wp2_with fail
        refine HGG.out.mono ?_
        rintro e w4 ⟨rfl, hr, hf⟩
        have HR4 := Aside0.mk hr
        have HF4 := Aside0.mk (HFJ.out.trans hf)
        clear hr hf
        go_wp2_with fail
        go_ret2
        unfold LReadPost
        rw [← HPJ2.out]
        exact ⟨_, rfl, World.ownsRow_nil _ _ _ _, HR4.out, HF4.out⟩
      subst he2
      rw [if_neg (by simp)] at hpj
      by_cases hx : x = -128
      · subst hx
        rw [if_pos rfl] at hpj
        have HPJ2 := Aside0.mk hpj
        clear hpj
        go_wp2_with fail
        refine HGG.out.mono ?_
        rintro e w4 ⟨rfl, hr, hf⟩
        have HR4 := Aside0.mk hr
        have HF4 := Aside0.mk (HFJ.out.trans hf)
        clear hr hf
        go_wp2_with fail
        go_ret2
        unfold LReadPost
        rw [← HPJ2.out]
        exact ⟨_, rfl, World.ownsRow_nil _ _ _ _, HR4.out, HF4.out⟩
      rw [if_neg hx] at hpj
      have q2 : (x == -128) = false := by simpa using hx
      clear hx
      have HPJ2 := Aside0.mk hpj
      clear hpj
      go_wp2_with fail
      refine HGG.out.mono ?_
      rintro e w4 ⟨rfl, hr, hf⟩
      have hv4 := HRJ.out.fr hf HNI.out
      have HR4 := Aside0.mk hr
      have HF4 := Aside0.mk (HFJ.out.trans hf)
      obtain ⟨v5, w5, hrun, hr5, hg5⟩ := rowI_append (w4.alloc (.cells #[.int .i64 x] 3 (0, 0))) w.heap.size (.slice A1 acc.length c1) acc x w4.heap.size (hv4.below (below_alloc (Below.refl _ _) _)) (World.alloc_heap_new w4 _) (by have := HAJ.out; omega) (by have := HF4.out.size; simp; omega)
      obtain ⟨A5, c5, rfl⟩ := hr5.slice
      obtain ⟨hfa, hfb⟩ := row_more HF4.out hv4 hg5
      have HR5 := Aside0.mk (HR4.out.row hv4 hfb)
      have HF5 := Aside0.mk hfa
      have HV5 := Aside0.mk hr5
      have HRUN := Aside0.mk hrun
      clear hr hf hv4 hrun hr5 hg5 hfa hfb
      have hl5 : (acc ++ [x]).length = acc.length + 1 := by simp
      go_wp2_with (at_builtin; refine wpList_run_append rfl _ _ _ rfl _ _ rfl rfl HRUN.out ?_)
      go_roundw
      case rel => exact ⟨i + 1, b2, acc ++ [x], A5, c5, by rw [hl5], by go_num, by omega, HPJ2, ⟨by have := HAJ.out; omega⟩, ⟨by rw [← hl5]; exact HV5.out⟩, HR5, HF5⟩
      case measure => simp [intOf]; omega
    · obtain rfl : i = many := by omega
      have d1 : decide ((i : Int) < M) = false := by simp; omega
      have hpj := HPJ.out
      rw [Nat.sub_self, coefR] at hpj
      have HPJ2 := Aside0.mk hpj
      clear hpj
      go_wp2_with fail
      go_ret2
      unfold LReadPost
      rw [← HPJ2.out]
      exact ⟨_, rfl, HRJ.out, HBJ.out, HFJ.out⟩
def aliR (L : List Int) (a n : Nat) : List Int × Int × Nat :=
  if (rSigned L a 17).2.1 ≠ 0 then ([], (rSigned L a 17).2.1, (rSigned L a 17).2.2) else (List.replicate n (rSigned L a 17).1, 0, (rSigned L a 17).2.2)
theorem rep_append (k : Nat) (x : Int) : List.replicate k x ++ [x] = List.replicate (k + 1) x := by rw [List.replicate_succ']
theorem alike_any (S : Nat → Prop) (p a n : Nat) (L : List Int) (w : World) (hR : Rd w S p L a) (hn : 1 ≤ n ∧ n ≤ 100000) :
    Calls Tryz.prog 124 #[.pointer (some ⟨p, 0, none⟩), .int .i64 (n : Int)] w (LReadPost w S p L (aliR L a n)) := by
  have HS := Aside0.mk (signed_any S p a 1 17 L w hR (by omega))
  have HA : Aside0 (aliR L a n = if (rSigned L a 17).2.1 ≠ 0 then ([], (rSigned L a 17).2.1, (rSigned L a 17).2.2) else (List.replicate n (rSigned L a 17).1, 0, (rSigned L a 17).2.2)) := ⟨rfl⟩
  have e1 : sgnsR L 17 1 a [] = if (rSigned L a 17).2.1 ≠ 0 then ([], (rSigned L a 17).2.1, (rSigned L a 17).2.2) else ([(rSigned L a 17).1], 0, (rSigned L a 17).2.2) := rfl
  rw [e1, show ((1 : Nat) : Int) = 1 from rfl] at HS
  generalize aliR L a n = R at *
  generalize rSigned L a 17 = gg at *
  obtain ⟨x, e2, b2⟩ := gg
  dsimp only at HS HA
  obtain ⟨nI, hnI⟩ : ∃ nI : Int, (n : Int) = nI := ⟨_, rfl⟩
  rw [hnI]
  clear hR e1
  by_cases he2 : e2 = 0
  case neg =>
    rw [if_pos he2] at HS HA
    unfold LReadPost at HS
    have q1 : (e2 == 0) = false := by simpa using he2
    clear he2
    go_enter Tryz.func124, Tryz.ntmps124
    go_wp2_with fail
    refine HS.out.mono ?_
    rintro e w4 ⟨v, rfl, hv, hr, hf⟩
    obtain ⟨A4, c4, rfl⟩ := hv.slice
    have HV4 := Aside0.mk hv
    have HR4 := Aside0.mk hr
    have HF4 := Aside0.mk hf
    clear hv hr hf
    go_wp2_with fail
    go_loopw [6] (fun v wr => v = .slice A4 0 c4 ∧ Aside0 (wr = w4)) (fun _ _ => 0)
    case atStart => exact ⟨rfl, ⟨rfl⟩⟩
    case round =>
      obtain ⟨rfl, HWQ⟩ := hrel
      obtain rfl := HWQ.out
      go_wp2_with fail
      go_ret2
      unfold LReadPost
      rw [HA.out]
      exact ⟨_, rfl, HV4.out, HR4.out, HF4.out⟩
  subst he2
  rw [if_neg (by simp)] at HS HA
  unfold LReadPost at HS
  go_enter Tryz.func124, Tryz.ntmps124
  go_wp2_with fail
  refine HS.out.mono ?_
  rintro e w4 ⟨v, rfl, hv, hr, hf⟩
  obtain ⟨A4, c4, rfl⟩ := hv.slice
  have HV4 := Aside0.mk hv
  have HR4 := Aside0.mk hr
  have HF4 := Aside0.mk hf
  clear hv hr hf
  go_wp2_with fail
  go_loopw [6] (fun v wr => ∃ (i : Nat) (A1 : Option Addr) (c1 : Nat), v = .slice A1 i c1 ∧ 1 ≤ i ∧ i ≤ n ∧ Aside0 (RowV wr w.heap.size 3 1 v (List.replicate i x).length (flatI (List.replicate i x))) ∧ Aside0 (Rd wr S p L b2) ∧ Aside0 (Fr (fun k => k = p) w wr)) (fun v _ => n - (match v with | .slice _ m _ => m | _ => 0))
  case atStart => exact ⟨1, A4, c4, rfl, Nat.le_refl _, hn.1, HV4, HR4, HF4⟩
  case round =>
    obtain ⟨i, A1, c1, rfl, hi1, hi, HRJ, HBJ, HFJ⟩ := hrel
    have hlr : (List.replicate i x).length = i := List.length_replicate
    by_cases hlt : i < n
    · have d1 : decide ((i : Int) < nI) = true := by simp; omega
      obtain ⟨A9, c9, e9, _, hC⟩ := RowV.reads HRJ.out (by omega)
      rw [hlr] at hC e9
      cases e9
      obtain ⟨ad, e, hx⟩ := at64 hC 0 (by omega)
      subst e
      rw [show ad.add 0 = ad by simp [Addr.add], List.getD_eq_getElem?_getD, List.getElem?_replicate, if_pos (by omega), Option.getD_some] at hx
      obtain ⟨v5, w5, hrun, hr5, hg5⟩ := rowI_append (wr.alloc (.cells #[.int .i64 x] 3 (0, 0))) w.heap.size (.slice (some ad) i c1) (List.replicate i x) x wr.heap.size (HRJ.out.below (below_alloc (Below.refl _ _) _)) (World.alloc_heap_new wr _) (by omega) (by have := HFJ.out.size; simp; omega)
      rw [rep_append] at hr5
      obtain ⟨A5, c5, rfl⟩ := hr5.slice
      obtain ⟨hfa, hfb⟩ := row_more HFJ.out HRJ.out hg5
      have HR5 := Aside0.mk (HBJ.out.row HRJ.out hfb)
      have HF5 := Aside0.mk hfa
      have HV5 := Aside0.mk hr5
      have HRUN := Aside0.mk hrun
      have i0 : (0 : Int) < (i : Int) := by omega
      have HLR := Aside0.mk (show (List.replicate (i + 1) x).length = i + 1 from List.length_replicate)
      clear hrun hr5 hg5 hfa hfb hC hlr
      go_wp2_with (at_builtin; refine wpList_run_append rfl _ _ _ rfl _ _ rfl rfl HRUN.out ?_)
      go_roundw
      case rel => exact ⟨i + 1, A5, c5, rfl, by omega, by omega, ⟨by have h := HV5.out; rw [HLR.out] at h ⊢; exact h⟩, HR5, HF5⟩
      case measure => simp; omega
    · obtain rfl : i = n := by omega
      have d1 : decide ((i : Int) < nI) = false := by simp; omega
      rw [hlr] at HRJ
      clear hlr
      go_wp2_with fail
      go_ret2
      unfold LReadPost
      rw [HA.out]
      dsimp only
      rw [List.length_replicate]
      exact ⟨_, rfl, HRJ.out, HBJ.out, HFJ.out⟩
theorem RowV.len {w : World} {base : Nat} {e : TypeId} {v : Value} {n : Nat} {fl : List Value} (h : RowV w base e 1 v n fl) : n ≤ 9223372036854775807 := by
  rcases h.2 with ⟨rfl, hn⟩ | ⟨g, cap, cur, rfl, hb, hg, hle, hcap, hsz, htk⟩
  · omega
  · simp only [maxLen] at hcap; omega
theorem RowV.of_R {w : World} {base : Nat} {ok : Nat → Prop} {v : Value} {l : List Int} (h : Kd.R (Kd.int .i64) 3 w base ok v l) : RowV w base 3 1 v l.length (flatI l) := Kd.own_of_R h
def fAdd (l : List Int) (k : Int) : List Int × Int := (Lin.linear_Add.f l k).getD ([], 0)
theorem fAdd_some (l : List Int) (k : Int) (hl : l.length ≤ 9223372036854775807) : Lin.linear_Add.f l k = some ((fAdd l k).1, (fAdd l k).2) := by
  have : ∃ r, Lin.linear_Add.f l k = some r := by
    unfold Lin.linear_Add.f
    rw [if_pos hl]
    split
    · exact ⟨_, rfl⟩
    · split
      · split
        · exact ⟨_, rfl⟩
        · split <;> exact ⟨_, rfl⟩
      · exact ⟨_, rfl⟩
  obtain ⟨r, hr⟩ := this
  unfold fAdd
  rw [hr]; rfl
def fRest (l f : List Int) : List Int × Int := (Lin.linear_Restore.f l f).getD ([], 0)
theorem fRest_some (l f : List Int) (hl : l.length ≤ 9223372036854775807) (hf : f.length ≤ 9223372036854775807) : Lin.linear_Restore.f l f = some ((fRest l f).1, (fRest l f).2) := by
  have : ∃ r, Lin.linear_Restore.f l f = some r := by
    unfold Lin.linear_Restore.f
    rw [if_pos ⟨hl, hf⟩]
    split
    · exact ⟨_, rfl⟩
    · split
      · split <;> exact ⟨_, rfl⟩
      · exact ⟨_, rfl⟩
  obtain ⟨r, hr⟩ := this
  unfold fRest
  rw [hr]; rfl
def addR (L : List Int) (a n : Nat) : List Int × Int × Nat :=
  if (rGet L a 3).2.1 ≠ 0 then ([], (rGet L a 3).2.1, (rGet L a 3).2.2) else if 4 < (rGet L a 3).1 then ([], 4, (rGet L a 3).2.2)
  else if (fRead L (rGet L a 3).2.2 n).2.1 ≠ 0 then ([], (fRead L (rGet L a 3).2.2 n).2.1, (fRead L (rGet L a 3).2.2 n).2.2)
  else ((fAdd (fRead L (rGet L a 3).2.2 n).1 (rGet L a 3).1).1, (fAdd (fRead L (rGet L a 3).2.2 n).1 (rGet L a 3).1).2, (fRead L (rGet L a 3).2.2 n).2.2)
theorem added_any (S : Nat → Prop) (p a n : Nat) (L : List Int) (w : World) (hR : Rd w S p L a) :
    Calls Tryz.prog 126 #[.pointer (some ⟨p, 0, none⟩), .int .i64 (n : Int)] w (LReadPost w S p L (addR L a n)) := by
  have hg := Get_any S p a L 3 w hR
  unfold RdPost at hg
  have HA : Aside0 (addR L a n = _) := ⟨addR.eq_1 L a n⟩
  have HRD := Aside0.mk (fun b W (h : Rd W S p L b) => Read_any5 S p b (n : Int) L W h)
  generalize addR L a n = R at *
  generalize rGet L a 3 = gg at *
  obtain ⟨k, e2, b2⟩ := gg
  dsimp only at hg HA
  have HG := Aside0.mk hg
  obtain ⟨nI, hnI⟩ : ∃ nI : Int, (n : Int) = nI := ⟨_, rfl⟩
  rw [hnI] at HA HRD ⊢
  clear hR hg hnI
  by_cases he2 : e2 = 0
  case neg =>
    rw [if_pos he2] at HA
    have q1 : (e2 == 0) = false := by simpa using he2
    have q2 : (e2 != 0) = true := by simpa using he2
    clear he2
    go_enter Tryz.func126, Tryz.ntmps126
    go_wp2_with fail
    refine HG.out.mono ?_
    rintro e w4 ⟨rfl, hr, hf⟩
    have HR4 := Aside0.mk hr
    have HF4 := Aside0.mk hf
    clear hr hf
    go_wp2_with fail
    go_ret2
    unfold LReadPost
    rw [HA.out]
    exact ⟨_, rfl, World.ownsRow_nil _ _ _ _, HR4.out, HF4.out⟩
  subst he2
  rw [if_neg (by simp)] at HA
  by_cases hk : 4 < k
  · rw [if_pos hk] at HA
    have d1 : decide (4 < k) = true := decide_eq_true hk
    clear hk
    go_enter Tryz.func126, Tryz.ntmps126
    go_wp2_with fail
    refine HG.out.mono ?_
    rintro e w4 ⟨rfl, hr, hf⟩
    have HR4 := Aside0.mk hr
    have HF4 := Aside0.mk hf
    clear hr hf
    go_wp2_with fail
    go_ret2
    unfold LReadPost
    rw [HA.out]
    exact ⟨_, rfl, World.ownsRow_nil _ _ _ _, HR4.out, HF4.out⟩
  rw [if_neg hk] at HA
  have d1 : decide (4 < k) = false := decide_eq_false hk
  have hrd := HRD.out b2
  unfold LReadPost at hrd
  generalize fRead L b2 nI = rr at *
  obtain ⟨d, e3, b3⟩ := rr
  dsimp only at hrd HA
  have HRD2 := Aside0.mk hrd
  clear hk hrd HRD
  by_cases he3 : e3 = 0
  case neg =>
    rw [if_pos he3] at HA
    have q2 : (e3 != 0) = true := by simpa using he3
    clear he3
    go_enter Tryz.func126, Tryz.ntmps126
    go_wp2_with fail
    refine HG.out.mono ?_
    rintro e w4 ⟨rfl, hr, hf⟩
    have HR4 := Aside0.mk hr
    have HF4 := Aside0.mk hf
    clear hr hf
    go_wp2_with fail
    refine (HRD2.out w4 HR4.out).mono ?_
    rintro e w5 ⟨v5, rfl, hv, hr, hf⟩
    obtain ⟨A5, c5, rfl⟩ := hv.slice
    have HR5 := Aside0.mk hr
    have HF5 := Aside0.mk (HF4.out.trans hf)
    clear hv hr hf
    go_wp2_with fail
    go_ret2
    unfold LReadPost
    rw [HA.out]
    exact ⟨_, rfl, World.ownsRow_nil _ _ _ _, HR5.out, HF5.out⟩
  subst he3
  rw [if_neg (by simp)] at HA
  go_enter Tryz.func126, Tryz.ntmps126
  go_wp2_with fail
  refine HG.out.mono ?_
  rintro e w4 ⟨rfl, hr, hf⟩
  have HR4 := Aside0.mk hr
  have HF4 := Aside0.mk hf
  clear hr hf
  go_wp2_with fail
  refine (HRD2.out w4 HR4.out).mono ?_
  rintro e w5 ⟨v5, rfl, hv, hr, hf⟩
  have hdl := RowV.len hv
  obtain ⟨A5, c5, rfl, hc5, hC5⟩ := RowV.reads hv hdl
  have hadd := Lin.linear_Add.calls A5 c5 d k _ _ w5 hC5 hc5 (fAdd_some d k hdl)
  have HADD := Aside0.mk hadd
  have HR5 := Aside0.mk hr
  have HF5 := Aside0.mk (HF4.out.trans hf)
  generalize fAdd d k = ff at *
  obtain ⟨x, e4⟩ := ff
  dsimp only at HADD HA
  clear hv hr hf hdl hc5 hC5 hadd
  go_wp2_with fail
  refine HADD.out.mono ?_
  rintro e w6 ⟨v6, rfl, hr6, hb6⟩
  have HV6 := Aside0.mk (RowV.of_R hr6)
  have HB6 := Aside0.mk hb6
  clear hr6 hb6
  go_wp2_with fail
  go_ret2
  unfold LReadPost
  rw [HA.out]
  exact ⟨_, rfl, HV6.out.mono HF5.out.size, HR5.out.below HB6.out, HF5.out.trans (Fr.below HB6.out _)⟩
def restR (L : List Int) (a n : Nat) : List Int × Int × Nat :=
  if (rGet L a 4).2.1 ≠ 0 then ([], (rGet L a 4).2.1, (rGet L a 4).2.2) else if (rGet L a 4).1 = 0 ∨ 12 < (rGet L a 4).1 then ([], 4, (rGet L a 4).2.2)
  else if (coefR L (rGet L a 4).1.toNat (rGet L a 4).2.2 []).2.1 ≠ 0 then ([], (coefR L (rGet L a 4).1.toNat (rGet L a 4).2.2 []).2.1, (coefR L (rGet L a 4).1.toNat (rGet L a 4).2.2 []).2.2)
  else if (fRead L (coefR L (rGet L a 4).1.toNat (rGet L a 4).2.2 []).2.2 n).2.1 ≠ 0 then ([], (fRead L (coefR L (rGet L a 4).1.toNat (rGet L a 4).2.2 []).2.2 n).2.1, (fRead L (coefR L (rGet L a 4).1.toNat (rGet L a 4).2.2 []).2.2 n).2.2)
  else ((fRest (fRead L (coefR L (rGet L a 4).1.toNat (rGet L a 4).2.2 []).2.2 n).1 (coefR L (rGet L a 4).1.toNat (rGet L a 4).2.2 []).1).1, (fRest (fRead L (coefR L (rGet L a 4).1.toNat (rGet L a 4).2.2 []).2.2 n).1 (coefR L (rGet L a 4).1.toNat (rGet L a 4).2.2 []).1).2, (fRead L (coefR L (rGet L a 4).1.toNat (rGet L a 4).2.2 []).2.2 n).2.2)
theorem restored_any (S : Nat → Prop) (p a n : Nat) (L : List Int) (w : World) (hR : Rd w S p L a) :
    Calls Tryz.prog 127 #[.pointer (some ⟨p, 0, none⟩), .int .i64 (n : Int)] w (LReadPost w S p L (restR L a n)) := by
  have hg := Get_any S p a L 4 w hR
  unfold RdPost at hg
  have h01 := hR.bits
  have hgo := @rGet_ok L a 4 h01
  have HA : Aside0 (restR L a n = _) := ⟨restR.eq_1 L a n⟩
  have HRD := Aside0.mk (fun b W (h : Rd W S p L b) => Read_any5 S p b (n : Int) L W h)
  have HCO := Aside0.mk (fun b m W (h : Rd W S p L b) hm => coefficients_any S p b m L W h hm)
  have HCL := Aside0.mk (fun (W : World) (h : Rd W S p L a) => h.len)
  generalize restR L a n = R at *
  generalize rGet L a 4 = gg at *
  obtain ⟨kI, e2, b2⟩ := gg
  dsimp only at hg HA hgo
  have HG := Aside0.mk hg
  obtain ⟨nI, hnI⟩ : ∃ nI : Int, (n : Int) = nI := ⟨_, rfl⟩
  rw [hnI] at HA HRD ⊢
  have HRW := Aside0.mk hR
  clear hR hg hnI
  by_cases he2 : e2 = 0
  case neg =>
    rw [if_pos he2] at HA
    have q1 : (e2 == 0) = false := by simpa using he2
    have q2 : (e2 != 0) = true := by simpa using he2
    clear he2 hgo
    go_enter Tryz.func127, Tryz.ntmps127
    go_wp2_with fail
    refine HG.out.mono ?_
    rintro e w4 ⟨rfl, hr, hf⟩
    have HR4 := Aside0.mk hr
    have HF4 := Aside0.mk hf
    clear hr hf
    go_wp2_with fail
    go_ret2
    unfold LReadPost
    rw [HA.out]
    exact ⟨_, rfl, World.ownsRow_nil _ _ _ _, HR4.out, HF4.out⟩
  subst he2
  rw [if_neg (by simp)] at HA
  by_cases hk0 : kI = 0
  · subst hk0
    rw [if_pos (.inl rfl)] at HA
    clear hgo
    go_enter Tryz.func127, Tryz.ntmps127
    go_wp2_with fail
    refine HG.out.mono ?_
    rintro e w4 ⟨rfl, hr, hf⟩
    have HR4 := Aside0.mk hr
    have HF4 := Aside0.mk hf
    clear hr hf
    go_wp2_with fail
    go_ret2
    unfold LReadPost
    rw [HA.out]
    exact ⟨_, rfl, World.ownsRow_nil _ _ _ _, HR4.out, HF4.out⟩
  have d0 : (kI == 0) = false := by simpa using hk0
  by_cases hk : 12 < kI
  · rw [if_pos (.inr hk)] at HA
    have d1 : decide (12 < kI) = true := decide_eq_true hk
    clear hk hgo hk0
    go_enter Tryz.func127, Tryz.ntmps127
    go_wp2_with fail
    refine HG.out.mono ?_
    rintro e w4 ⟨rfl, hr, hf⟩
    have HR4 := Aside0.mk hr
    have HF4 := Aside0.mk hf
    clear hr hf
    go_wp2_with fail
    go_ret2
    unfold LReadPost
    rw [HA.out]
    exact ⟨_, rfl, World.ownsRow_nil _ _ _ _, HR4.out, HF4.out⟩
  rw [if_neg (by omega)] at HA
  have d1 : decide (12 < kI) = false := decide_eq_false hk
  have hkp : 0 ≤ kI := (hgo rfl).1
  obtain ⟨m, rfl⟩ : ∃ m : Nat, kI = m := ⟨kI.toNat, by omega⟩
  rw [Int.toNat_natCast] at HA
  have hco := HCO.out b2 m
  unfold LReadPost at hco
  generalize coefR L m b2 [] = cc at *
  obtain ⟨f, e3, b3⟩ := cc
  dsimp only at hco HA
  have HC2 := Aside0.mk (fun W h => hco W h (by omega))
  obtain ⟨mI, hmI⟩ : ∃ mI : Int, (m : Int) = mI := ⟨_, rfl⟩
  rw [hmI] at HC2 HG d0 d1
  clear hk0 hk hkp hgo hco hmI HCO
  by_cases he3 : e3 = 0
  case neg =>
    rw [if_pos he3] at HA
    have q2 : (e3 != 0) = true := by simpa using he3
    clear he3
    go_enter Tryz.func127, Tryz.ntmps127
    go_wp2_with fail
    refine HG.out.mono ?_
    rintro e w4 ⟨rfl, hr, hf⟩
    have HR4 := Aside0.mk hr
    have HF4 := Aside0.mk hf
    clear hr hf
    go_wp2_with fail
    refine (HC2.out w4 HR4.out).mono ?_
    rintro e w5 ⟨v5, rfl, hv, hr, hf⟩
    obtain ⟨A5, c5, rfl⟩ := hv.slice
    have HR5 := Aside0.mk hr
    have HF5 := Aside0.mk (HF4.out.trans hf)
    clear hv hr hf
    go_wp2_with fail
    go_ret2
    unfold LReadPost
    rw [HA.out]
    exact ⟨_, rfl, World.ownsRow_nil _ _ _ _, HR5.out, HF5.out⟩
  subst he3
  rw [if_neg (by simp)] at HA
  have hrd := HRD.out b3
  unfold LReadPost at hrd
  generalize fRead L b3 nI = rr at *
  obtain ⟨d, e4, b4⟩ := rr
  dsimp only at hrd HA
  have HRD2 := Aside0.mk hrd
  clear hrd HRD
  by_cases he4 : e4 = 0
  case neg =>
    rw [if_pos he4] at HA
    have q2 : (e4 != 0) = true := by simpa using he4
    clear he4
    go_enter Tryz.func127, Tryz.ntmps127
    go_wp2_with fail
    refine HG.out.mono ?_
    rintro e w4 ⟨rfl, hr, hf⟩
    have HR4 := Aside0.mk hr
    have HF4 := Aside0.mk hf
    clear hr hf
    go_wp2_with fail
    refine (HC2.out w4 HR4.out).mono ?_
    rintro e w5 ⟨v5, rfl, hv, hr, hf⟩
    obtain ⟨A5, c5, rfl⟩ := hv.slice
    have HR5 := Aside0.mk hr
    have HF5 := Aside0.mk (HF4.out.trans hf)
    clear hv hr hf
    go_wp2_with fail
    refine (HRD2.out w5 HR5.out).mono ?_
    rintro e w6 ⟨v6, rfl, hv, hr, hf⟩
    obtain ⟨A6, c6, rfl⟩ := hv.slice
    have HR6 := Aside0.mk hr
    have HF6 := Aside0.mk (HF5.out.trans hf)
    clear hv hr hf
    go_wp2_with fail
    go_ret2
    unfold LReadPost
    rw [HA.out]
    exact ⟨_, rfl, World.ownsRow_nil _ _ _ _, HR6.out, HF6.out⟩
  subst he4
  rw [if_neg (by simp)] at HA
  go_enter Tryz.func127, Tryz.ntmps127
  go_wp2_with fail
  refine HG.out.mono ?_
  rintro e w4 ⟨rfl, hr, hf⟩
  have HR4 := Aside0.mk hr
  have HF4 := Aside0.mk hf
  clear hr hf
  go_wp2_with fail
  refine (HC2.out w4 HR4.out).mono ?_
  rintro e w5 ⟨v5, rfl, hv, hr, hf⟩
  have hfl := RowV.len hv
  have hvf := hv
  obtain ⟨A5, c5, rfl, hc5, hC5⟩ := RowV.reads hv hfl
  have HR5 := Aside0.mk hr
  have HF5 := Aside0.mk (HF4.out.trans hf)
  have HVF := Aside0.mk hvf
  have HFL := Aside0.mk hfl
  have HC5 := Aside0.mk hc5
  have hnv := HR5.out.notint
  have HNI := Aside0.mk hnv
  clear hv hr hf hvf hfl hc5 hC5 hnv
  go_wp2_with fail
  refine (HRD2.out w5 HR5.out).mono ?_
  rintro e w6 ⟨v6, rfl, hv, hr, hf⟩
  have hdl := RowV.len hv
  obtain ⟨A6, c6, rfl, hc6, hC6⟩ := RowV.reads hv hdl
  have hvf6 := HVF.out.fr hf HNI.out
  obtain ⟨A5', c5', e5, _, hC56⟩ := RowV.reads hvf6 HFL.out
  cases e5
  have hrs := Lin.linear_Restore.calls A6 c6 d A5 c5 f _ _ w6 hC6 hc6 hC56 HC5.out (fRest_some d f hdl HFL.out)
  have HRS := Aside0.mk hrs
  have HR6 := Aside0.mk hr
  have HF6 := Aside0.mk (HF5.out.trans hf)
  generalize fRest d f = ff at *
  obtain ⟨x, e4⟩ := ff
  dsimp only at HRS HA
  clear hv hr hf hdl hc6 hC6 hrs hvf6 hC56
  go_wp2_with fail
  refine HRS.out.mono ?_
  rintro e w7 ⟨v7, rfl, hr7, hb7⟩
  have HV7 := Aside0.mk (RowV.of_R hr7)
  have HB7 := Aside0.mk hb7
  clear hr7 hb7
  go_wp2_with fail
  go_ret2
  unfold LReadPost
  rw [HA.out]
  exact ⟨_, rfl, HV7.out.mono HF6.out.size, HR6.out.below HB7.out, HF6.out.trans (Fr.below HB7.out _)⟩
def toldR (L : List Int) (a : Nat) (k : Int) (n : Nat) : List Int × Int × Nat :=
  if k = 0 then aliR L a n else if k = 1 then sgnsR L 17 n a [] else if k = 2 then addR L a n else restR L a n
theorem told_any (S : Nat → Prop) (p a n : Nat) (k : Int) (L : List Int) (w : World) (hR : Rd w S p L a) (hn : 1 ≤ n ∧ n ≤ 100000) :
    Calls Tryz.prog 97 #[.pointer (some ⟨p, 0, none⟩), .int .i64 k, .int .i64 (n : Int)] w (LReadPost w S p L (toldR L a k n)) := by
  have HA : Aside0 (toldR L a k n = _) := ⟨toldR.eq_1 L a k n⟩
  have h0 := alike_any S p a n L w hR hn
  have h1 := signed_any S p a n 17 L w hR (by omega)
  have h2 := added_any S p a n L w hR
  have h3 := restored_any S p a n L w hR
  unfold LReadPost at h0 h1 h2 h3
  have H0 := Aside0.mk h0
  have H1 := Aside0.mk h1
  have H2 := Aside0.mk h2
  have H3 := Aside0.mk h3
  clear h0 h1 h2 h3 hR hn
  obtain ⟨nI, hnI⟩ : ∃ nI : Int, (n : Int) = nI := ⟨_, rfl⟩
  rw [hnI] at H0 H1 H2 H3 ⊢
  clear hnI
  by_cases k0 : k = 0
  · subst k0
    rw [if_pos rfl] at HA
    go_enter Tryz.func97, Tryz.ntmps97
    go_wp2_with fail
    refine H0.out.mono ?_
    rintro e w4 ⟨v, rfl, hv, hr, hf⟩
    have HX := Aside0.mk (show RowV w4 w.heap.size 3 1 v (aliR L a n).1.length (flatI (aliR L a n).1) ∧ Rd w4 S p L (aliR L a n).2.2 ∧ Fr (fun k => k = p) w w4 from ⟨hv, hr, hf⟩)
    clear hv hr hf
    go_wp2_with fail
    go_ret2
    unfold LReadPost
    rw [HA.out]
    exact ⟨v, rfl, HX.out⟩
  rw [if_neg k0] at HA
  have d0 : (k == 0) = false := by simpa using k0
  by_cases k1 : k = 1
  · subst k1
    rw [if_pos rfl] at HA
    clear k0
    go_enter Tryz.func97, Tryz.ntmps97
    go_wp2_with fail
    refine H1.out.mono ?_
    rintro e w4 ⟨v, rfl, hv, hr, hf⟩
    have HX := Aside0.mk (show RowV w4 w.heap.size 3 1 v (sgnsR L 17 n a []).1.length (flatI (sgnsR L 17 n a []).1) ∧ Rd w4 S p L (sgnsR L 17 n a []).2.2 ∧ Fr (fun k => k = p) w w4 from ⟨hv, hr, hf⟩)
    clear hv hr hf
    go_wp2_with fail
    go_ret2
    unfold LReadPost
    rw [HA.out]
    exact ⟨v, rfl, HX.out⟩
  rw [if_neg k1] at HA
  have d1 : (k == 1) = false := by simpa using k1
  by_cases k2 : k = 2
  · subst k2
    rw [if_pos rfl] at HA
    clear k0 k1
    go_enter Tryz.func97, Tryz.ntmps97
    go_wp2_with fail
    refine H2.out.mono ?_
    rintro e w4 ⟨v, rfl, hv, hr, hf⟩
    have HX := Aside0.mk (show RowV w4 w.heap.size 3 1 v (addR L a n).1.length (flatI (addR L a n).1) ∧ Rd w4 S p L (addR L a n).2.2 ∧ Fr (fun k => k = p) w w4 from ⟨hv, hr, hf⟩)
    clear hv hr hf
    go_wp2_with fail
    go_ret2
    unfold LReadPost
    rw [HA.out]
    exact ⟨v, rfl, HX.out⟩
  rw [if_neg k2] at HA
  have d2 : (k == 2) = false := by simpa using k2
  clear k0 k1 k2
  go_enter Tryz.func97, Tryz.ntmps97
  go_wp2_with fail
  refine H3.out.mono ?_
  rintro e w4 ⟨v, rfl, hv, hr, hf⟩
  have HX := Aside0.mk (show RowV w4 w.heap.size 3 1 v (restR L a n).1.length (flatI (restR L a n).1) ∧ Rd w4 S p L (restR L a n).2.2 ∧ Fr (fun k => k = p) w w4 from ⟨hv, hr, hf⟩)
  clear hv hr hf
  go_wp2_with fail
  go_ret2
  unfold LReadPost
  rw [HA.out]
  exact ⟨v, rfl, HX.out⟩
def sigR (L : List Int) (a n : Nat) : List Int × Int × Nat :=
  if (rGet L a 2).2.1 ≠ 0 then ([], (rGet L a 2).2.1, (rGet L a 2).2.2)
  else if (toldR L (rGet L a 2).2.2 (rGet L a 2).1 n).2.1 ≠ 0 then ([], (toldR L (rGet L a 2).2.2 (rGet L a 2).1 n).2.1, (toldR L (rGet L a 2).2.2 (rGet L a 2).1 n).2.2)
  else ((toldR L (rGet L a 2).2.2 (rGet L a 2).1 n).1, chkS (toldR L (rGet L a 2).2.2 (rGet L a 2).1 n).1, (toldR L (rGet L a 2).2.2 (rGet L a 2).1 n).2.2)
theorem signal_any (S : Nat → Prop) (p a n : Nat) (L : List Int) (w : World) (hR : Rd w S p L a) (hn : 1 ≤ n ∧ n ≤ 100000) :
    Calls Tryz.prog 73 #[.pointer (some ⟨p, 0, none⟩), .int .i64 (n : Int)] w (LReadPost w S p L (sigR L a n)) := by
  have hg := Get_any S p a L 2 w hR
  unfold RdPost at hg
  have HA : Aside0 (sigR L a n = _) := ⟨sigR.eq_1 L a n⟩
  have HTD := Aside0.mk (fun b k W (h : Rd W S p L b) => told_any S p b n k L W h hn)
  generalize sigR L a n = R at *
  generalize rGet L a 2 = gg at *
  obtain ⟨k, e2, b2⟩ := gg
  dsimp only at hg HA
  have HG := Aside0.mk hg
  have htd := HTD.out b2 k
  unfold LReadPost at htd
  generalize toldR L b2 k n = tt at *
  obtain ⟨x, e3, b3⟩ := tt
  dsimp only at htd HA
  have HT := Aside0.mk htd
  clear hg htd HTD hR hn
  obtain ⟨nI, hnI⟩ : ∃ nI : Int, (n : Int) = nI := ⟨_, rfl⟩
  rw [hnI] at HT ⊢
  clear hnI
  by_cases he2 : e2 = 0
  case neg =>
    rw [if_pos he2] at HA
    have q2 : (e2 != 0) = true := by simpa using he2
    clear he2
    go_enter Tryz.func73, Tryz.ntmps73
    go_wp2_with fail
    refine HG.out.mono ?_
    rintro e w4 ⟨rfl, hr, hf⟩
    have HR4 := Aside0.mk hr
    have HF4 := Aside0.mk hf
    clear hr hf
    go_wp2_with fail
    go_ret2
    unfold LReadPost
    rw [HA.out]
    exact ⟨_, rfl, World.ownsRow_nil _ _ _ _, HR4.out, HF4.out⟩
  subst he2
  rw [if_neg (by simp)] at HA
  by_cases he3 : e3 = 0
  case neg =>
    rw [if_pos he3] at HA
    have q2 : (e3 != 0) = true := by simpa using he3
    clear he3
    go_enter Tryz.func73, Tryz.ntmps73
    go_wp2_with fail
    refine HG.out.mono ?_
    rintro e w4 ⟨rfl, hr, hf⟩
    have HR4 := Aside0.mk hr
    have HF4 := Aside0.mk hf
    clear hr hf
    go_wp2_with fail
    refine (HT.out w4 HR4.out).mono ?_
    rintro e w5 ⟨v5, rfl, hv, hr, hf⟩
    obtain ⟨A5, c5, rfl⟩ := hv.slice
    have HR5 := Aside0.mk hr
    have HF5 := Aside0.mk (HF4.out.trans hf)
    clear hv hr hf
    go_wp2_with fail
    go_ret2
    unfold LReadPost
    rw [HA.out]
    exact ⟨_, rfl, World.ownsRow_nil _ _ _ _, HR5.out, HF5.out⟩
  subst he3
  rw [if_neg (by simp)] at HA
  go_enter Tryz.func73, Tryz.ntmps73
  go_wp2_with fail
  refine HG.out.mono ?_
  rintro e w4 ⟨rfl, hr, hf⟩
  have HR4 := Aside0.mk hr
  have HF4 := Aside0.mk hf
  clear hr hf
  go_wp2_with fail
  refine (HT.out w4 HR4.out).mono ?_
  rintro e w5 ⟨v5, rfl, hv, hr, hf⟩
  have hv' := hv
  obtain ⟨A5, c5, rfl, hc5, hC5⟩ := RowV.reads hv (RowV.len hv)
  have HR5 := Aside0.mk hr
  have HV5 := Aside0.mk hv'
  have HF5 := Aside0.mk (HF4.out.trans hf)
  have HK := Aside0.mk (checked_any A5 c5 x w5 hC5 hc5)
  clear hv hr hf hv' hc5 hC5
  go_wp2_with fail
  refine HK.out.mono ?_
  rintro e w6 ⟨rfl, hd⟩
  have HB6 := Aside0.mk hd.below
  clear hd
  go_wp2_with fail
  go_ret2
  unfold LReadPost
  rw [HA.out]
  exact ⟨_, rfl, (HV5.out.mono HF4.out.size).below HB6.out, HR5.out.below HB6.out, HF5.out.trans (Fr.below HB6.out _)⟩
def lefL (l r : List Int) : List Int := (List.range l.length).map fun i => sideR (l.getD i 0) (r.getD i 0) + r.getD i 0
def rigL (l r : List Int) : List Int := (List.range l.length).map fun i => sideR (l.getD i 0) (r.getD i 0)
theorem sides_any (A0 : Option Addr) (c0 : Nat) (l : List Int) (A1 : Option Addr) (c1 : Nat) (r : List Int) (m : Nat) (w : World) (h0 : Kd.C (Kd.int .i64) w A0 m l) (hc0 : m ≤ c0) (h1 : Kd.C (Kd.int .i64) w A1 m r) (hc1 : m ≤ c1)
    (hl : l.length = m) (hr : r.length = m) (hm : 1 ≤ m ∧ m ≤ 128) (hbl : ∀ v ∈ l, -65536 ≤ v ∧ v ≤ 65535) (hbr : ∀ v ∈ r, -65536 ≤ v ∧ v ≤ 65535) :
    Calls Tryz.prog 74 #[.slice A0 m c0, .slice A1 m c1] w (TwoPost w (lefL l r) (rigL l r)) := by
  have HL := Aside0.mk hl
  have HR := Aside0.mk hr
  have H0 := Aside0.mk (Kd.C_F (Kd.heap_int .i64) h0)
  have H1 := Aside0.mk (Kd.C_F (Kd.heap_int .i64) h1)
  have HBL := Aside0.mk hbl
  have HBR := Aside0.mk hbr
  clear h0 h1 hl hr hbl hbr
  have hmk := print_make_of (P := Tryz.prog) 22 3 (.int .i64 0) 8 Tryz.underlying22 Lin.hinfo3 rfl (by decide) m (by omega)
  have HMK := Aside0.mk hmk
  clear hmk
  go_enter Tryz.func74, Tryz.ntmps74
  obtain ⟨wm, rfl⟩ : ∃ x, x = w := ⟨_, rfl⟩
  go_upto_region 1 with fail
  have hmk := HMK.out
  go_cut [5, 6] (fun s5 s6 wx => ∃ b5 b6, s5 = .slice (some ⟨b5, 0, none⟩) m m ∧ s6 = .slice (some ⟨b6, 0, none⟩) m m ∧ b5 ≠ b6 ∧ wm.heap.size ≤ b5 ∧ wm.heap.size ≤ b6 ∧
      Aside0 (Kd.R (Kd.int .i64) 3 wx wm.heap.size (fun k => k = b5) (.slice (some ⟨b5, 0, none⟩) m m) (List.replicate m 0)) ∧ Aside0 (Kd.R (Kd.int .i64) 3 wx wm.heap.size (fun k => k = b6) (.slice (some ⟨b6, 0, none⟩) m m) (List.replicate m 0)) ∧ Aside0 (Below wm.heap.size wm wx))
  case first =>
    go_region
    all_goals (go_wp2_with fail; go_meet)
    · refine ⟨_, _, rfl, rfl, by simp, by simp, by simp, ⟨Kd.R_alloc (Lin.made_R wm _ m (by simp) (by omega)) _⟩, ⟨Lin.made_R' wm _ m (by omega) (by omega)⟩, ⟨by (repeat (first | with_reducible exact Below.refl _ _ | (refine Aside0.out (p := Below _ _ _) ?_; assumption) | refine below_drew ?_ | refine below_alloc ?_ _ | (refine below_step ?_ (Aside0.out (p := Below _ _ _) (by assumption)))))⟩⟩
    · refine ⟨_, _, rfl, rfl, by simp, by simp, by simp, ⟨Lin.made_R' wm _ m (by omega) (by omega)⟩, ⟨Kd.R_alloc (Lin.made_R wm _ m (by simp) (by omega)) _⟩, ⟨by (repeat (first | with_reducible exact Below.refl _ _ | (refine Aside0.out (p := Below _ _ _) ?_; assumption) | refine below_drew ?_ | refine below_alloc ?_ _ | (refine below_step ?_ (Aside0.out (p := Below _ _ _) (by assumption)))))⟩⟩
  case rest =>
    obtain ⟨b5, b6, rfl, rfl, hbb, hb5, hb6, HA, HB, HW⟩ := hcut
    clear hmk
    go_wp2_with fail
    go_loopw [7, 16] (fun _ i wr => ∃ p : Nat, p ≤ m ∧ i = .int .i64 p ∧
        Aside0 (Kd.R (Kd.int .i64) 3 wr wm.heap.size (fun k => k = b5) (.slice (some ⟨b5, 0, none⟩) m m) (Lin.fillTo (fun i => sideR (l.getD i 0) (r.getD i 0) + r.getD i 0) m p)) ∧ Aside0 (Kd.R (Kd.int .i64) 3 wr wm.heap.size (fun k => k = b6) (.slice (some ⟨b6, 0, none⟩) m m) (Lin.fillTo (fun i => sideR (l.getD i 0) (r.getD i 0)) m p)) ∧
        Aside0 (Below wm.heap.size wm wr)) (fun _ i _ => m - (intOf i).toNat)
    case atStart => exact ⟨0, Nat.zero_le _, rfl, ⟨by rw [Lin.fillTo_zero]; exact HA.out⟩, ⟨by rw [Lin.fillTo_zero]; exact HB.out⟩, HW⟩
    case round =>
      obtain ⟨p, hp, rfl, HAr, HBr, HWr⟩ := hrel
      by_cases hlt : p < m
      · have hla := Lin.fillTo_length (fun i => sideR (l.getD i 0) (r.getD i 0) + r.getD i 0) m p hp
        have hlb := Lin.fillTo_length (fun i => sideR (l.getD i 0) (r.getD i 0)) m p hp
        have HSA : Aside0 ((Lin.fillTo (fun i => sideR (l.getD i 0) (r.getD i 0) + r.getD i 0) m p).set p (sideR (l.getD p 0) (r.getD p 0) + r.getD p 0) = Lin.fillTo (fun i => sideR (l.getD i 0) (r.getD i 0) + r.getD i 0) m (p + 1)) := ⟨Lin.fillTo_set _ _ _ hlt⟩
        have HSB : Aside0 ((Lin.fillTo (fun i => sideR (l.getD i 0) (r.getD i 0)) m p).set p (sideR (l.getD p 0) (r.getD p 0)) = Lin.fillTo (fun i => sideR (l.getD i 0) (r.getD i 0)) m (p + 1)) := ⟨Lin.fillTo_set _ _ _ hlt⟩
        have HX0 : Aside0 (∀ w', Below wm.heap.size wr w' → ∃ ad, A0 = some ad ∧ w'.cell? (ad.add p) = some (.int .i64 (l.getD p 0))) := ⟨fun w' hb => by
          have hF := Kd.F_now (Kd.F_step H0.out (W1 := w') (fun k hk hlt => (hb.block k hlt).trans (HWr.out.block k hlt)))
          exact at64 hF p hlt⟩
        have HX1 : Aside0 (∀ w', Below wm.heap.size wr w' → ∃ ad, A1 = some ad ∧ w'.cell? (ad.add p) = some (.int .i64 (r.getD p 0))) := ⟨fun w' hb => by
          have hF := Kd.F_now (Kd.F_step H1.out (W1 := w') (fun k hk hlt => (hb.block k hlt).trans (HWr.out.block k hlt)))
          exact at64 hF p hlt⟩
        obtain ⟨ad0, e0, _⟩ := HX0.out wr (Below.refl _ _)
        obtain ⟨ad1, e1, _⟩ := HX1.out wr (Below.refl _ _)
        subst e0
        subst e1
        have hx := HBL.out (l.getD p 0) (by rw [List.getD_eq_getElem?_getD, List.getElem?_eq_getElem (by rw [HL.out]; exact hlt)]; exact List.getElem_mem _)
        have hy := HBR.out (r.getD p 0) (by rw [List.getD_eq_getElem?_getD, List.getElem?_eq_getElem (by rw [HR.out]; exact hlt)]; exact List.getElem_mem _)
        obtain ⟨fa, hfa⟩ : ∃ z, z = Lin.fillTo (fun i => sideR (l.getD i 0) (r.getD i 0) + r.getD i 0) m p := ⟨_, rfl⟩
        obtain ⟨fb, hfb⟩ : ∃ z, z = Lin.fillTo (fun i => sideR (l.getD i 0) (r.getD i 0)) m p := ⟨_, rfl⟩
        rw [← hfa] at hla HSA HAr
        rw [← hfb] at hlb HSB HBr
        obtain ⟨x, hx0⟩ : ∃ z, z = l.getD p 0 := ⟨_, rfl⟩
        obtain ⟨y, hy0⟩ : ∃ z, z = r.getD p 0 := ⟨_, rfl⟩
        rw [← hx0] at hx HSA HSB HX0
        rw [← hy0] at hy HSA HSB HX1
        have HZ0 : Aside0 (∀ w', Below wm.heap.size wr w' → w'.cell? (ad0.add p) = some (.int .i64 x)) := ⟨fun w' h => by obtain ⟨_, e, h⟩ := HX0.out w' h; cases e; exact h⟩
        have HZ1 : Aside0 (∀ w', Below wm.heap.size wr w' → w'.cell? (ad1.add p) = some (.int .i64 y)) := ⟨fun w' h => by obtain ⟨_, e, h⟩ := HX1.out w' h; cases e; exact h⟩
        have HLA := Aside0.mk hla
        have HLB := Aside0.mk hlb
        have HMID := Aside0.mk (fun W => Sides_any x y W (by omega) (by omega))
        have i1 : (p : Int) < (m : Int) := by omega
        clear hla hlb hfa hfb hx0 hy0 HX0 HX1 hx hy
        go_wp2
        refine wp_region_held_drew (S := fun w' => Below wm.heap.size wr w') (by kernel_rfl) (below_drew (Below.refl _ _)) (fun hHeld => ?_)
        refine wpAnyH_take (i := 0) (v := ?_) rfl (by kernel_rfl) (by kernel_rfl) (by kernel_rfl) (fun _ _ _ h => h) (Or.inl ⟨by rfl, ?_⟩) (by assumption) ?_
        rotate_left
        · (intro w hSw; (try dsimp only at hSw); go_simp; (try with_reducible rfl))
        (try simp only [Act.put, List.getElem_toArray, List.getElem_cons_zero, List.getElem_cons_succ, List.setIfInBounds_toArray, List.set_cons_zero, List.set_cons_succ])
        refine wpAnyH_take (i := 1) (v := ?_) rfl (by kernel_rfl) (by kernel_rfl) (by kernel_rfl) (fun _ _ _ h => h) (Or.inl ⟨by rfl, ?_⟩) (by assumption) ?_
        rotate_left
        · (intro w hSw; (try dsimp only at hSw); go_simp; (try with_reducible rfl))
        (try simp only [Act.put, List.getElem_toArray, List.getElem_cons_zero, List.getElem_cons_succ, List.setIfInBounds_toArray, List.set_cons_zero, List.set_cons_succ])
        refine wpAnyH_take (i := 2) (v := ?_) rfl (by kernel_rfl) (by kernel_rfl) (by kernel_rfl) (fun _ _ _ h => h) (Or.inl ⟨by rfl, ?_⟩) (by assumption) ?_
        rotate_left
        · (intro w hSw; (try dsimp only at hSw); go_simp; (try with_reducible rfl))
        (try simp only [Act.put, List.getElem_toArray, List.getElem_cons_zero, List.getElem_cons_succ, List.setIfInBounds_toArray, List.set_cons_zero, List.set_cons_succ])
        refine wpAnyH_take (i := 3) (v := ?_) rfl (by kernel_rfl) (by kernel_rfl) (by kernel_rfl) (fun _ _ _ h => h) (Or.inl ⟨by rfl, ?_⟩) (by assumption) ?_
        rotate_left
        · (intro w hSw; (try dsimp only at hSw); go_simp; (try with_reducible rfl))
        (try simp only [Act.put, List.getElem_toArray, List.getElem_cons_zero, List.getElem_cons_succ, List.setIfInBounds_toArray, List.set_cons_zero, List.set_cons_succ])
        refine wpAnyH_take (i := 4) (v := ?_) rfl (by kernel_rfl) (by kernel_rfl) (by kernel_rfl) (fun _ _ _ h => h) (Or.inl ⟨by rfl, ?_⟩) (by assumption) ?_
        rotate_left
        · (intro w hSw; (try dsimp only at hSw); go_simp; (try with_reducible rfl))
        (try simp only [Act.put, List.getElem_toArray, List.getElem_cons_zero, List.getElem_cons_succ, List.setIfInBounds_toArray, List.set_cons_zero, List.set_cons_succ])
        refine wpAnyH_take (i := 5) (v := ?_) rfl (by kernel_rfl) (by kernel_rfl) (by kernel_rfl) (fun _ _ _ h => h) (Or.inl ⟨by rfl, ?_⟩) (by assumption) ?_
        rotate_left
        · (intro w hSw; (try dsimp only at hSw); go_simp; (try with_reducible rfl))
        (try simp only [Act.put, List.getElem_toArray, List.getElem_cons_zero, List.getElem_cons_succ, List.setIfInBounds_toArray, List.set_cons_zero, List.set_cons_succ])
        refine wpAnyH_take (i := 6) (v := ?_) rfl (by kernel_rfl) (by kernel_rfl) (by kernel_rfl) (fun _ _ _ h => h) (Or.inl ⟨by rfl, ?_⟩) (by assumption) ?_
        rotate_left
        · (intro w hSw; (try dsimp only at hSw); go_simp; (try with_reducible rfl))
        (try simp only [Act.put, List.getElem_toArray, List.getElem_cons_zero, List.getElem_cons_succ, List.setIfInBounds_toArray, List.set_cons_zero, List.set_cons_succ])
        refine wpAnyH_take (i := 7) (v := ?_) rfl (by kernel_rfl) (by kernel_rfl) (by kernel_rfl) (fun _ _ _ h => h) (Or.inl ⟨by rfl, ?_⟩) (by assumption) ?_
        rotate_left
        · (intro w hSw; (try dsimp only at hSw); have z := HZ0.out w hSw; go_simp; (try with_reducible rfl))
        (try simp only [Act.put, List.getElem_toArray, List.getElem_cons_zero, List.getElem_cons_succ, List.setIfInBounds_toArray, List.set_cons_zero, List.set_cons_succ])
        refine wpAnyH_take (i := 8) (v := ?_) rfl (by kernel_rfl) (by kernel_rfl) (by kernel_rfl) (fun _ _ _ h => h) (Or.inl ⟨by rfl, ?_⟩) (by assumption) ?_
        rotate_left
        · (intro w hSw; (try dsimp only at hSw); go_simp; (try with_reducible rfl))
        (try simp only [Act.put, List.getElem_toArray, List.getElem_cons_zero, List.getElem_cons_succ, List.setIfInBounds_toArray, List.set_cons_zero, List.set_cons_succ])
        refine wpAnyH_take (i := 9) (v := ?_) rfl (by kernel_rfl) (by kernel_rfl) (by kernel_rfl) (fun _ _ _ h => h) (Or.inl ⟨by rfl, ?_⟩) (by assumption) ?_
        rotate_left
        · (intro w hSw; (try dsimp only at hSw); go_simp; (try with_reducible rfl))
        (try simp only [Act.put, List.getElem_toArray, List.getElem_cons_zero, List.getElem_cons_succ, List.setIfInBounds_toArray, List.set_cons_zero, List.set_cons_succ])
        refine wpAnyH_take (i := 10) (v := ?_) rfl (by kernel_rfl) (by kernel_rfl) (by kernel_rfl) (fun _ _ _ h => h) (Or.inl ⟨by rfl, ?_⟩) (by assumption) ?_
        rotate_left
        · (intro w hSw; (try dsimp only at hSw); go_simp; (try with_reducible rfl))
        (try simp only [Act.put, List.getElem_toArray, List.getElem_cons_zero, List.getElem_cons_succ, List.setIfInBounds_toArray, List.set_cons_zero, List.set_cons_succ])
        refine wpAnyH_take (i := 11) (v := ?_) rfl (by kernel_rfl) (by kernel_rfl) (by kernel_rfl) (fun _ _ _ h => h) (Or.inl ⟨by rfl, ?_⟩) (by assumption) ?_
        rotate_left
        · (intro w hSw; (try dsimp only at hSw); have z := HZ1.out w hSw; go_simp; (try with_reducible rfl))
        (try simp only [Act.put, List.getElem_toArray, List.getElem_cons_zero, List.getElem_cons_succ, List.setIfInBounds_toArray, List.set_cons_zero, List.set_cons_succ])
        refine wpAnyH_ready (rs := [12]) (by kernel_rfl) (by simp) ?_
        refine AllReadyH.cons rfl (fun K hK => ?_) AllReadyH.nil
        go_simp
        refine (HMID.out wr.drew).mono ?_
        rintro e w1 ⟨rfl, hb1⟩
        have hbw : Below wr.heap.size wr w1 := (below_drew (Below.refl _ _)).trans hb1
        have hA1 := Kd.R_below HAr.out hbw
        have hB1 := Kd.R_below HBr.out hbw
        have ca := Kd.R_cell (W := w1) (0 : Int) (by rw [HLA.out]; exact hA1) (p : Int) (by omega) (by have := HLA.out; omega)
        rw [Int.toNat_natCast] at ca
        have ga := ca.1
        have fa' := ca.2
        have hA2 := (Kd.R_put (W := w1) (by rw [HLA.out]; exact hA1) (p : Int) (sideR x y + y)).1
        rw [Int.toNat_natCast, HSA.out, HLA.out] at hA2
        have hB2 := Kd.R_far (p := ⟨b5, p, none⟩) hB1 (fun k hk => by show k ≠ b5; omega) (.int .i64 (sideR x y + y))
        have cb := Kd.R_cell (W := w1.setCell ⟨b5, p, none⟩ (.int .i64 (sideR x y + y))) (0 : Int) (by rw [HLB.out]; exact hB2) (p : Int) (by omega) (by have := HLB.out; omega)
        rw [Int.toNat_natCast] at cb
        have gb := cb.1
        have fb' := cb.2
        have hB3 := (Kd.R_put (W := w1.setCell ⟨b5, p, none⟩ (.int .i64 (sideR x y + y))) (by rw [HLB.out]; exact hB2) (p : Int) (sideR x y)).1
        rw [Int.toNat_natCast, HSB.out, HLB.out] at hB3
        have hA3 := Kd.R_far (p := ⟨b6, p, none⟩) hA2 (fun k hk => by show k ≠ b6; omega) (.int .i64 (sideR x y))
        have HA3 := Aside0.mk hA3
        have HB3 := Aside0.mk hB3
        have hb1' : Below wm.heap.size wr w1 := hbw.mono HWr.out.size
        have hb2' := hb1'.setCell (p := ⟨b5, p, none⟩) hb5 (.int .i64 (sideR x y + y))
        have hb3' := hb2'.setCell (p := ⟨b6, p, none⟩) hb6 (.int .i64 (sideR x y))
        have HBW1 := Aside0.mk hb1'
        have HBW2 := Aside0.mk hb2'
        have HBW3 := Aside0.mk hb3'
        clear hb1 hbw hA1 hB1 ca hA2 hB2 cb hB3 hA3 hb1' hb2' hb3'
        (try go_simp)
        refine hK.out _ _ ?_ (fun hHeld => ?_)
        · exact HBW1.out
        clear hK K
        (try simp only [Act.put, List.getElem_toArray, List.getElem_cons_zero, List.getElem_cons_succ, List.setIfInBounds_toArray, List.set_cons_zero, List.set_cons_succ])
        refine wpAnyH_take (i := 13) (v := ?_) rfl (by kernel_rfl) (by kernel_rfl) (by kernel_rfl) (fun _ _ _ h => h) (Or.inl ⟨by rfl, ?_⟩) (by assumption) ?_
        rotate_left
        · (intro w hSw; (try dsimp only at hSw); go_simp; (try with_reducible rfl))
        (try simp only [Act.put, List.getElem_toArray, List.getElem_cons_zero, List.getElem_cons_succ, List.setIfInBounds_toArray, List.set_cons_zero, List.set_cons_succ])
        refine wpAnyH_take (i := 14) (v := ?_) rfl (by kernel_rfl) (by kernel_rfl) (by kernel_rfl) (fun _ _ _ h => h) (Or.inl ⟨by rfl, ?_⟩) (by assumption) ?_
        rotate_left
        · (intro w hSw; (try dsimp only at hSw); go_simp; (try with_reducible rfl))
        (try simp only [Act.put, List.getElem_toArray, List.getElem_cons_zero, List.getElem_cons_succ, List.setIfInBounds_toArray, List.set_cons_zero, List.set_cons_succ])
        refine wpAnyH_take (i := 15) (v := ?_) rfl (by kernel_rfl) (by kernel_rfl) (by kernel_rfl) (fun _ _ _ h => h) (Or.inl ⟨by rfl, ?_⟩) (by assumption) ?_
        rotate_left
        · (intro w hSw; (try dsimp only at hSw); go_simp; (try with_reducible rfl))
        (try simp only [Act.put, List.getElem_toArray, List.getElem_cons_zero, List.getElem_cons_succ, List.setIfInBounds_toArray, List.set_cons_zero, List.set_cons_succ])
        refine wpAnyH_take (i := 16) (v := ?_) rfl (by kernel_rfl) (by kernel_rfl) (by kernel_rfl) (fun _ _ _ h => h) (Or.inl ⟨by rfl, ?_⟩) (by assumption) ?_
        rotate_left
        · (intro w hSw; (try dsimp only at hSw); go_simp; (try with_reducible rfl))
        (try simp only [Act.put, List.getElem_toArray, List.getElem_cons_zero, List.getElem_cons_succ, List.setIfInBounds_toArray, List.set_cons_zero, List.set_cons_succ])
        refine wpAnyH_take (i := 17) (v := ?_) rfl (by kernel_rfl) (by kernel_rfl) (by kernel_rfl) (fun _ _ _ h => h) (Or.inl ⟨by rfl, ?_⟩) (by assumption) ?_
        rotate_left
        · (intro w hSw; (try dsimp only at hSw); go_simp; (try with_reducible rfl))
        (try simp only [Act.put, List.getElem_toArray, List.getElem_cons_zero, List.getElem_cons_succ, List.setIfInBounds_toArray, List.set_cons_zero, List.set_cons_succ])
        refine wpAnyH_ready (rs := [18]) (by kernel_rfl) (by simp) ?_
        refine AllReadyH.cons rfl (fun K hK => ?_) AllReadyH.nil
        go_simp
        (try go_simp)
        refine hK.out _ _ ?_ (fun hHeld => ?_)
        · exact HBW2.out
        clear hK K
        (try simp only [Act.put, List.getElem_toArray, List.getElem_cons_zero, List.getElem_cons_succ, List.setIfInBounds_toArray, List.set_cons_zero, List.set_cons_succ])
        refine wpAnyH_take (i := 19) (v := ?_) rfl (by kernel_rfl) (by kernel_rfl) (by kernel_rfl) (fun _ _ _ h => h) (Or.inl ⟨by rfl, ?_⟩) (by assumption) ?_
        rotate_left
        · (intro w hSw; (try dsimp only at hSw); go_simp; (try with_reducible rfl))
        (try simp only [Act.put, List.getElem_toArray, List.getElem_cons_zero, List.getElem_cons_succ, List.setIfInBounds_toArray, List.set_cons_zero, List.set_cons_succ])
        refine wpAnyH_ready (rs := [20]) (by kernel_rfl) (by simp) ?_
        refine AllReadyH.cons rfl (fun K hK => ?_) AllReadyH.nil
        go_simp
        (try go_simp)
        refine hK.out _ _ ?_ (fun hHeld => ?_)
        · exact HBW3.out
        clear hK K
        (try simp only [Act.put, List.getElem_toArray, List.getElem_cons_zero, List.getElem_cons_succ, List.setIfInBounds_toArray, List.set_cons_zero, List.set_cons_succ])
        refine wpAnyH_done (by kernel_rfl) ?_ _
        (try simp only [Exit.then])
        go_wp2_with fail
        go_roundw
        case rel => exact ⟨p + 1, by omega, by go_num, HA3, HB3, ⟨HWr.out.trans HBW3.out⟩⟩
        case measure => simp [intOf]; omega
      · obtain rfl : p = m := by omega
        have hA := HAr.out
        have hB := HBr.out
        rw [Lin.fillTo_all, ← HL.out] at hA
        rw [Lin.fillTo_all, ← HL.out] at hB
        have HM : Aside0 ((lefL l r).length = p ∧ (rigL l r).length = p) := ⟨by unfold lefL rigL; simp [HL.out]⟩
        have hA : Kd.R (Kd.int .i64) 3 wr wm.heap.size (fun k => k = b5) (.slice (some ⟨b5, 0, none⟩) p p) (lefL l r) := by rw [HL.out] at hA; unfold lefL; rw [HL.out]; exact hA
        have hB : Kd.R (Kd.int .i64) 3 wr wm.heap.size (fun k => k = b6) (.slice (some ⟨b6, 0, none⟩) p p) (rigL l r) := by rw [HL.out] at hB; unfold rigL; rw [HL.out]; exact hB
        have HA9 := Aside0.mk hA
        have HB9 := Aside0.mk hB
        clear hA hB
        go_wp2_with fail
        go_ret
        have hbw : Below wr.heap.size wr (wr.alloc (.cells #[.slice (some ⟨b5, 0, none⟩) p p, .slice (some ⟨b6, 0, none⟩) p p] 22)) := below_alloc (Below.refl _ _) _
        have hsz := HWr.out.size
        have hFA : Kd.F (Kd.int .i64) wr (fun k => wm.heap.size ≤ k) (some ⟨b5, 0, none⟩) p (lefL l r) := Kd.R_F (Kd.R_mono HA9.out (fun k hk => by omega))
        have hFB : Kd.F (Kd.int .i64) wr (fun k => wm.heap.size ≤ k) (some ⟨b6, 0, none⟩) p (rigL l r) := Kd.R_F (Kd.R_mono HB9.out (fun k hk => by omega))
        have h2 := two_F (x := lefL l r) (y := rigL l r) (ok := fun k => wm.heap.size ≤ k) (c1 := p) (c2 := p) (by rw [HM.out.1, HM.out.2]; exact World.alloc_heap_new wr _) hsz (by rw [HM.out.1]; exact Kd.F_below hFA hbw) (by rw [HM.out.1]; omega) (by rw [HM.out.2]; exact Kd.F_below hFB hbw) (by rw [HM.out.2]; omega)
        exact ⟨_, _, rfl, h2, Nat.le_refl _, HWr.out.trans (hbw.mono hsz)⟩
end Go.Proofs.YtjcijaojcgampaaGreatDoor.P
end
section
namespace Go.Proofs.YtjcijaojcgampaaGreatDoor.P
open Go.RowKit Go.Shelf Go.Proofs.YtjcijaojcgampaaGreatDoor.Bits Go.Proofs.YtjcijaojcgampaaGreatDoorW.PrintWords Go.Proofs.YtjcijaojcgampaaGreatDoorW.PrintLast Go.Proofs.YtjcijaojcgampaaGreatDoorW.PrintMore
theorem rWords_count (L : List Int) (k : Nat) : ∀ (n a : Nat) (acc : List Int), (rWords L k n a acc).1 = 0 → (rWords L k n a acc).2.1.length = acc.length + n
  | 0, a, acc, _ => by simp [rWords]
  | n + 1, a, acc, h => by
    unfold rWords at h ⊢
    split at h
    · rename_i h1; exact absurd h h1
    · rename_i h1
      rw [if_neg h1]
      have := rWords_count L k n _ _ h
      rw [this, List.length_append]
      simp only [List.length_cons, List.length_nil]; omega
theorem rParts_count (L : List Int) (N : Nat) : ∀ (m a : Nat) (acc : List Int), (rParts L N m a acc).1 = 0 → (rParts L N m a acc).2.1.length = acc.length + N * m
  | 0, a, acc, _ => by simp [rParts]
  | m + 1, a, acc, h => by
    unfold rParts at h ⊢
    split at h
    · rename_i h1; exact absurd h h1
    · rename_i h1
      rw [if_neg h1]
      split at h
      · cases h
      · rename_i h2
        rw [if_neg h2]
        split at h
        · rename_i h3; exact absurd h h3
        · rename_i h3
          rw [if_neg h3]
          have h4 := rWords_count L (rGet L a 4).1.toNat N (rGet L a 4).2.2 acc (by simpa using h3)
          have := rParts_count L N m _ _ h
          rw [this, h4, Nat.mul_succ]; omega
theorem fRead_count {L : List Int} {a : Nat} {n : Nat} (h : (fRead L a n).2.1 = 0) : (fRead L a n).1.length = n := by
  unfold fRead at h ⊢
  split at h
  · cases h
  · rename_i h1
    rw [if_neg h1]
    split at h
    · rename_i h2; exact absurd h h2
    · rename_i h2
      rw [if_neg h2]
      rw [Int.toNat_natCast] at h2 ⊢
      have h2 : (rList L a n).1 = 0 := by simpa using h2
      show (rList L a n).2.1.length = n
      unfold rList at h2 ⊢
      split at h2
      · rename_i h3; exact absurd h2 h3
      · rename_i h3
        rw [if_neg h3]
        split at h2
        · rename_i h4
          rw [if_pos h4]
          have := rParts_count _ _ _ _ _ h2
          rw [this]
          unfold divB at h4
          have h5 : n % 2 ^ (rGet L a 2).1.toNat = 0 := by simp at h4; exact h4.1
          have := Nat.div_add_mod n (2 ^ (rGet L a 2).1.toNat)
          simp only [List.length_nil, Nat.zero_add]
          rw [Nat.mul_comm]; omega
        · cases h2
theorem sgnsR_count (L : List Int) (wd : Int) : ∀ (m a : Nat) (acc : List Int), (sgnsR L wd m a acc).2.1 = 0 → (sgnsR L wd m a acc).1.length = acc.length + m
  | 0, a, acc, _ => by simp [sgnsR]
  | m + 1, a, acc, h => by
    unfold sgnsR at h ⊢
    split at h
    · rename_i h1; exact absurd h h1
    · rename_i h1
      rw [if_neg h1]
      have := sgnsR_count L wd m _ _ h
      rw [this, List.length_append]
      simp only [List.length_cons, List.length_nil]; omega
theorem sums_length : ∀ (k : Nat) {l r : List Int}, Lin.sums l k = some r → r.length = l.length
  | 0, l, r, h => by simp [Lin.sums] at h; rw [h]
  | k + 1, l, r, h => by
    unfold Lin.sums at h
    obtain ⟨q, hq, hr⟩ := Option.bind_eq_some_iff.1 h
    rw [sums_length k hr, Lin.psum_length hq]
theorem fAdd_count {l : List Int} {k : Int} (h : (fAdd l k).2 = 0) : (fAdd l k).1.length = l.length ∨ 9223372036854775807 < l.length := by
  by_cases hl : l.length ≤ 9223372036854775807
  · left
    have hs := fAdd_some l k hl
    generalize fAdd l k = r at *
    unfold Lin.linear_Add.f at hs
    rw [if_pos hl] at hs
    split at hs
    · (have e := (Prod.mk.inj (Option.some.inj hs)).2; omega)
    · split at hs
      · split at hs
        · (have e := (Prod.mk.inj (Option.some.inj hs)).2; omega)
        · rename_i r' hr'
          split at hs
          · have e := (Prod.mk.inj (Option.some.inj hs)).1
            rw [← e]; exact sums_length _ hr'
          · (have e := (Prod.mk.inj (Option.some.inj hs)).2; omega)
      · rename_i h1
        have := (Prod.mk.inj (Option.some.inj hs)).2
        rw [← this] at h
        exact absurd h h1
  · right; omega
theorem restF_length (p : List Int) : ∀ (d out : List Int) {l : List Int}, Lin.restF p out d = some l → l.length = out.length + d.length
  | [], out, l, h => by simp [Lin.restF] at h; rw [← h]; rfl
  | v :: d, out, l, h => by
    unfold Lin.restF at h
    split at h
    · cases h
    · have := restF_length p d _ h
      rw [this, List.length_append]; simp only [List.length_cons, List.length_nil]; omega
theorem fRest_count {l f : List Int} (hl : l.length ≤ 9223372036854775807) (hf : f.length ≤ 9223372036854775807) (h : (fRest l f).2 = 0) : (fRest l f).1.length = l.length := by
  have hs := fRest_some l f hl hf
  generalize fRest l f = r at *
  unfold Lin.linear_Restore.f at hs
  rw [if_pos ⟨hl, hf⟩] at hs
  split at hs
  · (have e := (Prod.mk.inj (Option.some.inj hs)).2; omega)
  · split at hs
    · split at hs
      · rename_i r' hr'
        have e := (Prod.mk.inj (Option.some.inj hs)).1
        have := restF_length _ _ _ hr'
        rw [← e]; simpa using this
      · (have e := (Prod.mk.inj (Option.some.inj hs)).2; omega)
    · rename_i h1
      have := (Prod.mk.inj (Option.some.inj hs)).2
      rw [← this] at h
      exact absurd h h1
theorem coefR_count (L : List Int) : ∀ (m a : Nat) (acc : List Int), (coefR L m a acc).1.length ≤ acc.length + m
  | 0, a, acc => by simp [coefR]
  | m + 1, a, acc => by
    unfold coefR
    split
    · simp
    · split
      · simp
      · have := coefR_count L m (rSigned L a 8).2.2 (acc ++ [(rSigned L a 8).1])
        rw [List.length_append] at this
        simp only [List.length_cons, List.length_nil] at this
        omega
theorem toldR_count {L : List Int} {a n : Nat} {k : Int} (hn : n ≤ 100000) (h : (toldR L a k n).2.1 = 0) : (toldR L a k n).1.length = n := by
  unfold toldR at h ⊢
  split
  · rename_i h1
    rw [if_pos h1] at h
    unfold aliR at h ⊢
    split at h
    · rename_i h2; exact absurd h h2
    · rename_i h2; rw [if_neg h2]; exact List.length_replicate
  · rename_i h1
    rw [if_neg h1] at h
    split
    · rename_i h2
      rw [if_pos h2] at h
      have := sgnsR_count L 17 n a [] h
      simpa using this
    · rename_i h2
      rw [if_neg h2] at h
      split
      · rename_i h3
        rw [if_pos h3] at h
        unfold addR at h ⊢
        split at h
        · rename_i h4; exact absurd h h4
        · rename_i h4
          rw [if_neg h4]
          split at h
          · cases h
          · rename_i h5
            rw [if_neg h5]
            split at h
            · rename_i h6; exact absurd h h6
            · rename_i h6
              rw [if_neg h6]
              have h7 := fRead_count (by simpa using h6)
              rcases fAdd_count h with h8 | h8
              · rw [h8, h7]
              · omega
      · rename_i h3
        rw [if_neg h3] at h
        unfold restR at h ⊢
        split at h
        · rename_i h4; exact absurd h h4
        · rename_i h4
          rw [if_neg h4]
          split at h
          · cases h
          · rename_i h5
            rw [if_neg h5]
            split at h
            · rename_i h6; exact absurd h h6
            · rename_i h6
              rw [if_neg h6]
              split at h
              · rename_i h7; exact absurd h h7
              · rename_i h7
                rw [if_neg h7]
                have h8 := fRead_count (by simpa using h7)
                have h9 := coefR_count L (rGet L a 4).1.toNat (rGet L a 4).2.2 []
                have h10 : (rGet L a 4).1.toNat ≤ 12 := by omega
                rw [fRest_count (by omega) (by simp only [List.length_nil] at h9; omega) h, h8]
theorem sigR_ok {L : List Int} {a n : Nat} (hn : n ≤ 100000) (h : (sigR L a n).2.1 = 0) : (sigR L a n).1.length = n ∧ chkS (sigR L a n).1 = 0 := by
  unfold sigR at h ⊢
  split at h
  · rename_i h1; exact absurd h h1
  · rename_i h1
    rw [if_neg h1]
    split at h
    · rename_i h2; exact absurd h h2
    · rename_i h2
      rw [if_neg h2]
      exact ⟨toldR_count hn (by simpa using h2), h⟩
end Go.Proofs.YtjcijaojcgampaaGreatDoor.P
end
