/- Words of Rice codes: the contracts of rice.put, Put, get, Get. Words of Rice codes: the contracts of the reference's put and Put. -/
import Derived.Laws.EntriesVeiled
import Derived.Test.YtjcijaojcgampaaGreatDoorZPl14
import Derived.Test.YtjcijaojcgampaaGreatDoorZPl12
import Derived.Test.YtjcijaojcgampaaGreatDoorZPl13
set_option linter.unusedVariables false
set_option linter.unusedSimpArgs false
set_option maxHeartbeats 16000000
set_option maxRecDepth 100000
section
namespace Go.Proofs.YtjcijaojcgampaaGreatDoor.P
open Go.RowKit Go.Shelf Go.Proofs.YtjcijaojcgampaaGreatDoor.Bits Go.Proofs.YtjcijaojcgampaaGreatDoorW.PrintWords Go.Proofs.YtjcijaojcgampaaGreatDoorW.PrintLast Go.Proofs.YtjcijaojcgampaaGreatDoorW.PrintMore
attribute [local go_sem ↓] Go.wp_at_zero Go.wp_at_succ
def word (v : Int) (k : Nat) : List Int := if foldI v / 2 ^ k < 24 then numb 0 (foldI v / 2 ^ k).toNat ++ numb 1 1 ++ numb (foldI v % 2 ^ k) k else numb 0 24 ++ numb 1 1 ++ numb (foldI v) 32
theorem word_length {v : Int} (h : -2147483648 ≤ v ∧ v ≤ 2147483647) (k : Nat) : ((word v k).length : Int) = lenW v k := by
  have hq := q_bound h k
  unfold word lenW
  split
  · simp only [List.length_append, numb_length]; omega
  · simp only [List.length_append, numb_length]; omega
def wRice (L : List Int) (v : Int) (k : Nat) : Int × List Int := if 1048576 < (L.length : Int) + lenW v k then (2, L) else (0, L ++ word v k)
theorem own_unfold {u : Int} (h : 0 ≤ u ∧ u < 4294967296) : rice_unfold.f u = some (unfoldI u) := by
  unfold rice_unfold.f unfoldI
  rw [and1_i64 _ (by omega)]
  by_cases h1 : u % 2 = 1
  · rw [if_pos h1, if_pos h1, wrap64_id (x := u + 1) (by omega) (by omega), wrap64_id (x := -(u + 1)) (by omega) (by omega), Int.neg_tdiv, Int.tdiv_eq_ediv_of_nonneg (by omega), wrap64_id (by omega) (by omega)]
  · rw [if_neg h1, if_neg h1, Int.tdiv_eq_ediv_of_nonneg (by omega), wrap64_id (by omega) (by omega)]
theorem unfold_any {u : Int} (h : 0 ≤ u ∧ u < 4294967296) (w : World) : Calls Tryz.prog 197 #[.int .i64 u] w fun e w' => e = .returned (.int .i64 (unfoldI u)) ∧ Drawn0 w w' := rice_unfold.calls u _ w (own_unfold h)
theorem fold_any {v : Int} (h : -2147483648 ≤ v ∧ v ≤ 2147483647) (w : World) : Calls Tryz.prog 168 #[.int .i64 v] w fun e w' => e = .returned (.int .i64 (foldI v)) ∧ Drawn0 w w' := rice_fold.calls v _ w (own_fold h)
theorem length_any {v : Int} (h : -2147483648 ≤ v ∧ v ≤ 2147483647) {k : Nat} (hk : k ≤ 14) (w : World) : Calls Tryz.prog 169 #[.int .i64 v, .int .i64 (k : Int)] w fun e w' => e = .returned (.int .i64 (lenW v k)) ∧ Drawn0 w w' := rice_length.calls v k _ w (own_length v k h hk)
theorem wput_ok (L M : List Int) (h : L.length + M.length ≤ 1048576) : wput L M = (0, L ++ M) := by
  unfold wput putE putL
  rw [if_neg (by omega), if_neg (by omega)]
theorem wUnary_ok (L : List Int) (n : Nat) (hn : n ≤ 1000) (h : L.length + n + 1 ≤ 1048576) : wUnary L (n : Int) = (0, L ++ (numb 0 n ++ numb 1 1)) := by
  unfold wUnary
  rw [if_neg (by omega), Int.toNat_natCast, wput_ok _ _ (by simp only [List.length_append, numb_length]; omega)]
theorem wPut_ok (L : List Int) (v : Int) (n : Nat) (hn : n ≤ 32) (h : 0 ≤ v ∧ v < 2 ^ n) (hl : L.length + n ≤ 1048576) : wPut L v (n : Int) = (0, L ++ numb v n) := by
  unfold wPut
  rw [Int.toNat_natCast, if_neg (by omega), wput_ok _ _ (by rw [numb_length]; omega)]
theorem putF : ∀ (fn : Fn) (first cap : Array Value) (W : World), (Instr.makeFunc fn first cap).run Tryz.prog W = .ok (.func fn first cap) W := fun _ _ _ _ => rfl
theorem put_any5 (S : Nat → Prop) (p : Nat) (L : List Int) (v : Int) (k : Nat) (w : World) (hW : Wr w S p L) (hL : L.length ≤ 1048576) (hv : -2147483648 ≤ v ∧ v ≤ 2147483647) (hk : k ≤ 14) :
    Calls Tryz.prog 133 #[.pointer (some ⟨p, 0, none⟩), .int .i64 v, .int .i64 (k : Int)] w fun e w' => e = .returned (.int .i64 (wRice L v k).1) ∧ WrTo w S p (wRice L v k).2 w' := by
  have hfb := foldI_bound hv
  have hqb := q_bound hv k
  have hlb := lenW_bound hv hk
  have HF := Aside0.mk (fun W => fold_any hv W)
  have HLE := Aside0.mk (fun W => length_any hv hk W)
  have HLN := Aside0.mk (fun S' L' W (h : Wr W S' p L') => Len_any S' p L' W h)
  have HWL : Aside0 (lenW v k = if foldI v / 2 ^ k < 24 then foldI v / 2 ^ k + 1 + k else 57) := ⟨rfl⟩
  have HWO : Aside0 (word v k = if foldI v / 2 ^ k < 24 then numb 0 (foldI v / 2 ^ k).toNat ++ numb 1 1 ++ numb (foldI v % 2 ^ k) k else numb 0 24 ++ numb 1 1 ++ numb (foldI v) 32) := ⟨rfl⟩
  have HWR : Aside0 (wRice L v k = if 1048576 < (L.length : Int) + lenW v k then (2, L) else (0, L ++ word v k)) := ⟨rfl⟩
  have hpk : (1 : Int) ≤ 2 ^ k ∧ (2 : Int) ^ k ≤ 16384 := by
    have h1 : (2 : Nat) ^ k ≤ 2 ^ 14 := Nat.pow_le_pow_right (by omega) hk
    have h2 : 1 ≤ (2 : Nat) ^ k := Nat.one_le_two_pow
    have h3 : ((2 ^ k : Nat) : Int) = (2 : Int) ^ k := by norm_cast
    omega
  have HMB : Aside0 (0 ≤ foldI v % 2 ^ k ∧ foldI v % 2 ^ k < 2 ^ k) := ⟨⟨Int.emod_nonneg _ (by omega), Int.emod_lt_of_pos _ (by omega)⟩⟩
  have HAND : Aside0 (Go.bits BinOp.and IntKind.i64 (foldI v) (2 ^ k - 1) = foldI v % 2 ^ k) := ⟨andm_i64 _ k (by omega) (by omega)⟩
  have hw0 : wrap64 (2 ^ k) = 2 ^ k := wrap64_id (by omega) (by omega)
  have HW := Aside0.mk hW
  have HMF := Aside0.mk putF
  generalize lenW v k = ln at *
  generalize wRice L v k = wr at *
  generalize word v k = wd at *
  generalize foldI v = u at *
  obtain ⟨q, hq⟩ : ∃ q, u / 2 ^ k = q := ⟨_, rfl⟩
  obtain ⟨r, hr⟩ : ∃ r, u % 2 ^ k = r := ⟨_, rfl⟩
  rw [hq] at hqb HWL HWO
  rw [hr] at HWO HMB HAND
  clear hW hv
  by_cases hbig : 1048576 < (L.length : Int) + ln
  · have d1 : decide (1048576 < (L.length : Int) + ln) = true := by simpa using hbig
    rw [if_pos hbig] at HWR
    clear hbig hq hr
    go_enter Tryz.func133, Tryz.ntmps133
    go_wp2_with fail
    refine (HF.out _).mono ?_
    rintro e w1 ⟨rfl, hd⟩
    have HB1 := Aside0.mk hd.below
    clear hd
    go_wp2_with fail
    refine (HLN.out S L _ (HW.out.below HB1.out)).mono ?_
    rintro e w2 ⟨rfl, hw⟩
    obtain rfl := hw.symm
    go_wp2_with fail
    refine (HLE.out _).mono ?_
    rintro e w2 ⟨rfl, hd⟩
    have HB2 := Aside0.mk (HB1.out.trans (hd.below.mono HB1.out.size))
    clear hd
    go_wp2_with fail
    go_ret
    rw [HWR.out]
    exact ⟨rfl, HW.out.wrTo HB2.out⟩
  have d1 : decide (1048576 < (L.length : Int) + ln) = false := by simpa using hbig
  rw [if_neg hbig] at HWR
  have hfit : (L.length : Int) + ln ≤ 1048576 := by omega
  clear hbig
  by_cases hlt : q < 24
  · have d2 : decide (24 ≤ q) = false := by simp; omega
    rw [if_pos hlt] at HWL HWO
    obtain ⟨n, rfl⟩ : ∃ n : Nat, q = n := ⟨q.toNat, by omega⟩
    have hwl := HWL.out
    have HU : Aside0 (wUnary L (n : Int) = (0, L ++ (numb 0 n ++ numb 1 1))) := ⟨wUnary_ok L n (by omega) (by omega)⟩
    have HP : Aside0 (wPut (L ++ (numb 0 n ++ numb 1 1)) r (k : Int) = (0, (L ++ (numb 0 n ++ numb 1 1)) ++ numb r k)) := ⟨wPut_ok _ r k (by omega) HMB.out (by simp only [List.length_append, numb_length]; omega)⟩
    have HE : Aside0 (L ++ wd = (L ++ (numb 0 n ++ numb 1 1)) ++ numb r k) := ⟨by rw [HWO.out, Int.toNat_natCast]; simp only [List.append_assoc]⟩
    have HL1 : Aside0 ((L ++ (numb 0 n ++ numb 1 1)).length ≤ 1048576) := ⟨by simp only [List.length_append, numb_length]; omega⟩
    have hand := HAND.out
    clear hlt HWL HWO hwl hr
    go_enter Tryz.func133, Tryz.ntmps133
    go_wp2_with fail
    refine (HF.out _).mono ?_
    rintro e w1 ⟨rfl, hd⟩
    have HB1 := Aside0.mk hd.below
    clear hd
    go_wp2_with fail
    refine (HLN.out S L _ (HW.out.below HB1.out)).mono ?_
    rintro e w2 ⟨rfl, hw⟩
    obtain rfl := hw.symm
    go_wp2_with fail
    refine (HLE.out _).mono ?_
    rintro e w2 ⟨rfl, hd⟩
    have HB2 := Aside0.mk (HB1.out.trans (hd.below.mono HB1.out.size))
    clear hd
    have hmf := HMF.out
    go_wp2_with fail
    have hcc := Unary_any S p L (n : Int) w2 (HW.out.below HB2.out) (by omega)
    rw [HU.out] at hcc
    refine hcc.mono ?_
    clear hcc
    rintro e w3 ⟨rfl, S1, hW1, hs1, hf1⟩
    have HW1 := Aside0.mk hW1
    have HS1 := Aside0.mk hs1
    have HF1 := Aside0.mk ((Fr.below HB2.out (fun k => k = p ∨ S k)).trans hf1)
    clear hW1 hs1 hf1
    go_wp2_with fail
    have hcc := Put_any S1 p (L ++ (numb 0 n ++ numb 1 1)) r (k : Int) w3 HW1.out HL1.out
    rw [HP.out] at hcc
    refine hcc.mono ?_
    clear hcc
    rintro e w4 ⟨rfl, h4⟩
    have H4 := Aside0.mk h4
    clear h4
    go_wp2_with fail
    go_ret
    rw [HWR.out]
    refine ⟨rfl, ?_⟩
    rw [HE.out]
    exact WrTo.glue (fun k hk => by rcases HS1.out k hk with q | q; exact .inl q; exact .inr (Nat.le_trans HB2.out.size q)) HF1.out H4.out
  · have d2 : decide (24 ≤ q) = true := by simp; omega
    rw [if_neg hlt] at HWL HWO
    have hwl := HWL.out
    have HU : Aside0 (wUnary L 24 = (0, L ++ (numb 0 24 ++ numb 1 1))) := ⟨wUnary_ok L 24 (by omega) (by omega)⟩
    have HP : Aside0 (wPut (L ++ (numb 0 24 ++ numb 1 1)) u 32 = (0, (L ++ (numb 0 24 ++ numb 1 1)) ++ numb u 32)) := ⟨wPut_ok _ u 32 (by omega) (by simp only [Int.reducePow]; omega) (by simp only [List.length_append, numb_length]; omega)⟩
    have HE : Aside0 (L ++ wd = (L ++ (numb 0 24 ++ numb 1 1)) ++ numb u 32) := ⟨by rw [HWO.out]; simp only [List.append_assoc]⟩
    have HL1 : Aside0 ((L ++ (numb 0 24 ++ numb 1 1)).length ≤ 1048576) := ⟨by simp only [List.length_append, numb_length]; omega⟩
    clear hlt HWL HWO hwl hr
    go_enter Tryz.func133, Tryz.ntmps133
    go_wp2_with fail
    refine (HF.out _).mono ?_
    rintro e w1 ⟨rfl, hd⟩
    have HB1 := Aside0.mk hd.below
    clear hd
    go_wp2_with fail
    refine (HLN.out S L _ (HW.out.below HB1.out)).mono ?_
    rintro e w2 ⟨rfl, hw⟩
    obtain rfl := hw.symm
    go_wp2_with fail
    refine (HLE.out _).mono ?_
    rintro e w2 ⟨rfl, hd⟩
    have HB2 := Aside0.mk (HB1.out.trans (hd.below.mono HB1.out.size))
    clear hd
    have hmf := HMF.out
    go_wp2_with fail
    have hcc := Unary_any S p L 24 w2 (HW.out.below HB2.out) (by omega)
    rw [HU.out] at hcc
    refine hcc.mono ?_
    clear hcc
    rintro e w3 ⟨rfl, S1, hW1, hs1, hf1⟩
    have HW1 := Aside0.mk hW1
    have HS1 := Aside0.mk hs1
    have HF1 := Aside0.mk ((Fr.below HB2.out (fun k => k = p ∨ S k)).trans hf1)
    clear hW1 hs1 hf1
    go_wp2_with fail
    have hcc := Put_any S1 p (L ++ (numb 0 24 ++ numb 1 1)) u 32 w3 HW1.out HL1.out
    rw [HP.out] at hcc
    refine hcc.mono ?_
    clear hcc
    rintro e w4 ⟨rfl, h4⟩
    have H4 := Aside0.mk h4
    clear h4
    go_wp2_with fail
    go_ret
    rw [HWR.out]
    refine ⟨rfl, ?_⟩
    rw [HE.out]
    exact WrTo.glue (fun k hk => by rcases HS1.out k hk with q | q; exact .inl q; exact .inr (Nat.le_trans HB2.out.size q)) HF1.out H4.out
theorem rfold_any {v : Int} (h : -2147483648 ≤ v ∧ v ≤ 2147483647) (w : World) : Calls Tryz.prog 184 #[.int .i64 v] w fun e w' => e = .returned (.int .i64 (foldI v)) ∧ Drawn0 w w' := shawmref05_folded.calls v _ w (ref_folded h)
theorem rput_any5 (S : Nat → Prop) (p : Nat) (L : List Int) (v : Int) (k : Nat) (w : World) (hW : RWr w S p L) (hv : -2147483648 ≤ v ∧ v ≤ 2147483647) (hk : k ≤ 14) (hfit : (L.length : Int) + lenW v k ≤ 1048576) :
    Calls Tryz.prog 145 #[.pointer (some ⟨p, 0, none⟩), .int .i64 v, .int .i64 (k : Int)] w fun e w' => e = .returned (.tuple #[]) ∧ RWrTo w S p (L ++ word v k) w' := by
  have hfb := foldI_bound hv
  have hqb := q_bound hv k
  have HF := Aside0.mk (fun W => rfold_any hv W)
  have HWL : Aside0 (lenW v k = if foldI v / 2 ^ k < 24 then foldI v / 2 ^ k + 1 + k else 57) := ⟨rfl⟩
  have HWO : Aside0 (word v k = if foldI v / 2 ^ k < 24 then numb 0 (foldI v / 2 ^ k).toNat ++ numb 1 1 ++ numb (foldI v % 2 ^ k) k else numb 0 24 ++ numb 1 1 ++ numb (foldI v) 32) := ⟨rfl⟩
  have hpk : (1 : Int) ≤ 2 ^ k ∧ (2 : Int) ^ k ≤ 16384 := by
    have h1 : (2 : Nat) ^ k ≤ 2 ^ 14 := Nat.pow_le_pow_right (by omega) hk
    have h2 : 1 ≤ (2 : Nat) ^ k := Nat.one_le_two_pow
    have h3 : ((2 ^ k : Nat) : Int) = (2 : Int) ^ k := by norm_cast
    omega
  have HMB : Aside0 (0 ≤ foldI v % 2 ^ k ∧ foldI v % 2 ^ k < 2 ^ k) := ⟨⟨Int.emod_nonneg _ (by omega), Int.emod_lt_of_pos _ (by omega)⟩⟩
  have hqk : foldI v / 2 ^ k * 2 ^ k = foldI v - foldI v % 2 ^ k := by have := Int.mul_ediv_add_emod (foldI v) (2 ^ k); rw [Int.mul_comm] at this; omega
  have HW := Aside0.mk hW
  generalize lenW v k = ln at *
  generalize word v k = wd at *
  generalize foldI v = u at *
  obtain ⟨q, hq⟩ : ∃ q, u / 2 ^ k = q := ⟨_, rfl⟩
  obtain ⟨r, hr⟩ : ∃ r, u % 2 ^ k = r := ⟨_, rfl⟩
  rw [hq] at hqb HWL HWO hqk
  rw [hr] at HWO HMB hqk
  have hrb := HMB.out
  have s1 : wrap64 (q * 2 ^ k) = q * 2 ^ k := wrap64_id (by omega) (by omega)
  have s2 : u - q * 2 ^ k = r := by omega
  have s3 : wrap64 r = r := wrap64_id (by omega) (by omega)
  clear hW hv hqk hrb
  by_cases hlt : q < 24
  · have d2 : decide (q < 24) = true := by simpa using hlt
    rw [if_pos hlt] at HWL HWO
    obtain ⟨n, rfl⟩ : ∃ n : Nat, q = n := ⟨q.toNat, by omega⟩
    have hwl := HWL.out
    have HU : Aside0 (wUnary L (n : Int) = (0, L ++ (numb 0 n ++ numb 1 1))) := ⟨wUnary_ok L n (by omega) (by omega)⟩
    have HP : Aside0 (wPut (L ++ (numb 0 n ++ numb 1 1)) r (k : Int) = (0, (L ++ (numb 0 n ++ numb 1 1)) ++ numb r k)) := ⟨wPut_ok _ r k (by omega) HMB.out (by simp only [List.length_append, numb_length]; omega)⟩
    have HE : Aside0 (L ++ wd = (L ++ (numb 0 n ++ numb 1 1)) ++ numb r k) := ⟨by rw [HWO.out, Int.toNat_natCast]; simp only [List.append_assoc]⟩
    have HL1 : Aside0 ((L ++ (numb 0 n ++ numb 1 1)).length ≤ 1048576) := ⟨by simp only [List.length_append, numb_length]; omega⟩
    have hLL : L.length ≤ 1048576 := by omega
    clear hlt HWL HWO hwl hr
    go_enter Tryz.func145, Tryz.ntmps145
    go_wp2_with fail
    refine (HF.out _).mono ?_
    rintro e w1 ⟨rfl, hd⟩
    have HB1 := Aside0.mk hd.below
    clear hd
    go_wp2_with fail
    have hcc := RUnaryW_any S p L (n : Int) w1 (HW.out.below HB1.out) hLL
    rw [HU.out] at hcc
    refine hcc.mono ?_
    clear hcc
    rintro e w3 ⟨rfl, S1, hW1, hs1, hf1⟩
    have HW1 := Aside0.mk hW1
    have HS1 := Aside0.mk hs1
    have HF1 := Aside0.mk ((Fr.below HB1.out (fun k => k = p ∨ S k)).trans hf1)
    clear hW1 hs1 hf1
    go_wp2_with fail
    have hcc := RPut_any S1 p (L ++ (numb 0 n ++ numb 1 1)) r (k : Int) w3 HW1.out HL1.out
    rw [HP.out] at hcc
    refine hcc.mono ?_
    clear hcc
    rintro e w4 ⟨rfl, h4⟩
    have H4 := Aside0.mk h4
    clear h4
    go_wp2_with fail
    (try simp only [Exit.inBlock, Exit.then])
    first | refine bodyPost_ret (results_none rfl _ _ _) rfl ?_ | refine bodyPost_end (results_none rfl _ _ _) rfl ?_
    refine ⟨rfl, ?_⟩
    rw [HE.out]
    exact RWrTo.glue (fun k hk => by rcases HS1.out k hk with q | q; exact .inl q; exact .inr (Nat.le_trans HB1.out.size q)) HF1.out H4.out
  · have d2 : decide (q < 24) = false := by simp; omega
    rw [if_neg hlt] at HWL HWO
    have hwl := HWL.out
    have HU : Aside0 (wUnary L 24 = (0, L ++ (numb 0 24 ++ numb 1 1))) := ⟨wUnary_ok L 24 (by omega) (by omega)⟩
    have HP : Aside0 (wPut (L ++ (numb 0 24 ++ numb 1 1)) u 32 = (0, (L ++ (numb 0 24 ++ numb 1 1)) ++ numb u 32)) := ⟨wPut_ok _ u 32 (by omega) (by simp only [Int.reducePow]; omega) (by simp only [List.length_append, numb_length]; omega)⟩
    have HE : Aside0 (L ++ wd = (L ++ (numb 0 24 ++ numb 1 1)) ++ numb u 32) := ⟨by rw [HWO.out]; simp only [List.append_assoc]⟩
    have HL1 : Aside0 ((L ++ (numb 0 24 ++ numb 1 1)).length ≤ 1048576) := ⟨by simp only [List.length_append, numb_length]; omega⟩
    have hLL : L.length ≤ 1048576 := by omega
    clear hlt HWL HWO hwl hr s1 s2 s3
    go_enter Tryz.func145, Tryz.ntmps145
    go_wp2_with fail
    refine (HF.out _).mono ?_
    rintro e w1 ⟨rfl, hd⟩
    have HB1 := Aside0.mk hd.below
    clear hd
    go_wp2_with fail
    have hcc := RUnaryW_any S p L 24 w1 (HW.out.below HB1.out) hLL
    rw [HU.out] at hcc
    refine hcc.mono ?_
    clear hcc
    rintro e w3 ⟨rfl, S1, hW1, hs1, hf1⟩
    have HW1 := Aside0.mk hW1
    have HS1 := Aside0.mk hs1
    have HF1 := Aside0.mk ((Fr.below HB1.out (fun k => k = p ∨ S k)).trans hf1)
    clear hW1 hs1 hf1
    go_wp2_with fail
    have hcc := RPut_any S1 p (L ++ (numb 0 24 ++ numb 1 1)) u 32 w3 HW1.out HL1.out
    rw [HP.out] at hcc
    refine hcc.mono ?_
    clear hcc
    rintro e w4 ⟨rfl, h4⟩
    have H4 := Aside0.mk h4
    clear h4
    go_wp2_with fail
    (try simp only [Exit.inBlock, Exit.then])
    first | refine bodyPost_ret (results_none rfl _ _ _) rfl ?_ | refine bodyPost_end (results_none rfl _ _ _) rfl ?_
    refine ⟨rfl, ?_⟩
    rw [HE.out]
    exact RWrTo.glue (fun k hk => by rcases HS1.out k hk with q | q; exact .inl q; exact .inr (Nat.le_trans HB1.out.size q)) HF1.out H4.out
end Go.Proofs.YtjcijaojcgampaaGreatDoor.P
end
