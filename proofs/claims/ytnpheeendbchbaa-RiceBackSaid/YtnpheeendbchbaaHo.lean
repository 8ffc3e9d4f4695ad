/- The least of bestW and orderW (plain law); the walk of shawmlaw05.RiceLeast. -/
import Derived.Test.YtnpheeendbchbaaHn
namespace Go.Proofs.Ytnpheeendbchbaa.P
open Go.RowKit Go.Shelf Go.Proofs.Ytnpheeendbchbaa.Bits Go.Proofs.YtnpheeendbchbaaW.PrintWords Go.Proofs.YtnpheeendbchbaaW.PrintLast Go.Proofs.YtnpheeendbchbaaW.PrintMore
set_option linter.unusedVariables false
set_option linter.unusedSimpArgs false
attribute [local go_sem ↓] Go.wp_at_zero Go.wp_at_succ

theorem least (f : Nat → Int) (D : Nat → Bool) (hD : D 0 = true) : ∀ n, ∃ k : Nat, k ≤ n ∧ D k = true ∧ iter (fun s p => if D p then bstep f s p else s) n 1 (0, f 0) = ((k : Int), f k) ∧ (∀ i ≤ n, D i = true → f k ≤ f i) ∧ (∀ i < k, D i = true → f k < f i)
  | 0 => ⟨0, Nat.le_refl _, hD, rfl, fun i hi _ => by rw [Nat.le_zero.1 hi]; exact Int.le_refl _, fun i hi => by omega⟩
  | n + 1 => by
    obtain ⟨k, hk, hDk, e, h1, h2⟩ := least f D hD n
    rw [iter_snoc, e, Nat.add_comm 1 n]
    by_cases hd : D (n + 1) = true
    · by_cases hlt : f (n + 1) < f k
      · refine ⟨n + 1, Nat.le_refl _, hd, ?_, fun i hi hDi => ?_, fun i hi hDi => ?_⟩
        · simp only [hd, if_true]; unfold bstep; simp only [hlt, if_true]
        · rcases Nat.lt_or_ge i (n + 1) with h | h
          · have := h1 i (by omega) hDi; omega
          · rw [show i = n + 1 by omega]; exact Int.le_refl _
        · have := h1 i (by omega) hDi; omega
      · refine ⟨k, by omega, hDk, ?_, fun i hi hDi => ?_, h2⟩
        · simp only [hd, if_true]; unfold bstep; simp only [hlt, if_false]
        · rcases Nat.lt_or_ge i (n + 1) with h | h
          · exact h1 i (by omega) hDi
          · rw [show i = n + 1 by omega]; omega
    · refine ⟨k, by omega, hDk, ?_, fun i hi hDi => ?_, h2⟩
      · simp only [hd]; rfl
      · rcases Nat.lt_or_ge i (n + 1) with h | h
        · exact h1 i (by omega) hDi
        · exact absurd (by rw [← show i = n + 1 by omega]; exact hDi) hd
theorem bestW_least (l : List Int) : ∃ k : Nat, k ≤ 14 ∧ bestW l = ((k : Int), sumW l k) ∧ (∀ i ≤ 14, sumW l k ≤ sumW l i) ∧ (∀ i < k, sumW l k < sumW l i) := by
  obtain ⟨k, hk, _, e, h1, h2⟩ := least (sumW l) (fun _ => true) rfl 14
  refine ⟨k, hk, ?_, fun i hi => h1 i hi rfl, fun i hi => h2 i hi rfl⟩
  rw [← e]; unfold bestW; congr 1
theorem orderW_least (l : List Int) : ∃ p : Nat, p ≤ 3 ∧ divB l.length p = true ∧ orderW l = ((p : Int), wholeW l p) ∧ (∀ i ≤ 3, divB l.length i = true → wholeW l p ≤ wholeW l i) ∧ (∀ i < p, divB l.length i = true → wholeW l p < wholeW l i) :=
  least (wholeW l) (divB l.length) (by simp [divB, Nat.mod_one]) 3
theorem wholeW0_le {l : List Int} (hs : smallL l) : wholeW l 0 ≤ 6 + 57 * l.length := by
  have := partL_small hs 0 0
  have h2 := (bestW_bound this).2
  have h3 := partL_len_le l 0 0
  rw [wholeW_csum]
  have e : csum l 0 (List.range' 0 (2 ^ 0)) = costP (partL l 0 0) := by simp [csum]
  rw [e]; unfold costP; omega
attribute [local go_sem] Oper.semAt_some
theorem wrap_nat {a b : Nat} (h : a + b ≤ 400) : wrap64 ((a : Nat) : Int) = (a : Int) ∧ wrap64 ((a : Nat) + (b : Nat) : Int) = (a : Int) + (b : Int) := ⟨wrap64_id (by omega) (by omega), wrap64_id (by omega) (by omega)⟩
set_option maxHeartbeats 4000000 in
set_option maxRecDepth 100000 in
theorem RiceLeast_any (A : Option Addr) (c : Nat) (l : List Int) (w : World) (hC : Kd.C (Kd.int .i64) w A l.length l) (hc : l.length ≤ c) (hl : l.length ≤ 1000000000000000000) :
    Calls Try.prog 8 #[.slice A l.length c] w fun e w' => e = .returned (.bool true) ∧ Below w.heap.size w w' := by
  have HC := Aside0.mk hC
  have HBw := Aside0.mk (Below.refl w.heap.size w)
  by_cases h1 : 400 < l.length
  · have d1 : decide ((400 : Int) < (l.length : Int)) = true := by simp; omega
    clear h1 hC
    go_enter Try.func8, Try.ntmps8
    go_wp2_with fail
    refine (awake_any w).mono ?_
    rintro e w9 ⟨rfl, hb⟩
    have HB9 := Aside0.mk (HBw.out.trans (hb.mono HBw.out.size))
    clear hb
    go_wp2_with fail
    go_ret
    exact ⟨rfl, HB9.out⟩
  have d1 : decide ((400 : Int) < (l.length : Int)) = false := by simp; omega
  have HR1 := Aside0.mk (right_any A c l w hC hc (by omega))
  clear hC
  by_cases hs1 : l.all small = true
  case neg =>
    have e1 : l.all small = false := by simpa using hs1
    rw [e1] at HR1
    clear hs1 e1 h1
    go_enter Try.func8, Try.ntmps8
    go_wp2_with fail
    refine HR1.out.mono ?_
    rintro e w1 ⟨rfl, hd⟩
    have HB1 := Aside0.mk hd.below
    clear hd
    simp only [Bool.not_false]
    go_wp2_with fail
    refine (awake_any w1).mono ?_
    rintro e w9 ⟨rfl, hb⟩
    have HB9 := Aside0.mk (HB1.out.trans (hb.mono HB1.out.size))
    clear hb
    go_wp2_with fail
    go_ret
    exact ⟨rfl, HB9.out⟩
  rw [hs1] at HR1
  have hs := (all_small l).1 hs1
  have hl4 : l.length ≤ 400 := by omega
  have hck : chk l = 0 := chk_zero.2 ⟨by omega, hs⟩
  obtain ⟨k, hk14, hbe, hk1, hk2⟩ := bestW_least l
  obtain ⟨p, hp3, hdv, hoe, hp1, hp2⟩ := orderW_least l
  have hfb : fBest l = ((k : Int), sumW l k, 0) := by unfold fBest; rw [if_neg (by simp [hck]), hbe]
  have hfo : fOrder l = ((p : Int), wholeW l p, 0) := by unfold fOrder; rw [if_neg (by simp [hck]), hoe]
  have hw0 := wholeW0_le hs
  have hwp := hp1 0 (by omega) (by simp [divB, Nat.mod_one])
  have hfw : fWrite [] l = (0, listBits l p) := by
    unfold fWrite
    rw [if_neg (by simp [hck]), if_neg (by rw [hoe]; simp; omega), hoe]; simp
  have hlb := listBits_length hs p
  have HBE := Aside0.mk (fun W hW => Best_any A c l W hW hc (by omega))
  have HOR := Aside0.mk (fun W hW => Order_any A c l W hW hc (by omega))
  have HCO := Aside0.mk (fun W (hW : Kd.C (Kd.int .i64) W A l.length l) i (hi : i ≤ 14) => by have := Cost_any A c l (i : Int) W hW hc (by omega); rw [fCost_ok hs (by omega) i hi] at this; exact this)
  simp only [hfb] at HBE
  simp only [hfo] at HOR
  have HS := Aside0.mk hs
  have HK1 := Aside0.mk hk1
  have HK2 := Aside0.mk hk2
  have HP1 := Aside0.mk hp1
  have HP2 := Aside0.mk hp2
  have HDV := Aside0.mk hdv
  have HFW := Aside0.mk hfw
  have HLB := Aside0.mk hlb
  clear hs hs1 h1 hck hbe hoe hfb hfo hfw hlb hw0 hwp hk1 hk2 hp1 hp2 hdv
  obtain ⟨best, hbest⟩ : ∃ x, x = sumW l k := ⟨_, rfl⟩
  obtain ⟨order, horder⟩ : ∃ x, x = wholeW l p := ⟨_, rfl⟩
  obtain ⟨kI, hkI⟩ : ∃ x : Int, x = (k : Int) := ⟨_, rfl⟩
  obtain ⟨pI, hpI⟩ : ∃ x : Int, x = (p : Int) := ⟨_, rfl⟩
  rw [← hbest, ← hkI] at HBE
  rw [← horder, ← hpI] at HOR
  have HKI := Aside0.mk hkI
  have HPI := Aside0.mk hpI
  have HBEST := Aside0.mk hbest
  have HORDER := Aside0.mk horder
  clear hbest horder hkI hpI
  have HBP := Aside0.mk (fun W (hW : Kd.C (Kd.int .i64) W A l.length l) i x (hx : x < 2 ^ i) => by
    have hX := partL_small HS.out i x
    have hn := partL_length l i x hx
    have := Best_any (pAt A c (partN l i) x) (c - x * partN l i) (partL l i x) W (part_C hW hc i x hx) (by rw [hn]; have := part_le l i x hx; omega) (by have := partL_len_le l i x; omega)
    have hf : fBest (partL l i x) = ((bestW (partL l i x)).1, (bestW (partL l i x)).2, 0) := by unfold fBest; rw [if_neg (by simp [chk_zero.2 ⟨by have := partL_len_le l i x; omega, hX⟩])]
    rw [hn, hf] at this
    exact this)
  have HCP := Aside0.mk (fun i x => costP_bound' HS.out (by omega) i x)
  have HCB := Aside0.mk (fun i x => csum_bound HS.out (by omega) i (List.range' 0 x))
  have HPE := Aside0.mk (fun i x (hx : x < 2 ^ i) => part_le l i x hx)
  have HPM := Aside0.mk (fun i => partN_le l i)
  have HSH : Aside0 (∀ i : Nat, ((l.length : Nat) : Int) / 2 ^ i = ((partN l i : Nat) : Int)) := ⟨fun i => by unfold partN; push_cast; rfl⟩
  generalize hN : l.length = N at *
  have HN := Aside0.mk hN
  clear hN
  go_enter Try.func8, Try.ntmps8
  go_wp2_with fail
  refine HR1.out.mono ?_
  rintro e w1 ⟨rfl, hd⟩
  have HB1 := Aside0.mk hd.below
  clear hd
  simp only [Bool.not_true]
  go_wp2_with fail
  refine (HBE.out w1 (Kd.C_below HC.out HB1.out)).mono ?_
  rintro e w2 ⟨rfl, hb⟩
  have HB2 := Aside0.mk (HB1.out.trans (hb.mono HB1.out.size))
  clear hb
  go_wp2_with fail
  refine (HOR.out w2 (Kd.C_below HC.out HB2.out)).mono ?_
  rintro e w3 ⟨rfl, hb⟩
  have HB3 := Aside0.mk (HB2.out.trans (hb.mono HB2.out.size))
  clear hb
  go_wp2_with fail
  go_loopw [47] (fun u wr => ∃ i : Nat, u = .int .i64 (i : Int) ∧ i ≤ 15 ∧ Aside0 (Below w.heap.size w wr)) (fun u _ => 15 - (intOf u).toNat)
  case atStart => exact ⟨0, rfl, Nat.zero_le _, HB3⟩
  case round =>
    obtain ⟨i, rfl, hi, HBB⟩ := hrel
    by_cases hlt : i < 15
    · have hco := HCO.out wr (Kd.C_below HC.out HBB.out) i (by omega)
      have f1 := HK1.out i (by omega)
      have f2 := HK2.out i
      rw [← HBEST.out] at f1 f2
      have hik : i = k → sumW l i = best := fun e => by rw [e, HBEST.out]
      generalize sumW l i = n at *
      have d1 : decide (n < best) = false := by simp; omega
      have HCO1 := Aside0.mk hco
      have hk := HKI.out
      clear hco
      rcases Nat.lt_trichotomy i k with h | h | h
      · have hn := f2 h
        have d2 : decide ((i : Int) < kI) = true := by simp; omega
        have d3 : (n == best) = false := by simp; omega
        have d4 : ((i : Int) == kI) = false := by simp; omega
        clear f1 f2 hik hn h hk
        go_wp2_with fail
        refine HCO1.out.mono ?_
        rintro e w4 ⟨rfl, hd⟩
        have HB4 := Aside0.mk (HBB.out.trans (hd.below.mono HBB.out.size))
        clear hd
        go_wp2_with fail
        go_roundw
        case rel => exact ⟨i + 1, by go_num, by omega, HB4⟩
        case measure => simp [intOf]; omega
      · have hn := hik h
        have d2 : decide ((i : Int) < kI) = false := by simp; omega
        have d3 : (n != best) = false := by simp; omega
        have d4 : ((i : Int) == kI) = true := by simp; omega
        clear f1 f2 hik hn h hk
        go_wp2_with fail
        refine HCO1.out.mono ?_
        rintro e w4 ⟨rfl, hd⟩
        have HB4 := Aside0.mk (HBB.out.trans (hd.below.mono HBB.out.size))
        clear hd
        go_wp2_with fail
        go_roundw
        case rel => exact ⟨i + 1, by go_num, by omega, HB4⟩
        case measure => simp [intOf]; omega
      · have d2 : decide ((i : Int) < kI) = false := by simp; omega
        have d4 : ((i : Int) == kI) = false := by simp; omega
        clear f1 f2 hik h hk
        go_wp2_with fail
        refine HCO1.out.mono ?_
        rintro e w4 ⟨rfl, hd⟩
        have HB4 := Aside0.mk (HBB.out.trans (hd.below.mono HBB.out.size))
        clear hd
        go_wp2_with fail
        go_roundw
        case rel => exact ⟨i + 1, by go_num, by omega, HB4⟩
        case measure => simp [intOf]; omega
    · obtain rfl : i = 15 := by omega
      have HB5 := HBB
      clear HBB HB3 HB2 HB1 HBE HOR HCO HK1 HK2
      go_wp2_with fail
      go_loopw [84] (fun u wr => ∃ i : Nat, u = .int .i64 (i : Int) ∧ i ≤ 4 ∧ Aside0 (Below w.heap.size w wr)) (fun u _ => 4 - (intOf u).toNat)
      case atStart => exact ⟨0, rfl, Nat.zero_le _, HB5⟩
      case round =>
        obtain ⟨i, rfl, hi, HBB⟩ := hrel
        by_cases hlt : i < 4
        · obtain ⟨QI, hQI⟩ : ∃ x : Int, x = ((2 ^ i : Nat) : Int) := ⟨_, rfl⟩
          have h8 := pow_le8 (p := i) (by omega)
          have s3 : wrap64 (2 ^ i) = QI := by have := (shl_pow (p := i) (by omega)).2; rw [hQI]; rwa [Nat.min_eq_left (by omega)] at this
          have hq0 : ¬ QI = 0 := by omega
          have hq1 : 0 < QI := by omega
          have hm : (N : Int) % QI = ((N % 2 ^ i : Nat) : Int) := by rw [hQI]; exact (Int.natCast_emod _ _).symm
          have hm2 : Int.tmod (N : Int) QI = ((N % 2 ^ i : Nat) : Int) := by rw [Int.tmod_eq_emod_of_nonneg (by omega)]; exact hm
          have HQ := Aside0.mk hQI
          clear hQI
          by_cases hd : divB N i = true
          · have hr : N % 2 ^ i = 0 := by simp only [divB, Bool.and_eq_true, decide_eq_true_eq] at hd; exact hd.1
            have h00 : 0 < N ∨ i = 0 := by simp only [divB, Bool.and_eq_true, Bool.or_eq_true, decide_eq_true_eq] at hd; exact hd.2
            rw [hr] at hm hm2
            have s4 := HSH.out i
            have HM := Aside0.mk (HPM.out i)
            have HPEi := Aside0.mk (HPE.out i)
            have HBPi := Aside0.mk (fun W hW => HBP.out W hW i)
            have HCPi := Aside0.mk (HCP.out i)
            have HCBi := Aside0.mk (HCB.out i)
            have HCS := Aside0.mk (fun x => csum_snoc l i (List.range' 0 x) x)
            have HWC : Aside0 (wholeW l i = 2 + csum l i (List.range' 0 (2 ^ i))) := ⟨wholeW_csum l i⟩
            have f1 := HP1.out i (by omega) hd
            have f2 := HP2.out i
            have hip : i = p → wholeW l i = order := fun e => by rw [e, HORDER.out]
            rw [← HORDER.out] at f1 f2
            have F1 := Aside0.mk f1
            have F2 := Aside0.mk (fun h => f2 h hd)
            have HIP := Aside0.mk hip
            generalize wholeW l i = WI at *
            generalize partN l i = M at *
            obtain ⟨Q, hQ⟩ : ∃ Q, Q = 2 ^ i := ⟨_, rfl⟩
            rw [← hQ] at h8 HPEi HBPi HWC HQ
            clear hd hr f1 f2 hip hQ hm2
            rw [Int.natCast_zero] at hm
            obtain ⟨NI, hNI⟩ : ∃ x : Int, (N : Int) = x := ⟨_, rfl⟩
            rw [hNI] at hm s4
            have h00' : (NI == 0) = false ∨ (NI == 0) = true ∧ ¬ 0 < i := by
              rcases h00 with h | h
              · left; simp; omega
              · by_cases h0 : N = 0
                · right; exact ⟨by simp; omega, by omega⟩
                · left; simp; omega
            have hS : 0 ≤ NI ∧ NI ≤ 400 := by omega
            clear h00
            rcases h00' with d6 | ⟨d6, d7⟩
            case inl | inr =>
              go_wp2_with fail
              go_region
              go_wp2_with fail
              rw [s3]
              have di : decide ((i : Int) < 4) = true := by simp; omega
              try rw [di]
              clear di
              clear d6 hm s4 s3 hq0 hNI hS
              have HBB2 : Aside0 (Below w.heap.size w wr.drew) := ⟨HBB.out.drew⟩
              go_loopw [13, 111] (fun u13 u wy => ∃ x : Nat, u = .int .i64 (x : Int) ∧ u13 = .int .i64 (2 + csum l i (List.range' 0 x)) ∧ x ≤ Q ∧ Aside0 (Below w.heap.size w wy)) (fun _ u _ => Q - (intOf u).toNat)
              case atStart => exact ⟨0, rfl, rfl, Nat.zero_le _, HBB2⟩
              case round =>
                obtain ⟨x, rfl, rfl, hx, HBX⟩ := hrel
                have hq := HQ.out
                by_cases hlx : x < Q
                · have dq : (x : Int) < QI := by omega
                  have hle := HPEi.out x hlx
                  have hbp := HBPi.out wr (Kd.C_below HC.out HBX.out) x hlx
                  have hcp := HCPi.out x
                  have hcb := HCBi.out x
                  rw [List.length_range'] at hcb
                  have hcs := HCS.out x
                  rw [show List.range' 0 x ++ [x] = List.range' 0 (x + 1) by rw [List.range'_concat]; simp] at hcs
                  unfold costP at hcp hcs
                  generalize csum l i (List.range' 0 x) = s at *
                  generalize hs1 : csum l i (List.range' 0 (x + 1)) = s' at *
                  have HE1 := Aside0.mk hs1
                  clear hs1
                  generalize bestW (partL l i x) = r at *
                  obtain ⟨r1, v⟩ := r
                  dsimp only at hbp hcp hcs
                  have hsl : ∀ W : World, (Instr.slice 40 (.slice A N c) (some (.int .i64 (((x * M : Nat) : Int)))) (some (.int .i64 (((x * M : Nat) : Int) + (M : Int)))) none).run Try.prog W = .ok (.slice (pAt A c M x) M (c - x * M)) W := by
                    intro W
                    have := cut_mid (P := Try.prog) 40 3 .i64 .i64 Try.underlying40 (i := _) rfl 1 rfl A N c ((x * M : Nat) : Int) ((x * M + M : Nat) : Int) (by omega) (by omega) (by omega) hc W
                    rw [Int.toNat_natCast, Int.toNat_natCast, show x * M + M - x * M = M by omega] at this
                    rw [show ((x * M : Nat) : Int) + (M : Int) = ((x * M + M : Nat) : Int) by omega]
                    exact this
                  have hm1 : (x : Int) * (M : Int) = ((x * M : Nat) : Int) := (Int.natCast_mul _ _).symm
                  have HBP1 := Aside0.mk hbp
                  have HS5 : Aside0 (wrap64 (4 + v) = 4 + v) := ⟨wrap64_id (by omega) (by omega)⟩
                  have HS6 : Aside0 (wrap64 (2 + s + (4 + v)) = 2 + s') := ⟨by rw [hcs, wrap64_id (by omega) (by omega)]; omega⟩
                  obtain ⟨w3, w4⟩ := wrap_nat (Nat.le_trans hle hl4)
                  have hx8 : x < 8 := by omega
                  clear hbp hq hcp hcb hcs hle h8 hl4 hl d1 hq1 hk14 hp3
                  generalize pAt A c M x = pa at hsl HBP1
                  generalize c - x * M = cc at hsl HBP1
                  generalize x * M = XM at hsl hm1 w3 w4
                  go_wp2_with fail
                  refine HBP1.out.mono ?_
                  rintro e w4 ⟨rfl, hb⟩
                  have HB4 := Aside0.mk (HBX.out.trans (hb.mono HBX.out.size))
                  have s5 := HS5.out
                  have s6 := HS6.out
                  clear hb
                  go_wp2_with fail
                  refine And.intro ?_ (by simp [intOf]; omega)
                  repeat apply Exists.intro
                  refine ⟨?_, rfl⟩
                  exact ⟨x + 1, by go_num, by rw [HE1.out]; exact congrArg (Value.int .i64) s6, by omega, HB4⟩
                · obtain rfl : x = Q := by omega
                  rw [← HWC.out]
                  have dq : ¬ (x : Int) < QI := by omega
                  have f1 := F1.out
                  have f2 := F2.out
                  have hip := HIP.out
                  have hp := HPI.out
                  have d1 : decide (WI < order) = false := by simp; omega
                  rcases Nat.lt_trichotomy i p with h | h | h
                  · have hn := f2 h
                    have d2 : decide ((i : Int) < pI) = true := by simp; omega
                    have d3 : (WI == order) = false := by simp; omega
                    have d4 : ((i : Int) == pI) = false := by simp; omega
                    clear hn
                    clear f1 f2 hip h hp hq
                    go_wp2_with fail
                    exact ⟨⟨i + 1, by go_num, by omega, HBX⟩, by simp [intOf]; omega⟩
                  · have hn := hip h
                    have d2 : decide ((i : Int) < pI) = false := by simp; omega
                    have d3 : (WI != order) = false := by simp; omega
                    have d4 : ((i : Int) == pI) = true := by simp; omega
                    clear hn
                    clear f1 f2 hip h hp hq
                    go_wp2_with fail
                    exact ⟨⟨i + 1, by go_num, by omega, HBX⟩, by simp [intOf]; omega⟩
                  · have d2 : decide ((i : Int) < pI) = false := by simp; omega
                    have d4 : ((i : Int) == pI) = false := by simp; omega
                    clear f1 f2 hip h hp hq
                    go_wp2_with fail
                    exact ⟨⟨i + 1, by go_num, by omega, HBX⟩, by simp [intOf]; omega⟩
          · have hne : ((i : Int) == pI) = false := by
              have := HPI.out
              have : i ≠ p := fun e => hd (e ▸ HDV.out)
              simp; omega
            by_cases hr : N % 2 ^ i = 0
            · obtain rfl : N = 0 := by
                rcases Nat.eq_zero_or_pos N with h | h
                · exact h
                · exact absurd (by simp [divB, hr, h]) hd
              have hi0 : 0 < i := by
                rcases Nat.eq_zero_or_pos i with h | h
                · exact absurd (by simp [divB, h]) hd
                · exact h
              rw [hr] at hm hm2
              clear hd hr h8
              go_wp2_with fail
              exact ⟨⟨i + 1, by go_num, by omega, HBB⟩, by simp [intOf]; omega⟩
            · obtain ⟨R, hR⟩ : ∃ x : Int, x = ((N % 2 ^ i : Nat) : Int) := ⟨_, rfl⟩
              rw [← hR] at hm hm2
              have d5 : decide (0 < R) = true := by simp; omega
              clear hd hr h8 hR
              go_wp2_with fail
              exact ⟨⟨i + 1, by go_num, by omega, HBB⟩, by simp [intOf]; omega⟩
        · obtain rfl : i = 4 := by omega
          clear HP1 HP2 HDV HBP HCP HCB HPE HPM HSH
          go_wp2_with fail
          refine (New_any wr).mono ?_
          rintro e w5 ⟨rfl, hw⟩
          obtain ⟨q, hq⟩ : ∃ q, q = wr.heap.size := ⟨_, rfl⟩
          have hA : Wr w5 (fun _ => False) q [] := by rw [hw, hq]; exact Wr.new wr
          have hB : Below w.heap.size w w5 := by rw [hw]; exact HBB.out.trans ((below_alloc (Below.refl _ _) _).mono HBB.out.size)
          have HP : Aside0 (w.heap.size ≤ q) := ⟨by rw [hq]; exact HBB.out.size⟩
          rw [← hq]
          have HA := Aside0.mk hA
          have HB := Aside0.mk hB
          clear hA hB hw hq
          go_wp2_with fail
          have hC5 : ∀ W, Fr (fun k => k = q ∨ False) w5 W → Kd.C (Kd.int .i64) W A l.length l := fun W hf => by
            rw [HN.out]
            exact Kd.C_below HC.out (HB.out.trans (hf.to_below HB.out.size (fun k hk => by have := HP.out; exact hk.elim (fun e => by omega) (fun e => e.elim))))
          have cc := Write_any5 (fun _ => False) q [] A c l w5 HA.out (by decide) hC5 (by rw [HN.out]; exact hc) (by rw [HN.out]; omega)
          rw [HFW.out, HN.out] at cc
          refine cc.mono ?_
          clear cc hC5
          rintro e w6 ⟨rfl, h⟩
          obtain ⟨S6, hA, hS, hB⟩ := h.low HP.out (fun _ h => h.elim) HB.out (Nat.le_refl _)
          have HA6 := Aside0.mk hA
          have HB6 := Aside0.mk hB
          clear h hA hS hB HA HB
          go_wp2_with fail
          have cc := Len_any S6 q _ w6 HA6.out
          rw [HLB.out, ← HORDER.out] at cc
          refine cc.mono ?_
          clear cc
          rintro e w7 ⟨rfl, hw⟩
          obtain rfl := hw.symm
          go_wp2_with fail
          refine (awake_any w6).mono ?_
          rintro e w9 ⟨rfl, hb⟩
          have HB9 := Aside0.mk (HB6.out.trans (hb.mono HB6.out.size))
          clear hb
          go_wp2_with fail
          go_ret
          exact ⟨rfl, HB9.out⟩
end Go.Proofs.Ytnpheeendbchbaa.P
