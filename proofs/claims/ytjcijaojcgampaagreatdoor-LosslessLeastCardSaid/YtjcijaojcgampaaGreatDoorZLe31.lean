/- Two channels that are the same; no plan has fewer bits (plain law). The walk of shawmlaw20.LosslessLeast. -/
import Derived.Test.YtjcijaojcgampaaGreatDoorZLe28
import Derived.Test.YtjcijaojcgampaaGreatDoorZLe30
import Derived.Test.YtjcijaojcgampaaGreatDoorZLe20
section
namespace Go.Proofs.YtjcijaojcgampaaGreatDoor.P
open Go.RowKit Go.Shelf Go.Proofs.YtjcijaojcgampaaGreatDoor.Bits Go.Proofs.YtjcijaojcgampaaGreatDoorW.PrintWords Go.Proofs.YtjcijaojcgampaaGreatDoorW.PrintLast Go.Proofs.YtjcijaojcgampaaGreatDoorW.PrintMore
set_option linter.unusedVariables false
set_option linter.unusedSimpArgs false
theorem cost_cases (x : List Int) (hc : chkS x = 0) (k o : Nat) : (fCostP x k o = (0, 5) ∧ ∀ q ∈ plansL, q = (k, o) → (planW x q).2 = false) ∨ ((k, o) ∈ plansL ∧ (planW x (k, o)).2 = true ∧ fCostP x k o = (((planW x (k, o)).1.length : Int), 0)) := by
  unfold fCostP
  rw [if_pos hc]
  by_cases h : (k, o) ∈ plansL ∧ (planW x (k, o)).2 = true
  · refine .inr ⟨h.1, h.2, costL_some h.1 ?_⟩
    unfold costT
    rw [h.2, decide_eq_true rfl, decide_eq_true rfl]; rfl
  · have hno : ∀ q ∈ plansL, q = (k, o) → (planW x q).2 = false := by
      rintro q hq rfl
      cases hp : (planW x (k, o)).2 with
      | false => rfl
      | true => exact absurd ⟨hq, hp⟩ h
    refine .inl ⟨costL_none (fun q hq => ?_), hno⟩
    unfold costT
    by_cases h1 : (q.1 : Int) = k
    · by_cases h2 : (q.2 : Int) = o
      · rw [hno q hq (Prod.ext (by omega) (by omega))]; simp
      · rw [decide_eq_false h2]; simp
    · rw [decide_eq_false h1]; simp
/-- The place of a plan among all pairs in the order of the law's loops. -/
def code (q : Nat × Nat) : Nat := 13 * q.1 + q.2
theorem plans_sorted : plansL.Pairwise (fun a b => code a < code b) := by decide
theorem least_step {x : List Int} (hc : chkS x = 0) (k o : Nat) :
    (fCostP x k o = (0, 5) ∧ (k, o) ≠ (planL x).1) ∨ ∃ n : Int, fCostP x k o = (n, 0) ∧ (planL x).2.1 ≤ n ∧ ((k, o) = (planL x).1 → n = (planL x).2.1) ∧ ((k, o) ≠ (planL x).1 → n = (planL x).2.1 → code (planL x).1 < code (k, o)) := by
  obtain ⟨h1, h2, h3, l1, l2, hl, h4⟩ := (planL_best x).some (planL_found x)
  have h2 : ((planW x (planL x).1).1.length : Int) = (planL x).2.1 := h2
  rcases cost_cases x hc k o with ⟨e, hno⟩ | ⟨hm, hok, e⟩
  · refine .inl ⟨e, fun h => ?_⟩
    have := hno (planL x).1 (planL_mem x) h.symm
    rw [h1] at this
    cases this
  · refine .inr ⟨_, e, h3 (k, o) hm hok, fun h => by rw [h]; exact h2, fun hne hn => ?_⟩
    have hs := plans_sorted
    rw [hl] at hs hm
    rcases List.mem_append.1 hm with hm | hm
    · have : (planL x).2.1 < ((planW x (k, o)).1.length : Int) := h4 (k, o) hm hok
      omega
    · rcases List.mem_cons.1 hm with hm | hm
      · exact absurd hm hne
      · exact (List.pairwise_cons.1 (List.pairwise_append.1 hs).2.1).1 _ hm
theorem plan_bound (x : List Int) : (planL x).1.1 ≤ 3 ∧ (planL x).1.2 ≤ 12 := by
  rcases plans_ok _ (planL_mem x) with h | h | h | h
  · rw [h]; decide
  · rw [h]; decide
  · omega
  · omega
theorem plan_le (x : List Int) : (planL x).2.1 ≤ 17 * (x.length : Int) + 2 := by
  have h1 := sigBits_len x
  have h2 := sigBits_le x
  omega
end Go.Proofs.YtjcijaojcgampaaGreatDoor.P
end
section
namespace Go.Proofs.YtjcijaojcgampaaGreatDoor.P
open Go.RowKit Go.Shelf Go.Proofs.YtjcijaojcgampaaGreatDoor.Bits Go.Proofs.YtjcijaojcgampaaGreatDoorW.PrintWords Go.Proofs.YtjcijaojcgampaaGreatDoorW.PrintLast Go.Proofs.YtjcijaojcgampaaGreatDoorW.PrintMore
set_option linter.unusedVariables false
set_option linter.unusedSimpArgs false
attribute [local go_sem ↓] Go.wp_at_zero Go.wp_at_succ
theorem met_next (q : Nat × Nat) (k o : Nat) (b : Bool) (hq : q.2 ≤ 12) (ho : o ≤ 12) (hb : b = decide (code q < 13 * k + o)) : (b || (decide (k = q.1) && decide (o = q.2))) = decide (code q < 13 * k + (o + 1)) := by
  subst hb
  rw [Bool.eq_iff_iff]
  simp only [Bool.or_eq_true, Bool.and_eq_true, decide_eq_true_eq]
  unfold code
  omega
set_option maxHeartbeats 8000000 in
set_option maxRecDepth 100000 in
theorem LosslessLeast_any (A : Option Addr) (c : Nat) (x : List Int) (w : World) (hg : HO w) (hC : Kd.C (Kd.int .i64) w A x.length x) (hc : x.length ≤ c) (hl : x.length ≤ 1000000000000000000) :
    Calls Tryz.prog 11 #[.slice A x.length c] w fun e w' => e = .returned (.bool true) ∧ Below w.heap.size w w' := by
  have HG := Aside0.mk hg
  by_cases h1 : 300 < x.length
  · have d1 : decide ((300 : Int) < (x.length : Int)) = true := by simp; omega
    clear h1 hC hg
    go_enter Tryz.func11, Tryz.ntmps11
    go_wp2_with fail
    refine (awake20_any w HG.out).mono ?_
    rintro e w9 ⟨rfl, hb⟩
    have HB9 := Aside0.mk hb
    clear hb
    go_wp2_with fail
    go_ret
    exact ⟨rfl, HB9.out⟩
  have d1 : decide ((300 : Int) < (x.length : Int)) = false := by simp; omega
  have hpl := Plan_any A c x w hg hC hc
  have HCO : Aside0 (∀ W k o, Below w.heap.size w W → Calls Tryz.prog 26 #[.slice A x.length c, .int .i64 k, .int .i64 o] W fun e w' => e = .returned (.tuple #[.int .i64 (fCostP x k o).1, .int .i64 (fCostP x k o).2]) ∧ Below W.heap.size W w') := ⟨fun W k o hb => Cost_any A c x k o W (hg.below hb) (Kd.C_below hC hb) hc⟩
  by_cases hz : chkS x = 0
  case neg =>
    have HF : fPlan x = (0, 0, 0, chkS x) := by unfold fPlan; rw [if_neg hz]
    rw [HF] at hpl
    dsimp only at hpl
    have q1 : (chkS x != 0) = true := by simpa using hz
    have HPL := Aside0.mk hpl
    generalize chkS x = er at *
    clear hpl HF hz hC hg h1 hc
    go_enter Tryz.func11, Tryz.ntmps11
    go_wp2_with fail
    refine HPL.out.mono ?_
    rintro e w2 ⟨rfl, hb⟩
    have HB2 := Aside0.mk hb
    clear hb
    go_wp2_with fail
    refine (awake20_any w2 (HG.out.below HB2.out)).mono ?_
    rintro e w9 ⟨rfl, hb⟩
    have HB9 := Aside0.mk (HB2.out.trans (hb.mono HB2.out.size))
    clear hb
    go_wp2_with fail
    go_ret
    exact ⟨rfl, HB9.out⟩
  have HF : fPlan x = (((planL x).1.1 : Int), ((planL x).1.2 : Int), (planL x).2.1, 0) := by unfold fPlan; rw [if_pos hz]
  rw [HF] at hpl
  dsimp only at hpl
  have hst := fun k o => least_step hz k o
  have hpb := plan_bound x
  have hle := plan_le x
  generalize planL x = r at *
  obtain ⟨⟨q1, q2⟩, cI, fo⟩ := r
  dsimp only at hpl hst hpb hle
  have HST := Aside0.mk hst
  have HQ : Aside0 (q1 ≤ 3 ∧ q2 ≤ 12) := ⟨hpb⟩
  obtain ⟨kI, hkI⟩ : ∃ z : Int, (q1 : Int) = z := ⟨_, rfl⟩
  obtain ⟨oI, hoI⟩ : ∃ z : Int, (q2 : Int) = z := ⟨_, rfl⟩
  rw [hkI, hoI] at hpl
  have HKI := Aside0.mk hkI
  have HOI := Aside0.mk hoI
  have dl : decide (cI ≤ 17 * (x.length : Int) + 2) = true := decide_eq_true hle
  have HPL := Aside0.mk hpl
  have h300 : x.length ≤ 300 := by omega
  clear hpl hst hpb hle hkI hoI HF hz hC hg h1 hc hl
  go_enter Tryz.func11, Tryz.ntmps11
  go_wp2_with fail
  refine HPL.out.mono ?_
  rintro e w2 ⟨rfl, hb⟩
  have HB2 := Aside0.mk hb
  clear hb
  go_wp2_with fail
  go_loopw [7, 39] (fun u v wr => ∃ (k : Nat) (b : Bool), u = .bool b ∧ v = .int .i64 (k : Int) ∧ k ≤ 4 ∧ Aside0 (b = decide (code (q1, q2) < 13 * k + 0)) ∧ Aside0 (Below w.heap.size w wr)) (fun _ v _ => 4 - (intOf v).toNat)
  case atStart => exact ⟨0, false, rfl, rfl, by omega, ⟨(decide_eq_false (by omega)).symm⟩, HB2⟩
  case round =>
    obtain ⟨k, b, rfl, rfl, hk, HBB, HBW⟩ := hrel
    by_cases hlt : k < 4
    · go_wp2_with fail
      have dk : decide ((k : Int) < 4) = true := decide_eq_true (by omega)
      rw [dk]
      clear dk
      go_loopw [7, 42] (fun u v wr => ∃ (o : Nat) (b : Bool), u = .bool b ∧ v = .int .i64 (o : Int) ∧ o ≤ 13 ∧ Aside0 (b = decide (code (q1, q2) < 13 * k + o)) ∧ Aside0 (Below w.heap.size w wr)) (fun _ v _ => 13 - (intOf v).toNat)
      case atStart => exact ⟨0, b, rfl, rfl, by omega, HBB, HBW⟩
      case round =>
        obtain ⟨o, b2, rfl, rfl, ho, HB3, HW3⟩ := hrel
        by_cases hlo : o < 13
        · have hst := HST.out k o
          have hco := HCO.out _ (k : Int) (o : Int) HW3.out
          have hnx := met_next (q1, q2) k o b2 HQ.out.2 (by omega) HB3.out
          dsimp only at hnx
          rcases hst with ⟨e5, hne⟩ | ⟨n, e0, hge, heq, hlater⟩
          · rw [e5] at hco
            have HCC := Aside0.mk hco
            have HNE := Aside0.mk hne
            have HNX := Aside0.mk hnx
            clear hco hne e5 hnx
            by_cases hkq : k = q1
            · have hoq : ¬ o = q2 := fun h => HNE.out (by rw [hkq, h])
              have HNX2 : Aside0 (b2 = decide (code (q1, q2) < 13 * k + (o + 1))) := ⟨by have := HNX.out; rw [decide_eq_false hoq, Bool.and_false, Bool.or_false] at this; exact this⟩
              have z1 : ((k : Int) == kI) = true := by have := HKI.out; simp; omega
              have z2 : ((o : Int) == oI) = false := by have := HOI.out; simp; omega
              clear hkq hoq
              cases b2
              all_goals
                go_wp2_with fail
                refine HCC.out.mono ?_
                rintro e w4 ⟨rfl, hb⟩
                have HB4 := Aside0.mk (HW3.out.trans (hb.mono HW3.out.size))
                clear hb
                go_wp2_with fail
                go_roundw
                case rel => exact ⟨o + 1, _, rfl, by go_num, by omega, HNX2, HB4⟩
                case measure => simp [intOf]; omega
            · have HNX2 : Aside0 (b2 = decide (code (q1, q2) < 13 * k + (o + 1))) := ⟨by have := HNX.out; rw [decide_eq_false hkq, Bool.false_and, Bool.or_false] at this; exact this⟩
              have z1 : ((k : Int) == kI) = false := by have := HKI.out; simp; omega
              clear hkq
              cases b2
              all_goals
                go_wp2_with fail
                refine HCC.out.mono ?_
                rintro e w4 ⟨rfl, hb⟩
                have HB4 := Aside0.mk (HW3.out.trans (hb.mono HW3.out.size))
                clear hb
                go_wp2_with fail
                go_roundw
                case rel => exact ⟨o + 1, _, rfl, by go_num, by omega, HNX2, HB4⟩
                case measure => simp [intOf]; omega
          · rw [e0] at hco
            have HCC := Aside0.mk hco
            have HNX := Aside0.mk hnx
            have y1 : decide (n < cI) = false := decide_eq_false (by omega)
            clear hco e0 hnx
            by_cases his : k = q1 ∧ o = q2
            · have hn : n = cI := heq (by rw [his.1, his.2])
              subst hn
              have HNX2 : Aside0 (true = decide (code (q1, q2) < 13 * k + (o + 1))) := ⟨by have := HNX.out; rw [decide_eq_true his.1, decide_eq_true his.2, Bool.and_true, Bool.or_true] at this; exact this⟩
              have z1 : ((k : Int) == kI) = true := by have := HKI.out; simp; omega
              have z2 : ((o : Int) == oI) = true := by have := HOI.out; simp; omega
              have y2 : (n == n) = true := by simp
              have y3 : (n != n) = false := by simp
              clear his heq hlater hge
              cases b2
              all_goals
                go_wp2_with fail
                refine HCC.out.mono ?_
                rintro e w4 ⟨rfl, hb⟩
                have HB4 := Aside0.mk (HW3.out.trans (hb.mono HW3.out.size))
                clear hb
                go_wp2_with fail
                go_roundw
                case rel => exact ⟨o + 1, _, rfl, by go_num, by omega, HNX2, HB4⟩
                case measure => simp [intOf]; omega
            · have hne : (k, o) ≠ (q1, q2) := fun h => his ⟨congrArg Prod.fst h, congrArg Prod.snd h⟩
              have HNX2 : Aside0 (b2 = decide (code (q1, q2) < 13 * k + (o + 1))) := ⟨by
                have := HNX.out
                by_cases h1 : k = q1
                · rw [decide_eq_false (show ¬ o = q2 from fun h => his ⟨h1, h⟩), Bool.and_false, Bool.or_false] at this; exact this
                · rw [decide_eq_false h1, Bool.false_and, Bool.or_false] at this; exact this⟩
              have hlt2 := fun h => hlater hne h
              have HLT : Aside0 (n = cI → b2 = true) := ⟨fun h => by rw [HB3.out]; exact decide_eq_true (hlt2 h)⟩
              clear heq hlater hge hne hlt2
              by_cases hkq : k = q1
              · have hoq : ¬ o = q2 := fun h => his ⟨hkq, h⟩
                have z1 : ((k : Int) == kI) = true := by have := HKI.out; simp; omega
                have z2 : ((o : Int) == oI) = false := by have := HOI.out; simp; omega
                clear hkq hoq his
                by_cases hnc : n = cI
                · have hbt := HLT.out hnc
                  subst hnc
                  subst hbt
                  have y2 : (n == n) = true := by simp
                  go_wp2_with fail
                  refine HCC.out.mono ?_
                  rintro e w4 ⟨rfl, hb⟩
                  have HB4 := Aside0.mk (HW3.out.trans (hb.mono HW3.out.size))
                  clear hb
                  go_wp2_with fail
                  go_roundw
                  case rel => exact ⟨o + 1, _, rfl, by go_num, by omega, HNX2, HB4⟩
                  case measure => simp [intOf]; omega
                · have y2 : (n == cI) = false := by simpa using hnc
                  clear hnc
                  cases b2
                  all_goals
                    go_wp2_with fail
                    refine HCC.out.mono ?_
                    rintro e w4 ⟨rfl, hb⟩
                    have HB4 := Aside0.mk (HW3.out.trans (hb.mono HW3.out.size))
                    clear hb
                    go_wp2_with fail
                    go_roundw
                    case rel => exact ⟨o + 1, _, rfl, by go_num, by omega, HNX2, HB4⟩
                    case measure => simp [intOf]; omega
              · have z1 : ((k : Int) == kI) = false := by have := HKI.out; simp; omega
                clear hkq his
                by_cases hnc : n = cI
                · have hbt := HLT.out hnc
                  subst hnc
                  subst hbt
                  have y2 : (n == n) = true := by simp
                  go_wp2_with fail
                  refine HCC.out.mono ?_
                  rintro e w4 ⟨rfl, hb⟩
                  have HB4 := Aside0.mk (HW3.out.trans (hb.mono HW3.out.size))
                  clear hb
                  go_wp2_with fail
                  go_roundw
                  case rel => exact ⟨o + 1, _, rfl, by go_num, by omega, HNX2, HB4⟩
                  case measure => simp [intOf]; omega
                · have y2 : (n == cI) = false := by simpa using hnc
                  clear hnc
                  cases b2
                  all_goals
                    go_wp2_with fail
                    refine HCC.out.mono ?_
                    rintro e w4 ⟨rfl, hb⟩
                    have HB4 := Aside0.mk (HW3.out.trans (hb.mono HW3.out.size))
                    clear hb
                    go_wp2_with fail
                    go_roundw
                    case rel => exact ⟨o + 1, _, rfl, by go_num, by omega, HNX2, HB4⟩
                    case measure => simp [intOf]; omega
        · obtain rfl : o = 13 := by omega
          have HNX2 : Aside0 (b2 = decide (code (q1, q2) < 13 * (k + 1) + 0)) := ⟨by rw [HB3.out, show 13 * (k + 1) + 0 = 13 * k + 13 by omega]⟩
          go_wp2_with fail
          go_roundw
          case rel => exact ⟨k + 1, b2, rfl, by go_num, by omega, HNX2, HW3⟩
          case measure => simp [intOf]; omega
    · obtain rfl : k = 4 := by omega
      obtain rfl : b = true := by
        rw [HBB.out]
        have := HQ.out
        refine decide_eq_true ?_
        unfold code
        dsimp only
        omega
      go_wp2_with fail
      refine (awake20_any _ (HG.out.below HBW.out)).mono ?_
      rintro e w9 ⟨rfl, hb⟩
      have HB9 := Aside0.mk (HBW.out.trans (hb.mono HBW.out.size))
      clear hb
      go_wp2_with fail
      go_ret
      exact ⟨rfl, HB9.out⟩
end Go.Proofs.YtjcijaojcgampaaGreatDoor.P
end
