/- The walk of shawmlaw05.RiceWrites. -/
import Derived.Test.YtnpheeendbchbaaHq
import Derived.Test.YtnpheeendbchbaaHk
namespace Go.Proofs.Ytnpheeendbchbaa.P
open Go.RowKit Go.Shelf Go.Proofs.Ytnpheeendbchbaa.Bits Go.Proofs.YtnpheeendbchbaaW.PrintWords Go.Proofs.YtnpheeendbchbaaW.PrintLast Go.Proofs.YtnpheeendbchbaaW.PrintMore
set_option linter.unusedVariables false
set_option linter.unusedSimpArgs false
attribute [local go_sem ↓] Go.wp_at_zero Go.wp_at_succ

theorem fWrite_le (L l : List Int) (hL : L.length ≤ 1048576) : (fWrite L l).2.length ≤ 1048576 := by
  unfold fWrite
  by_cases h : chk l = 0
  · obtain ⟨h8, hs⟩ := chk_zero.1 h
    rw [if_neg (by simp [h])]
    split
    · exact hL
    · rename_i hb
      obtain ⟨⟨p, hp1, _, _, hp2⟩, _⟩ := orderW_bound hs (by omega)
      have := listBits_length hs p
      dsimp only
      rw [hp1, Int.toNat_natCast, List.length_append]
      omega
  · rw [if_pos h]; exact hL

set_option maxHeartbeats 8000000 in
set_option maxRecDepth 100000 in
theorem RiceWrites_any (A : Option Addr) (c : Nat) (l : List Int) (A2 : Option Addr) (c2 : Nat) (B : List Int) (w : World) (hC : Kd.C (Kd.int .i64) w A l.length l) (hc : l.length ≤ c) (hl : l.length ≤ 9000000000000000000)
    (hC2 : Kd.C (Kd.int .u8) w A2 B.length B) (h8 : is8 B) (hB : B.length ≤ 9000000000000000000) (hA : ∀ ad, A2 = some ad → 0 < B.length → ad.block < w.heap.size) :
    Calls Try.prog 9 #[.slice A l.length c, .slice A2 B.length c2] w fun e w' => e = .returned (.bool true) ∧ Below w.heap.size w w' := by
  have HFL := Aside0.mk (Kd.C_F (Kd.heap_int .i64) hC)
  have HC2 := Aside0.mk hC2
  have H8 := Aside0.mk h8
  have HA := Aside0.mk hA
  clear hC hC2 h8 hA
  have hcase : (600 < l.length ∧ l.length ≤ 8192) ∨ 9000 < l.length ∨ (l.length ≤ 600 ∨ (8192 < l.length ∧ l.length ≤ 9000)) := by omega
  rcases hcase with ⟨h1, h2⟩ | h1 | h1
  · have d1 : decide ((600 : Int) < (l.length : Int)) = true := by simp; omega
    have d2 : decide ((l.length : Int) ≤ 8192) = true := by simp; omega
    clear h1 h2
    go_enter Try.func9, Try.ntmps9
    go_wp2_with fail
    refine (awake_any w).mono ?_
    rintro e w1 ⟨rfl, hb⟩
    go_wp2_with fail
    go_ret
    exact ⟨rfl, hb⟩
  · have d1 : decide ((600 : Int) < (l.length : Int)) = true := by simp; omega
    have d2 : decide ((l.length : Int) ≤ 8192) = false := by simp; omega
    have d3 : decide ((9000 : Int) < (l.length : Int)) = true := by simp; omega
    clear h1
    go_enter Try.func9, Try.ntmps9
    go_wp2_with fail
    refine (awake_any w).mono ?_
    rintro e w1 ⟨rfl, hb⟩
    go_wp2_with fail
    go_ret
    exact ⟨rfl, hb⟩
  obtain ⟨b1, hb1⟩ : ∃ b, b = decide ((600 : Int) < (l.length : Int)) := ⟨_, rfl⟩
  have d1 : decide ((600 : Int) < (l.length : Int)) = b1 := hb1.symm
  have d2 : b1 = true → decide ((l.length : Int) ≤ 8192) = false := fun e => by rw [e] at d1; have := of_decide_eq_true d1; simp; omega
  have d3 : decide ((9000 : Int) < (l.length : Int)) = false := by simp; omega
  have hl9 : l.length ≤ 9000 := by omega
  have D2 := Aside0.mk d2
  clear hb1 d2 h1
  by_cases h2 : 140000 < B.length
  · have d4 : decide ((140000 : Int) < (B.length : Int)) = true := by simp; omega
    clear h2
    cases b1
    case' true => have d2 := D2.out rfl
    all_goals
      go_enter Try.func9, Try.ntmps9
      go_wp2_with fail
      refine (awake_any w).mono ?_
      rintro e w1 ⟨rfl, hb⟩
      go_wp2_with fail
      go_ret
      exact ⟨rfl, hb⟩
  have d4 : decide ((140000 : Int) < (B.length : Int)) = false := by simp; omega
  obtain ⟨w2, hw2⟩ : ∃ w2, w2 = (w.alloc newWr).alloc zeroRWr := ⟨_, rfl⟩
  obtain ⟨p, hp⟩ : ∃ p, p = w.heap.size := ⟨_, rfl⟩
  have hT := TW.start w
  rw [← hw2, ← hp] at hT
  have HT := Aside0.mk hT
  have HP := Aside0.mk hp
  have HE : Aside0 ((w.alloc (.cells #[.slice none 0 0, .int .i64 0] 80)).alloc (.cells #[.slice none 0 0] 51) = w2) := ⟨hw2.symm⟩
  have hle := wAppend_le [] B (8 * (B.length : Int)) (by simp)
  have hwle := fWrite_le (wAppend [] B (8 * (B.length : Int))).2 l hle
  have HLE := Aside0.mk hle
  have HWLE := Aside0.mk hwle
  have HPA := Aside0.mk (fun W (h : TW w W p (p + 1) [] []) (hb : Below w.heap.size w W) => h.callL (fun S hS hlo => Append_any S p [] A2 c2 B (8 * (B.length : Int)) W hS (by simp) (Kd.C_below HC2.out hb) H8.out (by omega) (fun ad e hn o => by
    have := HA.out ad e hn
    have := HP.out
    rcases o with o | o
    · omega
    · have := hlo _ o; omega)))
  have HRA := Aside0.mk (fun W L (h : TW w W p (p + 1) L []) (hb : Below w.heap.size w W) => h.callR (fun S hS hlo => RAppend_any S (p + 1) [] A2 c2 B (8 * (B.length : Int)) W hS (by simp) (Kd.C_below HC2.out hb) H8.out (by omega)))
  have HWA := Aside0.mk (fun W M (h : TW w W p (p + 1) (wAppend [] B (8 * (B.length : Int))).2 M) => h.callL (fun S hS hlo => Write_any5 S p _ A c l W hS hle (fun W' hf => Kd.F_now (Kd.F_step (Kd.F_below HFL.out h.low) (fun k hk hlt => hf.block k hlt (fun o => by
    have := HP.out
    rcases o with o | o
    · omega
    · have := hlo _ o; omega)))) hc (by omega)))
  have HWB := Aside0.mk (fun W L (h : TW w W p (p + 1) L (wAppend [] B (8 * (B.length : Int))).2) => h.callR (fun S hS hlo => RWrite_any5 S (p + 1) _ A c l W (fun k => k < w.heap.size) hS hle (Kd.F_below HFL.out h.low) (fun k hk hlt o => by
    have := HP.out
    rcases o with o | o
    · omega
    · have := hlo _ o; omega) hc (by omega)))
  generalize wAppend [] B (8 * (B.length : Int)) = ap at *
  obtain ⟨ea, L0⟩ := ap
  dsimp only at HPA HRA HLE HWLE HWA HWB
  generalize fWrite L0 l = fw at *
  obtain ⟨er, L1⟩ := fw
  dsimp only at HWLE HWA HWB
  have q1 : (ea != ea) = false := by simp
  have q2 : (er == er) = true := by simp
  have q3 : ((L1.length : Int) == (L1.length : Int)) = true := by simp
  have s1 : wrap64 (8 * (B.length : Int)) = 8 * (B.length : Int) := wrap64_id (by omega) (by omega)
  clear hT hw2 hp h2 hle hwle
  cases b1
  case' true => have d2 := D2.out rfl
  all_goals
    go_enter Try.func9, Try.ntmps9
    go_wp2_with fail
    refine (New_any w).mono ?_
    rintro e w1 ⟨rfl, hw1⟩
    subst hw1
    go_wp2_with fail
    rw [HE.out, ← HP.out]
    refine (HPA.out w2 HT.out HT.out.low).mono ?_
    rintro e w3 ⟨rfl, h3⟩
    have HT3 := Aside0.mk h3
    clear h3
    go_wp2_with fail
    refine (HRA.out w3 L0 HT3.out HT3.out.low).mono ?_
    rintro e w4 ⟨rfl, h4⟩
    have HT4 := Aside0.mk h4
    clear h4 s1 HPA HRA HT HT3
    go_wp2_with fail
    refine (HWA.out w4 L0 HT4.out).mono ?_
    rintro e w5 ⟨rfl, h5⟩
    have HT5 := Aside0.mk h5
    clear h5
    go_wp2_with fail
    refine (HWB.out w5 L1 HT5.out).mono ?_
    rintro e w6 ⟨rfl, h6⟩
    have HT6 := Aside0.mk h6
    clear h6 HWA HWB
    go_wp2_with fail
    refine HT6.out.lenL.mono ?_
    rintro e w7 ⟨rfl, hw⟩
    obtain rfl := hw.symm
    go_wp2_with fail
    refine HT6.out.lenR.mono ?_
    rintro e w7 ⟨rfl, hw⟩
    obtain rfl := hw.symm
    go_wp2_with fail
    refine (HT6.out.bytesL HWLE.out).mono ?_
    rintro e w8 ⟨A5, c5, rfl, hc5, hC5, hb⟩
    have HT8 := Aside0.mk (HT6.out.below hb)
    have HC5 := Aside0.mk hC5
    clear hb hC5 hc5
    go_wp2_with fail
    refine (HT8.out.bytesR HWLE.out).mono ?_
    rintro e w9 ⟨A6, c6, rfl, hc6, hC6, hb⟩
    have HT9 := Aside0.mk (HT8.out.below hb)
    have HC56 := Aside0.mk (Kd.C_below HC5.out hb)
    have HC6 := Aside0.mk hC6
    clear hb hC6 hc6
    go_wp2_with fail
    have cc := Same_any A5 A6 (pk L1).length (pk L1).length c5 c6 (pk L1) (pk L1) w9 HC56.out HC6.out (pk_len_le HWLE.out) (pk_len_le HWLE.out)
    rw [decide_eq_true rfl] at cc
    refine cc.mono ?_
    clear cc
    rintro e w10 ⟨rfl, hd⟩
    have HT10 := Aside0.mk (HT9.out.below hd.below)
    clear hd
    go_wp2_with fail
    refine (WriteNil_any A l.length c w10).mono ?_
    rintro e w11 ⟨rfl, hb⟩
    have HT11 := Aside0.mk (HT10.out.below hb)
    clear hb
    go_wp2_with fail
    refine (awake_any w11).mono ?_
    rintro e w12 ⟨rfl, hb⟩
    have HB12 := Aside0.mk (HT11.out.low.trans (hb.mono HT11.out.low.size))
    clear hb
    go_wp2_with fail
    go_ret
    exact ⟨rfl, HB12.out⟩
end Go.Proofs.Ytnpheeendbchbaa.P
