/- The chapter's examples hold: shawmlaw05.awake. -/
import Derived.Test.YtnpheeendbchbaaHg
import Derived.Test.YtnpheeendbchbaaBn
namespace Go.Proofs.Ytnpheeendbchbaa.P
open Go.RowKit Go.Shelf Go.Proofs.Ytnpheeendbchbaa.Bits Go.Proofs.YtnpheeendbchbaaW.PrintWords Go.Proofs.YtnpheeendbchbaaW.PrintLast Go.Proofs.YtnpheeendbchbaaW.PrintMore
set_option linter.unusedVariables false
set_option linter.unusedSimpArgs false
attribute [local go_sem ↓] Go.wp_at_zero Go.wp_at_succ

theorem Fold_any5 (v : Int) (w : World) : Calls Try.prog 12 #[.int .i64 v] w fun e w' => e = .returned (.tuple #[.int .i64 (fFold v).1, .int .i64 (fFold v).2]) ∧ Drawn0 w w' := rice_Fold.calls v _ _ w (own_foldF v)
theorem Unfold_any5 (u : Int) (w : World) : Calls Try.prog 14 #[.int .i64 u] w fun e w' => e = .returned (.tuple #[.int .i64 (fUnfold u).1, .int .i64 (fUnfold u).2]) ∧ Drawn0 w w' := rice_Unfold.calls u _ _ w (own_unfoldF u)
theorem RFold_any5 (v : Int) (w : World) : Calls Try.prog 13 #[.int .i64 v] w fun e w' => e = .returned (.tuple #[.int .i64 (fFold v).1, .int .i64 (fFold v).2]) ∧ Drawn0 w w' := shawmref05_Fold.calls v _ _ w (ref_fold v)
theorem RUnfold_any5 (u : Int) (w : World) : Calls Try.prog 15 #[.int .i64 u] w fun e w' => e = .returned (.tuple #[.int .i64 (fUnfold u).1, .int .i64 (fUnfold u).2]) ∧ Drawn0 w w' := shawmref05_Unfold.calls 1 u _ _ w (ref_unfold u 0)
/-- A writer that is younger than a world stays so. -/
theorem WrTo.low {w0 w w' : World} {S : Nat → Prop} {p B : Nat} {L : List Int} (h : WrTo w S p L w') (hp : B ≤ p) (hS : ∀ k, S k → B ≤ k) (hb : Below B w0 w) (hB : B ≤ w0.heap.size) : ∃ S', Wr w' S' p L ∧ (∀ k, S' k → B ≤ k) ∧ Below B w0 w' := by
  obtain ⟨S', h1, hs, f⟩ := h
  refine ⟨S', h1, fun k hk => ?_, hb.trans (f.to_below (Nat.le_trans hB hb.size) (fun k hk => ?_))⟩
  · rcases hs k hk with q | q
    · exact hS k q
    · exact Nat.le_trans (Nat.le_trans hB hb.size) q
  · rcases hk with rfl | q
    · exact hp
    · exact hS k q
def awL : List Int := [0, 0, 1, 1] ++ (numb 0 24 ++ numb 1 1 ++ numb 24 32)
abbrev awP : List Int := [48, 0, 0, 8, 0, 0, 0, 192]
theorem aw1 : fPut [] (-3) 1 = (0, [0, 0, 1, 1]) := by decide +kernel
theorem aw2 : fPut [0, 0, 1, 1] 12 0 = (0, awL) := by decide +kernel
theorem aw3 : awL.length = 61 := by decide +kernel
theorem aw4 : pk awL = awP := by decide +kernel
theorem aw5 : ofB awP 61 = awL := by decide +kernel
theorem aw6 : openE awP 61 = 0 := by decide +kernel
theorem aw7 : fGet awL 0 1 = (-3, 0, 4) := by decide +kernel
theorem aw8 : fGet awL 4 0 = (12, 0, 61) := by decide +kernel
theorem aw9 : fBest [0, 0, 0] = (0, 3, 0) := by decide +kernel
theorem aw10 : fOrder [] = (0, 6, 0) := by decide +kernel
theorem aw11 : fFold (-3) = (5, 0) := by decide +kernel
theorem aw12 : fUnfold 5 = (-3, 0) := by decide +kernel
theorem aw13 : is8 awP := by intro b hb; simp at hb; omega

set_option maxHeartbeats 8000000 in
set_option maxRecDepth 100000 in
theorem awake_any (w : World) : Calls Try.prog 16 #[] w fun e w' => e = .returned (.bool true) ∧ Below w.heap.size w w' := by
  go_enter Try.func16, Try.ntmps16
  go_wp2_with fail
  have cc := Fold_any5 (-3) w
  rw [aw11] at cc
  refine cc.mono ?_
  clear cc
  rintro e w1 ⟨rfl, hd⟩
  have HB1 := Aside0.mk hd.below
  clear hd
  go_wp2_with fail
  have cc := Unfold_any5 5 w1
  rw [aw12] at cc
  refine cc.mono ?_
  clear cc
  rintro e w2 ⟨rfl, hd⟩
  have HB2 := Aside0.mk (HB1.out.trans (hd.below.mono HB1.out.size))
  clear hd HB1
  go_wp2_with fail
  refine (New_any w2).mono ?_
  rintro e w3 ⟨rfl, hw⟩
  obtain ⟨p, hp⟩ : ∃ p, p = w2.heap.size := ⟨_, rfl⟩
  have hA : Wr w3 (fun _ => False) p [] := by rw [hw, hp]; exact Wr.new w2
  have hB : Below w.heap.size w w3 := by rw [hw]; exact HB2.out.trans ((below_alloc (Below.refl _ _) _).mono HB2.out.size)
  have HP : Aside0 (w.heap.size ≤ p) := ⟨by rw [hp]; exact HB2.out.size⟩
  rw [← hp]
  have HA := Aside0.mk hA
  have HB := Aside0.mk hB
  clear hA hB hw hp HB2
  go_wp2_with fail
  have cc := Put_any5 (fun _ => False) p [] (-3) 1 w3 HA.out (by decide)
  rw [aw1] at cc
  refine cc.mono ?_
  clear cc
  rintro e w4 ⟨rfl, h⟩
  obtain ⟨S4, hA, hS, hB⟩ := h.low HP.out (fun _ h => h.elim) HB.out (Nat.le_refl _)
  have HA4 := Aside0.mk hA
  have HB4 := Aside0.mk hB
  have HS4 := Aside0.mk hS
  clear h hA hB hS HA HB
  go_wp2_with fail
  have cc := Put_any5 S4 p _ 12 0 w4 HA4.out (by decide)
  rw [aw2] at cc
  refine cc.mono ?_
  clear cc
  rintro e w5 ⟨rfl, h⟩
  obtain ⟨S5, hA, hS, hB⟩ := h.low HP.out HS4.out HB4.out (Nat.le_refl _)
  have HA5 := Aside0.mk hA
  have HB5 := Aside0.mk hB
  clear h hA hB hS HA4 HB4 HS4
  go_wp2_with fail
  have cc := Best_any (some ⟨w5.heap.size, 0, none⟩) 3 [0, 0, 0] (w5.alloc (.cells (nums .i64 [0, 0, 0]).toArray 3)) (lit_C64 w5 [0, 0, 0] (by decide)) (by decide) (by decide)
  rw [aw9] at cc
  refine cc.mono ?_
  clear cc
  rintro e w6 ⟨rfl, hb⟩
  have hb6 := (below_alloc (Below.refl w5.heap.size w5) (.cells (nums .i64 [0, 0, 0]).toArray 3)).trans (hb.mono (by simp))
  have HA6 := Aside0.mk (HA5.out.below hb6)
  have HB6 := Aside0.mk (HB5.out.trans (hb6.mono HB5.out.size))
  clear hb hb6 HA5 HB5
  go_wp2_with fail
  have cc := Order_any none 0 [] w6 (Kd.C_nil _ _) (by decide) (by decide)
  rw [aw10] at cc
  refine cc.mono ?_
  clear cc
  rintro e w7 ⟨rfl, hb⟩
  have HA7 := Aside0.mk (HA6.out.below hb)
  have HB7 := Aside0.mk (HB6.out.trans (hb.mono HB6.out.size))
  clear hb HA6 HB6
  go_wp2_with fail
  have cc := Bytes_any S5 p _ w7 HA7.out (by decide)
  rw [aw4] at cc
  refine cc.mono ?_
  clear cc
  rintro e w8 ⟨v8, S8, rfl, hr, hs, hb⟩
  obtain ⟨A8, c8, hv, hc8, hC8⟩ := Kd.R_reads hr
  subst hv
  have HA8 := Aside0.mk (HA7.out.below hb)
  have HB8 := Aside0.mk (HB7.out.trans (hb.mono HB7.out.size))
  have HR8 := Aside0.mk hC8
  have HK8 := Aside0.mk hc8
  clear hr hs hb hC8 hc8 HA7 HB7
  go_wp2_with fail
  have cc := Len_any S5 p _ w8 HA8.out
  rw [aw3] at cc
  refine cc.mono ?_
  clear cc
  rintro e w9 ⟨rfl, hw⟩
  obtain rfl := hw.symm
  go_wp2_with fail
  refine (Open_any A8 c8 awP 61 w8 HR8.out aw13 (by decide) HK8.out).mono ?_
  intro e w10 hop
  unfold OpenPost at hop
  rw [aw6, if_pos rfl] at hop
  obtain ⟨r, S10, rfl, hR, hpr, hSr, hb⟩ := hop
  rw [show ((61 : Int).toNat) = 61 from rfl, aw5] at hR
  have HR10 := Aside0.mk hR
  have HE10 := Aside0.mk hb
  have HPR := Aside0.mk hpr
  clear hR hb hpr hSr
  go_wp2_with fail
  have cc := Get_any5 S10 r 0 awL 1 w10 HR10.out
  rw [aw7] at cc
  refine cc.mono ?_
  clear cc
  rintro e w11 ⟨rfl, h1, h2⟩
  have HR11 := Aside0.mk h1
  have HE11 := Aside0.mk (HE10.out.trans (h2.to_below HE10.out.size (fun k hk => by subst hk; exact HPR.out)))
  clear h1 h2 HR10 HE10
  go_wp2_with fail
  have cc := Get_any5 S10 r 4 awL 0 w11 HR11.out
  rw [aw8] at cc
  refine cc.mono ?_
  clear cc
  rintro e w12 ⟨rfl, h1, h2⟩
  have HE12 := Aside0.mk (HE11.out.trans (h2.to_below HE11.out.size (fun k hk => by subst hk; exact HPR.out)))
  clear h1 h2 HR11 HE11
  have HA12 := Aside0.mk (HA8.out.below HE12.out)
  have HB12 := Aside0.mk (HB8.out.trans (HE12.out.mono HB8.out.size))
  clear HA8 HB8 HE12 HR8 HK8 HPR HP
  go_wp2_with fail
  have cc := Len_any S5 p _ w12 HA12.out
  rw [aw3] at cc
  refine cc.mono ?_
  clear cc
  rintro e w13 ⟨rfl, hw⟩
  obtain rfl := hw.symm
  go_wp2_with fail
  have cc := Bytes_any S5 p _ w12 HA12.out (by decide)
  rw [aw4] at cc
  refine cc.mono ?_
  clear cc
  rintro e w14 ⟨v14, S14, rfl, hr, hs, hb⟩
  obtain ⟨A14, c14, hv, hc14, hC14⟩ := Kd.R_reads hr
  subst hv
  have HA14 := Aside0.mk (HA12.out.below hb)
  have HB14 := Aside0.mk (HB12.out.trans (hb.mono HB12.out.size))
  clear hr hs hb hC14 hc14 HA12 HB12
  go_wp2_with fail
  have cc := Bytes_any S5 p _ w14 HA14.out (by decide)
  rw [aw4] at cc
  refine cc.mono ?_
  clear cc
  rintro e w15 ⟨v15, S15, rfl, hr, hs, hb⟩
  obtain ⟨A15, c15, hv, hc15, hC15⟩ := Kd.R_reads hr
  subst hv
  have HB15 := Aside0.mk (HB14.out.trans (hb.mono HB14.out.size))
  have HC15 := Aside0.mk (show Kd.C (Kd.int .u8) w15 A15 1 [48] from Kd.C_take hC15 (show 1 ≤ awP.length by decide))
  have hsl : ∀ W : World, (Instr.slice 27 (.slice A15 8 c15) none (some (.int .i64 1)) none).run Try.prog W = .ok (.slice A15 1 c15) W := by
    intro W
    have := cut_to (P := Try.prog) 27 5 .i64 Try.underlying27 (i := _) rfl A15 8 c15 1 (by omega) (by omega) hc15 W
    simpa using this
  clear hr hs hb hC15 HA14 HB14
  go_wp2_with fail
  have cc := Same_any A15 (some ⟨w15.heap.size, 0, none⟩) 1 1 c15 1 [48] [48] _ (Kd.C_alloc HC15.out _) (lit_C8 w15 [48] (by decide)) (by decide) (by decide)
  rw [show decide (([48] : List Int) = [48]) = true by decide] at cc
  refine cc.mono ?_
  clear cc hsl
  rintro e w16 ⟨rfl, hd⟩
  have HB16 := Aside0.mk (HB15.out.trans (((below_alloc (Below.refl w15.heap.size w15) _).trans (hd.below.mono (by simp))).mono HB15.out.size))
  clear hd
  go_wp2_with fail
  go_ret
  exact ⟨rfl, HB16.out⟩
end Go.Proofs.Ytnpheeendbchbaa.P
