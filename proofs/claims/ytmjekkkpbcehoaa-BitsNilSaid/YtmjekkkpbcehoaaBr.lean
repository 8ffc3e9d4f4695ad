/- The chapter's examples hold: shawmlaw01.awake. -/
import Derived.Test.YtmjekkkpbcehoaaBq
import Derived.Lib.SlBytesConst
namespace Go.Proofs.Ytmjekkkpbcehoaa.P
open Go.RowKit Go.Shelf Go.Proofs.Ytmjekkkpbcehoaa.Bits Go.Proofs.YtmjekkkpbcehoaaW.PrintWords Go.Proofs.YtmjekkkpbcehoaaW.PrintLast Go.Proofs.YtmjekkkpbcehoaaW.PrintMore
set_option linter.unusedVariables false
set_option linter.unusedSimpArgs false
attribute [local go_sem ↓] Go.wp_at_zero Go.wp_at_succ

theorem aw1 : wPut [] 5 3 = (0, [1, 0, 1]) := by decide +kernel
theorem aw2 : wUnary [1, 0, 1] 2 = (0, [1, 0, 1, 0, 0, 1]) := by decide +kernel
theorem aw3 : wAlign [1, 0, 1, 0, 0, 1] 0 = (0, [1, 0, 1, 0, 0, 1, 0, 0]) := by decide +kernel
theorem aw4 : wGamma [] 5 = (0, [0, 0, 1, 0, 1]) := by decide +kernel
theorem aw5 : wSigned [0, 0, 1, 0, 1] (-1) 4 = (0, [0, 0, 1, 0, 1, 1, 1, 1, 1]) := by decide +kernel
theorem aw6 : pk [0, 0, 1, 0, 1, 1, 1, 1, 1] = [47, 128] := by decide +kernel
theorem aw7 : ofB [47, 128] 9 = [0, 0, 1, 0, 1, 1, 1, 1, 1] := by decide +kernel
theorem aw8 : rGamma [0, 0, 1, 0, 1, 1, 1, 1, 1] 0 = (5, 0, 5) := by decide +kernel
theorem aw9 : rSigned [0, 0, 1, 0, 1, 1, 1, 1, 1] 5 4 = (-1, 0, 9) := by decide +kernel
theorem aw10 : pk [1, 0, 1, 0, 0, 1, 0, 0] = [164] := by decide +kernel
abbrev awS : List Int := [49, 50, 51, 52, 53, 54, 55, 56, 57]
theorem aw11 : crc16 (ofB awS (8 * 9)) = 44775 := by decide +kernel
theorem aw12 : crc32 awS = 3421780262 := by decide +kernel
theorem aw13 : openE [47, 128] 9 = 0 := by decide +kernel

theorem aw14 : is8 [47, 128] := by intro b hb; simp at hb; omega
theorem aw15 : is8 awS := by intro b hb; simp at hb; omega
/-- A literal's row, marked. -/
theorem lit_mark (X : World) (xs : List Int) (fr : Nat × Nat) (hm : xs.length ≤ 9223372036854775807) : Kd.C (Kd.int .u8) (X.alloc (.cells (nums .u8 xs).toArray 5 fr)) (some ⟨X.heap.size, 0, none⟩) xs.length xs := by
  refine Kd.C_of_reads (enc := Value.int .u8) (d := (0 : Int)) (h1 := fun _ => rfl) ⟨rfl, hm, fun hn => ⟨_, rfl, fun j hj => ?_⟩⟩
  have e : (⟨X.heap.size, 0, none⟩ : Addr).add j = ⟨X.heap.size, j, none⟩ := by unfold Addr.add; split <;> simp_all
  rw [e, World.cell?_alloc_mark, List.getElem?_toArray]
  simp [nums, hj]
/-- A writer that is younger than a world stays so. -/
theorem WrTo.low {w0 w w' : World} {S : Nat → Prop} {p B : Nat} {L : List Int} (h : WrTo w S p L w') (hp : B ≤ p) (hS : ∀ k, S k → B ≤ k) (hb : Below B w0 w) (hB : B ≤ w0.heap.size) : ∃ S', Wr w' S' p L ∧ (∀ k, S' k → B ≤ k) ∧ Below B w0 w' := by
  obtain ⟨S', h1, hs, f⟩ := h
  refine ⟨S', h1, fun k hk => ?_, hb.trans (f.to_below (Nat.le_trans hB hb.size) (fun k hk => ?_))⟩
  · rcases hs k hk with q | q
    · exact hS k q
    · exact Nat.le_trans (Nat.le_trans hB hb.size) q
  · rcases hk with rfl | q
    · exact hp
    · exact hS k q

set_option maxHeartbeats 4000000 in
set_option maxRecDepth 100000 in
theorem awake_any (w : World) : Calls Try.prog 11 #[] w fun e w' => e = .returned (.bool true) ∧ Below w.heap.size w w' := by
  go_enter Try.func11, Try.ntmps11
  go_wp2_with fail
  refine (New_any _).mono ?_
  rintro e w1 ⟨rfl, rfl⟩
  obtain ⟨p, hp⟩ : ∃ p, p = w.heap.size := ⟨_, rfl⟩
  have hA : Wr (w.alloc newWr) (fun _ => False) p [] := by rw [hp]; exact Wr.new w
  have hB : Below w.heap.size w (w.alloc newWr) := below_alloc (Below.refl _ _) _
  rw [← hp]
  have HA := Aside0.mk hA
  have HB := Aside0.mk hB
  have HP := Aside0.mk (Nat.le_of_eq hp.symm)
  clear hA hB hp
  generalize w.alloc newWr = w1 at *
  go_wp2_with fail
  have cc := Put_any (fun _ => False) p [] 5 3 w1 HA.out (by decide)
  rw [aw1] at cc
  refine cc.mono ?_
  clear cc
  rintro e w2 ⟨rfl, h⟩
  obtain ⟨S2, hA, hS, hB⟩ := h.low HP.out (fun _ h => h.elim) HB.out (Nat.le_refl _)
  have HA2 := Aside0.mk hA
  have HB2 := Aside0.mk hB
  have HS2 := Aside0.mk hS
  clear h hA hB hS HA HB
  go_wp2_with fail
  have cc := Unary_any S2 p _ 2 w2 HA2.out (by decide)
  rw [aw2] at cc
  refine cc.mono ?_
  clear cc
  rintro e w3 ⟨rfl, h⟩
  obtain ⟨S3, hA, hS, hB⟩ := h.low HP.out HS2.out HB2.out (Nat.le_refl _)
  have HA3 := Aside0.mk hA
  have HB3 := Aside0.mk hB
  have HS3 := Aside0.mk hS
  clear h hA hB hS HA2 HB2 HS2
  go_wp2_with fail
  have cc := Align_any S3 p _ 0 w3 HA3.out (by decide)
  rw [aw3] at cc
  refine cc.mono ?_
  clear cc
  rintro e w4 ⟨rfl, h⟩
  obtain ⟨S4, hA, hS, hB⟩ := h.low HP.out HS3.out HB3.out (Nat.le_refl _)
  have HA4 := Aside0.mk hA
  have HB4 := Aside0.mk hB
  have HS4 := Aside0.mk hS
  clear h hA hB hS HA3 HB3 HS3
  go_wp2_with fail
  obtain ⟨q, hq⟩ : ∃ q, q = w4.heap.size := ⟨_, rfl⟩
  have hA : Wr (w4.alloc newWr) (fun _ => False) q [] := by rw [hq]; exact Wr.new w4
  have hB : Below w4.heap.size w4 (w4.alloc newWr) := below_alloc (Below.refl _ _) _
  rw [← hq]
  have HC0 := Aside0.mk hA
  have HD0 := Aside0.mk hB
  have HQ := Aside0.mk (Nat.le_of_eq hq.symm)
  clear hA hB hq
  generalize w4.alloc newWr = w5 at *
  have cc := Gamma_any (fun _ => False) q [] 5 w5 HC0.out (by decide)
  rw [aw4] at cc
  refine cc.mono ?_
  clear cc
  rintro e w6 ⟨rfl, h⟩
  obtain ⟨S6, hA, hS, hB⟩ := h.low HQ.out (fun _ h => h.elim) HD0.out (Nat.le_refl _)
  have HC6 := Aside0.mk hA
  have HD6 := Aside0.mk hB
  have HT6 := Aside0.mk hS
  clear h hA hB hS HC0 HD0
  go_wp2_with fail
  have cc := Signed_any S6 q _ (-1) 4 w6 HC6.out (by decide)
  rw [aw5] at cc
  refine cc.mono ?_
  clear cc
  rintro e w7 ⟨rfl, h⟩
  obtain ⟨S7, hA, hS, hB⟩ := h.low HQ.out HT6.out HD6.out (Nat.le_refl _)
  have HC7 := Aside0.mk hA
  have HD7 := Aside0.mk hB
  have HT7 := Aside0.mk hS
  clear h hA hB hS HC6 HD6 HT6
  go_wp2_with fail
  refine (Bytes_any S7 q _ w7 HC7.out (by decide)).mono ?_
  rintro e w8 ⟨v8, S8, rfl, hr, hs, hb⟩
  rw [aw6] at hr
  obtain ⟨A8, c8, hv, hc8, hC8⟩ := Kd.R_reads hr
  subst hv
  have HC8 := Aside0.mk (HC7.out.below hb)
  have HD8 := Aside0.mk (HD7.out.trans (hb.mono HD7.out.size))
  have HR8 := Aside0.mk hC8
  have HK8 := Aside0.mk hc8
  clear hr hs hb hC8 hc8 HC7 HD7
  go_wp2_with fail
  refine (Len_any S7 q _ w8 HC8.out).mono ?_
  rintro e w9 ⟨rfl, rfl⟩
  go_wp2_with fail
  refine (Open_any A8 c8 [47, 128] 9 w9 HR8.out aw14 (by decide) HK8.out).mono ?_
  intro e w10 hop
  unfold OpenPost at hop
  rw [aw13, if_pos rfl] at hop
  obtain ⟨r, S10, rfl, hR, hpr, hSr, hb⟩ := hop
  rw [show ((9 : Int).toNat) = 9 from rfl, aw7] at hR
  have HR10 := Aside0.mk hR
  have HE10 := Aside0.mk hb
  have HPR := Aside0.mk hpr
  clear hR hb hpr hSr
  go_wp2_with fail
  have cc := RGamma_any S10 r 0 _ w10 HR10.out
  rw [aw8] at cc
  refine cc.mono ?_
  clear cc
  rintro e w11 ⟨rfl, h1, h2⟩
  have HR11 := Aside0.mk h1
  have HE11 := Aside0.mk (HE10.out.trans (h2.to_below HE10.out.size (fun k hk => by subst hk; exact HPR.out)))
  clear h1 h2 HR10 HE10
  go_wp2_with fail
  have cc := RSigned_any S10 r 5 _ 4 w11 HR11.out
  rw [aw9] at cc
  refine cc.mono ?_
  clear cc
  rintro e w12 ⟨rfl, h1, h2⟩
  have HR12 := Aside0.mk h1
  have HE12 := Aside0.mk (HE11.out.trans (h2.to_below HE11.out.size (fun k hk => by subst hk; exact HPR.out)))
  clear h1 h2 HR11 HE11
  go_wp2_with fail
  have hk : (convert 22 22 (.slice (some ⟨w12.heap.size, 0, none⟩) 9 9)).run Try.prog (w12.alloc (.cells #[.int .u8 49, .int .u8 50, .int .u8 51, .int .u8 52, .int .u8 53, .int .u8 54, .int .u8 55, .int .u8 56, .int .u8 57] 5)) = .ok (.slice (some ⟨w12.heap.size, 0, none⟩) 9 9) (w12.alloc (.cells (nums .u8 awS).toArray 5 (9, 10))) :=
    Lib.run_convert_bytes_const (P := Try.prog) w12 22 5 _ 9 9 Try.underlying22 (by kernel_rfl)
  rw [hk]
  clear hk
  have hS := lit_mark w12 awS (9, 10) (by decide)
  have hb := below_alloc (Below.refl w12.heap.size w12) (.cells (nums .u8 awS).toArray 5 (9, 10))
  obtain ⟨s, hs⟩ : ∃ s, s = w12.heap.size := ⟨_, rfl⟩
  rw [← hs]
  rw [← hs] at hS
  have HS := Aside0.mk hS
  have HR13 := Aside0.mk (HR12.out.below hb)
  have HE13 := Aside0.mk (HE12.out.trans (hb.mono HE12.out.size))
  clear hS hb hs HR12 HE12
  generalize w12.alloc (.cells (nums .u8 awS).toArray 5 (9, 10)) = w13 at *
  go_wp2_with fail
  have HA13 := Aside0.mk ((HA4.out.below HD8.out).below HE13.out)
  have HC13 := Aside0.mk (HC8.out.below HE13.out)
  have HB13 := Aside0.mk ((HB4.out.trans (HD8.out.mono HB4.out.size)).trans (HE13.out.mono (HB4.out.trans (HD8.out.mono HB4.out.size)).size))
  clear HA4 HC8 HB4 HD8 HE13 HR8 HK8 HS4 HT7 HPR HP HQ
  have cc := Bytes_any S4 p _ w13 HA13.out (by decide)
  rw [aw10] at cc
  refine cc.mono ?_
  clear cc
  rintro e w14 ⟨v14, S14, rfl, hr, hs, hb⟩
  obtain ⟨A14, c14, hv, hc14, hC14⟩ := Kd.R_reads hr
  subst hv
  have HC14 := Aside0.mk hC14
  have HB14 := Aside0.mk hb
  clear hr hs hb hC14 hc14
  go_wp2_with fail
  have cc := Same_any A14 (some ⟨w14.heap.size, 0, none⟩) 1 1 c14 1 [164] [164] _ (Kd.C_alloc HC14.out _) (lit_C8 w14 [164] (by decide)) (by decide) (by decide)
  rw [show decide (([164] : List Int) = [164]) = true by decide] at cc
  refine cc.mono ?_
  clear cc
  rintro e w15 ⟨rfl, hd⟩
  have HB15 := Aside0.mk (HB14.out.trans (((below_alloc (Below.refl w14.heap.size w14) _).trans (hd.below.mono (by simp))).mono HB14.out.size))
  clear hd HC14 HB14
  go_wp2_with fail
  refine (Bytes_any S7 q _ w15 (HC13.out.below HB15.out) (by decide)).mono ?_
  rintro e w16 ⟨v16, S16, rfl, hr, hs, hb⟩
  rw [aw6] at hr
  obtain ⟨A16, c16, hv, hc16, hC16⟩ := Kd.R_reads hr
  subst hv
  have HC16 := Aside0.mk hC16
  have HB16 := Aside0.mk (HB15.out.trans (hb.mono HB15.out.size))
  clear hr hs hb hC16 hc16 HB15
  go_wp2_with fail
  have cc := Same_any A16 (some ⟨w16.heap.size, 0, none⟩) 2 2 c16 2 [47, 128] [47, 128] _ (Kd.C_alloc HC16.out _) (lit_C8 w16 [47, 128] (by decide)) (by decide) (by decide)
  rw [show decide (([47, 128] : List Int) = [47, 128]) = true by decide] at cc
  refine cc.mono ?_
  clear cc
  rintro e w17 ⟨rfl, hd⟩
  have HB17 := Aside0.mk (HB16.out.trans (((below_alloc (Below.refl w16.heap.size w16) _).trans (hd.below.mono (by simp))).mono HB16.out.size))
  clear hd HC16 HB16
  go_wp2_with fail
  have cc := Left_any S10 r 9 _ w17 (HR13.out.below HB17.out)
  rw [show ((([0, 0, 1, 0, 1, 1, 1, 1, 1] : List Int).length : Int) - ((9 : Nat) : Int)) = 0 from rfl] at cc
  refine cc.mono ?_
  clear cc
  rintro e w18 ⟨rfl, n18, hd⟩
  have HB18 := Aside0.mk (HB17.out.trans (show Below w13.heap.size w17 w18 by rw [hd]; exact below_drewN (Below.refl _ _) _))
  clear hd HB17
  go_wp2_with fail
  have cc := Crc16_any none 0 0 [] w18 (Kd.C_nil _ _) (fun b hb => by cases hb) (by decide)
  rw [show ((crc16 (ofB [] (8 * 0)) : Nat) : Int) = 65535 from rfl] at cc
  refine cc.mono ?_
  clear cc
  rintro e w19 ⟨rfl, hb⟩
  have HB19 := Aside0.mk (HB18.out.trans (hb.mono HB18.out.size))
  clear hb HB18
  go_wp2_with fail
  have cc := Crc16_any (some ⟨s, 0, none⟩) 9 9 awS w19 (Kd.C_below HS.out HB19.out) aw15 (by decide)
  rw [aw11] at cc
  refine cc.mono ?_
  clear cc
  rintro e w20 ⟨rfl, hb⟩
  have HB20 := Aside0.mk (HB19.out.trans (hb.mono HB19.out.size))
  clear hb HB19
  go_wp2_with fail
  have cc := Crc32_any (some ⟨s, 0, none⟩) 9 9 awS w20 (Kd.C_below HS.out HB20.out) aw15 (by decide)
  rw [aw12] at cc
  refine cc.mono ?_
  clear cc
  rintro e w21 ⟨rfl, rfl⟩
  go_wp2_with fail
  go_ret
  exact ⟨rfl, HB13.out.trans (HB20.out.mono HB13.out.size)⟩
end Go.Proofs.Ytmjekkkpbcehoaa.P
