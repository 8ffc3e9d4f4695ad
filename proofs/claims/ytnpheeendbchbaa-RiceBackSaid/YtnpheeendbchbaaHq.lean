/- The contract of the reference's Write. -/
import Derived.Test.YtnpheeendbchbaaHp
namespace Go.Proofs.Ytnpheeendbchbaa.P
open Go.RowKit Go.Shelf Go.Proofs.Ytnpheeendbchbaa.Bits Go.Proofs.YtnpheeendbchbaaW.PrintWords Go.Proofs.YtnpheeendbchbaaW.PrintLast Go.Proofs.YtnpheeendbchbaaW.PrintMore
set_option linter.unusedVariables false
set_option linter.unusedSimpArgs false
attribute [local go_sem ↓] Go.wp_at_zero Go.wp_at_succ

theorem partsBits_range (l : List Int) (p i n : Nat) : partsBits l p (List.range' i (n + 1)) = partBits (partL l p i) ++ partsBits l p (List.range' (i + 1) n) := by
  unfold partsBits
  rw [List.range'_succ, List.flatMap_cons]
theorem wordsBits_drop {X : List Int} {j : Nat} (h : j < X.length) (k : Nat) : wordsBits (X.drop j) k = word (X.getD j 0) k ++ wordsBits (X.drop (j + 1)) k := by
  unfold wordsBits
  rw [List.drop_eq_getElem_cons h, List.flatMap_cons, List.getD_eq_getElem?_getD, List.getElem?_eq_getElem h]; rfl
theorem wordsBits_end {X : List Int} (k : Nat) : wordsBits (X.drop X.length) k = [] := by
  rw [List.drop_length]; rfl
/-- A row of rows, read at i; the rows lie in ok. -/
theorem row_at {w : World} {base n c : Nat} {A : Option Addr} {ok : Nat → Prop} {P : List (List Int)} (h : Kd.N (Kd.slice 3 (Kd.int .i64)) 40 w base ok (.slice A n c) P) (i : Nat) (hi : i < P.length) :
    ∃ ad A0 c0, A = some ad ∧ w.cell? (ad.add i) = some (.slice A0 (P.getD i []).length c0) ∧ (P.getD i []).length ≤ c0 ∧ Kd.F (Kd.int .i64) w ok A0 (P.getD i []).length (P.getD i []) := by
  have hn := (Kd.N_reads' h).1
  have h0 : (0 : Int) ≤ (i : Int) := by omega
  have h1 : (i : Int) < (n : Nat) := by omega
  obtain ⟨ad, A0, c0, e, hx, hl, hC⟩ := at_L3 (Kd.N_reads' h).2.2 (i : Int) h0 (by rw [← hn]; exact h1)
  subst e
  obtain ⟨ce, hce, hM, hcc⟩ := Kd.N_get h [] (i : Int) h0 h1
  obtain ⟨ua, uc, rfl, ul, ge⟩ := Kd.FK_slice_open hM
  have hv := hcc 0 _ rfl
  rw [Nat.add_zero, show (Kd.slice 3 (Kd.int .i64)).sz = 1 from rfl, Nat.mul_one] at hv
  have hv := Option.some.inj (hv.symm.trans hx)
  injection hv with hva _ hvc
  rw [hva] at ge
  rw [hvc] at ul
  rw [Int.toNat_natCast] at hx
  exact ⟨ad, A0, c0, rfl, hx, hl, Kd.F_mono ge (fun _ hk => hk.1)⟩

set_option maxHeartbeats 8000000 in
set_option maxRecDepth 100000 in
theorem RWrite_any5 (S : Nat → Prop) (q : Nat) (L : List Int) (A : Option Addr) (c : Nat) (l : List Int) (w : World) (okl : Nat → Prop) (hW : RWr w S q L) (hL : L.length ≤ 1048576)
    (hF : Kd.F (Kd.int .i64) w okl A l.length l) (hok : ∀ k, okl k → k < w.heap.size → ¬ (k = q ∨ S k)) (hc : l.length ≤ c) (hl : l.length ≤ 1000000000) :
    Calls Try.prog 43 #[.pointer (some ⟨q, 0, none⟩), .slice A l.length c] w fun e w' => e = .returned (.int .i64 (fWrite L l).1) ∧ RWrTo w S q (fWrite L l).2 w' := by
  have hF := Kd.F_bound hF
  have hC0 : Kd.C (Kd.int .i64) w A l.length l := Kd.F_now hF
  have HW := Aside0.mk hW
  have HF := Aside0.mk hF
  have HOK := Aside0.mk hok
  have HCH := Aside0.mk (shawmref05_listed.calls (l.length + 1) A c l (chk l) w hC0 hc (ref_listed l _ (by omega) (by omega)))
  have HFW : Aside0 (fWrite L l = if chk l ≠ 0 then (chk l, L) else if 1048576 < (L.length : Int) + (orderW l).2 then (2, L) else (0, L ++ listBits l (orderW l).1.toNat)) := ⟨rfl⟩
  generalize fWrite L l = fw at *
  clear hW hF hok hC0
  by_cases hch : chk l = 0
  case neg =>
    rw [if_pos hch] at HFW
    have q1 : (chk l != 0) = true := by simpa using hch
    generalize chk l = ck at *
    clear hch
    go_enter Try.func43, Try.ntmps43
    go_wp2_with fail
    refine HCH.out.mono ?_
    rintro e w2 ⟨rfl, hd⟩
    have HB2 := Aside0.mk hd.below
    clear hd
    go_wp2_with fail
    go_ret
    rw [HFW.out]
    exact ⟨rfl, HW.out.wrTo HB2.out⟩
  obtain ⟨hl8, hs⟩ := chk_zero.1 hch
  rw [if_neg (by simp [hch])] at HFW
  rw [hch] at HCH
  have HOR := Aside0.mk (fun W hW' => shawmref05_order.calls 100051 A c l (orderW l).1 (orderW l).2 W hW' hc (ref_order l _ hs (by omega) (by omega)))
  obtain ⟨⟨p, hp1, hp3, hdv, hp2⟩, hob⟩ := orderW_bound hs (by omega)
  have hlb := listBits_length hs p
  rw [← hp2] at hlb
  have hz : 0 ≤ (orderW l).2 ∧ (orderW l).2 ≤ 45600034 := hob
  generalize orderW l = o at *
  obtain ⟨o1, cost⟩ := o
  dsimp only at hp1 HFW HOR hlb hz
  subst hp1
  rw [Int.toNat_natCast] at HFW
  have HLEN := Aside0.mk (fun W hW' => RLen_any S q L W hW')
  clear hch hdv hp2 hob
  by_cases hbig : 1048576 < (L.length : Int) + cost
  · rw [if_pos hbig] at HFW
    have d1 : decide (1048576 < (L.length : Int) + cost) = true := by simpa using hbig
    clear hbig hlb
    go_enter Try.func43, Try.ntmps43
    go_wp2_with fail
    refine HCH.out.mono ?_
    rintro e w2 ⟨rfl, hd⟩
    have HB2 := Aside0.mk hd.below
    clear hd
    go_wp2_with fail
    refine (HOR.out w2 (Kd.F_now (Kd.F_below HF.out HB2.out))).mono ?_
    rintro e w3 ⟨rfl, hb⟩
    have HB3 := Aside0.mk (HB2.out.trans (hb.mono HB2.out.size))
    clear hb
    go_wp2_with fail
    refine (HLEN.out w3 (HW.out.below HB3.out)).mono ?_
    rintro e w4 ⟨rfl, hw⟩
    obtain rfl := hw.symm
    go_wp2_with fail
    go_ret
    rw [HFW.out]
    exact ⟨rfl, HW.out.wrTo HB3.out⟩
  rw [if_neg hbig] at HFW
  have d1 : decide (1048576 < (L.length : Int) + cost) = false := by simpa using hbig
  have h8 := pow_le8 hp3
  obtain ⟨T, hT⟩ : ∃ T, T = L ++ listBits l p := ⟨_, rfl⟩
  have hTL : T.length ≤ 1048576 := by rw [hT, List.length_append]; omega
  have hT0 : (L ++ numb (p : Int) 2) ++ partsBits l p (List.range' 0 (2 ^ p)) = T := by rw [hT]; unfold listBits; rw [List.append_assoc]
  rw [← hT] at HFW
  have hput2 := wPut_ok L (p : Int) 2 (by omega) (by omega) (by rw [← hT0, List.length_append, List.length_append, numb_length] at hTL; omega)
  rw [show ((2 : Nat) : Int) = 2 from rfl] at hput2
  have HPT := Aside0.mk (fun W hW' => RPut_any S q L (p : Int) 2 W hW' hL)
  rw [hput2] at HPT
  have HPA := Aside0.mk (fun W hv => shawmref05_parts.calls 9 (fun k => okl k ∧ k < w.heap.size) A c l (p : Int) (partsL l p) W hv (ref_parts l p 9 (by omega) hp3 (by omega)))
  have HT0 := Aside0.mk hT0
  have HTL := Aside0.mk hTL
  have HSM := Aside0.mk hs
  have HPLN := Aside0.mk (partsL_length l p)
  have HPGE : Aside0 (∀ i, i < 2 ^ p → (partsL l p).getD i [] = partL l p i) := ⟨fun i hi => by rw [List.getD_eq_getElem?_getD, List.getElem?_eq_getElem (by rw [partsL_length]; exact hi), partsL_getElem]; rfl⟩
  have HPLL := Aside0.mk (partL_length l p)
  have hpln := partsL_length l p
  have HNL := Aside0.mk (partN_le l p)
  clear hbig hlb hT hTL hT0 hput2
  generalize hPP : partsL l p = PP at *
  clear hPP
  generalize 2 ^ p = M at *
  go_enter Try.func43, Try.ntmps43
  go_wp2_with fail
  refine HCH.out.mono ?_
  rintro e w2 ⟨rfl, hd⟩
  have HB2 := Aside0.mk hd.below
  clear hd
  go_wp2_with fail
  refine (HOR.out w2 (Kd.F_now (Kd.F_below HF.out HB2.out))).mono ?_
  rintro e w3 ⟨rfl, hb⟩
  have HB3 := Aside0.mk (HB2.out.trans (hb.mono HB2.out.size))
  clear hb HB2
  go_wp2_with fail
  refine (HLEN.out w3 (HW.out.below HB3.out)).mono ?_
  rintro e w4 ⟨rfl, hw⟩
  obtain rfl := hw.symm
  go_wp2_with fail
  refine (HPT.out w3 (HW.out.below HB3.out)).mono ?_
  rintro e w5 ⟨rfl, S1, hW1, hs1, hf1⟩
  have hs1' : ∀ k, S1 k → S k ∨ w.heap.size ≤ k := fun k hk => by
    rcases hs1 k hk with o | o
    · exact .inl o
    · exact .inr (Nat.le_trans HB3.out.size o)
  have hf1' : Fr (fun k => k = q ∨ S k) w w5 := (Fr.below HB3.out _).trans hf1
  have HW1 := Aside0.mk hW1
  have HS1 := Aside0.mk hs1'
  have HF1 := Aside0.mk hf1'
  have hV : Kd.V (Kd.int .i64) 3 w5 w5.heap.size (fun k => okl k ∧ k < w.heap.size) (.slice A l.length c) l := Kd.V_mk hc (Kd.F_step HF.out (fun k hk hlt => hf1'.block k hlt (HOK.out k hk.1 hk.2)))
  have HV := Aside0.mk hV
  clear hW1 hs1 hs1' hf1 hf1' hV
  go_wp2_with fail
  refine (HPA.out w5 HV.out).mono ?_
  rintro e w6 ⟨v6, rfl, hN, hb6⟩
  obtain ⟨A6, c6, rfl⟩ := Kd.N_slice hN
  have hql := HW.out.p_lt
  have hN2 : ∃ ok6 : Nat → Prop, Kd.N (Kd.slice 3 (Kd.int .i64)) 40 w6 w5.heap.size ok6 (.slice A6 PP.length c6) PP ∧ (∀ k, ok6 k → ¬ (k = q ∨ S1 k)) ∧ ∀ k, ok6 k → k < w6.heap.size := ⟨_, Kd.N_bound hN, by
    have hw5 := HF1.out.size
    rintro k ⟨o | o, hk6⟩ (hq | hq)
    · exact HOK.out k o.1 o.2 (.inl hq)
    · rcases HS1.out k hq with z | z
      · exact HOK.out k o.1 o.2 (.inr z)
      · omega
    · omega
    · have := HW1.out.lt k hq; omega, fun k hk => hk.2⟩
  obtain ⟨ok6, hN6, hok6, hsz6⟩ := hN2
  have HSZ6 := Aside0.mk hsz6
  have HN6 := Aside0.mk hN6
  have HOK6 := Aside0.mk hok6
  have HB6 := Aside0.mk hb6
  have HW6 := Aside0.mk (HW1.out.below hb6)
  have HF6 := Aside0.mk (HF1.out.trans (Fr.below hb6 _))
  have HST : Aside0 (RWrTo w6 S1 q (L ++ numb (p : Int) 2) w6) := ⟨HW6.out.wrTo (Below.refl _ _)⟩
  clear hN hb6 hN6 hok6 hsz6 HW1 hql
  go_wp2_with fail
  go_loopw [38] (fun u wr => ∃ (i : Nat) (C : List Int), u = .int .i64 (i : Int) ∧ i ≤ M ∧ Aside0 (C ++ partsBits l p (List.range' i (M - i)) = T) ∧ Aside0 (RWrTo w6 S1 q C wr)) (fun u _ => M - (intOf u).toNat)
  case atStart => exact ⟨0, _, rfl, by omega, HT0, HST⟩
  case round =>
    obtain ⟨i, C, rfl, hi, HCT, HWC⟩ := hrel
    by_cases hlt : i < M
    · obtain ⟨S2, hW2, hs2, hf2⟩ := HWC.out
      obtain ⟨ad, A0, c0, e, hx, hl0, hF0⟩ := row_at (Kd.N_step HN6.out (fun k hk hlt => hf2.block k hlt (HOK6.out k hk))) i (by omega)
      subst e
      rw [HPGE.out i hlt] at hx hl0 hF0
      have hXS := partL_small HSM.out p i
      have hXN := HPLL.out i hlt
      have hct := HCT.out
      rw [show M - i = (M - (i + 1)) + 1 by omega, partsBits_range] at hct
      generalize hR : partsBits l p (List.range' (i + 1) (M - (i + 1))) = R at *
      have HR := Aside0.mk hR
      obtain ⟨⟨kk, hkk, hkk14⟩, _⟩ := bestW_bound hXS
      have hbest := fun W (h : Kd.C (Kd.int .i64) W A0 (partL l p i).length (partL l p i)) => shawmref05_best.calls ((partL l p i).length + 16) A0 c0 (partL l p i) (bestW (partL l p i)).1 (bestW (partL l p i)).2 W h hl0 (ref_best _ _ hXS (by have := HNL.out; omega) (by omega))
      unfold partBits at hct
      rw [hkk] at hbest hct
      rw [Int.toNat_natCast] at hct
      have hNl := HNL.out
      generalize (bestW (partL l p i)).2 = bc at *
      generalize partL l p i = X at *
      have hXl : X.length ≤ 8192 := by omega
      have hct2 : (C ++ numb (kk : Int) 4) ++ wordsBits X kk ++ R = T := by rw [← hct]; simp only [List.append_assoc]
      have hput4 := wPut_ok C (kk : Int) 4 (by omega) (by omega) (by have := HTL.out; rw [← hct2, List.length_append, List.length_append, List.length_append, numb_length] at this; omega)
      rw [show ((4 : Nat) : Int) = 4 from rfl] at hput4
      have hC2 : C.length ≤ 1048576 := by have := HTL.out; rw [← hct2, List.length_append, List.length_append, List.length_append] at this; omega
      have hput := fun W h => RPut_any S2 q C (kk : Int) 4 W h hC2
      rw [hput4] at hput
      have HPUT := Aside0.mk hput
      have HBEST := Aside0.mk hbest
      have HCT2 := Aside0.mk hct2
      have HW2 := Aside0.mk hW2
      have HS2 := Aside0.mk hs2
      have HF2 := Aside0.mk hf2
      have HF0 := Aside0.mk hF0
      have HXS := Aside0.mk hXS
      clear hct hct2 hput4 hput hbest hW2 hs2 hf2 hF0 hXS hkk hR hC2 hXN hNl
      go_wp2_with fail
      refine (HBEST.out wr (Kd.F_now HF0.out)).mono ?_
      rintro e w7 ⟨rfl, hd⟩
      have HB7 := Aside0.mk hd.below
      clear hd hx
      go_wp2_with fail
      refine (HPUT.out w7 (HW2.out.below HB7.out)).mono ?_
      rintro e w8 ⟨rfl, h8⟩
      have HF8 := Aside0.mk (RWrTo.glue HS2.out HF2.out (RWrTo.glue (fun k hk => .inl hk) (Fr.below HB7.out _) h8))
      clear h8
      go_wp2_with fail
      obtain ⟨wo, rfl⟩ : ∃ wo : World, wo = wr := ⟨_, rfl⟩
      go_loopw [52] (fun u wr => ∃ (j : Nat) (D : List Int), u = .int .i64 (j : Int) ∧ j ≤ X.length ∧ Aside0 (D ++ wordsBits (X.drop j) kk ++ R = T) ∧ Aside0 (RWrTo w6 S1 q D wr)) (fun u _ => X.length - (intOf u).toNat)
      case atStart => exact ⟨0, _, rfl, by omega, HCT2, HF8⟩
      case round =>
        obtain ⟨j, D, rfl, hj, HDT, HWD⟩ := hrel
        by_cases hjl : j < X.length
        · obtain ⟨S3, hW3, hs3, hf3⟩ := HWD.out
          have hF3 : Kd.C (Kd.int .i64) wr A0 X.length X := Kd.F_now (Kd.F_step HF0.out (fun k hk hlt => (hf3.block k (HSZ6.out k hk) (HOK6.out k hk)).trans (HF2.out.block k (HSZ6.out k hk) (HOK6.out k hk)).symm))
          obtain ⟨ad2, e, hx2⟩ := at64 hF3 j hjl
          subst e
          have hdt := HDT.out
          rw [wordsBits_drop hjl] at hdt
          have hxs := smallL_getD HXS.out hjl
          have hlw := word_length hxs kk
          have hdt2 : (D ++ word (X.getD j 0) kk) ++ wordsBits (X.drop (j + 1)) kk ++ R = T := by rw [← hdt]; simp only [List.append_assoc]
          have hput := rput_any5 S3 q D (X.getD j 0) kk wr hW3 hxs hkk14 (by have := HTL.out; rw [← hdt2, List.length_append, List.length_append, List.length_append] at this; omega)
          have HPUT := Aside0.mk hput
          generalize X.getD j 0 = xj at *
          generalize word xj kk = wd at *
          have HS3 := Aside0.mk hs3
          have HF3 := Aside0.mk hf3
          have HDT2 := Aside0.mk hdt2
          clear hdt hdt2 hlw hput hs3 hf3 hW3 hF3 hxs
          go_wp2_with fail
          refine HPUT.out.mono ?_
          rintro e w9 ⟨rfl, h9⟩
          have HF9 := Aside0.mk (RWrTo.glue HS3.out HF3.out h9)
          clear h9 hx2
          go_wp2_with fail
          go_roundw
          case rel => exact ⟨j + 1, _, by go_num, by omega, HDT2, HF9⟩
          case measure => simp [intOf]; omega
        · obtain rfl : j = X.length := by omega
          have hdt := HDT.out
          rw [wordsBits_end, List.append_nil] at hdt
          have HDT2 := Aside0.mk hdt
          clear hdt
          go_wp2_with fail
          go_roundw
          case rel => exact ⟨i + 1, D, by go_num, by omega, ⟨by rw [HR.out]; exact HDT2.out⟩, HWD⟩
          case measure => simp [intOf]; omega
    · obtain rfl : i = M := by omega
      have hct := HCT.out
      rw [Nat.sub_self] at hct
      have hct2 : C = T := by rw [← hct]; simp [partsBits]
      subst hct2
      go_wp2_with fail
      go_ret
      rw [HFW.out]
      exact ⟨rfl, RWrTo.glue HS1.out HF6.out HWC.out⟩
end Go.Proofs.Ytnpheeendbchbaa.P
