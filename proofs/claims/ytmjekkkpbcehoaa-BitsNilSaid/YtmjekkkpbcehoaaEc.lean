/- The reference's reader: Signed, Unary, Gamma, Align. -/
import Derived.Test.YtmjekkkpbcehoaaEb
namespace Go.Proofs.Ytmjekkkpbcehoaa.P
open Go.RowKit Go.Shelf Go.Proofs.Ytmjekkkpbcehoaa.Bits Go.Proofs.YtmjekkkpbcehoaaW.PrintWords Go.Proofs.YtmjekkkpbcehoaaW.PrintLast Go.Proofs.YtmjekkkpbcehoaaW.PrintMore
set_option linter.unusedVariables false
set_option linter.unusedSimpArgs false
attribute [local go_sem ↓] Go.wp_at_zero Go.wp_at_succ

theorem val_cons (b : Int) (M : List Int) : val (b :: M) = b * 2 ^ M.length + val M := by
  induction M using snoc_ind with
  | h0 => simp [val]
  | h1 M c ih =>
    rw [← List.cons_append, val_snoc, val_snoc, ih, List.length_append, List.length_singleton, Int.pow_succ]
    have : b * (2 ^ M.length * 2) = 2 * (b * 2 ^ M.length) := by rw [← Int.mul_assoc, Int.mul_comm]
    omega
theorem sgn_top {M : List Int} (h : is01 M) (hl : 0 < M.length) : sgn (val M) M.length = if M.getD 0 0 = 1 then val M - 2 ^ M.length else val M := by
  cases M with
  | nil => simp at hl
  | cons b M =>
    have hb := h b List.mem_cons_self
    have hv := val_bound (L := M) (fun x hx => h x (List.mem_cons_of_mem _ hx))
    have hc := val_cons b M
    have hp : (0 : Int) < 2 ^ M.length := Int.pow_pos (by omega)
    unfold sgn
    have e1 : (b :: M).length - 1 = M.length := by simp
    have e2 : (b :: M).getD 0 0 = b := rfl
    rw [e1, e2]
    rcases hb with rfl | rfl
    · rw [if_neg (by omega), if_neg (by omega)]
    · rw [if_pos (by omega), if_pos rfl]

set_option maxHeartbeats 1000000 in
theorem RefSigned_any (S : Nat → Prop) (p a : Nat) (L : List Int) (n : Int) (w : World) (hR : RRd w S p L a) :
    Calls Try.prog 63 #[.pointer (some ⟨p, 0, none⟩), .int .i64 n] w (RRdPost w S p L (rSigned L a n)) := by
  have HR := Aside0.mk hR
  have hal := hR.at_le
  have H01 := Aside0.mk hR.bits
  clear hR
  by_cases h1 : n < 1
  · have HN : Aside0 (rSigned L a n = (0, 1, a)) := ⟨by unfold rSigned; rw [if_pos (.inl h1)]⟩
    have d1 : decide (n < 1) = true := by simpa using h1
    go_enter Try.func63, Try.ntmps63
    go_wp2_with fail
    go_ret2
    rw [HN.out]
    exact ⟨rfl, HR.out, Fr.refl _ _⟩
  obtain ⟨m, rfl⟩ : ∃ m : Nat, n = m := ⟨n.toNat, by omega⟩
  have d1 : decide ((m : Int) < 1) = false := by simp; omega
  by_cases h2 : 32 < m
  · have HN : Aside0 (rSigned L a m = (0, 1, a)) := ⟨by unfold rSigned; rw [if_pos (.inr (by omega))]⟩
    have d2 : decide ((32 : Int) < (m : Int)) = true := by simp; omega
    clear h1
    go_enter Try.func63, Try.ntmps63
    go_wp2_with fail
    go_ret2
    rw [HN.out]
    exact ⟨rfl, HR.out, Fr.refl _ _⟩
  have d2 : decide ((32 : Int) < (m : Int)) = false := by simp; omega
  have hm32 : m ≤ 32 := by omega
  have hm1 : 1 ≤ m := by omega
  by_cases h3 : L.length < a + m
  · have HN : Aside0 (rSigned L a m = (0, 3, a)) := ⟨by unfold rSigned; rw [if_neg (by omega), if_pos (by omega)]⟩
    have HNX := Aside0.mk (RefNext_short S p a m L w HR.out (by omega) h3)
    clear h1 h2
    go_enter Try.func63, Try.ntmps63
    go_wp2_with fail
    refine HNX.out.mono ?_
    rintro e w1 ⟨rfl, hr1, hf1⟩
    have HR1 := Aside0.mk hr1
    have HF1 := Aside0.mk hf1
    clear hr1 hf1
    go_wp2_with fail
    refine (value_any none 0 0 [] w1 (C_nil8 w1) is01_nil (by omega)).mono ?_
    rintro e w2 ⟨rfl, rfl⟩
    go_wp2_with fail
    go_ret2
    rw [HN.out]
    exact ⟨rfl, HR1.out, HF1.out⟩
  · have hMl : ((L.drop a).take m).length = m := by rw [List.length_take, List.length_drop]; omega
    have hM01 := is01_take (is01_drop H01.out a) m
    have hst := sgn_top hM01 (by omega)
    rw [hMl] at hst
    have HN : Aside0 (rSigned L a m = (sgn (val ((L.drop a).take m)) m, 0, a + m)) := ⟨by unfold rSigned; rw [if_neg (by omega), if_neg (by omega), Int.toNat_natCast]⟩
    have HNX := Aside0.mk (RefNext_long S p a m L w HR.out (by omega) h3)
    have hv := val_bound hM01
    rw [hMl] at hv
    have hb01 := getD01 hM01 0
    have HM01 := Aside0.mk hM01
    generalize (L.drop a).take m = M at *
    have hp32 := (pow_le32 (m := m) hm32).2
    clear h1 h2 h3 hMl hM01
    have HG : Aside0 (∀ W A1, Kd.C (Kd.int .u8) W A1 m M → ∃ ad, A1 = some ad ∧ W.cell? ad = some (.int .u8 (M.getD 0 0))) := ⟨fun W A1 hC => by
      obtain ⟨ad, e, hx⟩ := at8 hC 0 (by omega)
      exact ⟨ad, e, by simpa [Addr.add] using hx⟩⟩
    generalize M.getD 0 0 = b at *
    have hV0 := hv.1
    have hV1 := hv.2
    have HST := Aside0.mk hst
    by_cases hb : b = 1
    · rw [if_pos hb] at HST
      subst hb
      clear hst hv
      go_enter Try.func63, Try.ntmps63
      go_wp2_with fail
      refine HNX.out.mono ?_
      rintro e w1 ⟨A1, c1, rfl, hC1, hr1, hf1⟩
      obtain ⟨ad, e1, hcell⟩ := HG.out _ _ hC1
      subst e1
      have HR1 := Aside0.mk hr1
      have HF1 := Aside0.mk hf1
      have HC1 := Aside0.mk hC1
      clear hr1 hf1 hC1
      go_wp2_with fail
      refine (value_any (some ad) m c1 _ w1 HC1.out HM01.out (by omega)).mono ?_
      rintro e w2 ⟨rfl, rfl⟩
      go_wp2_with fail
      go_ret2
      rw [HN.out, HST.out]
      exact ⟨rfl, HR1.out, HF1.out⟩
    · rw [if_neg hb] at HST
      have q1 : (b == 1) = false := by simp [hb]
      clear hst hv hb
      go_enter Try.func63, Try.ntmps63
      go_wp2_with fail
      refine HNX.out.mono ?_
      rintro e w1 ⟨A1, c1, rfl, hC1, hr1, hf1⟩
      obtain ⟨ad, e1, hcell⟩ := HG.out _ _ hC1
      subst e1
      have HR1 := Aside0.mk hr1
      have HF1 := Aside0.mk hf1
      have HC1 := Aside0.mk hC1
      clear hr1 hf1 hC1
      go_wp2_with fail
      refine (value_any (some ad) m c1 _ w1 HC1.out HM01.out (by omega)).mono ?_
      rintro e w2 ⟨rfl, rfl⟩
      go_wp2_with fail
      go_ret2
      rw [HN.out, HST.out]
      exact ⟨rfl, HR1.out, HF1.out⟩

set_option maxHeartbeats 1000000 in
theorem RefUnary_any (S : Nat → Prop) (p a : Nat) (L : List Int) (n : Int) (w : World) (hR : RRd w S p L a) :
    Calls Try.prog 64 #[.pointer (some ⟨p, 0, none⟩), .int .i64 n] w (RRdPost w S p L (rUnary L a n)) := by
  have HR := Aside0.mk hR
  have hal := hR.at_le
  have hlen := hR.len
  have h01 := hR.bits
  clear hR
  by_cases h1 : n < 0
  · have HN : Aside0 (rUnary L a n = (0, 1, a)) := ⟨by unfold rUnary; rw [if_pos (.inl h1)]⟩
    have d1 : decide (n < 0) = true := by simpa using h1
    go_enter Try.func64, Try.ntmps64
    go_wp2_with fail
    go_ret2
    rw [HN.out]
    exact ⟨rfl, HR.out, Fr.refl _ _⟩
  obtain ⟨m, rfl⟩ : ∃ m : Nat, n = m := ⟨n.toNat, by omega⟩
  have d1 : decide ((m : Int) < 0) = false := by simp
  by_cases h2 : 1000 < m
  · have HN : Aside0 (rUnary L a m = (0, 1, a)) := ⟨by unfold rUnary; rw [if_pos (.inr (by omega))]⟩
    have d2 : decide ((1000 : Int) < (m : Int)) = true := by simp; omega
    clear h1
    go_enter Try.func64, Try.ntmps64
    go_wp2_with fail
    go_ret2
    rw [HN.out]
    exact ⟨rfl, HR.out, Fr.refl _ _⟩
  have d2 : decide ((1000 : Int) < (m : Int)) = false := by simp; omega
  have hm32 : m ≤ 1000 := by omega
  have HN0 : Aside0 (rUnary L a m = rZeros L a m) := ⟨by unfold rUnary; rw [if_neg (by omega), Int.toNat_natCast]⟩
  have hzl := zs_le (L.drop a)
  rw [List.length_drop] at hzl
  clear h1 h2
  go_enter Try.func64, Try.ntmps64
  go_wp2_with fail
  go_loopw [6] (fun i wr => ∃ k : Nat, i = .int .i64 (k : Int) ∧ k ≤ m + 1 ∧ Aside0 (k ≤ zs (L.drop a)) ∧ Aside0 (RRd wr S p L a) ∧ Aside0 (Fr (fun k => k = p) w wr)) (fun i _ => m + 1 - (intOf i).toNat)
  case atStart => exact ⟨0, rfl, Nat.zero_le _, ⟨Nat.zero_le _⟩, HR, ⟨Fr.refl _ _⟩⟩
  case round =>
    obtain ⟨k, rfl, hk, HZ, HRr, HF⟩ := hrel
    by_cases hlt : k ≤ m
    · obtain ⟨A, c, c0, hC, hcap, hA⟩ := HRr.out.bytes
      have c1 := HRr.out.cell1
      have fz := HRr.out.fz 1
      have hkl := HZ.out
      have HC := Aside0.mk hC
      have w1' : IntKind.i64.wrap ((a : Int) + (k : Int)) = (a : Int) + (k : Int) := IntWalk.i64_in _ (by omega)
      clear hA hC
      by_cases hs : L.length ≤ a + k
      · have HN : Aside0 (rZeros L a m = (0, 3, a)) := ⟨by unfold rZeros; rw [if_neg (by omega), if_neg (by omega)]⟩
        have d3 : decide ((L.length : Int) ≤ (a : Int) + (k : Int)) = true := by simp; omega
        go_wp2_with fail
        go_quiet (fail)
        go_wp2_with fail
        go_ret2
        rw [HN0.out, HN.out]
        exact ⟨rfl, HRr.out.drew _, HF.out.trans (Fr.below (below_drewN (Below.refl _ _) _) _)⟩
      · have d3 : decide ((L.length : Int) ≤ (a : Int) + (k : Int)) = false := by simp; omega
        obtain ⟨ad, e, hx⟩ := at8 HC.out (a + k) (by omega)
        subst e
        have hkd : k < (L.drop a).length := by rw [List.length_drop]; omega
        have hgd : (L.drop a).getD k 0 = L.getD (a + k) 0 := getD_drop' L a k
        have hb01 := getD01 h01 (a + k)
        obtain ⟨q, hq⟩ : ∃ q, q = a + k := ⟨_, rfl⟩
        have w2' : (a : Int) + (k : Int) = (q : Int) := by omega
        rw [← hq] at hx hgd hb01
        have hql : q < L.length := by omega
        have w3' : IntKind.i64.wrap (q : Int) = (q : Int) := IntWalk.i64_in _ (by omega)
        have i1 : (0 : Int) ≤ (q : Int) := by omega
        have i2 : (q : Int) < (L.length : Int) := by omega
        rw [w2'] at w1' d3
        by_cases hb : L.getD q 0 = 1
        · have hz := zs_one hkd hkl (by rw [hgd, hb]; decide)
          have HN : Aside0 (rZeros L a m = ((k : Int), 0, a + (k + 1))) := ⟨by unfold rZeros; rw [hz, if_neg (by omega), if_pos (by omega), Nat.add_assoc]⟩
          rw [hb] at hx
          have hle : a + (k + 1) ≤ L.length := by omega
          clear hgd hb hb01 hkd hz hkl hq
          go_wp2_with fail
          go_quiet (fail)
          go_wp2_with fail
          go_quiet (fail)
          go_wp2_with fail
          go_ret2
          rw [HN0.out, HN.out]
          have key : ∀ j, RRd ((wr.drewN j).setCell ⟨p, 1, none⟩ (.int .i64 ((a : Int) + ((k : Int) + 1)))) S p L (a + (k + 1)) ∧ Fr (fun k => k = p) w ((wr.drewN j).setCell ⟨p, 1, none⟩ (.int .i64 ((a : Int) + ((k : Int) + 1)))) := fun j => by
            have h := (HRr.out.drew j).seek (a + (k + 1)) hle
            rw [show ((a + (k + 1) : Nat) : Int) = (a : Int) + ((k : Int) + 1) by omega] at h
            exact ⟨h, (HF.out.trans (Fr.below (below_drewN (Below.refl _ _) j) _)).setCell (p := ⟨p, 1, none⟩) (fun _ => rfl) _⟩
          exact ⟨rfl, (key _).1, (key _).2⟩
        · have HZ1 := Aside0.mk (zs_step hkd hkl (by rw [hgd]; omega))
          have q1 : (L.getD q 0 == 1) = false := beq_eq_false_iff_ne.2 hb
          generalize L.getD q 0 = b at *
          clear hgd hb hb01 hkd hkl hq
          go_wp2_with fail
          go_quiet (fail)
          go_wp2_with fail
          go_quiet (fail)
          go_wp2_with fail
          go_roundw
          case rel => exact ⟨k + 1, by go_num, by omega, HZ1, ⟨HRr.out.drew _⟩, ⟨HF.out.trans (Fr.below (below_drewN (Below.refl _ _) _) _)⟩⟩
          case measure => simp [intOf]; omega
    · obtain rfl : k = m + 1 := by omega
      have hz := HZ.out
      have HN : Aside0 (rZeros L a m = (0, 4, a)) := ⟨by unfold rZeros; rw [if_pos (by omega)]⟩
      go_wp2_with fail
      go_ret2
      rw [HN0.out, HN.out]
      exact ⟨rfl, HRr.out, HF.out⟩

set_option maxHeartbeats 1000000 in
theorem RefGamma_any (S : Nat → Prop) (p a : Nat) (L : List Int) (w : World) (hR : RRd w S p L a) :
    Calls Try.prog 65 #[.pointer (some ⟨p, 0, none⟩)] w (RRdPost w S p L (rGamma L a)) := by
  have HR := Aside0.mk hR
  have c1 := hR.cell1
  have hal := hR.at_le
  have hlen := hR.len
  have H01 := Aside0.mk hR.bits
  have hun := RefUnary_any S p a L 20 w hR
  have hru : rUnary L a 20 = rZeros L a 20 := by unfold rUnary; rw [if_neg (by omega)]; rfl
  rw [hru] at hun
  have hzb := zs_le (L.drop a)
  rw [List.length_drop] at hzb
  have hrz : ((rZeros L a 20).2.1 ≠ 0 ∧ (rZeros L a 20).2.2 = a ∧ (rZeros L a 20).1 = 0) ∨ ((rZeros L a 20).2.1 = 0 ∧ ∃ k : Nat, k ≤ 20 ∧ (rZeros L a 20).1 = (k : Int) ∧ (rZeros L a 20).2.2 ≤ L.length) := by
    unfold rZeros
    split
    · exact .inl ⟨by simp, rfl, rfl⟩
    · split
      · exact .inr ⟨rfl, zs (L.drop a), by omega, rfl, by dsimp only; omega⟩
      · exact .inl ⟨by simp, rfl, rfl⟩
  have HG : Aside0 (rGamma L a = if (rZeros L a 20).2.1 ≠ 0 then (0, (rZeros L a 20).2.1, a) else if (L.length : Int) - ((rZeros L a 20).2.2 : Int) < (rZeros L a 20).1 then (0, 3, a) else (2 ^ (rZeros L a 20).1.toNat + val ((L.drop (rZeros L a 20).2.2).take (rZeros L a 20).1.toNat), 0, (rZeros L a 20).2.2 + (rZeros L a 20).1.toNat)) := ⟨rfl⟩
  generalize rZeros L a 20 = X at *
  obtain ⟨x, er, b⟩ := X
  dsimp only at hrz HG hun
  have HUN := Aside0.mk hun
  clear hun hru hR
  rcases hrz with ⟨h1, h2, h3⟩ | ⟨h1, k, hk, h3, hbl⟩
  · subst h2
    subst h3
    rw [if_pos h1] at HG
    have q1 : (er != 0) = true := bne_iff_ne.2 h1
    clear h1 hzb
    go_enter Try.func65, Try.ntmps65
    go_wp2_with fail
    refine HUN.out.mono ?_
    rintro e w1 ⟨rfl, hr1, hf1⟩
    dsimp only at *
    have HR1 := Aside0.mk hr1
    have HF1 := Aside0.mk hf1
    clear hr1 hf1
    go_wp2_with fail
    go_ret2
    rw [HG.out]
    exact ⟨rfl, HR1.out, HF1.out⟩
  · subst h1
    subst h3
    rw [if_neg (by decide)] at HG
    by_cases hs : L.length < b + k
    · rw [if_pos (by omega)] at HG
      have hnx := fun W h => RefNext_short S p b k L W h (by omega) hs
      have HNX := Aside0.mk hnx
      clear hnx hs hzb
      go_enter Try.func65, Try.ntmps65
      go_wp2_with fail
      refine HUN.out.mono ?_
      rintro e w1 ⟨rfl, hr1, hf1⟩
      dsimp only at *
      have HR1 := Aside0.mk hr1
      have HF1 := Aside0.mk hf1
      clear hr1 hf1
      go_wp2_with fail
      refine (HNX.out w1 HR1.out).mono ?_
      rintro e w2 ⟨rfl, hr2, hf2⟩
      have HR2 := Aside0.mk hr2
      have HF2 := Aside0.mk (HF1.out.trans hf2)
      have fz2 := hr2.fz 1
      have c12 := hr2.cell1
      clear hr2 hf2
      go_wp2_with fail
      go_ret2
      rw [HG.out]
      exact ⟨rfl, HR2.out.seek a hal, HF2.out.trans (RRd.fr_seek _ _)⟩
    · rw [if_neg (by omega)] at HG
      have hnx := fun W h => RefNext_long S p b k L W h (by omega) hs
      have HNX := Aside0.mk hnx
      have hMl : ((L.drop b).take k).length = k := by rw [List.length_take, List.length_drop]; omega
      have hM01 := is01_take (is01_drop H01.out b) k
      have hv := val_bound hM01
      rw [hMl] at hv
      have hp32 := (pow_le32 (m := k) (by omega)).2
      have hpos : (0 : Int) < 2 ^ k := Int.pow_pos (by omega)
      have HM01 := Aside0.mk hM01
      rw [Int.toNat_natCast] at HG
      generalize (L.drop b).take k = M at *
      have hv0 := hv.1
      have hv1 := hv.2
      clear hnx hs hzb hv hM01
      go_enter Try.func65, Try.ntmps65
      go_wp2_with fail
      refine HUN.out.mono ?_
      rintro e w1 ⟨rfl, hr1, hf1⟩
      dsimp only at *
      have HR1 := Aside0.mk hr1
      have HF1 := Aside0.mk hf1
      clear hr1 hf1
      go_wp2_with fail
      refine (HNX.out w1 HR1.out).mono ?_
      rintro e w2 ⟨A2, c2, rfl, hC2, hr2, hf2⟩
      have HR2 := Aside0.mk hr2
      have HF2 := Aside0.mk (HF1.out.trans hf2)
      have HC2 := Aside0.mk hC2
      clear hr2 hf2 hC2
      go_wp2_with fail
      go_quiet ((go_at_call 77; exact Calls.quiet_of_same (value_any A2 k c2 M _ (Kd.C_drew HC2.out) HM01.out (by omega))))
      go_wp2_with fail
      go_ret2
      rw [HG.out]
      exact ⟨rfl, HR2.out.drew _, HF2.out.trans (Fr.below (below_drewN (Below.refl _ _) _) _)⟩

set_option maxHeartbeats 1000000 in
theorem RefAlign_any (S : Nat → Prop) (p a : Nat) (L : List Int) (w : World) (hR : RRd w S p L a) :
    Calls Try.prog 66 #[.pointer (some ⟨p, 0, none⟩)] w fun e w' => e = .returned (.int .i64 ((rAlign L a : Int) - a)) ∧ RRd w' S p L (rAlign L a) ∧ Fr (fun k => k = p) w w' := by
  have HR := Aside0.mk hR
  have hal := hR.at_le
  have hlen := hR.len
  clear hR
  obtain ⟨r, hr⟩ : ∃ r, r = rAlign L a := ⟨_, rfl⟩
  have HRA : Aside0 (r = min ((a + 7) / 8 * 8) L.length) := ⟨hr⟩
  have HRE := Aside0.mk hr
  clear hr
  go_enter Try.func66, Try.ntmps66
  go_wp2_with fail
  go_loopw [3] (fun i wr => ∃ k : Nat, i = .int .i64 (k : Int) ∧ Aside0 (a + k ≤ r) ∧ Aside0 (RRd wr S p L (a + k)) ∧ Aside0 (Fr (fun k => k = p) w wr)) (fun i _ => r - a - (intOf i).toNat)
  case atStart => exact ⟨0, rfl, ⟨by have := HRA.out; omega⟩, HR, ⟨Fr.refl _ _⟩⟩
  case round =>
    obtain ⟨k, rfl, hkr, HRr, HF⟩ := hrel
    obtain ⟨A, c, c0, _, hcap, _⟩ := HRr.out.bytes
    have c1 := HRr.out.cell1
    have fz := HRr.out.fz 1
    have hle := HRr.out.at_le
    have hk := hkr.out
    have hra := HRA.out
    obtain ⟨q, hq⟩ : ∃ q, q = a + k := ⟨_, rfl⟩
    rw [← hq] at c1 hle HRr
    have w2' : (q : Int).tmod 8 = (q : Int) % 8 := Int.tmod_eq_emod_of_nonneg (by omega)
    have w3' : IntKind.i64.wrap ((q : Int) % 8) = (q : Int) % 8 := IntWalk.i64_in _ (by omega)
    have HQ := Aside0.mk hq
    have hkb : k ≤ 1048576 := by omega
    by_cases h8 : q % 8 = 0
    · have hqr : q = r := by omega
      have d1 : decide ((0 : Int) < (q : Int) % 8) = false := by simp; omega
      have HQR := Aside0.mk hqr
      clear h8 hqr hq hra hk
      go_wp2_with fail
      go_quiet (fail)
      go_wp2_with fail
      go_ret
      have hf := HQR.out
      have hq := HQ.out
      rw [← HRE.out, ← hf]
      have ek : (k : Int) = (q : Int) - (a : Int) := by omega
      exact ⟨by rw [← ek]; rfl, HRr.out.drew _, HF.out.trans (Fr.below (below_drewN (Below.refl _ _) _) _)⟩
    · have d1 : decide ((0 : Int) < (q : Int) % 8) = true := by simp; omega
      by_cases hl : q < L.length
      · have d2 : decide ((q : Int) < (L.length : Int)) = true := by simp; omega
        have hqr : q + 1 ≤ r := by omega
        have HQR := Aside0.mk hqr
        clear h8 hqr hq hra hk
        go_wp2_with fail
        go_quiet (fail)
        go_wp2_with fail
        go_roundw
        case rel =>
          have key : ∀ j, RRd ((wr.drewN j).setCell ⟨p, 1, none⟩ (.int .i64 ((q : Int) + 1))) S p L (a + (k + 1)) ∧ Fr (fun k => k = p) w ((wr.drewN j).setCell ⟨p, 1, none⟩ (.int .i64 ((q : Int) + 1))) := fun j => by
            have h := (HRr.out.drew j).seek (q + 1) (by omega)
            rw [Int.natCast_add] at h
            rw [show a + (k + 1) = q + 1 by have := HQ.out; omega]
            exact ⟨h, (HF.out.trans (Fr.below (below_drewN (Below.refl _ _) j) _)).setCell (p := ⟨p, 1, none⟩) (fun _ => rfl) _⟩
          exact ⟨k + 1, by go_num, ⟨by have := HQ.out; have := HQR.out; omega⟩, ⟨(key _).1⟩, ⟨(key _).2⟩⟩
        case measure => have := HQ.out; have := HQR.out; simp [intOf]; omega
      · have d2 : decide ((q : Int) < (L.length : Int)) = false := by simp; omega
        have hqr : q = r := by omega
        have HQR := Aside0.mk hqr
        clear h8 hqr hq hra hk
        go_wp2_with fail
        go_quiet (fail)
        go_wp2_with fail
        go_ret
        have hf := HQR.out
        have hq := HQ.out
        rw [← HRE.out, ← hf]
        have ek : (k : Int) = (q : Int) - (a : Int) := by omega
        exact ⟨by rw [← ek]; rfl, HRr.out.drew _, HF.out.trans (Fr.below (below_drewN (Below.refl _ _) _) _)⟩
end Go.Proofs.Ytmjekkkpbcehoaa.P
