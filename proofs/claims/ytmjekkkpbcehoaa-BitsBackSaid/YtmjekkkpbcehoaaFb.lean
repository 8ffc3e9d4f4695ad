/- The walk of BitsBack. -/
import Derived.Test.YtmjekkkpbcehoaaFa
import Derived.Test.YtmjekkkpbcehoaaBr
namespace Go.Proofs.Ytmjekkkpbcehoaa.P
open Go.RowKit Go.Shelf Go.Proofs.Ytmjekkkpbcehoaa.Bits Go.Proofs.YtmjekkkpbcehoaaW.PrintWords Go.Proofs.YtmjekkkpbcehoaaW.PrintLast Go.Proofs.YtmjekkkpbcehoaaW.PrintMore
set_option linter.unusedVariables false
set_option linter.unusedSimpArgs false
attribute [local go_sem ↓] Go.wp_at_zero Go.wp_at_succ

/-- The writer and the reader of what it has. -/
structure WrRd (w0 w : World) (S SR : Nat → Prop) (p r : Nat) (L : List Int) (a : Nat) : Prop where
  wr : Wr w S p L
  rd : Rd w SR r L a
  pge : w0.heap.size ≤ p
  rge : w0.heap.size ≤ r
  bel : Below w0.heap.size w0 w
theorem WrRd.ne {w0 w : World} {S SR : Nat → Prop} {p r : Nat} {L : List Int} {a : Nat} (h : WrRd w0 w S SR p r L a) : p ≠ r ∧ ¬ S r := by
  obtain ⟨v, hb, _⟩ := h.wr.blk
  obtain ⟨v', B, hb', _⟩ := h.rd.blk
  refine ⟨blk_ne hb hb' (by decide), fun hs => ?_⟩
  obtain ⟨cells, hc⟩ := h.wr.typed r hs
  exact blk_ne hb' hc (by decide) rfl
theorem WrRd.below {w0 w w' : World} {S SR : Nat → Prop} {p r : Nat} {L : List Int} {a : Nat} (h : WrRd w0 w S SR p r L a) (hb : Below w.heap.size w w') : WrRd w0 w' S SR p r L a :=
  ⟨h.wr.below hb, h.rd.below hb, h.pge, h.rge, h.bel.trans (hb.mono h.bel.size)⟩
theorem WrRd.step {w0 w w' : World} {S SR : Nat → Prop} {p r : Nat} {L : List Int} {a b : Nat} (h : WrRd w0 w S SR p r L a) (hr : Rd w' SR r L b) (hf : Fr (fun k => k = r) w w') : WrRd w0 w' S SR p r L b :=
  ⟨h.wr.fr hf h.ne.1 (fun k hk e => h.ne.2 (by rw [← e]; exact hk)), hr, h.pge, h.rge, h.bel.trans (hf.to_below h.bel.size (fun j hj => by subst hj; exact h.rge))⟩

set_option maxHeartbeats 8000000 in
set_option maxRecDepth 100000 in
theorem BitsBack_any (X : Option Addr) (c : Nat) (ops : List OpD) (w : World) (h : OpsAt w X ops) (hl : ops.length ≤ 9000000000000000000) :
    Calls Try.prog 8 #[.slice X ops.length c] w fun e w' => e = .returned (.bool true) ∧ Below w.heap.size w w' := by
  have HO := Aside0.mk h
  have hfew := few_any X c ops w h hl
  clear h
  cases hf : fewB ops with
  | false =>
    rw [hf] at hfew
    have HF := Aside0.mk hfew
    clear hfew hf
    go_enter Try.func8, Try.ntmps8
    go_wp2_with fail
    refine HF.out.mono ?_
    rintro e w1 ⟨rfl, hb⟩
    have HB1 := Aside0.mk hb
    clear hb
    go_wp2_with fail
    refine (awake_any w1).mono ?_
    rintro e w2 ⟨rfl, hb⟩
    have HB2 := Aside0.mk (HB1.out.trans (hb.mono HB1.out.size))
    clear hb
    go_wp2_with fail
    go_ret
    exact ⟨rfl, HB2.out⟩
  | true =>
  rw [hf] at hfew
  have HF := Aside0.mk hfew
  have HFE := Aside0.mk hf
  have hf2 : bulk ops ≤ 140000 ∧ ops.length ≤ 60 := by
    unfold fewB at hf
    rw [Bool.and_eq_true, decide_eq_true_eq, decide_eq_true_eq] at hf
    exact hf
  obtain ⟨hbulk, hl60⟩ := hf2
  clear hfew hf
  have HLR := Aside0.mk (wRun_len ops ops.length)
  rw [List.take_length] at HLR
  have HRD := Aside0.mk (show wRun (wDone [] ops) = wRun ops from wRun_done ops [])
  have HMEM := Aside0.mk (fun o (ho : o ∈ wDone [] ops) => HO.out.ok o (wDone_mem ops [] o ho))
  have HBULK := Aside0.mk (fun o (ho : o ∈ wDone [] ops) => Nat.le_trans (bulk_mem ops o (wDone_mem ops [] o ho)) hbulk)
  have HBACK := Aside0.mk (back_at ops)
  have hDl := Nat.le_trans (wDone_le ops []) hl60
  go_enter Try.func8, Try.ntmps8
  go_wp2_with fail
  refine HF.out.mono ?_
  rintro e w0 ⟨rfl, hb⟩
  have HB0 := Aside0.mk hb
  have HO0 := Aside0.mk (HO.out.below hb)
  clear hb
  go_wp2_with fail
  refine (written_any X c ops w0 HO0.out HFE.out).mono ?_
  rintro e w1 ⟨p, S, v, rfl, hW, hS, hp, hOut, hb⟩
  have HB1 := Aside0.mk (HB0.out.trans (hb.mono HB0.out.size))
  have HMEM1 := Aside0.mk (fun o ho => (HMEM.out o ho).below HB1.out)
  obtain ⟨XD, cD, ev, hOD⟩ := hOut.ops HMEM1.out
  subst ev
  rw [← HRD.out] at hW HLR
  generalize hDD : wDone [] ops = D at *
  have HW1 := Aside0.mk hW
  have HOD := Aside0.mk hOD
  have HP : Aside0 (w.heap.size ≤ p) := ⟨Nat.le_trans HB0.out.size hp⟩
  have H01 := Aside0.mk hW.bits
  have hLL := HLR.out
  generalize hLR : wRun D = L at *
  have HLD := Aside0.mk hLR
  have hpl : (pk L).length ≤ 131072 := by rw [pk_length]; omega
  have HPL := Aside0.mk (pk_length L)
  clear hW hS hp hOut hb hOD hDD HMEM1 HRD hLR
  go_wp2_with fail
  refine (Bytes_any S p L w1 HW1.out hLL).mono ?_
  rintro e w2 ⟨v2, S2, rfl, hr2, hs2, hb2⟩
  obtain ⟨A2, c2, ev, hcap2, hC2⟩ := Kd.R_reads hr2
  subst ev
  have HC2 := Aside0.mk hC2
  have HB2 := Aside0.mk (HB1.out.trans (hb2.mono HB1.out.size))
  have HW2 := Aside0.mk (HW1.out.below hb2)
  have HOD2 := Aside0.mk (HOD.out.below hb2)
  clear hr2 hs2 hb2 hC2 HW1 HOD
  go_wp2_with fail
  refine (Len_any S p L w2 HW2.out).mono ?_
  rintro e w3 ⟨rfl, hw3⟩
  obtain rfl := hw3.symm
  have hoe : openE (pk L) (L.length : Int) = 0 := by unfold openE; rw [if_neg (by have := HPL.out; omega), if_neg (by omega)]
  have hop : Calls Try.prog 27 #[.slice A2 (pk L).length c2, .int .i64 (L.length : Int)] w2 fun e w' => ∃ p S, e = .returned (.tuple #[.pointer (some ⟨p, 0, none⟩), .int .i64 0]) ∧ Rd w' S p L 0 ∧ w2.heap.size ≤ p ∧ (∀ k, S k → w2.heap.size ≤ k) ∧ Below w2.heap.size w2 w' := (Open_any A2 c2 (pk L) (L.length : Int) w2 HC2.out (pk_is8 H01.out) (by omega) hcap2).mono fun e w' q => by
    unfold OpenPost at q
    rw [if_pos hoe, Int.toNat_natCast, ofB_pk_all H01.out] at q
    exact q
  have HOP := Aside0.mk hop
  clear hop hoe hcap2
  go_wp2_with fail
  refine HOP.out.mono ?_
  rintro e w4 ⟨r, SR, rfl, hRd, hr, hSR, hb⟩
  have HWR0 : Aside0 (WrRd w w4 S SR p r L 0) := ⟨⟨HW2.out.below hb, hRd, HP.out, Nat.le_trans HB2.out.size hr, HB2.out.trans (hb.mono HB2.out.size)⟩⟩
  have HOD4 := Aside0.mk (HOD2.out.below hb)
  have HSZ := Aside0.mk (show w4.heap.size ≤ w4.heap.size from Nat.le_refl _)
  have HB4 := Aside0.mk (HB2.out.trans (hb.mono HB2.out.size))
  have HRG := Aside0.mk hr
  have HOD2' := Aside0.mk (show Below w2.heap.size w2 w4 from hb)
  clear hRd hr hSR hb HW2 HC2 HOP
  go_wp2_with fail
  go_loopw [41] (fun i wr => ∃ k : Nat, i = .int .i64 (k : Int) ∧ k ≤ D.length ∧ Aside0 (WrRd w wr S SR p r L (wRun (D.take k)).length) ∧ Aside0 (Below w2.heap.size w2 wr)) (fun i _ => D.length - (intOf i).toNat)
  case atStart => exact ⟨0, rfl, Nat.zero_le _, HWR0, HOD2'⟩
  case round =>
    obtain ⟨k, rfl, hk, HWR, HBR⟩ := hrel
    by_cases hlt : k < D.length
    · have hOr := HOD2.out.below HBR.out
      obtain ⟨x0, e, h0, h1, h2, h3⟩ := hOr.cells k hlt
      subst e
      have hok := hOr.ok D[k] (List.getElem_mem hlt)
      have hbl := HBULK.out D[k] (List.getElem_mem hlt)
      have HKB := Aside0.mk (HMEM.out D[k] (List.getElem_mem hlt)).blk
      obtain ⟨R, hR1, hR2, hR3⟩ := HBACK.out k hlt
      have hLl := HWR.out.rd.len
      generalize hLk : wRun (D.take k) = Lk at *
      rw [hR3.symm] at hR2
      have hal := HWR.out.rd.at_le
      have HOK := Aside0.mk hok
      have HR3 := Aside0.mk hR3
      generalize hL1 : wRun (D.take (k + 1)) = L1 at *
      have HL1 := Aside0.mk hL1
      have hal1 : L1.length ≤ 1048576 := by have := congrArg List.length hR2; rw [List.length_append] at this; omega
      generalize hOO : D[k] = o at *
      clear hOr hok hLk hL1 hOO
      obtain ⟨kind, v, n, A, co, B⟩ := o
      obtain ⟨hkk, hkv, hkn, hkC, hk8, hkcap, hks, hkb⟩ := HOK.out
      dsimp only at *
      have HkC := Aside0.mk hkC
      have Hk8 := Aside0.mk hk8
      have hk6 : kind % 6 = 0 ∨ kind % 6 = 1 ∨ kind % 6 = 2 ∨ kind % 6 = 3 ∨ kind % 6 = 4 ∨ kind % 6 = 5 := by omega
      obtain ⟨wb, hwb⟩ : ∃ wb, wb = wr.alloc (.cells #[.int .u8 (kind : Int), .int .i64 v, .int .i64 n, .slice A B.length co] 41) := ⟨_, rfl⟩
      have hbk : wb.heap[wr.heap.size]? = some (.cells #[.int .u8 (kind : Int), .int .i64 v, .int .i64 n, .slice A B.length co] 41 (0, 0)) := by rw [hwb]; exact World.alloc_heap_new wr _
      have hBb : Below wr.heap.size wr wb := by rw [hwb]; exact below_alloc (Below.refl _ _) _
      obtain ⟨bx, hbx⟩ : ∃ bx, bx = wr.heap.size := ⟨_, rfl⟩
      have hrx : r ≠ bx := by have := HWR.out.rd.p_lt; omega
      have HBX := Aside0.mk hbx
      have HWB := Aside0.mk hwb
      have HRX := Aside0.mk hrx
      rw [← hbx] at hbk
      have b0 : wb.cell? ⟨bx, 0, none⟩ = some (Value.int .u8 (kind : Int)) := by rw [cell_of_row _ _ _ _ _ _ hbk]; rfl
      have b1 : wb.cell? ⟨bx, 1, none⟩ = some (.int .i64 v) := by rw [cell_of_row _ _ _ _ _ _ hbk]; rfl
      have b2 : wb.cell? ⟨bx, 2, none⟩ = some (.int .i64 n) := by rw [cell_of_row _ _ _ _ _ _ hbk]; rfl
      have b3 : wb.cell? ⟨bx, 3, none⟩ = some (.slice A B.length co) := by rw [cell_of_row _ _ _ _ _ _ hbk]; rfl
      have HWRb := Aside0.mk (HWR.out.below hBb)
      have HBRb := Aside0.mk (HBR.out.trans (hBb.mono HBR.out.size))
      have HkCb := Aside0.mk (Kd.C_below HkC.out hBb)
      have HBK := Aside0.mk hbk
      clear hbk hBb hwb hbx hrx HOK hkC hk8 hkb hR3 HkC
      rcases hk6 with hq | hq | hq | hq | hq | hq
      · have hq' : (kind : Int) % 6 = 0 := by omega
        have hw : wOp Lk ⟨kind, v, n, A, co, B⟩ = wPut Lk v n := by unfold wOp; dsimp only; rw [hq]; rfl
        rw [hw] at hR1 HR3
        have hlaw := back_put Lk R v n hR1
        rw [← HR3.out, ← hR2] at hlaw
        have HLAW := Aside0.mk hlaw
        clear hlaw hw hR1 hR2
        clear hq
        go_wp2_with fail
        rw [← HWB.out, ← HBX.out]
        go_wp2_with fail
        refine (Get_any SR r Lk.length L n wb HWRb.out.rd).mono ?_
        rw [HLAW.out]
        rintro e w5 ⟨rfl, hr5, hf5⟩
        have hk5 := blk_fr HBK.out hf5 (fun e => HRX.out e.symm)
        have a0 : w5.cell? ⟨bx, 0, none⟩ = some (Value.int .u8 (kind : Int)) := by rw [cell_of_row _ _ _ _ _ _ hk5]; rfl
        have a1 : w5.cell? ⟨bx, 1, none⟩ = some (.int .i64 v) := by rw [cell_of_row _ _ _ _ _ _ hk5]; rfl
        have a2 : w5.cell? ⟨bx, 2, none⟩ = some (.int .i64 n) := by rw [cell_of_row _ _ _ _ _ _ hk5]; rfl
        have a3 : w5.cell? ⟨bx, 3, none⟩ = some (.slice A B.length co) := by rw [cell_of_row _ _ _ _ _ _ hk5]; rfl
        have HWR2 := Aside0.mk (HWRb.out.step hr5 hf5)
        have HBR2 := Aside0.mk (HBRb.out.trans (hf5.to_below HBRb.out.size (fun j hj => by subst hj; exact HRG.out)))
        clear hr5 hf5 hk5
        go_wp2_with fail
        go_roundw
        case rel => exact ⟨k + 1, by go_num, by omega, ⟨by rw [HL1.out]; exact HWR2.out⟩, HBR2⟩
        case measure => simp [intOf]; omega
      · have hq' : (kind : Int) % 6 = 1 := by omega
        have hw : wOp Lk ⟨kind, v, n, A, co, B⟩ = wSigned Lk v n := by unfold wOp; dsimp only; rw [hq]; rfl
        rw [hw] at hR1 HR3
        have hlaw := back_signed Lk R v n hR1
        rw [← HR3.out, ← hR2] at hlaw
        have HLAW := Aside0.mk hlaw
        clear hlaw hw hR1 hR2
        clear hq
        go_wp2_with fail
        rw [← HWB.out, ← HBX.out]
        go_wp2_with fail
        refine (RSigned_any SR r Lk.length L n wb HWRb.out.rd).mono ?_
        rw [HLAW.out]
        rintro e w5 ⟨rfl, hr5, hf5⟩
        have hk5 := blk_fr HBK.out hf5 (fun e => HRX.out e.symm)
        have a0 : w5.cell? ⟨bx, 0, none⟩ = some (Value.int .u8 (kind : Int)) := by rw [cell_of_row _ _ _ _ _ _ hk5]; rfl
        have a1 : w5.cell? ⟨bx, 1, none⟩ = some (.int .i64 v) := by rw [cell_of_row _ _ _ _ _ _ hk5]; rfl
        have a2 : w5.cell? ⟨bx, 2, none⟩ = some (.int .i64 n) := by rw [cell_of_row _ _ _ _ _ _ hk5]; rfl
        have a3 : w5.cell? ⟨bx, 3, none⟩ = some (.slice A B.length co) := by rw [cell_of_row _ _ _ _ _ _ hk5]; rfl
        have HWR2 := Aside0.mk (HWRb.out.step hr5 hf5)
        have HBR2 := Aside0.mk (HBRb.out.trans (hf5.to_below HBRb.out.size (fun j hj => by subst hj; exact HRG.out)))
        clear hr5 hf5 hk5
        go_wp2_with fail
        go_roundw
        case rel => exact ⟨k + 1, by go_num, by omega, ⟨by rw [HL1.out]; exact HWR2.out⟩, HBR2⟩
        case measure => simp [intOf]; omega
      · have hq' : (kind : Int) % 6 = 2 := by omega
        have hw : wOp Lk ⟨kind, v, n, A, co, B⟩ = wUnary Lk v := by unfold wOp; dsimp only; rw [hq]; rfl
        rw [hw] at hR1 HR3
        have hlaw := back_unary Lk R v hR1
        rw [← HR3.out, ← hR2] at hlaw
        have HLAW := Aside0.mk hlaw
        clear hlaw hw hR1 hR2
        clear hq
        go_wp2_with fail
        rw [← HWB.out, ← HBX.out]
        go_wp2_with fail
        refine (RUnary_any SR r Lk.length L 1000 wb HWRb.out.rd).mono ?_
        rw [HLAW.out]
        rintro e w5 ⟨rfl, hr5, hf5⟩
        have hk5 := blk_fr HBK.out hf5 (fun e => HRX.out e.symm)
        have a0 : w5.cell? ⟨bx, 0, none⟩ = some (Value.int .u8 (kind : Int)) := by rw [cell_of_row _ _ _ _ _ _ hk5]; rfl
        have a1 : w5.cell? ⟨bx, 1, none⟩ = some (.int .i64 v) := by rw [cell_of_row _ _ _ _ _ _ hk5]; rfl
        have a2 : w5.cell? ⟨bx, 2, none⟩ = some (.int .i64 n) := by rw [cell_of_row _ _ _ _ _ _ hk5]; rfl
        have a3 : w5.cell? ⟨bx, 3, none⟩ = some (.slice A B.length co) := by rw [cell_of_row _ _ _ _ _ _ hk5]; rfl
        have HWR2 := Aside0.mk (HWRb.out.step hr5 hf5)
        have HBR2 := Aside0.mk (HBRb.out.trans (hf5.to_below HBRb.out.size (fun j hj => by subst hj; exact HRG.out)))
        clear hr5 hf5 hk5
        go_wp2_with fail
        go_roundw
        case rel => exact ⟨k + 1, by go_num, by omega, ⟨by rw [HL1.out]; exact HWR2.out⟩, HBR2⟩
        case measure => simp [intOf]; omega
      · have hq' : (kind : Int) % 6 = 3 := by omega
        have hw : wOp Lk ⟨kind, v, n, A, co, B⟩ = wGamma Lk v := by unfold wOp; dsimp only; rw [hq]; rfl
        rw [hw] at hR1 HR3
        have hlaw := back_gamma Lk R v hR1
        rw [← HR3.out, ← hR2] at hlaw
        have HLAW := Aside0.mk hlaw
        clear hlaw hw hR1 hR2
        clear hq
        go_wp2_with fail
        rw [← HWB.out, ← HBX.out]
        go_wp2_with fail
        refine (RGamma_any SR r Lk.length L wb HWRb.out.rd).mono ?_
        rw [HLAW.out]
        rintro e w5 ⟨rfl, hr5, hf5⟩
        have hk5 := blk_fr HBK.out hf5 (fun e => HRX.out e.symm)
        have a0 : w5.cell? ⟨bx, 0, none⟩ = some (Value.int .u8 (kind : Int)) := by rw [cell_of_row _ _ _ _ _ _ hk5]; rfl
        have a1 : w5.cell? ⟨bx, 1, none⟩ = some (.int .i64 v) := by rw [cell_of_row _ _ _ _ _ _ hk5]; rfl
        have a2 : w5.cell? ⟨bx, 2, none⟩ = some (.int .i64 n) := by rw [cell_of_row _ _ _ _ _ _ hk5]; rfl
        have a3 : w5.cell? ⟨bx, 3, none⟩ = some (.slice A B.length co) := by rw [cell_of_row _ _ _ _ _ _ hk5]; rfl
        have HWR2 := Aside0.mk (HWRb.out.step hr5 hf5)
        have HBR2 := Aside0.mk (HBRb.out.trans (hf5.to_below HBRb.out.size (fun j hj => by subst hj; exact HRG.out)))
        clear hr5 hf5 hk5
        go_wp2_with fail
        go_roundw
        case rel => exact ⟨k + 1, by go_num, by omega, ⟨by rw [HL1.out]; exact HWR2.out⟩, HBR2⟩
        case measure => simp [intOf]; omega
      · have hq' : (kind : Int) % 6 = 4 := by omega
        have hw : wOp Lk ⟨kind, v, n, A, co, B⟩ = wAlign Lk v := by unfold wOp; dsimp only; rw [hq]; rfl
        rw [hw] at hR1 HR3
        have hlaw := back_align Lk R v hR1
        rw [← HR3.out, ← hR2] at hlaw
        have HLAW := Aside0.mk hlaw.1
        have hm8 : (L1.length : Int).tmod 8 = 0 := by rw [Int.tmod_eq_emod_of_nonneg (by omega)]; have := hlaw.2; omega
        have hm9 : (L1.length : Int) % 8 = 0 := by have := hlaw.2; omega
        clear hlaw hw hR1 hR2
        clear hq
        go_wp2_with fail
        rw [← HWB.out, ← HBX.out]
        go_wp2_with fail
        refine (RAlign_any SR r Lk.length L wb HWRb.out.rd).mono ?_
        rw [HLAW.out]
        rintro e w5 ⟨rfl, hr5, hf5⟩
        have HWR2 := Aside0.mk (HWRb.out.step hr5 hf5)
        have HBR2 := Aside0.mk (HBRb.out.trans (hf5.to_below HBRb.out.size (fun j hj => by subst hj; exact HRG.out)))
        clear hr5 hf5
        go_wp2_with fail
        refine (At_any SR r L1.length L w5 HWR2.out.rd).mono ?_
        rintro e w6 ⟨rfl, hw6⟩
        obtain rfl := hw6.symm
        go_wp2_with fail
        go_roundw
        case rel => exact ⟨k + 1, by go_num, by omega, ⟨by rw [HL1.out]; exact HWR2.out⟩, HBR2⟩
        case measure => simp [intOf]; omega
      · have hq' : (kind : Int) % 6 = 5 := by omega
        have hw : wOp Lk ⟨kind, v, n, A, co, B⟩ = wAppend Lk B n := by unfold wOp; dsimp only; rw [hq]; rfl
        rw [hw] at hR1 HR3
        have hlaw := back_append Lk R B n hR1
        rw [← HR3.out, ← hR2] at hlaw
        have HLAW := Aside0.mk hlaw.1
        have hn0 := hlaw.2.1
        have hn8 := hlaw.2.2
        obtain ⟨m, rfl⟩ : ∃ m : Nat, n = m := ⟨n.toNat, by omega⟩
        rw [Int.toNat_natCast] at HLAW
        have hm8 : m ≤ 8 * B.length := by omega
        clear hlaw hw hR1 hR2
        clear hq
        go_wp2_with fail
        rw [← HWB.out, ← HBX.out]
        go_wp2_with fail
        refine (Take_any SR r Lk.length L (m : Int) wb HWRb.out.rd).mono ?_
        rw [HLAW.out]
        rintro e w5 ⟨v5, S5, rfl, hr5, hs5, hrd5, hf5⟩
        dsimp only at *
        obtain ⟨A5, c5, ev, _, hC5⟩ := Kd.R_reads hr5
        subst ev
        have hk5 := blk_fr HBK.out hf5 (fun e => HRX.out e.symm)
        have a0 : w5.cell? ⟨bx, 0, none⟩ = some (Value.int .u8 (kind : Int)) := by rw [cell_of_row _ _ _ _ _ _ hk5]; rfl
        have a1 : w5.cell? ⟨bx, 1, none⟩ = some (.int .i64 v) := by rw [cell_of_row _ _ _ _ _ _ hk5]; rfl
        have a2 : w5.cell? ⟨bx, 2, none⟩ = some (.int .i64 (m : Int)) := by rw [cell_of_row _ _ _ _ _ _ hk5]; rfl
        have a3 : w5.cell? ⟨bx, 3, none⟩ = some (.slice A B.length co) := by rw [cell_of_row _ _ _ _ _ _ hk5]; rfl
        have HWR2 := Aside0.mk (HWRb.out.step hrd5 hf5)
        have HBR2 := Aside0.mk (HBRb.out.trans (hf5.to_below HBRb.out.size (fun j hj => by subst hj; exact HRG.out)))
        have HC5 := Aside0.mk hC5
        have HkC5 := Aside0.mk (C_fr HkCb.out hf5 (fun ad e hn he => by
          have h1 := HKB.out ad e hn
          have h2 := HWRb.out.rge
          omega))
        clear hr5 hs5 hrd5 hf5 hk5 hC5
        go_wp2_with fail
        refine (Of_any A B.length co m B w5 HkC5.out Hk8.out hm8 (by omega)).mono ?_
        rintro e w6 ⟨v6, S6, rfl, hr6, hs6, hb6⟩
        obtain ⟨A6, c6, ev, _, hC6⟩ := Kd.R_reads hr6
        subst ev
        rw [ofB_length] at hC6 ⊢
        have HC6 := Aside0.mk hC6
        have HC56 := Aside0.mk (Kd.C_below HC5.out hb6)
        have HWR3 := Aside0.mk (HWR2.out.below hb6)
        have HBR3 := Aside0.mk (HBR2.out.trans (hb6.mono HBR2.out.size))
        clear hr6 hs6 hb6 hC6
        go_wp2_with fail
        refine (Pack_any A6 m c6 (ofB B m) w6 HC6.out (ofB_01 _ _) (by omega)).mono ?_
        rintro e w7 ⟨v7, S7, rfl, hr7, hs7, hb7⟩
        obtain ⟨A7, c7, ev, _, hC7⟩ := Kd.R_reads hr7
        subst ev
        have HC57 := Aside0.mk (Kd.C_below HC56.out hb7)
        have HC7 := Aside0.mk hC7
        have HWR4 := Aside0.mk (HWR3.out.below hb7)
        have HBR4 := Aside0.mk (HBR3.out.trans (hb7.mono HBR3.out.size))
        have hpq : (pk (ofB B m)).length ≤ 1000000000 := by rw [pk_length, ofB_length]; omega
        clear hr7 hs7 hb7 hC7
        go_wp2_with fail
        have cc := Same_any A5 A7 (pk (ofB B m)).length (pk (ofB B m)).length c5 c7 (pk (ofB B m)) (pk (ofB B m)) w7 HC57.out HC7.out hpq hpq
        rw [decide_eq_true rfl] at cc
        refine cc.mono ?_
        clear cc
        rintro e w8 ⟨rfl, hd⟩
        have HWR5 := Aside0.mk (HWR4.out.below hd.below)
        have HBR5 := Aside0.mk (HBR4.out.trans (hd.below.mono HBR4.out.size))
        clear hd
        go_wp2_with fail
        go_roundw
        case rel => exact ⟨k + 1, by go_num, by omega, ⟨by rw [HL1.out]; exact HWR5.out⟩, HBR5⟩
        case measure => simp [intOf]; omega
    · obtain rfl : k = D.length := by omega
      have HWRL : Aside0 (WrRd w wr S SR p r L L.length) := ⟨by have := HWR.out; rwa [List.take_length, HLD.out] at this⟩
      have HBl := Aside0.mk HWR.out.bel
      clear HWR
      go_wp2_with fail
      refine (Left_any SR r L.length L wr HWRL.out.rd).mono ?_
      rintro e w5 ⟨rfl, j5, rfl⟩
      have HW5 := Aside0.mk (HWRL.out.wr.below (below_drewN (Below.refl _ _) j5))
      have HB5 : Aside0 (Below w.heap.size w (wr.drewN j5)) := ⟨HBl.out.trans (below_drewN (Below.refl _ _) j5)⟩
      generalize wr.drewN j5 = w5 at *
      go_wp2_with fail
      refine (Bytes_any S p L w5 HW5.out hLL).mono ?_
      rintro e w6 ⟨v6, S6, rfl, hr6, hs6, hb6⟩
      obtain ⟨A6, c6, ev, _, hC6⟩ := Kd.R_reads hr6
      subst ev
      have HW6 := Aside0.mk (HW5.out.below hb6)
      have HB6 := Aside0.mk (HB5.out.trans (hb6.mono HB5.out.size))
      clear hr6 hs6 hb6 hC6
      go_wp2_with fail
      refine (Len_any S p L w6 HW6.out).mono ?_
      rintro e w7 ⟨rfl, hw7⟩
      obtain rfl := hw7.symm
      have hpe := HPL.out
      have e1 : ((L.length : Int) + 7) / 8 = ((pk L).length : Int) := by omega
      have e2 : ((L.length : Int) + 7).tdiv 8 = ((pk L).length : Int) := by rw [Int.tdiv_eq_ediv_of_nonneg (by omega)]; exact e1
      clear hpe
      go_wp2_with fail
      refine (awake_any w6).mono ?_
      rintro e w8 ⟨rfl, hb⟩
      have HB8 := Aside0.mk (HB6.out.trans (hb.mono HB6.out.size))
      clear hb
      go_wp2_with fail
      go_ret
      exact ⟨rfl, HB8.out⟩
end Go.Proofs.Ytmjekkkpbcehoaa.P
