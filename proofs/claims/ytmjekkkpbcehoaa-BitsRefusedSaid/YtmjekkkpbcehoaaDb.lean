/- The walk of BitsOwn. -/
import Derived.Test.YtmjekkkpbcehoaaDa
import Derived.Test.YtmjekkkpbcehoaaBn
import Derived.Test.YtmjekkkpbcehoaaBr
namespace Go.Proofs.Ytmjekkkpbcehoaa.P
open Go.RowKit Go.Shelf Go.Proofs.Ytmjekkkpbcehoaa.Bits Go.Proofs.YtmjekkkpbcehoaaW.PrintWords Go.Proofs.YtmjekkkpbcehoaaW.PrintLast Go.Proofs.YtmjekkkpbcehoaaW.PrintMore
set_option linter.unusedVariables false
set_option linter.unusedSimpArgs false
attribute [local go_sem ↓] Go.wp_at_zero Go.wp_at_succ

theorem wput_err (L M : List Int) (h : (wput L M).1 ≠ 0) : (wput L M).2 = L := by
  unfold wput putL putE at *
  dsimp only at *
  split
  · rfl
  · rename_i q; rw [if_neg q] at h; exact (h rfl).elim
/-- A call with an error changes nothing. -/
theorem wOp_err (L : List Int) (o : OpD) (h : (wOp L o).1 ≠ 0) : (wOp L o).2 = L := by
  unfold wOp at *
  split at h
  · unfold wPut at *; split; rfl; rename_i q; rw [if_neg q] at h; exact wput_err _ _ h
  · unfold wSigned at *; split; rfl; rename_i q; rw [if_neg q] at h; exact wput_err _ _ h
  · unfold wUnary at *; split; rfl; rename_i q; rw [if_neg q] at h; exact wput_err _ _ h
  · unfold wGamma at *; split; rfl; rename_i q; rw [if_neg q] at h; exact wput_err _ _ h
  · unfold wAlign at *; split; rfl; rename_i q; rw [if_neg q] at h; exact (h rfl).elim
  · unfold wAppend at *; split; rfl; rename_i q; rw [if_neg q] at h; exact wput_err _ _ h
theorem wRun_done : ∀ (ops : List OpD) (L : List Int), wRunFrom L (wDone L ops) = wRunFrom L ops
  | [], L => rfl
  | o :: r, L => by
    rw [wDone]
    show _ = wRunFrom (wOp L o).2 r
    split
    · show wRunFrom (wOp L o).2 _ = _
      exact wRun_done r _
    · rename_i h
      have e := wOp_err L o h
      rw [e]
      exact wRun_done r L
theorem bulk_done : ∀ (ops : List OpD) (L : List Int), bulk (wDone L ops) ≤ bulk ops
  | [], L => Nat.le_refl _
  | o :: r, L => by
    have ih := bulk_done r (wOp L o).2
    rw [wDone]
    unfold bulk at *
    split
    · simp only [List.map_cons, List.sum_cons]; omega
    · simp only [List.map_cons, List.sum_cons]; omega
theorem few_done (ops : List OpD) (L : List Int) (h : fewB ops = true) : fewB (wDone L ops) = true := by
  unfold fewB at *
  rw [Bool.and_eq_true, decide_eq_true_eq, decide_eq_true_eq] at *
  have := bulk_done ops L
  have := wDone_le ops L
  omega
/-- What is known of a row of bytes of one's own that was made from z on. -/
abbrev T8 (z : Nat) (w : World) : Nat → Prop := fun k => z ≤ k ∧ k < w.heap.size
theorem RB_tight {S : Nat → Prop} {w : World} {v : Value} {B : List Int} {z : Nat} (h : RB S w v B) (hs : ∀ k, S k → z ≤ k) : RB (T8 z w) w v B :=
  Kd.R_mono (Kd.R_bound h) (fun k hk => ⟨hs k hk.1, hk.2.2.1⟩)
theorem again_run (W : World) (A : Option Addr) (m c : Nat) (B : List Int) (hC : Kd.C (Kd.int .u8) W A m B) (hl : m ≤ 140737488355328) :
    ∃ A1 c1 w1, (Builtin.append_ #[22, 22] 22 #[.slice (some ⟨W.heap.size, 0, none⟩) 0 0, .slice A m c]).run Try.prog (W.alloc noBytes) = .ok (.slice A1 m c1) w1 ∧ RB (T8 W.heap.size w1) w1 (.slice A1 m c1) B ∧ B.length = m ∧ m ≤ c1 ∧ Below W.heap.size W w1 := by
  obtain ⟨v1, w1, hrun, hr1, hg1⟩ := append_run (S := fun k => k = W.heap.size) (W.alloc noBytes) (.slice (some ⟨W.heap.size, 0, none⟩) 0 0) [] B A m c (empty_R W) (Kd.C_alloc hC _) (by simp; omega)
  rw [List.nil_append] at hr1
  have hm := C_len8 hC
  obtain ⟨A1, c1, ev, hcap, hC1⟩ := Kd.R_reads hr1
  subst ev
  rw [hm] at *
  refine ⟨A1, c1, w1, hrun, RB_tight hr1 (fun k hk => by rcases hk with rfl | rfl <;> simp), rfl, hcap, ?_⟩
  exact (below_alloc (Below.refl _ _) _).grown hg1 (by simp) (fun k hk => by
    have : W.heap.size = k := by simpa [Value.ownBlock] using hk
    omega)

set_option maxHeartbeats 8000000 in
set_option maxRecDepth 100000 in
theorem BitsOwn_any (X : Option Addr) (c : Nat) (ops : List OpD) (A : Option Addr) (cb : Nat) (B : List Int) (n : Nat) (w : World) (h : OpsAt w X ops) (hl : ops.length ≤ 9000000000000000000) (hC : Kd.C (Kd.int .u8) w A B.length B) (h8 : is8 B) (hcb : B.length ≤ cb) (hn : n < 65536) :
    Calls Try.prog 6 #[.slice X ops.length c, .slice A B.length cb, .int .u16 n] w fun e w' => e = .returned (.bool true) ∧ Below w.heap.size w w' := by
  have HO := Aside0.mk h
  have HC := Aside0.mk hC
  have H8 := Aside0.mk h8
  have hfew := few_any X c ops w h hl
  clear h hC h8
  cases hf : fewB ops with
  | false =>
    rw [hf] at hfew
    have HF := Aside0.mk hfew
    clear hfew hf
    go_enter Try.func6, Try.ntmps6
    go_wp2_with fail
    refine HF.out.mono ?_
    rintro e w1 ⟨rfl, hb⟩
    have HB1 := Aside0.mk hb
    clear hb
    go_wp2_with fail
    refine (awake_any w1).mono ?_
    rintro e w2 ⟨rfl, hb⟩
    have HB2 := Aside0.mk (HB1.out.trans (hb.mono HB1.out.size))
    clear hb
    go_wp2_with fail
    go_ret
    exact ⟨rfl, HB2.out⟩
  | true =>
  rw [hf] at hfew
  have HF := Aside0.mk hfew
  have HFE := Aside0.mk hf
  clear hfew hf
  by_cases hbl : 8000 < B.length
  · have d1 : decide ((8000 : Int) < (B.length : Int)) = true := by simp; omega
    go_enter Try.func6, Try.ntmps6
    go_wp2_with fail
    refine HF.out.mono ?_
    rintro e w1 ⟨rfl, hb⟩
    have HB1 := Aside0.mk hb
    clear hb
    go_wp2_with fail
    refine (awake_any w1).mono ?_
    rintro e w2 ⟨rfl, hb⟩
    have HB2 := Aside0.mk (HB1.out.trans (hb.mono HB1.out.size))
    clear hb
    go_wp2_with fail
    go_ret
    exact ⟨rfl, HB2.out⟩
  have d1 : decide ((8000 : Int) < (B.length : Int)) = false := by simp; omega
  have hbl2 : B.length ≤ 8000 := by omega
  have HLR := Aside0.mk (wRun_len ops ops.length)
  rw [List.take_length] at HLR
  have HRD := Aside0.mk (show wRun (wDone [] ops) = wRun ops from wRun_done ops [])
  have HFD := Aside0.mk (few_done ops [] HFE.out)
  have HMEM := Aside0.mk (fun o (ho : o ∈ wDone [] ops) => HO.out.ok o (wDone_mem ops [] o ho))
  clear hbl
  go_enter Try.func6, Try.ntmps6
  go_wp2_with fail
  refine HF.out.mono ?_
  rintro e w0 ⟨rfl, hb⟩
  have HB0 := Aside0.mk hb
  have HO0 := Aside0.mk (HO.out.below hb)
  clear hb
  go_wp2_with fail
  refine (written_any X c ops w0 HO0.out HFE.out).mono ?_
  rintro e w1 ⟨p, S, v, rfl, hW, hS, hp, hOut, hb⟩
  have HB1 := Aside0.mk (HB0.out.trans (hb.mono HB0.out.size))
  have hlD := HFD.out
  have HMEM1 := Aside0.mk (fun o ho => (HMEM.out o ho).below HB1.out)
  obtain ⟨XD, cD, ev, hOD⟩ := hOut.ops HMEM1.out
  subst ev
  generalize hDD : wDone [] ops = D at *
  generalize hLL : wRun ops = L at *
  have HW1 := Aside0.mk hW
  have HOD := Aside0.mk hOD
  have hpl : (pk L).length ≤ 131072 := by rw [pk_length]; have := HLR.out; omega
  clear hW hS hp hOut hb hOD hDD hLL hlD HMEM HMEM1
  go_wp2_with fail
  refine (Bytes_any S p L w1 HW1.out HLR.out).mono ?_
  rintro e w2 ⟨v2, S2, rfl, hr2, hs2, hb2⟩
  obtain ⟨A2, c2, ev, _, hC2⟩ := Kd.R_reads hr2
  subst ev
  have HR2 := Aside0.mk (RB_tight hr2 hs2)
  have HB2 := Aside0.mk hb2
  obtain ⟨A3, c3, w3, hrun3, hr3, hl3, _, hb3⟩ := again_run w2 A2 (pk L).length c2 (pk L) hC2 (by omega)
  have HRUN3 := Aside0.mk hrun3
  have HR3 := Aside0.mk hr3
  have HB3 := Aside0.mk hb3
  have HR2' : Aside0 (RB (T8 w1.heap.size w2) w3 (.slice A2 (pk L).length c2) (pk L)) := ⟨R_fr HR2.out (Fr.below hb3 (fun _ => False)) (fun _ _ _ h => h)⟩
  clear hr2 hs2 hb2 hC2 hrun3 hr3 hl3 hb3
  generalize hM : (pk L).length = m at *
  go_wp2_with (at_builtin; refine wpList_run_append rfl _ _ _ rfl _ _ rfl rfl HRUN3.out ?_)
  clear HRUN3
  go_loopw [46] (fun i wr => ∃ (k : Nat) (B' : List Int), i = .int .i64 (k : Int) ∧ k ≤ m ∧ Aside0 (RB ((T8 w1.heap.size w2)) wr (.slice A2 m c2) B') ∧ Aside0 (B'.length = m) ∧ Aside0 (Fr ((T8 w1.heap.size w2)) w3 wr)) (fun i _ => m - (intOf i).toNat)
  case atStart => exact ⟨0, _, rfl, Nat.zero_le _, ⟨HR2'.out⟩, ⟨hM⟩, ⟨Fr.refl _ _⟩⟩
  case round =>
    obtain ⟨k, B', rfl, hk, HR, HL, HFr⟩ := hrel
    by_cases hlt : k < m
    · obtain ⟨g, c', ev, hg⟩ := own_addr HR.out (by rw [HL.out]; omega)
      rw [HL.out] at ev
      injection ev with ev1 ev2 ev3
      subst ev1
      clear ev2 ev3
      have HG := Aside0.mk hg
      obtain ⟨hc1, hc2⟩ := Kd.R_celln 0 HR.out (k : Int) (by omega) (by omega)
      rw [Int.toNat_natCast] at hc1 hc2
      generalize rdOf 0 B' (k : Int) = xx at hc1
      go_wp2_with fail
      go_roundw
      case rel =>
        have hr := Kd.R_putn HR.out (k : Int) (85 : Int)
        rw [Int.toNat_natCast] at hr
        exact ⟨k + 1, B'.set k 85, by go_num, by omega, ⟨hr⟩, ⟨by rw [List.length_set]; exact HL.out⟩, ⟨HFr.out.setCell (p := ⟨g, k, none⟩) (fun _ => HG.out) _⟩⟩
      case measure => simp [intOf]; omega
    · obtain rfl : k = m := by omega
      clear HR HL hk hlt
      have hb4 : Below w1.heap.size w1 wr := (HB2.out.trans (HB3.out.mono HB2.out.size)).trans (HFr.out.to_below (Nat.le_trans HB2.out.size HB3.out.size) (fun j hj => hj.1))
      have hR4 : RB (T8 w2.heap.size w3) wr (.slice A3 k c3) (pk L) := R_fr HR3.out HFr.out (fun j hj _ hk => by have := hj.1; have := hk.2; omega)
      have hC4 := (Kd.R_reads' hR4).2.2
      rw [hM] at hC4
      have HC4 := Aside0.mk hC4
      have HW4 := Aside0.mk (HW1.out.below hb4)
      have HOD4 := Aside0.mk (HOD.out.below hb4)
      have HB4 := Aside0.mk (HB1.out.trans (hb4.mono HB1.out.size))
      clear hb4 hR4 hC4 HR2 HR2' HB2 HB3 HR3 HFr HW1 HOD
      go_wp2_with fail
      refine (Bytes_any S p L wr HW4.out HLR.out).mono ?_
      rintro e w5 ⟨v5, S5, rfl, hr5, hs5, hb5⟩
      obtain ⟨A5, c5, ev, _, hC5⟩ := Kd.R_reads hr5
      subst ev
      rw [hM] at hC5 ⊢
      have HC5 := Aside0.mk hC5
      have HC45 := Aside0.mk (Kd.C_below HC4.out hb5)
      have HOD5 := Aside0.mk (HOD4.out.below hb5)
      have HB5 := Aside0.mk (HB4.out.trans (hb5.mono HB4.out.size))
      clear hr5 hs5 hb5 hC5
      go_wp2_with fail
      have cc := Same_any A5 A3 k k c5 c3 (pk L) (pk L) w5 HC5.out HC45.out (by omega) (by omega)
      rw [decide_eq_true rfl] at cc
      refine cc.mono ?_
      clear cc
      rintro e w6 ⟨rfl, hd⟩
      have HC6 := Aside0.mk (Kd.C_below HC45.out hd.below)
      have HOD6 := Aside0.mk (HOD5.out.below hd.below)
      have HB6 := Aside0.mk (HB5.out.trans (hd.below.mono HB5.out.size))
      clear hd
      go_wp2_with fail
      refine (written_any XD cD D w6 HOD6.out HFD.out).mono ?_
      rintro e w7 ⟨p7, S7, v7, rfl, hW, _, _, _, hb⟩
      have HB7 := Aside0.mk (HB6.out.trans (hb.mono HB6.out.size))
      have HC7 := Aside0.mk (Kd.C_below HC6.out hb)
      rw [HRD.out] at hW
      have HW7 := Aside0.mk hW
      clear hb hW
      go_wp2_with fail
      refine (Bytes_any S7 p7 L w7 HW7.out HLR.out).mono ?_
      rintro e w8 ⟨v8, S8, rfl, hr8, hs8, hb8⟩
      obtain ⟨A8, c8, ev, _, hC8⟩ := Kd.R_reads hr8
      subst ev
      rw [hM] at hC8 ⊢
      have HC8 := Aside0.mk hC8
      have HC78 := Aside0.mk (Kd.C_below HC7.out hb8)
      have HB8 := Aside0.mk (HB7.out.trans (hb8.mono HB7.out.size))
      clear hr8 hs8 hb8 hC8
      go_wp2_with fail
      have cc := Same_any A8 A3 k k c8 c3 (pk L) (pk L) w8 HC8.out HC78.out (by omega) (by omega)
      rw [decide_eq_true rfl] at cc
      refine cc.mono ?_
      clear cc
      rintro e w9 ⟨rfl, hd⟩
      have HB9 := Aside0.mk (HB8.out.trans (hd.below.mono HB8.out.size))
      clear hd HC4 HC45 HC6 HC7 HC78 HC8 HC5 HW4 HW7 HOD4 HOD5 HOD6 HB8 HB7 HB6 HB5 HB4 HB1 HB0
      obtain ⟨A10, c10, w10, hrun10, hr10, _, hcap10, hb10⟩ := again_run w9 A B.length cb B (Kd.C_below HC.out HB9.out) (by omega)
      have HRUN10 := Aside0.mk hrun10
      have HR10 := Aside0.mk hr10
      have HB10 := Aside0.mk (HB9.out.trans (hb10.mono HB9.out.size))
      have HC10 := Aside0.mk (Kd.R_reads' hr10).2.2
      have hw8 : IntKind.i64.wrap (8 * (B.length : Int)) = 8 * (B.length : Int) := IntWalk.i64_in _ (by omega)
      have hop := Open_any A10 c10 B (8 * (B.length : Int)) w10 HC10.out H8.out (by omega) hcap10
      have hoe : openE B (8 * (B.length : Int)) = 0 := by unfold openE; rw [if_neg (by omega), if_neg (by omega)]
      unfold OpenPost at hop
      simp only [hoe, if_true, show (8 * (B.length : Int)).toNat = 8 * B.length by omega] at hop
      have HOP := Aside0.mk hop
      clear hrun10 hr10 hb10 hop hoe hcap10
      go_wp2_with (at_builtin; refine wpList_run_append rfl _ _ _ rfl _ _ rfl rfl HRUN10.out ?_)
      refine HOP.out.mono ?_
      rintro e w11 ⟨p11, S11, rfl, hRd, hp11, hS11, hb11⟩
      obtain ⟨k2, hk2⟩ : ∃ k2, k2 = n % (8 * B.length + 1) := ⟨_, rfl⟩
      have hk2l : k2 ≤ 8 * B.length := by have := Nat.mod_lt n (show 8 * B.length + 1 > 0 by omega); omega
      have hrem : (n : Int) % (8 * (B.length : Int) + 1) = (k2 : Int) := by rw [hk2]; push_cast; rfl
      have hL3 := ofB_length B (8 * B.length)
      have hT3 := Aside0.mk (ofB_take B k2 (8 * B.length) hk2l)
      have h301 := ofB_01 B k2
      have H301 := Aside0.mk h301
      generalize ofB B (8 * B.length) = L3 at *
      have HB11 := Aside0.mk (HB10.out.trans (hb11.mono HB10.out.size))
      have HRd := Aside0.mk hRd
      have HP11 := Aside0.mk hp11
      have HS11 := Aside0.mk hS11
      have HR11 := Aside0.mk (R_fr HR10.out (Fr.below hb11 (fun _ => False)) (fun _ _ _ h => h))
      have hrt : rTake L3 0 (k2 : Int) = (L3.take k2, 0, k2) := by
        unfold rTake
        rw [if_neg (by omega), if_neg (by omega), List.drop_zero, Int.toNat_natCast, Nat.zero_add]
      have hrt0 : rSeek L3 k2 0 = (0, 0) := by
        unfold rSeek
        rw [if_neg (by omega)]
        rfl
      rw [hT3.out] at hrt
      have HRT := Aside0.mk hrt
      have HRT0 := Aside0.mk hrt0
      clear hRd hp11 hS11 hb11 HR10 hk2 hT3 hrt hrt0 h301 HOP HRUN10 HC10
      go_wp2_with fail
      refine (Take_any S11 p11 0 L3 (k2 : Int) w11 HRd.out).mono ?_
      rw [HRT.out]
      rintro e w12 ⟨v12, S12, rfl, hr12, hs12, hRd12, hf12⟩
      dsimp only at *
      obtain ⟨A12, c12, ev, _, hC12⟩ := Kd.R_reads hr12
      subst ev
      have HR12 := Aside0.mk (RB_tight hr12 (fun k hk => (hs12 k hk).1))
      have HRd12 := Aside0.mk hRd12
      have HB12 := Aside0.mk (HB11.out.trans (hf12.to_below HB11.out.size (fun j hj => by subst hj; exact Nat.le_trans HB10.out.size HP11.out)))
      have HRo12 := Aside0.mk (R_fr HR11.out hf12 (fun j hj _ he => by have := hj.2; have := HP11.out; omega))
      have HLT : Aside0 (p11 < w11.heap.size ∧ ∀ j, S11 j → j < w11.heap.size) := ⟨HRd.out.p_lt, HRd.out.lt⟩
      have hsz12 := hf12.size
      have hml : (pk (ofB B k2)).length ≤ 100000 := by rw [pk_length, ofB_length]; omega
      clear hr12 hs12 hRd12 hf12 HR11 HRd hC12
      generalize hM2 : (pk (ofB B k2)).length = m2 at *
      go_wp2_with fail
      go_loopw [97] (fun i wr => ∃ (k : Nat) (B' : List Int), i = .int .i64 (k : Int) ∧ k ≤ m2 ∧ Aside0 (RB (T8 w11.heap.size w12) wr (.slice A12 m2 c12) B') ∧ Aside0 (B'.length = m2) ∧ Aside0 (Fr (T8 w11.heap.size w12) w12 wr)) (fun i _ => m2 - (intOf i).toNat)
      case atStart => exact ⟨0, _, rfl, Nat.zero_le _, ⟨HR12.out⟩, ⟨hM2⟩, ⟨Fr.refl _ _⟩⟩
      case round =>
        obtain ⟨k, B', rfl, hk, HR, HL, HFr⟩ := hrel
        by_cases hlt : k < m2
        · obtain ⟨g, c', ev, hg⟩ := own_addr HR.out (by rw [HL.out]; omega)
          rw [HL.out] at ev
          injection ev with ev1 ev2 ev3
          subst ev1
          clear ev2 ev3
          have HG := Aside0.mk hg
          obtain ⟨hc1, hc2⟩ := Kd.R_celln 0 HR.out (k : Int) (by omega) (by omega)
          rw [Int.toNat_natCast] at hc1 hc2
          generalize rdOf 0 B' (k : Int) = xx at hc1
          go_wp2_with fail
          go_roundw
          case rel =>
            have hr := Kd.R_putn HR.out (k : Int) (170 : Int)
            rw [Int.toNat_natCast] at hr
            exact ⟨k + 1, B'.set k 170, by go_num, by omega, ⟨hr⟩, ⟨by rw [List.length_set]; exact HL.out⟩, ⟨HFr.out.setCell (p := ⟨g, k, none⟩) (fun _ => HG.out) _⟩⟩
          case measure => simp [intOf]; omega
        · obtain rfl : k = m2 := by omega
          clear HR HL hk hlt
          have HRdA := Aside0.mk (HRd12.out.fr HFr.out (fun h => by have := h.1; have := HLT.out.1; omega) (fun j hj h => by have := h.1; have := HLT.out.2 j hj; omega))
          have HBA := Aside0.mk (HB12.out.trans (HFr.out.to_below HB12.out.size (fun j hj => Nat.le_trans HB11.out.size hj.1)))
          have HRoA := Aside0.mk (R_fr HRo12.out HFr.out (fun j hj _ hk => by have := hj.2; have := hk.1; have := HLT.out.1; have := HP11.out; omega))
          clear HRd12 HRo12 HFr HR12
          generalize wr = wA at *
          have hBl : B.length = B.length := rfl
          go_wp2_with fail
          go_loopw [106] (fun i wr => ∃ (k : Nat) (B' : List Int), i = .int .i64 (k : Int) ∧ k ≤ B.length ∧ Aside0 (RB (T8 w9.heap.size w10) wr (.slice A10 B.length c10) B') ∧ Aside0 (B'.length = B.length) ∧ Aside0 (Fr (T8 w9.heap.size w10) wA wr)) (fun i _ => B.length - (intOf i).toNat)
          case atStart => exact ⟨0, _, rfl, Nat.zero_le _, ⟨HRoA.out⟩, ⟨rfl⟩, ⟨Fr.refl _ _⟩⟩
          case round =>
            obtain ⟨k, B', rfl, hk, HR, HL, HFr⟩ := hrel
            by_cases hlt : k < B.length
            · obtain ⟨g, c', ev, hg⟩ := own_addr HR.out (by rw [HL.out]; omega)
              rw [HL.out] at ev
              injection ev with ev1 ev2 ev3
              subst ev1
              clear ev2 ev3
              have HG := Aside0.mk hg
              obtain ⟨hc1, hc2⟩ := Kd.R_celln 0 HR.out (k : Int) (by omega) (by omega)
              rw [Int.toNat_natCast] at hc1 hc2
              generalize rdOf 0 B' (k : Int) = xx at hc1
              go_wp2_with fail
              go_roundw
              case rel =>
                have hr := Kd.R_putn HR.out (k : Int) (51 : Int)
                rw [Int.toNat_natCast] at hr
                exact ⟨k + 1, B'.set k 51, by go_num, by omega, ⟨hr⟩, ⟨by rw [List.length_set]; exact HL.out⟩, ⟨HFr.out.setCell (p := ⟨g, k, none⟩) (fun _ => HG.out) _⟩⟩
              case measure => simp [intOf]; omega
            · obtain rfl : k = B.length := by omega
              clear HR HL hk hlt
              have HRdB := Aside0.mk (HRdA.out.fr HFr.out (fun h => by have := h.2; have := HP11.out; omega) (fun j hj h => by have := h.2; have := HS11.out j hj; omega))
              have HBB := Aside0.mk (HBA.out.trans (HFr.out.to_below HBA.out.size (fun j hj => Nat.le_trans HB9.out.size hj.1)))
              clear HRdA HRoA HFr HBA
              go_wp2_with fail
              refine (Seek_any S11 p11 k2 L3 0 wr HRdB.out).mono ?_
              rw [HRT0.out]
              rintro e w13 ⟨rfl, hRd13, hf13⟩
              dsimp only at *
              have HRd13 := Aside0.mk hRd13
              have HB13 := Aside0.mk (HBB.out.trans (hf13.to_below HBB.out.size (fun j hj => by subst hj; exact Nat.le_trans HB10.out.size HP11.out)))
              clear hRd13 hf13 HRdB
              go_wp2_with fail
              refine (Take_any S11 p11 0 L3 (k2 : Int) w13 HRd13.out).mono ?_
              rw [HRT.out]
              rintro e w14 ⟨v14, S14, rfl, hr14, hs14, _, hf14⟩
              dsimp only at *
              obtain ⟨A14, c14, ev, _, hC14⟩ := Kd.R_reads hr14
              subst ev
              have HB14 := Aside0.mk (HB13.out.trans (hf14.to_below HB13.out.size (fun j hj => by subst hj; exact Nat.le_trans HB10.out.size HP11.out)))
              have HC14 := Aside0.mk hC14
              clear hr14 hs14 hf14 hC14
              go_wp2_with fail
              refine (Of_any A B.length cb k2 B w14 (Kd.C_below HC.out HB14.out) H8.out hk2l (by omega)).mono ?_
              rintro e w15 ⟨v15, S15, rfl, hr15, hs15, hb15⟩
              obtain ⟨A15, c15, ev, _, hC15⟩ := Kd.R_reads hr15
              subst ev
              rw [ofB_length] at hC15 ⊢
              have HB15 := Aside0.mk (HB14.out.trans (hb15.mono HB14.out.size))
              have HC15 := Aside0.mk hC15
              have HC145 := Aside0.mk (Kd.C_below HC14.out hb15)
              clear hr15 hs15 hb15 hC15
              go_wp2_with fail
              refine (Pack_any A15 k2 c15 (ofB B k2) w15 HC15.out H301.out (by omega)).mono ?_
              rintro e w16 ⟨v16, S16, rfl, hr16, hs16, hb16⟩
              obtain ⟨A16, c16, ev, _, hC16⟩ := Kd.R_reads hr16
              subst ev
              have HB16 := Aside0.mk (HB15.out.trans (hb16.mono HB15.out.size))
              have HC146 := Aside0.mk (Kd.C_below HC145.out hb16)
              have HC16 := Aside0.mk hC16
              clear hr16 hs16 hb16 hC16
              go_wp2_with fail
              have cc := Same_any A14 A16 _ _ c14 c16 (pk (ofB B k2)) (pk (ofB B k2)) w16 HC146.out HC16.out (by omega) (by omega)
              rw [decide_eq_true rfl, hM2] at cc
              refine cc.mono ?_
              clear cc
              rintro e w17 ⟨rfl, hd⟩
              have HB17 := Aside0.mk (HB16.out.trans (hd.below.mono HB16.out.size))
              clear hd
              go_wp2_with fail
              refine (awake_any w17).mono ?_
              rintro e w18 ⟨rfl, hb⟩
              have HB18 := Aside0.mk (HB17.out.trans (hb.mono HB17.out.size))
              clear hb
              go_wp2_with fail
              go_ret
              exact ⟨rfl, HB18.out⟩
end Go.Proofs.Ytmjekkkpbcehoaa.P
