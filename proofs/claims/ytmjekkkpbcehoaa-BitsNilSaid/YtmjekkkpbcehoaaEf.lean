/- The walk of BitsReads. -/
import Derived.Test.YtmjekkkpbcehoaaEe
import Derived.Test.YtmjekkkpbcehoaaBr
namespace Go.Proofs.Ytmjekkkpbcehoaa.P
open Go.RowKit Go.Shelf Go.Proofs.Ytmjekkkpbcehoaa.Bits Go.Proofs.YtmjekkkpbcehoaaW.PrintWords Go.Proofs.YtmjekkkpbcehoaaW.PrintLast Go.Proofs.YtmjekkkpbcehoaaW.PrintMore
set_option linter.unusedVariables false
set_option linter.unusedSimpArgs false
attribute [local go_sem ↓] Go.wp_at_zero Go.wp_at_succ

theorem rOp_len (L : List Int) (a : Nat) (o : OpD) : (rOp L a o).2.1.length ≤ L.length := by
  unfold rOp
  split
  · exact Nat.zero_le _
  · exact Nat.zero_le _
  · exact Nat.zero_le _
  · exact Nat.zero_le _
  · exact Nat.zero_le _
  · unfold rTake
    split
    · exact Nat.zero_le _
    · split
      · exact Nat.zero_le _
      · dsimp only
        rw [List.length_take, List.length_drop]; omega
  · exact Nat.zero_le _
theorem read_as (S : Nat → Prop) (p a : Nat) (L : List Int) (o : OpD) (w : World) (hR : Rd w S p L a) (hk : o.kind < 256) (hv : -9223372036854775808 ≤ o.v ∧ o.v ≤ 9223372036854775807) (hn : -9223372036854775808 ≤ o.n ∧ o.n ≤ 9223372036854775807)
    (x er : Int) (M : List Int) (b : Nat) (e : rOp L a o = (x, M, er, b)) :
    Calls Try.prog 34 #[.pointer (some ⟨p, 0, none⟩), o.val] w fun e w' => ∃ A1 c1, e = .returned (.agg #[.int .i64 x, .slice A1 (pk M).length c1, .int .i64 er, .int .i64 (b : Int), .int .i64 ((L.length : Int) - (b : Int))]) ∧ Kd.C (Kd.int .u8) w' A1 (pk M).length (pk M) ∧ (∀ ad, A1 = some ad → 0 < (pk M).length → w.heap.size ≤ ad.block) ∧ Rd w' S p L b ∧ Fr (fun k => k = p) w w' := by
  refine (read_any S p a L o w hR hk hv hn).mono ?_
  rw [e]
  rintro e w' ⟨v, S', rfl, hr, hs, hrd, hf⟩
  obtain ⟨A1, c1, ev, _, hC⟩ := Kd.R_reads hr
  subst ev
  refine ⟨A1, c1, rfl, hC, fun ad e hn => ?_, hrd, hf⟩
  obtain ⟨g, c', ev, hg⟩ := own_addr hr hn
  injection ev with ev1 _ _
  rw [e] at ev1
  injection ev1 with ev1
  subst ev1
  exact hs _ hg
theorem ask_as (S : Nat → Prop) (p a : Nat) (L : List Int) (o : OpD) (w : World) (hR : RRd w S p L a) (hk : o.kind < 256) (hv : -9223372036854775808 ≤ o.v ∧ o.v ≤ 9223372036854775807) (hn : -9223372036854775808 ≤ o.n ∧ o.n ≤ 9223372036854775807)
    (x er : Int) (M : List Int) (b : Nat) (e : rOp L a o = (x, M, er, b)) :
    Calls Try.prog 35 #[.pointer (some ⟨p, 0, none⟩), o.val] w fun e w' => ∃ A1 c1, e = .returned (.agg #[.int .i64 x, .slice A1 (pk M).length c1, .int .i64 er, .int .i64 (b : Int), .int .i64 ((L.length : Int) - (b : Int))]) ∧ Kd.C (Kd.int .u8) w' A1 (pk M).length (pk M) ∧ RRd w' S p L b ∧ Fr (fun k => k = p) w w' := by
  refine (asked_any S p a L o w hR hk hv hn).mono ?_
  rw [e]
  rintro e w' ⟨v, S', rfl, hr, hs, hrd, hf⟩
  obtain ⟨A1, c1, ev, _, hC⟩ := Kd.R_reads hr
  subst ev
  exact ⟨A1, c1, rfl, hC, hrd, hf⟩
/-- Two readers, the program's and the reference's, of the same bits, at the same place. -/
structure Both (w0 w : World) (S S2 : Nat → Prop) (p r : Nat) (L : List Int) (a : Nat) : Prop where
  own : Rd w S p L a
  ref : RRd w S2 r L a
  pge : w0.heap.size ≤ p
  rge : w0.heap.size ≤ r
  bel : Below w0.heap.size w0 w
theorem Both.ne {w0 w : World} {S S2 : Nat → Prop} {p r : Nat} {L : List Int} {a : Nat} (h : Both w0 w S S2 p r L a) : p ≠ r ∧ ¬ S r ∧ ¬ S2 p := by
  obtain ⟨v, B, hb, _⟩ := h.own.blk
  obtain ⟨v', hb', _⟩ := h.ref.blk
  refine ⟨blk_ne hb hb' (by decide), fun hs => ?_, fun hs => ?_⟩
  · obtain ⟨cells, hc⟩ := h.own.typed r hs
    exact blk_ne hb' hc (by decide) rfl
  · obtain ⟨cells, hc⟩ := h.ref.typed p hs
    exact blk_ne hb hc (by decide) rfl
theorem Both.below {w0 w w' : World} {S S2 : Nat → Prop} {p r : Nat} {L : List Int} {a : Nat} (h : Both w0 w S S2 p r L a) (hb : Below w.heap.size w w') : Both w0 w' S S2 p r L a :=
  ⟨h.own.below hb, h.ref.below hb, h.pge, h.rge, h.bel.trans (hb.mono h.bel.size)⟩

set_option maxHeartbeats 8000000 in
set_option maxRecDepth 100000 in
theorem BitsReads_any (A : Option Addr) (cb : Nat) (B : List Int) (n : Int) (X : Option Addr) (c : Nat) (ops : List OpD) (w : World) (hC : Kd.C (Kd.int .u8) w A B.length B) (h8 : is8 B) (hcb : B.length ≤ cb) (hnn : -9223372036854775808 ≤ n ∧ n ≤ 9223372036854775807) (h : OpsAt w X ops) (hl : ops.length ≤ 9000000000000000000) :
    Calls Try.prog 7 #[.slice A B.length cb, .int .i64 n, .slice X ops.length c] w fun e w' => e = .returned (.bool true) ∧ Below w.heap.size w w' := by
  have HO := Aside0.mk h
  have HC := Aside0.mk hC
  have H8 := Aside0.mk h8
  have hfew := few_any X c ops w h hl
  clear h hC h8
  by_cases hbl : 140000 < B.length
  · have d1 : decide ((140000 : Int) < (B.length : Int)) = true := by simp; omega
    clear hfew
    go_enter Try.func7, Try.ntmps7
    go_wp2_with fail
    refine (awake_any w).mono ?_
    rintro e w2 ⟨rfl, hb⟩
    go_wp2_with fail
    go_ret
    exact ⟨rfl, hb⟩
  have d1 : decide ((140000 : Int) < (B.length : Int)) = false := by simp; omega
  have hbl2 : B.length ≤ 140000 := by omega
  clear hbl
  cases hf : fewB ops with
  | false =>
    rw [hf] at hfew
    have HF := Aside0.mk hfew
    clear hfew hf
    go_enter Try.func7, Try.ntmps7
    go_wp2_with fail
    refine HF.out.mono ?_
    rintro e w1 ⟨rfl, hb⟩
    have HB1 := Aside0.mk hb
    clear hb
    go_wp2_with fail
    refine (awake_any w1).mono ?_
    rintro e w2 ⟨rfl, hb⟩
    have HB2 := Aside0.mk (HB1.out.trans (hb.mono HB1.out.size))
    clear hb
    go_wp2_with fail
    go_ret
    exact ⟨rfl, HB2.out⟩
  | true =>
  rw [hf] at hfew
  have HF := Aside0.mk hfew
  clear hfew hf
  have hop := fun W h => Open_any A cb B n W h H8.out (by omega) hcb
  have hrop := fun W h => RefOpen_any A cb B n W h H8.out (by omega)
  by_cases hoe : openE B n = 0
  · have hop1 : ∀ W, Kd.C (Kd.int .u8) W A B.length B → Calls Try.prog 27 #[.slice A B.length cb, .int .i64 n] W fun e w' => ∃ p S, e = .returned (.tuple #[.pointer (some ⟨p, 0, none⟩), .int .i64 0]) ∧ Rd w' S p (ofB B n.toNat) 0 ∧ W.heap.size ≤ p ∧ (∀ k, S k → W.heap.size ≤ k) ∧ Below W.heap.size W w' := fun W h => (hop W h).mono fun e w' q => by unfold OpenPost at q; rwa [if_pos hoe] at q
    have hrop1 : ∀ W, Kd.C (Kd.int .u8) W A B.length B → Calls Try.prog 32 #[.slice A B.length cb, .int .i64 n] W fun e w' => ∃ p S, e = .returned (.tuple #[.pointer (some ⟨p, 0, none⟩), .int .i64 0]) ∧ RRd w' S p (ofB B n.toNat) 0 ∧ W.heap.size ≤ p ∧ (∀ k, S k → W.heap.size ≤ k) ∧ Below W.heap.size W w' := fun W h => (hrop W h).mono fun e w' q => by unfold ROpenPost at q; rwa [if_pos hoe] at q
    have HOP := Aside0.mk hop1
    have HROP := Aside0.mk hrop1
    generalize ofB B n.toNat = L at *
    clear hop hrop hop1 hrop1 hoe
    go_enter Try.func7, Try.ntmps7
    go_wp2_with fail
    refine HF.out.mono ?_
    rintro e w1 ⟨rfl, hb⟩
    have HB1 := Aside0.mk hb
    clear hb
    go_wp2_with fail
    refine (HOP.out w1 (Kd.C_below HC.out HB1.out)).mono ?_
    rintro e w2 ⟨p, S, rfl, hRd, hp, hS, hb⟩
    have HB2 := Aside0.mk (HB1.out.trans (hb.mono HB1.out.size))
    have HRd := Aside0.mk hRd
    have HP : Aside0 (w.heap.size ≤ p) := ⟨Nat.le_trans HB1.out.size hp⟩
    clear hb hRd hp hS
    go_wp2_with fail
    refine (HROP.out w2 (Kd.C_below HC.out HB2.out)).mono ?_
    rintro e w3 ⟨r, S2, rfl, hRRd, hr, hS2, hb⟩
    have HB3 := HB2.out.trans (hb.mono HB2.out.size)
    have HBO0 : Aside0 (Both w w3 S S2 p r L 0) := ⟨⟨HRd.out.below hb, hRRd, HP.out, Nat.le_trans HB2.out.size hr, HB3⟩⟩
    clear hb hRRd hr hS2 HB3 HRd HB2 HB1 HP
    go_wp2_with fail
    go_loopw [53] (fun i wr => ∃ k a : Nat, i = .int .i64 (k : Int) ∧ k ≤ ops.length ∧ Aside0 (Both w wr S S2 p r L a)) (fun i _ => ops.length - (intOf i).toNat)
    case atStart => exact ⟨0, 0, rfl, Nat.zero_le _, HBO0⟩
    case round =>
      obtain ⟨k, a, rfl, hk, HBO⟩ := hrel
      by_cases hlt : k < ops.length
      · have hOr := HO.out.below HBO.out.bel
        obtain ⟨x0, e, h0, h1, h2, h3⟩ := hOr.cells k hlt
        subst e
        have hok := hOr.ok ops[k] (List.getElem_mem hlt)
        have hokk := hok.kind
        have hokv := hok.v
        have hokn := hok.n
        generalize ops[k] = o at *
        obtain ⟨x, M, er, b, hr4⟩ : ∃ x M er b, rOp L a o = (x, M, er, b) := ⟨_, _, _, _, rfl⟩
        have hMl : M.length ≤ L.length := by have := rOp_len L a o; rw [hr4] at this; exact this
        have hLl := HBO.out.own.len
        have hread := fun W h => read_as S p a L o W h hokk hokv hokn x er M b hr4
        have hask := fun W h => ask_as S2 r a L o W h hokk hokv hokn x er M b hr4
        have hpk : (pk M).length ≤ 1000000000 := by rw [pk_length]; omega
        clear hOr hok hokk hokv hokn hr4 hMl hLl
        obtain ⟨kind, v, n, A, co, B⟩ := o
        dsimp only [OpD.val] at *
        have HREAD := Aside0.mk hread
        have HASK := Aside0.mk hask
        have HPK := Aside0.mk hpk
        generalize hPM : (pk M).length = pm at *
        generalize hPL : pk M = PM at *
        clear hread hask hPM hPL
        go_wp2_with fail
        obtain ⟨wb, hwb⟩ : ∃ wb, wb = wr.alloc (.cells #[.int .u8 (kind : Int), .int .i64 v, .int .i64 n, .slice A B.length co] 41) := ⟨_, rfl⟩
        rw [← hwb]
        have hbk : wb.heap[wr.heap.size]? = some (.cells #[.int .u8 (kind : Int), .int .i64 v, .int .i64 n, .slice A B.length co] 41 (0, 0)) := by rw [hwb]; exact World.alloc_heap_new wr _
        have hBb : Below wr.heap.size wr wb.drew := by rw [hwb]; exact below_drew (below_alloc (Below.refl _ _) _)
        obtain ⟨bx, hbx⟩ : ∃ bx, bx = wr.heap.size := ⟨_, rfl⟩
        have hpx : p < bx ∧ r < bx := by rw [hbx]; exact ⟨HBO.out.own.p_lt, HBO.out.ref.p_lt⟩
        rw [← hbx] at hbk ⊢
        have b0 : wb.cell? ⟨bx, 0, none⟩ = some (Value.int .u8 (kind : Int)) := (by rw [cell_of_row _ _ _ _ _ _ hbk]; rfl)
        have b1 : wb.cell? ⟨bx, 1, none⟩ = some (.int .i64 v) := (by rw [cell_of_row _ _ _ _ _ _ hbk]; rfl)
        have b2 : wb.cell? ⟨bx, 2, none⟩ = some (.int .i64 n) := (by rw [cell_of_row _ _ _ _ _ _ hbk]; rfl)
        have b3 : wb.cell? ⟨bx, 3, none⟩ = some (.slice A B.length co) := (by rw [cell_of_row _ _ _ _ _ _ hbk]; rfl)
        have HBb := Aside0.mk (HBO.out.below hBb)
        have HBK := Aside0.mk (show wb.drew.heap[bx]? = some (.cells #[.int .u8 (kind : Int), .int .i64 v, .int .i64 n, .slice A B.length co] 41 (0, 0)) from hbk)
        have HPX := Aside0.mk hpx
        have HNE := Aside0.mk HBO.out.ne
        have HSZ : Aside0 (r < wb.drew.heap.size) := ⟨Nat.lt_of_lt_of_le HBO.out.ref.p_lt hBb.size⟩
        clear h0 h1 h2 h3 hbk hBb hwb hbx HBO hpx
        go_region_held3 (fun w' => w'.cell? ⟨bx, 0, none⟩ = some (.int .u8 (kind : Int)) ∧ w'.cell? ⟨bx, 1, none⟩ = some (.int .i64 v) ∧ w'.cell? ⟨bx, 2, none⟩ = some (.int .i64 n) ∧ w'.cell? ⟨bx, 3, none⟩ = some (.slice A B.length co))
          (first | go_keep | (refine ⟨?_, ?_, ?_, ?_⟩ <;> assumption))
          (first
            | (go_at_call 34; refine (HREAD.out _ HBb.out.own).mono ?_; rintro e w2 ⟨A1, c1, rfl, hC1, hA1, hrd, hf⟩; have hk2 := blk_fr HBK.out hf (by have := HPX.out; omega); have a0 : w2.cell? ⟨bx, 0, none⟩ = some (Value.int .u8 (kind : Int)) := (by rw [cell_of_row _ _ _ _ _ _ hk2]; rfl); have a1 : w2.cell? ⟨bx, 1, none⟩ = some (.int .i64 v) := (by rw [cell_of_row _ _ _ _ _ _ hk2]; rfl); have a2 : w2.cell? ⟨bx, 2, none⟩ = some (.int .i64 n) := (by rw [cell_of_row _ _ _ _ _ _ hk2]; rfl); have a3 : w2.cell? ⟨bx, 3, none⟩ = some (.slice A B.length co) := (by rw [cell_of_row _ _ _ _ _ _ hk2]; rfl); have HK2 := Aside0.mk hk2; have HRd2 := Aside0.mk hrd; have HRRd2 := Aside0.mk (HBb.out.ref.fr hf (fun e => HNE.out.1 e.symm) (fun k hk e => HNE.out.2.2 (by rw [← e]; exact hk))); have HC1 := Aside0.mk hC1; have HA1 := Aside0.mk hA1; have HB2 := Aside0.mk (HBb.out.bel.trans (hf.to_below HBb.out.bel.size (fun j hj => by subst hj; exact HBb.out.pge))); clear hC1 hA1 hrd hf hk2)
            | (go_at_call 35; refine (HASK.out _ HRRd2.out).mono ?_; rintro e w3 ⟨A2, c2, rfl, hC2, hrrd, hf⟩; have hk3 := blk_fr HK2.out hf (by have := HPX.out; omega); have g0 : w3.cell? ⟨bx, 0, none⟩ = some (Value.int .u8 (kind : Int)) := (by rw [cell_of_row _ _ _ _ _ _ hk3]; rfl); have g1 : w3.cell? ⟨bx, 1, none⟩ = some (.int .i64 v) := (by rw [cell_of_row _ _ _ _ _ _ hk3]; rfl); have g2 : w3.cell? ⟨bx, 2, none⟩ = some (.int .i64 n) := (by rw [cell_of_row _ _ _ _ _ _ hk3]; rfl); have g3 : w3.cell? ⟨bx, 3, none⟩ = some (.slice A B.length co) := (by rw [cell_of_row _ _ _ _ _ _ hk3]; rfl); have HBO3 : Aside0 (Both w w3 S S2 p r L b) := ⟨⟨HRd2.out.fr hf HNE.out.1 (fun k hk e => HNE.out.2.1 (by rw [← e]; exact hk)), hrrd, HBb.out.pge, HBb.out.rge, HB2.out.trans (hf.to_below HB2.out.size (fun j hj => by subst hj; exact HBb.out.rge))⟩⟩; have HC13 := Aside0.mk (C_fr HC1.out hf (fun ad e hn he => by have h1 := HA1.out ad e (by have := C_len8 HC1.out; omega); have h2 := HSZ.out; omega)); have HC23 := Aside0.mk hC2; have HK3 := Aside0.mk hk3; clear hC2 hrrd hf hk3)
            | (go_at_call 33; refine (same_any A1 A2 pm pm c1 c2 x er (b : Int) ((L.length : Int) - (b : Int)) PM _ HC13.out HC23.out HPK.out).mono ?_; rintro e w4 ⟨rfl, hb4⟩; have HBO4 := Aside0.mk (HBO3.out.below hb4); have hk4 := blk_fr HK3.out (Fr.below hb4 (fun _ => False)) (fun h => h); have f0 : w4.cell? ⟨bx, 0, none⟩ = some (Value.int .u8 (kind : Int)) := (by rw [cell_of_row _ _ _ _ _ _ hk4]; rfl); have f1 : w4.cell? ⟨bx, 1, none⟩ = some (.int .i64 v) := (by rw [cell_of_row _ _ _ _ _ _ hk4]; rfl); have f2 : w4.cell? ⟨bx, 2, none⟩ = some (.int .i64 n) := (by rw [cell_of_row _ _ _ _ _ _ hk4]; rfl); have f3 : w4.cell? ⟨bx, 3, none⟩ = some (.slice A B.length co) := (by rw [cell_of_row _ _ _ _ _ _ hk4]; rfl); clear hb4 hk4))
        all_goals
          go_wp2_with fail
          go_roundw
          case rel => exact ⟨k + 1, b, by go_num, by omega, HBO4⟩
          case measure => simp [intOf]; omega
      · obtain rfl : k = ops.length := by omega
        have HRd := Aside0.mk HBO.out.own
        have HRRd := Aside0.mk HBO.out.ref
        have HBl := Aside0.mk HBO.out.bel
        clear HBO
        have hLl := HRd.out.len
        have hLa := HRd.out.at_le
        go_wp2_with fail
        refine (At_any S p a L wr HRd.out).mono ?_
        rintro e w4 ⟨rfl, hw4⟩
        obtain rfl := hw4.symm
        go_wp2_with fail
        refine (RefAt_any S2 r a L wr HRRd.out).mono ?_
        rintro e w5 ⟨rfl, hw5⟩
        obtain rfl := hw5.symm
        go_wp2_with fail
        refine (Left_any S p a L wr HRd.out).mono ?_
        rintro e w6 ⟨rfl, j6, rfl⟩
        go_wp2_with fail
        refine (RefLeft_any S2 r a L _ (HRRd.out.drew j6)).mono ?_
        rintro e w7 ⟨rfl, j7, rfl⟩
        have HB7 : Aside0 (Below w.heap.size w ((wr.drewN j6).drewN j7)) := ⟨HBl.out.trans (below_drewN (below_drewN (Below.refl _ _) j6) j7)⟩
        generalize (wr.drewN j6).drewN j7 = w7 at *
        go_wp2_with fail
        refine (awake_any w7).mono ?_
        rintro e w8 ⟨rfl, hb⟩
        have HB8 := Aside0.mk (HB7.out.trans (hb.mono HB7.out.size))
        clear hb
        go_wp2_with fail
        go_ret
        exact ⟨rfl, HB8.out⟩
  · have hop1 : ∀ W, Kd.C (Kd.int .u8) W A B.length B → Calls Try.prog 27 #[.slice A B.length cb, .int .i64 n] W fun e w' => e = .returned (.tuple #[.pointer none, .int .i64 (openE B n)]) ∧ w' = W := fun W h => (hop W h).mono fun e w' q => by unfold OpenPost at q; rwa [if_neg hoe] at q
    have hrop1 : ∀ W, Kd.C (Kd.int .u8) W A B.length B → Calls Try.prog 32 #[.slice A B.length cb, .int .i64 n] W fun e w' => e = .returned (.tuple #[.pointer none, .int .i64 (openE B n)]) ∧ w' = W := fun W h => (hrop W h).mono fun e w' q => by unfold ROpenPost at q; rwa [if_neg hoe] at q
    have HOP := Aside0.mk hop1
    have HROP := Aside0.mk hrop1
    generalize openE B n = er at *
    have q1 : (er != 0) = true := bne_iff_ne.2 hoe
    clear hop hrop hop1 hrop1 hoe
    go_enter Try.func7, Try.ntmps7
    go_wp2_with fail
    refine HF.out.mono ?_
    rintro e w1 ⟨rfl, hb⟩
    have HB1 := Aside0.mk hb
    clear hb
    go_wp2_with fail
    refine (HOP.out w1 (Kd.C_below HC.out HB1.out)).mono ?_
    rintro e w2 ⟨rfl, hw2⟩
    obtain rfl := hw2.symm
    go_wp2_with fail
    refine (HROP.out w1 (Kd.C_below HC.out HB1.out)).mono ?_
    rintro e w3 ⟨rfl, hw3⟩
    obtain rfl := hw3.symm
    go_wp2_with fail
    refine (awake_any w1).mono ?_
    rintro e w4 ⟨rfl, hb⟩
    have HB2 := Aside0.mk (HB1.out.trans (hb.mono HB1.out.size))
    clear hb
    go_wp2_with fail
    go_ret
    exact ⟨rfl, HB2.out⟩
end Go.Proofs.Ytmjekkkpbcehoaa.P
