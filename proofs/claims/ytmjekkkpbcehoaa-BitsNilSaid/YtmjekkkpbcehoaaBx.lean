/- BitsWrites: the walk of the law. -/
import Derived.Test.YtmjekkkpbcehoaaBv
import Derived.Test.YtmjekkkpbcehoaaBr
namespace Go.Proofs.Ytmjekkkpbcehoaa.P
open Go.RowKit Go.Shelf Go.Proofs.Ytmjekkkpbcehoaa.Bits Go.Proofs.YtmjekkkpbcehoaaW.PrintWords Go.Proofs.YtmjekkkpbcehoaaW.PrintLast Go.Proofs.YtmjekkkpbcehoaaW.PrintMore
set_option linter.unusedVariables false
set_option linter.unusedSimpArgs false
attribute [local go_sem ↓] Go.wp_at_zero Go.wp_at_succ

/-- What calls leave in a writer. -/
def wRun (ops : List OpD) : List Int := ops.foldl (fun L o => (wOp L o).2) []
theorem wRun_take (ops : List OpD) (k : Nat) (h : k < ops.length) : wRun (ops.take (k + 1)) = (wOp (wRun (ops.take k)) ops[k]).2 := by
  unfold wRun
  rw [List.take_succ_eq_append_getElem h, List.foldl_append]
  rfl
theorem wRun_len (ops : List OpD) : ∀ k, (wRun (ops.take k)).length ≤ 1048576
  | 0 => by simp [wRun]
  | k + 1 => by
    by_cases h : k < ops.length
    · rw [wRun_take ops k h]; exact wOp_len _ _ (wRun_len ops k)
    · rw [List.take_of_length_le (by omega), ← List.take_of_length_le (show ops.length ≤ k by omega)]
      exact wRun_len ops k
/-- A writer of the program's and one of the reference's, that have the same bits and share nothing. -/
def Pair (w0 w : World) (p r : Nat) (L : List Int) : Prop :=
  ∃ S S2, Wr w S p L ∧ RWr w S2 r L ∧ (∀ k, S k → w0.heap.size ≤ k ∧ ¬ S2 k) ∧ (∀ k, S2 k → w0.heap.size ≤ k) ∧ w0.heap.size ≤ p ∧ w0.heap.size ≤ r ∧ Below w0.heap.size w0 w
theorem Wr.ne_ref {w : World} {S S2 : Nat → Prop} {p r : Nat} {L M : List Int} (h : Wr w S p L) (k : RWr w S2 r M) : p ≠ r ∧ ¬ S r ∧ ¬ S2 p := by
  obtain ⟨v, hb, _⟩ := h.blk
  obtain ⟨v', hb', _⟩ := k.blk
  refine ⟨blk_ne hb hb' (by decide), fun hs => ?_, fun hs => ?_⟩
  · obtain ⟨cells, hc⟩ := h.typed r hs
    exact blk_ne hb' hc (by decide) rfl
  · obtain ⟨cells, hc⟩ := k.typed p hs
    exact blk_ne hb hc (by decide) rfl
/-- One call of each: the two have the same bits again. -/
theorem Pair.step {w0 w w1 : World} {p r : Nat} {L L1 : List Int} {S S2 : Nat → Prop} (hW : Wr w S p L) (hR : RWr w S2 r L) (hd : ∀ k, S k → w0.heap.size ≤ k ∧ ¬ S2 k) (hr : w0.heap.size ≤ p) (hb : Below w0.heap.size w0 w) (h1 : WrTo w S p L1 w1) :
    ∃ S', Wr w1 S' p L1 ∧ RWr w1 S2 r L ∧ (∀ k, S' k → w0.heap.size ≤ k ∧ ¬ S2 k) ∧ Below w0.heap.size w0 w1 := by
  obtain ⟨S', k1, hs, f⟩ := h1
  have hne := hW.ne_ref hR
  refine ⟨S', k1, hR.fr f ?_ ?_, fun k hk => ?_, hb.trans (f.to_below hb.size (fun k hk => ?_))⟩
  · rintro (e | e)
    · exact hne.1 e.symm
    · exact hne.2.1 e
  · rintro k hk (e | e)
    · subst e; exact hne.2.2 hk
    · exact (hd k e).2 hk
  · rcases hs k hk with q | q
    · exact hd k q
    · refine ⟨Nat.le_trans hb.size q, fun e => ?_⟩
      have := hR.lt k e
      omega
  · rcases hk with rfl | q
    · exact hr
    · exact (hd k q).1
theorem Pair.step2 {w0 w w1 : World} {p r : Nat} {L L1 : List Int} {S S2 : Nat → Prop} (hW : Wr w S p L1) (hR : RWr w S2 r L) (hd : ∀ k, S k → w0.heap.size ≤ k ∧ ¬ S2 k) (hs2 : ∀ k, S2 k → w0.heap.size ≤ k) (hp : w0.heap.size ≤ p) (hr : w0.heap.size ≤ r) (hb : Below w0.heap.size w0 w) (h1 : RWrTo w S2 r L1 w1) : Pair w0 w1 p r L1 := by
  obtain ⟨S', k1, hs, f⟩ := h1
  have hne := hW.ne_ref hR
  refine ⟨S, S', hW.fr f ?_ ?_, k1, fun k hk => ⟨(hd k hk).1, fun e => ?_⟩, fun k hk => ?_, hp, hr, hb.trans (f.to_below hb.size (fun k hk => ?_))⟩
  · rintro (e | e)
    · exact hne.1 e
    · exact hne.2.2 e
  · rintro k hk (e | e)
    · subst e; exact hne.2.1 hk
    · exact (hd k hk).2 e
  · rcases hs k e with q | q
    · exact (hd k hk).2 q
    · have := hW.lt k hk; omega
  · rcases hs k hk with q | q
    · exact hs2 k q
    · exact Nat.le_trans hb.size q
  · rcases hk with rfl | q
    · exact hr
    · exact hs2 k q

/-- Any block of another type stays. -/
theorem WrTo.box {w w' : World} {S : Nat → Prop} {p b : Nat} {L L0 : List Int} {cs : Array Value} (h : WrTo w S p L w') (h0 : Wr w S p L0) (hb : w.heap[b]? = some (.cells cs 41 (0, 0))) : w'.heap[b]? = some (.cells cs 41 (0, 0)) := by
  obtain ⟨S1, _, _, f⟩ := h
  refine blk_fr hb f ?_
  rintro (rfl | q)
  · obtain ⟨v, hk, _⟩ := h0.blk
    exact blk_ne hb hk (by decide) rfl
  · obtain ⟨cells, hk⟩ := h0.typed b q
    exact blk_ne hb hk (by decide) rfl
theorem RWrTo.box {w w' : World} {S : Nat → Prop} {p b : Nat} {L L0 : List Int} {cs : Array Value} (h : RWrTo w S p L w') (h0 : RWr w S p L0) (hb : w.heap[b]? = some (.cells cs 41 (0, 0))) : w'.heap[b]? = some (.cells cs 41 (0, 0)) := by
  obtain ⟨S1, _, _, f⟩ := h
  refine blk_fr hb f ?_
  rintro (rfl | q)
  · obtain ⟨v, hk, _⟩ := h0.blk
    exact blk_ne hb hk (by decide) rfl
  · obtain ⟨cells, hk⟩ := h0.typed b q
    exact blk_ne hb hk (by decide) rfl
theorem OpD.ok.fr_of {w w' : World} {S : Nat → Prop} {p : Nat} {L : List Int} {o : OpD} (h : o.ok w) (h1 : WrTo w S p L w') (hA : ∀ ad, o.A = some ad → 0 < o.B.length → ¬ (ad.block = p ∨ S ad.block)) : o.ok w' := by
  obtain ⟨S1, _, _, f⟩ := h1
  exact ⟨h.kind, h.v, h.n, C_fr h.bytes f hA, h.is8, h.cap, h.short, fun ad e hn => Nat.lt_of_lt_of_le (h.blk ad e hn) f.size⟩
abbrev newRWr : Obj := .cells #[.slice none 0 0] 39 (0, 0)
theorem RWr.new (w : World) : RWr (w.alloc newRWr) (fun _ => False) w.heap.size [] :=
  ⟨⟨.slice none 0 0, World.alloc_heap_new w _, Kd.R_nil _ _ _ _ _⟩, is01_nil, fun _ h => h.elim⟩

set_option maxHeartbeats 4000000 in
set_option maxRecDepth 100000 in
/-- The rounds of the law, and what stands behind them. -/
theorem BitsWrites_any (X : Option Addr) (c : Nat) (ops : List OpD) (zero : Bool) (w : World) (h : OpsAt w X ops) (hl : ops.length ≤ 9000000000000000000) :
    Calls Try.prog 5 #[.slice X ops.length c, .bool zero] w fun e w' => e = .returned (.bool true) ∧ Below w.heap.size w w' := by
  have HO := Aside0.mk h
  have hfew := few_any X c ops w h hl
  clear h
  cases hf : fewB ops with
  | false =>
    rw [hf] at hfew
    have HF := Aside0.mk hfew
    clear hfew hf
    go_enter Try.func5, Try.ntmps5
    go_wp2_with fail
    refine HF.out.mono ?_
    rintro e w1 ⟨rfl, hb⟩
    have HB1 := Aside0.mk hb
    clear hb
    go_wp2_with fail
    refine (awake_any w1).mono ?_
    rintro e w2 ⟨rfl, hb⟩
    have HB2 := Aside0.mk (HB1.out.trans (hb.mono HB1.out.size))
    clear hb
    go_wp2_with fail
    go_ret
    exact ⟨rfl, HB2.out⟩
  | true =>
    rw [hf] at hfew
    have HF := Aside0.mk hfew
    have hf2 : bulk ops ≤ 140000 ∧ ops.length ≤ 60 := by
      unfold fewB at hf
      rw [Bool.and_eq_true, decide_eq_true_eq, decide_eq_true_eq] at hf
      exact hf
    obtain ⟨hbulk, hl60⟩ := hf2
    clear hfew hf
    go_enter Try.func5, Try.ntmps5
    go_wp2_with fail
    refine HF.out.mono ?_
    rintro e w1 ⟨rfl, hb⟩
    have HB1 := Aside0.mk hb
    clear hb
    go_wp2_with fail
    refine (New_any w1).mono ?_
    rintro e w2 ⟨rfl, rfl⟩
    have HB2 := Aside0.mk (HB1.out.trans ((below_alloc (Below.refl w1.heap.size w1) newWr).mono HB1.out.size))
    have HN := Aside0.mk (Wr.new w1)
    have HP0 := Aside0.mk HB1.out.size
    generalize w1.alloc newWr = w2 at *
    generalize w1.heap.size = p0 at *
    go_upto_if 14 with fail
    go_cut [5] (fun s5 wx => ∃ p, s5 = .pointer (some ⟨p, 0, none⟩) ∧ w.heap.size ≤ p ∧ Aside0 (Wr wx (fun _ => False) p []) ∧ Aside0 (Below w.heap.size w wx))
    case first =>
      cases zero with
      | true =>
        go_wp2_with fail
        go_meet
        exact ⟨_, rfl, HB2.out.size, ⟨Wr.new w2⟩, ⟨HB2.out.trans ((below_alloc (Below.refl w2.heap.size w2) newWr).mono HB2.out.size)⟩⟩
      | false =>
        go_wp2_with fail
        go_meet
        exact ⟨_, rfl, HP0.out, HN, HB2⟩
    case rest =>
      obtain ⟨p, rfl, hp, HW0, HB3⟩ := hcut
      clear HN HB2 HP0
      go_wp2_with fail
      have hR0 := RWr.new wc
      have hWn := HW0.out.below (below_alloc (Below.refl wc.heap.size wc) newRWr)
      have hBn := HB3.out.trans ((below_alloc (Below.refl wc.heap.size wc) newRWr).mono HB3.out.size)
      have hr : w.heap.size ≤ wc.heap.size := HB3.out.size
      obtain ⟨r, hre⟩ : ∃ r, r = wc.heap.size := ⟨_, rfl⟩
      rw [← hre] at hR0 hr ⊢
      have HPR0 : Aside0 (Pair w (wc.alloc newRWr) p r []) := ⟨⟨_, _, hWn, hR0, fun _ h => h.elim, fun _ h => h.elim, hp, hr, hBn⟩⟩
      clear hR0 hWn hBn hre
      go_loopw [21] (fun i wr => ∃ k : Nat, i = .int .i64 (k : Int) ∧ k ≤ ops.length ∧ Aside0 (Pair w wr p r (wRun (ops.take k)))) (fun i _ => ops.length - (intOf i).toNat)
      case atStart => exact ⟨0, rfl, Nat.zero_le _, HPR0⟩
      case round =>
        obtain ⟨k, rfl, hk, HPR⟩ := hrel
        by_cases hlt : k < ops.length
        · obtain ⟨S, S2, hW, hR, hd, hs2, _, _, hB⟩ := HPR.out
          have hOr := HO.out.below hB
          obtain ⟨x, e, h0, h1, h2, h3⟩ := hOr.cells k hlt
          subst e
          have hok := hOr.ok ops[k] (List.getElem_mem hlt)
          have hbl := Nat.le_trans (bulk_mem ops ops[k] (List.getElem_mem hlt)) hbulk
          have hokw := HO.out.ok ops[k] (List.getElem_mem hlt)
          have HA : Aside0 (∀ ad, ops[k].A = some ad → 0 < ops[k].B.length → ad.block < w.heap.size) := ⟨fun ad e hn => hokw.blk ad e hn⟩
          have HT := Aside0.mk (wRun_take ops k hlt)
          have hL := wRun_len ops k
          have HW := Aside0.mk hW
          have HR := Aside0.mk hR
          have HD := Aside0.mk hd
          have HS2 := Aside0.mk hs2
          have HB := Aside0.mk hB
          have HOK := Aside0.mk hok
          generalize wRun (ops.take k) = L at *
          generalize hOK : ops[k] = o at *
          clear hW hR hd hs2 hB hOr hokw hok hOK
          obtain ⟨kind, v, n, A, co, B⟩ := o
          dsimp only at h0 h1 h2 h3 hbl HA
          go_wp2_with fail
          obtain ⟨wb, hwb⟩ : ∃ wb, wb = wr.alloc (.cells #[.int .u8 (kind : Int), .int .i64 v, .int .i64 n, .slice A B.length co] 41) := ⟨_, rfl⟩
          rw [← hwb]
          have hbk : wb.heap[wr.heap.size]? = some (.cells #[.int .u8 (kind : Int), .int .i64 v, .int .i64 n, .slice A B.length co] 41 (0, 0)) := by rw [hwb]; exact World.alloc_heap_new wr _
          have hBb : Below wr.heap.size wr wb.drew := by rw [hwb]; exact below_drew (below_alloc (Below.refl _ _) _)
          obtain ⟨bx, hbx⟩ : ∃ bx, bx = wr.heap.size := ⟨_, rfl⟩
          rw [← hbx] at hbk ⊢
          have b0 : wb.cell? ⟨bx, 0, none⟩ = some (.int .u8 (kind : Int)) := by rw [cell_of_row _ _ _ _ _ _ hbk]; rfl
          have b1 : wb.cell? ⟨bx, 1, none⟩ = some (.int .i64 v) := by rw [cell_of_row _ _ _ _ _ _ hbk]; rfl
          have b2 : wb.cell? ⟨bx, 2, none⟩ = some (.int .i64 n) := by rw [cell_of_row _ _ _ _ _ _ hbk]; rfl
          have b3 : wb.cell? ⟨bx, 3, none⟩ = some (.slice A B.length co) := by rw [cell_of_row _ _ _ _ _ _ hbk]; rfl
          have HWb := Aside0.mk (HW.out.below hBb)
          have HRb := Aside0.mk (HR.out.below hBb)
          have HOKb := Aside0.mk (HOK.out.below hBb)
          have HBb := Aside0.mk (HB.out.trans (hBb.mono HB.out.size))
          have HBK := Aside0.mk (show wb.drew.heap[bx]? = some (.cells #[.int .u8 (kind : Int), .int .i64 v, .int .i64 n, .slice A B.length co] 41 (0, 0)) from hbk)
          have HAw : Aside0 (∀ ad, A = some ad → 0 < B.length → ¬ (ad.block = p ∨ S ad.block)) := ⟨fun ad e hn => by
            have h1 := HA.out ad e hn
            rintro (q | q)
            · omega
            · have := (HD.out _ q).1; omega⟩
          clear h0 h1 h2 h3 hbk hBb hwb hbx HW HR HOK HB HPR
          go_region_held3 (fun w' => w'.cell? ⟨bx, 0, none⟩ = some (.int .u8 (kind : Int)) ∧ w'.cell? ⟨bx, 1, none⟩ = some (.int .i64 v) ∧ w'.cell? ⟨bx, 2, none⟩ = some (.int .i64 n) ∧ w'.cell? ⟨bx, 3, none⟩ = some (.slice A B.length co))
            (first | go_keep | (refine ⟨?_, ?_, ?_, ?_⟩ <;> assumption))
            (first
              | (go_at_call 20; refine (write_any S p L ⟨kind, v, n, A, co, B⟩ _ HWb.out hL HOKb.out hbl HAw.out).mono ?_; rintro e w2 ⟨rfl, h2⟩; obtain ⟨S', k1, k2, hd', hb'⟩ := Pair.step HWb.out HRb.out HD.out hp HBb.out h2; have hk2 := h2.box HWb.out HBK.out; have HK2 := Aside0.mk hk2; have a0 : w2.cell? ⟨bx, 0, none⟩ = some (.int .u8 (kind : Int)) := (by rw [cell_of_row _ _ _ _ _ _ hk2]; rfl); have a1 : w2.cell? ⟨bx, 1, none⟩ = some (.int .i64 v) := (by rw [cell_of_row _ _ _ _ _ _ hk2]; rfl); have a2 : w2.cell? ⟨bx, 2, none⟩ = some (.int .i64 n) := (by rw [cell_of_row _ _ _ _ _ _ hk2]; rfl); have a3 : w2.cell? ⟨bx, 3, none⟩ = some (.slice A B.length co) := (by rw [cell_of_row _ _ _ _ _ _ hk2]; rfl); have HOK2 := Aside0.mk (HOKb.out.fr_of h2 HAw.out); have HW2 := Aside0.mk k1; have HR2 := Aside0.mk k2; have HD2 := Aside0.mk hd'; have HB2 := Aside0.mk hb'; clear h2 k1 k2 hd' hb' hk2)
              | (go_at_call 21; refine (told_any S2 r L ⟨kind, v, n, A, co, B⟩ _ HR2.out hL HOK2.out hbl).mono ?_; rintro e w3 ⟨rfl, h3⟩; have hP3 := Pair.step2 HW2.out HR2.out HD2.out HS2.out hp hr HB2.out h3; have hk3 := h3.box HR2.out HK2.out; have g0 : w3.cell? ⟨bx, 0, none⟩ = some (.int .u8 (kind : Int)) := (by rw [cell_of_row _ _ _ _ _ _ hk3]; rfl); have g1 : w3.cell? ⟨bx, 1, none⟩ = some (.int .i64 v) := (by rw [cell_of_row _ _ _ _ _ _ hk3]; rfl); have g2 : w3.cell? ⟨bx, 2, none⟩ = some (.int .i64 n) := (by rw [cell_of_row _ _ _ _ _ _ hk3]; rfl); have g3 : w3.cell? ⟨bx, 3, none⟩ = some (.slice A B.length co) := (by rw [cell_of_row _ _ _ _ _ _ hk3]; rfl); have HP3 := Aside0.mk hP3; obtain ⟨S3, S4, q3, q4, _⟩ := hP3; have HW3 := Aside0.mk q3; have HR3 := Aside0.mk q4; clear h3 hk3 q3 q4)
              | (go_at_call 22; refine (Len_any S3 p _ _ HW3.out).mono ?_; rintro e w4 ⟨rfl, rfl⟩)
              | (go_at_call 23; refine (RLen_any S4 r _ _ HR3.out).mono ?_; rintro e w5 ⟨rfl, rfl⟩))
          all_goals
            go_wp2_with fail
            go_roundw
            case rel => exact ⟨k + 1, by go_num, by omega, ⟨by rw [HT.out]; exact HP3.out⟩⟩
            case measure => simp [intOf]; omega
        · obtain rfl : k = ops.length := by omega
          have hL := wRun_len ops ops.length
          obtain ⟨S, S2, hW, hR, hd, hs2, _, _, hB⟩ := HPR.out
          have HW := Aside0.mk hW
          have HR := Aside0.mk hR
          have HB := Aside0.mk hB
          generalize wRun (ops.take ops.length) = L at *
          clear hW hR hB
          have hpl : (pk L).length ≤ 1000000000 := by rw [pk_length]; omega
          go_wp2_with fail
          refine (Bytes_any S p L wr HW.out hL).mono ?_
          rintro e w3 ⟨v3, S3, rfl, hr3, hs3, hb3⟩
          obtain ⟨A3, c3, hv3, _, hC3⟩ := Kd.R_reads hr3
          subst hv3
          have HC3 := Aside0.mk hC3
          have HR3 := Aside0.mk (HR.out.below hb3)
          have HB3' := Aside0.mk (HB.out.trans (hb3.mono HB.out.size))
          clear hr3 hs3 hb3 hC3
          go_wp2_with fail
          refine (RBytes_any S2 r L w3 HR3.out hL).mono ?_
          rintro e w4 ⟨v4, S4, rfl, hr4, hs4, hb4⟩
          obtain ⟨A4, c4, hv4, _, hC4⟩ := Kd.R_reads hr4
          subst hv4
          have HC4 := Aside0.mk hC4
          have HC3' := Aside0.mk (Kd.C_below HC3.out hb4)
          have HB4 := Aside0.mk (HB3'.out.trans (hb4.mono HB3'.out.size))
          clear hr4 hs4 hb4 hC4
          go_wp2_with fail
          have cc := Same_any A3 A4 (pk L).length (pk L).length c3 c4 (pk L) (pk L) w4 HC3'.out HC4.out hpl hpl
          rw [decide_eq_true rfl] at cc
          refine cc.mono ?_
          clear cc
          rintro e w5 ⟨rfl, hd5⟩
          have HB5 := Aside0.mk (HB4.out.trans (hd5.below.mono HB4.out.size))
          clear hd5
          go_wp2_with fail
          refine (awake_any w5).mono ?_
          rintro e w6 ⟨rfl, hb6⟩
          have HB6 := Aside0.mk (HB5.out.trans (hb6.mono HB5.out.size))
          clear hb6
          go_wp2_with fail
          go_ret
          exact ⟨rfl, HB6.out⟩
end Go.Proofs.Ytmjekkkpbcehoaa.P
