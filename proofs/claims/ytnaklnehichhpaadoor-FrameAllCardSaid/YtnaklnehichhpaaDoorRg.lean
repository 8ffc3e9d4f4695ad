/- The reference's Read: the contract. -/
import Derived.Test.YtnaklnehichhpaaDoorRf
import Derived.Test.YtnaklnehichhpaaDoorKl
namespace Go.Proofs.YtnaklnehichhpaaDoor.P
open Go.RowKit Go.Shelf Go.Proofs.YtnaklnehichhpaaDoor.Bits Go.Proofs.YtnaklnehichhpaaDoorW.PrintWords Go.Proofs.YtnaklnehichhpaaDoorW.PrintLast Go.Proofs.YtnaklnehichhpaaDoorW.PrintMore
set_option linter.unusedVariables false
set_option linter.unusedSimpArgs false
attribute [local go_sem ↓] Go.wp_at_zero Go.wp_at_succ

theorem pErr_ref (B : List Int) : pErr B = if gv B 0 12 ≠ 4013 then 8 else if gv B 54 2 ≠ 0 then 4 else if okH (hdOf B) = false then 4 else 0 := by
  unfold pErr
  by_cases h1 : gv B 0 12 ≠ 4013
  · rw [if_pos h1, if_pos h1]
  · rw [if_neg h1, if_neg h1]
    by_cases h2 : gv B 54 2 ≠ 0
    · rw [if_pos (.inl h2), if_pos h2]
    · rw [if_neg h2]
      by_cases h3 : 9 ≤ gv B 20 4
      · rw [if_pos (.inr h3)]
        have hr : (hdOf B).rate = 0 := by
          unfold hdOf
          dsimp only
          rw [List.getD_eq_getElem?_getD, List.getElem?_eq_none (show rates.length ≤ (gv B 20 4).toNat by show 9 ≤ (gv B 20 4).toNat; omega)]
          rfl
        have ho : okH (hdOf B) = false := by
          cases hh : okH (hdOf B) with
          | false => rfl
          | true =>
            have := ((okH_iff _).1 hh)
            obtain ⟨_, hb, _⟩ := this
            rw [hr] at hb
            exact absurd hb (by decide)
        rw [if_pos ho]
      · rw [if_neg (by omega)]
theorem cell_lt' {w : World} {a : Addr} {v : Value} (h : w.cell? a = some v) : a.block < w.heap.size := by
  unfold World.cell? at h
  cases hb : w.heap[a.block]? with
  | none => simp [hb] at h
  | some o => exact lt_of_block hb
theorem take_two (B : List Int) (k : Nat) (h : k + 2 ≤ B.length) : B.take (k + 2) = B.take k ++ [B.getD k 0, B.getD (k + 1) 0] := by
  rw [List.take_succ_eq_append_getElem (by omega), List.take_succ_eq_append_getElem (by omega), List.append_assoc]
  rw [List.getD_eq_getElem?_getD, List.getD_eq_getElem?_getD, List.getElem?_eq_getElem (by omega), List.getElem?_eq_getElem (by omega)]
  rfl

set_option maxHeartbeats 8000000 in
set_option maxRecDepth 100000 in
theorem RRead_any (A : Option Addr) (c : Nat) (B : List Int) (at_ : Int) (w : World) (hC : Kd.C (Kd.int .u8) w A B.length B) (h8 : is8 B) (hBl : B.length ≤ 100000000) (hc : B.length ≤ c) :
    Calls Tryd.prog 17 #[.slice A B.length c, .int .i64 at_] w (ReadPost w B at_) := by
  obtain ⟨w0, hw0⟩ : ∃ w0, w0 = w.alloc (.cells #[.int .i64 0, .bool false, .int .i64 0, .int .i64 0, .int .i64 0, .int .i64 0, .int .i64 0] 23) := ⟨_, rfl⟩
  obtain ⟨p, hp⟩ : ∃ p, p = w.heap.size := ⟨_, rfl⟩
  have hb0 : Below w.heap.size w w0 := by rw [hw0]; exact below_alloc (Below.refl _ _) _
  have HB0 := Aside0.mk hb0
  have HK0 : Aside0 (w0.heap[p]? = some (.cells #[.int .i64 0, .bool false, .int .i64 0, .int .i64 0, .int .i64 0, .int .i64 0, .int .i64 0] 23 (0, 0))) := ⟨by rw [hw0, hp]; exact World.alloc_heap_new w _⟩
  have HKW : Aside0 ((w.alloc (.cells #[.int .i64 0, .bool false, .int .i64 0, .int .i64 0, .int .i64 0, .int .i64 0, .int .i64 0] 23)).heap[w.heap.size]? = some (.cells #[.int .i64 0, .bool false, .int .i64 0, .int .i64 0, .int .i64 0, .int .i64 0, .int .i64 0] 23 (0, 0))) := ⟨World.alloc_heap_new w _⟩
  have HC0 := Aside0.mk hC
  have H8 := Aside0.mk h8
  have HP := Aside0.mk hp
  have HE : Aside0 (w.alloc (.cells #[.int .i64 0, .bool false, .int .i64 0, .int .i64 0, .int .i64 0, .int .i64 0, .int .i64 0] 23) = w0) := ⟨hw0.symm⟩
  clear hC h8 hb0 hw0 hp
  by_cases hr : at_ < 0 ∨ (B.length : Int) < at_
  · have HN : Aside0 (fRead B at_ = (HD0, [], 6)) := ⟨by unfold fRead; rw [if_pos hr]⟩
    rcases hr with h1 | h1
    · have d1 : decide (at_ < 0) = true := by simpa using h1
      go_enter Tryd.func17, Tryd.ntmps17
      go_wp2_with (refine wpList_store_row rfl _ _ _ rfl w.heap.size #[.int .i64 0, .bool false, .int .i64 0, .int .i64 0, .int .i64 0, .int .i64 0, .int .i64 0] rfl rfl _ _ HKW.out (by kernel_rfl) rfl (by kernel_rfl) ?_)
      (try simp only [Exit.inBlock, Exit.then])
      refine bodyPost_ret (results_ctt rfl _ _ w.heap.size _ _ _ _ rfl (setRow_heap _ _ _ _ _ _ HKW.out) Tryd.underlying23 rfl (by kernel_rfl)) rfl ?_
      unfold ReadPost
      rw [HN.out]
      exact ⟨_, fun _ => False, rfl, Kd.R_nil _ _ _ _ _, fun _ h => h.elim, ((by rw [HE.out]; exact HB0.out : Below w.heap.size w (w.alloc _)).trans ((fr_setRow' _ _ _).to_below (by simp) (fun k hk => by omega)))⟩
    · have d1 : decide (at_ < 0) = false := by simp; omega
      have d2 : decide ((B.length : Int) < at_) = true := by simpa using h1
      go_enter Tryd.func17, Tryd.ntmps17
      go_wp2_with (refine wpList_store_row rfl _ _ _ rfl w.heap.size #[.int .i64 0, .bool false, .int .i64 0, .int .i64 0, .int .i64 0, .int .i64 0, .int .i64 0] rfl rfl _ _ HKW.out (by kernel_rfl) rfl (by kernel_rfl) ?_)
      (try simp only [Exit.inBlock, Exit.then])
      refine bodyPost_ret (results_ctt rfl _ _ w.heap.size _ _ _ _ rfl (setRow_heap _ _ _ _ _ _ HKW.out) Tryd.underlying23 rfl (by kernel_rfl)) rfl ?_
      unfold ReadPost
      rw [HN.out]
      exact ⟨_, fun _ => False, rfl, Kd.R_nil _ _ _ _ _, fun _ h => h.elim, ((by rw [HE.out]; exact HB0.out : Below w.heap.size w (w.alloc _)).trans ((fr_setRow' _ _ _).to_below (by simp) (fun k hk => by omega)))⟩
  obtain ⟨n, rfl⟩ : ∃ n : Nat, at_ = (n : Int) := ⟨at_.toNat, by omega⟩
  have hn : n ≤ B.length := by omega
  have d1 : decide ((n : Int) < 0) = false := by simp
  have d2 : decide ((B.length : Int) < (n : Int)) = false := by simp; omega
  have hfr : fRead B (n : Int) = fReadB (B.drop n) := by unfold fRead; rw [if_neg hr, Int.toNat_natCast]
  rw [fReadB_eq, pErr_ref] at hfr
  obtain ⟨A', hA'⟩ : ∃ A', A' = (if c = n then A else A.map (·.add (n * 1))) := ⟨_, rfl⟩
  have hsl : ∀ W : World, (Instr.slice 24 (.slice A B.length c) (some (.int .i64 (n : Int))) none none).run Tryd.prog W = .ok (.slice A' (B.length - n) (c - n)) W := by
    intro W
    have := cut_from (P := Tryd.prog) 24 5 .i64 Tryd.underlying24 (i := _) rfl 1 rfl A B.length c (n : Int) (by omega) (by omega) W
    rw [Int.toNat_natCast, ← hA'] at this
    exact this
  have hCd := Kd.C_drop HC0.out hn hc
  have hlb : (B.drop n).length = B.length - n := List.length_drop
  have hCd2 : Kd.C (Kd.int .u8) w A' (B.drop n).length (B.drop n) := by rw [hA']; exact hCd
  have h8d : is8 (B.drop n) := fun b hb => H8.out b (List.mem_of_mem_drop hb)
  have hsync := sync_bits (B.drop n) h8d
  obtain ⟨cc, hcc⟩ : ∃ cc, cc = c - n := ⟨_, rfl⟩
  have hcc2 : (B.drop n).length ≤ cc := by omega
  rw [← hcc, ← hlb] at hsl
  have hlD : (B.drop n).length ≤ 100000000 := by omega
  generalize B.drop n = D at *
  have HC := Aside0.mk hCd2
  have H8D := Aside0.mk h8d
  have HFR := Aside0.mk hfr
  have HSY := Aside0.mk hsync
  have HBN := Aside0.mk hlb
  clear hr hA' hCd hCd2 hcc h8d hfr hsync hlb
  have q2' : decide (B.length < n) = false := by simp; omega
  by_cases h9 : D.length < 9
  · have q1 : decide ((D.length : Int) < 9) = true := by simp; omega
    have q1' : decide (D.length < 9) = true := by simp; omega
    have HN : Aside0 (fRead B (n : Int) = (HD0, [], 3)) := ⟨by rw [HFR.out, if_pos h9]⟩
    go_enter Tryd.func17, Tryd.ntmps17
    go_wp2_with (refine wpList_store_row rfl _ _ _ rfl w.heap.size #[.int .i64 0, .bool false, .int .i64 0, .int .i64 0, .int .i64 0, .int .i64 0, .int .i64 0] rfl rfl _ _ HKW.out (by kernel_rfl) rfl (by kernel_rfl) ?_)
    (try simp only [Exit.inBlock, Exit.then])
    refine bodyPost_ret (results_ctt rfl _ _ w.heap.size _ _ _ _ rfl (setRow_heap _ _ _ _ _ _ HKW.out) Tryd.underlying23 rfl (by kernel_rfl)) rfl ?_
    unfold ReadPost
    rw [HN.out]
    exact ⟨_, fun _ => False, rfl, Kd.R_nil _ _ _ _ _, fun _ h => h.elim, ((by rw [HE.out]; exact HB0.out : Below w.heap.size w (w.alloc _)).trans ((fr_setRow' _ _ _).to_below (by simp) (fun k hk => by omega)))⟩
  have q1 : decide ((D.length : Int) < 9) = false := by simp; omega
  have q1' : decide (D.length < 9) = false := by simp; omega
  rw [if_neg h9] at HFR
  obtain ⟨ad, e, hx0⟩ := at8 (Kd.C_below HC.out HB0.out) 0 (by omega)
  obtain ⟨ad', e', hx1⟩ := at8 (Kd.C_below HC.out HB0.out) 1 (by omega)
  subst e
  cases e'
  have hb0 := getD8 H8D.out 0
  have hb1 := getD8 H8D.out 1
  rw [show ad.add 0 = ad by unfold Addr.add; split <;> simp_all] at hx0
  obtain ⟨y0, hy0⟩ : ∃ y, y = D.getD 0 0 := ⟨_, rfl⟩
  obtain ⟨y1, hy1⟩ : ∃ y, y = D.getD 1 0 := ⟨_, rfl⟩
  rw [← hy0] at hx0 hb0 HSY
  rw [← hy1] at hx1 hb1 HSY
  have hw1 : IntKind.i64.wrap (y0 * 16) = y0 * 16 := IntWalk.i64_in _ (by omega)
  have hw2 : IntKind.i64.wrap (y0 * 16 + y1 / 16) = y0 * 16 + y1 / 16 := IntWalk.i64_in _ (by omega)
  have hw3 : wrap64 (y0 * 16) = y0 * 16 := wrap64_id (by omega) (by omega)
  have hw4 : wrap64 (y0 * 16 + y1 / 16) = y0 * 16 + y1 / 16 := wrap64_id (by omega) (by omega)
  have i1 : 1 < D.length := by omega
  have i0 : 0 < D.length := by omega
  have i1' : (1 : Int) < (D.length : Int) := by omega
  have i1'' : ((1 : Int) < (D.length : Int)) = True := by simp; omega
  have hx1' := hx1
  simp only [go_sem] at hx1'
  clear hy0 hy1
  have hgb := gv_bound D 34 11
  obtain ⟨m, hm⟩ : ∃ m : Nat, gv D 34 11 = (m : Int) := ⟨(gv D 34 11).toNat, by omega⟩
  have hm11 : m < 2048 := by simp only [Int.reducePow] at hgb; omega
  obtain ⟨lf, hlf⟩ : ∃ l, l = gv D 54 2 := ⟨_, rfl⟩
  obtain ⟨hd, hhd⟩ : ∃ hd, hd = hdOf D := ⟨_, rfl⟩
  have hfi := fun W hW => fields22_any (some ad) cc D W hW H8D.out (by omega) (by omega)
  rw [hm, ← hlf, ← hhd] at hfi
  rw [hm, Int.toNat_natCast, ← hlf, ← hhd, HSY.out] at HFR
  have hri := fun W => Right_any hd W
  obtain ⟨ok, hok⟩ : ∃ ok, ok = okH hd := ⟨_, rfl⟩
  rw [← hok] at hri HFR
  obtain ⟨num, lossy, rate, ch, kind, count, back⟩ := hd
  unfold HD.val at hfi hri
  dsimp only at hfi hri
  have HFI := Aside0.mk hfi
  have HRI := Aside0.mk hri
  clear hgb hm hlf hhd hfi hri hok HSY
  by_cases hs : y0 * 16 + y1 / 16 = 4013
  case neg =>
    have q3 : (y0 * 16 + y1 / 16 != 4013) = true := by simpa using hs
    have HN : Aside0 (fRead B (n : Int) = (HD0, [], 8)) := ⟨by rw [HFR.out, if_pos hs, if_pos (by decide)]⟩
    clear hs
    go_enter Tryd.func17, Tryd.ntmps17
    go_wp2_with fail
    rw [HE.out, ← HP.out]
    go_quiet (fail)
    have HKD : Aside0 ((w0.drewN nq).heap[p]? = some (.cells #[.int .i64 0, .bool false, .int .i64 0, .int .i64 0, .int .i64 0, .int .i64 0, .int .i64 0] 23 (0, 0))) := ⟨HK0.out⟩
    have HBD : Aside0 (Below w.heap.size w (w0.drewN nq)) := ⟨below_drewN HB0.out nq⟩
    (try simp only [Exit.then])
    go_wp2_with (refine wpList_store_row rfl _ _ _ rfl p #[.int .i64 0, .bool false, .int .i64 0, .int .i64 0, .int .i64 0, .int .i64 0, .int .i64 0] rfl rfl _ _ HKD.out (by kernel_rfl) rfl (by kernel_rfl) ?_)
    (try simp only [Exit.inBlock, Exit.then])
    refine bodyPost_ret (results_ctt rfl _ _ p _ _ _ _ rfl (setRow_heap _ _ _ _ _ _ HKD.out) Tryd.underlying23 rfl (by kernel_rfl)) rfl ?_
    unfold ReadPost
    rw [HN.out]
    exact ⟨_, fun _ => False, rfl, Kd.R_nil _ _ _ _ _, fun _ h => h.elim, HBD.out.trans ((fr_setRow' _ _ _).to_below HBD.out.size (fun k hk => by have := HP.out; omega))⟩
  rw [if_neg (show ¬ (y0 * 16 + y1 / 16 ≠ 4013) from fun h => h hs)] at HFR
  have q3 : (y0 * 16 + y1 / 16 != 4013) = false := by simpa using hs
  have hfi2 := HFI.out
  go_enter Tryd.func17, Tryd.ntmps17
  go_wp2_with fail
  rw [HE.out, ← HP.out]
  go_quiet (fail)
  have hbd : Below w0.heap.size w0 (w0.drewN nq) := below_drewN (Below.refl _ _) nq
  have HKD : Aside0 ((w0.drewN nq).heap[p]? = some (.cells #[.int .i64 0, .bool false, .int .i64 0, .int .i64 0, .int .i64 0, .int .i64 0, .int .i64 0] 23 (0, 0))) := ⟨HK0.out⟩
  have HBD := Aside0.mk (HB0.out.trans (hbd.mono HB0.out.size))
  have HCD := Aside0.mk (Kd.C_below HC.out HBD.out)
  clear hbd hfi2
  (try simp only [Exit.then])
  go_wp2_with fail
  refine (HFI.out _ HCD.out).mono ?_
  rintro e w1 ⟨rfl, hb⟩
  have HK1 := Aside0.mk (blk_fr HKD.out (Fr.below hb (fun _ => False)) (fun h => h))
  have HB1 := Aside0.mk (HBD.out.trans (hb.mono HBD.out.size))
  have hf2 : Fr (fun k => k = p) w1 (w1.setRow p #[.int .i64 num, .bool lossy, .int .i64 rate, .int .i64 ch, .int .i64 kind, .int .i64 count, .int .i64 back]) := fr_setRow' _ _ _
  have HK2 : Aside0 ((w1.setRow p #[.int .i64 num, .bool lossy, .int .i64 rate, .int .i64 ch, .int .i64 kind, .int .i64 count, .int .i64 back]).heap[p]? = some (.cells #[.int .i64 num, .bool lossy, .int .i64 rate, .int .i64 ch, .int .i64 kind, .int .i64 count, .int .i64 back] 23 (0, 0))) := ⟨setRow_heap _ _ _ _ _ _ HK1.out⟩
  have HB2 := Aside0.mk (HB1.out.trans (hf2.to_below HB1.out.size (fun k hk => by have := HP.out; omega)))
  have HC2 : Aside0 (Kd.C (Kd.int .u8) (w1.setRow p #[.int .i64 num, .bool lossy, .int .i64 rate, .int .i64 ch, .int .i64 kind, .int .i64 count, .int .i64 back]) (some ad) D.length D) := ⟨Kd.C_below HC.out HB2.out⟩
  clear hb hf2 HFI HKD HCD HK0 hx0 hx1 hx1' hw1 hw3 hw4 q3
  by_cases hl : lf = 0
  case neg =>
    have q4 : (lf != 0) = true := by simp [hl]
    have HN : Aside0 (fRead B (n : Int) = (HD0, [], 4)) := ⟨by rw [HFR.out, if_pos hl, if_pos (by decide)]⟩
    clear hl
    go_wp2_with (first | (refine wpList_store_row rfl _ _ _ rfl p #[.int .i64 num, .bool lossy, .int .i64 rate, .int .i64 ch, .int .i64 kind, .int .i64 count, .int .i64 back] rfl rfl _ _ HK1.out (by kernel_rfl) rfl (by kernel_rfl) ?_) | refine wpList_store_row rfl _ _ _ rfl p #[.int .i64 0, .bool false, .int .i64 0, .int .i64 0, .int .i64 0, .int .i64 0, .int .i64 0] rfl rfl _ _ HK2.out (by kernel_rfl) rfl (by kernel_rfl) ?_)
    (try simp only [Exit.inBlock, Exit.then])
    refine bodyPost_ret (results_ctt rfl _ _ p _ _ _ _ rfl (setRow_heap _ _ _ _ _ _ HK2.out) Tryd.underlying23 rfl (by kernel_rfl)) rfl ?_
    unfold ReadPost
    rw [HN.out]
    exact ⟨_, fun _ => False, rfl, Kd.R_nil _ _ _ _ _, fun _ h => h.elim, HB2.out.trans ((fr_setRow' _ _ _).to_below HB2.out.size (fun k hk => by have := HP.out; omega))⟩
  subst hl
  rw [if_neg (show ¬ ((0 : Int) ≠ 0) from fun h => h rfl)] at HFR
  have z0 : (w1.setRow p #[.int .i64 num, .bool lossy, .int .i64 rate, .int .i64 ch, .int .i64 kind, .int .i64 count, .int .i64 back]).cell? ⟨p, 0, none⟩ = some (.int .i64 num) := by rw [cell_of_row _ p 0 _ _ (0, 0) HK2.out]; rfl
  have z1 : (w1.setRow p #[.int .i64 num, .bool lossy, .int .i64 rate, .int .i64 ch, .int .i64 kind, .int .i64 count, .int .i64 back]).cell? ⟨p, 1, none⟩ = some (.bool lossy) := by rw [cell_of_row _ p 1 _ _ (0, 0) HK2.out]; rfl
  have z2 : (w1.setRow p #[.int .i64 num, .bool lossy, .int .i64 rate, .int .i64 ch, .int .i64 kind, .int .i64 count, .int .i64 back]).cell? ⟨p, 2, none⟩ = some (.int .i64 rate) := by rw [cell_of_row _ p 2 _ _ (0, 0) HK2.out]; rfl
  have z3 : (w1.setRow p #[.int .i64 num, .bool lossy, .int .i64 rate, .int .i64 ch, .int .i64 kind, .int .i64 count, .int .i64 back]).cell? ⟨p, 3, none⟩ = some (.int .i64 ch) := by rw [cell_of_row _ p 3 _ _ (0, 0) HK2.out]; rfl
  have z4 : (w1.setRow p #[.int .i64 num, .bool lossy, .int .i64 rate, .int .i64 ch, .int .i64 kind, .int .i64 count, .int .i64 back]).cell? ⟨p, 4, none⟩ = some (.int .i64 kind) := by rw [cell_of_row _ p 4 _ _ (0, 0) HK2.out]; rfl
  have z5 : (w1.setRow p #[.int .i64 num, .bool lossy, .int .i64 rate, .int .i64 ch, .int .i64 kind, .int .i64 count, .int .i64 back]).cell? ⟨p, 5, none⟩ = some (.int .i64 count) := by rw [cell_of_row _ p 5 _ _ (0, 0) HK2.out]; rfl
  have z6 : (w1.setRow p #[.int .i64 num, .bool lossy, .int .i64 rate, .int .i64 ch, .int .i64 kind, .int .i64 count, .int .i64 back]).cell? ⟨p, 6, none⟩ = some (.int .i64 back) := by rw [cell_of_row _ p 6 _ _ (0, 0) HK2.out]; rfl
  go_wp2_with (refine wpList_store_row rfl _ _ _ rfl p #[.int .i64 num, .bool lossy, .int .i64 rate, .int .i64 ch, .int .i64 kind, .int .i64 count, .int .i64 back] rfl rfl _ _ HK1.out (by kernel_rfl) rfl (by kernel_rfl) ?_)
  clear z0 z1 z2 z3 z4 z5 z6
  refine (HRI.out _).mono ?_
  rintro e w3 ⟨rfl, hb⟩
  have HK3 := Aside0.mk (blk_fr HK2.out (Fr.below hb (fun _ => False)) (fun h => h))
  have HB3 := Aside0.mk (HB2.out.trans (hb.mono HB2.out.size))
  have HC3 := Aside0.mk (Kd.C_below HC2.out hb)
  clear hb HRI HK2 HC2 HB2 HK1 HB1
  cases ok with
  | false =>
    have HN : Aside0 (fRead B (n : Int) = (HD0, [], 4)) := ⟨by rw [HFR.out, if_pos rfl, if_pos (by decide)]⟩
    go_wp2_with (refine wpList_store_row rfl _ _ _ rfl p #[.int .i64 0, .bool false, .int .i64 0, .int .i64 0, .int .i64 0, .int .i64 0, .int .i64 0] rfl rfl _ _ HK3.out (by kernel_rfl) rfl (by kernel_rfl) ?_)
    (try simp only [Exit.inBlock, Exit.then])
    refine bodyPost_ret (results_ctt rfl _ _ p _ _ _ _ rfl (setRow_heap _ _ _ _ _ _ HK3.out) Tryd.underlying23 rfl (by kernel_rfl)) rfl ?_
    unfold ReadPost
    rw [HN.out]
    exact ⟨_, fun _ => False, rfl, Kd.R_nil _ _ _ _ _, fun _ h => h.elim, HB3.out.trans ((fr_setRow' _ _ _).to_below HB3.out.size (fun k hk => by have := HP.out; omega))⟩
  | true =>
    rw [if_neg (show ¬ (true = false) by simp), if_neg (show ¬ ((0 : Int) ≠ 0) from fun h => h rfl)] at HFR
    by_cases hlen : D.length < 9 + m
    · have q5 : decide ((D.length : Int) < 7 + (m : Int) + 2) = true := by simp; omega
      have HN : Aside0 (fRead B (n : Int) = (HD0, [], 3)) := ⟨by rw [HFR.out, if_pos hlen]⟩
      go_wp2_with (refine wpList_store_row rfl _ _ _ rfl p #[.int .i64 0, .bool false, .int .i64 0, .int .i64 0, .int .i64 0, .int .i64 0, .int .i64 0] rfl rfl _ _ HK3.out (by kernel_rfl) rfl (by kernel_rfl) ?_)
      (try simp only [Exit.inBlock, Exit.then])
      refine bodyPost_ret (results_ctt rfl _ _ p _ _ _ _ rfl (setRow_heap _ _ _ _ _ _ HK3.out) Tryd.underlying23 rfl (by kernel_rfl)) rfl ?_
      unfold ReadPost
      rw [HN.out]
      exact ⟨_, fun _ => False, rfl, Kd.R_nil _ _ _ _ _, fun _ h => h.elim, HB3.out.trans ((fr_setRow' _ _ _).to_below HB3.out.size (fun k hk => by have := HP.out; omega))⟩
    rw [if_neg hlen] at HFR
    have hlenD : 9 + m ≤ D.length := by omega
    have q5 : decide ((D.length : Int) < 7 + (m : Int) + 2) = false := by simp; omega
    go_wp2_with fail
    have h2 := take_two D (7 + m) (by omega)
    have hb1 := getD8 H8D.out (7 + m)
    have hb2 := getD8 H8D.out (7 + m + 1)
    obtain ⟨ad1, e1, hs1⟩ := at8 HC3.out (7 + m) (by omega)
    cases e1
    obtain ⟨ad2, e2, hs2⟩ := at8 HC3.out (7 + m + 1) (by omega)
    cases e2
    have h8t : is8 (D.take (7 + m)) := fun b hb => H8D.out b (List.mem_of_mem_take hb)
    have hsum := sum_two (D.take (7 + m)) (D.getD (7 + m) 0) (D.getD (7 + m + 1) 0) hb1 hb2
    rw [← h2, show 7 + m + 2 = 9 + m by omega] at hsum
    generalize D.getD (7 + m) 0 = s1 at *
    generalize D.getD (7 + m + 1) 0 = s2 at *
    have hlt : (D.take (7 + m)).length = 7 + m := by rw [List.length_take]; omega
    have hcrc := fun W hW => RefCrc16_any (some ad) (7 + m) cc (D.take (7 + m)) W hW h8t (by omega)
    rw [show crc16 (ofB (D.take (7 + m)) (8 * (7 + m))) = sumB (D.take (7 + m)) by unfold sumB; rw [hlt]] at hcrc
    have hslt := sumB_lt (D.take (7 + m))
    have HCT : Aside0 (∀ W, Below w3.heap.size w3 W → Kd.C (Kd.int .u8) W (some ad) (7 + m) (D.take (7 + m))) := ⟨fun W hW => by have := Kd.C_take (Kd.C_below HC3.out hW) (show 7 + m ≤ D.length by omega); rwa [hlt] at this⟩
    generalize sumB (D.take (7 + m)) = sm at *
    have HCR := Aside0.mk hcrc
    have hsl2 : ∀ W : World, (Instr.slice 24 (.slice (some ad) D.length cc) none (some (.int .i64 (7 + (m : Int)))) none).run Tryd.prog W = .ok (.slice (some ad) (7 + m) cc) W := by
      intro W
      have := cut_to (P := Tryd.prog) 24 5 .i64 Tryd.underlying24 (i := _) rfl (some ad) D.length cc (7 + (m : Int)) (by omega) (by omega) hcc2 W
      rw [show (7 + (m : Int)).toNat = 7 + m by omega] at this
      simpa using this
    have hws1 : IntKind.i64.wrap s1 = s1 := IntWalk.i64_in _ (by omega)
    have hws2 : IntKind.i64.wrap s2 = s2 := IntWalk.i64_in _ (by omega)
    have hw5 : IntKind.i64.wrap (s1 * 256) = s1 * 256 := IntWalk.i64_in _ (by omega)
    have hw6 : IntKind.i64.wrap (s1 * 256 + s2) = s1 * 256 + s2 := IntWalk.i64_in _ (by omega)
    have hw7 : wrap64 (s1 * 256) = s1 * 256 := wrap64_id (by omega) (by omega)
    have hw8 : wrap64 (s1 * 256 + s2) = s1 * 256 + s2 := wrap64_id (by omega) (by omega)
    have HSUM := Aside0.mk hsum
    have HS1 := Aside0.mk hs1
    rw [Addr.add_succ'] at hs2
    have HS2 := Aside0.mk hs2
    have i7 : (7 : Int) + (m : Int) < (D.length : Int) := by omega
    have i8 : (7 : Int) + (m : Int) + 1 < (D.length : Int) := by omega
    have i9 : 0 ≤ (7 : Int) + (m : Int) := by omega
    have i10 : 0 ≤ (7 : Int) + (m : Int) + 1 := by omega
    have t1 : ((7 : Int) + (m : Int)).toNat = 7 + m := by omega
    have t2 : ((7 : Int) + (m : Int) + 1).toNat = 7 + m + 1 := by omega
    have hw9 : IntKind.i64.wrap (7 + (m : Int) + 1) = 7 + (m : Int) + 1 := IntWalk.i64_in _ (by omega)
    have hw10 : wrap64 (7 + (m : Int) + 1) = 7 + (m : Int) + 1 := wrap64_id (by omega) (by omega)
    clear h2 h8t hsum hlt hcrc hlen
    have hS0 : w3.drew.cell? (ad.add (7 + m)) = some (.int .u8 s1) ∧ w3.drew.cell? ⟨ad.block, ad.off + (7 + m + 1), none⟩ = some (.int .u8 s2) := ⟨HS1.out, HS2.out⟩
    by_cases hz : (sm : Int) = s1 * 256 + s2
    case neg =>
      have q6 : ((sm : Int) != s1 * 256 + s2) = true := by simpa using hz
      have HN : Aside0 (fRead B (n : Int) = (HD0, [], 7)) := ⟨by rw [HFR.out, if_pos (fun e => hz (HSUM.out.1 e))]⟩
      clear hz
      go_region_held3 (fun w' => w'.cell? (ad.add (7 + m)) = some (.int .u8 s1) ∧ w'.cell? ⟨ad.block, ad.off + (7 + m + 1), none⟩ = some (.int .u8 s2))
        (first | assumption | go_keep)
        (first
          | (go_at_call 33; refine (HCR.out _ (HCT.out _ (below_drew (Below.refl _ _)))).mono ?_; rintro e w4 ⟨rfl, hb⟩; have hb3 := (below_drew (Below.refl w3.heap.size w3)).trans (hb.mono (below_drew (Below.refl w3.heap.size w3)).size); have HB34 := Aside0.mk hb3; have hS4 : w4.cell? (ad.add (7 + m)) = some (.int .u8 s1) ∧ w4.cell? ⟨ad.block, ad.off + (7 + m + 1), none⟩ = some (.int .u8 s2) := ⟨(hb3.cell (cell_lt' HS1.out)).trans HS1.out, (hb3.cell (cell_lt' HS2.out)).trans HS2.out⟩; clear hb hb3))
      (try simp only [Exit.then])
      have HK4 := Aside0.mk (blk_fr HK3.out (Fr.below HB34.out (fun _ => False)) (fun h => h))
      have HB4 := Aside0.mk (HB3.out.trans (HB34.out.mono HB3.out.size))
      have HC4 := Aside0.mk (Kd.C_below HC3.out HB34.out)
      clear hS0 hS4 HCT HCR HS1 HS2 hs1 hs2 hsl2 HK3 HC3
      go_wp2_with (refine wpList_store_row rfl _ _ _ rfl p #[.int .i64 0, .bool false, .int .i64 0, .int .i64 0, .int .i64 0, .int .i64 0, .int .i64 0] rfl rfl _ _ HK4.out (by kernel_rfl) rfl (by kernel_rfl) ?_)
      (try simp only [Exit.inBlock, Exit.then])
      refine bodyPost_ret (results_ctt rfl _ _ p _ _ _ _ rfl (setRow_heap _ _ _ _ _ _ HK4.out) Tryd.underlying23 rfl (by kernel_rfl)) rfl ?_
      unfold ReadPost
      rw [HN.out]
      exact ⟨_, fun _ => False, rfl, Kd.R_nil _ _ _ _ _, fun _ h => h.elim, HB4.out.trans ((fr_setRow' _ _ _).to_below HB4.out.size (fun k hk => by have := HP.out; omega))⟩
    have q6 : ((sm : Int) != s1 * 256 + s2) = false := by simpa using hz
    go_region_held3 (fun w' => w'.cell? (ad.add (7 + m)) = some (.int .u8 s1) ∧ w'.cell? ⟨ad.block, ad.off + (7 + m + 1), none⟩ = some (.int .u8 s2))
      (first | assumption | go_keep)
      (first
        | (go_at_call 33; refine (HCR.out _ (HCT.out _ (below_drew (Below.refl _ _)))).mono ?_; rintro e w4 ⟨rfl, hb⟩; have hb3 := (below_drew (Below.refl w3.heap.size w3)).trans (hb.mono (below_drew (Below.refl w3.heap.size w3)).size); have HB34 := Aside0.mk hb3; have hS4 : w4.cell? (ad.add (7 + m)) = some (.int .u8 s1) ∧ w4.cell? ⟨ad.block, ad.off + (7 + m + 1), none⟩ = some (.int .u8 s2) := ⟨(hb3.cell (cell_lt' HS1.out)).trans HS1.out, (hb3.cell (cell_lt' HS2.out)).trans HS2.out⟩; clear hb hb3))
    (try simp only [Exit.then])
    have HK4 := Aside0.mk (blk_fr HK3.out (Fr.below HB34.out (fun _ => False)) (fun h => h))
    have HB4 := Aside0.mk (HB3.out.trans (HB34.out.mono HB3.out.size))
    have HC4 := Aside0.mk (Kd.C_below HC3.out HB34.out)
    clear hS0 hS4 HCT HCR HS1 HS2 hs1 hs2 hsl2 HK3 HC3
    clear hws1 hws2 hw5 hw6 hw7 hw8 hw9 hw10 t1 t2 i7 i8 i9 i10 hw2 q5 q1 q1' q2' d1 d2 i0 i1 i1' i1'' hsl
    go_wp2_with fail
    clear q6
    rw [if_neg (show ¬ (sumB (D.take (9 + m)) ≠ 0) from fun h => h (HSUM.out.2 hz))] at HFR
    clear HSUM hz
    obtain ⟨A', hA'⟩ : ∃ A', A' = (if cc = 7 then (some ad) else (some ad).map (·.add (7 * 1))) := ⟨_, rfl⟩
    have hsl3 : ∀ W : World, (Instr.slice 24 (.slice (some ad) D.length cc) (some (.int .i64 7)) (some (.int .i64 (7 + (m : Int)))) none).run Tryd.prog W = .ok (.slice A' m (cc - 7)) W := by
      intro W
      have := cut_mid (P := Tryd.prog) 24 5 .i64 .i64 Tryd.underlying24 (i := _) rfl 1 rfl (some ad) D.length cc 7 (7 + (m : Int)) (by omega) (by omega) (by omega) hcc2 W
      rw [show (7 + (m : Int)).toNat - (7 : Int).toNat = m by omega, show (7 : Int).toNat = 7 from rfl, ← hA'] at this
      exact this
    have hbe : (D.take (7 + m)).drop 7 = (D.drop 7).take m := by rw [List.drop_take]; congr 1; omega
    have hC' := Kd.C_mid (lo := 7) (hi := 7 + m) HC4.out (by omega) (by omega) hcc2
    rw [hbe] at hC'
    have hbl : ((D.drop 7).take m).length = m := by rw [List.length_take, List.length_drop]; omega
    rw [hbl] at hC'
    have hC2 : Kd.C (Kd.int .u8) w4 A' m ((D.drop 7).take m) := by rw [hA']; exact hC'
    generalize (D.drop 7).take m = body at *
    obtain ⟨v1, w5, hrun, hr1, hg1⟩ := append_run (S := fun k => k = w4.heap.size) (w4.alloc noBytes).drew (.slice (some ⟨w4.heap.size, 0, none⟩) 0 0) [] body A' m (cc - 7) (Kd.R_drew (empty_R w4)) (Kd.C_drew (Kd.C_alloc hC2 _)) (by simp; omega)
    rw [List.nil_append] at hr1
    have hb5 : Below w4.heap.size w4 w5 := (below_drew (below_alloc (Below.refl _ _) _)).grown hg1 (by simp) (fun k hk => by
      have : w4.heap.size = k := by simpa [Value.ownBlock] using hk
      omega)
    have hk5 := blk_fr HK4.out (Fr.below hb5 (fun _ => False)) (fun h => h)
    have hw11 : IntKind.i64.wrap (7 + (m : Int)) = 7 + (m : Int) := IntWalk.i64_in _ (by omega)
    have HRUN := Aside0.mk hrun
    have HR1 := Aside0.mk hr1
    have HB5 := Aside0.mk hb5
    have HK5 := Aside0.mk hk5
    have HK6 : Aside0 ((w5.setRow p #[.int .i64 num, .bool lossy, .int .i64 rate, .int .i64 ch, .int .i64 kind, .int .i64 count, .int .i64 back]).heap[p]? = some (.cells #[.int .i64 num, .bool lossy, .int .i64 rate, .int .i64 ch, .int .i64 kind, .int .i64 count, .int .i64 back] 23 (0, 0))) := ⟨setRow_heap _ _ _ _ _ _ hk5⟩
    clear hA' hbe hC' hC2 hbl hrun hr1 hg1 hb5 hk5
    refine wp_region_held_drew (S := fun w' => w'.heap[p]? = some (.cells #[.int .i64 num, .bool lossy, .int .i64 rate, .int .i64 ch, .int .i64 kind, .int .i64 count, .int .i64 back] 23 (0, 0))) (by kernel_rfl) HK4.out (fun hHeld => ?_)
    refine wpAnyH_take (i := 0) (v := ?_) rfl (by kernel_rfl) (by kernel_rfl) (by kernel_rfl) (fun _ _ _ h => h) (Or.inl ⟨by rfl, ?_⟩) (by assumption) ?_
    rotate_left
    · (intro w hSw; (try dsimp only at hSw); have z0 : w.cell? ⟨p, 0, none⟩ = some (Value.int .i64 num) := (by rw [cell_of_row _ _ _ _ _ _ hSw]; rfl); have z1 : w.cell? ⟨p, 1, none⟩ = some (Value.bool lossy) := (by rw [cell_of_row _ _ _ _ _ _ hSw]; rfl); have z2 : w.cell? ⟨p, 2, none⟩ = some (Value.int .i64 rate) := (by rw [cell_of_row _ _ _ _ _ _ hSw]; rfl); have z3 : w.cell? ⟨p, 3, none⟩ = some (Value.int .i64 ch) := (by rw [cell_of_row _ _ _ _ _ _ hSw]; rfl); have z4 : w.cell? ⟨p, 4, none⟩ = some (Value.int .i64 kind) := (by rw [cell_of_row _ _ _ _ _ _ hSw]; rfl); have z5 : w.cell? ⟨p, 5, none⟩ = some (Value.int .i64 count) := (by rw [cell_of_row _ _ _ _ _ _ hSw]; rfl); have z6 : w.cell? ⟨p, 6, none⟩ = some (Value.int .i64 back) := (by rw [cell_of_row _ _ _ _ _ _ hSw]; rfl); go_simp; (try with_reducible rfl))
    (try simp only [Act.put, List.getElem_toArray, List.getElem_cons_zero, List.getElem_cons_succ, List.setIfInBounds_toArray, List.set_cons_zero, List.set_cons_succ])
    refine wpAnyH_take (i := 2) (v := ?_) rfl (by kernel_rfl) (by kernel_rfl) (by kernel_rfl) (fun _ _ _ h => h) (Or.inl ⟨by rfl, ?_⟩) (by assumption) ?_
    rotate_left
    · (intro w hSw; (try dsimp only at hSw); go_simp; (try with_reducible rfl))
    (try simp only [Act.put, List.getElem_toArray, List.getElem_cons_zero, List.getElem_cons_succ, List.setIfInBounds_toArray, List.set_cons_zero, List.set_cons_succ])
    refine wpAnyH_take (i := 3) (v := ?_) rfl (by kernel_rfl) (by kernel_rfl) (by kernel_rfl) (fun _ _ _ h => h) (Or.inl ⟨by rfl, ?_⟩) (by assumption) ?_
    rotate_left
    · (intro w hSw; (try dsimp only at hSw); go_simp; (try with_reducible rfl))
    (try simp only [Act.put, List.getElem_toArray, List.getElem_cons_zero, List.getElem_cons_succ, List.setIfInBounds_toArray, List.set_cons_zero, List.set_cons_succ])
    refine wpAnyH_take (i := 4) (v := ?_) rfl (by kernel_rfl) (by kernel_rfl) (by kernel_rfl) (fun _ _ _ h => h) (Or.inl ⟨by rfl, ?_⟩) (by assumption) ?_
    rotate_left
    · (intro w hSw; (try dsimp only at hSw); go_simp; (try with_reducible rfl))
    (try simp only [Act.put, List.getElem_toArray, List.getElem_cons_zero, List.getElem_cons_succ, List.setIfInBounds_toArray, List.set_cons_zero, List.set_cons_succ])
    refine wpAnyH_ready (rs := [1]) (by kernel_rfl) (by simp) ?_
    refine AllReadyH.cons rfl (fun K hK => ?_) AllReadyH.nil
    go_simp
    (try go_simp)
    refine hK.out _ _ ?_ (fun hHeld => ?_)
    · exact blk_alloc' HK4.out _
    clear hK K
    (try simp only [Act.put, List.getElem_toArray, List.getElem_cons_zero, List.getElem_cons_succ, List.setIfInBounds_toArray, List.set_cons_zero, List.set_cons_succ])
    refine wpAnyH_ready (rs := [5]) (by kernel_rfl) (by simp) ?_
    refine AllReadyH.cons rfl (fun K hK => ?_) AllReadyH.nil
    refine step_run_append (by rfl) _ _ _ (by rfl) _ _ (by rfl) (by rfl) HRUN.out ?_
    (try go_simp)
    refine hK.out _ _ ?_ (fun hHeld => ?_)
    · exact HK5.out
    clear hK K
    (try simp only [Act.put, List.getElem_toArray, List.getElem_cons_zero, List.getElem_cons_succ, List.setIfInBounds_toArray, List.set_cons_zero, List.set_cons_succ])
    refine wpAnyH_ready (rs := [6]) (by kernel_rfl) (by simp) ?_
    refine AllReadyH.cons rfl (fun K hK => ?_) AllReadyH.nil
    refine step_store_row (by rfl) _ _ _ (by rfl) p #[.int .i64 num, .bool lossy, .int .i64 rate, .int .i64 ch, .int .i64 kind, .int .i64 count, .int .i64 back] (by rfl) (by rfl) _ _ HK5.out (by kernel_rfl) rfl (by kernel_rfl) ?_
    (try go_simp)
    refine hK.out _ _ ?_ (fun hHeld => ?_)
    · exact HK6.out
    clear hK K
    (try simp only [Act.put, List.getElem_toArray, List.getElem_cons_zero, List.getElem_cons_succ, List.setIfInBounds_toArray, List.set_cons_zero, List.set_cons_succ])
    refine wpAnyH_take (i := 7) (v := ?_) rfl (by kernel_rfl) (by kernel_rfl) (by kernel_rfl) (fun _ _ _ h => h) (Or.inl ⟨by rfl, ?_⟩) (by assumption) ?_
    rotate_left
    · (intro w hSw; (try dsimp only at hSw); go_simp; (try with_reducible rfl))
    (try simp only [Act.put, List.getElem_toArray, List.getElem_cons_zero, List.getElem_cons_succ, List.setIfInBounds_toArray, List.set_cons_zero, List.set_cons_succ])
    refine wpAnyH_take (i := 8) (v := ?_) rfl (by kernel_rfl) (by kernel_rfl) (by kernel_rfl) (fun _ _ _ h => h) (Or.inl ⟨by rfl, ?_⟩) (by assumption) ?_
    rotate_left
    · (intro w hSw; (try dsimp only at hSw); go_simp; (try with_reducible rfl))
    (try simp only [Act.put, List.getElem_toArray, List.getElem_cons_zero, List.getElem_cons_succ, List.setIfInBounds_toArray, List.set_cons_zero, List.set_cons_succ])
    refine wpAnyH_done (by kernel_rfl) ?_ _
    (try simp only [Exit.then])
    go_wp2_with fail
    have hpl := lt_of_block HK4.out
    have hpp := HP.out
    have hsz := HB4.out.size
    refine bodyPost_ret (results_ctt rfl _ _ p _ _ _ _ rfl (setRow_heap _ _ _ _ _ _ HK5.out) Tryd.underlying23 rfl (by kernel_rfl)) rfl ?_
    unfold ReadPost
    rw [HFR.out]
    refine ⟨v1, _, rfl, R_fr HR1.out (fr_setRow' _ _ _) ?_, ?_, ?_⟩
    · rintro k (rfl | rfl) _ e
      · omega
      · simp at e; omega
    · rintro k (rfl | rfl)
      · exact hsz
      · simp; omega
    · exact (HB4.out.trans (HB5.out.mono HB4.out.size)).trans ((fr_setRow' _ _ _).to_below (HB4.out.trans (HB5.out.mono HB4.out.size)).size (fun k hk => by omega))
end Go.Proofs.YtnaklnehichhpaaDoor.P
