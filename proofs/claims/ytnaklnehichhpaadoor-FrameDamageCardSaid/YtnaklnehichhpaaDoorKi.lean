/- The contract of frame.read. -/
import Derived.Test.YtnaklnehichhpaaDoorKh
import Derived.Test.YtnaklnehichhpaaDoorBp
namespace Go.Proofs.YtnaklnehichhpaaDoor.P
open Go.RowKit Go.Shelf Go.Proofs.YtnaklnehichhpaaDoor.Bits Go.Proofs.YtnaklnehichhpaaDoorW.PrintWords Go.Proofs.YtnaklnehichhpaaDoorW.PrintLast Go.Proofs.YtnaklnehichhpaaDoorW.PrintMore
set_option linter.unusedVariables false
set_option linter.unusedSimpArgs false
attribute [local go_sem ↓] Go.wp_at_zero Go.wp_at_succ

theorem fReadB_eq (B : List Int) : fReadB B = if B.length < 9 then (HD0, [], 3) else if pErr B ≠ 0 then (HD0, [], pErr B) else if B.length < 9 + (gv B 34 11).toNat then (HD0, [], 3) else if sumB (B.take (9 + (gv B 34 11).toNat)) ≠ 0 then (HD0, [], 7) else (hdOf B, (B.drop 7).take (gv B 34 11).toNat, 0) := by
  unfold fReadB
  by_cases h0 : B.length < 9
  · rw [if_pos h0, if_pos h0]
  rw [if_neg h0, if_neg h0]
  by_cases h1 : gv B 0 12 ≠ 4013
  · have e : pErr B = 8 := by unfold pErr; rw [if_pos h1]
    rw [if_pos h1, if_pos (by rw [e]; decide), e]
  by_cases h2 : gv B 54 2 ≠ 0 ∨ 9 ≤ gv B 20 4
  · have e : pErr B = 4 := by unfold pErr; rw [if_neg h1, if_pos h2]
    rw [if_neg h1, if_pos h2, if_pos (by rw [e]; decide), e]
  by_cases h3 : okH (hdOf B) = false
  · have e : pErr B = 4 := by unfold pErr; rw [if_neg h1, if_neg h2, if_pos h3]
    rw [if_neg h1, if_neg h2, if_pos h3, if_pos (by rw [e]; decide), e]
  have e : pErr B = 0 := by unfold pErr; rw [if_neg h1, if_neg h2, if_neg h3]
  rw [if_neg h1, if_neg h2, if_neg h3, if_neg (show ¬ pErr B ≠ 0 by rw [e]; decide)]
/-- A store of a row into a block, as a step of a region. -/
theorem step_store_row {P : Program} {ops : Array Oper} {o : Oper} {a : Act} {w : World} {K : Act → World → Prop} {Q : Exit → Act → World → Prop} {E : Prop} (hgd : o.guard = none) (ty : TypeId) (x y : Operand) (ho : o.op = .store ty x y)
    (g : Nat) (cells : Array Value) (hx : a.eval x = .pointer (some ⟨g, 0, none⟩)) (hy : a.eval y = .agg cells)
    (t : TypeId) (old : Array Value) (hg : w.heap[g]? = some (.cells old t (0, 0))) (hi : (P.info? ty).map (·.size) = some cells.size) (hold : old.size = cells.size) (h1 : cells.all (·.oneCell') = true)
    (h : K (a.put o.dst undef) (w.setRow g cells)) : if Region.wanted o (yielded ops a.tmps) = true then Oper.wp P o a w K Q else E := by
  have hw : Region.wanted o (yielded ops a.tmps) = true := by simp [Region.wanted, hgd]
  rw [if_pos hw]
  exact wp_store_row ty x y ho g cells hx hy t old hg hi hold h1 h
/-- What read gives: a header and a body; or it leaves by a panic. -/
def RdBPost (w : World) (B : List Int) (e : Ending) (w' : World) : Prop :=
  Below w.heap.size w w' ∧ if (fReadB B).2.2 = 0 then ∃ v S', e = .returned (.tuple #[(fReadB B).1.val, v]) ∧ RB S' w' v (fReadB B).2.1 ∧ (∀ k, S' k → w.heap.size ≤ k) else e = .panicked [{ v := errV (fReadB B).2.2, recovered := false }]

set_option maxHeartbeats 8000000 in
set_option maxRecDepth 100000 in
theorem read_any (A : Option Addr) (c : Nat) (B : List Int) (w : World) (hC : Kd.C (Kd.int .u8) w A B.length B) (h8 : is8 B) (hBl : B.length ≤ 1000000000) (hc : B.length ≤ c) (hg : HG w) :
    Calls Tryd.prog 37 #[.slice A B.length c] w (RdBPost w B) := by
  have HPO : Aside0 (∀ e w', RdBPost w B e w' ↔ (Below w.heap.size w w' ∧ if (fReadB B).2.2 = 0 then ∃ v S', e = .returned (.tuple #[(fReadB B).1.val, v]) ∧ RB S' w' v (fReadB B).2.1 ∧ (∀ k, S' k → w.heap.size ≤ k) else e = .panicked [{ v := errV (fReadB B).2.2, recovered := false }])) := ⟨fun e w' => Iff.rfl⟩
  have HEQ := Aside0.mk (fReadB_eq B)
  have HC := Aside0.mk hC
  have H8 := Aside0.mk h8
  have HGW := Aside0.mk hg
  obtain ⟨wa, hwa⟩ : ∃ wa, wa = w.alloc (.cells #[.int .i64 0, .bool false, .int .i64 0, .int .i64 0, .int .i64 0, .int .i64 0, .int .i64 0] 23) := ⟨_, rfl⟩
  have hba : Below w.heap.size w wa := by rw [hwa]; exact below_alloc (Below.refl _ _) _
  have hk2 : wa.heap[w.heap.size]? = some (.cells #[.int .i64 0, .bool false, .int .i64 0, .int .i64 0, .int .i64 0, .int .i64 0, .int .i64 0] 23 (0, 0)) := by rw [hwa]; exact World.alloc_heap_new w _
  obtain ⟨b2, hb2⟩ : ∃ b2, b2 = w.heap.size := ⟨_, rfl⟩
  rw [← hb2] at hk2
  have HWA := Aside0.mk hwa
  have HB2 := Aside0.mk hb2
  have HK2 := Aside0.mk hk2
  have HBA := Aside0.mk hba
  clear hC h8 hg hwa hba hk2 hb2
  by_cases h9 : B.length < 9
  · have d1 : decide ((B.length : Int) < 9) = true := by simp; omega
    go_enter Tryd.func37, Tryd.ntmps37
    go_wp2_with fail
    rw [← HWA.out, ← HB2.out]
    refine (refuse_yes 3 wa).mono ?_
    rintro e w9 ⟨rfl, hw⟩
    obtain rfl := hw.symm
    go_wp2_with fail
    refine ⟨rfl, (HPO.out _ _).2 ⟨HBA.out, ?_⟩⟩
    rw [HEQ.out, if_pos h9]
    rfl
  have d1 : decide ((B.length : Int) < 9) = false := by simp; omega
  have hpar := parsed_any A c B wa (Kd.C_below HC.out HBA.out) H8.out (by omega) hBl hc (HGW.out.below HBA.out)
  rw [if_neg h9] at HEQ
  by_cases hpe : pErr B = 0
  case neg =>
    have HPA : Aside0 (Calls Tryd.prog 54 #[.slice A B.length c] wa fun e w' => Below wa.heap.size wa w' ∧ e = .panicked [{ v := errV (pErr B), recovered := false }]) := ⟨hpar.mono fun e w' q => by unfold ParsedPost at q; rwa [if_neg hpe] at q⟩
    rw [if_pos hpe] at HEQ
    have HPE := Aside0.mk hpe
    clear hpar hpe
    go_enter Tryd.func37, Tryd.ntmps37
    go_wp2_with fail
    rw [← HWA.out, ← HB2.out]
    refine (refuse_no 3 wa).mono ?_
    rintro e w9 ⟨rfl, hw⟩
    obtain rfl := hw.symm
    go_wp2_with fail
    refine HPA.out.mono ?_
    rintro e w1 ⟨hb, rfl⟩
    have HB1 := Aside0.mk (HBA.out.trans (hb.mono HBA.out.size))
    clear hb
    go_wp2_with fail
    refine ⟨rfl, (HPO.out _ _).2 ⟨HB1.out, ?_⟩⟩
    rw [HEQ.out]
    dsimp only
    rw [if_neg HPE.out]
  have HPA : Aside0 (Calls Tryd.prog 54 #[.slice A B.length c] wa fun e w' => Below wa.heap.size wa w' ∧ e = .returned (.tuple #[(hdOf B).val, .int .i64 (gv B 34 11)])) := ⟨hpar.mono fun e w' q => by unfold ParsedPost at q; rwa [if_pos hpe] at q⟩
  rw [if_neg (by rw [hpe]; simp)] at HEQ
  have hgb := gv_bound B 34 11
  obtain ⟨m, hm⟩ : ∃ m : Nat, gv B 34 11 = (m : Int) := ⟨(gv B 34 11).toNat, by omega⟩
  have hm11 : m < 2048 := by simp only [Int.reducePow] at hgb; omega
  rw [hm] at HPA HEQ
  rw [Int.toNat_natCast] at HEQ
  generalize hHD : hdOf B = hd at *
  obtain ⟨num, lossy, rate, ch, kind, count, back⟩ := hd
  unfold HD.val at HPA
  dsimp only at HPA
  clear hpar hpe hgb hm hHD
  go_enter Tryd.func37, Tryd.ntmps37
  go_wp2_with fail
  rw [← HWA.out, ← HB2.out]
  refine (refuse_no 3 wa).mono ?_
  rintro e w9 ⟨rfl, hw⟩
  obtain rfl := hw.symm
  go_wp2_with fail
  refine HPA.out.mono ?_
  rintro e w1 ⟨hb, rfl⟩
  have hb1 := HBA.out.trans (hb.mono HBA.out.size)
  have hk21 := blk_fr HK2.out (Fr.below hb (fun _ => False)) (fun h => h)
  obtain ⟨w2, hw2⟩ : ∃ w2, w2 = w1.alloc (.cells #[.int .i64 num, .bool lossy, .int .i64 rate, .int .i64 ch, .int .i64 kind, .int .i64 count, .int .i64 back] 23) := ⟨_, rfl⟩
  obtain ⟨b4, hb4⟩ : ∃ b4, b4 = w1.heap.size := ⟨_, rfl⟩
  have hbb : Below w1.heap.size w1 w2 := by rw [hw2]; exact below_alloc (Below.refl _ _) _
  have HK4 : Aside0 (w2.heap[b4]? = some (.cells #[.int .i64 num, .bool lossy, .int .i64 rate, .int .i64 ch, .int .i64 kind, .int .i64 count, .int .i64 back] 23 (0, 0))) := ⟨by rw [hw2, hb4]; exact World.alloc_heap_new w1 _⟩
  have HK22 := Aside0.mk (blk_fr hk21 (Fr.below hbb (fun _ => False)) (fun h => h))
  have HBB := Aside0.mk (hb1.trans (hbb.mono hb1.size))
  have HC2 := Aside0.mk (Kd.C_below HC.out HBB.out)
  have HSZ1 : Aside0 (w.heap.size ≤ w1.heap.size) := ⟨hb1.size⟩
  have HB2L : Aside0 (b2 < w1.heap.size) := ⟨lt_of_block hk21⟩
  have HW2 := Aside0.mk hw2
  have HB4 := Aside0.mk hb4
  clear hb hb1 hk21 hw2 hb4 hbb HPA HK2 HBA HC
  by_cases hs : B.length < 9 + m
  · have d2 : decide ((B.length : Int) < 7 + (m : Int) + 2) = true := by simp; omega
    go_wp2_with fail
    rw [← HW2.out]
    refine (refuse_yes 3 w2).mono ?_
    rintro e w9 ⟨rfl, hw⟩
    obtain rfl := hw.symm
    go_wp2_with fail
    refine ⟨rfl, (HPO.out _ _).2 ⟨HBB.out, ?_⟩⟩
    rw [HEQ.out, if_pos hs]
    rfl
  have d2 : decide ((B.length : Int) < 7 + (m : Int) + 2) = false := by simp; omega
  rw [if_neg hs] at HEQ
  have hsl : ∀ W : World, (Instr.slice 24 (.slice A B.length c) none (some (.int .i64 (7 + (m : Int) + 2))) none).run Tryd.prog W = .ok (.slice A (9 + m) c) W := by
    intro W
    have := cut_to (P := Tryd.prog) 24 5 .i64 Tryd.underlying24 (i := _) rfl A B.length c (7 + (m : Int) + 2) (by omega) (by omega) hc W
    rw [show (7 + (m : Int) + 2).toNat = 9 + m by omega] at this
    simpa using this
  have hCt := Kd.C_take HC2.out (show 9 + m ≤ B.length by omega)
  have hl : (B.take (9 + m)).length = 9 + m := by rw [List.length_take]; omega
  have hcrc := Crc16_any A (9 + m) c (B.take (9 + m)) w2 (by have := hCt; rwa [hl] at this) (fun b hb => H8.out b (List.mem_of_mem_take hb)) (by omega)
  rw [show crc16 (ofB (B.take (9 + m)) (8 * (9 + m))) = sumB (B.take (9 + m)) by unfold sumB; rw [hl]] at hcrc
  generalize hsum : sumB (B.take (9 + m)) = sm at *
  have HCR := Aside0.mk hcrc
  clear hCt hl hcrc hsum
  go_wp2_with fail
  rw [← HW2.out, ← HB4.out]
  refine (refuse_no 3 w2).mono ?_
  rintro e w9 ⟨rfl, hw⟩
  obtain rfl := hw.symm
  go_wp2_with fail
  refine HCR.out.mono ?_
  rintro e w3 ⟨rfl, hb3⟩
  have HB3 := Aside0.mk (HBB.out.trans (hb3.mono HBB.out.size))
  have HK43 := Aside0.mk (blk_fr HK4.out (Fr.below hb3 (fun _ => False)) (fun h => h))
  have HK23 := Aside0.mk (blk_fr HK22.out (Fr.below hb3 (fun _ => False)) (fun h => h))
  have HC3 := Aside0.mk (Kd.C_below HC2.out hb3)
  clear hb3 HCR HK4 HK22 HC2
  by_cases hz : sm = 0
  case neg =>
    have q1 : ((sm : Int) != 0) = true := bne_iff_ne.2 (by omega)
    go_wp2_with fail
    refine (refuse_yes 7 w3).mono ?_
    rintro e w9 ⟨rfl, hw⟩
    obtain rfl := hw.symm
    go_wp2_with fail
    refine ⟨rfl, (HPO.out _ _).2 ⟨HB3.out, ?_⟩⟩
    rw [HEQ.out, if_pos hz]
    rfl
  subst hz
  rw [if_neg (by simp)] at HEQ
  go_wp2_with fail
  refine (refuse_no 7 w3).mono ?_
  rintro e w9 ⟨rfl, hw⟩
  obtain rfl := hw.symm
  clear hsl
  obtain ⟨A', hA'⟩ : ∃ A', A' = (if c = 7 then A else A.map (·.add (7 * 1))) := ⟨_, rfl⟩
  have hsl2 : ∀ W : World, (Instr.slice 24 (.slice A B.length c) (some (.int .i64 7)) (some (.int .i64 (7 + (m : Int)))) none).run Tryd.prog W = .ok (.slice A' m (c - 7)) W := by
    intro W
    have := cut_mid (P := Tryd.prog) 24 5 .i64 .i64 Tryd.underlying24 (i := _) rfl 1 rfl A B.length c 7 (7 + (m : Int)) (by omega) (by omega) (by omega) hc W
    rw [show (7 + (m : Int)).toNat - (7 : Int).toNat = m by omega, show (7 : Int).toNat = 7 from rfl, ← hA'] at this
    exact this
  have hbe : (B.take (7 + m)).drop 7 = (B.drop 7).take m := by rw [List.drop_take]; congr 1; omega
  have hC' := Kd.C_mid (lo := 7) (hi := 7 + m) HC3.out (by omega) (by omega) hc
  rw [hbe] at hC'
  have hbl : ((B.drop 7).take m).length = m := by rw [List.length_take, List.length_drop]; omega
  rw [hbl] at hC'
  have hC2 : Kd.C (Kd.int .u8) w3 A' m ((B.drop 7).take m) := by rw [hA']; exact hC'
  generalize (B.drop 7).take m = body at *
  obtain ⟨v1, w5, hrun, hr1, hg1⟩ := append_run (S := fun k => k = w3.heap.size) (w3.alloc noBytes).drew (.slice (some ⟨w3.heap.size, 0, none⟩) 0 0) [] body A' m (c - 7) (Kd.R_drew (empty_R w3)) (Kd.C_drew (Kd.C_alloc hC2 _)) (by simp; omega)
  rw [List.nil_append] at hr1
  have hb5 : Below w3.heap.size w3 w5 := (below_drew (below_alloc (Below.refl _ _) _)).grown hg1 (by simp) (fun k hk => by
    have : w3.heap.size = k := by simpa [Value.ownBlock] using hk
    omega)
  have hk4 := blk_fr HK43.out (Fr.below hb5 (fun _ => False)) (fun h => h)
  have hk2 := blk_fr HK23.out (Fr.below hb5 (fun _ => False)) (fun h => h)
  have hne24 : b2 ≠ b4 := by have h1 := HB4.out; have h2 := HB2.out; have h3 := lt_of_block HK43.out; have h4 : w.heap.size ≤ w1.heap.size := HSZ1.out; have h5 : b2 < w1.heap.size := HB2L.out; omega
  have hw7 : IntKind.i64.wrap (7 + (m : Int)) = 7 + (m : Int) := IntWalk.i64_in _ (by omega)
  have HRUN := Aside0.mk hrun
  have HR1 := Aside0.mk hr1
  have HB5 := Aside0.mk hb5
  have HK2 := Aside0.mk hk2
  have HK4F := Aside0.mk hk4
  have HK4G : Aside0 ((w5.setRow b2 #[.int .i64 num, .bool lossy, .int .i64 rate, .int .i64 ch, .int .i64 kind, .int .i64 count, .int .i64 back]).heap[b4]? = some (.cells #[.int .i64 num, .bool lossy, .int .i64 rate, .int .i64 ch, .int .i64 kind, .int .i64 count, .int .i64 back] 23 (0, 0))) := ⟨(setRow_other w5 b2 b4 _ (fun e => hne24 e.symm)).trans hk4⟩
  clear hA' hbe hC' hC2 hbl hrun hr1 hg1 hb5 hk4 hk2
  go_wp2_with fail
  refine wp_region_held_drew (S := fun w' => w'.heap[b4]? = some (.cells #[.int .i64 num, .bool lossy, .int .i64 rate, .int .i64 ch, .int .i64 kind, .int .i64 count, .int .i64 back] 23 (0, 0))) (by kernel_rfl) HK43.out (fun hHeld => ?_)
  refine wpAnyH_take (i := 0) (v := ?_) rfl (by kernel_rfl) (by kernel_rfl) (by kernel_rfl) (fun _ _ _ h => h) (Or.inl ⟨by rfl, ?_⟩) (by assumption) ?_
  rotate_left
  · (intro w hSw; (try dsimp only at hSw); have z0 : w.cell? ⟨b4, 0, none⟩ = some (Value.int .i64 num) := (by rw [cell_of_row _ _ _ _ _ _ hSw]; rfl); have z1 : w.cell? ⟨b4, 1, none⟩ = some (Value.bool lossy) := (by rw [cell_of_row _ _ _ _ _ _ hSw]; rfl); have z2 : w.cell? ⟨b4, 2, none⟩ = some (Value.int .i64 rate) := (by rw [cell_of_row _ _ _ _ _ _ hSw]; rfl); have z3 : w.cell? ⟨b4, 3, none⟩ = some (Value.int .i64 ch) := (by rw [cell_of_row _ _ _ _ _ _ hSw]; rfl); have z4 : w.cell? ⟨b4, 4, none⟩ = some (Value.int .i64 kind) := (by rw [cell_of_row _ _ _ _ _ _ hSw]; rfl); have z5 : w.cell? ⟨b4, 5, none⟩ = some (Value.int .i64 count) := (by rw [cell_of_row _ _ _ _ _ _ hSw]; rfl); have z6 : w.cell? ⟨b4, 6, none⟩ = some (Value.int .i64 back) := (by rw [cell_of_row _ _ _ _ _ _ hSw]; rfl); go_simp; (try with_reducible rfl))
  simp only [Act.put, List.setIfInBounds_toArray, List.set_cons_zero, List.set_cons_succ]
  refine wpAnyH_take (i := 2) (v := ?_) rfl (by kernel_rfl) (by kernel_rfl) (by kernel_rfl) (fun _ _ _ h => h) (Or.inl ⟨by rfl, ?_⟩) (by assumption) ?_
  rotate_left
  · (intro w hSw; (try dsimp only at hSw); go_simp; (try with_reducible rfl))
  simp only [Act.put, List.setIfInBounds_toArray, List.set_cons_zero, List.set_cons_succ]
  refine wpAnyH_take (i := 3) (v := ?_) rfl (by kernel_rfl) (by kernel_rfl) (by kernel_rfl) (fun _ _ _ h => h) (Or.inl ⟨by rfl, ?_⟩) (by assumption) ?_
  rotate_left
  · (intro w hSw; (try dsimp only at hSw); go_simp; (try with_reducible rfl))
  simp only [Act.put, List.setIfInBounds_toArray, List.set_cons_zero, List.set_cons_succ]
  refine wpAnyH_take (i := 4) (v := ?_) rfl (by kernel_rfl) (by kernel_rfl) (by kernel_rfl) (fun _ _ _ h => h) (Or.inl ⟨by rfl, ?_⟩) (by assumption) ?_
  rotate_left
  · (intro w hSw; (try dsimp only at hSw); go_simp; (try with_reducible rfl))
  simp only [Act.put, List.setIfInBounds_toArray, List.set_cons_zero, List.set_cons_succ]
  refine wpAnyH_take (i := 5) (v := ?_) rfl (by kernel_rfl) (by kernel_rfl) (by kernel_rfl) (fun _ _ _ h => h) (Or.inl ⟨by rfl, ?_⟩) (by assumption) ?_
  rotate_left
  · (intro w hSw; (try dsimp only at hSw); go_simp; (try with_reducible rfl))
  simp only [Act.put, List.setIfInBounds_toArray, List.set_cons_zero, List.set_cons_succ]
  refine wpAnyH_ready (rs := [1]) (by kernel_rfl) (by simp) ?_
  refine AllReadyH.cons rfl (fun K hK => ?_) AllReadyH.nil
  go_simp
  refine hK.out _ _ ?_ (fun hHeld => ?_)
  · exact blk_alloc' HK43.out _
  clear hK K
  (try simp only [Act.put, List.setIfInBounds_toArray, List.set_cons_zero, List.set_cons_succ])
  refine wpAnyH_ready (rs := [6]) (by kernel_rfl) (by simp) ?_
  refine AllReadyH.cons rfl (fun K hK => ?_) AllReadyH.nil
  refine step_run_append (by rfl) _ _ _ (by rfl) _ _ (by rfl) (by rfl) HRUN.out ?_
  (try go_simp)
  refine hK.out _ _ ?_ (fun hHeld => ?_)
  · exact HK4F.out
  clear hK K
  (try simp only [Act.put, List.setIfInBounds_toArray, List.set_cons_zero, List.set_cons_succ])
  refine wpAnyH_ready (rs := [7]) (by kernel_rfl) (by simp) ?_
  refine AllReadyH.cons rfl (fun K hK => ?_) AllReadyH.nil
  refine step_store_row (by rfl) _ _ _ (by rfl) b2 #[.int .i64 num, .bool lossy, .int .i64 rate, .int .i64 ch, .int .i64 kind, .int .i64 count, .int .i64 back] (by rfl) (by rfl) _ _ HK2.out (by kernel_rfl) rfl (by kernel_rfl) ?_
  (try go_simp)
  refine hK.out _ _ ?_ (fun hHeld => ?_)
  · exact HK4G.out
  clear hK K
  (try simp only [Act.put, List.setIfInBounds_toArray, List.set_cons_zero, List.set_cons_succ])
  refine wpAnyH_ready (rs := [8]) (by kernel_rfl) (by simp) ?_
  refine AllReadyH.cons rfl (fun K hK => ?_) AllReadyH.nil
  go_simp
  refine hK.out _ _ ?_ (fun hHeld => ?_)
  · exact HK4G.out
  clear hK K
  refine wpAnyH_done (by kernel_rfl) ?_ _
  (try simp only [Exit.then])
  go_wp2_with fail
  have hb2l : b2 < w3.heap.size := lt_of_block HK23.out
  have hbw : w.heap.size ≤ b2 := by have := HB2.out; omega
  have hbf : Below w.heap.size w (w5.setRow b2 #[.int .i64 num, .bool lossy, .int .i64 rate, .int .i64 ch, .int .i64 kind, .int .i64 count, .int .i64 back]) := (HB3.out.trans (HB5.out.mono HB3.out.size)).trans ((fr_setRow' _ _ _).to_below (HB3.out.trans (HB5.out.mono HB3.out.size)).size (fun j hj => by omega))
  have hsz := HB3.out.size
  refine bodyPost_ret (results_ct rfl _ _ b2 _ _ _ _ rfl (setRow_heap _ _ _ _ _ _ HK2.out) Tryd.underlying23 rfl (by kernel_rfl)) rfl ?_
  refine (HPO.out _ _).2 ⟨hbf, ?_⟩
  rw [HEQ.out]
  dsimp only
  rw [if_pos rfl]
  refine ⟨v1, _, rfl, R_fr HR1.out (fr_setRow' _ _ _) ?_, ?_⟩
  · rintro k (rfl | rfl) _ e
    · omega
    · simp at e; omega
  · rintro k (rfl | rfl)
    · omega
    · simp; omega
end Go.Proofs.YtnaklnehichhpaaDoor.P
