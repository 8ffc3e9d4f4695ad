/- The walk of shawmlaw22.FrameBack. -/
import Derived.Test.YtnaklnehichhpaaDoorKq
namespace Go.Proofs.YtnaklnehichhpaaDoor.P
open Go.RowKit Go.Shelf Go.Proofs.YtnaklnehichhpaaDoor.Bits Go.Proofs.YtnaklnehichhpaaDoorW.PrintWords Go.Proofs.YtnaklnehichhpaaDoorW.PrintLast Go.Proofs.YtnaklnehichhpaaDoorW.PrintMore
set_option linter.unusedVariables false
set_option linter.unusedSimpArgs false

/-- What a writer of frames says, by cases. -/
theorem fWrite_ok {h : HD} {body : List Int} (e : (fWrite h body).2 = 0) : OkH h ∧ body.length ≤ 2047 ∧ (fWrite h body).1 = wFrame h body := by
  unfold fWrite at *
  by_cases h1 : okH h = false
  · rw [if_pos h1] at e; simp at e
  · rw [if_neg h1] at e ⊢
    by_cases h2 : 2047 < body.length
    · rw [if_pos h2] at e; simp at e
    · rw [if_neg h2]
      exact ⟨(okH_iff h).1 (by simpa using h1), by omega, rfl⟩
theorem fWrite_bad {h : HD} {body : List Int} (e : (fWrite h body).2 ≠ 0) : (fWrite h body).1 = [] := by
  unfold fWrite at *
  by_cases h1 : okH h = false
  · rw [if_pos h1]
  · rw [if_neg h1] at e ⊢
    by_cases h2 : 2047 < body.length
    · rw [if_pos h2]
    · rw [if_neg h2] at e; simp at e
theorem back_plain (h : HD) (body pre post : List Int) (h8 : is8 body) (e : (fWrite h body).2 = 0) : fRead (pre ++ (fWrite h body).1 ++ post) (pre.length : Int) = (h, body, 0) := by
  obtain ⟨hok, hl, hw⟩ := fWrite_ok e
  rw [hw, fRead_nat _ _ (by simp)]
  rw [List.append_assoc, List.drop_left]
  exact read_back h body post hok h8 hl

abbrev twoObj (A0 : Option Addr) (n0 c0 : Nat) (A1 : Option Addr) (n1 c1 : Nat) : Obj := .cells #[.slice A0 n0 c0, .slice A1 n1 c1] 43 (0, 0)
set_option maxHeartbeats 4000000 in
set_option maxRecDepth 100000 in
theorem FrameBack_any (h : HD) (A : Option Addr) (c : Nat) (body : List Int) (A0 : Option Addr) (c0 : Nat) (B0 : List Int) (A1 : Option Addr) (c1 : Nat) (B1 : List Int) (w : World) (hg : HG w)
    (hC : Kd.C (Kd.int .u8) w A body.length body) (h8 : is8 body) (hC0 : Kd.C (Kd.int .u8) w A0 B0.length B0) (h80 : is8 B0) (hC1 : Kd.C (Kd.int .u8) w A1 B1.length B1) (h81 : is8 B1)
    (hl : body.length ≤ 9000000000000000000) (hl0 : B0.length ≤ 9000000000000000000) (hl1 : B1.length ≤ 9000000000000000000) (hc : body.length ≤ c) :
    Calls Tryd.prog 6 #[h.val, .slice A body.length c, .agg #[.slice A0 B0.length c0, .slice A1 B1.length c1]] w fun e w' => e = .returned (.bool true) ∧ Below w.heap.size w w' := by
  obtain ⟨w2, hw2⟩ : ∃ w2, w2 = (w.alloc (hdObj h)).alloc (twoObj A0 B0.length c0 A1 B1.length c1) := ⟨_, rfl⟩
  obtain ⟨p, hp⟩ : ∃ p, p = w.heap.size := ⟨_, rfl⟩
  have hb2 : Below w.heap.size w w2 := by rw [hw2]; exact below_alloc (below_alloc (Below.refl _ _) _) _
  have HP2 : Aside0 (w2.heap[p]? = some (hdObj h)) := ⟨by rw [hw2, hp]; exact alloc2_old w _ _⟩
  have HQ2 : Aside0 (w2.heap[p + 1]? = some (twoObj A0 B0.length c0 A1 B1.length c1)) := ⟨by rw [hw2, hp]; exact alloc2_new w _ _⟩
  have HW2 := Aside0.mk hw2
  have HP := Aside0.mk hp
  have HB2 := Aside0.mk hb2
  have HC2 := Aside0.mk (Kd.C_below hC hb2)
  have HC02 := Aside0.mk (Kd.C_below hC0 hb2)
  have HC12 := Aside0.mk (Kd.C_below hC1 hb2)
  have HG2 := Aside0.mk (hg.below hb2)
  have H8 := Aside0.mk h8
  have H80 := Aside0.mk h80
  have H81 := Aside0.mk h81
  have hwr := fun W hW hG => Write_any h A c body W hW h8 hG (by omega)
  have HBP := Aside0.mk (back_plain h body B0 B1 h8)
  have HFB := Aside0.mk (fun e => @fWrite_bad h body e)
  have HFO := Aside0.mk (fun e => @fWrite_ok h body e)
  generalize fWrite h body = fw at *
  obtain ⟨fb, fe⟩ := fw
  have HWR := Aside0.mk hwr
  have hcase : (2100 < body.length ∨ 2100 < B0.length ∨ 2100 < B1.length) ∨ (body.length ≤ 2100 ∧ B0.length ≤ 2100 ∧ B1.length ≤ 2100) := by omega
  obtain ⟨num, lossy, rate, ch, kind, count, back⟩ := h
  unfold HD.val at *
  dsimp only at *
  clear hg hC h8 hC0 h80 hC1 h81 hw2 hp hb2 hwr
  have HE : Aside0 ((w.alloc (.cells #[.int .i64 num, .bool lossy, .int .i64 rate, .int .i64 ch, .int .i64 kind, .int .i64 count, .int .i64 back] 23)).alloc (.cells #[.slice A0 B0.length c0, .slice A1 B1.length c1] 43) = w2) := ⟨HW2.out.symm⟩
  rcases hcase with hbig | ⟨hs, hs0, hs1⟩
  · obtain ⟨b1, hb1⟩ : ∃ b, b = decide ((2100 : Int) < (body.length : Int)) := ⟨_, rfl⟩
    obtain ⟨b2, hb2⟩ : ∃ b, b = decide ((2100 : Int) < (B0.length : Int)) := ⟨_, rfl⟩
    obtain ⟨b3, hb3⟩ : ∃ b, b = decide ((2100 : Int) < (B1.length : Int)) := ⟨_, rfl⟩
    have q1 : decide ((2100 : Int) < (body.length : Int)) = b1 := hb1.symm
    have q2 : decide ((2100 : Int) < (B0.length : Int)) = b2 := hb2.symm
    have q3 : decide ((2100 : Int) < (B1.length : Int)) = b3 := hb3.symm
    have hor : (b1 || b2 || b3) = true := by
      rw [hb1, hb2, hb3]
      simp
      omega
    clear hb1 hb2 hb3 hbig
    cases b1 <;> cases b2 <;> cases b3
    case false.false.false => cases hor
    all_goals
      clear hor
      go_enter Tryd.func6, Tryd.ntmps6
      go_wp2_with fail
      refine (awake_any _ (by first | (rw [HE.out]; exact HG2.out) | exact HG2.out)).mono ?_
      rintro e w9 ⟨rfl, hb⟩
      go_wp2_with fail
      go_ret
      refine ⟨rfl, ?_⟩
      rw [HE.out] at hb
      exact HB2.out.trans (hb.mono HB2.out.size)
  have q1 : decide ((2100 : Int) < (body.length : Int)) = false := by simp; omega
  have q2 : decide ((2100 : Int) < (B0.length : Int)) = false := by simp; omega
  have q3 : decide ((2100 : Int) < (B1.length : Int)) = false := by simp; omega
  go_enter Tryd.func6, Tryd.ntmps6
  go_wp2_with fail
  rw [HE.out, ← HP.out]
  refine (HWR.out w2 HC2.out HG2.out).mono ?_
  rintro e w3 ⟨v3, S3, rfl, hr, hs3, hb⟩
  obtain ⟨A3, c3, hv, hc3, hC3⟩ := Kd.R_reads hr
  subst hv
  have HB3 := Aside0.mk (HB2.out.trans (hb.mono HB2.out.size))
  have HP3 := Aside0.mk (blk_fr HP2.out (Fr.below hb (fun _ => False)) (fun h => h))
  have HQ3 := Aside0.mk (blk_fr HQ2.out (Fr.below hb (fun _ => False)) (fun h => h))
  have HC3 := Aside0.mk (Kd.C_below HC2.out hb)
  have HC03 := Aside0.mk (Kd.C_below HC02.out hb)
  have HC13 := Aside0.mk (Kd.C_below HC12.out hb)
  have HF3 := Aside0.mk hC3
  have HG3 := Aside0.mk (HG2.out.below hb)
  clear hr hs3 hb hc3 hC3 HP2 HQ2 HB2 HC2 HC02 HC12 HG2 HWR HW2 HE
  by_cases hfe : fe = 0
  case neg =>
    have q4 : (fe != 0) = true := by simp [hfe]
    have hnil : fb = [] := HFB.out hfe
    subst hnil
    clear hfe
    go_wp2_with fail
    refine (awake_any _ HG3.out).mono ?_
    rintro e w9 ⟨rfl, hb⟩
    have HB9 := Aside0.mk (HB3.out.trans (hb.mono HB3.out.size))
    clear hb
    go_wp2_with fail
    go_ret
    exact ⟨rfl, HB9.out⟩
  subst hfe
  obtain ⟨hok, hl20, hfb⟩ := HFO.out rfl
  have hlen : fb.length = 9 + body.length := by rw [hfb]; exact wFrame_length _ _
  have h8f : is8 fb := by rw [hfb]; exact wFrame_8 _ H8.out
  have HL := Aside0.mk hlen
  have H8F := Aside0.mk h8f
  clear hok hl20 hfb HFO HFB
  obtain ⟨v5, w5, hrun5, hr5, hg5⟩ := append_run (S := fun k => k = w3.heap.size) (w3.alloc noBytes).drew (.slice (some ⟨w3.heap.size, 0, none⟩) 0 0) [] B0 A0 B0.length c0 (Kd.R_drew (empty_R w3)) (Kd.C_drew (Kd.C_alloc HC03.out _)) (by simp; omega)
  rw [List.nil_append] at hr5
  have hb5 : Below w3.heap.size w3 w5 := (below_drew (below_alloc (Below.refl _ _) _)).grown hg5 (by simp) (fun k hk => by
    have : w3.heap.size = k := by simpa [Value.ownBlock] using hk
    omega)
  have hS5 : ∀ k, (k = w3.heap.size ∨ k = (w3.alloc noBytes).drew.heap.size) → w3.heap.size ≤ k := by rintro k (rfl | rfl) <;> simp
  have hb6' := hb5
  obtain ⟨A5, c5, hv5⟩ := Kd.R_slice hr5
  subst hv5
  obtain ⟨v6, w6, hrun6, hr6, hg6⟩ := append_run w5 _ B0 fb A3 fb.length c3 hr5 (Kd.C_below HF3.out hb5) (by omega)
  obtain ⟨L6, hL6⟩ : ∃ L6, L6 = B0 ++ fb := ⟨_, rfl⟩
  rw [← hL6] at hr6
  have hb6 : Below w3.heap.size w3 w6 := hb5.grown hg6 hb5.size (fun k e => hS5 k (hr5.1 k e))
  obtain ⟨A6, c6, hv6⟩ := Kd.R_slice hr6
  subst hv6
  obtain ⟨v7, w7, hrun7, hr7, hg7⟩ := append_run w6 _ L6 B1 A1 B1.length c1 hr6 (Kd.C_below HC13.out hb6) (by rw [hL6, List.length_append]; omega)
  obtain ⟨L7, hL7⟩ : ∃ L7, L7 = L6 ++ B1 := ⟨_, rfl⟩
  rw [← hL7] at hr7
  have hb7 : Below w3.heap.size w3 w7 := hb6.grown hg7 hb6.size (fun k e => by
    rcases hr6.1 k e with q | q
    · exact hS5 k q
    · have := hb5.size; omega)
  have hlen7 : L7.length = B0.length + (9 + body.length) + B1.length := by rw [hL7, hL6, List.length_append, List.length_append, hlen]
  have hrd := HBP.out rfl
  rw [← hL6, ← hL7] at hrd
  have h87 : is8 L7 := by rw [hL7, hL6]; exact is8_append (is8_append H80.out h8f) H81.out
  obtain ⟨A7, c7, hv7, hc7, hC7⟩ := Kd.R_reads hr7
  subst hv7
  have hq0 : ∀ W : World, W.heap[p + 1]? = some (twoObj A0 B0.length c0 A1 B1.length c1) → W.cell? ⟨p + 1, 0, none⟩ = some (.slice A0 B0.length c0) ∧ W.cell? ⟨p + 1, 1, none⟩ = some (.slice A1 B1.length c1) := fun W hW => ⟨by rw [cell_of_row W _ _ _ _ _ hW]; rfl, by rw [cell_of_row W _ _ _ _ _ hW]; rfl⟩
  have HQ0 := Aside0.mk hq0
  have HQ5 := Aside0.mk (blk_fr HQ3.out (Fr.below hb5 (fun _ => False)) (fun h => h))
  have HQ6 := Aside0.mk (blk_fr HQ3.out (Fr.below hb6 (fun _ => False)) (fun h => h))
  have HQ7 := Aside0.mk (blk_fr HQ3.out (Fr.below hb7 (fun _ => False)) (fun h => h))
  have HP7 := Aside0.mk (blk_fr HP3.out (Fr.below hb7 (fun _ => False)) (fun h => h))
  have HB7 := Aside0.mk (HB3.out.trans (hb7.mono HB3.out.size))
  have HG7 := Aside0.mk (HG3.out.below hb7)
  have HC7 := Aside0.mk (Kd.C_below HC3.out hb7)
  have HF7 := Aside0.mk (Kd.C_below HF3.out hb7)
  have HX7 := Aside0.mk hC7
  have HCX := Aside0.mk hc7
  have HL7 := Aside0.mk hlen7
  have HRD := Aside0.mk hrd
  have H87 := Aside0.mk h87
  have HRUN5 := Aside0.mk hrun5
  have HRUN6 := Aside0.mk hrun6
  have HRUN7 := Aside0.mk hrun7
  clear hrd h87 hL6 hL7 HBP hq0 hrun5 hrun6 hrun7 hr5 hr6 hr7 hg5 hg6 hg7 hb5 hb6 hb6' hb7 hS5 hlen hlen7 hc7 hC7 h8f HC3 HF3 HC03 HC13 HB3 HP3
  go_wp2_with fail
  refine wp_region_held_drew (S := fun w' => w'.heap[p + 1]? = some (twoObj A0 B0.length c0 A1 B1.length c1)) (by kernel_rfl) HQ3.out (fun hHeld => ?_)
  refine wpAnyH_take (i := 1) (v := ?_) rfl (by kernel_rfl) (by kernel_rfl) (by kernel_rfl) (fun _ _ _ h => h) (Or.inl ⟨by rfl, ?_⟩) (by assumption) ?_
  rotate_left
  · (intro w hSw; (try dsimp only at hSw); obtain ⟨z0, z1⟩ := HQ0.out w hSw; clear hSw; go_simp; (try with_reducible rfl))
  simp only [Act.put, List.setIfInBounds_toArray, List.set_cons_zero, List.set_cons_succ]
  refine wpAnyH_take (i := 2) (v := ?_) rfl (by kernel_rfl) (by kernel_rfl) (by kernel_rfl) (fun _ _ _ h => h) (Or.inl ⟨by rfl, ?_⟩) (by assumption) ?_
  rotate_left
  · (intro w hSw; (try dsimp only at hSw); obtain ⟨z0, z1⟩ := HQ0.out w hSw; clear hSw; go_simp; (try with_reducible rfl))
  simp only [Act.put, List.setIfInBounds_toArray, List.set_cons_zero, List.set_cons_succ]
  refine wpAnyH_take (i := 4) (v := ?_) rfl (by kernel_rfl) (by kernel_rfl) (by kernel_rfl) (fun _ _ _ h => h) (Or.inl ⟨by rfl, ?_⟩) (by assumption) ?_
  rotate_left
  · (intro w hSw; (try dsimp only at hSw); obtain ⟨z0, z1⟩ := HQ0.out w hSw; clear hSw; go_simp; (try with_reducible rfl))
  simp only [Act.put, List.setIfInBounds_toArray, List.set_cons_zero, List.set_cons_succ]
  refine wpAnyH_take (i := 6) (v := ?_) rfl (by kernel_rfl) (by kernel_rfl) (by kernel_rfl) (fun _ _ _ h => h) (Or.inl ⟨by rfl, ?_⟩) (by assumption) ?_
  rotate_left
  · (intro w hSw; (try dsimp only at hSw); obtain ⟨z0, z1⟩ := HQ0.out w hSw; clear hSw; go_simp; (try with_reducible rfl))
  simp only [Act.put, List.setIfInBounds_toArray, List.set_cons_zero, List.set_cons_succ]
  refine wpAnyH_take (i := 7) (v := ?_) rfl (by kernel_rfl) (by kernel_rfl) (by kernel_rfl) (fun _ _ _ h => h) (Or.inl ⟨by rfl, ?_⟩) (by assumption) ?_
  rotate_left
  · (intro w hSw; (try dsimp only at hSw); obtain ⟨z0, z1⟩ := HQ0.out w hSw; clear hSw; go_simp; (try with_reducible rfl))
  simp only [Act.put, List.setIfInBounds_toArray, List.set_cons_zero, List.set_cons_succ]
  refine wpAnyH_ready (rs := [0]) (by kernel_rfl) (by simp) ?_
  refine AllReadyH.cons rfl (fun K hK => ?_) AllReadyH.nil
  go_simp
  refine hK.out _ _ ?_ (fun hHeld => ?_)
  · exact blk_alloc' HQ3.out _
  clear hK K
  (try simp only [Act.put, List.setIfInBounds_toArray, List.set_cons_zero, List.set_cons_succ])
  refine wpAnyH_ready (rs := [3]) (by kernel_rfl) (by simp) ?_
  refine AllReadyH.cons rfl (fun K hK => ?_) AllReadyH.nil
  refine step_run_append (by rfl) _ _ _ (by rfl) _ _ (by rfl) (by rfl) HRUN5.out ?_
  (try go_simp)
  refine hK.out _ _ ?_ (fun hHeld => ?_)
  · exact HQ5.out
  clear hK K
  (try simp only [Act.put, List.setIfInBounds_toArray, List.set_cons_zero, List.set_cons_succ])
  refine wpAnyH_ready (rs := [5]) (by kernel_rfl) (by simp) ?_
  refine AllReadyH.cons rfl (fun K hK => ?_) AllReadyH.nil
  refine step_run_append (by rfl) _ _ _ (by rfl) _ _ (by rfl) (by rfl) HRUN6.out ?_
  (try go_simp)
  refine hK.out _ _ ?_ (fun hHeld => ?_)
  · exact HQ6.out
  clear hK K
  (try simp only [Act.put, List.setIfInBounds_toArray, List.set_cons_zero, List.set_cons_succ])
  refine wpAnyH_ready (rs := [8]) (by kernel_rfl) (by simp) ?_
  refine AllReadyH.cons rfl (fun K hK => ?_) AllReadyH.nil
  refine step_run_append (by rfl) _ _ _ (by rfl) _ _ (by rfl) (by rfl) HRUN7.out ?_
  (try go_simp)
  refine hK.out _ _ ?_ (fun hHeld => ?_)
  · exact HQ7.out
  clear hK K
  (try simp only [Act.put, List.setIfInBounds_toArray, List.set_cons_zero, List.set_cons_succ])
  refine wpAnyH_ready (rs := [9]) (by kernel_rfl) (by simp) ?_
  refine AllReadyH.cons rfl (fun K hK => ?_) AllReadyH.nil
  go_simp
  refine hK.out _ _ ?_ (fun hHeld => ?_)
  · exact HQ7.out
  clear hK K
  (try simp only [Act.put, List.setIfInBounds_toArray, List.set_cons_zero, List.set_cons_succ])
  refine wpAnyH_done (by kernel_rfl) ?_ _
  (try simp only [Exit.then])
  obtain ⟨z0, z1⟩ := HQ0.out w7 HQ7.out
  go_wp2_with fail
  clear z0 z1
  have cc := Read_any A7 c7 L7 (B0.length : Int) w7 HX7.out H87.out (by have := HL7.out; omega) HCX.out HG7.out
  unfold ReadPost at cc
  rw [HRD.out] at cc
  unfold HD.val at cc
  refine cc.mono ?_
  clear cc
  rintro e w8 ⟨v8, S8, rfl, hr, hs8, hb⟩
  obtain ⟨A8, c8, hv8, hc8, hC8⟩ := Kd.R_reads hr
  subst hv8
  obtain ⟨w9, hw9⟩ : ∃ w9, w9 = w8.alloc (.cells #[.int .i64 num, .bool lossy, .int .i64 rate, .int .i64 ch, .int .i64 kind, .int .i64 count, .int .i64 back] 23) := ⟨_, rfl⟩
  obtain ⟨x, hx⟩ : ∃ x, x = w8.heap.size := ⟨_, rfl⟩
  have hbb : Below w8.heap.size w8 w9 := by rw [hw9]; exact below_alloc (Below.refl _ _) _
  have hb9 := hb.trans (hbb.mono hb.size)
  have hp9 := blk_fr HP7.out (Fr.below hb9 (fun _ => False)) (fun h => h)
  have hx9 : w9.heap[x]? = some (.cells #[.int .i64 num, .bool lossy, .int .i64 rate, .int .i64 ch, .int .i64 kind, .int .i64 count, .int .i64 back] 23 (0, 0)) := by rw [hw9, hx]; exact World.alloc_heap_new w8 _
  have cp0 : w9.cell? ⟨p, 0, none⟩ = some (.int .i64 num) := by rw [cell_of_row w9 p 0 _ _ (0, 0) hp9]; rfl
  have cp1 : w9.cell? ⟨p, 1, none⟩ = some (.bool lossy) := by rw [cell_of_row w9 p 1 _ _ (0, 0) hp9]; rfl
  have cp2 : w9.cell? ⟨p, 2, none⟩ = some (.int .i64 rate) := by rw [cell_of_row w9 p 2 _ _ (0, 0) hp9]; rfl
  have cp3 : w9.cell? ⟨p, 3, none⟩ = some (.int .i64 ch) := by rw [cell_of_row w9 p 3 _ _ (0, 0) hp9]; rfl
  have cp4 : w9.cell? ⟨p, 4, none⟩ = some (.int .i64 kind) := by rw [cell_of_row w9 p 4 _ _ (0, 0) hp9]; rfl
  have cp5 : w9.cell? ⟨p, 5, none⟩ = some (.int .i64 count) := by rw [cell_of_row w9 p 5 _ _ (0, 0) hp9]; rfl
  have cp6 : w9.cell? ⟨p, 6, none⟩ = some (.int .i64 back) := by rw [cell_of_row w9 p 6 _ _ (0, 0) hp9]; rfl
  have cx0 : w9.cell? ⟨x, 0, none⟩ = some (.int .i64 num) := by rw [cell_of_row w9 x 0 _ _ (0, 0) hx9]; rfl
  have cx1 : w9.cell? ⟨x, 1, none⟩ = some (.bool lossy) := by rw [cell_of_row w9 x 1 _ _ (0, 0) hx9]; rfl
  have cx2 : w9.cell? ⟨x, 2, none⟩ = some (.int .i64 rate) := by rw [cell_of_row w9 x 2 _ _ (0, 0) hx9]; rfl
  have cx3 : w9.cell? ⟨x, 3, none⟩ = some (.int .i64 ch) := by rw [cell_of_row w9 x 3 _ _ (0, 0) hx9]; rfl
  have cx4 : w9.cell? ⟨x, 4, none⟩ = some (.int .i64 kind) := by rw [cell_of_row w9 x 4 _ _ (0, 0) hx9]; rfl
  have cx5 : w9.cell? ⟨x, 5, none⟩ = some (.int .i64 count) := by rw [cell_of_row w9 x 5 _ _ (0, 0) hx9]; rfl
  have cx6 : w9.cell? ⟨x, 6, none⟩ = some (.int .i64 back) := by rw [cell_of_row w9 x 6 _ _ (0, 0) hx9]; rfl
  have heq : ∀ W : World, (binOp .eql 23 (.agg #[.int .i64 num, .bool lossy, .int .i64 rate, .int .i64 ch, .int .i64 kind, .int .i64 count, .int .i64 back]) (.agg #[.int .i64 num, .bool lossy, .int .i64 rate, .int .i64 ch, .int .i64 kind, .int .i64 count, .int .i64 back])).run Tryd.prog W = .ok (.bool true) W := by
    intro W
    have := eql_hd ⟨num, lossy, rate, ch, kind, count, back⟩ ⟨num, lossy, rate, ch, kind, count, back⟩ W
    rw [decide_eq_true rfl] at this
    exact this
  have heq2 : ((fb.length : Int) == 9 + (body.length : Int)) = true := by have := HL.out; simp; omega
  have HC9 := Aside0.mk (Kd.C_below HC7.out hb9)
  have HY9 := Aside0.mk (Kd.C_below hC8 hbb)
  have HB9 := Aside0.mk (HB7.out.trans (hb9.mono HB7.out.size))
  have HG9 := Aside0.mk (HG7.out.below hb9)
  subst hw9
  subst hx
  clear hr hs8 hb hc8 hC8 hbb hb9 hp9 hx9 HQ3 HQ5 HQ6 HQ7 HRUN5 HRUN6 HRUN7 HQ0 HX7 HF7 HC7 HB7 HP7
  go_wp2_with fail
  have cc := Same_any A8 A body.length body.length c8 c body body _ HY9.out HC9.out (by omega) (by omega)
  rw [decide_eq_true rfl] at cc
  refine cc.mono ?_
  clear cc
  rintro e w10 ⟨rfl, hd⟩
  have HB10 := Aside0.mk (HB9.out.trans (hd.below.mono HB9.out.size))
  have HG10 := Aside0.mk (HG9.out.below hd.below)
  clear hd
  go_wp2_with fail
  refine (awake_any _ HG10.out).mono ?_
  rintro e w11 ⟨rfl, hb⟩
  have HB11 := Aside0.mk (HB10.out.trans (hb.mono HB10.out.size))
  clear hb
  go_wp2_with fail
  go_ret
  exact ⟨rfl, HB11.out⟩
end Go.Proofs.YtnaklnehichhpaaDoor.P
