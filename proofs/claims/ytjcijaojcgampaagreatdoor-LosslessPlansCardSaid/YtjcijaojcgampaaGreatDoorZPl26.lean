/- The contract of the closure of linear.reflector. The plain words of linear.Reflect: bounds. The weights of a filter, and what they predict: plain words, and the contract of predictor.at. The contracts of linear.Residual and linear.Restore. The contract of linear.Restore. The contract of linear.Reflect. -/
import Derived.Deep.DeepCutAuto
import Derived.Test.YtjcijaojcgampaaGreatDoorZPl25
import Derived.Test.YtjcijaojcgampaaGreatDoorZPl10
import Derived.Test.YtjcijaojcgampaaGreatDoorZPl24
set_option linter.unusedVariables false
set_option linter.unusedSimpArgs false
set_option maxHeartbeats 16000000
set_option maxRecDepth 100000
section
namespace Go.Proofs.YtjcijaojcgampaaGreatDoor.P.Lin
open Go.RowKit Go.Shelf Go.Proofs.YtjcijaojcgampaaGreatDoorW.PrintWords Go.Proofs.YtjcijaojcgampaaGreatDoorW.PrintLast Go.Proofs.YtjcijaojcgampaaGreatDoorW.PrintMore
attribute [local go_sem ↓] Go.wp_at_zero Go.wp_at_succ
def bnd (M : Int) (l : List Int) : Prop := ∀ i : Int, -M ≤ rd l i ∧ rd l i ≤ M
def refK (u v : List Int) : Int := if 0 < rd v 0 then min (max (rnd (-128 * rd u 0) (rd v 0)) (-127)) 127 else 0
def refA (u v : List Int) (k : Int) (i : Nat) : Int := rd u ((i : Int) + 1) + rnd (k * rd v ((i : Int) + 1)) 128
def refB (u v : List Int) (k : Int) (i : Nat) : Int := rd v (i : Int) + rnd (k * rd u (i : Int)) 128
def nextA (u v : List Int) : List Int := (List.range (u.length - 1)).map (refA u v (refK u v))
def nextB (u v : List Int) : List Int := (List.range (u.length - 1)).map (refB u v (refK u v))
def fillTo (f : Nat → Int) (n p : Nat) : List Int := (List.range p).map f ++ List.replicate (n - p) 0
theorem fillTo_length (f : Nat → Int) (n p : Nat) (h : p ≤ n) : (fillTo f n p).length = n := by simp [fillTo]; omega
theorem fillTo_set (f : Nat → Int) (n p : Nat) (h : p < n) : (fillTo f n p).set p (f p) = fillTo f n (p + 1) := by
  unfold fillTo
  rw [show n - p = (n - (p + 1)) + 1 by omega, List.replicate_succ, List.set_append, List.range_succ]
  simp
theorem fillTo_zero (f : Nat → Int) (n : Nat) : fillTo f n 0 = List.replicate n 0 := by simp [fillTo]
theorem fillTo_all (f : Nat → Int) (n : Nat) : fillTo f n n = (List.range n).map f := by simp [fillTo]
theorem refK_range (u v : List Int) : -127 ≤ refK u v ∧ refK u v ≤ 127 := by unfold refK; split <;> omega
theorem kmul {k y M : Int} (hk : -127 ≤ k ∧ k ≤ 127) (hy : -M ≤ y ∧ y ≤ M) : -(127 * M) ≤ k * y ∧ k * y ≤ 127 * M := mul_bound hk hy
theorem kstep {k y M : Int} (hk : -127 ≤ k ∧ k ≤ 127) (hy : -M ≤ y ∧ y ≤ M) : -M ≤ rnd (k * y) 128 ∧ rnd (k * y) 128 ≤ M := by
  have := kmul hk hy
  exact rnd_bound _ _ _ (by omega) (by omega) (by omega)
theorem made_R (W : World) (base m : Nat) (hb : base ≤ W.heap.size) (hm : m ≤ 9223372036854775807) : Kd.R (Kd.int .i64) 3 (W.alloc (.cells (madeCells #[.int .i64 0] m) 3)) base (fun k => k = W.heap.size) (.slice (some ⟨W.heap.size, 0, none⟩) m m) (List.replicate m 0) :=
  Kd.R_of_own (own_made_of' (enc := fun x => Value.int .i64 x) (d := 0) W base 3 m hb hm) (fun k hk => by simpa [Value.ownBlock] using hk.symm)
theorem made_R' (W : World) (base m : Nat) (hb : base ≤ W.heap.size) (hm : m ≤ 9223372036854775807) : Kd.R (Kd.int .i64) 3 ((W.alloc (.cells (madeCells #[.int .i64 0] m) 3)).alloc (.cells (madeCells #[.int .i64 0] m) 3)) base (fun k => k = W.heap.size + 1) (.slice (some ⟨W.heap.size + 1, 0, none⟩) m m) (List.replicate m 0) := by
  have h := made_R (W.alloc (.cells (madeCells #[.int .i64 0] m) 3)) base m (by have := (below_alloc (Below.refl _ W) (.cells (madeCells #[.int .i64 0] m) 3)).size; omega) hm
  have e : (W.alloc (.cells (madeCells #[.int .i64 0] m) 3)).heap.size = W.heap.size + 1 := Array.size_push _
  rwa [e] at h
theorem reflector1_any (bu bv base : Nat) (u v : List Int) (w : World) (hR : Refl w base bu bv u v) (m : Nat) (hm : u.length = m + 1) (hm' : v.length = m + 1) (h1 : m ≤ 1000) (hu : bnd 35184372088832 u) (hv : bnd 35184372088832 v) :
    Calls Tryz.prog 172 #[.pointer (some ⟨bv, 0, none⟩), .pointer (some ⟨bu, 0, none⟩)] w fun e w' => e = .returned (.int .i64 (refK u v)) ∧ Refl w' w.heap.size bu bv (nextA u v) (nextB u v) ∧ Fr (fun k => k = bu ∨ k = bv) w w' := by
  obtain ⟨U, V, hbu, hbv, hU, hV, hne⟩ := hR
  obtain ⟨gu, cu, e, hgu, hgul, _, hcu⟩ := Kd.R_form hU (by omega)
  cases e
  obtain ⟨gv, cv, e, hgv, hgvl, _, hcv⟩ := Kd.R_form hV (by omega)
  cases e
  have hu0 := Kd.R_cell (W := w) (0 : Int) hU 0 (by omega) (by omega)
  have hv0 := Kd.R_cell (W := w) (0 : Int) hV 0 (by omega) (by omega)
  have bu0 := hu 0
  have bv0 := hv 0
  obtain ⟨x, hx⟩ : ∃ x, x = rd u 0 := ⟨_, rfl⟩
  obtain ⟨y, hy⟩ : ∃ y, y = rd v 0 := ⟨_, rfl⟩
  have cu0 : w.cell? ⟨gu, 0, none⟩ = some (.int .i64 x) := by have := hu0.1; rw [hx]; exact this
  have cv0 : w.cell? ⟨gv, 0, none⟩ = some (.int .i64 y) := by have := hv0.1; rw [hy]; exact this
  rw [← hx] at bu0
  rw [← hy] at bv0
  have hK : Aside0 (refK u v = if 0 < y then min (max (rnd (-128 * x) y) (-127)) 127 else 0) := ⟨by unfold refK; rw [← hx, ← hy]⟩
  have c1 := cell_of_one hbu
  have c2 := cell_of_one hbv
  have l1 := lt_of_block hbu
  have l2 := lt_of_block hbv
  have HBU := Aside0.mk hbu
  have HBV := Aside0.mk hbv
  have HU := Aside0.mk hU
  have HV := Aside0.mk hV
  have BU := Aside0.mk hu
  have BV := Aside0.mk hv
  rw [hm] at HU HBU c1
  rw [hm'] at HV HBV c2
  have HM := Aside0.mk hm
  have HM' := Aside0.mk hm'
  clear hm hm' hbu hbv hU hV hu hv hu0 hv0 hx hy hcu hcv
  go_enter Tryz.func172, Tryz.ntmps172
  go_upto_if 11 with fail
  go_cut [3] (fun s3 wx => s3 = .int .i64 (refK u v) ∧ Aside0 (Fr (fun _ => False) w wx))
  case first =>
    by_cases hy0 : 0 < y
    · have q1 : decide (0 < y) = true := by simpa using hy0
      have w1' : IntKind.i64.wrap (-128 * x) = -128 * x := IntWalk.i64_in _ (by omega)
      go_wp2_with fail
      refine wp_still 8 (by kernel_rfl) (by kernel_rfl) ?_
      simp only [List.take_succ_cons, List.take_zero, List.drop_succ_cons, List.drop_zero]
      repeat still_step
      still_call ((round_any (-128 * x) y w.drew (by omega) (by omega) (by omega) (by omega)).mono (fun e w' h => ⟨h.1, h.2.symm⟩))
      repeat still_step
      refine wpStill_nil ?_
      show wpList _ _ _ _ _ _
      clear w1'
      go_wp2
      all_goals go_meet
      all_goals (
        refine ⟨?_, ⟨Fr.drew (Fr.refl _ _)⟩⟩
        rw [hK.out, if_pos hy0]
        congr 1
        omega)
    · have q1 : decide (0 < y) = false := by simpa using hy0
      go_wp2_with fail
      go_meet
      refine ⟨?_, ⟨Fr.refl _ _⟩⟩
      rw [hK.out, if_neg (by omega)]
  case rest =>
    obtain ⟨rfl, hcut⟩ := hcut
    have HBU1 := Aside0.mk (blk_fr HBU.out hcut.out (by simp))
    have HBV1 := Aside0.mk (blk_fr HBV.out hcut.out (by simp))
    have HU1 := Aside0.mk (Kd.R_bound (R_fr HU.out hcut.out (by simp)))
    have HV1 := Aside0.mk (Kd.R_bound (R_fr HV.out hcut.out (by simp)))
    have d1 := cell_of_one HBU1.out
    have d2 := cell_of_one HBV1.out
    have f1 := free_of_one HBU1.out
    have f2 := free_of_one HBV1.out
    have sz1 := hcut.out.size
    have w2' : IntKind.i64.wrap ((m : Int) + 1 - 1) = (m : Int) := by rw [IntWalk.i64_in _ (by omega)]; omega
    have B0 := Aside0.mk (Below.refl wc.heap.size wc)
    clear c1 c2 cu0 cv0 HBU HBV HU HV hK
    have HKr := refK_range u v
    generalize hKK : refK u v = K at *
    have HKK := Aside0.mk hKK
    clear hKK
    obtain ⟨wm, rfl⟩ : ∃ x, x = wc := ⟨_, rfl⟩
    go_upto_region 5 with fail
    have hmk := print_make_of (P := Tryz.prog) 22 3 (.int .i64 0) 8 Tryz.underlying22 hinfo3 rfl (by decide) m (by omega)
    go_cut [5, 6] (fun s5 s6 wx => ∃ b5 b6, s5 = .slice (some ⟨b5, 0, none⟩) m m ∧ s6 = .slice (some ⟨b6, 0, none⟩) m m ∧ b5 ≠ b6 ∧ wm.heap.size ≤ b5 ∧ wm.heap.size ≤ b6 ∧
      Aside0 (Kd.R (Kd.int .i64) 3 wx wm.heap.size (fun k => k = b5) (.slice (some ⟨b5, 0, none⟩) m m) (List.replicate m 0)) ∧ Aside0 (Kd.R (Kd.int .i64) 3 wx wm.heap.size (fun k => k = b6) (.slice (some ⟨b6, 0, none⟩) m m) (List.replicate m 0)) ∧ Aside0 (Below wm.heap.size wm wx))
    case first =>
      go_region
      all_goals (go_wp2_with fail; go_meet)
      · refine ⟨_, _, rfl, rfl, by simp, by simp, by simp, ⟨Kd.R_alloc (made_R wm _ m (by simp) (by omega)) _⟩, ⟨made_R' wm _ m (by omega) (by omega)⟩, ⟨by (repeat (first | with_reducible exact Below.refl _ _ | (refine Aside0.out (p := Below _ _ _) ?_; assumption) | refine below_drew ?_ | refine below_alloc ?_ _ | (refine below_step ?_ (Aside0.out (p := Below _ _ _) (by assumption)))))⟩⟩
      · refine ⟨_, _, rfl, rfl, by simp, by simp, by simp, ⟨made_R' wm _ m (by omega) (by omega)⟩, ⟨Kd.R_alloc (made_R wm _ m (by simp) (by omega)) _⟩, ⟨by (repeat (first | with_reducible exact Below.refl _ _ | (refine Aside0.out (p := Below _ _ _) ?_; assumption) | refine below_drew ?_ | refine below_alloc ?_ _ | (refine below_step ?_ (Aside0.out (p := Below _ _ _) (by assumption)))))⟩⟩
    case rest =>
      obtain ⟨b5, b6, rfl, rfl, hbb, hb5, hb6, HA, HB, HW⟩ := hcut
      have lu : bu < wm.heap.size := by omega
      have lv : bv < wm.heap.size := by omega
      have HBU2 := Aside0.mk ((HW.out.block bu lu).trans HBU1.out)
      have HBV2 := Aside0.mk ((HW.out.block bv lv).trans HBV1.out)
      have HU2 := Aside0.mk (Kd.R_below (Kd.R_mono HU1.out (fun k hk => hk.2.2.1)) HW.out)
      have HV2 := Aside0.mk (Kd.R_below (Kd.R_mono HV1.out (fun k hk => hk.2.2.1)) HW.out)
      have lgu : gu < wm.heap.size := HU2.out.1 gu rfl
      have lgv : gv < wm.heap.size := HV2.out.1 gv rfl
      clear d1 d2 f1 f2 HBU1 HBV1 HU1 HV1 hmk
      go_wp2_with fail
      go_loopw [7, 30] (fun _ i wr => ∃ p : Nat, p ≤ m ∧ i = .int .i64 p ∧ Aside0 (wr.heap[bu]? = some (.cells #[.slice (some ⟨gu, 0, none⟩) (m + 1) cu] 22 (0, 0))) ∧ Aside0 (wr.heap[bv]? = some (.cells #[.slice (some ⟨gv, 0, none⟩) (m + 1) cv] 22 (0, 0))) ∧
          Aside0 (Kd.R (Kd.int .i64) 3 wr base (fun k => k < wm.heap.size) (.slice (some ⟨gu, 0, none⟩) (m + 1) cu) u) ∧ Aside0 (Kd.R (Kd.int .i64) 3 wr base (fun k => k < wm.heap.size) (.slice (some ⟨gv, 0, none⟩) (m + 1) cv) v) ∧
          Aside0 (Kd.R (Kd.int .i64) 3 wr wm.heap.size (fun k => k = b5) (.slice (some ⟨b5, 0, none⟩) m m) (fillTo (refA u v K) m p)) ∧ Aside0 (Kd.R (Kd.int .i64) 3 wr wm.heap.size (fun k => k = b6) (.slice (some ⟨b6, 0, none⟩) m m) (fillTo (refB u v K) m p)) ∧
          Aside0 (Below wm.heap.size wm wr)) (fun _ i _ => m - (intOf i).toNat)
      case atStart => exact ⟨0, Nat.zero_le _, rfl, HBU2, HBV2, HU2, HV2, ⟨by rw [fillTo_zero]; exact HA.out⟩, ⟨by rw [fillTo_zero]; exact HB.out⟩, HW⟩
      case round =>
        obtain ⟨p, hp, rfl, HBUr, HBVr, HUr, HVr, HAr, HBr, HWr⟩ := hrel
        have e1 := cell_of_one HBUr.out
        have e2 := cell_of_one HBVr.out
        have fe1 := free_of_one HBUr.out
        have fe2 := free_of_one HBVr.out
        by_cases hlt : p < m
        · have hla := fillTo_length (refA u v K) m p hp
          have hlb := fillTo_length (refB u v K) m p hp
          have ca := Kd.R_cell (W := wr) (0 : Int) (by rw [hla]; exact HAr.out) (p : Int) (by omega) (by omega)
          have cb := Kd.R_cell (W := wr) (0 : Int) (by rw [hlb]; exact HBr.out) (p : Int) (by omega) (by omega)
          have cu0 := (Kd.R_cell (W := wr) (0 : Int) (by rw [HM.out]; exact HUr.out) (p : Int) (by omega) (by have := HM.out; omega)).1
          have cu1 := (Kd.R_cell (W := wr) (0 : Int) (by rw [HM.out]; exact HUr.out) ((p : Int) + 1) (by omega) (by have := HM.out; omega)).1
          have cv0 := (Kd.R_cell (W := wr) (0 : Int) (by rw [HM'.out]; exact HVr.out) (p : Int) (by omega) (by have := HM'.out; omega)).1
          have cv1 := (Kd.R_cell (W := wr) (0 : Int) (by rw [HM'.out]; exact HVr.out) ((p : Int) + 1) (by omega) (by have := HM'.out; omega)).1
          have bx0 := BU.out (p : Int)
          have bx1 := BU.out ((p : Int) + 1)
          have by0 := BV.out (p : Int)
          have by1 := BV.out ((p : Int) + 1)
          obtain ⟨x0, hx0⟩ : ∃ x, x = rd u (p : Int) := ⟨_, rfl⟩
          obtain ⟨x1, hx1⟩ : ∃ x, x = rd u ((p : Int) + 1) := ⟨_, rfl⟩
          obtain ⟨y0, hy0⟩ : ∃ x, x = rd v (p : Int) := ⟨_, rfl⟩
          obtain ⟨y1, hy1⟩ : ∃ x, x = rd v ((p : Int) + 1) := ⟨_, rfl⟩
          have gu0 : wr.cell? ⟨gu, p, none⟩ = some (.int .i64 x0) := by rw [Int.toNat_natCast] at cu0; rw [cu0, hx0]; rfl
          have gu1 : wr.cell? ⟨gu, p + 1, none⟩ = some (.int .i64 x1) := by rw [show ((p : Int) + 1).toNat = p + 1 by omega] at cu1; rw [cu1, hx1]; rfl
          have gv0 : wr.cell? ⟨gv, p, none⟩ = some (.int .i64 y0) := by rw [Int.toNat_natCast] at cv0; rw [cv0, hy0]; rfl
          have gv1 : wr.cell? ⟨gv, p + 1, none⟩ = some (.int .i64 y1) := by rw [show ((p : Int) + 1).toNat = p + 1 by omega] at cv1; rw [cv1, hy1]; rfl
          rw [Int.toNat_natCast] at ca cb
          obtain ⟨za, hza⟩ : ∃ z, z = Value.int .i64 (rdOf 0 (fillTo (refA u v K) m p) (p : Int)) := ⟨_, rfl⟩
          obtain ⟨zb, hzb⟩ : ∃ z, z = Value.int .i64 (rdOf 0 (fillTo (refB u v K) m p) (p : Int)) := ⟨_, rfl⟩
          have ga : wr.cell? ⟨b5, p, none⟩ = some za := by rw [ca.1, hza]
          have gb : wr.cell? ⟨b6, p, none⟩ = some zb := by rw [cb.1, hzb]
          have fa := ca.2
          have fb := cb.2
          rw [← hx0] at bx0
          rw [← hx1] at bx1
          rw [← hy0] at by0
          rw [← hy1] at by1
          have m1 := kmul HKr by1
          have m2 := kmul HKr bx0
          have r1 := kstep HKr by1
          have r2 := kstep HKr bx0
          have HSA : Aside0 ((fillTo (refA u v K) m p).set p (x1 + rnd (K * y1) 128) = fillTo (refA u v K) m (p + 1)) := ⟨by rw [← fillTo_set _ _ _ hlt, hx1, hy1]; rfl⟩
          have HSB : Aside0 ((fillTo (refB u v K) m p).set p (y0 + rnd (K * x0) 128) = fillTo (refB u v K) m (p + 1)) := ⟨by rw [← fillTo_set _ _ _ hlt, hy0, hx0]; rfl⟩
          have HLA := Aside0.mk hla
          have HLB := Aside0.mk hlb
          have n1 : gu ≠ b5 := by omega
          have n2 : gv ≠ b5 := by omega
          have n3 : bu ≠ b5 := by omega
          have n4 : bv ≠ b5 := by omega
          have n5 : b6 ≠ b5 := by omega
          have i1 : (p : Int) < (m : Int) := by omega
          have i2 : (p : Int) + 1 < (m : Int) + 1 := by omega
          have i3 : (p : Int) < (m : Int) + 1 := by omega
          have i4 : (0 : Int) ≤ (p : Int) := by omega
          have i5 : (0 : Int) ≤ (p : Int) + 1 := by omega
          have w3' : IntKind.i64.wrap ((p : Int) + 1) = (p : Int) + 1 := IntWalk.i64_in _ (by omega)
          have w4' : IntKind.i64.wrap (K * y1) = K * y1 := IntWalk.i64_in _ (by omega)
          have w5' : IntKind.i64.wrap (x1 + rnd (K * y1) 128) = x1 + rnd (K * y1) 128 := IntWalk.i64_in _ (by omega)
          have w6' : IntKind.i64.wrap (K * x0) = K * x0 := IntWalk.i64_in _ (by omega)
          have w7' : IntKind.i64.wrap (y0 + rnd (K * x0) 128) = y0 + rnd (K * x0) 128 := IntWalk.i64_in _ (by omega)
          clear hx0 hx1 hy0 hy1 hza hzb ca cb cu0 cu1 cv0 cv1 hla hlb
          go_wp2
          refine wp_still 17 (by kernel_rfl) (by kernel_rfl) ?_
          simp only [List.take_succ_cons, List.take_zero, List.drop_succ_cons, List.drop_zero]
          repeat still_step
          still_call ((round_any (K * y1) 128 wr.drew (by omega) (by omega) (by omega) (by omega)).mono (fun e w' h => ⟨h.1, h.2.symm⟩))
          repeat still_step
          refine wpStill_nil ?_
          show wpList _ _ _ _ _ _
          go_wp2
          refine wp_still 15 (by kernel_rfl) (by kernel_rfl) ?_
          simp only [List.take_succ_cons, List.take_zero, List.drop_succ_cons, List.drop_zero]
          repeat still_step
          still_call ((round_any (K * x0) 128 (wr.setCell ⟨b5, p, none⟩ (.int .i64 (x1 + rnd (K * y1) 128))).drew.drew (by omega) (by omega) (by omega) (by omega)).mono (fun e w' h => ⟨h.1, h.2.symm⟩))
          repeat still_step
          refine wpStill_nil ?_
          show wpList _ _ _ _ _ _
          clear w3' w4' w5' w6' w7'
          go_wp2
          go_roundw
          case rel =>
            have pa := (Kd.R_put (W := wr) (by rw [HLA.out]; exact HAr.out) (p : Int) (x1 + rnd (K * y1) 128)).1
            rw [Int.toNat_natCast, HSA.out, HLA.out] at pa
            have pb0 := Kd.R_far (p := ⟨b5, p, none⟩) HBr.out (fun k hk => by show k ≠ b5; omega) (.int .i64 (x1 + rnd (K * y1) 128))
            have pb := (Kd.R_put (W := wr.setCell ⟨b5, p, none⟩ (.int .i64 (x1 + rnd (K * y1) 128))) (by rw [HLB.out]; exact pb0) (p : Int) (y0 + rnd (K * x0) 128)).1
            rw [Int.toNat_natCast, HSB.out, HLB.out] at pb
            have s1 : ∀ k, k < wm.heap.size → ((wr.setCell ⟨b5, p, none⟩ (.int .i64 (x1 + rnd (K * y1) 128))).setCell ⟨b6, p, none⟩ (.int .i64 (y0 + rnd (K * x0) 128))).heap[k]? = wr.heap[k]? := fun k hk =>
              (Below.heap_setCell _ _ _ _ (by show k ≠ b6; omega)).trans (Below.heap_setCell _ _ _ _ (by show k ≠ b5; omega))
            refine ⟨p + 1, by omega, by go_num, ⟨?_⟩, ⟨?_⟩, ⟨?_⟩, ⟨?_⟩, ⟨?_⟩, ⟨?_⟩, ⟨?_⟩⟩
            · exact (s1 bu lu).trans HBUr.out
            · exact (s1 bv lv).trans HBVr.out
            · exact Kd.R_drewN (Kd.R_move HUr.out s1) 2
            · exact Kd.R_drewN (Kd.R_move HVr.out s1) 2
            · exact Kd.R_drewN (Kd.R_far (p := ⟨b6, p, none⟩) pa (fun k hk => by show k ≠ b6; omega) _) 2
            · exact Kd.R_drewN pb 2
            · exact ((HWr.out.setCell hb5 _).setCell hb6 _).drew.drew
          case measure => simp [intOf]; omega
        · obtain rfl : p = m := by omega
          have lu' : bu < wr.heap.size := by have := HWr.out.size; omega
          go_wp2
          go_ret
          have hA : nextA u v = fillTo (refA u v K) p p := by unfold nextA; rw [HM.out, HKK.out, fillTo_all]; rfl
          have hB : nextB u v = fillTo (refB u v K) p p := by unfold nextB; rw [HM.out, HKK.out, fillTo_all]; rfl
          have k1 := (Below.heap_setCell wr ⟨bu, 0, none⟩ (Value.slice (some ⟨b5, 0, none⟩) p p) bv (Ne.symm hne)).trans HBVr.out
          have lw : wm.heap.size ≤ wr.heap.size := HWr.out.size
          refine ⟨by rw [HKK.out]; rfl, ⟨_, _, (Below.heap_setCell _ _ _ _ hne).trans (one_setCell HBUr.out), one_setCell k1, ?_, ?_, hne⟩, ?_⟩
          · rw [hA]
            exact Kd.R_mono (Kd.R_far (p := ⟨bv, 0, none⟩) (Kd.R_far (p := ⟨bu, 0, none⟩) (Kd.R_lower HAr.out (by omega)) (fun k hk => by show k ≠ bu; omega) _) (fun k hk => by show k ≠ bv; omega) _) (fun _ _ => trivial)
          · rw [hB]
            exact Kd.R_mono (Kd.R_far (p := ⟨bv, 0, none⟩) (Kd.R_far (p := ⟨bu, 0, none⟩) (Kd.R_lower HBr.out (by omega)) (fun k hk => by show k ≠ bu; omega) _) (fun k hk => by show k ≠ bv; omega) _) (fun _ _ => trivial)
          · exact (((hcut.out.mono (fun _ _ h => h.elim)).trans (Fr.below HWr.out _)).setCell (fun _ => Or.inl rfl) _).setCell (fun _ => Or.inr rfl) _
def rst (u v : List Int) : Nat → List Int × List Int
  | 0 => (u, v)
  | n + 1 => (nextA (rst u v n).1 (rst u v n).2, nextB (rst u v n).1 (rst u v n).2)
def coefs (u v : List Int) (o : Nat) : List Int := (List.range o).map fun n => refK (rst u v n).1 (rst u v n).2
theorem coefs_take (u v : List Int) (o k : Nat) (h : k < o) : (coefs u v o).take (k + 1) = (coefs u v o).take k ++ [refK (rst u v k).1 (rst u v k).2] := by
  rw [List.take_add_one]
  simp [coefs, h]
theorem coefs_length (u v : List Int) (o : Nat) : (coefs u v o).length = o := by simp [coefs]
theorem rst_length {u v : List Int} {o : Nat} (hu : u.length = o) (hv : v.length = o) : ∀ n, (rst u v n).1.length = o - n ∧ (rst u v n).2.length = o - n
  | 0 => ⟨by simpa [rst] using hu, by simpa [rst] using hv⟩
  | n + 1 => by
    have h := rst_length hu hv n
    simp only [rst, nextA, nextB, List.length_map, List.length_range]
    omega
theorem rd_map (f : Nat → Int) (n : Nat) (i : Int) : rd ((List.range n).map f) i = if i.toNat < n then f i.toNat else 0 := by
  unfold rd
  rw [List.getD_eq_getElem?_getD]
  split
  · rename_i h; simp [h]
  · rename_i h; rw [List.getElem?_eq_none (by simpa using h)]; rfl
theorem bnd_next {M : Int} {u v : List Int} (h0 : 0 ≤ M) (hu : bnd M u) (hv : bnd M v) : bnd (2 * M) (nextA u v) ∧ bnd (2 * M) (nextB u v) := by
  have hk := refK_range u v
  constructor
  · intro i
    unfold nextA
    rw [rd_map]
    split
    · have h1 := hu ((i.toNat : Int) + 1)
      have h2 := kstep hk (hv ((i.toNat : Int) + 1))
      show -(2 * M) ≤ refA u v (refK u v) i.toNat ∧ refA u v (refK u v) i.toNat ≤ 2 * M
      unfold refA
      omega
    · omega
  · intro i
    unfold nextB
    rw [rd_map]
    split
    · have h1 := hv (i.toNat : Int)
      have h2 := kstep hk (hu (i.toNat : Int))
      show -(2 * M) ≤ refB u v (refK u v) i.toNat ∧ refB u v (refK u v) i.toNat ≤ 2 * M
      unfold refB
      omega
    · omega
theorem bnd_mono {M M' : Int} {l : List Int} (h : bnd M l) (hm : M ≤ M') : bnd M' l := fun i => by have := h i; omega
theorem bnd_rst {u v : List Int} (hu : bnd 1073741824 u) (hv : bnd 1073741824 v) : ∀ n, bnd (1073741824 * 2 ^ n) (rst u v n).1 ∧ bnd (1073741824 * 2 ^ n) (rst u v n).2
  | 0 => ⟨by simpa [rst] using hu, by simpa [rst] using hv⟩
  | n + 1 => by
    have h := bnd_rst hu hv n
    have hp : (0 : Int) ≤ 1073741824 * 2 ^ n := Int.mul_nonneg (by omega) (by have := Int.pow_pos (n := 2) (m := n) (by omega); omega)
    have := bnd_next hp h.1 h.2
    have e : (1073741824 : Int) * 2 ^ (n + 1) = 2 * (1073741824 * 2 ^ n) := by rw [Int.pow_succ]; omega
    rw [e]
    exact this
theorem bnd_rst' {u v : List Int} (hu : bnd 1073741824 u) (hv : bnd 1073741824 v) (n : Nat) (hn : n ≤ 12) : bnd 35184372088832 (rst u v n).1 ∧ bnd 35184372088832 (rst u v n).2 := by
  have h := bnd_rst hu hv n
  have hp : (2 : Int) ^ n ≤ 2 ^ 12 := by have := Nat.pow_le_pow_right (show 0 < 2 by omega) hn; exact_mod_cast this
  have hm : (1073741824 : Int) * 2 ^ n ≤ 35184372088832 := by omega
  exact ⟨bnd_mono h.1 hm, bnd_mono h.2 hm⟩
theorem sum_range_succ (f : Nat → Int) (n : Nat) : ((List.range (n + 1)).map f).sum = ((List.range n).map f).sum + f n := by
  rw [List.range_succ, List.map_append, List.sum_append]; simp
theorem sum_le (f g : Nat → Int) : ∀ n, (∀ i, i < n → f i ≤ g i) → ((List.range n).map f).sum ≤ ((List.range n).map g).sum
  | 0, _ => by simp
  | n + 1, h => by
    have := sum_le f g n (fun i hi => h i (by omega))
    have := h n (by omega)
    rw [sum_range_succ, sum_range_succ]; omega
theorem sum_add (f g : Nat → Int) : ∀ n, ((List.range n).map fun i => f i + g i).sum = ((List.range n).map f).sum + ((List.range n).map g).sum
  | 0 => by simp
  | n + 1 => by have := sum_add f g n; rw [sum_range_succ, sum_range_succ, sum_range_succ]; omega
theorem sum_two (f : Nat → Int) : ∀ n, ((List.range n).map fun i => 2 * f i).sum = 2 * ((List.range n).map f).sum
  | 0 => by simp
  | n + 1 => by have := sum_two f n; rw [sum_range_succ, sum_range_succ]; omega
theorem sum_neg (f : Nat → Int) : ∀ n, ((List.range n).map fun i => -f i).sum = -((List.range n).map f).sum
  | 0 => by simp
  | n + 1 => by have := sum_neg f n; rw [sum_range_succ, sum_range_succ]; omega
theorem sum_mono_n (f : Nat → Int) (hf : ∀ i, 0 ≤ f i) : ∀ k n, ((List.range n).map f).sum ≤ ((List.range (n + k)).map f).sum
  | 0, n => by simp
  | k + 1, n => by have := sum_mono_n f hf k n; have := hf (n + k); rw [← Nat.add_assoc, sum_range_succ]; omega
theorem sum_shift (f : Nat → Int) (hf : ∀ i, 0 ≤ f i) (s : Nat) : ∀ n, ((List.range n).map fun i => f (s + i)).sum ≤ ((List.range (s + n)).map f).sum
  | 0 => by
    have := sum_mono_n f hf s 0
    simpa using this
  | n + 1 => by
    have := sum_shift f hf s n
    rw [sum_range_succ, ← Nat.add_assoc, sum_range_succ]; omega
theorem sq_nonneg (x : Int) : 0 ≤ x * x := by
  rcases Int.le_total 0 x with q | q
  · exact Int.mul_nonneg q q
  · exact Int.mul_nonneg_of_nonpos_of_nonpos q q
theorem two_mul_le (x y : Int) : 2 * (x * y) ≤ x * x + y * y := by
  have h := sq_nonneg (x - y)
  have e : (x - y) * (x - y) = x * x - x * y - (y * x - y * y) := by rw [Int.sub_mul, Int.mul_sub, Int.mul_sub]
  rw [e, Int.mul_comm y x] at h
  omega
theorem two_mul_ge (x y : Int) : -(x * x + y * y) ≤ 2 * (x * y) := by
  have h := sq_nonneg (x + y)
  have e : (x + y) * (x + y) = x * x + x * y + (y * x + y * y) := by rw [Int.add_mul, Int.mul_add, Int.mul_add]
  rw [e, Int.mul_comm y x] at h
  omega
theorem prods_le (x : List Int) (far : Nat) : -(prods x 0).sum ≤ (prods x far).sum ∧ (prods x far).sum ≤ (prods x 0).sum := by
  rcases Nat.lt_or_ge x.length far with hlt | hge
  · have e : prods x far = [] := by unfold prods; rw [show x.length - far = 0 by omega]; rfl
    have h0 : 0 ≤ (prods x 0).sum := sum_nonneg _ (fun y hy => by obtain ⟨j, _, rfl⟩ := List.mem_map.1 hy; rw [Nat.zero_add]; exact sq_nonneg _)
    rw [e]
    simp only [List.sum_nil]
    omega
  · obtain ⟨n, hn⟩ : ∃ n, x.length = far + n := ⟨x.length - far, by omega⟩
    have a := sum_shift (fun i => rd x (i : Int) * rd x (i : Int)) (fun i => sq_nonneg _) far n
    have b := sum_mono_n (fun i => rd x (i : Int) * rd x (i : Int)) (fun i => sq_nonneg _) far n
    have c1 := sum_le (fun j => 2 * (rd x ((far + j : Nat) : Int) * rd x (j : Int))) (fun j => rd x ((far + j : Nat) : Int) * rd x ((far + j : Nat) : Int) + rd x (j : Int) * rd x (j : Int)) n (fun j _ => two_mul_le _ _)
    have c2 := sum_le (fun j => -(rd x ((far + j : Nat) : Int) * rd x ((far + j : Nat) : Int) + rd x (j : Int) * rd x (j : Int))) (fun j => 2 * (rd x ((far + j : Nat) : Int) * rd x (j : Int))) n (fun j _ => two_mul_ge _ _)
    rw [sum_two, sum_add] at c1
    rw [sum_two, sum_neg, sum_add] at c2
    have e1 : (prods x far).sum = ((List.range n).map fun (j : Nat) => rd x ((far + j : Nat) : Int) * rd x (j : Int)).sum := by unfold prods; rw [show x.length - far = n by omega]
    have e0 : (prods x 0).sum = ((List.range (far + n)).map fun (i : Nat) => rd x (i : Int) * rd x (i : Int)).sum := by
      unfold prods
      rw [show x.length - 0 = far + n by omega]
      simp only [Nat.zero_add]
    rw [e1, e0]
    rw [Nat.add_comm n far] at b
    omega
theorem normd_bnd {x : List Int} (hw : within 2097152 x) (hl : x.length ≤ 9000) (o : Nat) : bnd 1073741824 (normd x o) := by
  have hS : rd (autos x o) 0 = (prods x 0).sum := by
    have : rd (autos x o) 0 = wsum (prods x 0) := by simp [autos, rd, List.getD_eq_getElem?_getD]
    rw [this, (wsum_prods hw hl 0).1]
  have h0 := prods_zero_nonneg hw hl
  rw [(wsum_prods hw hl 0).1] at h0
  have h1 : (prods x 0).sum ≤ 39582418599936000 := by have := wsum_prods hw hl 0; omega
  have hsh : ∀ f h : Nat, f + h = 64 → (prods x 0).sum / 2 ^ shfrom (prods x 0).sum f h < 1073741824 := by
    intro f
    induction f with
    | zero =>
      intro h hh
      obtain rfl : h = 64 := by omega
      show (prods x 0).sum / 2 ^ 64 < 1073741824
      omega
    | succ f ih =>
      intro h hh
      by_cases hq : (prods x 0).sum / 2 ^ h < 1073741824
      · rw [shfrom_stop _ _ _ hq]; exact hq
      · rw [shfrom_step _ _ _ (by omega)]; exact ih (h + 1) (by omega)
  have hS2 := hsh 64 0 rfl
  intro i
  have e : normd x o = (List.range (o + 1)).map fun j => wsum (prods x j) / 2 ^ shf ((prods x 0).sum) := by
    unfold normd; rw [hS]; unfold autos; simp
  rw [e, rd_map]
  split
  · show -1073741824 ≤ wsum (prods x i.toNat) / 2 ^ shf ((prods x 0).sum) ∧ wsum (prods x i.toNat) / 2 ^ shf ((prods x 0).sum) ≤ 1073741824
    rw [(wsum_prods hw hl i.toNat).1]
    unfold shf
    have hp : (0 : Int) < 2 ^ shfrom (prods x 0).sum 64 0 := Int.pow_pos (by omega)
    have hb := prods_le x i.toNat
    generalize (2 : Int) ^ shfrom (prods x 0).sum 64 0 = D at *
    have hlt : (prods x 0).sum < 1073741824 * D := by
      have := (Int.ediv_lt_iff_lt_mul hp).1 hS2
      omega
    constructor
    · rw [Int.le_ediv_iff_mul_le hp]
      have : -1073741824 * D = -(1073741824 * D) := Int.neg_mul _ _
      omega
    · have := (Int.ediv_lt_iff_lt_mul hp (a := (prods x i.toNat).sum) (b := 1073741824)).2 (by omega)
      omega
  · omega
end Go.Proofs.YtjcijaojcgampaaGreatDoor.P.Lin
end
section
namespace Go.Proofs.YtjcijaojcgampaaGreatDoor.P.Lin
open Go.RowKit Go.Shelf Go.Proofs.YtjcijaojcgampaaGreatDoorW.PrintWords Go.Proofs.YtjcijaojcgampaaGreatDoorW.PrintLast Go.Proofs.YtjcijaojcgampaaGreatDoorW.PrintMore
theorem within_stepW {B : Int} {a : List Int} {k : Int} (h : within B a) (hB : 4064 ≤ 2 * B) (hk : -127 ≤ k ∧ k ≤ 127) : within (2 * B) (stepW a k) := by
  intro x hx
  unfold stepW newW at hx
  rw [List.drop_length, List.append_nil, List.mem_append] at hx
  rcases hx with hx | hx
  · obtain ⟨j, _, rfl⟩ := List.mem_map.1 hx
    have h1 := within_rd h (by omega) (j : Int)
    have h2 := kstep hk (within_rd h (by omega) ((a.length : Int) - 1 - (j : Int)))
    omega
  · obtain rfl := List.mem_singleton.1 hx
    omega
theorem stepW_length (a : List Int) (k : Int) : (stepW a k).length = a.length + 1 := by simp [stepW, newW_length]
theorem smallL_of {B : Int} {a : List Int} (h : within B a) (hB : B ≤ 1099511627776) : smallL a = true := by
  unfold smallL
  rw [List.all_eq_true]
  intro x hx
  have := h x hx
  simp
  omega
def wts (l : List Int) : List Int := l.foldl stepW []
theorem wfold_some : ∀ (l a : List Int) (j : Nat), within 127 l → within (4064 * 2 ^ j) a → a.length ≤ j → j + l.length ≤ 12 → wfold a l = some (l.foldl stepW a) ∧ within 16646144 (l.foldl stepW a) ∧ (l.foldl stepW a).length = a.length + l.length
  | [], a, j, _, ha, _, hj => by
    have hp : (2 : Int) ^ j ≤ 2 ^ 12 := by have := Nat.pow_le_pow_right (show 0 < 2 by omega) (show j ≤ 12 by simpa using hj); exact_mod_cast this
    exact ⟨rfl, within_mono ha (by omega), by simp⟩
  | k :: l, a, j, hk, ha, hl, hj => by
    simp only [List.length_cons] at hj
    have hp : (2 : Int) ^ j ≤ 2 ^ 12 := by have := Nat.pow_le_pow_right (show 0 < 2 by omega) (show j ≤ 12 by omega); exact_mod_cast this
    have hp0 : (1 : Int) ≤ 2 ^ j := by have := Int.pow_pos (n := 2) (m := j) (by omega); omega
    have hkk := hk k (by simp)
    have hs := smallL_of ha (by omega)
    have hw := within_stepW ha (by omega) hkk
    rw [show (2 : Int) * (4064 * 2 ^ j) = 4064 * 2 ^ (j + 1) by rw [Int.pow_succ]; omega] at hw
    have ih := wfold_some l (stepW a k) (j + 1) (fun x hx => hk x (List.mem_cons_of_mem _ hx)) hw (by rw [stepW_length]; omega) (by omega)
    have e : stepW? a k = some (stepW a k) := by unfold stepW?; rw [if_pos ⟨hs, by omega, by omega, by omega⟩]
    refine ⟨by rw [wfold, e]; exact ih.1, ih.2.1, ?_⟩
    rw [List.foldl_cons, ih.2.2, stepW_length, List.length_cons]; omega
theorem isF_within {l : List Int} (h : isF l = true) : l.length ≤ 12 ∧ within 127 l := by
  unfold isF at h
  rw [Bool.and_eq_true, decide_eq_true_eq, Bool.not_eq_true'] at h
  refine ⟨h.1, fun x hx => ?_⟩
  have : outB 127 x = false := by
    cases hb : outB 127 x
    · rfl
    · rw [List.any_eq_true.2 ⟨x, hx, hb⟩] at h; cases h.2
  simp [outB] at this
  omega
theorem isF_wts {l : List Int} (h : isF l = true) : linear_weights.f l = some (wts l) ∧ within 16646144 (wts l) ∧ (wts l).length = l.length := by
  obtain ⟨h1, h2⟩ := isF_within h
  have := wfold_some l [] 0 h2 (fun x hx => absurd hx (by simp)) (by simp) (by omega)
  refine ⟨?_, this.2.1, by simpa [wts] using this.2.2⟩
  unfold linear_weights.f
  rw [if_pos (by omega), this.1]
  rfl
def pterm (p x : List Int) (n j : Nat) : Int := if j < n then rd p (j : Int) * rd x ((n : Int) - 1 - (j : Int)) else 0
def pacc (p x : List Int) (n i : Nat) : Int := ((List.range i).map (pterm p x n)).sum
theorem pacc_succ (p x : List Int) (n i : Nat) : pacc p x n (i + 1) = pacc p x n i + pterm p x n i := by
  unfold pacc; rw [List.range_succ, List.map_append, List.sum_append]; simp
def pred (p x : List Int) (n : Nat) : Int := rnd (-pacc p x n p.length) 4096
theorem pterm_bound {p x : List Int} (hp : within 16777216 p) (hx : within 2097152 x) (n j : Nat) : -35184372088832 ≤ pterm p x n j ∧ pterm p x n j ≤ 35184372088832 := by
  unfold pterm
  split
  · have := mul_bound (within_rd hp (by omega) (j : Int)) (within_rd hx (by omega) ((n : Int) - 1 - (j : Int)))
    omega
  · omega
theorem pacc_bound {p x : List Int} (hp : within 16777216 p) (hx : within 2097152 x) (n : Nat) : ∀ i : Nat, -(35184372088832 * i) ≤ pacc p x n i ∧ pacc p x n i ≤ 35184372088832 * i
  | 0 => by simp [pacc]
  | i + 1 => by
    have h := pacc_bound hp hx n i
    have := pterm_bound hp hx n i
    rw [pacc_succ]
    omega
theorem pred_bound {p x : List Int} (hp : within 16777216 p) (hx : within 2097152 x) (n : Nat) (hl : p.length ≤ 12) : -1099511627776 ≤ pred p x n ∧ pred p x n ≤ 1099511627776 := by
  have h := pacc_bound hp hx n p.length
  exact rnd_bound _ _ _ (by omega) (by omega) (by omega)
theorem at_any (Ap Ax : Option Addr) (cp cx : Nat) (p x : List Int) (n : Nat) (w : World) (hCp : Kd.C (Kd.int .i64) w Ap p.length p) (hCx : Kd.C (Kd.int .i64) w Ax x.length x) (hp : within 16777216 p) (hx : within 2097152 x) (hl : p.length ≤ 12) (hn : n ≤ x.length) :
    Calls Tryz.prog 138 #[.slice Ap p.length cp, .slice Ax x.length cx, .int .i64 n] w fun e w' => e = .returned (.int .i64 (pred p x n)) ∧ w = w' := by
  have hlx := Kd.C_max hCx
  have HP := Aside0.mk hCp
  have HX := Aside0.mk hCx
  have BP := Aside0.mk hp
  have BX := Aside0.mk hx
  clear hCp hCx hp hx
  go_enter Tryz.func138, Tryz.ntmps138
  go_wp2
  go_loop [7, 8, 9, 12] (fun s _ _ i => ∃ j : Nat, j ≤ p.length ∧ i = .int .i64 j ∧ s = .int .i64 (pacc p x n j)) (fun _ _ _ i => p.length - (intOf i).toNat)
  case atStart => exact ⟨0, Nat.zero_le _, rfl, rfl⟩
  case round =>
    obtain ⟨j, hj, rfl, rfl⟩ := hrel
    by_cases hlt : j < p.length
    · obtain ⟨ad, e, hc⟩ := Kd.at_int HP.out (j : Int) (by omega) (by omega)
      cases e
      rw [Int.toNat_natCast] at hc
      have hb := pacc_bound BP.out BX.out n j
      have hs := pacc_succ p x n j
      have hb1 := pacc_bound BP.out BX.out n (j + 1)
      have i1 : (0 : Int) ≤ (j : Int) := by omega
      have i2 : (j : Int) < (p.length : Int) := by omega
      have w1' : IntKind.i64.wrap ((n : Int) - 1) = (n : Int) - 1 := IntWalk.i64_in _ (by omega)
      have w2' : IntKind.i64.wrap ((n : Int) - 1 - (j : Int)) = (n : Int) - 1 - (j : Int) := IntWalk.i64_in _ (by omega)
      by_cases hjn : j < n
      · have hm := mul_bound (within_rd BP.out (by omega) (j : Int)) (within_rd BX.out (by omega) ((n : Int) - 1 - (j : Int)))
        obtain ⟨ax, e2, hcx⟩ := Kd.at_int HX.out ((n : Int) - 1 - (j : Int)) (by omega) (by omega)
        cases e2
        have ht : pterm p x n j = rd p (j : Int) * rd x ((n : Int) - 1 - (j : Int)) := by unfold pterm; rw [if_pos hjn]
        rw [ht] at hs
        rw [hs] at hb1
        have HS := Aside0.mk hs
        have q1 : decide ((0 : Int) ≤ (n : Int) - 1 - (j : Int)) = true := by simp; omega
        have i3 : (0 : Int) ≤ (n : Int) - 1 - (j : Int) := by omega
        have i4 : (n : Int) - 1 - (j : Int) < (x.length : Int) := by omega
        have i5 : (j : Int) ≤ (n : Int) - 1 := by omega
        obtain ⟨z, hz⟩ : ∃ z, z = rd p (j : Int) := ⟨_, rfl⟩
        obtain ⟨y, hy⟩ : ∃ y, y = rd x ((n : Int) - 1 - (j : Int)) := ⟨_, rfl⟩
        rw [← hz, ← hy] at hm hb1 HS
        rw [← hz] at hc
        rw [← hy] at hcx
        have w3' : IntKind.i64.wrap (z * y) = z * y := IntWalk.i64_in _ (by omega)
        have w4' : IntKind.i64.wrap (pacc p x n j + z * y) = pacc p x n j + z * y := IntWalk.i64_in _ (by omega)
        have hcx' : w.cell? (ax.add (n - 1 - j)) = some (.int .i64 y) := by rw [← hcx, show ((n : Int) - 1 - (j : Int)).toNat = n - 1 - j by omega]
        clear hs ht hz hy hcx
        go_wp2
        go_round
        case rel => exact ⟨j + 1, by omega, by go_num, by rw [HS.out]⟩
        case measure => simp [intOf]; omega
      · have ht : pterm p x n j = 0 := by unfold pterm; rw [if_neg hjn]
        rw [ht, Int.add_zero] at hs
        have HS := Aside0.mk hs
        have q1 : decide ((0 : Int) ≤ (n : Int) - 1 - (j : Int)) = false := by simp; omega
        have i5 : ¬ (j : Int) ≤ (n : Int) - 1 := by omega
        clear hs ht
        go_wp2
        go_round
        case rel => exact ⟨j + 1, by omega, by go_num, by rw [HS.out]⟩
        case measure => simp [intOf]; omega
    · obtain rfl : j = p.length := by omega
      have hb := pacc_bound BP.out BX.out n p.length
      go_wp2_with (go_at_call 173; refine (round_any _ 4096 _ (by omega) (by omega) (by omega) (by omega)).mono ?_; rintro e w1 ⟨rfl, rfl⟩)
      go_ret
      exact ⟨rfl, rfl⟩
end Go.Proofs.YtjcijaojcgampaaGreatDoor.P.Lin
end
section
namespace Go.Proofs.YtjcijaojcgampaaGreatDoor.P.Lin
open Go.RowKit Go.Shelf Go.Proofs.YtjcijaojcgampaaGreatDoorW.PrintWords Go.Proofs.YtjcijaojcgampaaGreatDoorW.PrintLast Go.Proofs.YtjcijaojcgampaaGreatDoorW.PrintMore
attribute [local go_sem ↓] Go.wp_at_zero Go.wp_at_succ
def resid (p x : List Int) : List Int := (List.range x.length).map fun (n : Nat) => rd x (n : Int) - pred p x n
theorem resid_take (p x : List Int) (k : Nat) (h : k < x.length) : (resid p x).take (k + 1) = (resid p x).take k ++ [rd x (k : Int) - pred p x k] := by
  rw [List.take_add_one]
  simp [resid, h]
theorem resid_length (p x : List Int) : (resid p x).length = x.length := by simp [resid]
theorem residual_yes (A0 : Option Addr) (c0 : Nat) (l0 : List Int) (A1 : Option Addr) (c1 : Nat) (l1 : List Int) (w : World) (hr0 : Kd.C (Kd.int .i64) w A0 l0.length l0) (hc0 : l0.length ≤ c0) (hr1 : Kd.C (Kd.int .i64) w A1 l1.length l1) (hc1 : l1.length ≤ c1) (hf : isF l1 = true) (hz : chk l0 2097152 = 0) :
    Calls Tryz.prog 102 #[.slice A0 l0.length c0, .slice A1 l1.length c1] w fun e w' => ∃ v0_ : Value, e = .returned (.tuple #[v0_, .int .i64 0]) ∧ Kd.R (Kd.int .i64) 3 w' w.heap.size (fun _ => True) v0_ (resid (wts l1) l0) ∧ Below w.heap.size w w' := by
  obtain ⟨hlen, hwi⟩ := chk_zero hz
  obtain ⟨hW, hWb, hWl⟩ := isF_wts hf
  have hl1 := (isF_within hf).1
  have HR := Aside0.mk hr0
  have HR1 := Aside0.mk hr1
  have HZ := Aside0.mk hz
  have HF := Aside0.mk hf
  have HW := Aside0.mk hwi
  have HWT := Aside0.mk hW
  have HWB := Aside0.mk (within_mono hWb (show (16646144 : Int) ≤ 16777216 by omega))
  have HWL := Aside0.mk hWl
  obtain ⟨p, hp⟩ : ∃ p, p = wts l1 := ⟨_, rfl⟩
  rw [← hp] at HWT HWB HWL
  have HPP := Aside0.mk hp
  clear hr0 hr1 hz hf hwi hW hWb hWl hp
  have B0 := Aside0.mk (Below.refl w.heap.size w)
  go_enter Tryz.func102, Tryz.ntmps102
  go_wp2_with (first
    | (go_at_call 136; refine (linear_isFilter.calls A1 c1 l1 true _ HR1.out hc1 (by unfold linear_isFilter.f; rw [HF.out])).mono ?_; rintro e w1 ⟨rfl, hb1⟩; have HB1 := Aside0.mk hb1.below; clear hb1)
    | (go_at_call 128; refine (linear_check.calls A0 c0 l0 2097152 0 _ (Kd.C_below HR.out HB1.out) hc0 (by unfold linear_check.f; rw [if_pos (by omega), HZ.out])).mono ?_; rintro e w2 ⟨rfl, hb2⟩; have HB2 := Aside0.mk (below_step HB1.out hb2); clear hb2)
    | (go_at_call 137; refine (linear_weights.calls A1 c1 l1 _ _ (Kd.C_below HR1.out HB2.out) hc1 HWT.out).mono ?_; rintro e w3 ⟨v3, rfl, ho3, hb3⟩; obtain ⟨A3, c3, hv3, hc3, hC3⟩ := Kd.R_reads ho3; cases hv3; have HO3 := Aside0.mk ho3; have HB3 := Aside0.mk (below_step HB2.out hb3); have HL3 := Aside0.mk hc3; clear ho3 hb3 hC3 hc3))
  have HR3 := Aside0.mk (Kd.C_below HR.out HB3.out)
  obtain ⟨A3', c3', e3, hc3', hC3'⟩ := Kd.R_reads HO3.out
  cases e3
  have HP3 := Aside0.mk hC3'
  clear hC3'
  go_loopw [8, 9, 10, 24] (fun v _ _ u wr => ∃ k : Nat, k ≤ l0.length ∧ u = .int .i64 k ∧ Aside0 (Kd.R (Kd.int .i64) 3 wr w3.heap.size (fun _ => True) v ((resid p l0).take k)) ∧ Aside0 (Below w3.heap.size w3 wr)) (fun _ _ _ u _ => l0.length - (intOf u).toNat)
  case atStart => exact ⟨0, Nat.zero_le _, rfl, ⟨by simpa using Kd.R_nil _ _ _ _ _⟩, ⟨Below.refl _ _⟩⟩
  case round =>
    obtain ⟨k, hk, rfl, HO, HB⟩ := hrel
    obtain ⟨Av, cv, hv, hcv, hCv⟩ := Kd.R_reads HO.out
    rw [List.length_take, resid_length, Nat.min_eq_left hk] at hv hcv hCv
    cases hv
    clear hCv
    by_cases hlt : k < l0.length
    · have HT := Aside0.mk (resid_take p l0 k hlt)
      have HLk := Aside0.mk (show ((resid p l0).take k).length = k by rw [List.length_take, resid_length]; omega)
      have hsz := HB.out.size
      obtain ⟨ad, e, hx⟩ := Kd.at_int (Kd.C_below HR3.out HB.out) (k : Int) (by omega) (by omega)
      cases e
      rw [Int.toNat_natCast] at hx
      have bx := within_rd HW.out (by omega) (k : Int)
      have bp := pred_bound HWB.out HW.out k (by have := HWL.out; omega)
      obtain ⟨x, hxx⟩ : ∃ x, x = rd l0 (k : Int) := ⟨_, rfl⟩
      rw [← hxx] at hx bx HT
      obtain ⟨y, hyy⟩ : ∃ y, y = pred p l0 k := ⟨_, rfl⟩
      rw [← hyy] at bp HT
      have HY := Aside0.mk hyy
      have i1 : (0 : Int) ≤ (k : Int) := by omega
      have i2 : (k : Int) < (l0.length : Int) := by omega
      have w1' : IntKind.i64.wrap (x - y) = x - y := IntWalk.i64_in _ (by omega)
      clear hxx hyy
      go_wp2_with (first
        | (go_at_call 138; have hq := at_any A3 _ c3 c0 p l0 k _ (Kd.C_below HP3.out HB.out) (Kd.C_below HR3.out HB.out) HWB.out HW.out (by have := HWL.out; omega) hk; rw [← HY.out] at hq; refine hq.mono ?_; clear hq; rintro e w9 ⟨rfl, rfl⟩)
        | (at_builtin; refine Kd.R_append (Kd.int .i64) (w0 := w3) w3.heap.size rfl (.tmp 29) (.tmp 36) 22 3 (.int .i64 0) 8 rfl Tryz.underlying22 hinfo3 rfl (by decide) (by omega) _ ((resid p l0).take k) (x - y) [.int .i64 (x - y)] (fun _ => True) (fun _ => False) rfl rfl rfl (fun _ hk => hk.elim) (fun _ _ => trivial) HO.out HB.out HB.out.size (by rw [HLk.out]; omega) ?_; intro v9 w9 ho hb hg hat; rw [← HT.out] at ho; have HO9 := Aside0.mk ho; have HB9 := Aside0.mk hb; clear ho hb hg hat))
      go_roundw
      case rel => exact ⟨k + 1, by omega, by go_num, HO9, HB9⟩
      case measure => simp [intOf]; omega
    · obtain rfl : k = l0.length := by omega
      go_wp2
      go_ret2
      have h1 := HO.out
      rw [List.take_of_length_le (by rw [resid_length]; exact Nat.le_refl _), HPP.out] at h1
      exact ⟨_, rfl, Kd.R_lower h1 (below_size HB3.out), below_step HB3.out HB.out⟩
def restF (p : List Int) : List Int → List Int → Option (List Int)
  | out, [] => some out
  | out, v :: d => if v + pred p out out.length < -2097152 ∨ 2097152 < v + pred p out out.length then none else restF p (out ++ [v + pred p out out.length]) d
def linear_Restore.f (l0 l1 : List Int) : Option (List Int × Int) :=
  if l0.length ≤ 9223372036854775807 ∧ l1.length ≤ 9223372036854775807 then
    (if isF l1 = false then some ([], 1) else if chk l0 1099511627776 = 0 then (match restF (wts l1) [] l0 with | some l => some (l, 0) | none => some ([], 6)) else some ([], chk l0 1099511627776))
  else none
theorem made_cap (m : Nat) (hm : m ≤ 1000000) : ∀ W : World, (Instr.makeSlice 22 (.int .i64 0) (.int .i64 (m : Int))).run Tryz.prog W = .ok (.slice (some ⟨W.heap.size, 0, none⟩) 0 m) (W.alloc (.cells (madeCells #[.int .i64 0] m) 3)) := by
  intro W
  obtain ⟨i0, hi, hzz⟩ := Option.map_eq_some_iff.1 hinfo3
  simp only [Prod.mk.injEq] at hzz
  have hr := Go.run_make (P := Tryz.prog) (w := W) 22 3 i0 (.int .i64 0) Tryz.underlying22 hi hzz.1 .i64 .i64 0 (m : Int) (by omega) (by omega) (by rw [hzz.2.2]; omega) (by omega)
  rw [hr, hzz.2.1]
  simp [Value.cells]
theorem restore_yes (A0 : Option Addr) (c0 : Nat) (l0 : List Int) (A1 : Option Addr) (c1 : Nat) (l1 : List Int) (w : World) (r1 : List Int) (r2 : Int) (hr0 : Kd.C (Kd.int .i64) w A0 l0.length l0) (hc0 : l0.length ≤ c0) (hr1 : Kd.C (Kd.int .i64) w A1 l1.length l1) (hc1 : l1.length ≤ c1) (hf : isF l1 = true) (hz : chk l0 1099511627776 = 0)
    (h : (match restF (wts l1) [] l0 with | some l => some (l, (0 : Int)) | none => some ([], 6)) = some (r1, r2)) :
    Calls Tryz.prog 157 #[.slice A0 l0.length c0, .slice A1 l1.length c1] w fun e w' => ∃ v0_ : Value, e = .returned (.tuple #[v0_, .int .i64 r2]) ∧ Kd.R (Kd.int .i64) 3 w' w.heap.size (fun _ => True) v0_ r1 ∧ Below w.heap.size w w' := by
  obtain ⟨hlen, hwi⟩ := chk_zero hz
  obtain ⟨hW, hWb, hWl⟩ := isF_wts hf
  have hl1 := (isF_within hf).1
  have HR := Aside0.mk hr0
  have HR1 := Aside0.mk hr1
  have HZ := Aside0.mk hz
  have HF := Aside0.mk hf
  have HW := Aside0.mk hwi
  have HWT := Aside0.mk hW
  have HWB := Aside0.mk (within_mono hWb (show (16646144 : Int) ≤ 16777216 by omega))
  have HWL := Aside0.mk hWl
  obtain ⟨p, hp⟩ : ∃ p, p = wts l1 := ⟨_, rfl⟩
  rw [← hp] at HWT HWB HWL h
  have HPP := Aside0.mk hp
  have HH := Aside0.mk h
  have hmk := made_cap l0.length (by omega)
  clear hr0 hr1 hz hf hwi hW hWb hWl hp h
  go_enter Tryz.func157, Tryz.ntmps157
  go_wp2_with (first
    | (go_at_call 136; refine (linear_isFilter.calls A1 c1 l1 true _ HR1.out hc1 (by unfold linear_isFilter.f; rw [HF.out])).mono ?_; rintro e w1 ⟨rfl, hb1⟩; have HB1 := Aside0.mk hb1.below; clear hb1)
    | (go_at_call 128; refine (linear_check.calls A0 c0 l0 1099511627776 0 _ (Kd.C_below HR.out HB1.out) hc0 (by unfold linear_check.f; rw [if_pos (by omega), HZ.out])).mono ?_; rintro e w2 ⟨rfl, hb2⟩; have HB2 := Aside0.mk (below_step HB1.out hb2); clear hb2)
    | (go_at_call 137; refine (linear_weights.calls A1 c1 l1 _ _ (Kd.C_below HR1.out HB2.out) hc1 HWT.out).mono ?_; rintro e w3 ⟨v3, rfl, ho3, hb3⟩; obtain ⟨A3, c3, hv3, hc3, hC3⟩ := Kd.R_reads ho3; cases hv3; have HO3 := Aside0.mk ho3; have HB3 := Aside0.mk (below_step HB2.out hb3); have HL3 := Aside0.mk hc3; clear ho3 hb3 hC3 hc3))
  have HR3 := Aside0.mk (Kd.C_below HR.out HB3.out)
  obtain ⟨A3', c3', e3, hc3', hC3'⟩ := Kd.R_reads HO3.out
  cases e3
  have HP3 := Aside0.mk hC3'
  have h0 := Kd.R_take (m := 0) (made_R w3 w3.heap.size l0.length (Nat.le_refl _) (by omega)) (by omega)
  have HO0 := Aside0.mk (Kd.R_mono h0 (fun _ _ => trivial) : Kd.R (Kd.int .i64) 3 _ w3.heap.size (fun _ => True) _ _)
  clear hC3' hmk h0
  go_loopw [8, 9, 10, 27] (fun v _ _ u wr => ∃ (k : Nat) (L : List Int), k ≤ l0.length ∧ u = .int .i64 k ∧ Aside0 (L.length = k) ∧ Aside0 (within 2097152 L) ∧ Aside0 (restF p L (l0.drop k) = restF p [] l0) ∧ Aside0 (Kd.R (Kd.int .i64) 3 wr w3.heap.size (fun _ => True) v L) ∧ Aside0 (Below w3.heap.size w3 wr)) (fun _ _ _ u _ => l0.length - (intOf u).toNat)
  case atStart => exact ⟨0, [], Nat.zero_le _, rfl, ⟨rfl⟩, ⟨fun x hx => by cases hx⟩, ⟨rfl⟩, ⟨by simpa using HO0.out⟩, ⟨below_alloc (Below.refl _ _) _⟩⟩
  case round =>
    obtain ⟨k, L, hk, rfl, HL, HLW, HE, HO, HB⟩ := hrel
    obtain ⟨Av, cv, hv, hcv, hCv⟩ := Kd.R_reads HO.out
    rw [HL.out] at hv hcv hCv
    cases hv
    have HCv := Aside0.mk hCv
    clear hCv
    by_cases hlt : k < l0.length
    · have hsz := HB.out.size
      obtain ⟨ad, e, hx⟩ := Kd.at_int (Kd.C_below HR3.out HB.out) (k : Int) (by omega) (by omega)
      cases e
      rw [Int.toNat_natCast] at hx
      have bx := within_rd HW.out (by omega) (k : Int)
      have bp := pred_bound HWB.out HLW.out k (by have := HWL.out; omega)
      have hE := HE.out
      rw [drop_head l0 k hlt, restF, HL.out] at hE
      obtain ⟨x, hxx⟩ : ∃ x, x = rd l0 (k : Int) := ⟨_, rfl⟩
      rw [← hxx] at hx bx hE
      obtain ⟨y, hyy⟩ : ∃ y, y = pred p L k := ⟨_, rfl⟩
      rw [← hyy] at bp hE
      have HY := Aside0.mk hyy
      have i1 : (0 : Int) ≤ (k : Int) := by omega
      have i2 : (k : Int) < (l0.length : Int) := by omega
      have w1' : IntKind.i64.wrap (x + y) = x + y := IntWalk.i64_in _ (by omega)
      obtain ⟨z, hzz⟩ : ∃ z, z = x + y := ⟨_, rfl⟩
      rw [← hzz] at hE w1'
      have HZZ := Aside0.mk hzz
      have w2' : IntKind.i64.wrap (x + y) = z := by rw [← hzz]; exact w1'
      clear hxx hyy hzz w1'
      have HAT : Aside0 (∀ W, Below w3.heap.size w3 W → Kd.C (Kd.int .i64) W Av k L → Calls Tryz.prog 138 #[.slice A3 p.length c3, .slice Av k cv, .int .i64 k] W fun e w' => e = .returned (.int .i64 y) ∧ W = w') := ⟨fun W hW hC => by
        have hq := at_any A3 Av c3 cv p L k W (Kd.C_below HP3.out hW) (by rw [HL.out]; exact hC) HWB.out HLW.out (by have := HWL.out; omega) (by rw [HL.out]; exact Nat.le_refl _)
        rw [← HY.out, HL.out] at hq
        exact hq⟩
      by_cases hlo : z < -2097152
      · have q1 : decide (z < -2097152) = true := by simpa using hlo
        rw [if_pos (Or.inl hlo)] at hE
        have HE2 := Aside0.mk hE
        clear hE
        go_wp2_with (go_at_call 138; refine (HAT.out _ HB.out HCv.out).mono ?_; rintro e w9 ⟨rfl, rfl⟩)
        try rw [Exit.noGoto_ret]
        go_ret2
        have h1 := HH.out
        rw [← HE2.out] at h1
        simp only [Option.some.injEq, Prod.mk.injEq] at h1
        obtain ⟨rfl, rfl⟩ := h1
        exact ⟨_, rfl, Kd.R_nil _ _ _ _ _, below_step HB3.out HB.out⟩
      · have q1 : decide (z < -2097152) = false := by simpa using hlo
        by_cases hhi : 2097152 < z
        · have q2 : decide (2097152 < z) = true := by simpa using hhi
          rw [if_pos (Or.inr hhi)] at hE
          have HE2 := Aside0.mk hE
          clear hE
          go_wp2_with (go_at_call 138; refine (HAT.out _ HB.out HCv.out).mono ?_; rintro e w9 ⟨rfl, rfl⟩)
          try rw [Exit.noGoto_ret]
          go_ret2
          have h1 := HH.out
          rw [← HE2.out] at h1
          simp only [Option.some.injEq, Prod.mk.injEq] at h1
          obtain ⟨rfl, rfl⟩ := h1
          exact ⟨_, rfl, Kd.R_nil _ _ _ _ _, below_step HB3.out HB.out⟩
        · have q2 : decide (2097152 < z) = false := by simpa using hhi
          rw [if_neg (by omega)] at hE
          have HE2 := Aside0.mk hE
          clear hE
          go_wp2_with (first
            | (go_at_call 138; refine (HAT.out _ HB.out HCv.out).mono ?_; rintro e w9 ⟨rfl, rfl⟩)
            | (at_builtin; refine Kd.R_append (Kd.int .i64) (w0 := w3) w3.heap.size rfl (.tmp 44) (.tmp 46) 22 3 (.int .i64 0) 8 rfl Tryz.underlying22 hinfo3 rfl (by decide) (by omega) _ L z [.int .i64 z] (fun _ => True) (fun _ => False) rfl rfl rfl (fun _ hk => hk.elim) (fun _ _ => trivial) HO.out HB.out HB.out.size (by rw [HL.out]; omega) ?_; intro v9 w9 ho hb hg hat; have HO9 := Aside0.mk ho; have HB9 := Aside0.mk hb; clear ho hb hg hat))
          go_roundw
          case rel =>
            refine ⟨k + 1, L ++ [z], by omega, by go_num, ⟨by rw [List.length_append, HL.out]; rfl⟩, ⟨fun t ht => ?_⟩, HE2, HO9, HB9⟩
            rcases List.mem_append.1 ht with ht | ht
            · exact HLW.out t ht
            · obtain rfl := List.mem_singleton.1 ht
              omega
          case measure => simp [intOf]; omega
    · obtain rfl : k = l0.length := by omega
      have hE := HE.out
      rw [List.drop_length, restF] at hE
      have HE2 := Aside0.mk hE
      clear hE
      go_wp2
      go_ret2
      have h1 := HH.out
      rw [← HE2.out] at h1
      simp only [Option.some.injEq, Prod.mk.injEq] at h1
      obtain ⟨rfl, rfl⟩ := h1
      exact ⟨_, rfl, Kd.R_lower HO.out (below_size HB3.out), below_step HB3.out HB.out⟩
theorem linear_Restore.calls (A0 : Option Addr) (c0 : Nat) (l0 : List Int) (A1 : Option Addr) (c1 : Nat) (l1 : List Int) (r1 : List Int) (r2 : Int) (w : World) (hr0 : Kd.C (Kd.int .i64) w A0 l0.length l0) (hc0 : l0.length ≤ c0) (hr1 : Kd.C (Kd.int .i64) w A1 l1.length l1) (hc1 : l1.length ≤ c1) (h : linear_Restore.f l0 l1 = some (r1, r2)) :
    Calls Tryz.prog 157 #[.slice A0 l0.length c0, .slice A1 l1.length c1] w fun e w' => ∃ v0_ : Value, e = .returned (.tuple #[v0_, .int .i64 r2]) ∧ Kd.R (Kd.int .i64) 3 w' w.heap.size (fun _ => True) v0_ r1 ∧ Below w.heap.size w w' := by
  unfold linear_Restore.f at h
  split at h
  · rename_i hl
    split at h
    · rename_i hf
      simp only [Option.some.injEq, Prod.mk.injEq] at h
      obtain ⟨rfl, rfl⟩ := h
      have HR1 := Aside0.mk hr1
      have HF := Aside0.mk hf
      clear hr0 hr1 hf
      go_enter Tryz.func157, Tryz.ntmps157
      go_wp2_with (go_at_call 136; refine (linear_isFilter.calls A1 c1 l1 false _ HR1.out hc1 (by unfold linear_isFilter.f; rw [HF.out])).mono ?_; rintro e w1 ⟨rfl, hb1⟩; have HB1 := Aside0.mk hb1.below; clear hb1)
      go_ret2
      exact ⟨_, rfl, Kd.R_nil _ _ _ _ _, HB1.out⟩
    · rename_i hf
      have hf : isF l1 = true := by cases hq : isF l1 with
        | true => rfl
        | false => exact absurd hq hf
      split at h
      · rename_i hz
        exact restore_yes A0 c0 l0 A1 c1 l1 w r1 r2 hr0 hc0 hr1 hc1 hf hz h
      · rename_i hz
        simp only [Option.some.injEq, Prod.mk.injEq] at h
        obtain ⟨rfl, rfl⟩ := h
        have HR := Aside0.mk hr0
        have HR1 := Aside0.mk hr1
        have HF := Aside0.mk hf
        clear hr0 hr1 hf
        obtain ⟨q, hq⟩ : ∃ q, q = chk l0 1099511627776 := ⟨_, rfl⟩
        rw [← hq] at hz ⊢
        have HQ := Aside0.mk hq
        clear hq
        have hz1 : (q != 0) = true := by simpa using hz
        have hz2 : (q == 0) = false := by simpa using hz
        go_enter Tryz.func157, Tryz.ntmps157
        go_wp2_with (first
          | (go_at_call 136; refine (linear_isFilter.calls A1 c1 l1 true _ HR1.out hc1 (by unfold linear_isFilter.f; rw [HF.out])).mono ?_; rintro e w1 ⟨rfl, hb1⟩; have HB1 := Aside0.mk hb1.below; clear hb1)
          | (go_at_call 128; refine (linear_check.calls A0 c0 l0 1099511627776 q _ (Kd.C_below HR.out HB1.out) hc0 (by unfold linear_check.f; rw [if_pos (by omega), HQ.out])).mono ?_; rintro e w2 ⟨rfl, hb2⟩; have HB2 := Aside0.mk (below_step HB1.out hb2); clear hb2))
        go_ret2
        exact ⟨_, rfl, Kd.R_nil _ _ _ _ _, HB2.out⟩
  · cases h
def reflected (x : List Int) (o : Nat) : List Int := coefs (normd x o).tail ((normd x o).take o) o
def linear_Reflect.f (l0 : List Int) (a1 : Int) : Option (List Int × Int) :=
  if l0.length ≤ 9223372036854775807 then
    (if a1 < 0 ∨ 12 < a1 then some ([], 1) else if chk l0 2097152 = 0 then some (reflected l0 a1.toNat, 0) else some ([], chk l0 2097152))
  else none
theorem refl_lower {w : World} {b b' bu bv : Nat} {u v : List Int} (h : Refl w b bu bv u v) (hb : b' ≤ b) : Refl w b' bu bv u v := by
  obtain ⟨U, V, h1, h2, h3, h4, h5⟩ := h
  exact ⟨U, V, h1, h2, Kd.R_lower h3 hb, Kd.R_lower h4 hb, h5⟩
theorem row_fr {w w1 : World} {b base bu bv : Nat} {u v l : List Int} {x : Value} (h : Kd.R (Kd.int .i64) 3 w base (fun _ => True) x l) (hR : Refl w b bu bv u v) (hf : Fr (fun k => k = bu ∨ k = bv) w w1) : Kd.R (Kd.int .i64) 3 w1 base (fun _ => True) x l := by
  obtain ⟨U, V, h1, h2, h3, h4, h5⟩ := hR
  have a := Kd.R_types (Kd.R_types h h1 (by simp [Kd.int, Kd.scalar])) h2 (by simp [Kd.int, Kd.scalar])
  exact Kd.R_mono (R_fr a hf (fun k hk _ hs => by rcases hs with rfl | rfl; exact hk.1.2 rfl; exact hk.2 rfl)) (fun _ _ => trivial)
theorem refl_grown {W w9 : World} {b base bu bv : Nat} {u v l : List Int} {x : Value} (hR : Refl W b bu bv u v) (h : Kd.R (Kd.int .i64) 3 W base (fun _ => True) x l) (hlt : ∀ k, x.ownBlock = some k → k < b) (hg : W.grownBy w9 x.ownBlock) : Refl w9 b bu bv u v := by
  obtain ⟨U, V, h1, h2, h3, h4, h5⟩ := hR
  have n1 := Kd.R_ne h h1 (by decide)
  have n2 := Kd.R_ne h h2 (by decide)
  have f : ∀ k, b ≤ k → some k ≠ x.ownBlock := fun k hk he => by have := hlt k he.symm; omega
  exact ⟨U, V, (hg.block bu (lt_of_block h1) n1).trans h1, (hg.block bv (lt_of_block h2) n2).trans h2,
    Kd.R_mono (Kd.R_grown (Kd.R_bound h3) hg (fun k hk => f k hk.2.1)) (fun _ _ => trivial), Kd.R_mono (Kd.R_grown (Kd.R_bound h4) hg (fun k hk => f k hk.2.1)) (fun _ _ => trivial), h5⟩
theorem normd_length (x : List Int) (o : Nat) : (normd x o).length = o + 1 := by simp [normd, autos]
theorem reflect_yes (A0 : Option Addr) (c0 : Nat) (l0 : List Int) (o : Nat) (w : World) (hr0 : Kd.C (Kd.int .i64) w A0 l0.length l0) (hc0 : l0.length ≤ c0) (hk : o ≤ 12) (hz : chk l0 2097152 = 0) :
    Calls Tryz.prog 101 #[.slice A0 l0.length c0, .int .i64 o] w fun e w' => ∃ v0_ : Value, e = .returned (.tuple #[v0_, .int .i64 0]) ∧ Kd.R (Kd.int .i64) 3 w' w.heap.size (fun _ => True) v0_ (reflected l0 o) ∧ Below w.heap.size w w' := by
  obtain ⟨hlen, hwi⟩ := chk_zero hz
  have HR := Aside0.mk hr0
  have HZ := Aside0.mk hz
  have HW := Aside0.mk hwi
  obtain ⟨g0, G, hG⟩ : ∃ g0 G, normd l0 o = g0 :: G := by
    cases h : normd l0 o with
    | nil => have := normd_length l0 o; rw [h] at this; cases this
    | cons a t => exact ⟨a, t, rfl⟩
  have hGl : G.length = o := by have := normd_length l0 o; rw [hG] at this; simpa using this
  have hbd := normd_bnd hwi (by omega) o
  have huv : reflected l0 o = coefs G ((g0 :: G).take o) o := by unfold reflected; rw [hG]; rfl
  have hbu : bnd 1073741824 G := fun i => by
    by_cases hi : 0 ≤ i
    · have := hbd (i + 1)
      rw [hG] at this
      rwa [show rd (g0 :: G) (i + 1) = rd G i from by unfold rd; rw [show (i + 1).toNat = i.toNat + 1 by omega]; rfl] at this
    · have := hbd 1
      rw [hG] at this
      rwa [show rd (g0 :: G) 1 = rd G i from by unfold rd; rw [show i.toNat = 0 by omega]; rfl] at this
  have hbv : bnd 1073741824 ((g0 :: G).take o) := fun i => by
    have h1 := hbd i
    rw [hG] at h1
    unfold rd at h1 ⊢
    rw [List.getD_eq_getElem?_getD] at h1 ⊢
    rw [List.getElem?_take]
    split
    · exact h1
    · simp
  have hvl : ((g0 :: G).take o).length = o := by simp [hGl]
  have HGL := Aside0.mk hGl
  have HVL := Aside0.mk hvl
  have HUV := Aside0.mk huv
  have HG := Aside0.mk hG
  have HBU := Aside0.mk hbu
  have HBV := Aside0.mk hbv
  clear hr0 hz hwi hbu hbv hbd hvl huv hG hGl
  have hd1 : decide ((o : Int) < 0) = false := by simp
  have hd2 : decide ((12 : Int) < (o : Int)) = false := by simp; omega
  go_enter Tryz.func101, Tryz.ntmps101
  go_wp2_with (first
    | (go_at_call 128; refine (linear_check.calls A0 c0 l0 2097152 0 _ HR.out hc0 (by unfold linear_check.f; rw [if_pos (by omega), HZ.out])).mono ?_; rintro e w1 ⟨rfl, hb1⟩; have HB1 := Aside0.mk hb1; clear hb1)
    | (go_at_call 135; refine (normalized_any A0 c0 l0 o _ (Kd.C_below HR.out HB1.out) HW.out (by omega) hk).mono ?_; rintro e w2 ⟨v2, rfl, ho2, hb2⟩; rw [HG.out] at ho2; obtain ⟨A2, c2, hv2, hc2, hC2⟩ := Kd.R_reads ho2; rw [List.length_cons, HGL.out] at hv2; cases hv2; have HO2 := Aside0.mk ho2; have HB2 := Aside0.mk hb2; have HC2 := Aside0.mk hC2; have HL2 := Aside0.mk hc2; clear ho2 hb2 hC2 hc2)
    | (go_at_call 134; have hq := reflector_any A2 c2 g0 G _ HC2.out HL2.out (by have := HGL.out; omega); rw [HGL.out] at hq; refine hq.mono ?_; clear hq; rintro e w3 ⟨bu, bv, rfl, hR3, hbu3, hbv3, hb3⟩; have HR3 := Aside0.mk hR3; have HB3 := Aside0.mk hb3; clear hR3 hb3))
  obtain ⟨V, hV⟩ : ∃ V, V = (g0 :: G).take o := ⟨_, rfl⟩
  rw [← hV] at HR3 HBV HVL HUV
  obtain ⟨U, hU⟩ : ∃ U, U = G := ⟨_, rfl⟩
  rw [← hU] at HR3 HBU HGL HUV
  have hbu4 : w.heap.size ≤ bu := Nat.le_trans (below_size (below_step HB1.out HB2.out)) hbu3
  have hbv4 : w.heap.size ≤ bv := Nat.le_trans (below_size (below_step HB1.out HB2.out)) hbv3
  clear hV hU hbu3 hbv3
  go_loopw [7, 25] (fun v u wr => ∃ k : Nat, k ≤ o ∧ u = .int .i64 k ∧ Aside0 (Kd.R (Kd.int .i64) 3 wr w.heap.size (fun _ => True) v ((coefs U V o).take k)) ∧ Aside0 (Refl wr w.heap.size bu bv (rst U V k).1 (rst U V k).2) ∧ Aside0 (Below w.heap.size w wr)) (fun _ u _ => o - (intOf u).toNat)
  case atStart => exact ⟨0, Nat.zero_le _, rfl, ⟨by simpa using Kd.R_nil _ _ _ _ _⟩, ⟨refl_lower HR3.out (below_size (below_step HB1.out HB2.out))⟩, ⟨below_step (below_step HB1.out HB2.out) HB3.out⟩⟩
  case round =>
    obtain ⟨k, hk', rfl, HO, HRk, HB⟩ := hrel
    by_cases hlt : k < o
    · obtain ⟨m, hm⟩ : ∃ m, o - k = m + 1 := ⟨o - k - 1, by omega⟩
      have hlen1 := rst_length HGL.out HVL.out k
      have hbd := bnd_rst' HBU.out HBV.out k (by omega)
      have HT := Aside0.mk (coefs_take U V o k hlt)
      have HLk := Aside0.mk (show ((coefs U V o).take k).length = k by rw [List.length_take, coefs_length]; omega)
      have HCL : Aside0 (Calls Tryz.prog 172 #[.pointer (some ⟨bv, 0, none⟩), .pointer (some ⟨bu, 0, none⟩)] wr fun e w' => e = .returned (.int .i64 (refK (rst U V k).1 (rst U V k).2)) ∧ Refl w' wr.heap.size bu bv (rst U V (k + 1)).1 (rst U V (k + 1)).2 ∧ Fr (fun k => k = bu ∨ k = bv) wr w') :=
        ⟨reflector1_any bu bv w.heap.size _ _ wr HRk.out m (by omega) (by omega) (by omega) hbd.1 hbd.2⟩
      obtain ⟨q, hq⟩ : ∃ q, q = refK (rst U V k).1 (rst U V k).2 := ⟨_, rfl⟩
      rw [← hq] at HCL HT
      have hsz := HB.out.size
      clear hq hlen1 hbd hm
      go_wp2_with (first
        | (go_at_call 172; refine HCL.out.mono ?_; rintro e w4 ⟨rfl, hR4, hF4⟩; have HO4 := Aside0.mk (row_fr HO.out HRk.out hF4); have HB4 := Aside0.mk (HB.out.trans (hF4.to_below hsz (fun j hj => by rcases hj with rfl | rfl; exact hbu4; exact hbv4))); have HR4 := Aside0.mk hR4; have HF4 := Aside0.mk hF4; clear hR4 hF4)
        | (at_builtin; refine Kd.R_append (Kd.int .i64) (w0 := w) w.heap.size rfl (.tmp 27) (.tmp 30) 22 3 (.int .i64 0) 8 rfl Tryz.underlying22 hinfo3 rfl (by decide) (by omega) _ ((coefs U V o).take k) q [.int .i64 q] (fun _ => True) (fun _ => False) rfl rfl rfl (fun _ hk => hk.elim) (fun _ _ => trivial) HO4.out HB4.out HB4.out.size (by rw [HLk.out]; omega) ?_; intro v9 w9 ho hb hg hat; rw [← HT.out] at ho; have HO9 := Aside0.mk ho; have HB9 := Aside0.mk hb; have HR9 := Aside0.mk (refl_grown HR4.out HO4.out (fun j hj => ((Kd.R_bound HO.out).1 j hj).2.2.1) hg); clear ho hb hg hat))
      go_roundw
      case rel => exact ⟨k + 1, by omega, by go_num, HO9, ⟨refl_lower HR9.out hsz⟩, HB9⟩
      case measure => simp [intOf]; omega
    · obtain rfl : k = o := by omega
      go_wp2
      go_ret2
      have h1 := HO.out
      rw [List.take_of_length_le (by rw [coefs_length]; exact Nat.le_refl _), ← HUV.out] at h1
      exact ⟨_, rfl, h1, HB.out⟩
end Go.Proofs.YtjcijaojcgampaaGreatDoor.P.Lin
end
