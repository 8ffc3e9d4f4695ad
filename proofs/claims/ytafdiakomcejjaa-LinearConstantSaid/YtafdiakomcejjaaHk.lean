/- The contract of the closure of linear.reflector. -/
import Derived.Test.YtafdiakomcejjaaHj0
import Derived.Test.YtafdiakomcejjaaFrame
import Derived.Deep.DeepCutAuto
namespace Go.Proofs.Ytafdiakomcejjaa.P
open Go.RowKit Go.Shelf Go.Proofs.YtafdiakomcejjaaW.PrintWords Go.Proofs.YtafdiakomcejjaaW.PrintLast Go.Proofs.YtafdiakomcejjaaW.PrintMore
set_option linter.unusedVariables false
set_option linter.unusedSimpArgs false
attribute [local go_sem ↓] Go.wp_at_zero Go.wp_at_succ

/-- All numbers of a list are at most M. -/
def bnd (M : Int) (l : List Int) : Prop := ∀ i : Int, -M ≤ rd l i ∧ rd l i ≤ M

/-- The next coefficient. -/
def refK (u v : List Int) : Int := if 0 < rd v 0 then min (max (rnd (-128 * rd u 0) (rd v 0)) (-127)) 127 else 0
def refA (u v : List Int) (k : Int) (i : Nat) : Int := rd u ((i : Int) + 1) + rnd (k * rd v ((i : Int) + 1)) 128
def refB (u v : List Int) (k : Int) (i : Nat) : Int := rd v (i : Int) + rnd (k * rd u (i : Int)) 128
def nextA (u v : List Int) : List Int := (List.range (u.length - 1)).map (refA u v (refK u v))
def nextB (u v : List Int) : List Int := (List.range (u.length - 1)).map (refB u v (refK u v))

/-- The first p elements of n are there. -/
def fillTo (f : Nat → Int) (n p : Nat) : List Int := (List.range p).map f ++ List.replicate (n - p) 0
theorem fillTo_length (f : Nat → Int) (n p : Nat) (h : p ≤ n) : (fillTo f n p).length = n := by simp [fillTo]; omega
theorem fillTo_set (f : Nat → Int) (n p : Nat) (h : p < n) : (fillTo f n p).set p (f p) = fillTo f n (p + 1) := by
  unfold fillTo
  rw [show n - p = (n - (p + 1)) + 1 by omega, List.replicate_succ, List.set_append, List.range_succ]
  simp
theorem fillTo_zero (f : Nat → Int) (n : Nat) : fillTo f n 0 = List.replicate n 0 := by simp [fillTo]
theorem fillTo_all (f : Nat → Int) (n : Nat) : fillTo f n n = (List.range n).map f := by simp [fillTo]

theorem refK_range (u v : List Int) : -127 ≤ refK u v ∧ refK u v ≤ 127 := by unfold refK; split <;> omega
theorem kmul {k y M : Int} (hk : -127 ≤ k ∧ k ≤ 127) (hy : -M ≤ y ∧ y ≤ M) : -(127 * M) ≤ k * y ∧ k * y ≤ 127 * M := mul_bound hk hy
theorem kstep {k y M : Int} (hk : -127 ≤ k ∧ k ≤ 127) (hy : -M ≤ y ∧ y ≤ M) : -M ≤ rnd (k * y) 128 ∧ rnd (k * y) 128 ≤ M := by
  have := kmul hk hy
  exact rnd_bound _ _ _ (by omega) (by omega) (by omega)

theorem made_R (W : World) (base m : Nat) (hb : base ≤ W.heap.size) (hm : m ≤ 9223372036854775807) : Kd.R (Kd.int .i64) 3 (W.alloc (.cells (madeCells #[.int .i64 0] m) 3)) base (fun k => k = W.heap.size) (.slice (some ⟨W.heap.size, 0, none⟩) m m) (List.replicate m 0) :=
  Kd.R_of_own (own_made_of' (enc := fun x => Value.int .i64 x) (d := 0) W base 3 m hb hm) (fun k hk => by simpa [Value.ownBlock] using hk.symm)

theorem made_R' (W : World) (base m : Nat) (hb : base ≤ W.heap.size) (hm : m ≤ 9223372036854775807) : Kd.R (Kd.int .i64) 3 ((W.alloc (.cells (madeCells #[.int .i64 0] m) 3)).alloc (.cells (madeCells #[.int .i64 0] m) 3)) base (fun k => k = W.heap.size + 1) (.slice (some ⟨W.heap.size + 1, 0, none⟩) m m) (List.replicate m 0) := by
  have h := made_R (W.alloc (.cells (madeCells #[.int .i64 0] m) 3)) base m (by have := (below_alloc (Below.refl _ W) (.cells (madeCells #[.int .i64 0] m) 3)).size; omega) hm
  have e : (W.alloc (.cells (madeCells #[.int .i64 0] m) 3)).heap.size = W.heap.size + 1 := Array.size_push _
  rwa [e] at h

set_option maxHeartbeats 1000000 in
set_option maxRecDepth 100000 in
theorem reflector1_any (bu bv base : Nat) (u v : List Int) (w : World) (hR : Refl w base bu bv u v) (m : Nat) (hm : u.length = m + 1) (hm' : v.length = m + 1) (h1 : m ≤ 1000) (hu : bnd 35184372088832 u) (hv : bnd 35184372088832 v) :
    Calls Try.prog 43 #[.pointer (some ⟨bv, 0, none⟩), .pointer (some ⟨bu, 0, none⟩)] w fun e w' => e = .returned (.int .i64 (refK u v)) ∧ Refl w' w.heap.size bu bv (nextA u v) (nextB u v) ∧ Fr (fun k => k = bu ∨ k = bv) w w' := by
  obtain ⟨U, V, hbu, hbv, hU, hV, hne⟩ := hR
  obtain ⟨gu, cu, e, hgu, hgul, _, hcu⟩ := Kd.R_form hU (by omega)
  cases e
  obtain ⟨gv, cv, e, hgv, hgvl, _, hcv⟩ := Kd.R_form hV (by omega)
  cases e
  have hu0 := Kd.R_cell (W := w) (0 : Int) hU 0 (by omega) (by omega)
  have hv0 := Kd.R_cell (W := w) (0 : Int) hV 0 (by omega) (by omega)
  have bu0 := hu 0
  have bv0 := hv 0
  obtain ⟨x, hx⟩ : ∃ x, x = rd u 0 := ⟨_, rfl⟩
  obtain ⟨y, hy⟩ : ∃ y, y = rd v 0 := ⟨_, rfl⟩
  have cu0 : w.cell? ⟨gu, 0, none⟩ = some (.int .i64 x) := by have := hu0.1; rw [hx]; exact this
  have cv0 : w.cell? ⟨gv, 0, none⟩ = some (.int .i64 y) := by have := hv0.1; rw [hy]; exact this
  rw [← hx] at bu0
  rw [← hy] at bv0
  have hK : Aside0 (refK u v = if 0 < y then min (max (rnd (-128 * x) y) (-127)) 127 else 0) := ⟨by unfold refK; rw [← hx, ← hy]⟩
  have c1 := cell_of_one hbu
  have c2 := cell_of_one hbv
  have l1 := lt_of_block hbu
  have l2 := lt_of_block hbv
  have HBU := Aside0.mk hbu
  have HBV := Aside0.mk hbv
  have HU := Aside0.mk hU
  have HV := Aside0.mk hV
  have BU := Aside0.mk hu
  have BV := Aside0.mk hv
  rw [hm] at HU HBU c1
  rw [hm'] at HV HBV c2
  have HM := Aside0.mk hm
  have HM' := Aside0.mk hm'
  clear hm hm' hbu hbv hU hV hu hv hu0 hv0 hx hy hcu hcv
  go_enter Try.func43, Try.ntmps43
  go_upto_if 11 with fail
  go_cut [3] (fun s3 wx => s3 = .int .i64 (refK u v) ∧ Aside0 (Fr (fun _ => False) w wx))
  case first =>
    by_cases hy0 : 0 < y
    · have q1 : decide (0 < y) = true := by simpa using hy0
      have w1' : IntKind.i64.wrap (-128 * x) = -128 * x := IntWalk.i64_in _ (by omega)
      go_wp2_with fail
      refine wp_still 8 (by kernel_rfl) (by kernel_rfl) ?_
      simp only [List.take_succ_cons, List.take_zero, List.drop_succ_cons, List.drop_zero]
      repeat still_step
      still_call ((round_any (-128 * x) y w.drew (by omega) (by omega) (by omega) (by omega)).mono (fun e w' h => ⟨h.1, h.2.symm⟩))
      repeat still_step
      refine wpStill_nil ?_
      show wpList _ _ _ _ _ _
      clear w1'
      go_wp2
      all_goals go_meet
      all_goals (
        refine ⟨?_, ⟨Fr.drew (Fr.refl _ _)⟩⟩
        rw [hK.out, if_pos hy0]
        congr 1
        omega)
    · have q1 : decide (0 < y) = false := by simpa using hy0
      go_wp2_with fail
      go_meet
      refine ⟨?_, ⟨Fr.refl _ _⟩⟩
      rw [hK.out, if_neg (by omega)]
  case rest =>
    obtain ⟨rfl, hcut⟩ := hcut
    have HBU1 := Aside0.mk (blk_fr HBU.out hcut.out (by simp))
    have HBV1 := Aside0.mk (blk_fr HBV.out hcut.out (by simp))
    have HU1 := Aside0.mk (Kd.R_bound (R_fr HU.out hcut.out (by simp)))
    have HV1 := Aside0.mk (Kd.R_bound (R_fr HV.out hcut.out (by simp)))
    have d1 := cell_of_one HBU1.out
    have d2 := cell_of_one HBV1.out
    have f1 := free_of_one HBU1.out
    have f2 := free_of_one HBV1.out
    have sz1 := hcut.out.size
    have w2' : IntKind.i64.wrap ((m : Int) + 1 - 1) = (m : Int) := by rw [IntWalk.i64_in _ (by omega)]; omega
    have B0 := Aside0.mk (Below.refl wc.heap.size wc)
    clear c1 c2 cu0 cv0 HBU HBV HU HV hK
    have HKr := refK_range u v
    generalize hKK : refK u v = K at *
    have HKK := Aside0.mk hKK
    clear hKK
    obtain ⟨wm, rfl⟩ : ∃ x, x = wc := ⟨_, rfl⟩
    go_upto_region 5 with fail
    have hmk := print_make_of (P := Try.prog) 22 3 (.int .i64 0) 8 Try.underlying22 hinfo3 rfl (by decide) m (by omega)
    go_cut [5, 6] (fun s5 s6 wx => ∃ b5 b6, s5 = .slice (some ⟨b5, 0, none⟩) m m ∧ s6 = .slice (some ⟨b6, 0, none⟩) m m ∧ b5 ≠ b6 ∧ wm.heap.size ≤ b5 ∧ wm.heap.size ≤ b6 ∧
      Aside0 (Kd.R (Kd.int .i64) 3 wx wm.heap.size (fun k => k = b5) (.slice (some ⟨b5, 0, none⟩) m m) (List.replicate m 0)) ∧ Aside0 (Kd.R (Kd.int .i64) 3 wx wm.heap.size (fun k => k = b6) (.slice (some ⟨b6, 0, none⟩) m m) (List.replicate m 0)) ∧ Aside0 (Below wm.heap.size wm wx))
    case first =>
      go_region
      all_goals (go_wp2_with fail; go_meet)
      · refine ⟨_, _, rfl, rfl, by simp, by simp, by simp, ⟨Kd.R_alloc (made_R wm _ m (by simp) (by omega)) _⟩, ⟨made_R' wm _ m (by omega) (by omega)⟩, ⟨by (repeat (first | with_reducible exact Below.refl _ _ | (refine Aside0.out (p := Below _ _ _) ?_; assumption) | refine below_drew ?_ | refine below_alloc ?_ _ | (refine below_step ?_ (Aside0.out (p := Below _ _ _) (by assumption)))))⟩⟩
      · refine ⟨_, _, rfl, rfl, by simp, by simp, by simp, ⟨made_R' wm _ m (by omega) (by omega)⟩, ⟨Kd.R_alloc (made_R wm _ m (by simp) (by omega)) _⟩, ⟨by (repeat (first | with_reducible exact Below.refl _ _ | (refine Aside0.out (p := Below _ _ _) ?_; assumption) | refine below_drew ?_ | refine below_alloc ?_ _ | (refine below_step ?_ (Aside0.out (p := Below _ _ _) (by assumption)))))⟩⟩
    case rest =>
      obtain ⟨b5, b6, rfl, rfl, hbb, hb5, hb6, HA, HB, HW⟩ := hcut
      have lu : bu < wm.heap.size := by omega
      have lv : bv < wm.heap.size := by omega
      have HBU2 := Aside0.mk ((HW.out.block bu lu).trans HBU1.out)
      have HBV2 := Aside0.mk ((HW.out.block bv lv).trans HBV1.out)
      have HU2 := Aside0.mk (Kd.R_below (Kd.R_mono HU1.out (fun k hk => hk.2.2.1)) HW.out)
      have HV2 := Aside0.mk (Kd.R_below (Kd.R_mono HV1.out (fun k hk => hk.2.2.1)) HW.out)
      have lgu : gu < wm.heap.size := HU2.out.1 gu rfl
      have lgv : gv < wm.heap.size := HV2.out.1 gv rfl
      clear d1 d2 f1 f2 HBU1 HBV1 HU1 HV1 hmk
      go_wp2_with fail
      go_loopw [7, 30] (fun _ i wr => ∃ p : Nat, p ≤ m ∧ i = .int .i64 p ∧ Aside0 (wr.heap[bu]? = some (.cells #[.slice (some ⟨gu, 0, none⟩) (m + 1) cu] 22 (0, 0))) ∧ Aside0 (wr.heap[bv]? = some (.cells #[.slice (some ⟨gv, 0, none⟩) (m + 1) cv] 22 (0, 0))) ∧
          Aside0 (Kd.R (Kd.int .i64) 3 wr base (fun k => k < wm.heap.size) (.slice (some ⟨gu, 0, none⟩) (m + 1) cu) u) ∧ Aside0 (Kd.R (Kd.int .i64) 3 wr base (fun k => k < wm.heap.size) (.slice (some ⟨gv, 0, none⟩) (m + 1) cv) v) ∧
          Aside0 (Kd.R (Kd.int .i64) 3 wr wm.heap.size (fun k => k = b5) (.slice (some ⟨b5, 0, none⟩) m m) (fillTo (refA u v K) m p)) ∧ Aside0 (Kd.R (Kd.int .i64) 3 wr wm.heap.size (fun k => k = b6) (.slice (some ⟨b6, 0, none⟩) m m) (fillTo (refB u v K) m p)) ∧
          Aside0 (Below wm.heap.size wm wr)) (fun _ i _ => m - (intOf i).toNat)
      case atStart => exact ⟨0, Nat.zero_le _, rfl, HBU2, HBV2, HU2, HV2, ⟨by rw [fillTo_zero]; exact HA.out⟩, ⟨by rw [fillTo_zero]; exact HB.out⟩, HW⟩
      case round =>
        obtain ⟨p, hp, rfl, HBUr, HBVr, HUr, HVr, HAr, HBr, HWr⟩ := hrel
        have e1 := cell_of_one HBUr.out
        have e2 := cell_of_one HBVr.out
        have fe1 := free_of_one HBUr.out
        have fe2 := free_of_one HBVr.out
        by_cases hlt : p < m
        · have hla := fillTo_length (refA u v K) m p hp
          have hlb := fillTo_length (refB u v K) m p hp
          have ca := Kd.R_cell (W := wr) (0 : Int) (by rw [hla]; exact HAr.out) (p : Int) (by omega) (by omega)
          have cb := Kd.R_cell (W := wr) (0 : Int) (by rw [hlb]; exact HBr.out) (p : Int) (by omega) (by omega)
          have cu0 := (Kd.R_cell (W := wr) (0 : Int) (by rw [HM.out]; exact HUr.out) (p : Int) (by omega) (by have := HM.out; omega)).1
          have cu1 := (Kd.R_cell (W := wr) (0 : Int) (by rw [HM.out]; exact HUr.out) ((p : Int) + 1) (by omega) (by have := HM.out; omega)).1
          have cv0 := (Kd.R_cell (W := wr) (0 : Int) (by rw [HM'.out]; exact HVr.out) (p : Int) (by omega) (by have := HM'.out; omega)).1
          have cv1 := (Kd.R_cell (W := wr) (0 : Int) (by rw [HM'.out]; exact HVr.out) ((p : Int) + 1) (by omega) (by have := HM'.out; omega)).1
          have bx0 := BU.out (p : Int)
          have bx1 := BU.out ((p : Int) + 1)
          have by0 := BV.out (p : Int)
          have by1 := BV.out ((p : Int) + 1)
          obtain ⟨x0, hx0⟩ : ∃ x, x = rd u (p : Int) := ⟨_, rfl⟩
          obtain ⟨x1, hx1⟩ : ∃ x, x = rd u ((p : Int) + 1) := ⟨_, rfl⟩
          obtain ⟨y0, hy0⟩ : ∃ x, x = rd v (p : Int) := ⟨_, rfl⟩
          obtain ⟨y1, hy1⟩ : ∃ x, x = rd v ((p : Int) + 1) := ⟨_, rfl⟩
          have gu0 : wr.cell? ⟨gu, p, none⟩ = some (.int .i64 x0) := by rw [Int.toNat_natCast] at cu0; rw [cu0, hx0]; rfl
          have gu1 : wr.cell? ⟨gu, p + 1, none⟩ = some (.int .i64 x1) := by rw [show ((p : Int) + 1).toNat = p + 1 by omega] at cu1; rw [cu1, hx1]; rfl
          have gv0 : wr.cell? ⟨gv, p, none⟩ = some (.int .i64 y0) := by rw [Int.toNat_natCast] at cv0; rw [cv0, hy0]; rfl
          have gv1 : wr.cell? ⟨gv, p + 1, none⟩ = some (.int .i64 y1) := by rw [show ((p : Int) + 1).toNat = p + 1 by omega] at cv1; rw [cv1, hy1]; rfl
          rw [Int.toNat_natCast] at ca cb
          obtain ⟨za, hza⟩ : ∃ z, z = Value.int .i64 (rdOf 0 (fillTo (refA u v K) m p) (p : Int)) := ⟨_, rfl⟩
          obtain ⟨zb, hzb⟩ : ∃ z, z = Value.int .i64 (rdOf 0 (fillTo (refB u v K) m p) (p : Int)) := ⟨_, rfl⟩
          have ga : wr.cell? ⟨b5, p, none⟩ = some za := by rw [ca.1, hza]
          have gb : wr.cell? ⟨b6, p, none⟩ = some zb := by rw [cb.1, hzb]
          have fa := ca.2
          have fb := cb.2
          rw [← hx0] at bx0
          rw [← hx1] at bx1
          rw [← hy0] at by0
          rw [← hy1] at by1
          have m1 := kmul HKr by1
          have m2 := kmul HKr bx0
          have r1 := kstep HKr by1
          have r2 := kstep HKr bx0
          have HSA : Aside0 ((fillTo (refA u v K) m p).set p (x1 + rnd (K * y1) 128) = fillTo (refA u v K) m (p + 1)) := ⟨by rw [← fillTo_set _ _ _ hlt, hx1, hy1]; rfl⟩
          have HSB : Aside0 ((fillTo (refB u v K) m p).set p (y0 + rnd (K * x0) 128) = fillTo (refB u v K) m (p + 1)) := ⟨by rw [← fillTo_set _ _ _ hlt, hy0, hx0]; rfl⟩
          have HLA := Aside0.mk hla
          have HLB := Aside0.mk hlb
          have n1 : gu ≠ b5 := by omega
          have n2 : gv ≠ b5 := by omega
          have n3 : bu ≠ b5 := by omega
          have n4 : bv ≠ b5 := by omega
          have n5 : b6 ≠ b5 := by omega
          have i1 : (p : Int) < (m : Int) := by omega
          have i2 : (p : Int) + 1 < (m : Int) + 1 := by omega
          have i3 : (p : Int) < (m : Int) + 1 := by omega
          have i4 : (0 : Int) ≤ (p : Int) := by omega
          have i5 : (0 : Int) ≤ (p : Int) + 1 := by omega
          have w3' : IntKind.i64.wrap ((p : Int) + 1) = (p : Int) + 1 := IntWalk.i64_in _ (by omega)
          have w4' : IntKind.i64.wrap (K * y1) = K * y1 := IntWalk.i64_in _ (by omega)
          have w5' : IntKind.i64.wrap (x1 + rnd (K * y1) 128) = x1 + rnd (K * y1) 128 := IntWalk.i64_in _ (by omega)
          have w6' : IntKind.i64.wrap (K * x0) = K * x0 := IntWalk.i64_in _ (by omega)
          have w7' : IntKind.i64.wrap (y0 + rnd (K * x0) 128) = y0 + rnd (K * x0) 128 := IntWalk.i64_in _ (by omega)
          clear hx0 hx1 hy0 hy1 hza hzb ca cb cu0 cu1 cv0 cv1 hla hlb
          go_wp2
          refine wp_still 17 (by kernel_rfl) (by kernel_rfl) ?_
          simp only [List.take_succ_cons, List.take_zero, List.drop_succ_cons, List.drop_zero]
          repeat still_step
          still_call ((round_any (K * y1) 128 wr.drew (by omega) (by omega) (by omega) (by omega)).mono (fun e w' h => ⟨h.1, h.2.symm⟩))
          repeat still_step
          refine wpStill_nil ?_
          show wpList _ _ _ _ _ _
          go_wp2
          refine wp_still 15 (by kernel_rfl) (by kernel_rfl) ?_
          simp only [List.take_succ_cons, List.take_zero, List.drop_succ_cons, List.drop_zero]
          repeat still_step
          still_call ((round_any (K * x0) 128 (wr.setCell ⟨b5, p, none⟩ (.int .i64 (x1 + rnd (K * y1) 128))).drew.drew (by omega) (by omega) (by omega) (by omega)).mono (fun e w' h => ⟨h.1, h.2.symm⟩))
          repeat still_step
          refine wpStill_nil ?_
          show wpList _ _ _ _ _ _
          clear w3' w4' w5' w6' w7'
          go_wp2
          go_roundw
          case rel =>
            have pa := (Kd.R_put (W := wr) (by rw [HLA.out]; exact HAr.out) (p : Int) (x1 + rnd (K * y1) 128)).1
            rw [Int.toNat_natCast, HSA.out, HLA.out] at pa
            have pb0 := Kd.R_far (p := ⟨b5, p, none⟩) HBr.out (fun k hk => by show k ≠ b5; omega) (.int .i64 (x1 + rnd (K * y1) 128))
            have pb := (Kd.R_put (W := wr.setCell ⟨b5, p, none⟩ (.int .i64 (x1 + rnd (K * y1) 128))) (by rw [HLB.out]; exact pb0) (p : Int) (y0 + rnd (K * x0) 128)).1
            rw [Int.toNat_natCast, HSB.out, HLB.out] at pb
            have s1 : ∀ k, k < wm.heap.size → ((wr.setCell ⟨b5, p, none⟩ (.int .i64 (x1 + rnd (K * y1) 128))).setCell ⟨b6, p, none⟩ (.int .i64 (y0 + rnd (K * x0) 128))).heap[k]? = wr.heap[k]? := fun k hk =>
              (Below.heap_setCell _ _ _ _ (by show k ≠ b6; omega)).trans (Below.heap_setCell _ _ _ _ (by show k ≠ b5; omega))
            refine ⟨p + 1, by omega, by go_num, ⟨?_⟩, ⟨?_⟩, ⟨?_⟩, ⟨?_⟩, ⟨?_⟩, ⟨?_⟩, ⟨?_⟩⟩
            · exact (s1 bu lu).trans HBUr.out
            · exact (s1 bv lv).trans HBVr.out
            · exact Kd.R_drewN (Kd.R_move HUr.out s1) 2
            · exact Kd.R_drewN (Kd.R_move HVr.out s1) 2
            · exact Kd.R_drewN (Kd.R_far (p := ⟨b6, p, none⟩) pa (fun k hk => by show k ≠ b6; omega) _) 2
            · exact Kd.R_drewN pb 2
            · exact ((HWr.out.setCell hb5 _).setCell hb6 _).drew.drew
          case measure => simp [intOf]; omega
        · obtain rfl : p = m := by omega
          have lu' : bu < wr.heap.size := by have := HWr.out.size; omega
          go_wp2
          go_ret
          have hA : nextA u v = fillTo (refA u v K) p p := by unfold nextA; rw [HM.out, HKK.out, fillTo_all]; rfl
          have hB : nextB u v = fillTo (refB u v K) p p := by unfold nextB; rw [HM.out, HKK.out, fillTo_all]; rfl
          have k1 := (Below.heap_setCell wr ⟨bu, 0, none⟩ (Value.slice (some ⟨b5, 0, none⟩) p p) bv (Ne.symm hne)).trans HBVr.out
          have lw : wm.heap.size ≤ wr.heap.size := HWr.out.size
          refine ⟨by rw [HKK.out]; rfl, ⟨_, _, (Below.heap_setCell _ _ _ _ hne).trans (one_setCell HBUr.out), one_setCell k1, ?_, ?_, hne⟩, ?_⟩
          · rw [hA]
            exact Kd.R_mono (Kd.R_far (p := ⟨bv, 0, none⟩) (Kd.R_far (p := ⟨bu, 0, none⟩) (Kd.R_lower HAr.out (by omega)) (fun k hk => by show k ≠ bu; omega) _) (fun k hk => by show k ≠ bv; omega) _) (fun _ _ => trivial)
          · rw [hB]
            exact Kd.R_mono (Kd.R_far (p := ⟨bv, 0, none⟩) (Kd.R_far (p := ⟨bu, 0, none⟩) (Kd.R_lower HBr.out (by omega)) (fun k hk => by show k ≠ bu; omega) _) (fun k hk => by show k ≠ bv; omega) _) (fun _ _ => trivial)
          · exact (((hcut.out.mono (fun _ _ h => h.elim)).trans (Fr.below HWr.out _)).setCell (fun _ => Or.inl rfl) _).setCell (fun _ => Or.inr rfl) _
end Go.Proofs.Ytafdiakomcejjaa.P
