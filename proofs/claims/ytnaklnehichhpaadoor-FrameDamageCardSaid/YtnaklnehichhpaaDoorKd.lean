/- Headers: their comparison, and the contract of frame.Check. -/
import Derived.Test.YtnaklnehichhpaaDoorKc
namespace Go.Proofs.YtnaklnehichhpaaDoor.P
open Go.RowKit Go.Shelf Go.Proofs.YtnaklnehichhpaaDoor.Bits Go.Proofs.YtnaklnehichhpaaDoorW.PrintWords Go.Proofs.YtnaklnehichhpaaDoorW.PrintLast Go.Proofs.YtnaklnehichhpaaDoorW.PrintMore
set_option linter.unusedVariables false
set_option linter.unusedSimpArgs false
attribute [local go_sem ↓] Go.wp_at_zero Go.wp_at_succ
/-- The value of a header. -/
def HD.val (h : HD) : Value := .agg #[.int .i64 h.num, .bool h.lossy, .int .i64 h.rate, .int .i64 h.ch, .int .i64 h.kind, .int .i64 h.count, .int .i64 h.back]
theorem eqF {P : Program} (d : Nat) (f : Field) (fs : List Field) (xs ys : Array Value) (x y : Value) (r : Bool) (w : World) (hn : (f.name == "_") = false) (hx : (part f.type xs f.offset).run P w = .ok x w) (hy : (part f.type ys f.offset).run P w = .ok y w)
    (hq : (Op.equalIn d f.type x y).run P w = .ok r w) : (Op.eqFields d xs ys (f :: fs)).run P w = if r then (Op.eqFields d xs ys fs).run P w else .ok false w := by
  have hn' : f.name ≠ "_" := by simpa using hn
  simp only [Op.eqFields, if_pos hn', Sem.run_bind, hx, hy, hq, Result.andThen_ok]
  cases r <;> simp
noncomputable def hdF (i : Nat) : Field := (Tryd.prog.fieldsOf 23).toList.getD i default
theorem hdF_list : (Tryd.prog.fieldsOf 23).toList = [hdF 0, hdF 1, hdF 2, hdF 3, hdF 4, hdF 5, hdF 6] := by kernel_rfl
theorem hdF_name (i : Nat) (h : i = 0 ∨ i = 1 ∨ i = 2 ∨ i = 3 ∨ i = 4 ∨ i = 5 ∨ i = 6) : ((hdF i).name == "_") = false := by
  rcases h with rfl | rfl | rfl | rfl | rfl | rfl | rfl <;> kernel_rfl
theorem hdF_int (i : Nat) (h : i = 0 ∨ i = 2 ∨ i = 3 ∨ i = 4 ∨ i = 5 ∨ i = 6) : Tryd.prog.underlying (hdF i).type = some (.int .i64) := by
  rcases h with rfl | rfl | rfl | rfl | rfl | rfl <;> kernel_rfl
theorem hdF_bool : Tryd.prog.underlying (hdF 1).type = some .bool := by kernel_rfl
theorem neq_hd (a b : HD) (w : World) : (binOp .neq 23 a.val b.val).run Tryd.prog w = .ok (.bool (!decide (a = b))) w := by
  have hu : Tryd.prog.underlying 23 = some (.struct (Tryd.prog.fieldsOf 23)) := by kernel_rfl
  have hs : Tryd.prog.stoodInHeld 23 = false := by kernel_rfl
  obtain ⟨a0, a1, a2, a3, a4, a5, a6⟩ := a
  obtain ⟨b0, b1, b2, b3, b4, b5, b6⟩ := b
  unfold HD.val
  dsimp only
  rw [run_neq_struct, run_equalIn_agg _ _ _ _ _ hu hs, hdF_list]
  rw [eqF _ (hdF 0) _ _ _ (.int .i64 a0) (.int .i64 b0) (a0 == b0) w (hdF_name 0 (by omega)) (by kernel_rfl) (by kernel_rfl) (run_equalIn_int _ _ _ _ _ _ _ (hdF_int 0 (by omega)))]
  rw [eqF _ (hdF 1) _ _ _ (.bool a1) (.bool b1) (a1 == b1) w (hdF_name 1 (by omega)) (by kernel_rfl) (by kernel_rfl) (run_equalIn_bool' _ _ _ _ _ hdF_bool)]
  rw [eqF _ (hdF 2) _ _ _ (.int .i64 a2) (.int .i64 b2) (a2 == b2) w (hdF_name 2 (by omega)) (by kernel_rfl) (by kernel_rfl) (run_equalIn_int _ _ _ _ _ _ _ (hdF_int 2 (by omega)))]
  rw [eqF _ (hdF 3) _ _ _ (.int .i64 a3) (.int .i64 b3) (a3 == b3) w (hdF_name 3 (by omega)) (by kernel_rfl) (by kernel_rfl) (run_equalIn_int _ _ _ _ _ _ _ (hdF_int 3 (by omega)))]
  rw [eqF _ (hdF 4) _ _ _ (.int .i64 a4) (.int .i64 b4) (a4 == b4) w (hdF_name 4 (by omega)) (by kernel_rfl) (by kernel_rfl) (run_equalIn_int _ _ _ _ _ _ _ (hdF_int 4 (by omega)))]
  rw [eqF _ (hdF 5) _ _ _ (.int .i64 a5) (.int .i64 b5) (a5 == b5) w (hdF_name 5 (by omega)) (by kernel_rfl) (by kernel_rfl) (run_equalIn_int _ _ _ _ _ _ _ (hdF_int 5 (by omega)))]
  rw [eqF _ (hdF 6) _ _ _ (.int .i64 a6) (.int .i64 b6) (a6 == b6) w (hdF_name 6 (by omega)) (by kernel_rfl) (by kernel_rfl) (run_equalIn_int _ _ _ _ _ _ _ (hdF_int 6 (by omega)))]
  have hd : decide ((⟨a0, a1, a2, a3, a4, a5, a6⟩ : HD) = ⟨b0, b1, b2, b3, b4, b5, b6⟩) = (a0 == b0 && a1 == b1 && a2 == b2 && a3 == b3 && a4 == b4 && a5 == b5 && a6 == b6) := by
    rw [Bool.eq_iff_iff]
    simp [HD.mk.injEq, and_assoc]
  rw [hd]
  cases (a0 == b0) <;> cases (a1 == b1) <;> cases (a2 == b2) <;> cases (a3 == b3) <;> cases (a4 == b4) <;> cases (a5 == b5) <;> cases (a6 == b6) <;> simp [Op.eqFields]
theorem plain_eq (num rate ch kind count back : Int) : decide ((⟨num, false, rate, ch, kind, count, back⟩ : HD) = ⟨num, false, rate, ch, 0, count, 0⟩) = decide (kind = 0 ∧ back = 0) := by
  rw [Bool.eq_iff_iff]
  simp [HD.mk.injEq]

set_option maxHeartbeats 2000000 in
set_option maxRecDepth 100000 in
theorem Check_any (h : HD) (w : World) (hg : HG w) : Calls Tryd.prog 13 #[h.val] w fun e w' => e = .returned (.int .i64 (if okH h then 0 else 1)) ∧ Below w.heap.size w w' := by
  have HGW := Aside0.mk hg
  clear hg
  obtain ⟨num, lossy, rate, ch, kind, count, back⟩ := h
  have hne : ∀ W : World, (binOp .neq 23 (.agg #[.int .i64 num, .bool false, .int .i64 rate, .int .i64 ch, .int .i64 kind, .int .i64 count, .int .i64 back]) (.agg #[.int .i64 num, .bool false, .int .i64 rate, .int .i64 ch, .int .i64 0, .int .i64 count, .int .i64 0])).run Tryd.prog W = .ok (.bool (!decide (kind = 0 ∧ back = 0))) W := fun W => by
    have := neq_hd ⟨num, false, rate, ch, kind, count, back⟩ ⟨num, false, rate, ch, 0, count, 0⟩ W
    rw [plain_eq] at this
    exact this
  have f1 := fun W => from_any num 0 63 W
  have f3 := fun W => from_any ch 1 2 W
  have f4 := fun W => from_any kind 0 4 W
  have f5 := fun W => from_any count 1 128 W
  have f6 := fun W => from_any back 0 511 W
  have fr := fun W hW => rateAt_any rate W hW
  obtain ⟨R, hR⟩ : ∃ R : Int, R = if okH ⟨num, lossy, rate, ch, kind, count, back⟩ then 0 else 1 := ⟨_, rfl⟩
  rw [← hR]
  have HR := Aside0.mk hR
  clear hR
  unfold okH at HR
  unfold HD.val
  dsimp only at *
  generalize decide (0 ≤ num ∧ num ≤ 63) = b1 at *
  generalize decide (1 ≤ ch ∧ ch ≤ 2) = b3 at *
  generalize decide (0 ≤ kind ∧ kind ≤ 4) = b4 at *
  generalize decide (1 ≤ count ∧ count ≤ 128) = b5 at *
  generalize decide (0 ≤ back ∧ back ≤ 511) = b6 at *
  generalize decide (kind = 0 ∧ back = 0) = b7 at *
  generalize rix rate = rx at *
  have F1 := Aside0.mk f1
  have F3 := Aside0.mk f3
  have F4 := Aside0.mk f4
  have F5 := Aside0.mk f5
  have F6 := Aside0.mk f6
  have FR := Aside0.mk fr
  clear f1 f3 f4 f5 f6 fr
  go_enter Tryd.func13, Tryd.ntmps13
  go_wp2_with fail
  refine (F1.out _).mono ?_
  rintro e w1 ⟨rfl, hw⟩
  obtain rfl := hw.symm
  cases b1
  · go_wp2_with fail
    go_ret
    exact ⟨by rw [HR.out]; simp, by (repeat (first | with_reducible exact Below.refl _ _ | (refine Aside0.out (p := Below _ _ _) ?_; assumption) | refine below_drew ?_ | refine below_alloc ?_ _ | (refine below_step ?_ (Aside0.out (p := Below _ _ _) (by assumption)))))⟩
  go_wp2_with fail
  refine (FR.out _ (HGW.out.below (by (repeat (first | with_reducible exact Below.refl _ _ | (refine Aside0.out (p := Below _ _ _) ?_; assumption) | refine below_drew ?_ | refine below_alloc ?_ _ | (refine below_step ?_ (Aside0.out (p := Below _ _ _) (by assumption)))))))).mono ?_
  rintro e w1 ⟨rfl, hw⟩
  obtain rfl := hw.symm
  by_cases hr : rx < 0
  · have e2 : decide (0 ≤ rx) = false := by simp; omega
    have d2 : decide (rx < 0) = true := by simp; omega
    go_wp2_with fail
    go_ret
    exact ⟨by rw [HR.out, e2]; simp, by (repeat (first | with_reducible exact Below.refl _ _ | (refine Aside0.out (p := Below _ _ _) ?_; assumption) | refine below_drew ?_ | refine below_alloc ?_ _ | (refine below_step ?_ (Aside0.out (p := Below _ _ _) (by assumption)))))⟩
  have e2 : decide (0 ≤ rx) = true := by simp; omega
  have d2 : decide (rx < 0) = false := by simp; omega
  have E2 := Aside0.mk e2
  clear hr e2
  go_wp2_with fail
  refine (F3.out _).mono ?_
  rintro e w1 ⟨rfl, hw⟩
  obtain rfl := hw.symm
  cases b3
  · go_wp2_with fail
    go_ret
    exact ⟨by rw [HR.out, E2.out]; simp, by (repeat (first | with_reducible exact Below.refl _ _ | (refine Aside0.out (p := Below _ _ _) ?_; assumption) | refine below_drew ?_ | refine below_alloc ?_ _ | (refine below_step ?_ (Aside0.out (p := Below _ _ _) (by assumption)))))⟩
  go_wp2_with fail
  refine (F4.out _).mono ?_
  rintro e w1 ⟨rfl, hw⟩
  obtain rfl := hw.symm
  cases b4
  · go_wp2_with fail
    go_ret
    exact ⟨by rw [HR.out, E2.out]; simp, by (repeat (first | with_reducible exact Below.refl _ _ | (refine Aside0.out (p := Below _ _ _) ?_; assumption) | refine below_drew ?_ | refine below_alloc ?_ _ | (refine below_step ?_ (Aside0.out (p := Below _ _ _) (by assumption)))))⟩
  go_wp2_with fail
  refine (F5.out _).mono ?_
  rintro e w1 ⟨rfl, hw⟩
  obtain rfl := hw.symm
  cases b5
  · go_wp2_with fail
    go_ret
    exact ⟨by rw [HR.out, E2.out]; simp, by (repeat (first | with_reducible exact Below.refl _ _ | (refine Aside0.out (p := Below _ _ _) ?_; assumption) | refine below_drew ?_ | refine below_alloc ?_ _ | (refine below_step ?_ (Aside0.out (p := Below _ _ _) (by assumption)))))⟩
  go_wp2_with fail
  refine (F6.out _).mono ?_
  rintro e w1 ⟨rfl, hw⟩
  obtain rfl := hw.symm
  cases b6
  · go_wp2_with fail
    go_ret
    exact ⟨by rw [HR.out, E2.out]; simp, by (repeat (first | with_reducible exact Below.refl _ _ | (refine Aside0.out (p := Below _ _ _) ?_; assumption) | refine below_drew ?_ | refine below_alloc ?_ _ | (refine below_step ?_ (Aside0.out (p := Below _ _ _) (by assumption)))))⟩
  cases lossy
  · cases b7
    · go_wp2_with fail
      go_ret
      exact ⟨by rw [HR.out, E2.out]; simp, by (repeat (first | with_reducible exact Below.refl _ _ | (refine Aside0.out (p := Below _ _ _) ?_; assumption) | refine below_drew ?_ | refine below_alloc ?_ _ | (refine below_step ?_ (Aside0.out (p := Below _ _ _) (by assumption)))))⟩
    · go_wp2_with fail
      go_ret
      exact ⟨by rw [HR.out, E2.out]; simp, by (repeat (first | with_reducible exact Below.refl _ _ | (refine Aside0.out (p := Below _ _ _) ?_; assumption) | refine below_drew ?_ | refine below_alloc ?_ _ | (refine below_step ?_ (Aside0.out (p := Below _ _ _) (by assumption)))))⟩
  · go_wp2_with fail
    go_ret
    exact ⟨by rw [HR.out, E2.out]; simp, by (repeat (first | with_reducible exact Below.refl _ _ | (refine Aside0.out (p := Below _ _ _) ?_; assumption) | refine below_drew ?_ | refine below_alloc ?_ _ | (refine below_step ?_ (Aside0.out (p := Below _ _ _) (by assumption)))))⟩
end Go.Proofs.YtnaklnehichhpaaDoor.P
