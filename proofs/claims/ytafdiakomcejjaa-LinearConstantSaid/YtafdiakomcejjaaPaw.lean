/- The examples of chapter 14 hold. Printed by genawake14.py. -/
import Derived.Test.YtafdiakomcejjaaPa
import Derived.Test.YtafdiakomcejjaaHm
import Derived.Test.YtafdiakomcejjaaHp
import Derived.Test.YtafdiakomcejjaaHg
namespace Go.Proofs.Ytafdiakomcejjaa.P
open Go.RowKit Go.Shelf Go.Proofs.YtafdiakomcejjaaW.PrintWords Go.Proofs.YtafdiakomcejjaaW.PrintLast Go.Proofs.YtafdiakomcejjaaW.PrintMore
set_option linter.unusedVariables false
set_option linter.unusedSimpArgs false

theorem lit_C (X : World) (xs : List Int) (hm : xs.length ≤ 9223372036854775807) : Kd.C (Kd.int .i64) (X.alloc (.cells (nums .i64 xs).toArray 3)) (some ⟨X.heap.size, 0, none⟩) xs.length xs := by
  obtain ⟨A, c, e, _, hC⟩ := Kd.R_reads (Kd.R_of_own (ok := fun _ => True) (own_lit_of (enc := fun x => Value.int .i64 x) X X.heap.size 3 xs (Nat.le_refl _) hm) (fun _ _ => trivial))
  cases e
  exact hC

def shawmlaw14_awake.f : Option Bool := some true
theorem aw_hf1 : linear_Reflect.f [1, 1, 1, 1] 1 = some ([-96], 0) := by decide +kernel
theorem aw_hf2 : linear_Weights.f [-96] = some ([-3072], 0) := by decide +kernel
theorem aw_hf3 : linear_Residual.f [1, 1, 1, 1] [-96] = some ([1, 0, 0, 0], 0) := by decide +kernel
theorem aw_hf4 : linear_Restore.f [1, 0, 0, 0] [-96] = some ([1, 1, 1, 1], 0) := by decide +kernel
theorem aw_hf5 : linear_Differ.f [1, 4, 9, 16] 2 = some ([1, 2, 2, 2], 0) := by decide +kernel
theorem aw_hf6 : linear_Add.f [1, 2, 2, 2] 2 = some ([1, 4, 9, 16], 0) := by decide +kernel
theorem aw_hf7 : linear_Trim.f 9 [5, 0, -7, 0, 0] = some ([5, 0, -7], 0) := by decide +kernel
theorem aw_i0 : shawmref02_Ints.f 9 [-96] [-96] = some true := by decide +kernel
theorem aw_i1 : shawmref02_Ints.f 9 [-3072] [-3072] = some true := by decide +kernel
theorem aw_i2 : shawmref02_Ints.f 9 [1, 0, 0, 0] [1, 0, 0, 0] = some true := by decide +kernel
theorem aw_i3 : shawmref02_Ints.f 9 [1, 1, 1, 1] [1, 1, 1, 1] = some true := by decide +kernel
theorem aw_i4 : shawmref02_Ints.f 9 [1, 2, 2, 2] [1, 2, 2, 2] = some true := by decide +kernel
theorem aw_i5 : shawmref02_Ints.f 9 [1, 4, 9, 16] [1, 4, 9, 16] = some true := by decide +kernel
theorem aw_i6 : shawmref02_Ints.f 9 [5, 0, -7] [5, 0, -7] = some true := by decide +kernel

set_option maxHeartbeats 4000000 in
set_option maxRecDepth 100000 in
theorem awake_any (w : World) : Calls Try.prog 10 #[] w fun e w' => e = .returned (.bool true) ∧ Below w.heap.size w w' := by
  go_enter Try.func10, Try.ntmps10
  go_wp2_with (first
    | (go_at_call 16; refine (linear_Reflect.calls _ _ [1, 1, 1, 1] 1 _ _ _ (lit_C w [1, 1, 1, 1] (by decide)) (by decide) aw_hf1).mono ?_; rintro e w1 ⟨v1, rfl, ho1, hb1⟩; obtain ⟨A1, c1, hv1, hc1, hC1⟩ := Kd.R_reads ho1; cases hv1; have HB1 := Aside0.mk hb1; have HC1 := Aside0.mk hC1; have HL1 := Aside0.mk hc1; clear hb1 hC1 hc1 ho1)
    | (go_at_call 18; refine (linear_Weights.calls A1 c1 [-96] _ _ _ (Kd.C_below HC1.out (by (repeat (first | with_reducible exact Below.refl _ _ | (refine Aside0.out (p := Below _ _ _) ?_; assumption) | refine below_drew ?_ | refine below_alloc ?_ _ | (refine below_step ?_ (Aside0.out (p := Below _ _ _) (by assumption))))))) HL1.out aw_hf2).mono ?_; rintro e w2 ⟨v2, rfl, ho2, hb2⟩; obtain ⟨A2, c2, hv2, hc2, hC2⟩ := Kd.R_reads ho2; cases hv2; have HB2 := Aside0.mk hb2; have HC2 := Aside0.mk hC2; have HL2 := Aside0.mk hc2; clear hb2 hC2 hc2 ho2)
    | (go_at_call 22; refine (linear_Residual.calls _ _ [1, 1, 1, 1] A1 c1 [-96] _ _ _ (Kd.C_below (lit_C w [1, 1, 1, 1] (by decide)) (by (repeat (first | with_reducible exact Below.refl _ _ | (refine Aside0.out (p := Below _ _ _) ?_; assumption) | refine below_drew ?_ | refine below_alloc ?_ _ | (refine below_step ?_ (Aside0.out (p := Below _ _ _) (by assumption))))))) (by decide) (Kd.C_below HC1.out (by (repeat (first | with_reducible exact Below.refl _ _ | (refine Aside0.out (p := Below _ _ _) ?_; assumption) | refine below_drew ?_ | refine below_alloc ?_ _ | (refine below_step ?_ (Aside0.out (p := Below _ _ _) (by assumption))))))) HL1.out aw_hf3).mono ?_; rintro e w3 ⟨v3, rfl, ho3, hb3⟩; obtain ⟨A3, c3, hv3, hc3, hC3⟩ := Kd.R_reads ho3; cases hv3; have HB3 := Aside0.mk hb3; have HC3 := Aside0.mk hC3; have HL3 := Aside0.mk hc3; clear hb3 hC3 hc3 ho3)
    | (go_at_call 24; refine (linear_Restore.calls A3 c3 [1, 0, 0, 0] A1 c1 [-96] _ _ _ (Kd.C_below HC3.out (by (repeat (first | with_reducible exact Below.refl _ _ | (refine Aside0.out (p := Below _ _ _) ?_; assumption) | refine below_drew ?_ | refine below_alloc ?_ _ | (refine below_step ?_ (Aside0.out (p := Below _ _ _) (by assumption))))))) HL3.out (Kd.C_below HC1.out (by (repeat (first | with_reducible exact Below.refl _ _ | (refine Aside0.out (p := Below _ _ _) ?_; assumption) | refine below_drew ?_ | refine below_alloc ?_ _ | (refine below_step ?_ (Aside0.out (p := Below _ _ _) (by assumption))))))) HL1.out aw_hf4).mono ?_; rintro e w4 ⟨v4, rfl, ho4, hb4⟩; obtain ⟨A4, c4, hv4, hc4, hC4⟩ := Kd.R_reads ho4; cases hv4; have HB4 := Aside0.mk hb4; have HC4 := Aside0.mk hC4; have HL4 := Aside0.mk hc4; clear hb4 hC4 hc4 ho4)
    | (go_at_call 11; refine (linear_Differ.calls _ _ [1, 4, 9, 16] 2 _ _ _ (lit_C _ [1, 4, 9, 16] (by decide)) (by decide) aw_hf5).mono ?_; rintro e w5 ⟨v5, rfl, ho5, hb5⟩; obtain ⟨A5, c5, hv5, hc5, hC5⟩ := Kd.R_reads ho5; cases hv5; have HB5 := Aside0.mk hb5; have HC5 := Aside0.mk hC5; have HL5 := Aside0.mk hc5; clear hb5 hC5 hc5 ho5)
    | (go_at_call 13; refine (linear_Add.calls A5 c5 [1, 2, 2, 2] 2 _ _ _ (Kd.C_below HC5.out (by (repeat (first | with_reducible exact Below.refl _ _ | (refine Aside0.out (p := Below _ _ _) ?_; assumption) | refine below_drew ?_ | refine below_alloc ?_ _ | (refine below_step ?_ (Aside0.out (p := Below _ _ _) (by assumption))))))) HL5.out aw_hf6).mono ?_; rintro e w6 ⟨v6, rfl, ho6, hb6⟩; obtain ⟨A6, c6, hv6, hc6, hC6⟩ := Kd.R_reads ho6; cases hv6; have HB6 := Aside0.mk hb6; have HC6 := Aside0.mk hC6; have HL6 := Aside0.mk hc6; clear hb6 hC6 hc6 ho6)
    | (go_at_call 20; refine (linear_Trim.calls 9 _ _ [5, 0, -7, 0, 0] _ _ _ (lit_C _ [5, 0, -7, 0, 0] (by decide)) (by decide) aw_hf7).mono ?_; rintro e w7 ⟨v7, rfl, ho7, hb7⟩; obtain ⟨A7, c7, hv7, hc7, hC7⟩ := Kd.R_reads ho7; cases hv7; have HB7 := Aside0.mk hb7; have HC7 := Aside0.mk hC7; have HL7 := Aside0.mk hc7; clear hb7 hC7 hc7 ho7)
    | (go_at_call_of 15 (Value.slice A1 1 c1); refine (shawmref02_Ints.calls 9 A1 c1 [-96] _ _ [-96] true _ (Kd.C_below HC1.out (by (repeat (first | with_reducible exact Below.refl _ _ | (refine Aside0.out (p := Below _ _ _) ?_; assumption) | refine below_drew ?_ | refine below_alloc ?_ _ | (refine below_step ?_ (Aside0.out (p := Below _ _ _) (by assumption))))))) HL1.out (lit_C _ [-96] (by decide)) (by decide) aw_i0).mono ?_; rintro e w10 ⟨rfl, hb10⟩; have HB10 := Aside0.mk hb10.below; clear hb10)
    | (go_at_call_of 15 (Value.slice A2 1 c2); refine (shawmref02_Ints.calls 9 A2 c2 [-3072] _ _ [-3072] true _ (Kd.C_below HC2.out (by (repeat (first | with_reducible exact Below.refl _ _ | (refine Aside0.out (p := Below _ _ _) ?_; assumption) | refine below_drew ?_ | refine below_alloc ?_ _ | (refine below_step ?_ (Aside0.out (p := Below _ _ _) (by assumption))))))) HL2.out (lit_C _ [-3072] (by decide)) (by decide) aw_i1).mono ?_; rintro e w11 ⟨rfl, hb11⟩; have HB11 := Aside0.mk hb11.below; clear hb11)
    | (go_at_call_of 15 (Value.slice A3 4 c3); refine (shawmref02_Ints.calls 9 A3 c3 [1, 0, 0, 0] _ _ [1, 0, 0, 0] true _ (Kd.C_below HC3.out (by (repeat (first | with_reducible exact Below.refl _ _ | (refine Aside0.out (p := Below _ _ _) ?_; assumption) | refine below_drew ?_ | refine below_alloc ?_ _ | (refine below_step ?_ (Aside0.out (p := Below _ _ _) (by assumption))))))) HL3.out (lit_C _ [1, 0, 0, 0] (by decide)) (by decide) aw_i2).mono ?_; rintro e w12 ⟨rfl, hb12⟩; have HB12 := Aside0.mk hb12.below; clear hb12)
    | (go_at_call_of 15 (Value.slice A4 4 c4); refine (shawmref02_Ints.calls 9 A4 c4 [1, 1, 1, 1] _ _ [1, 1, 1, 1] true _ (Kd.C_below HC4.out (by (repeat (first | with_reducible exact Below.refl _ _ | (refine Aside0.out (p := Below _ _ _) ?_; assumption) | refine below_drew ?_ | refine below_alloc ?_ _ | (refine below_step ?_ (Aside0.out (p := Below _ _ _) (by assumption))))))) HL4.out (Kd.C_below (lit_C w [1, 1, 1, 1] (by decide)) (by (repeat (first | with_reducible exact Below.refl _ _ | (refine Aside0.out (p := Below _ _ _) ?_; assumption) | refine below_drew ?_ | refine below_alloc ?_ _ | (refine below_step ?_ (Aside0.out (p := Below _ _ _) (by assumption))))))) (by decide) aw_i3).mono ?_; rintro e w13 ⟨rfl, hb13⟩; have HB13 := Aside0.mk hb13.below; clear hb13)
    | (go_at_call_of 15 (Value.slice A5 4 c5); refine (shawmref02_Ints.calls 9 A5 c5 [1, 2, 2, 2] _ _ [1, 2, 2, 2] true _ (Kd.C_below HC5.out (by (repeat (first | with_reducible exact Below.refl _ _ | (refine Aside0.out (p := Below _ _ _) ?_; assumption) | refine below_drew ?_ | refine below_alloc ?_ _ | (refine below_step ?_ (Aside0.out (p := Below _ _ _) (by assumption))))))) HL5.out (lit_C _ [1, 2, 2, 2] (by decide)) (by decide) aw_i4).mono ?_; rintro e w14 ⟨rfl, hb14⟩; have HB14 := Aside0.mk hb14.below; clear hb14)
    | (go_at_call_of 15 (Value.slice A6 4 c6); refine (shawmref02_Ints.calls 9 A6 c6 [1, 4, 9, 16] _ _ [1, 4, 9, 16] true _ (Kd.C_below HC6.out (by (repeat (first | with_reducible exact Below.refl _ _ | (refine Aside0.out (p := Below _ _ _) ?_; assumption) | refine below_drew ?_ | refine below_alloc ?_ _ | (refine below_step ?_ (Aside0.out (p := Below _ _ _) (by assumption))))))) HL6.out (lit_C _ [1, 4, 9, 16] (by decide)) (by decide) aw_i5).mono ?_; rintro e w15 ⟨rfl, hb15⟩; have HB15 := Aside0.mk hb15.below; clear hb15)
    | (go_at_call_of 15 (Value.slice A7 3 c7); refine (shawmref02_Ints.calls 9 A7 c7 [5, 0, -7] _ _ [5, 0, -7] true _ (Kd.C_below HC7.out (by (repeat (first | with_reducible exact Below.refl _ _ | (refine Aside0.out (p := Below _ _ _) ?_; assumption) | refine below_drew ?_ | refine below_alloc ?_ _ | (refine below_step ?_ (Aside0.out (p := Below _ _ _) (by assumption))))))) HL7.out (lit_C _ [5, 0, -7] (by decide)) (by decide) aw_i6).mono ?_; rintro e w16 ⟨rfl, hb16⟩; have HB16 := Aside0.mk hb16.below; clear hb16))
  go_ret
  exact ⟨rfl, by (repeat (first | with_reducible exact Below.refl _ _ | (refine Aside0.out (p := Below _ _ _) ?_; assumption) | refine below_drew ?_ | refine below_alloc ?_ _ | (refine below_step ?_ (Aside0.out (p := Below _ _ _) (by assumption)))))⟩

theorem shawmlaw14_awake.calls (r : Bool) (w : World) (h : shawmlaw14_awake.f = some r) : Calls Try.prog 10 #[] w fun e w' => e = .returned (.bool r) ∧ Below w.heap.size w w' := by
  obtain rfl := Option.some.inj h
  exact awake_any w
end Go.Proofs.Ytafdiakomcejjaa.P
