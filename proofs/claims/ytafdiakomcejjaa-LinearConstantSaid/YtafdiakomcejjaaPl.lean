/- Printed by the kit's print.py over stubs; the sections are put in order by pp2.py. -/
import Derived.Test.YtafdiakomcejjaaPa
import Derived.Test.YtafdiakomcejjaaHm
import Derived.Test.YtafdiakomcejjaaHg
import Derived.Test.YtafdiakomcejjaaPaw
namespace Go.Proofs.Ytafdiakomcejjaa.P
open Go.RowKit Go.Proofs.YtafdiakomcejjaaW.PrintWords Go.Proofs.YtafdiakomcejjaaW.PrintLast Go.Proofs.YtafdiakomcejjaaW.PrintMore
attribute [local go_sem] max2_int min2_int max_two min_two max_three min_three max_four min_four   -- for this text's walks alone
set_option linter.unusedVariables false
set_option linter.unusedSimpArgs false

/-! ### shawmlaw14_LinearConstant: function 9 -/
mutual
def shawmlaw14_LinearConstant.j0 : Nat → List Int → Int → Int → Bool → Option (Bool)
  | 0, _, _, _, _ => none
  | k + 1, x0, x1, x2, x32 => if x32 = true then ((shawmlaw14_awake.f).bind fun t442 => (some t442)) else (if 0 ≤ (x0.length : Int) then (if ((x0.length : Int) : Int).toNat ≤ 35184372088832 then ((some (List.replicate ((x0.length : Int) : Int).toNat 0 : List Int)).bind fun y443 => (shawmlaw14_LinearConstant.l0 k x0 x1 x2 y443 (y443.length : Int) 0)) else (none)) else (none))
def shawmlaw14_LinearConstant.l0 : Nat → List Int → Int → Int → List Int → Int → Int → Option (Bool)
  | 0, _, _, _, _, _, _ => none
  | k + 1, x0, x1, x2, x7, x38, x39 => if x39 < x38 then (if 0 ≤ x39 then (if x39 < (x7.length : Int) then (shawmlaw14_LinearConstant.l0 k x0 x1 x2 (x7.set (x39 : Int).toNat x1) x38 (wrap64 (x39 + 1))) else (none)) else (none)) else ((linear_Differ.f x7 1).bind fun bt447 => (if bt447.2 = 0 then (shawmlaw14_LinearConstant.j2 k x0 x1 x2 bt447.1 ((bt447.1.length : Int) != (x0.length : Int))) else (shawmlaw14_LinearConstant.j2 k x0 x1 x2 bt447.1 true)))
def shawmlaw14_LinearConstant.j2 : Nat → List Int → Int → Int → List Int → Bool → Option (Bool)
  | 0, _, _, _, _, _ => none
  | k + 1, x0, x1, x2, x9, x60 => if x60 = true then (some false) else (shawmlaw14_LinearConstant.l1 k x0 x1 x2 x9 (x9.length : Int) 0)
def shawmlaw14_LinearConstant.l1 : Nat → List Int → Int → Int → List Int → Int → Int → Option (Bool)
  | 0, _, _, _, _, _, _ => none
  | k + 1, x0, x1, x2, x61, x62, x63 => if x63 < x62 then (if 0 ≤ x63 then (if x63 < (x61.length : Int) then (if x63 = 0 then (if (rd x61 x63) = x1 then (if x63 > 0 then (if (rd x61 x63) = 0 then (shawmlaw14_LinearConstant.l1 k x0 x1 x2 x61 x62 (wrap64 (x63 + 1))) else (some false)) else (shawmlaw14_LinearConstant.l1 k x0 x1 x2 x61 x62 (wrap64 (x63 + 1)))) else (some false)) else (if x63 > 0 then (if (rd x61 x63) = 0 then (shawmlaw14_LinearConstant.l1 k x0 x1 x2 x61 x62 (wrap64 (x63 + 1))) else (some false)) else (shawmlaw14_LinearConstant.l1 k x0 x1 x2 x61 x62 (wrap64 (x63 + 1))))) else (none)) else (none)) else (if 0 ≤ (x0.length : Int) then (if ((x0.length : Int) : Int).toNat ≤ 35184372088832 then ((linear_Reflect.f (List.replicate ((x0.length : Int) : Int).toNat 0) (Int.tmod (wrap64 (x2)) 13)).bind fun bt455 => (if bt455.2 = 0 then (if 0 ≤ (Int.tmod (wrap64 (x2)) 13) then (if (Int.tmod (wrap64 (x2)) 13 : Int).toNat ≤ 35184372088832 then ((shawmref02_Ints.f k bt455.1 (List.replicate (Int.tmod (wrap64 (x2)) 13 : Int).toNat 0)).bind fun t462 => (shawmlaw14_LinearConstant.j4 k x0 (Int.tmod (wrap64 (x2)) 13) (!t462))) else (none)) else (none)) else (shawmlaw14_LinearConstant.j4 k x0 (Int.tmod (wrap64 (x2)) 13) true))) else (none)) else (none))
def shawmlaw14_LinearConstant.j4 : Nat → List Int → Int → Bool → Option (Bool)
  | 0, _, _, _ => none
  | k + 1, x0, x13, x103 => if x103 = true then (some false) else ((linear_Reflect.f x0 x13).bind fun bt463 => (if bt463.2 = 0 then (shawmlaw14_LinearConstant.j5 k x0 x13 bt463.1 (x13 == 0)) else (shawmlaw14_LinearConstant.j5 k x0 x13 bt463.1 true)))
def shawmlaw14_LinearConstant.j5 : Nat → List Int → Int → List Int → Bool → Option (Bool)
  | 0, _, _, _, _ => none
  | k + 1, x0, x13, x16, x115 => if x115 = true then ((shawmlaw14_awake.f).bind fun t467 => (some t467)) else (shawmlaw14_LinearConstant.l2 k x0 x13 x16 0 0)
def shawmlaw14_LinearConstant.l2 : Nat → List Int → Int → List Int → Int → Int → Option (Bool)
  | 0, _, _, _, _, _ => none
  | k + 1, x0, x13, x16, x18, x19 => if (wrap64 (x19 + 1)) < (x0.length : Int) then (if 0 ≤ x19 then (if x19 < (x0.length : Int) then (if 0 ≤ (wrap64 (x19 + 1)) then (shawmlaw14_LinearConstant.l2 k x0 x13 x16 (wrap64 (x18 + (wrap64 ((rd x0 x19) * (rd x0 (wrap64 (x19 + 1))))))) (wrap64 (x19 + 1))) else (none)) else (none)) else (none)) else (shawmlaw14_LinearConstant.l3 k x13 x16 x18 x16 (x16.length : Int) 0)
def shawmlaw14_LinearConstant.l3 : Nat → Int → List Int → Int → List Int → Int → Int → Option (Bool)
  | 0, _, _, _, _, _, _ => none
  | k + 1, x13, x16, x18, x136, x137, x138 => if x138 < x137 then (if 0 ≤ x138 then (if x138 < (x136.length : Int) then (if (rd x136 x138) < (-127) then (some false) else (if (rd x136 x138) > 127 then (some false) else (shawmlaw14_LinearConstant.l3 k x13 x16 x18 x136 x137 (wrap64 (x138 + 1))))) else (none)) else (none)) else (if (x16.length : Int) = x13 then (if 0 < (x16.length : Int) then (if (rd x16 0) = 0 then ((shawmlaw14_awake.f).bind fun t472 => (some t472)) else (if ((decide ((rd x16 0) < 0)) == (decide (x18 > 0))) = true then ((shawmlaw14_awake.f).bind fun t474 => (some t474)) else (some false))) else (none)) else (some false))
end
def shawmlaw14_LinearConstant.f (k : Nat) (l0 : List Int) (a1 : Int) (a2 : Int) : Option (Bool) := if (l0.length : Int) > 8192 then (shawmlaw14_LinearConstant.j0 k l0 a1 a2 true) else (if a1 < (-2097152) then (shawmlaw14_LinearConstant.j0 k l0 a1 a2 true) else (shawmlaw14_LinearConstant.j0 k l0 a1 a2 (decide (a1 > 2097152))))
theorem shawmlaw14_LinearConstant.mono_l : ∀ k, (∀ y0 y1 y2 y3, LeO (shawmlaw14_LinearConstant.j0 k y0 y1 y2 y3) (shawmlaw14_LinearConstant.j0 (k + 1) y0 y1 y2 y3)) ∧ (∀ y0 y1 y2 y3 y4 y5, LeO (shawmlaw14_LinearConstant.l0 k y0 y1 y2 y3 y4 y5) (shawmlaw14_LinearConstant.l0 (k + 1) y0 y1 y2 y3 y4 y5)) ∧ (∀ y0 y1 y2 y3 y4, LeO (shawmlaw14_LinearConstant.j2 k y0 y1 y2 y3 y4) (shawmlaw14_LinearConstant.j2 (k + 1) y0 y1 y2 y3 y4)) ∧ (∀ y0 y1 y2 y3 y4 y5, LeO (shawmlaw14_LinearConstant.l1 k y0 y1 y2 y3 y4 y5) (shawmlaw14_LinearConstant.l1 (k + 1) y0 y1 y2 y3 y4 y5)) ∧ (∀ y0 y1 y2, LeO (shawmlaw14_LinearConstant.j4 k y0 y1 y2) (shawmlaw14_LinearConstant.j4 (k + 1) y0 y1 y2)) ∧ (∀ y0 y1 y2 y3, LeO (shawmlaw14_LinearConstant.j5 k y0 y1 y2 y3) (shawmlaw14_LinearConstant.j5 (k + 1) y0 y1 y2 y3)) ∧ (∀ y0 y1 y2 y3 y4, LeO (shawmlaw14_LinearConstant.l2 k y0 y1 y2 y3 y4) (shawmlaw14_LinearConstant.l2 (k + 1) y0 y1 y2 y3 y4)) ∧ (∀ y0 y1 y2 y3 y4 y5, LeO (shawmlaw14_LinearConstant.l3 k y0 y1 y2 y3 y4 y5) (shawmlaw14_LinearConstant.l3 (k + 1) y0 y1 y2 y3 y4 y5))
  | 0 => ⟨fun _ _ _ _ r h => by simp [shawmlaw14_LinearConstant.j0] at h, fun _ _ _ _ _ _ r h => by simp [shawmlaw14_LinearConstant.l0] at h, fun _ _ _ _ _ r h => by simp [shawmlaw14_LinearConstant.j2] at h, fun _ _ _ _ _ _ r h => by simp [shawmlaw14_LinearConstant.l1] at h, fun _ _ _ r h => by simp [shawmlaw14_LinearConstant.j4] at h, fun _ _ _ _ r h => by simp [shawmlaw14_LinearConstant.j5] at h, fun _ _ _ _ _ r h => by simp [shawmlaw14_LinearConstant.l2] at h, fun _ _ _ _ _ _ r h => by simp [shawmlaw14_LinearConstant.l3] at h⟩
  | k + 1 => by
    obtain ⟨ih0, ih1, ih2, ih3, ih4, ih5, ih6, ih7⟩ := shawmlaw14_LinearConstant.mono_l k
    refine ⟨?_, ?_, ?_, ?_, ?_, ?_, ?_, ?_⟩
    · intro y0 y1 y2 y3
      unfold shawmlaw14_LinearConstant.j0
      repeat' first
      | (with_reducible exact ih0 _ _ _ _)
      | (with_reducible exact ih1 _ _ _ _ _ _)
      | (with_reducible exact ih2 _ _ _ _ _)
      | (with_reducible exact ih3 _ _ _ _ _ _)
      | (with_reducible exact ih4 _ _ _)
      | (with_reducible exact ih5 _ _ _ _)
      | (with_reducible exact ih6 _ _ _ _ _)
      | (with_reducible exact ih7 _ _ _ _ _ _)
      | (with_reducible exact shawmref02_Ints.mono _ _ _)
      | (with_reducible exact LeO.refl _)
      | (with_reducible exact LeO.none _)
      | (with_reducible refine LeO.ite ?_ ?_)
      | (with_reducible refine LeO.bind ?_ (fun _ => ?_))
      | exact ih0 _ _ _ _
      | exact ih1 _ _ _ _ _ _
      | exact ih2 _ _ _ _ _
      | exact ih3 _ _ _ _ _ _
      | exact ih4 _ _ _
      | exact ih5 _ _ _ _
      | exact ih6 _ _ _ _ _
      | exact ih7 _ _ _ _ _ _
      | exact shawmref02_Ints.mono _ _ _
      | exact LeO.none _
      | refine LeO.ite ?_ ?_
      | refine LeO.bind ?_ (fun _ => ?_)
    · intro y0 y1 y2 y3 y4 y5
      unfold shawmlaw14_LinearConstant.l0
      repeat' first
      | (with_reducible exact ih0 _ _ _ _)
      | (with_reducible exact ih1 _ _ _ _ _ _)
      | (with_reducible exact ih2 _ _ _ _ _)
      | (with_reducible exact ih3 _ _ _ _ _ _)
      | (with_reducible exact ih4 _ _ _)
      | (with_reducible exact ih5 _ _ _ _)
      | (with_reducible exact ih6 _ _ _ _ _)
      | (with_reducible exact ih7 _ _ _ _ _ _)
      | (with_reducible exact shawmref02_Ints.mono _ _ _)
      | (with_reducible exact LeO.refl _)
      | (with_reducible exact LeO.none _)
      | (with_reducible refine LeO.ite ?_ ?_)
      | (with_reducible refine LeO.bind ?_ (fun _ => ?_))
      | exact ih0 _ _ _ _
      | exact ih1 _ _ _ _ _ _
      | exact ih2 _ _ _ _ _
      | exact ih3 _ _ _ _ _ _
      | exact ih4 _ _ _
      | exact ih5 _ _ _ _
      | exact ih6 _ _ _ _ _
      | exact ih7 _ _ _ _ _ _
      | exact shawmref02_Ints.mono _ _ _
      | exact LeO.none _
      | refine LeO.ite ?_ ?_
      | refine LeO.bind ?_ (fun _ => ?_)
    · intro y0 y1 y2 y3 y4
      unfold shawmlaw14_LinearConstant.j2
      repeat' first
      | (with_reducible exact ih0 _ _ _ _)
      | (with_reducible exact ih1 _ _ _ _ _ _)
      | (with_reducible exact ih2 _ _ _ _ _)
      | (with_reducible exact ih3 _ _ _ _ _ _)
      | (with_reducible exact ih4 _ _ _)
      | (with_reducible exact ih5 _ _ _ _)
      | (with_reducible exact ih6 _ _ _ _ _)
      | (with_reducible exact ih7 _ _ _ _ _ _)
      | (with_reducible exact shawmref02_Ints.mono _ _ _)
      | (with_reducible exact LeO.refl _)
      | (with_reducible exact LeO.none _)
      | (with_reducible refine LeO.ite ?_ ?_)
      | (with_reducible refine LeO.bind ?_ (fun _ => ?_))
      | exact ih0 _ _ _ _
      | exact ih1 _ _ _ _ _ _
      | exact ih2 _ _ _ _ _
      | exact ih3 _ _ _ _ _ _
      | exact ih4 _ _ _
      | exact ih5 _ _ _ _
      | exact ih6 _ _ _ _ _
      | exact ih7 _ _ _ _ _ _
      | exact shawmref02_Ints.mono _ _ _
      | exact LeO.none _
      | refine LeO.ite ?_ ?_
      | refine LeO.bind ?_ (fun _ => ?_)
    · intro y0 y1 y2 y3 y4 y5
      unfold shawmlaw14_LinearConstant.l1
      repeat' first
      | (with_reducible exact ih0 _ _ _ _)
      | (with_reducible exact ih1 _ _ _ _ _ _)
      | (with_reducible exact ih2 _ _ _ _ _)
      | (with_reducible exact ih3 _ _ _ _ _ _)
      | (with_reducible exact ih4 _ _ _)
      | (with_reducible exact ih5 _ _ _ _)
      | (with_reducible exact ih6 _ _ _ _ _)
      | (with_reducible exact ih7 _ _ _ _ _ _)
      | (with_reducible exact shawmref02_Ints.mono _ _ _)
      | (with_reducible exact LeO.refl _)
      | (with_reducible exact LeO.none _)
      | (with_reducible refine LeO.ite ?_ ?_)
      | (with_reducible refine LeO.bind ?_ (fun _ => ?_))
      | exact ih0 _ _ _ _
      | exact ih1 _ _ _ _ _ _
      | exact ih2 _ _ _ _ _
      | exact ih3 _ _ _ _ _ _
      | exact ih4 _ _ _
      | exact ih5 _ _ _ _
      | exact ih6 _ _ _ _ _
      | exact ih7 _ _ _ _ _ _
      | exact shawmref02_Ints.mono _ _ _
      | exact LeO.none _
      | refine LeO.ite ?_ ?_
      | refine LeO.bind ?_ (fun _ => ?_)
    · intro y0 y1 y2
      unfold shawmlaw14_LinearConstant.j4
      repeat' first
      | (with_reducible exact ih0 _ _ _ _)
      | (with_reducible exact ih1 _ _ _ _ _ _)
      | (with_reducible exact ih2 _ _ _ _ _)
      | (with_reducible exact ih3 _ _ _ _ _ _)
      | (with_reducible exact ih4 _ _ _)
      | (with_reducible exact ih5 _ _ _ _)
      | (with_reducible exact ih6 _ _ _ _ _)
      | (with_reducible exact ih7 _ _ _ _ _ _)
      | (with_reducible exact shawmref02_Ints.mono _ _ _)
      | (with_reducible exact LeO.refl _)
      | (with_reducible exact LeO.none _)
      | (with_reducible refine LeO.ite ?_ ?_)
      | (with_reducible refine LeO.bind ?_ (fun _ => ?_))
      | exact ih0 _ _ _ _
      | exact ih1 _ _ _ _ _ _
      | exact ih2 _ _ _ _ _
      | exact ih3 _ _ _ _ _ _
      | exact ih4 _ _ _
      | exact ih5 _ _ _ _
      | exact ih6 _ _ _ _ _
      | exact ih7 _ _ _ _ _ _
      | exact shawmref02_Ints.mono _ _ _
      | exact LeO.none _
      | refine LeO.ite ?_ ?_
      | refine LeO.bind ?_ (fun _ => ?_)
    · intro y0 y1 y2 y3
      unfold shawmlaw14_LinearConstant.j5
      repeat' first
      | (with_reducible exact ih0 _ _ _ _)
      | (with_reducible exact ih1 _ _ _ _ _ _)
      | (with_reducible exact ih2 _ _ _ _ _)
      | (with_reducible exact ih3 _ _ _ _ _ _)
      | (with_reducible exact ih4 _ _ _)
      | (with_reducible exact ih5 _ _ _ _)
      | (with_reducible exact ih6 _ _ _ _ _)
      | (with_reducible exact ih7 _ _ _ _ _ _)
      | (with_reducible exact shawmref02_Ints.mono _ _ _)
      | (with_reducible exact LeO.refl _)
      | (with_reducible exact LeO.none _)
      | (with_reducible refine LeO.ite ?_ ?_)
      | (with_reducible refine LeO.bind ?_ (fun _ => ?_))
      | exact ih0 _ _ _ _
      | exact ih1 _ _ _ _ _ _
      | exact ih2 _ _ _ _ _
      | exact ih3 _ _ _ _ _ _
      | exact ih4 _ _ _
      | exact ih5 _ _ _ _
      | exact ih6 _ _ _ _ _
      | exact ih7 _ _ _ _ _ _
      | exact shawmref02_Ints.mono _ _ _
      | exact LeO.none _
      | refine LeO.ite ?_ ?_
      | refine LeO.bind ?_ (fun _ => ?_)
    · intro y0 y1 y2 y3 y4
      unfold shawmlaw14_LinearConstant.l2
      repeat' first
      | (with_reducible exact ih0 _ _ _ _)
      | (with_reducible exact ih1 _ _ _ _ _ _)
      | (with_reducible exact ih2 _ _ _ _ _)
      | (with_reducible exact ih3 _ _ _ _ _ _)
      | (with_reducible exact ih4 _ _ _)
      | (with_reducible exact ih5 _ _ _ _)
      | (with_reducible exact ih6 _ _ _ _ _)
      | (with_reducible exact ih7 _ _ _ _ _ _)
      | (with_reducible exact shawmref02_Ints.mono _ _ _)
      | (with_reducible exact LeO.refl _)
      | (with_reducible exact LeO.none _)
      | (with_reducible refine LeO.ite ?_ ?_)
      | (with_reducible refine LeO.bind ?_ (fun _ => ?_))
      | exact ih0 _ _ _ _
      | exact ih1 _ _ _ _ _ _
      | exact ih2 _ _ _ _ _
      | exact ih3 _ _ _ _ _ _
      | exact ih4 _ _ _
      | exact ih5 _ _ _ _
      | exact ih6 _ _ _ _ _
      | exact ih7 _ _ _ _ _ _
      | exact shawmref02_Ints.mono _ _ _
      | exact LeO.none _
      | refine LeO.ite ?_ ?_
      | refine LeO.bind ?_ (fun _ => ?_)
    · intro y0 y1 y2 y3 y4 y5
      unfold shawmlaw14_LinearConstant.l3
      repeat' first
      | (with_reducible exact ih0 _ _ _ _)
      | (with_reducible exact ih1 _ _ _ _ _ _)
      | (with_reducible exact ih2 _ _ _ _ _)
      | (with_reducible exact ih3 _ _ _ _ _ _)
      | (with_reducible exact ih4 _ _ _)
      | (with_reducible exact ih5 _ _ _ _)
      | (with_reducible exact ih6 _ _ _ _ _)
      | (with_reducible exact ih7 _ _ _ _ _ _)
      | (with_reducible exact shawmref02_Ints.mono _ _ _)
      | (with_reducible exact LeO.refl _)
      | (with_reducible exact LeO.none _)
      | (with_reducible refine LeO.ite ?_ ?_)
      | (with_reducible refine LeO.bind ?_ (fun _ => ?_))
      | exact ih0 _ _ _ _
      | exact ih1 _ _ _ _ _ _
      | exact ih2 _ _ _ _ _
      | exact ih3 _ _ _ _ _ _
      | exact ih4 _ _ _
      | exact ih5 _ _ _ _
      | exact ih6 _ _ _ _ _
      | exact ih7 _ _ _ _ _ _
      | exact shawmref02_Ints.mono _ _ _
      | exact LeO.none _
      | refine LeO.ite ?_ ?_
      | refine LeO.bind ?_ (fun _ => ?_)
theorem shawmlaw14_LinearConstant.mono : ∀ a0 a1 a2 k, LeO (shawmlaw14_LinearConstant.f k a0 a1 a2) (shawmlaw14_LinearConstant.f (k + 1) a0 a1 a2) := by
  intro a0 a1 a2 k
  obtain ⟨ih0, ih1, ih2, ih3, ih4, ih5, ih6, ih7⟩ := shawmlaw14_LinearConstant.mono_l k
  unfold shawmlaw14_LinearConstant.f
  repeat' first
      | (with_reducible exact ih0 _ _ _ _)
      | (with_reducible exact ih1 _ _ _ _ _ _)
      | (with_reducible exact ih2 _ _ _ _ _)
      | (with_reducible exact ih3 _ _ _ _ _ _)
      | (with_reducible exact ih4 _ _ _)
      | (with_reducible exact ih5 _ _ _ _)
      | (with_reducible exact ih6 _ _ _ _ _)
      | (with_reducible exact ih7 _ _ _ _ _ _)
      | (with_reducible exact shawmref02_Ints.mono _ _ _)
      | (with_reducible exact LeO.refl _)
      | (with_reducible exact LeO.none _)
      | (with_reducible refine LeO.ite ?_ ?_)
      | (with_reducible refine LeO.bind ?_ (fun _ => ?_))
      | exact ih0 _ _ _ _
      | exact ih1 _ _ _ _ _ _
      | exact ih2 _ _ _ _ _
      | exact ih3 _ _ _ _ _ _
      | exact ih4 _ _ _
      | exact ih5 _ _ _ _
      | exact ih6 _ _ _ _ _
      | exact ih7 _ _ _ _ _ _
      | exact shawmref02_Ints.mono _ _ _
      | exact LeO.none _
      | refine LeO.ite ?_ ?_
      | refine LeO.bind ?_ (fun _ => ?_)
set_option maxHeartbeats 8000000 in
set_option maxRecDepth 100000 in
theorem shawmlaw14_LinearConstant.calls (k : Nat) (A0 : Option Addr) (c0 : Nat) (l0 : List Int) (a1 : Int) (a2 : Int) (r : Bool) (w : World) (hr0 : Kd.C (Kd.int .i64) w A0 l0.length l0) (hc0 : l0.length ≤ c0) (h : shawmlaw14_LinearConstant.f k l0 a1 a2 = some r) :
    Calls Try.prog 9 #[.slice A0 l0.length c0, .int .i64 a1, .int .u8 a2] w fun e w' => e = .returned (.bool r) ∧ Below w.heap.size w w' := by
  have HR0 := Aside0.mk hr0
  have HC0 := Aside0.mk hc0
  clear hr0 hc0
  have HB := Aside0.mk (Below.refl w.heap.size w)
  have H : (if (l0.length : Int) > 8192 then (shawmlaw14_LinearConstant.j0 k l0 a1 a2 true) else (if a1 < (-2097152) then (shawmlaw14_LinearConstant.j0 k l0 a1 a2 true) else (shawmlaw14_LinearConstant.j0 k l0 a1 a2 (decide (a1 > 2097152))))) = some r := h
  clear h
  have HC4 := Aside0.mk H
  clear H
  go_enter Try.func9, Try.ntmps9
  go_upto_region 1 with (fail)
  repeat (go_quiet (fail); go_upto_region 1 with (fail))
  go_cut [32] (fun v32 wc => ∃ (kq : Nat) (x32_3 : Bool), v32 = .bool x32_3 ∧ Aside0 (shawmlaw14_LinearConstant.j0 kq l0 a1 a2 x32_3 = some r) ∧ Aside0 (kq ≤ k) ∧ Aside0 (Below w.heap.size w wc))
  case first =>
    have H := HC4.out
    clear HC4
    by_cases c5 : (l0.length : Int) > 8192
    · rw [if_pos c5] at H
      have c5b0 : decide (8192 < (l0.length : Int)) = true := decide_eq_true c5
      have c5b1 : decide (8192 < l0.length) = true := decide_eq_true (by omega)
      clear c5
      (first | rw [c5b0] | (simp only [i64_w, i32_w]; rw [c5b0]) | skip)
      have H' := Aside0.mk H
      clear H
      go_wp2
      repeat (go_quiet (fail); try go_wp2)
      go_meet
      case rel => exact ⟨_, (true), (by first | rfl | (simp; done) | (simp [*]; done)), H', ⟨by first | omega | exact Nat.le_refl _⟩, ⟨by repeat (first | (with_reducible first | exact HB.out | apply below_alloc | apply pw_below_drewN | apply below_drew1) | exact HB.out)⟩⟩
    · rw [if_neg c5] at H
      have c5b0 : decide (8192 < (l0.length : Int)) = false := decide_eq_false c5
      have c5b1 : decide (8192 < l0.length) = false := decide_eq_false (by omega)
      clear c5
      (first | rw [c5b0] | (simp only [i64_w, i32_w]; rw [c5b0]) | skip)
      by_cases c6 : a1 < (-2097152)
      · rw [if_pos c6] at H
        have c6b0 : decide (a1 < (-2097152)) = true := decide_eq_true c6
        clear c6
        have H' := Aside0.mk H
        clear H
        go_wp2
        repeat (go_quiet (fail); try go_wp2)
        go_meet
        case rel => exact ⟨_, (true), (by first | rfl | (simp; done) | (simp [*]; done)), H', ⟨by first | omega | exact Nat.le_refl _⟩, ⟨by repeat (first | (with_reducible first | exact HB.out | apply below_alloc | apply pw_below_drewN | apply below_drew1) | exact HB.out)⟩⟩
      · rw [if_neg c6] at H
        have c6b0 : decide (a1 < (-2097152)) = false := decide_eq_false c6
        clear c6
        have H' := Aside0.mk H
        clear H
        go_wp2
        repeat (go_quiet (fail); try go_wp2)
        go_meet
        case rel => exact ⟨_, (decide (a1 > 2097152)), (by first | rfl | (simp; done) | (simp [*]; done)), H', ⟨by first | omega | exact Nat.le_refl _⟩, ⟨by repeat (first | (with_reducible first | exact HB.out | apply below_alloc | apply pw_below_drewN | apply below_drew1) | exact HB.out)⟩⟩
  case rest =>
    clear HC4
    try clear p2
    try clear c5
    try clear c5b0
    try clear c5b1
    try clear c6
    try clear c6b0
    obtain ⟨kq, x32_3, rfl, HA, HJ3, HB⟩ := hcut
    cases kq with
    | zero => exact absurd HA.out (by simp [shawmlaw14_LinearConstant.j0])
    | succ kj3 =>
      have H := HA.out
      clear HA
      simp only [shawmlaw14_LinearConstant.j0] at H
      by_cases c7 : x32_3 = true
      · subst c7
        have H1 : ((shawmlaw14_awake.f).bind fun t442 => (some t442)) = some r := by rw [if_pos rfl] at H; exact H
        clear H
        have H := H1
        clear H1
        replace H := Option.bind_eq_some_iff.mp H
        obtain ⟨t442, A80, H⟩ := H
        replace H : (some t442) = some r := H
        have A8 := Aside0.mk A80
        clear A80
        obtain rfl := Option.some.inj H
        go_wp2_with (first | (go_at_call 10; (with_reducible refine (shawmlaw14_awake.calls  t442 _ A8.out).mono ?_); rintro e w9 ⟨rfl, hb⟩; have n0_ := Aside0.mk (below_step (by repeat (first | (with_reducible first | exact HB.out | apply below_alloc | apply pw_below_drewN | apply below_drew1) | exact HB.out)) hb); clear HB; have HB := n0_; clear n0_; (try clear hb); (try clear hb2); (try clear hk); (try clear hi)))
        repeat (go_quiet (first | (go_at_call 10; (with_reducible refine (shawmlaw14_awake.calls  t442 _ A8.out).mono ?_); rintro e w9 ⟨rfl, hb⟩; have n0_ := Aside0.mk (below_step (by repeat (first | (with_reducible first | exact HB.out | apply below_alloc | apply pw_below_drewN | apply below_drew1) | exact HB.out)) hb); clear HB; have HB := n0_; clear n0_; (try clear hb); (try clear hb2); (try clear hk); (try clear hi))); try go_wp2_with (first | (go_at_call 10; (with_reducible refine (shawmlaw14_awake.calls  t442 _ A8.out).mono ?_); rintro e w9 ⟨rfl, hb⟩; have n0_ := Aside0.mk (below_step (by repeat (first | (with_reducible first | exact HB.out | apply below_alloc | apply pw_below_drewN | apply below_drew1) | exact HB.out)) hb); clear HB; have HB := n0_; clear n0_; (try clear hb); (try clear hb2); (try clear hk); (try clear hi))))
        go_ret
        exact ⟨by first | rfl | (simp [errW_none, errW_some] <;> rfl) | (simp [*, errW_none, errW_some] <;> rfl), by repeat (first | (with_reducible first | exact HB.out | apply below_alloc | apply pw_below_drewN | apply below_drew1) | exact HB.out)⟩
      · replace c7 := Bool.eq_false_iff.mpr c7
        subst c7
        have H1 : (if 0 ≤ (l0.length : Int) then (if ((l0.length : Int) : Int).toNat ≤ 35184372088832 then ((some (List.replicate ((l0.length : Int) : Int).toNat 0 : List Int)).bind fun y443 => (shawmlaw14_LinearConstant.l0 kj3 l0 a1 a2 y443 (y443.length : Int) 0)) else (none)) else (none)) = some r := by rw [if_neg (show ¬ (false = true) by decide)] at H; exact H
        clear H
        have H := H1
        clear H1
        by_cases c10 : 0 ≤ (l0.length : Int)
        · rw [if_pos c10] at H
          have c10b0 := eq_true c10
          have c10b1 : decide (0 ≤ (l0.length : Int)) = true := decide_eq_true c10
          clear c10
          by_cases c11 : ((l0.length : Int) : Int).toNat ≤ 35184372088832
          · rw [if_pos c11] at H
            have c11b0 := eq_true c11
            have c11b1 : decide (((l0.length : Int) : Int).toNat ≤ 35184372088832) = true := decide_eq_true c11
            clear c11
            obtain ⟨y443, hy443⟩ : ∃ y_ : List Int, y_ = (List.replicate ((l0.length : Int) : Int).toNat 0) := ⟨_, rfl⟩
            replace H : (shawmlaw14_LinearConstant.l0 kj3 l0 a1 a2 y443 (y443.length : Int) 0) = some r := by first | (rw [hy443]; with_reducible exact H) | (have H2_ := (Option.bind_some _ _).symm.trans H; rw [hy443]; with_reducible exact H2_) | (have H2_ := (Option.bind_some _ _).symm.trans H; with_reducible exact H2_) | with_reducible exact H | (rw [hy443]; exact H) | exact H
            have Ny443 := Aside0.mk hy443
            clear hy443
            have H' := Aside0.mk H
            clear H
            go_wp2_with (first | ((with_reducible refine gate_dst (N := 36) rfl ?_); (try (refine gate_guard (by rfl) ?_; dsimp only)); refine Kd.R_make (Kd.int .i64) _ 3 rfl (N := 36) rfl 22 _ _ rfl (l0.length : Int) rfl rfl Try.underlying22 (.int .i64 0) 8 info3 rfl (by decide) (by omega) 0 (ok := fun _ => True) (okp := fun _ => True) rfl (fun _ hk => hk) trivial (of_decide_eq_true (by first | (with_reducible assumption) | assumption)) (Nat.le_trans (Nat.mul_le_mul_right _ (of_decide_eq_true (by first | (with_reducible assumption) | assumption) : (l0.length : Int).toNat ≤ 35184372088832)) (by omega)) (Below.refl _ _) (Nat.le_refl _) ?_; intro v444 w12 ho13 hb hg_ hnew_; clear hg_ hnew_; (first | rw [← Ny443.out] at ho13 | (simp only [Int.reduceToNat] at ho13; rw [← Ny443.out] at ho13)); have n0_ := Aside0.mk (Kd.R_lower ho13 (below_size (by repeat (first | (with_reducible first | exact HB.out | apply below_alloc | apply pw_below_drewN | apply below_drew1) | exact HB.out)))); have n1_ := Aside0.mk (below_step (by repeat (first | (with_reducible first | exact HB.out | apply below_alloc | apply pw_below_drewN | apply below_drew1) | exact HB.out)) hb); clear HB; have HO445 := n0_; have HB := n1_; clear n0_ n1_; clear hb ho13; obtain ⟨Ao14, co14, eo14⟩ := Kd.R_slice HO445.out; subst eo14))
            repeat (go_quiet (first | ((with_reducible refine gate_dst (N := 36) rfl ?_); (try (refine gate_guard (by rfl) ?_; dsimp only)); refine Kd.R_make (Kd.int .i64) _ 3 rfl (N := 36) rfl 22 _ _ rfl (l0.length : Int) rfl rfl Try.underlying22 (.int .i64 0) 8 info3 rfl (by decide) (by omega) 0 (ok := fun _ => True) (okp := fun _ => True) rfl (fun _ hk => hk) trivial (of_decide_eq_true (by first | (with_reducible assumption) | assumption)) (Nat.le_trans (Nat.mul_le_mul_right _ (of_decide_eq_true (by first | (with_reducible assumption) | assumption) : (l0.length : Int).toNat ≤ 35184372088832)) (by omega)) (Below.refl _ _) (Nat.le_refl _) ?_; intro v444 w12 ho13 hb hg_ hnew_; clear hg_ hnew_; (first | rw [← Ny443.out] at ho13 | (simp only [Int.reduceToNat] at ho13; rw [← Ny443.out] at ho13)); have n0_ := Aside0.mk (Kd.R_lower ho13 (below_size (by repeat (first | (with_reducible first | exact HB.out | apply below_alloc | apply pw_below_drewN | apply below_drew1) | exact HB.out)))); have n1_ := Aside0.mk (below_step (by repeat (first | (with_reducible first | exact HB.out | apply below_alloc | apply pw_below_drewN | apply below_drew1) | exact HB.out)) hb); clear HB; have HO445 := n0_; have HB := n1_; clear n0_ n1_; clear hb ho13; obtain ⟨Ao14, co14, eo14⟩ := Kd.R_slice HO445.out; subst eo14)); try go_wp2_with (first | ((with_reducible refine gate_dst (N := 36) rfl ?_); (try (refine gate_guard (by rfl) ?_; dsimp only)); refine Kd.R_make (Kd.int .i64) _ 3 rfl (N := 36) rfl 22 _ _ rfl (l0.length : Int) rfl rfl Try.underlying22 (.int .i64 0) 8 info3 rfl (by decide) (by omega) 0 (ok := fun _ => True) (okp := fun _ => True) rfl (fun _ hk => hk) trivial (of_decide_eq_true (by first | (with_reducible assumption) | assumption)) (Nat.le_trans (Nat.mul_le_mul_right _ (of_decide_eq_true (by first | (with_reducible assumption) | assumption) : (l0.length : Int).toNat ≤ 35184372088832)) (by omega)) (Below.refl _ _) (Nat.le_refl _) ?_; intro v444 w12 ho13 hb hg_ hnew_; clear hg_ hnew_; (first | rw [← Ny443.out] at ho13 | (simp only [Int.reduceToNat] at ho13; rw [← Ny443.out] at ho13)); have n0_ := Aside0.mk (Kd.R_lower ho13 (below_size (by repeat (first | (with_reducible first | exact HB.out | apply below_alloc | apply pw_below_drewN | apply below_drew1) | exact HB.out)))); have n1_ := Aside0.mk (below_step (by repeat (first | (with_reducible first | exact HB.out | apply below_alloc | apply pw_below_drewN | apply below_drew1) | exact HB.out)) hb); clear HB; have HO445 := n0_; have HB := n1_; clear n0_ n1_; clear hb ho13; obtain ⟨Ao14, co14, eo14⟩ := Kd.R_slice HO445.out; subst eo14)))
            go_loopg [39] kj3 (fun kq v39 w' => ∃ (x7_2 : List Int) (x39_2 : Int), v39 = .int .i64 x39_2 ∧ Aside0 (shawmlaw14_LinearConstant.l0 kq l0 a1 a2 x7_2 (y443.length : Int) x39_2 = some r) ∧ Aside0 (kq ≤ kj3) ∧ Aside0 (Kd.R (Kd.int .i64) 3 w' w.heap.size (fun _ => True) (.slice Ao14 y443.length co14) x7_2) ∧ Aside0 (Below w.heap.size w w'))
            case atStart => exact ⟨(y443), (0), (by first | rfl | (simp; done) | (simp [*]; done)), H', ⟨Nat.le_refl _⟩, ⟨by (with_reducible repeat (first | apply Kd.R_alloc | apply Kd.R_drewN | apply Kd.R_drew)); exact HO445.out⟩, ⟨by repeat (first | (with_reducible first | exact HB.out | apply below_alloc | apply pw_below_drewN | apply below_drew1) | exact HB.out)⟩⟩
            case round =>
              clear H'
              try clear c1
              try clear p2
              try clear c5
              try clear c5b0
              try clear c5b1
              try clear c6
              try clear c6b0
              try clear c7
              try clear c9
              try clear c10
              try clear c10b0
              try clear c10b1
              try clear c11
              try clear c11b0
              try clear c11b1
              try clear p2
              obtain ⟨x7_2, x39_2, rfl, HA, HK2, HO_7, HB⟩ := hrel
              have hl7_2 := (Kd.R_reads' HO_7.out).1
              rw [hl7_2] at HO_7
              (try simp only [hl7_2])
              cases gk with
              | zero => exact absurd HA.out (by simp [shawmlaw14_LinearConstant.l0])
              | succ k2 =>
                have H := HA.out
                clear HA
                simp only [shawmlaw14_LinearConstant.l0] at H
                by_cases c15 : x39_2 < (y443.length : Int)
                · rw [if_pos c15] at H
                  have c15b0 : decide (x39_2 < (y443.length : Int)) = true := decide_eq_true c15
                  clear c15
                  by_cases c16 : 0 ≤ x39_2
                  · rw [if_pos c16] at H
                    have c16b0 : decide (0 ≤ x39_2) = true := decide_eq_true c16
                    clear c16
                    by_cases c17 : x39_2 < (x7_2.length : Int)
                    · rw [if_pos c17] at H
                      have c17b0 : decide (x39_2 < (x7_2.length : Int)) = true := decide_eq_true c17
                      clear c17
                      obtain ⟨y446, hy446⟩ : ∃ y_ : List Int, y_ = (x7_2.set (x39_2 : Int).toNat a1) := ⟨_, rfl⟩
                      replace H : (shawmlaw14_LinearConstant.l0 k2 l0 a1 a2 y446 (y443.length : Int) (wrap64 (x39_2 + 1))) = some r := by first | (rw [hy446]; with_reducible exact H) | (have H2_ := (Option.bind_some _ _).symm.trans H; rw [hy446]; with_reducible exact H2_) | (have H2_ := (Option.bind_some _ _).symm.trans H; with_reducible exact H2_) | with_reducible exact H | (rw [hy446]; exact H) | exact H
                      have Ny446 := Aside0.mk hy446
                      clear hy446
                      have H' := Aside0.mk H
                      clear H
                      have p18 : 0 ≤ (x39_2 : Int) := of_decide_eq_true (by first | (with_reducible assumption) | assumption)
                      have q18 : (x39_2 : Int) < ((x7_2.length : Int) : Int) := of_decide_eq_true (by first | (with_reducible assumption) | assumption)
                      obtain ⟨go18, co18, eo18, gb18, gl18, cl18, HG18⟩ := Kd.R_form HO_7.out (by omega)
                      (first | cases eo18 | (injection eo18 with ea_ en_ ec_; (first | subst ea_ | (injection ea_ with ea_; subst ea_)); subst ec_; clear en_))
                      have GB18 := Aside0.mk gb18
                      have GG18 := Aside0.mk HG18
                      clear gb18 gl18 HG18
                      obtain ⟨hx18_0, hf18_0⟩ := Kd.R_celln 0 HO_7.out (x39_2 : Int) p18 q18
                      replace p18 := eq_true p18
                      replace q18 := eq_true q18
                      have HP19 := Kd.R_putg HO_7.out (x39_2 : Int) a1
                      go_wp2_with (first | ((with_reducible refine gate_store (t := 3) (p := 45) rfl ?_); (try (rw [drewN_self wr]; generalize hq_ : World.drewN wr _ = wr; have n0_ := Aside0.mk (Kd.R_at hq_ HO_7.out); have n1_ := Aside0.mk (below_at hq_ HB.out); clear hq_ HO_7 HB; have HO_7 := n0_; have HB := n1_; clear n0_ n1_; (try (have HP19 := Kd.R_putg HO_7.out (x39_2 : Int) a1)))); refine store_event (t := 3) (p := 45) (v := ?vo_w20) (w1 := (wr.setCell ⟨go18, (x39_2 : Int).toNat, none⟩ (.int .i64 a1))) ?hg ?ho ?hn ?hr ?_; (case ho => rfl); (case hg => rfl); (case hn => rfl); (case hr => first | (go_simp; done) | (go_simp; rfl)); intro w20 hw; have hg : wr.grownBy w20 (some go18) := (by rw [hw]; exact HP19.2); have hp_ : Kd.R (Kd.int .i64) 3 w20 w.heap.size (fun _ => True) (.slice (some ⟨go18, 0, none⟩) x7_2.length co14) y446 := (by rw [hw, Ny446.out]; exact HP19.1); clear HP19; have n0_ := Aside0.mk (hp_); have n1_ := Aside0.mk ((by rw [hw]; exact below_set (HB.out) GB18.out : Below w.heap.size w w20)); clear HO_7; clear HB; have HO_7 := n0_; have HB := n1_; clear n0_ n1_; clear hg hw hp_))
                      repeat (go_quiet (first | ((with_reducible refine gate_store (t := 3) (p := 45) rfl ?_); (try (rw [drewN_self wr]; generalize hq_ : World.drewN wr _ = wr; have n0_ := Aside0.mk (Kd.R_at hq_ HO_7.out); have n1_ := Aside0.mk (below_at hq_ HB.out); clear hq_ HO_7 HB; have HO_7 := n0_; have HB := n1_; clear n0_ n1_; (try (have HP19 := Kd.R_putg HO_7.out (x39_2 : Int) a1)))); refine store_event (t := 3) (p := 45) (v := ?vo_w20) (w1 := (wr.setCell ⟨go18, (x39_2 : Int).toNat, none⟩ (.int .i64 a1))) ?hg ?ho ?hn ?hr ?_; (case ho => rfl); (case hg => rfl); (case hn => rfl); (case hr => first | (go_simp; done) | (go_simp; rfl)); intro w20 hw; have hg : wr.grownBy w20 (some go18) := (by rw [hw]; exact HP19.2); have hp_ : Kd.R (Kd.int .i64) 3 w20 w.heap.size (fun _ => True) (.slice (some ⟨go18, 0, none⟩) x7_2.length co14) y446 := (by rw [hw, Ny446.out]; exact HP19.1); clear HP19; have n0_ := Aside0.mk (hp_); have n1_ := Aside0.mk ((by rw [hw]; exact below_set (HB.out) GB18.out : Below w.heap.size w w20)); clear HO_7; clear HB; have HO_7 := n0_; have HB := n1_; clear n0_ n1_; clear hg hw hp_)); try go_wp2_with (first | ((with_reducible refine gate_store (t := 3) (p := 45) rfl ?_); (try (rw [drewN_self wr]; generalize hq_ : World.drewN wr _ = wr; have n0_ := Aside0.mk (Kd.R_at hq_ HO_7.out); have n1_ := Aside0.mk (below_at hq_ HB.out); clear hq_ HO_7 HB; have HO_7 := n0_; have HB := n1_; clear n0_ n1_; (try (have HP19 := Kd.R_putg HO_7.out (x39_2 : Int) a1)))); refine store_event (t := 3) (p := 45) (v := ?vo_w20) (w1 := (wr.setCell ⟨go18, (x39_2 : Int).toNat, none⟩ (.int .i64 a1))) ?hg ?ho ?hn ?hr ?_; (case ho => rfl); (case hg => rfl); (case hn => rfl); (case hr => first | (go_simp; done) | (go_simp; rfl)); intro w20 hw; have hg : wr.grownBy w20 (some go18) := (by rw [hw]; exact HP19.2); have hp_ : Kd.R (Kd.int .i64) 3 w20 w.heap.size (fun _ => True) (.slice (some ⟨go18, 0, none⟩) x7_2.length co14) y446 := (by rw [hw, Ny446.out]; exact HP19.1); clear HP19; have n0_ := Aside0.mk (hp_); have n1_ := Aside0.mk ((by rw [hw]; exact below_set (HB.out) GB18.out : Below w.heap.size w w20)); clear HO_7; clear HB; have HO_7 := n0_; have HB := n1_; clear n0_ n1_; clear hg hw hp_)))
                      (try simp only [← hl7_2])
                      go_roundg k2
                      case measure => have := HJ3.out; have := HK2.out; omega
                      case rel => exact ⟨(y446), (wrap64 (x39_2 + 1)), (by first | rfl | (simp; done) | (simp [*]; done)), H', ⟨by have := HJ3.out; have := HK2.out; omega⟩, ⟨by (try simp only [hl7_2]); (with_reducible repeat (first | apply Kd.R_alloc | apply Kd.R_drewN | apply Kd.R_drew)); exact HO_7.out⟩, ⟨by repeat (first | (with_reducible first | exact HB.out | apply below_alloc | apply pw_below_drewN | apply below_drew1) | exact HB.out)⟩⟩
                    · rw [if_neg c17] at H
                      exact absurd H (by simp)
                  · rw [if_neg c16] at H
                    exact absurd H (by simp)
                · rw [if_neg c15] at H
                  have c15b0 : decide (x39_2 < (y443.length : Int)) = false := decide_eq_false c15
                  clear c15
                  rw [hl7_2] at c15b0
                  replace H := Option.bind_eq_some_iff.mp H
                  obtain ⟨⟨t447, t448⟩, A210, H⟩ := H
                  replace H : (if t448 = 0 then (shawmlaw14_LinearConstant.j2 k2 l0 a1 a2 t447 ((t447.length : Int) != (l0.length : Int))) else (shawmlaw14_LinearConstant.j2 k2 l0 a1 a2 t447 true)) = some r := H
                  have A21 := Aside0.mk A210
                  clear A210
                  have HC22 := Aside0.mk H
                  clear H
                  go_upto_region 10 with (first | (go_at_call 11; (with_reducible refine (linear_Differ.calls _ _ x7_2 1 t447 t448 _ ?side1 ?side2 A21.out).mono ?_); (case side1 => repeat (first | exact (Kd.R_reads' HO_7.out).2.2 | (with_reducible refine Kd.C_alloc ?_ _) | (with_reducible refine Kd.C_drewN ?_ _) | (with_reducible refine Kd.C_drew ?_))); (case side2 => exact (Kd.R_reads' HO_7.out).2.1); rintro e w23 ⟨v449, rfl, ho0, hb⟩; have n0_ := Aside0.mk (Kd.R_elder' (by (with_reducible repeat (first | apply Kd.R_alloc | apply Kd.R_drewN | apply Kd.R_drew)); exact HO_7.out) (Kd.R_base ho0) hb); have n1_ := Aside0.mk (Kd.R_lower (Kd.R_new' ho0 (Kd.R_lt (by (with_reducible repeat (first | apply Kd.R_alloc | apply Kd.R_drewN | apply Kd.R_drew)); exact HO_7.out))) (below_size (by repeat (first | (with_reducible first | exact HB.out | apply below_alloc | apply pw_below_drewN | apply below_drew1) | exact HB.out)))); have n2_ := Aside0.mk (below_step (by repeat (first | (with_reducible first | exact HB.out | apply below_alloc | apply pw_below_drewN | apply below_drew1) | exact HB.out)) hb); clear HO_7; clear HB; have HO_7 := n0_; have HO450 := n1_; have HB := n2_; clear n0_ n1_ n2_; (try clear hb); (try clear hb2); (try clear hk); (try clear hi); (try clear ho0)))
                  repeat (go_quiet (first | (go_at_call 11; (with_reducible refine (linear_Differ.calls _ _ x7_2 1 t447 t448 _ ?side1 ?side2 A21.out).mono ?_); (case side1 => repeat (first | exact (Kd.R_reads' HO_7.out).2.2 | (with_reducible refine Kd.C_alloc ?_ _) | (with_reducible refine Kd.C_drewN ?_ _) | (with_reducible refine Kd.C_drew ?_))); (case side2 => exact (Kd.R_reads' HO_7.out).2.1); rintro e w23 ⟨v449, rfl, ho0, hb⟩; have n0_ := Aside0.mk (Kd.R_elder' (by (with_reducible repeat (first | apply Kd.R_alloc | apply Kd.R_drewN | apply Kd.R_drew)); exact HO_7.out) (Kd.R_base ho0) hb); have n1_ := Aside0.mk (Kd.R_lower (Kd.R_new' ho0 (Kd.R_lt (by (with_reducible repeat (first | apply Kd.R_alloc | apply Kd.R_drewN | apply Kd.R_drew)); exact HO_7.out))) (below_size (by repeat (first | (with_reducible first | exact HB.out | apply below_alloc | apply pw_below_drewN | apply below_drew1) | exact HB.out)))); have n2_ := Aside0.mk (below_step (by repeat (first | (with_reducible first | exact HB.out | apply below_alloc | apply pw_below_drewN | apply below_drew1) | exact HB.out)) hb); clear HO_7; clear HB; have HO_7 := n0_; have HO450 := n1_; have HB := n2_; clear n0_ n1_ n2_; (try clear hb); (try clear hb2); (try clear hk); (try clear hi); (try clear ho0))); go_upto_region 10 with (first | (go_at_call 11; (with_reducible refine (linear_Differ.calls _ _ x7_2 1 t447 t448 _ ?side1 ?side2 A21.out).mono ?_); (case side1 => repeat (first | exact (Kd.R_reads' HO_7.out).2.2 | (with_reducible refine Kd.C_alloc ?_ _) | (with_reducible refine Kd.C_drewN ?_ _) | (with_reducible refine Kd.C_drew ?_))); (case side2 => exact (Kd.R_reads' HO_7.out).2.1); rintro e w23 ⟨v449, rfl, ho0, hb⟩; have n0_ := Aside0.mk (Kd.R_elder' (by (with_reducible repeat (first | apply Kd.R_alloc | apply Kd.R_drewN | apply Kd.R_drew)); exact HO_7.out) (Kd.R_base ho0) hb); have n1_ := Aside0.mk (Kd.R_lower (Kd.R_new' ho0 (Kd.R_lt (by (with_reducible repeat (first | apply Kd.R_alloc | apply Kd.R_drewN | apply Kd.R_drew)); exact HO_7.out))) (below_size (by repeat (first | (with_reducible first | exact HB.out | apply below_alloc | apply pw_below_drewN | apply below_drew1) | exact HB.out)))); have n2_ := Aside0.mk (below_step (by repeat (first | (with_reducible first | exact HB.out | apply below_alloc | apply pw_below_drewN | apply below_drew1) | exact HB.out)) hb); clear HO_7; clear HB; have HO_7 := n0_; have HO450 := n1_; have HB := n2_; clear n0_ n1_ n2_; (try clear hb); (try clear hb2); (try clear hk); (try clear hi); (try clear ho0))))
                  (try simp only [Act.put, List.setIfInBounds_toArray, List.set_cons_zero, List.set_cons_succ])
                  go_cut [60] (fun v60 wc => ∃ (kq : Nat) (x60_21 : Bool), v60 = .bool x60_21 ∧ Aside0 (shawmlaw14_LinearConstant.j2 kq l0 a1 a2 t447 x60_21 = some r) ∧ Aside0 (kq ≤ k2) ∧ Aside0 (Kd.R (Kd.int .i64) 3 wc w.heap.size (fun _ => True) v449 t447) ∧ Aside0 (Below w.heap.size w wc))
                  case first =>
                    have H := HC22.out
                    clear HC22
                    by_cases c24 : t448 = 0
                    · rw [if_pos c24] at H
                      have c24b0 : (t448 == 0) = true := beq_iff_eq.mpr c24
                      have c24b1 : (t448 != 0) = false := bne_eq_false_iff_eq.mpr c24
                      clear c24
                      (first | rw [c24b0] | (simp only [i64_w, i32_w]; rw [c24b0]) | skip)
                      have H' := Aside0.mk H
                      clear H
                      obtain ⟨Ao25, co25, eo25⟩ := Kd.R_slice HO450.out
                      subst eo25
                      go_wp2
                      repeat (go_quiet (fail); try go_wp2)
                      go_meet
                      case rel => exact ⟨_, (((t447.length : Int) != (l0.length : Int))), (by first | rfl | (simp; done) | (simp [*]; done)), H', ⟨by have := HJ3.out; have := HK2.out; first | omega | exact Nat.le_refl _⟩, ⟨by (try simp only [hl7_2]); (with_reducible repeat (first | apply Kd.R_alloc | apply Kd.R_drewN | apply Kd.R_drew)); exact Kd.R_mono HO450.out (fun _ hk => trivial)⟩, ⟨by repeat (first | (with_reducible first | exact HB.out | apply below_alloc | apply pw_below_drewN | apply below_drew1) | exact HB.out)⟩⟩
                    · rw [if_neg c24] at H
                      have c24b0 : (t448 == 0) = false := beq_eq_false_iff_ne.mpr c24
                      have c24b1 : (t448 != 0) = true := bne_iff_ne.mpr c24
                      (first | rw [c24b0] | (simp only [i64_w, i32_w]; rw [c24b0]) | skip)
                      have H' := Aside0.mk H
                      clear H
                      go_wp2
                      repeat (go_quiet (fail); try go_wp2)
                      go_meet
                      case rel => exact ⟨_, (true), (by first | rfl | (simp; done) | (simp [*]; done)), H', ⟨by have := HJ3.out; have := HK2.out; first | omega | exact Nat.le_refl _⟩, ⟨by (try simp only [hl7_2]); (with_reducible repeat (first | apply Kd.R_alloc | apply Kd.R_drewN | apply Kd.R_drew)); exact Kd.R_mono HO450.out (fun _ hk => trivial)⟩, ⟨by repeat (first | (with_reducible first | exact HB.out | apply below_alloc | apply pw_below_drewN | apply below_drew1) | exact HB.out)⟩⟩
                  case rest =>
                    clear HC22
                    try clear c1
                    try clear p1
                    try clear q1
                    try clear hx1
                    try clear c2
                    try clear p2
                    try clear c5
                    try clear c5b0
                    try clear c5b1
                    try clear c6
                    try clear c6b0
                    try clear p6
                    try clear c7
                    try clear c9
                    try clear c10
                    try clear c10b0
                    try clear c10b1
                    try clear c11
                    try clear c11b0
                    try clear c11b1
                    try clear c15
                    try clear c15b0
                    try clear c16
                    try clear c16b0
                    try clear c17
                    try clear c17b0
                    try clear p18
                    try clear q18
                    try clear hx18
                    try clear hf18
                    try clear c24
                    try clear c24b0
                    try clear c24b1
                    try clear hx18_0
                    try clear p18
                    try clear p2
                    try clear q18
                    obtain ⟨kq, x60_21, rfl, HA, HJ21, HO_9, HB⟩ := hcut
                    cases kq with
                    | zero => exact absurd HA.out (by simp [shawmlaw14_LinearConstant.j2])
                    | succ kj21 =>
                      have H := HA.out
                      clear HA
                      simp only [shawmlaw14_LinearConstant.j2] at H
                      by_cases c26 : x60_21 = true
                      · subst c26
                        have H1 : (some false) = some r := by rw [if_pos rfl] at H; exact H
                        clear H
                        have H := H1
                        clear H1
                        obtain rfl := Option.some.inj H
                        go_wp2
                        repeat (go_quiet (fail); try go_wp2)
                        go_ret
                        exact ⟨by first | rfl | (simp [errW_none, errW_some] <;> rfl) | (simp [*, errW_none, errW_some] <;> rfl), by repeat (first | (with_reducible first | exact HB.out | apply below_alloc | apply pw_below_drewN | apply below_drew1) | exact HB.out)⟩
                      · replace c26 := Bool.eq_false_iff.mpr c26
                        subst c26
                        have H1 : (shawmlaw14_LinearConstant.l1 kj21 l0 a1 a2 t447 (t447.length : Int) 0) = some r := by rw [if_neg (show ¬ (false = true) by decide)] at H; exact H
                        clear H
                        have H := H1
                        clear H1
                        have H' := Aside0.mk H
                        clear H
                        obtain ⟨Ao27, co27, eo27⟩ := Kd.R_slice HO_9.out
                        subst eo27
                        go_wp2
                        repeat (go_quiet (fail); try go_wp2)
                        go_loopg [63] kj21 (fun kq v63 w' => ∃ (x63_4 : Int), v63 = .int .i64 x63_4 ∧ Aside0 (shawmlaw14_LinearConstant.l1 kq l0 a1 a2 t447 (t447.length : Int) x63_4 = some r) ∧ Aside0 (kq ≤ kj21) ∧ Aside0 (Kd.R (Kd.int .i64) 3 w' w.heap.size (fun _ => True) (.slice Ao27 t447.length co27) t447) ∧ Aside0 (Below w.heap.size w w'))
                        case atStart => exact ⟨(0), (by first | rfl | (simp; done) | (simp [*]; done)), H', ⟨Nat.le_refl _⟩, ⟨by (try simp only [hl7_2]); (with_reducible repeat (first | apply Kd.R_alloc | apply Kd.R_drewN | apply Kd.R_drew)); exact HO_9.out⟩, ⟨by repeat (first | (with_reducible first | exact HB.out | apply below_alloc | apply pw_below_drewN | apply below_drew1) | exact HB.out)⟩⟩
                        case round =>
                          clear H'
                          try clear c1
                          try clear p1
                          try clear q1
                          try clear hx1
                          try clear c2
                          try clear p2
                          try clear c5
                          try clear c5b0
                          try clear c5b1
                          try clear c6
                          try clear c6b0
                          try clear p6
                          try clear c7
                          try clear c9
                          try clear c10
                          try clear c10b0
                          try clear c10b1
                          try clear c11
                          try clear c11b0
                          try clear c11b1
                          try clear c15
                          try clear c15b0
                          try clear c16
                          try clear c16b0
                          try clear c17
                          try clear c17b0
                          try clear p18
                          try clear q18
                          try clear hx18
                          try clear hf18
                          try clear c24
                          try clear c24b0
                          try clear c24b1
                          try clear c26
                          try clear hx18_0
                          try clear p1
                          try clear p18
                          try clear p2
                          try clear p6
                          try clear q1
                          try clear q18
                          obtain ⟨x63_4, rfl, HA, HK4, HO_61, HB⟩ := hrel
                          cases gk with
                          | zero => exact absurd HA.out (by simp [shawmlaw14_LinearConstant.l1])
                          | succ k4 =>
                            have H := HA.out
                            clear HA
                            simp only [shawmlaw14_LinearConstant.l1] at H
                            by_cases c28 : x63_4 < (t447.length : Int)
                            · rw [if_pos c28] at H
                              have c28b0 : decide (x63_4 < (t447.length : Int)) = true := decide_eq_true c28
                              clear c28
                              by_cases c29 : 0 ≤ x63_4
                              · rw [if_pos c29] at H
                                have c29b0 : decide (0 ≤ x63_4) = true := decide_eq_true c29
                                clear c29
                                by_cases c30 : x63_4 < (t447.length : Int)
                                · rw [if_pos c30] at H
                                  have c30b0 : decide (x63_4 < (t447.length : Int)) = true := decide_eq_true c30
                                  clear c30
                                  by_cases c31 : x63_4 = 0
                                  · rw [if_pos c31] at H
                                    have c31b0 : (x63_4 == 0) = true := beq_iff_eq.mpr c31
                                    have c31b1 : (x63_4 != 0) = false := bne_eq_false_iff_eq.mpr c31
                                    clear c31
                                    by_cases c32 : (rd t447 x63_4) = a1
                                    · rw [if_pos c32] at H
                                      have c32b0 : ((rd t447 x63_4) == a1) = true := beq_iff_eq.mpr c32
                                      have c32b1 : ((rd t447 x63_4) != a1) = false := bne_eq_false_iff_eq.mpr c32
                                      clear c32
                                      by_cases c33 : x63_4 > 0
                                      · rw [if_pos c33] at H
                                        have c33b0 : decide (0 < x63_4) = true := decide_eq_true c33
                                        clear c33
                                        by_cases c34 : (rd t447 x63_4) = 0
                                        · rw [if_pos c34] at H
                                          have c34b0 : ((rd t447 x63_4) == 0) = true := beq_iff_eq.mpr c34
                                          have c34b1 : ((rd t447 x63_4) != 0) = false := bne_eq_false_iff_eq.mpr c34
                                          clear c34
                                          have H' := Aside0.mk H
                                          clear H
                                          have p451 : 0 ≤ (x63_4 : Int) := of_decide_eq_true (by first | (with_reducible assumption) | assumption)
                                          have q451 : x63_4 < (t447.length : Int) := of_decide_eq_true (by first | (with_reducible assumption) | assumption)
                                          obtain ⟨ad451, e451, hx451_0⟩ := Kd.at_int (Kd.R_reads' HO_61.out).2.2 x63_4 p451 q451
                                          cases e451
                                          replace p451 := eq_true p451
                                          replace q451 := eq_true q451
                                          go_wp2
                                          repeat (go_quiet (fail); try go_wp2)
                                          go_roundg k4
                                          case measure => have := HJ3.out; have := HK2.out; have := HJ21.out; have := HK4.out; omega
                                          case rel => exact ⟨(wrap64 (x63_4 + 1)), (by first | rfl | (simp; done) | (simp [*]; done)), H', ⟨by have := HJ3.out; have := HK2.out; have := HJ21.out; have := HK4.out; omega⟩, ⟨by (try simp only [hl7_2]); (with_reducible repeat (first | apply Kd.R_alloc | apply Kd.R_drewN | apply Kd.R_drew)); exact HO_61.out⟩, ⟨by repeat (first | (with_reducible first | exact HB.out | apply below_alloc | apply pw_below_drewN | apply below_drew1) | exact HB.out)⟩⟩
                                        · rw [if_neg c34] at H
                                          have c34b0 : ((rd t447 x63_4) == 0) = false := beq_eq_false_iff_ne.mpr c34
                                          have c34b1 : ((rd t447 x63_4) != 0) = true := bne_iff_ne.mpr c34
                                          obtain rfl := Option.some.inj H
                                          have p451 : 0 ≤ (x63_4 : Int) := of_decide_eq_true (by first | (with_reducible assumption) | assumption)
                                          have q451 : x63_4 < (t447.length : Int) := of_decide_eq_true (by first | (with_reducible assumption) | assumption)
                                          obtain ⟨ad451, e451, hx451_0⟩ := Kd.at_int (Kd.R_reads' HO_61.out).2.2 x63_4 p451 q451
                                          cases e451
                                          replace p451 := eq_true p451
                                          replace q451 := eq_true q451
                                          go_wp2
                                          repeat (go_quiet (fail); try go_wp2)
                                          go_ret
                                          exact ⟨by first | rfl | (simp [errW_none, errW_some] <;> rfl) | (simp [*, errW_none, errW_some] <;> rfl), by repeat (first | (with_reducible first | exact HB.out | apply below_alloc | apply pw_below_drewN | apply below_drew1) | exact HB.out)⟩
                                      · rw [if_neg c33] at H
                                        have c33b0 : decide (0 < x63_4) = false := decide_eq_false c33
                                        clear c33
                                        have H' := Aside0.mk H
                                        clear H
                                        have p451 : 0 ≤ (x63_4 : Int) := of_decide_eq_true (by first | (with_reducible assumption) | assumption)
                                        have q451 : x63_4 < (t447.length : Int) := of_decide_eq_true (by first | (with_reducible assumption) | assumption)
                                        obtain ⟨ad451, e451, hx451_0⟩ := Kd.at_int (Kd.R_reads' HO_61.out).2.2 x63_4 p451 q451
                                        cases e451
                                        replace p451 := eq_true p451
                                        replace q451 := eq_true q451
                                        go_wp2
                                        repeat (go_quiet (fail); try go_wp2)
                                        go_roundg k4
                                        case measure => have := HJ3.out; have := HK2.out; have := HJ21.out; have := HK4.out; omega
                                        case rel => exact ⟨(wrap64 (x63_4 + 1)), (by first | rfl | (simp; done) | (simp [*]; done)), H', ⟨by have := HJ3.out; have := HK2.out; have := HJ21.out; have := HK4.out; omega⟩, ⟨by (try simp only [hl7_2]); (with_reducible repeat (first | apply Kd.R_alloc | apply Kd.R_drewN | apply Kd.R_drew)); exact HO_61.out⟩, ⟨by repeat (first | (with_reducible first | exact HB.out | apply below_alloc | apply pw_below_drewN | apply below_drew1) | exact HB.out)⟩⟩
                                    · rw [if_neg c32] at H
                                      have c32b0 : ((rd t447 x63_4) == a1) = false := beq_eq_false_iff_ne.mpr c32
                                      have c32b1 : ((rd t447 x63_4) != a1) = true := bne_iff_ne.mpr c32
                                      obtain rfl := Option.some.inj H
                                      have p451 : 0 ≤ (x63_4 : Int) := of_decide_eq_true (by first | (with_reducible assumption) | assumption)
                                      have q451 : x63_4 < (t447.length : Int) := of_decide_eq_true (by first | (with_reducible assumption) | assumption)
                                      obtain ⟨ad451, e451, hx451_0⟩ := Kd.at_int (Kd.R_reads' HO_61.out).2.2 x63_4 p451 q451
                                      cases e451
                                      replace p451 := eq_true p451
                                      replace q451 := eq_true q451
                                      go_wp2
                                      repeat (go_quiet (fail); try go_wp2)
                                      go_ret
                                      exact ⟨by first | rfl | (simp [errW_none, errW_some] <;> rfl) | (simp [*, errW_none, errW_some] <;> rfl), by repeat (first | (with_reducible first | exact HB.out | apply below_alloc | apply pw_below_drewN | apply below_drew1) | exact HB.out)⟩
                                  · rw [if_neg c31] at H
                                    have c31b0 : (x63_4 == 0) = false := beq_eq_false_iff_ne.mpr c31
                                    have c31b1 : (x63_4 != 0) = true := bne_iff_ne.mpr c31
                                    by_cases c35 : x63_4 > 0
                                    · rw [if_pos c35] at H
                                      have c35b0 : decide (0 < x63_4) = true := decide_eq_true c35
                                      clear c35
                                      by_cases c36 : (rd t447 x63_4) = 0
                                      · rw [if_pos c36] at H
                                        have c36b0 : ((rd t447 x63_4) == 0) = true := beq_iff_eq.mpr c36
                                        have c36b1 : ((rd t447 x63_4) != 0) = false := bne_eq_false_iff_eq.mpr c36
                                        clear c36
                                        have H' := Aside0.mk H
                                        clear H
                                        have p451 : 0 ≤ (x63_4 : Int) := of_decide_eq_true (by first | (with_reducible assumption) | assumption)
                                        have q451 : x63_4 < (t447.length : Int) := of_decide_eq_true (by first | (with_reducible assumption) | assumption)
                                        obtain ⟨ad451, e451, hx451_0⟩ := Kd.at_int (Kd.R_reads' HO_61.out).2.2 x63_4 p451 q451
                                        cases e451
                                        replace p451 := eq_true p451
                                        replace q451 := eq_true q451
                                        go_wp2
                                        repeat (go_quiet (fail); try go_wp2)
                                        go_roundg k4
                                        case measure => have := HJ3.out; have := HK2.out; have := HJ21.out; have := HK4.out; omega
                                        case rel => exact ⟨(wrap64 (x63_4 + 1)), (by first | rfl | (simp; done) | (simp [*]; done)), H', ⟨by have := HJ3.out; have := HK2.out; have := HJ21.out; have := HK4.out; omega⟩, ⟨by (try simp only [hl7_2]); (with_reducible repeat (first | apply Kd.R_alloc | apply Kd.R_drewN | apply Kd.R_drew)); exact HO_61.out⟩, ⟨by repeat (first | (with_reducible first | exact HB.out | apply below_alloc | apply pw_below_drewN | apply below_drew1) | exact HB.out)⟩⟩
                                      · rw [if_neg c36] at H
                                        have c36b0 : ((rd t447 x63_4) == 0) = false := beq_eq_false_iff_ne.mpr c36
                                        have c36b1 : ((rd t447 x63_4) != 0) = true := bne_iff_ne.mpr c36
                                        obtain rfl := Option.some.inj H
                                        have p451 : 0 ≤ (x63_4 : Int) := of_decide_eq_true (by first | (with_reducible assumption) | assumption)
                                        have q451 : x63_4 < (t447.length : Int) := of_decide_eq_true (by first | (with_reducible assumption) | assumption)
                                        obtain ⟨ad451, e451, hx451_0⟩ := Kd.at_int (Kd.R_reads' HO_61.out).2.2 x63_4 p451 q451
                                        cases e451
                                        replace p451 := eq_true p451
                                        replace q451 := eq_true q451
                                        go_wp2
                                        repeat (go_quiet (fail); try go_wp2)
                                        go_ret
                                        exact ⟨by first | rfl | (simp [errW_none, errW_some] <;> rfl) | (simp [*, errW_none, errW_some] <;> rfl), by repeat (first | (with_reducible first | exact HB.out | apply below_alloc | apply pw_below_drewN | apply below_drew1) | exact HB.out)⟩
                                    · rw [if_neg c35] at H
                                      have c35b0 : decide (0 < x63_4) = false := decide_eq_false c35
                                      clear c35
                                      have H' := Aside0.mk H
                                      clear H
                                      have p451 : 0 ≤ (x63_4 : Int) := of_decide_eq_true (by first | (with_reducible assumption) | assumption)
                                      have q451 : x63_4 < (t447.length : Int) := of_decide_eq_true (by first | (with_reducible assumption) | assumption)
                                      obtain ⟨ad451, e451, hx451_0⟩ := Kd.at_int (Kd.R_reads' HO_61.out).2.2 x63_4 p451 q451
                                      cases e451
                                      replace p451 := eq_true p451
                                      replace q451 := eq_true q451
                                      go_wp2
                                      repeat (go_quiet (fail); try go_wp2)
                                      go_roundg k4
                                      case measure => have := HJ3.out; have := HK2.out; have := HJ21.out; have := HK4.out; omega
                                      case rel => exact ⟨(wrap64 (x63_4 + 1)), (by first | rfl | (simp; done) | (simp [*]; done)), H', ⟨by have := HJ3.out; have := HK2.out; have := HJ21.out; have := HK4.out; omega⟩, ⟨by (try simp only [hl7_2]); (with_reducible repeat (first | apply Kd.R_alloc | apply Kd.R_drewN | apply Kd.R_drew)); exact HO_61.out⟩, ⟨by repeat (first | (with_reducible first | exact HB.out | apply below_alloc | apply pw_below_drewN | apply below_drew1) | exact HB.out)⟩⟩
                                · rw [if_neg c30] at H
                                  exact absurd H (by simp)
                              · rw [if_neg c29] at H
                                exact absurd H (by simp)
                            · rw [if_neg c28] at H
                              have c28b0 : decide (x63_4 < (t447.length : Int)) = false := decide_eq_false c28
                              clear c28
                              by_cases c37 : 0 ≤ (l0.length : Int)
                              · rw [if_pos c37] at H
                                have c37b0 := eq_true c37
                                have c37b1 : decide (0 ≤ (l0.length : Int)) = true := decide_eq_true c37
                                clear c37
                                by_cases c38 : ((l0.length : Int) : Int).toNat ≤ 35184372088832
                                · rw [if_pos c38] at H
                                  have c38b0 := eq_true c38
                                  have c38b1 : decide (((l0.length : Int) : Int).toNat ≤ 35184372088832) = true := decide_eq_true c38
                                  clear c38
                                  obtain ⟨y452, hy452⟩ : ∃ y_ : List Int, y_ = (List.replicate ((l0.length : Int) : Int).toNat 0) := ⟨_, rfl⟩
                                  replace H : ((linear_Reflect.f y452 (Int.tmod (wrap64 (a2)) 13)).bind fun bt455 => (if bt455.2 = 0 then (if 0 ≤ (Int.tmod (wrap64 (a2)) 13) then (if (Int.tmod (wrap64 (a2)) 13 : Int).toNat ≤ 35184372088832 then ((shawmref02_Ints.f k4 bt455.1 (List.replicate (Int.tmod (wrap64 (a2)) 13 : Int).toNat 0)).bind fun t462 => (shawmlaw14_LinearConstant.j4 k4 l0 (Int.tmod (wrap64 (a2)) 13) (!t462))) else (none)) else (none)) else (shawmlaw14_LinearConstant.j4 k4 l0 (Int.tmod (wrap64 (a2)) 13) true))) = some r := by first | (rw [hy452]; with_reducible exact H) | (have H2_ := (Option.bind_some _ _).symm.trans H; rw [hy452]; with_reducible exact H2_) | (have H2_ := (Option.bind_some _ _).symm.trans H; with_reducible exact H2_) | with_reducible exact H | (rw [hy452]; exact H) | exact H
                                  have Ny452 := Aside0.mk hy452
                                  clear hy452
                                  replace H := Option.bind_eq_some_iff.mp H
                                  obtain ⟨⟨t455, t456⟩, A390, H⟩ := H
                                  replace H : (if t456 = 0 then (if 0 ≤ (Int.tmod (wrap64 (a2)) 13) then (if (Int.tmod (wrap64 (a2)) 13 : Int).toNat ≤ 35184372088832 then ((shawmref02_Ints.f k4 t455 (List.replicate (Int.tmod (wrap64 (a2)) 13 : Int).toNat 0)).bind fun t462 => (shawmlaw14_LinearConstant.j4 k4 l0 (Int.tmod (wrap64 (a2)) 13) (!t462))) else (none)) else (none)) else (shawmlaw14_LinearConstant.j4 k4 l0 (Int.tmod (wrap64 (a2)) 13) true)) = some r := H
                                  have A39 := Aside0.mk A390
                                  clear A390
                                  have HC40 := Aside0.mk H
                                  clear H
                                  go_upto_region 20 with (first | ((with_reducible refine gate_dst (N := 90) rfl ?_); (try (refine gate_guard (by rfl) ?_; dsimp only)); refine Kd.R_make (Kd.int .i64) _ 3 rfl (N := 90) rfl 22 _ _ rfl (l0.length : Int) rfl rfl Try.underlying22 (.int .i64 0) 8 info3 rfl (by decide) (by omega) 0 (ok := fun _ => True) (okp := fun _ => True) rfl (fun _ hk => hk) trivial (of_decide_eq_true (by first | (with_reducible assumption) | assumption)) (Nat.le_trans (Nat.mul_le_mul_right _ (of_decide_eq_true (by first | (with_reducible assumption) | assumption) : (l0.length : Int).toNat ≤ 35184372088832)) (by omega)) (Below.refl _ _) (Nat.le_refl _) ?_; intro v453 w41 ho42 hb hg_ hnew_; clear hg_ hnew_; (first | rw [← Ny452.out] at ho42 | (simp only [Int.reduceToNat] at ho42; rw [← Ny452.out] at ho42)); have n0_ := Aside0.mk (Kd.R_elder' (by (with_reducible repeat (first | apply Kd.R_alloc | apply Kd.R_drewN | apply Kd.R_drew)); exact HO_61.out) (Kd.R_base ho42) hb); have n1_ := Aside0.mk (Kd.R_lower (Kd.R_new' ho42 (Kd.R_lt (by (with_reducible repeat (first | apply Kd.R_alloc | apply Kd.R_drewN | apply Kd.R_drew)); exact HO_61.out))) (below_size (by repeat (first | (with_reducible first | exact HB.out | apply below_alloc | apply pw_below_drewN | apply below_drew1) | exact HB.out)))); have n2_ := Aside0.mk (below_step (by repeat (first | (with_reducible first | exact HB.out | apply below_alloc | apply pw_below_drewN | apply below_drew1) | exact HB.out)) hb); clear HO_61; clear HB; have HO_61 := n0_; have HO454 := n1_; have HB := n2_; clear n0_ n1_ n2_; clear hb ho42; obtain ⟨Ao43, co43, eo43⟩ := Kd.R_slice HO454.out; subst eo43) | (go_at_call 16; (with_reducible refine (linear_Reflect.calls _ _ y452 (Int.tmod (wrap64 (a2)) 13) t455 t456 _ ?side1 ?side2 A39.out).mono ?_); (case side1 => repeat (first | exact (Kd.R_reads' HO454.out).2.2 | (with_reducible refine Kd.C_alloc ?_ _) | (with_reducible refine Kd.C_drewN ?_ _) | (with_reducible refine Kd.C_drew ?_))); (case side2 => exact (Kd.R_reads' HO454.out).2.1); rintro e w44 ⟨v457, rfl, ho0, hb⟩; have n0_ := Aside0.mk (Kd.R_elder' (by (with_reducible repeat (first | apply Kd.R_alloc | apply Kd.R_drewN | apply Kd.R_drew)); exact HO_61.out) (Kd.R_base ho0) hb); have n1_ := Aside0.mk (Kd.R_elder' (by (with_reducible repeat (first | apply Kd.R_alloc | apply Kd.R_drewN | apply Kd.R_drew)); exact HO454.out) (Kd.R_base ho0) hb); have n2_ := Aside0.mk (Kd.R_lower (Kd.R_new' (Kd.R_new' ho0 (Kd.R_lt (by (with_reducible repeat (first | apply Kd.R_alloc | apply Kd.R_drewN | apply Kd.R_drew)); exact HO_61.out))) (Kd.R_lt (by (with_reducible repeat (first | apply Kd.R_alloc | apply Kd.R_drewN | apply Kd.R_drew)); exact HO454.out))) (below_size (by repeat (first | (with_reducible first | exact HB.out | apply below_alloc | apply pw_below_drewN | apply below_drew1) | exact HB.out)))); have n3_ := Aside0.mk (below_step (by repeat (first | (with_reducible first | exact HB.out | apply below_alloc | apply pw_below_drewN | apply below_drew1) | exact HB.out)) hb); clear HO_61; clear HO454; clear HB; have HO_61 := n0_; have HO454 := n1_; have HO458 := n2_; have HB := n3_; clear n0_ n1_ n2_ n3_; (try clear hb); (try clear hb2); (try clear hk); (try clear hi); (try clear ho0)))
                                  repeat (go_quiet (first | ((with_reducible refine gate_dst (N := 90) rfl ?_); (try (refine gate_guard (by rfl) ?_; dsimp only)); refine Kd.R_make (Kd.int .i64) _ 3 rfl (N := 90) rfl 22 _ _ rfl (l0.length : Int) rfl rfl Try.underlying22 (.int .i64 0) 8 info3 rfl (by decide) (by omega) 0 (ok := fun _ => True) (okp := fun _ => True) rfl (fun _ hk => hk) trivial (of_decide_eq_true (by first | (with_reducible assumption) | assumption)) (Nat.le_trans (Nat.mul_le_mul_right _ (of_decide_eq_true (by first | (with_reducible assumption) | assumption) : (l0.length : Int).toNat ≤ 35184372088832)) (by omega)) (Below.refl _ _) (Nat.le_refl _) ?_; intro v453 w41 ho42 hb hg_ hnew_; clear hg_ hnew_; (first | rw [← Ny452.out] at ho42 | (simp only [Int.reduceToNat] at ho42; rw [← Ny452.out] at ho42)); have n0_ := Aside0.mk (Kd.R_elder' (by (with_reducible repeat (first | apply Kd.R_alloc | apply Kd.R_drewN | apply Kd.R_drew)); exact HO_61.out) (Kd.R_base ho42) hb); have n1_ := Aside0.mk (Kd.R_lower (Kd.R_new' ho42 (Kd.R_lt (by (with_reducible repeat (first | apply Kd.R_alloc | apply Kd.R_drewN | apply Kd.R_drew)); exact HO_61.out))) (below_size (by repeat (first | (with_reducible first | exact HB.out | apply below_alloc | apply pw_below_drewN | apply below_drew1) | exact HB.out)))); have n2_ := Aside0.mk (below_step (by repeat (first | (with_reducible first | exact HB.out | apply below_alloc | apply pw_below_drewN | apply below_drew1) | exact HB.out)) hb); clear HO_61; clear HB; have HO_61 := n0_; have HO454 := n1_; have HB := n2_; clear n0_ n1_ n2_; clear hb ho42; obtain ⟨Ao43, co43, eo43⟩ := Kd.R_slice HO454.out; subst eo43) | (go_at_call 16; (with_reducible refine (linear_Reflect.calls _ _ y452 (Int.tmod (wrap64 (a2)) 13) t455 t456 _ ?side1 ?side2 A39.out).mono ?_); (case side1 => repeat (first | exact (Kd.R_reads' HO454.out).2.2 | (with_reducible refine Kd.C_alloc ?_ _) | (with_reducible refine Kd.C_drewN ?_ _) | (with_reducible refine Kd.C_drew ?_))); (case side2 => exact (Kd.R_reads' HO454.out).2.1); rintro e w44 ⟨v457, rfl, ho0, hb⟩; have n0_ := Aside0.mk (Kd.R_elder' (by (with_reducible repeat (first | apply Kd.R_alloc | apply Kd.R_drewN | apply Kd.R_drew)); exact HO_61.out) (Kd.R_base ho0) hb); have n1_ := Aside0.mk (Kd.R_elder' (by (with_reducible repeat (first | apply Kd.R_alloc | apply Kd.R_drewN | apply Kd.R_drew)); exact HO454.out) (Kd.R_base ho0) hb); have n2_ := Aside0.mk (Kd.R_lower (Kd.R_new' (Kd.R_new' ho0 (Kd.R_lt (by (with_reducible repeat (first | apply Kd.R_alloc | apply Kd.R_drewN | apply Kd.R_drew)); exact HO_61.out))) (Kd.R_lt (by (with_reducible repeat (first | apply Kd.R_alloc | apply Kd.R_drewN | apply Kd.R_drew)); exact HO454.out))) (below_size (by repeat (first | (with_reducible first | exact HB.out | apply below_alloc | apply pw_below_drewN | apply below_drew1) | exact HB.out)))); have n3_ := Aside0.mk (below_step (by repeat (first | (with_reducible first | exact HB.out | apply below_alloc | apply pw_below_drewN | apply below_drew1) | exact HB.out)) hb); clear HO_61; clear HO454; clear HB; have HO_61 := n0_; have HO454 := n1_; have HO458 := n2_; have HB := n3_; clear n0_ n1_ n2_ n3_; (try clear hb); (try clear hb2); (try clear hk); (try clear hi); (try clear ho0))); go_upto_region 20 with (first | ((with_reducible refine gate_dst (N := 90) rfl ?_); (try (refine gate_guard (by rfl) ?_; dsimp only)); refine Kd.R_make (Kd.int .i64) _ 3 rfl (N := 90) rfl 22 _ _ rfl (l0.length : Int) rfl rfl Try.underlying22 (.int .i64 0) 8 info3 rfl (by decide) (by omega) 0 (ok := fun _ => True) (okp := fun _ => True) rfl (fun _ hk => hk) trivial (of_decide_eq_true (by first | (with_reducible assumption) | assumption)) (Nat.le_trans (Nat.mul_le_mul_right _ (of_decide_eq_true (by first | (with_reducible assumption) | assumption) : (l0.length : Int).toNat ≤ 35184372088832)) (by omega)) (Below.refl _ _) (Nat.le_refl _) ?_; intro v453 w41 ho42 hb hg_ hnew_; clear hg_ hnew_; (first | rw [← Ny452.out] at ho42 | (simp only [Int.reduceToNat] at ho42; rw [← Ny452.out] at ho42)); have n0_ := Aside0.mk (Kd.R_elder' (by (with_reducible repeat (first | apply Kd.R_alloc | apply Kd.R_drewN | apply Kd.R_drew)); exact HO_61.out) (Kd.R_base ho42) hb); have n1_ := Aside0.mk (Kd.R_lower (Kd.R_new' ho42 (Kd.R_lt (by (with_reducible repeat (first | apply Kd.R_alloc | apply Kd.R_drewN | apply Kd.R_drew)); exact HO_61.out))) (below_size (by repeat (first | (with_reducible first | exact HB.out | apply below_alloc | apply pw_below_drewN | apply below_drew1) | exact HB.out)))); have n2_ := Aside0.mk (below_step (by repeat (first | (with_reducible first | exact HB.out | apply below_alloc | apply pw_below_drewN | apply below_drew1) | exact HB.out)) hb); clear HO_61; clear HB; have HO_61 := n0_; have HO454 := n1_; have HB := n2_; clear n0_ n1_ n2_; clear hb ho42; obtain ⟨Ao43, co43, eo43⟩ := Kd.R_slice HO454.out; subst eo43) | (go_at_call 16; (with_reducible refine (linear_Reflect.calls _ _ y452 (Int.tmod (wrap64 (a2)) 13) t455 t456 _ ?side1 ?side2 A39.out).mono ?_); (case side1 => repeat (first | exact (Kd.R_reads' HO454.out).2.2 | (with_reducible refine Kd.C_alloc ?_ _) | (with_reducible refine Kd.C_drewN ?_ _) | (with_reducible refine Kd.C_drew ?_))); (case side2 => exact (Kd.R_reads' HO454.out).2.1); rintro e w44 ⟨v457, rfl, ho0, hb⟩; have n0_ := Aside0.mk (Kd.R_elder' (by (with_reducible repeat (first | apply Kd.R_alloc | apply Kd.R_drewN | apply Kd.R_drew)); exact HO_61.out) (Kd.R_base ho0) hb); have n1_ := Aside0.mk (Kd.R_elder' (by (with_reducible repeat (first | apply Kd.R_alloc | apply Kd.R_drewN | apply Kd.R_drew)); exact HO454.out) (Kd.R_base ho0) hb); have n2_ := Aside0.mk (Kd.R_lower (Kd.R_new' (Kd.R_new' ho0 (Kd.R_lt (by (with_reducible repeat (first | apply Kd.R_alloc | apply Kd.R_drewN | apply Kd.R_drew)); exact HO_61.out))) (Kd.R_lt (by (with_reducible repeat (first | apply Kd.R_alloc | apply Kd.R_drewN | apply Kd.R_drew)); exact HO454.out))) (below_size (by repeat (first | (with_reducible first | exact HB.out | apply below_alloc | apply pw_below_drewN | apply below_drew1) | exact HB.out)))); have n3_ := Aside0.mk (below_step (by repeat (first | (with_reducible first | exact HB.out | apply below_alloc | apply pw_below_drewN | apply below_drew1) | exact HB.out)) hb); clear HO_61; clear HO454; clear HB; have HO_61 := n0_; have HO454 := n1_; have HO458 := n2_; have HB := n3_; clear n0_ n1_ n2_ n3_; (try clear hb); (try clear hb2); (try clear hk); (try clear hi); (try clear ho0))))
                                  (try simp only [Act.put, List.setIfInBounds_toArray, List.set_cons_zero, List.set_cons_succ])
                                  go_cut [103] (fun v103 wc => ∃ (kq : Nat) (x103_39 : Bool), v103 = .bool x103_39 ∧ Aside0 (shawmlaw14_LinearConstant.j4 kq l0 (Int.tmod (wrap64 (a2)) 13) x103_39 = some r) ∧ Aside0 (kq ≤ k4) ∧ Aside0 (Below w.heap.size w wc))
                                  case first =>
                                    have H := HC40.out
                                    clear HC40
                                    by_cases c45 : t456 = 0
                                    · rw [if_pos c45] at H
                                      have c45b0 : (t456 == 0) = true := beq_iff_eq.mpr c45
                                      have c45b1 : (t456 != 0) = false := bne_eq_false_iff_eq.mpr c45
                                      clear c45
                                      (first | rw [c45b0] | (simp only [i64_w, i32_w]; rw [c45b0]) | skip)
                                      obtain ⟨ji46, hji46⟩ : ∃ j_ : Int, (Int.tmod (wrap64 (a2)) 13) = j_ := ⟨_, rfl⟩
                                      replace H : (if 0 ≤ (ji46) then (if (ji46 : Int).toNat ≤ 35184372088832 then ((shawmref02_Ints.f k4 t455 (List.replicate (ji46 : Int).toNat 0)).bind fun t462 => (shawmlaw14_LinearConstant.j4 k4 l0 ji46 (!t462))) else (none)) else (none)) = some r := by first | (rw [hji46] at H; exact H) | (simp only [hji46] at H ⊢; exact H)
                                      by_cases c47 : 0 ≤ (ji46)
                                      · rw [if_pos c47] at H
                                        have c47b0 := eq_true c47
                                        have c47b1 : decide (0 ≤ (ji46)) = true := decide_eq_true c47
                                        clear c47
                                        by_cases c48 : (ji46 : Int).toNat ≤ 35184372088832
                                        · rw [if_pos c48] at H
                                          have c48b0 := eq_true c48
                                          have c48b1 : decide ((ji46 : Int).toNat ≤ 35184372088832) = true := decide_eq_true c48
                                          clear c48
                                          obtain ⟨y459, hy459⟩ : ∃ y_ : List Int, y_ = (List.replicate (ji46 : Int).toNat 0) := ⟨_, rfl⟩
                                          replace H : ((shawmref02_Ints.f k4 t455 y459).bind fun t462 => (shawmlaw14_LinearConstant.j4 k4 l0 ji46 (!t462))) = some r := by first | (rw [hy459]; with_reducible exact H) | (have H2_ := (Option.bind_some _ _).symm.trans H; rw [hy459]; with_reducible exact H2_) | (have H2_ := (Option.bind_some _ _).symm.trans H; with_reducible exact H2_) | with_reducible exact H | (rw [hy459]; exact H) | exact H
                                          have Ny459 := Aside0.mk hy459
                                          clear hy459
                                          replace H := Option.bind_eq_some_iff.mp H
                                          obtain ⟨t462, A490, H⟩ := H
                                          replace H : (shawmlaw14_LinearConstant.j4 k4 l0 ji46 (!t462)) = some r := H
                                          have A49 := Aside0.mk A490
                                          clear A490
                                          have H' := Aside0.mk H
                                          clear H
                                          subst hji46
                                          go_wp2_with (first | ((with_reducible refine gate_dst (N := 100) rfl ?_); (try (refine gate_guard (by rfl) ?_; dsimp only)); refine Kd.R_make (Kd.int .i64) _ 3 rfl (N := 100) rfl 22 _ _ rfl (Int.tmod (wrap64 (a2)) 13) rfl rfl Try.underlying22 (.int .i64 0) 8 info3 rfl (by decide) (by omega) 0 (ok := fun _ => True) (okp := fun _ => True) rfl (fun _ hk => hk) trivial (of_decide_eq_true (by first | (with_reducible assumption) | assumption)) (Nat.le_trans (Nat.mul_le_mul_right _ (of_decide_eq_true (by first | (with_reducible assumption) | assumption) : (Int.tmod (wrap64 (a2)) 13).toNat ≤ 35184372088832)) (by omega)) (Below.refl _ _) (Nat.le_refl _) ?_; intro v460 w50 ho51 hb hg_ hnew_; clear hg_ hnew_; (first | rw [← Ny459.out] at ho51 | (simp only [Int.reduceToNat] at ho51; rw [← Ny459.out] at ho51)); have n0_ := Aside0.mk (Kd.R_elder' (by (with_reducible repeat (first | apply Kd.R_alloc | apply Kd.R_drewN | apply Kd.R_drew)); exact HO_61.out) (Kd.R_base ho51) hb); have n1_ := Aside0.mk (Kd.R_elder' (by (with_reducible repeat (first | apply Kd.R_alloc | apply Kd.R_drewN | apply Kd.R_drew)); exact HO454.out) (Kd.R_base ho51) hb); have n2_ := Aside0.mk (Kd.R_elder' (by (with_reducible repeat (first | apply Kd.R_alloc | apply Kd.R_drewN | apply Kd.R_drew)); exact HO458.out) (Kd.R_base ho51) hb); have n3_ := Aside0.mk (Kd.R_lower (Kd.R_new' (Kd.R_new' (Kd.R_new' ho51 (Kd.R_lt (by (with_reducible repeat (first | apply Kd.R_alloc | apply Kd.R_drewN | apply Kd.R_drew)); exact HO_61.out))) (Kd.R_lt (by (with_reducible repeat (first | apply Kd.R_alloc | apply Kd.R_drewN | apply Kd.R_drew)); exact HO454.out))) (Kd.R_lt (by (with_reducible repeat (first | apply Kd.R_alloc | apply Kd.R_drewN | apply Kd.R_drew)); exact HO458.out))) (below_size (by repeat (first | (with_reducible first | exact HB.out | apply below_alloc | apply pw_below_drewN | apply below_drew1) | exact HB.out)))); have n4_ := Aside0.mk (below_step (by repeat (first | (with_reducible first | exact HB.out | apply below_alloc | apply pw_below_drewN | apply below_drew1) | exact HB.out)) hb); clear HO_61; clear HO454; clear HO458; clear HB; have HO_61 := n0_; have HO454 := n1_; have HO458 := n2_; have HO461 := n3_; have HB := n4_; clear n0_ n1_ n2_ n3_ n4_; clear hb ho51; obtain ⟨Ao52, co52, eo52⟩ := Kd.R_slice HO458.out; subst eo52; obtain ⟨Ao53, co53, eo53⟩ := Kd.R_slice HO461.out; subst eo53) | (go_at_call 15; (with_reducible refine (shawmref02_Ints.calls k4 _ _ t455 _ _ y459 t462 _ ?side1 ?side2 ?side3 ?side4 A49.out).mono ?_); (case side1 => repeat (first | exact (Kd.R_reads' HO458.out).2.2 | (with_reducible refine Kd.C_alloc ?_ _) | (with_reducible refine Kd.C_drewN ?_ _) | (with_reducible refine Kd.C_drew ?_))); (case side2 => exact (Kd.R_reads' HO458.out).2.1); (case side3 => repeat (first | exact (Kd.R_reads' HO461.out).2.2 | (with_reducible refine Kd.C_alloc ?_ _) | (with_reducible refine Kd.C_drewN ?_ _) | (with_reducible refine Kd.C_drew ?_))); (case side4 => exact (Kd.R_reads' HO461.out).2.1); rintro e w' ⟨rfl, ⟨nd, rfl⟩⟩; (try first | exact ⟨rfl, _, World.drewN_drewN _ _ _⟩ | exact ⟨rfl, _, Eq.trans (World.drewN_drewN _ _ _) (congrArg (World.drewN _) (Nat.add_assoc _ _ _))⟩)))
                                          repeat (go_quiet (first | ((with_reducible refine gate_dst (N := 100) rfl ?_); (try (refine gate_guard (by rfl) ?_; dsimp only)); refine Kd.R_make (Kd.int .i64) _ 3 rfl (N := 100) rfl 22 _ _ rfl (Int.tmod (wrap64 (a2)) 13) rfl rfl Try.underlying22 (.int .i64 0) 8 info3 rfl (by decide) (by omega) 0 (ok := fun _ => True) (okp := fun _ => True) rfl (fun _ hk => hk) trivial (of_decide_eq_true (by first | (with_reducible assumption) | assumption)) (Nat.le_trans (Nat.mul_le_mul_right _ (of_decide_eq_true (by first | (with_reducible assumption) | assumption) : (Int.tmod (wrap64 (a2)) 13).toNat ≤ 35184372088832)) (by omega)) (Below.refl _ _) (Nat.le_refl _) ?_; intro v460 w50 ho51 hb hg_ hnew_; clear hg_ hnew_; (first | rw [← Ny459.out] at ho51 | (simp only [Int.reduceToNat] at ho51; rw [← Ny459.out] at ho51)); have n0_ := Aside0.mk (Kd.R_elder' (by (with_reducible repeat (first | apply Kd.R_alloc | apply Kd.R_drewN | apply Kd.R_drew)); exact HO_61.out) (Kd.R_base ho51) hb); have n1_ := Aside0.mk (Kd.R_elder' (by (with_reducible repeat (first | apply Kd.R_alloc | apply Kd.R_drewN | apply Kd.R_drew)); exact HO454.out) (Kd.R_base ho51) hb); have n2_ := Aside0.mk (Kd.R_elder' (by (with_reducible repeat (first | apply Kd.R_alloc | apply Kd.R_drewN | apply Kd.R_drew)); exact HO458.out) (Kd.R_base ho51) hb); have n3_ := Aside0.mk (Kd.R_lower (Kd.R_new' (Kd.R_new' (Kd.R_new' ho51 (Kd.R_lt (by (with_reducible repeat (first | apply Kd.R_alloc | apply Kd.R_drewN | apply Kd.R_drew)); exact HO_61.out))) (Kd.R_lt (by (with_reducible repeat (first | apply Kd.R_alloc | apply Kd.R_drewN | apply Kd.R_drew)); exact HO454.out))) (Kd.R_lt (by (with_reducible repeat (first | apply Kd.R_alloc | apply Kd.R_drewN | apply Kd.R_drew)); exact HO458.out))) (below_size (by repeat (first | (with_reducible first | exact HB.out | apply below_alloc | apply pw_below_drewN | apply below_drew1) | exact HB.out)))); have n4_ := Aside0.mk (below_step (by repeat (first | (with_reducible first | exact HB.out | apply below_alloc | apply pw_below_drewN | apply below_drew1) | exact HB.out)) hb); clear HO_61; clear HO454; clear HO458; clear HB; have HO_61 := n0_; have HO454 := n1_; have HO458 := n2_; have HO461 := n3_; have HB := n4_; clear n0_ n1_ n2_ n3_ n4_; clear hb ho51; obtain ⟨Ao52, co52, eo52⟩ := Kd.R_slice HO458.out; subst eo52; obtain ⟨Ao53, co53, eo53⟩ := Kd.R_slice HO461.out; subst eo53) | (go_at_call 15; (with_reducible refine (shawmref02_Ints.calls k4 _ _ t455 _ _ y459 t462 _ ?side1 ?side2 ?side3 ?side4 A49.out).mono ?_); (case side1 => repeat (first | exact (Kd.R_reads' HO458.out).2.2 | (with_reducible refine Kd.C_alloc ?_ _) | (with_reducible refine Kd.C_drewN ?_ _) | (with_reducible refine Kd.C_drew ?_))); (case side2 => exact (Kd.R_reads' HO458.out).2.1); (case side3 => repeat (first | exact (Kd.R_reads' HO461.out).2.2 | (with_reducible refine Kd.C_alloc ?_ _) | (with_reducible refine Kd.C_drewN ?_ _) | (with_reducible refine Kd.C_drew ?_))); (case side4 => exact (Kd.R_reads' HO461.out).2.1); rintro e w' ⟨rfl, ⟨nd, rfl⟩⟩; (try first | exact ⟨rfl, _, World.drewN_drewN _ _ _⟩ | exact ⟨rfl, _, Eq.trans (World.drewN_drewN _ _ _) (congrArg (World.drewN _) (Nat.add_assoc _ _ _))⟩))); try go_wp2_with (first | ((with_reducible refine gate_dst (N := 100) rfl ?_); (try (refine gate_guard (by rfl) ?_; dsimp only)); refine Kd.R_make (Kd.int .i64) _ 3 rfl (N := 100) rfl 22 _ _ rfl (Int.tmod (wrap64 (a2)) 13) rfl rfl Try.underlying22 (.int .i64 0) 8 info3 rfl (by decide) (by omega) 0 (ok := fun _ => True) (okp := fun _ => True) rfl (fun _ hk => hk) trivial (of_decide_eq_true (by first | (with_reducible assumption) | assumption)) (Nat.le_trans (Nat.mul_le_mul_right _ (of_decide_eq_true (by first | (with_reducible assumption) | assumption) : (Int.tmod (wrap64 (a2)) 13).toNat ≤ 35184372088832)) (by omega)) (Below.refl _ _) (Nat.le_refl _) ?_; intro v460 w50 ho51 hb hg_ hnew_; clear hg_ hnew_; (first | rw [← Ny459.out] at ho51 | (simp only [Int.reduceToNat] at ho51; rw [← Ny459.out] at ho51)); have n0_ := Aside0.mk (Kd.R_elder' (by (with_reducible repeat (first | apply Kd.R_alloc | apply Kd.R_drewN | apply Kd.R_drew)); exact HO_61.out) (Kd.R_base ho51) hb); have n1_ := Aside0.mk (Kd.R_elder' (by (with_reducible repeat (first | apply Kd.R_alloc | apply Kd.R_drewN | apply Kd.R_drew)); exact HO454.out) (Kd.R_base ho51) hb); have n2_ := Aside0.mk (Kd.R_elder' (by (with_reducible repeat (first | apply Kd.R_alloc | apply Kd.R_drewN | apply Kd.R_drew)); exact HO458.out) (Kd.R_base ho51) hb); have n3_ := Aside0.mk (Kd.R_lower (Kd.R_new' (Kd.R_new' (Kd.R_new' ho51 (Kd.R_lt (by (with_reducible repeat (first | apply Kd.R_alloc | apply Kd.R_drewN | apply Kd.R_drew)); exact HO_61.out))) (Kd.R_lt (by (with_reducible repeat (first | apply Kd.R_alloc | apply Kd.R_drewN | apply Kd.R_drew)); exact HO454.out))) (Kd.R_lt (by (with_reducible repeat (first | apply Kd.R_alloc | apply Kd.R_drewN | apply Kd.R_drew)); exact HO458.out))) (below_size (by repeat (first | (with_reducible first | exact HB.out | apply below_alloc | apply pw_below_drewN | apply below_drew1) | exact HB.out)))); have n4_ := Aside0.mk (below_step (by repeat (first | (with_reducible first | exact HB.out | apply below_alloc | apply pw_below_drewN | apply below_drew1) | exact HB.out)) hb); clear HO_61; clear HO454; clear HO458; clear HB; have HO_61 := n0_; have HO454 := n1_; have HO458 := n2_; have HO461 := n3_; have HB := n4_; clear n0_ n1_ n2_ n3_ n4_; clear hb ho51; obtain ⟨Ao52, co52, eo52⟩ := Kd.R_slice HO458.out; subst eo52; obtain ⟨Ao53, co53, eo53⟩ := Kd.R_slice HO461.out; subst eo53) | (go_at_call 15; (with_reducible refine (shawmref02_Ints.calls k4 _ _ t455 _ _ y459 t462 _ ?side1 ?side2 ?side3 ?side4 A49.out).mono ?_); (case side1 => repeat (first | exact (Kd.R_reads' HO458.out).2.2 | (with_reducible refine Kd.C_alloc ?_ _) | (with_reducible refine Kd.C_drewN ?_ _) | (with_reducible refine Kd.C_drew ?_))); (case side2 => exact (Kd.R_reads' HO458.out).2.1); (case side3 => repeat (first | exact (Kd.R_reads' HO461.out).2.2 | (with_reducible refine Kd.C_alloc ?_ _) | (with_reducible refine Kd.C_drewN ?_ _) | (with_reducible refine Kd.C_drew ?_))); (case side4 => exact (Kd.R_reads' HO461.out).2.1); rintro e w' ⟨rfl, ⟨nd, rfl⟩⟩; (try first | exact ⟨rfl, _, World.drewN_drewN _ _ _⟩ | exact ⟨rfl, _, Eq.trans (World.drewN_drewN _ _ _) (congrArg (World.drewN _) (Nat.add_assoc _ _ _))⟩))))
                                          go_meet
                                          case rel => exact ⟨_, (!t462), (by first | rfl | (simp; done) | (simp [*]; done)), H', ⟨by have := HJ3.out; have := HK2.out; have := HJ21.out; have := HK4.out; first | omega | exact Nat.le_refl _⟩, ⟨by repeat (first | (with_reducible first | exact HB.out | apply below_alloc | apply pw_below_drewN | apply below_drew1) | exact HB.out)⟩⟩
                                        · rw [if_neg c48] at H
                                          exact absurd H (by simp)
                                      · rw [if_neg c47] at H
                                        exact absurd H (by simp)
                                    · rw [if_neg c45] at H
                                      have c45b0 : (t456 == 0) = false := beq_eq_false_iff_ne.mpr c45
                                      have c45b1 : (t456 != 0) = true := bne_iff_ne.mpr c45
                                      (first | rw [c45b0] | (simp only [i64_w, i32_w]; rw [c45b0]) | skip)
                                      have H' := Aside0.mk H
                                      clear H
                                      go_wp2
                                      repeat (go_quiet (fail); try go_wp2)
                                      go_meet
                                      case rel => exact ⟨_, (true), (by first | rfl | (simp; done) | (simp [*]; done)), H', ⟨by have := HJ3.out; have := HK2.out; have := HJ21.out; have := HK4.out; first | omega | exact Nat.le_refl _⟩, ⟨by repeat (first | (with_reducible first | exact HB.out | apply below_alloc | apply pw_below_drewN | apply below_drew1) | exact HB.out)⟩⟩
                                  case rest =>
                                    clear HC40
                                    try clear c1
                                    try clear p1
                                    try clear q1
                                    try clear hx1
                                    try clear c2
                                    try clear p2
                                    try clear c3
                                    try clear c4
                                    try clear p4
                                    try clear q4
                                    try clear hx4
                                    try clear c5
                                    try clear c5b0
                                    try clear c5b1
                                    try clear c6
                                    try clear c6b0
                                    try clear p6
                                    try clear c7
                                    try clear c9
                                    try clear c10
                                    try clear c10b0
                                    try clear c10b1
                                    try clear c11
                                    try clear c11b0
                                    try clear c11b1
                                    try clear c15
                                    try clear c15b0
                                    try clear c16
                                    try clear c16b0
                                    try clear c17
                                    try clear c17b0
                                    try clear p18
                                    try clear q18
                                    try clear hx18
                                    try clear hf18
                                    try clear c24
                                    try clear c24b0
                                    try clear c24b1
                                    try clear c26
                                    try clear c28
                                    try clear c28b0
                                    try clear c29
                                    try clear c29b0
                                    try clear c30
                                    try clear c30b0
                                    try clear c31
                                    try clear c31b0
                                    try clear c31b1
                                    try clear c32
                                    try clear c32b0
                                    try clear c32b1
                                    try clear c33
                                    try clear c33b0
                                    try clear c34
                                    try clear c34b0
                                    try clear c34b1
                                    try clear c35
                                    try clear c35b0
                                    try clear c36
                                    try clear c36b0
                                    try clear c36b1
                                    try clear c37
                                    try clear c37b0
                                    try clear c37b1
                                    try clear c38
                                    try clear c38b0
                                    try clear c38b1
                                    try clear c45
                                    try clear c45b0
                                    try clear c45b1
                                    try clear p45
                                    try clear q45
                                    try clear hx45
                                    try clear c47
                                    try clear c47b0
                                    try clear c47b1
                                    try clear c48
                                    try clear c48b0
                                    try clear c48b1
                                    try clear hx18_0
                                    try clear hx451_0
                                    try clear p1
                                    try clear p18
                                    try clear p2
                                    try clear p451
                                    try clear p6
                                    try clear q1
                                    try clear q18
                                    try clear q451
                                    obtain ⟨kq, x103_39, rfl, HA, HJ39, HB⟩ := hcut
                                    cases kq with
                                    | zero => exact absurd HA.out (by simp [shawmlaw14_LinearConstant.j4])
                                    | succ kj39 =>
                                      have H := HA.out
                                      clear HA
                                      simp only [shawmlaw14_LinearConstant.j4] at H
                                      by_cases c54 : x103_39 = true
                                      · subst c54
                                        have H1 : (some false) = some r := by rw [if_pos rfl] at H; exact H
                                        clear H
                                        have H := H1
                                        clear H1
                                        obtain rfl := Option.some.inj H
                                        go_wp2
                                        repeat (go_quiet (fail); try go_wp2)
                                        go_ret
                                        exact ⟨by first | rfl | (simp [errW_none, errW_some] <;> rfl) | (simp [*, errW_none, errW_some] <;> rfl), by repeat (first | (with_reducible first | exact HB.out | apply below_alloc | apply pw_below_drewN | apply below_drew1) | exact HB.out)⟩
                                      · replace c54 := Bool.eq_false_iff.mpr c54
                                        subst c54
                                        have H1 : ((linear_Reflect.f l0 (Int.tmod (wrap64 (a2)) 13)).bind fun bt463 => (if bt463.2 = 0 then (shawmlaw14_LinearConstant.j5 kj39 l0 (Int.tmod (wrap64 (a2)) 13) bt463.1 ((Int.tmod (wrap64 (a2)) 13) == 0)) else (shawmlaw14_LinearConstant.j5 kj39 l0 (Int.tmod (wrap64 (a2)) 13) bt463.1 true))) = some r := by rw [if_neg (show ¬ (false = true) by decide)] at H; exact H
                                        clear H
                                        have H := H1
                                        clear H1
                                        replace H := Option.bind_eq_some_iff.mp H
                                        obtain ⟨⟨t463, t464⟩, A550, H⟩ := H
                                        replace H : (if t464 = 0 then (shawmlaw14_LinearConstant.j5 kj39 l0 (Int.tmod (wrap64 (a2)) 13) t463 ((Int.tmod (wrap64 (a2)) 13) == 0)) else (shawmlaw14_LinearConstant.j5 kj39 l0 (Int.tmod (wrap64 (a2)) 13) t463 true)) = some r := H
                                        have A55 := Aside0.mk A550
                                        clear A550
                                        have HC56 := Aside0.mk H
                                        clear H
                                        go_upto_region 23 with (first | (go_at_call 16; (with_reducible refine (linear_Reflect.calls _ _ l0 (Int.tmod (wrap64 (a2)) 13) t463 t464 _ ?side1 ?side2 A55.out).mono ?_); (case side1 => repeat (first | exact (Kd.C_below HR0.out HB.out) | (with_reducible refine Kd.C_alloc ?_ _) | (with_reducible refine Kd.C_drewN ?_ _) | (with_reducible refine Kd.C_drew ?_))); (case side2 => exact HC0.out); rintro e w57 ⟨v465, rfl, ho0, hb⟩; have n0_ := Aside0.mk (Kd.R_lower ho0 (below_size (by repeat (first | (with_reducible first | exact HB.out | apply below_alloc | apply pw_below_drewN | apply below_drew1) | exact HB.out)))); have n1_ := Aside0.mk (below_step (by repeat (first | (with_reducible first | exact HB.out | apply below_alloc | apply pw_below_drewN | apply below_drew1) | exact HB.out)) hb); clear HB; have HO466 := n0_; have HB := n1_; clear n0_ n1_; (try clear hb); (try clear hb2); (try clear hk); (try clear hi); (try clear ho0)))
                                        repeat (go_quiet (first | (go_at_call 16; (with_reducible refine (linear_Reflect.calls _ _ l0 (Int.tmod (wrap64 (a2)) 13) t463 t464 _ ?side1 ?side2 A55.out).mono ?_); (case side1 => repeat (first | exact (Kd.C_below HR0.out HB.out) | (with_reducible refine Kd.C_alloc ?_ _) | (with_reducible refine Kd.C_drewN ?_ _) | (with_reducible refine Kd.C_drew ?_))); (case side2 => exact HC0.out); rintro e w57 ⟨v465, rfl, ho0, hb⟩; have n0_ := Aside0.mk (Kd.R_lower ho0 (below_size (by repeat (first | (with_reducible first | exact HB.out | apply below_alloc | apply pw_below_drewN | apply below_drew1) | exact HB.out)))); have n1_ := Aside0.mk (below_step (by repeat (first | (with_reducible first | exact HB.out | apply below_alloc | apply pw_below_drewN | apply below_drew1) | exact HB.out)) hb); clear HB; have HO466 := n0_; have HB := n1_; clear n0_ n1_; (try clear hb); (try clear hb2); (try clear hk); (try clear hi); (try clear ho0))); go_upto_region 23 with (first | (go_at_call 16; (with_reducible refine (linear_Reflect.calls _ _ l0 (Int.tmod (wrap64 (a2)) 13) t463 t464 _ ?side1 ?side2 A55.out).mono ?_); (case side1 => repeat (first | exact (Kd.C_below HR0.out HB.out) | (with_reducible refine Kd.C_alloc ?_ _) | (with_reducible refine Kd.C_drewN ?_ _) | (with_reducible refine Kd.C_drew ?_))); (case side2 => exact HC0.out); rintro e w57 ⟨v465, rfl, ho0, hb⟩; have n0_ := Aside0.mk (Kd.R_lower ho0 (below_size (by repeat (first | (with_reducible first | exact HB.out | apply below_alloc | apply pw_below_drewN | apply below_drew1) | exact HB.out)))); have n1_ := Aside0.mk (below_step (by repeat (first | (with_reducible first | exact HB.out | apply below_alloc | apply pw_below_drewN | apply below_drew1) | exact HB.out)) hb); clear HB; have HO466 := n0_; have HB := n1_; clear n0_ n1_; (try clear hb); (try clear hb2); (try clear hk); (try clear hi); (try clear ho0))))
                                        (try simp only [Act.put, List.setIfInBounds_toArray, List.set_cons_zero, List.set_cons_succ])
                                        go_cut [115] (fun v115 wc => ∃ (kq : Nat) (x115_55 : Bool), v115 = .bool x115_55 ∧ Aside0 (shawmlaw14_LinearConstant.j5 kq l0 (Int.tmod (wrap64 (a2)) 13) t463 x115_55 = some r) ∧ Aside0 (kq ≤ kj39) ∧ Aside0 (Kd.R (Kd.int .i64) 3 wc w.heap.size (fun _ => True) v465 t463) ∧ Aside0 (Below w.heap.size w wc))
                                        case first =>
                                          have H := HC56.out
                                          clear HC56
                                          by_cases c58 : t464 = 0
                                          · rw [if_pos c58] at H
                                            have c58b0 : (t464 == 0) = true := beq_iff_eq.mpr c58
                                            have c58b1 : (t464 != 0) = false := bne_eq_false_iff_eq.mpr c58
                                            clear c58
                                            (first | rw [c58b0] | (simp only [i64_w, i32_w]; rw [c58b0]) | skip)
                                            have H' := Aside0.mk H
                                            clear H
                                            go_wp2
                                            repeat (go_quiet (fail); try go_wp2)
                                            go_meet
                                            case rel => exact ⟨_, (((Int.tmod (wrap64 (a2)) 13) == 0)), (by first | rfl | (simp; done) | (simp [*]; done)), H', ⟨by have := HJ3.out; have := HK2.out; have := HJ21.out; have := HK4.out; have := HJ39.out; first | omega | exact Nat.le_refl _⟩, ⟨by (try simp only [hl7_2]); (with_reducible repeat (first | apply Kd.R_alloc | apply Kd.R_drewN | apply Kd.R_drew)); exact HO466.out⟩, ⟨by repeat (first | (with_reducible first | exact HB.out | apply below_alloc | apply pw_below_drewN | apply below_drew1) | exact HB.out)⟩⟩
                                          · rw [if_neg c58] at H
                                            have c58b0 : (t464 == 0) = false := beq_eq_false_iff_ne.mpr c58
                                            have c58b1 : (t464 != 0) = true := bne_iff_ne.mpr c58
                                            (first | rw [c58b0] | (simp only [i64_w, i32_w]; rw [c58b0]) | skip)
                                            have H' := Aside0.mk H
                                            clear H
                                            go_wp2
                                            repeat (go_quiet (fail); try go_wp2)
                                            go_meet
                                            case rel => exact ⟨_, (true), (by first | rfl | (simp; done) | (simp [*]; done)), H', ⟨by have := HJ3.out; have := HK2.out; have := HJ21.out; have := HK4.out; have := HJ39.out; first | omega | exact Nat.le_refl _⟩, ⟨by (try simp only [hl7_2]); (with_reducible repeat (first | apply Kd.R_alloc | apply Kd.R_drewN | apply Kd.R_drew)); exact HO466.out⟩, ⟨by repeat (first | (with_reducible first | exact HB.out | apply below_alloc | apply pw_below_drewN | apply below_drew1) | exact HB.out)⟩⟩
                                        case rest =>
                                          clear HC56
                                          try clear c1
                                          try clear p1
                                          try clear q1
                                          try clear hx1
                                          try clear c2
                                          try clear p2
                                          try clear c3
                                          try clear c4
                                          try clear p4
                                          try clear q4
                                          try clear hx4
                                          try clear c5
                                          try clear c5b0
                                          try clear c5b1
                                          try clear c6
                                          try clear c6b0
                                          try clear p6
                                          try clear c7
                                          try clear c9
                                          try clear c10
                                          try clear c10b0
                                          try clear c10b1
                                          try clear c11
                                          try clear c11b0
                                          try clear c11b1
                                          try clear c15
                                          try clear c15b0
                                          try clear c16
                                          try clear c16b0
                                          try clear c17
                                          try clear c17b0
                                          try clear p18
                                          try clear q18
                                          try clear hx18
                                          try clear hf18
                                          try clear c24
                                          try clear c24b0
                                          try clear c24b1
                                          try clear c26
                                          try clear c28
                                          try clear c28b0
                                          try clear c29
                                          try clear c29b0
                                          try clear c30
                                          try clear c30b0
                                          try clear c31
                                          try clear c31b0
                                          try clear c31b1
                                          try clear c32
                                          try clear c32b0
                                          try clear c32b1
                                          try clear c33
                                          try clear c33b0
                                          try clear c34
                                          try clear c34b0
                                          try clear c34b1
                                          try clear c35
                                          try clear c35b0
                                          try clear c36
                                          try clear c36b0
                                          try clear c36b1
                                          try clear c37
                                          try clear c37b0
                                          try clear c37b1
                                          try clear c38
                                          try clear c38b0
                                          try clear c38b1
                                          try clear c45
                                          try clear c45b0
                                          try clear c45b1
                                          try clear p45
                                          try clear q45
                                          try clear hx45
                                          try clear c47
                                          try clear c47b0
                                          try clear c47b1
                                          try clear c48
                                          try clear c48b0
                                          try clear c48b1
                                          try clear c54
                                          try clear c58
                                          try clear c58b0
                                          try clear c58b1
                                          try clear hx18_0
                                          try clear hx451_0
                                          try clear p1
                                          try clear p18
                                          try clear p2
                                          try clear p4
                                          try clear p45
                                          try clear p451
                                          try clear p6
                                          try clear q1
                                          try clear q18
                                          try clear q4
                                          try clear q45
                                          try clear q451
                                          obtain ⟨kq, x115_55, rfl, HA, HJ55, HO_16, HB⟩ := hcut
                                          cases kq with
                                          | zero => exact absurd HA.out (by simp [shawmlaw14_LinearConstant.j5])
                                          | succ kj55 =>
                                            have H := HA.out
                                            clear HA
                                            simp only [shawmlaw14_LinearConstant.j5] at H
                                            by_cases c59 : x115_55 = true
                                            · subst c59
                                              have H1 : ((shawmlaw14_awake.f).bind fun t467 => (some t467)) = some r := by rw [if_pos rfl] at H; exact H
                                              clear H
                                              have H := H1
                                              clear H1
                                              replace H := Option.bind_eq_some_iff.mp H
                                              obtain ⟨t467, A600, H⟩ := H
                                              replace H : (some t467) = some r := H
                                              have A60 := Aside0.mk A600
                                              clear A600
                                              obtain rfl := Option.some.inj H
                                              go_wp2_with (first | (go_at_call 10; (with_reducible refine (shawmlaw14_awake.calls  t467 _ A60.out).mono ?_); rintro e w61 ⟨rfl, hb⟩; have n0_ := Aside0.mk (Kd.R_below (by (with_reducible repeat (first | apply Kd.R_alloc | apply Kd.R_drewN | apply Kd.R_drew)); exact HO_16.out) hb); have n1_ := Aside0.mk (below_step (by repeat (first | (with_reducible first | exact HB.out | apply below_alloc | apply pw_below_drewN | apply below_drew1) | exact HB.out)) hb); clear HO_16; clear HB; have HO_16 := n0_; have HB := n1_; clear n0_ n1_; (try clear hb); (try clear hb2); (try clear hk); (try clear hi)))
                                              repeat (go_quiet (first | (go_at_call 10; (with_reducible refine (shawmlaw14_awake.calls  t467 _ A60.out).mono ?_); rintro e w61 ⟨rfl, hb⟩; have n0_ := Aside0.mk (Kd.R_below (by (with_reducible repeat (first | apply Kd.R_alloc | apply Kd.R_drewN | apply Kd.R_drew)); exact HO_16.out) hb); have n1_ := Aside0.mk (below_step (by repeat (first | (with_reducible first | exact HB.out | apply below_alloc | apply pw_below_drewN | apply below_drew1) | exact HB.out)) hb); clear HO_16; clear HB; have HO_16 := n0_; have HB := n1_; clear n0_ n1_; (try clear hb); (try clear hb2); (try clear hk); (try clear hi))); try go_wp2_with (first | (go_at_call 10; (with_reducible refine (shawmlaw14_awake.calls  t467 _ A60.out).mono ?_); rintro e w61 ⟨rfl, hb⟩; have n0_ := Aside0.mk (Kd.R_below (by (with_reducible repeat (first | apply Kd.R_alloc | apply Kd.R_drewN | apply Kd.R_drew)); exact HO_16.out) hb); have n1_ := Aside0.mk (below_step (by repeat (first | (with_reducible first | exact HB.out | apply below_alloc | apply pw_below_drewN | apply below_drew1) | exact HB.out)) hb); clear HO_16; clear HB; have HO_16 := n0_; have HB := n1_; clear n0_ n1_; (try clear hb); (try clear hb2); (try clear hk); (try clear hi))))
                                              go_ret
                                              exact ⟨by first | rfl | (simp [errW_none, errW_some] <;> rfl) | (simp [*, errW_none, errW_some] <;> rfl), by repeat (first | (with_reducible first | exact HB.out | apply below_alloc | apply pw_below_drewN | apply below_drew1) | exact HB.out)⟩
                                            · replace c59 := Bool.eq_false_iff.mpr c59
                                              subst c59
                                              have H1 : (shawmlaw14_LinearConstant.l2 kj55 l0 (Int.tmod (wrap64 (a2)) 13) t463 0 0) = some r := by rw [if_neg (show ¬ (false = true) by decide)] at H; exact H
                                              clear H
                                              have H := H1
                                              clear H1
                                              have H' := Aside0.mk H
                                              clear H
                                              go_wp2
                                              repeat (go_quiet (fail); try go_wp2)
                                              go_loopg [18, 19] kj55 (fun kq v18 v19 w' => ∃ (x18_7 : Int) (x19_7 : Int), v18 = .int .i64 x18_7 ∧ v19 = .int .i64 x19_7 ∧ Aside0 (shawmlaw14_LinearConstant.l2 kq l0 (Int.tmod (wrap64 (a2)) 13) t463 x18_7 x19_7 = some r) ∧ Aside0 (kq ≤ kj55) ∧ Aside0 (Kd.R (Kd.int .i64) 3 w' w.heap.size (fun _ => True) v465 t463) ∧ Aside0 (Below w.heap.size w w'))
                                              case atStart => exact ⟨(0), (0), (by first | rfl | (simp; done) | (simp [*]; done)), (by first | rfl | (simp; done) | (simp [*]; done)), H', ⟨Nat.le_refl _⟩, ⟨by (try simp only [hl7_2]); (with_reducible repeat (first | apply Kd.R_alloc | apply Kd.R_drewN | apply Kd.R_drew)); exact HO_16.out⟩, ⟨by repeat (first | (with_reducible first | exact HB.out | apply below_alloc | apply pw_below_drewN | apply below_drew1) | exact HB.out)⟩⟩
                                              case round =>
                                                clear H'
                                                try clear c1
                                                try clear p1
                                                try clear q1
                                                try clear hx1
                                                try clear c2
                                                try clear p2
                                                try clear c3
                                                try clear c4
                                                try clear p4
                                                try clear q4
                                                try clear hx4
                                                try clear c5
                                                try clear c5b0
                                                try clear c5b1
                                                try clear c6
                                                try clear c6b0
                                                try clear p6
                                                try clear c7
                                                try clear c9
                                                try clear c10
                                                try clear c10b0
                                                try clear c10b1
                                                try clear c11
                                                try clear c11b0
                                                try clear c11b1
                                                try clear c15
                                                try clear c15b0
                                                try clear c16
                                                try clear c16b0
                                                try clear c17
                                                try clear c17b0
                                                try clear p18
                                                try clear q18
                                                try clear hx18
                                                try clear hf18
                                                try clear c24
                                                try clear c24b0
                                                try clear c24b1
                                                try clear c26
                                                try clear c28
                                                try clear c28b0
                                                try clear c29
                                                try clear c29b0
                                                try clear c30
                                                try clear c30b0
                                                try clear c31
                                                try clear c31b0
                                                try clear c31b1
                                                try clear c32
                                                try clear c32b0
                                                try clear c32b1
                                                try clear c33
                                                try clear c33b0
                                                try clear c34
                                                try clear c34b0
                                                try clear c34b1
                                                try clear c35
                                                try clear c35b0
                                                try clear c36
                                                try clear c36b0
                                                try clear c36b1
                                                try clear c37
                                                try clear c37b0
                                                try clear c37b1
                                                try clear c38
                                                try clear c38b0
                                                try clear c38b1
                                                try clear c45
                                                try clear c45b0
                                                try clear c45b1
                                                try clear p45
                                                try clear q45
                                                try clear hx45
                                                try clear c47
                                                try clear c47b0
                                                try clear c47b1
                                                try clear c48
                                                try clear c48b0
                                                try clear c48b1
                                                try clear c54
                                                try clear c58
                                                try clear c58b0
                                                try clear c58b1
                                                try clear c59
                                                try clear hx18_0
                                                try clear hx451_0
                                                try clear p1
                                                try clear p18
                                                try clear p2
                                                try clear p4
                                                try clear p45
                                                try clear p451
                                                try clear p6
                                                try clear q1
                                                try clear q18
                                                try clear q4
                                                try clear q45
                                                try clear q451
                                                obtain ⟨x18_7, x19_7, rfl, rfl, HA, HK7, HO_16, HB⟩ := hrel
                                                cases gk with
                                                | zero => exact absurd HA.out (by simp [shawmlaw14_LinearConstant.l2])
                                                | succ k7 =>
                                                  have H := HA.out
                                                  clear HA
                                                  simp only [shawmlaw14_LinearConstant.l2] at H
                                                  by_cases c62 : (wrap64 (x19_7 + 1)) < (l0.length : Int)
                                                  · rw [if_pos c62] at H
                                                    have c62b0 : decide ((wrap64 (x19_7 + 1)) < (l0.length : Int)) = true := decide_eq_true c62
                                                    clear c62
                                                    by_cases c63 : 0 ≤ x19_7
                                                    · rw [if_pos c63] at H
                                                      have c63b0 : decide (0 ≤ x19_7) = true := decide_eq_true c63
                                                      clear c63
                                                      by_cases c64 : x19_7 < (l0.length : Int)
                                                      · rw [if_pos c64] at H
                                                        have c64b0 : decide (x19_7 < (l0.length : Int)) = true := decide_eq_true c64
                                                        clear c64
                                                        obtain ⟨ji65, hji65⟩ : ∃ j_ : Int, (wrap64 (x19_7 + 1)) = j_ := ⟨_, rfl⟩
                                                        replace H : (if 0 ≤ (ji65) then (shawmlaw14_LinearConstant.l2 k7 l0 (Int.tmod (wrap64 (a2)) 13) t463 (wrap64 (x18_7 + (wrap64 ((rd l0 x19_7) * (rd l0 (ji65)))))) ji65) else (none)) = some r := by first | (rw [hji65] at H; exact H) | (simp only [hji65] at H ⊢; exact H)
                                                        (try rw [hji65] at c62b0)
                                                        have hji65w : (IntKind.i64.wrap (x19_7 + 1)) = ji65 := (i64_w _).trans hji65
                                                        by_cases c66 : 0 ≤ (ji65)
                                                        · rw [if_pos c66] at H
                                                          have c66b0 : decide (0 ≤ (ji65)) = true := decide_eq_true c66
                                                          clear c66
                                                          have H' := Aside0.mk H
                                                          clear H
                                                          have p468 : 0 ≤ (x19_7 : Int) := of_decide_eq_true (by first | (with_reducible assumption) | assumption)
                                                          have q468 : x19_7 < (l0.length : Int) := of_decide_eq_true (by first | (with_reducible assumption) | assumption)
                                                          obtain ⟨ad468, e468, hx468_0⟩ := Kd.at_int HR0.out x19_7 p468 q468
                                                          cases e468
                                                          replace hx468_0 := (HB.out.cell (World.block_lt_of_cell? w _ hx468_0)).trans hx468_0
                                                          replace p468 := eq_true p468
                                                          replace q468 := eq_true q468
                                                          have p469 : 0 ≤ ((ji65) : Int) := of_decide_eq_true (by first | (with_reducible assumption) | assumption)
                                                          have q469 : (ji65) < (l0.length : Int) := of_decide_eq_true (by first | (with_reducible assumption) | assumption)
                                                          obtain ⟨ad469, e469, hx469_0⟩ := Kd.at_int HR0.out (ji65) p469 q469
                                                          obtain rfl : ad468 = ad469 := (by injection e469)
                                                          replace hx469_0 := (HB.out.cell (World.block_lt_of_cell? w _ hx469_0)).trans hx469_0
                                                          replace p469 := eq_true p469
                                                          replace q469 := eq_true q469
                                                          go_wp2
                                                          repeat (go_quiet (fail); try go_wp2)
                                                          go_roundg k7
                                                          case measure => have := HJ3.out; have := HK2.out; have := HJ21.out; have := HK4.out; have := HJ39.out; have := HJ55.out; have := HK7.out; omega
                                                          case rel => exact ⟨(wrap64 (x18_7 + (wrap64 ((rd l0 x19_7) * (rd l0 (ji65)))))), (ji65), (by first | rfl | (simp; done) | (simp only [← hji65] <;> (first | rfl | simp)) | (simp [*]; done)), (by first | rfl | (simp; done) | (simp only [← hji65] <;> (first | rfl | simp)) | (simp [*]; done)), H', ⟨by have := HJ3.out; have := HK2.out; have := HJ21.out; have := HK4.out; have := HJ39.out; have := HJ55.out; have := HK7.out; omega⟩, ⟨by (try simp only [hl7_2]); (with_reducible repeat (first | apply Kd.R_alloc | apply Kd.R_drewN | apply Kd.R_drew)); exact HO_16.out⟩, ⟨by repeat (first | (with_reducible first | exact HB.out | apply below_alloc | apply pw_below_drewN | apply below_drew1) | exact HB.out)⟩⟩
                                                        · rw [if_neg c66] at H
                                                          exact absurd H (by simp)
                                                      · rw [if_neg c64] at H
                                                        exact absurd H (by simp)
                                                    · rw [if_neg c63] at H
                                                      exact absurd H (by simp)
                                                  · rw [if_neg c62] at H
                                                    have c62b0 : decide ((wrap64 (x19_7 + 1)) < (l0.length : Int)) = false := decide_eq_false c62
                                                    clear c62
                                                    have H' := Aside0.mk H
                                                    clear H
                                                    obtain ⟨Ao67, co67, eo67⟩ := Kd.R_slice HO_16.out
                                                    subst eo67
                                                    go_wp2
                                                    repeat (go_quiet (fail); try go_wp2)
                                                    go_loopg [138] k7 (fun kq v138 w' => ∃ (x138_8 : Int), v138 = .int .i64 x138_8 ∧ Aside0 (shawmlaw14_LinearConstant.l3 kq (Int.tmod (wrap64 (a2)) 13) t463 x18_7 t463 (t463.length : Int) x138_8 = some r) ∧ Aside0 (kq ≤ k7) ∧ Aside0 (Kd.R (Kd.int .i64) 3 w' w.heap.size (fun _ => True) (.slice Ao67 t463.length co67) t463) ∧ Aside0 (Kd.R (Kd.int .i64) 3 w' w.heap.size (fun _ => True) (.slice Ao67 t463.length co67) t463) ∧ Aside0 (Below w.heap.size w w'))
                                                    case atStart => exact ⟨(0), (by first | rfl | (simp; done) | (simp [*]; done)), H', ⟨Nat.le_refl _⟩, ⟨by (try simp only [hl7_2]); (with_reducible repeat (first | apply Kd.R_alloc | apply Kd.R_drewN | apply Kd.R_drew)); exact HO_16.out⟩, ⟨by (try simp only [hl7_2]); (with_reducible repeat (first | apply Kd.R_alloc | apply Kd.R_drewN | apply Kd.R_drew)); exact HO_16.out⟩, ⟨by repeat (first | (with_reducible first | exact HB.out | apply below_alloc | apply pw_below_drewN | apply below_drew1) | exact HB.out)⟩⟩
                                                    case round =>
                                                      clear H'
                                                      try clear c1
                                                      try clear p1
                                                      try clear q1
                                                      try clear hx1
                                                      try clear c2
                                                      try clear p2
                                                      try clear c3
                                                      try clear c4
                                                      try clear p4
                                                      try clear q4
                                                      try clear hx4
                                                      try clear c5
                                                      try clear c5b0
                                                      try clear c5b1
                                                      try clear c6
                                                      try clear c6b0
                                                      try clear p6
                                                      try clear c7
                                                      try clear c9
                                                      try clear c10
                                                      try clear c10b0
                                                      try clear c10b1
                                                      try clear c11
                                                      try clear c11b0
                                                      try clear c11b1
                                                      try clear c15
                                                      try clear c15b0
                                                      try clear c16
                                                      try clear c16b0
                                                      try clear c17
                                                      try clear c17b0
                                                      try clear p18
                                                      try clear q18
                                                      try clear hx18
                                                      try clear hf18
                                                      try clear c24
                                                      try clear c24b0
                                                      try clear c24b1
                                                      try clear c26
                                                      try clear c28
                                                      try clear c28b0
                                                      try clear c29
                                                      try clear c29b0
                                                      try clear c30
                                                      try clear c30b0
                                                      try clear c31
                                                      try clear c31b0
                                                      try clear c31b1
                                                      try clear c32
                                                      try clear c32b0
                                                      try clear c32b1
                                                      try clear c33
                                                      try clear c33b0
                                                      try clear c34
                                                      try clear c34b0
                                                      try clear c34b1
                                                      try clear c35
                                                      try clear c35b0
                                                      try clear c36
                                                      try clear c36b0
                                                      try clear c36b1
                                                      try clear c37
                                                      try clear c37b0
                                                      try clear c37b1
                                                      try clear c38
                                                      try clear c38b0
                                                      try clear c38b1
                                                      try clear c45
                                                      try clear c45b0
                                                      try clear c45b1
                                                      try clear p45
                                                      try clear q45
                                                      try clear hx45
                                                      try clear p46
                                                      try clear q46
                                                      try clear hx46
                                                      try clear c47
                                                      try clear c47b0
                                                      try clear c47b1
                                                      try clear c48
                                                      try clear c48b0
                                                      try clear c48b1
                                                      try clear c54
                                                      try clear c58
                                                      try clear c58b0
                                                      try clear c58b1
                                                      try clear c59
                                                      try clear c62
                                                      try clear c62b0
                                                      try clear c63
                                                      try clear c63b0
                                                      try clear c64
                                                      try clear c64b0
                                                      try clear p64
                                                      try clear c66
                                                      try clear c66b0
                                                      try clear hx18_0
                                                      try clear hx451_0
                                                      try clear hx468_0
                                                      try clear hx469_0
                                                      try clear p1
                                                      try clear p18
                                                      try clear p2
                                                      try clear p4
                                                      try clear p45
                                                      try clear p451
                                                      try clear p468
                                                      try clear p469
                                                      try clear p6
                                                      try clear q1
                                                      try clear q18
                                                      try clear q4
                                                      try clear q45
                                                      try clear q451
                                                      try clear q468
                                                      try clear q469
                                                      obtain ⟨x138_8, rfl, HA, HK8, HO_16, HO_136, HB⟩ := hrel
                                                      cases gk with
                                                      | zero => exact absurd HA.out (by simp [shawmlaw14_LinearConstant.l3])
                                                      | succ k8 =>
                                                        have H := HA.out
                                                        clear HA
                                                        simp only [shawmlaw14_LinearConstant.l3] at H
                                                        by_cases c68 : x138_8 < (t463.length : Int)
                                                        · rw [if_pos c68] at H
                                                          have c68b0 : decide (x138_8 < (t463.length : Int)) = true := decide_eq_true c68
                                                          clear c68
                                                          by_cases c69 : 0 ≤ x138_8
                                                          · rw [if_pos c69] at H
                                                            have c69b0 : decide (0 ≤ x138_8) = true := decide_eq_true c69
                                                            clear c69
                                                            by_cases c70 : x138_8 < (t463.length : Int)
                                                            · rw [if_pos c70] at H
                                                              have c70b0 : decide (x138_8 < (t463.length : Int)) = true := decide_eq_true c70
                                                              clear c70
                                                              by_cases c71 : (rd t463 x138_8) < (-127)
                                                              · rw [if_pos c71] at H
                                                                have c71b0 : decide ((rd t463 x138_8) < (-127)) = true := decide_eq_true c71
                                                                clear c71
                                                                obtain rfl := Option.some.inj H
                                                                have p470 : 0 ≤ (x138_8 : Int) := of_decide_eq_true (by first | (with_reducible assumption) | assumption)
                                                                have q470 : x138_8 < (t463.length : Int) := of_decide_eq_true (by first | (with_reducible assumption) | assumption)
                                                                obtain ⟨ad470, e470, hx470_0⟩ := Kd.at_int (Kd.R_reads' HO_136.out).2.2 x138_8 p470 q470
                                                                cases e470
                                                                replace p470 := eq_true p470
                                                                replace q470 := eq_true q470
                                                                go_wp2
                                                                repeat (go_quiet (fail); try go_wp2)
                                                                go_ret
                                                                exact ⟨by first | rfl | (simp [errW_none, errW_some] <;> rfl) | (simp [*, errW_none, errW_some] <;> rfl), by repeat (first | (with_reducible first | exact HB.out | apply below_alloc | apply pw_below_drewN | apply below_drew1) | exact HB.out)⟩
                                                              · rw [if_neg c71] at H
                                                                have c71b0 : decide ((rd t463 x138_8) < (-127)) = false := decide_eq_false c71
                                                                clear c71
                                                                by_cases c72 : (rd t463 x138_8) > 127
                                                                · rw [if_pos c72] at H
                                                                  have c72b0 : decide (127 < (rd t463 x138_8)) = true := decide_eq_true c72
                                                                  clear c72
                                                                  obtain rfl := Option.some.inj H
                                                                  have p470 : 0 ≤ (x138_8 : Int) := of_decide_eq_true (by first | (with_reducible assumption) | assumption)
                                                                  have q470 : x138_8 < (t463.length : Int) := of_decide_eq_true (by first | (with_reducible assumption) | assumption)
                                                                  obtain ⟨ad470, e470, hx470_0⟩ := Kd.at_int (Kd.R_reads' HO_136.out).2.2 x138_8 p470 q470
                                                                  cases e470
                                                                  replace p470 := eq_true p470
                                                                  replace q470 := eq_true q470
                                                                  go_wp2
                                                                  repeat (go_quiet (fail); try go_wp2)
                                                                  go_ret
                                                                  exact ⟨by first | rfl | (simp [errW_none, errW_some] <;> rfl) | (simp [*, errW_none, errW_some] <;> rfl), by repeat (first | (with_reducible first | exact HB.out | apply below_alloc | apply pw_below_drewN | apply below_drew1) | exact HB.out)⟩
                                                                · rw [if_neg c72] at H
                                                                  have c72b0 : decide (127 < (rd t463 x138_8)) = false := decide_eq_false c72
                                                                  clear c72
                                                                  have H' := Aside0.mk H
                                                                  clear H
                                                                  have p470 : 0 ≤ (x138_8 : Int) := of_decide_eq_true (by first | (with_reducible assumption) | assumption)
                                                                  have q470 : x138_8 < (t463.length : Int) := of_decide_eq_true (by first | (with_reducible assumption) | assumption)
                                                                  obtain ⟨ad470, e470, hx470_0⟩ := Kd.at_int (Kd.R_reads' HO_136.out).2.2 x138_8 p470 q470
                                                                  cases e470
                                                                  replace p470 := eq_true p470
                                                                  replace q470 := eq_true q470
                                                                  go_wp2
                                                                  repeat (go_quiet (fail); try go_wp2)
                                                                  go_roundg k8
                                                                  case measure => have := HJ3.out; have := HK2.out; have := HJ21.out; have := HK4.out; have := HJ39.out; have := HJ55.out; have := HK7.out; have := HK8.out; omega
                                                                  case rel => exact ⟨(wrap64 (x138_8 + 1)), (by first | rfl | (simp; done) | (simp [*]; done)), H', ⟨by have := HJ3.out; have := HK2.out; have := HJ21.out; have := HK4.out; have := HJ39.out; have := HJ55.out; have := HK7.out; have := HK8.out; omega⟩, ⟨by (try simp only [hl7_2]); (with_reducible repeat (first | apply Kd.R_alloc | apply Kd.R_drewN | apply Kd.R_drew)); exact HO_16.out⟩, ⟨by (try simp only [hl7_2]); (with_reducible repeat (first | apply Kd.R_alloc | apply Kd.R_drewN | apply Kd.R_drew)); exact HO_136.out⟩, ⟨by repeat (first | (with_reducible first | exact HB.out | apply below_alloc | apply pw_below_drewN | apply below_drew1) | exact HB.out)⟩⟩
                                                            · rw [if_neg c70] at H
                                                              exact absurd H (by simp)
                                                          · rw [if_neg c69] at H
                                                            exact absurd H (by simp)
                                                        · rw [if_neg c68] at H
                                                          have c68b0 : decide (x138_8 < (t463.length : Int)) = false := decide_eq_false c68
                                                          clear c68
                                                          by_cases c73 : (t463.length : Int) = (Int.tmod (wrap64 (a2)) 13)
                                                          · rw [if_pos c73] at H
                                                            have c73b0 : ((t463.length : Int) == (Int.tmod (wrap64 (a2)) 13)) = true := beq_iff_eq.mpr c73
                                                            have c73b1 : ((t463.length : Int) != (Int.tmod (wrap64 (a2)) 13)) = false := bne_eq_false_iff_eq.mpr c73
                                                            clear c73
                                                            by_cases c74 : 0 < (t463.length : Int)
                                                            · rw [if_pos c74] at H
                                                              have c74b0 : decide (0 < (t463.length : Int)) = true := decide_eq_true c74
                                                              have c74b1 : decide (0 < t463.length) = true := decide_eq_true (by omega)
                                                              clear c74
                                                              by_cases c75 : (rd t463 0) = 0
                                                              · rw [if_pos c75] at H
                                                                have c75b0 : ((rd t463 0) == 0) = true := beq_iff_eq.mpr c75
                                                                have c75b1 : ((rd t463 0) != 0) = false := bne_eq_false_iff_eq.mpr c75
                                                                clear c75
                                                                replace H := Option.bind_eq_some_iff.mp H
                                                                obtain ⟨t472, A760, H⟩ := H
                                                                replace H : (some t472) = some r := H
                                                                have A76 := Aside0.mk A760
                                                                clear A760
                                                                obtain rfl := Option.some.inj H
                                                                have p471 : 0 ≤ (0 : Int) := (by omega)
                                                                have q471 : 0 < (t463.length : Int) := of_decide_eq_true (by first | (with_reducible assumption) | assumption)
                                                                obtain ⟨ad471, e471, hx471_0⟩ := Kd.at_int (Kd.R_reads' HO_16.out).2.2 0 p471 q471
                                                                cases e471
                                                                have qi471 : (0 < t463.length) = True := eq_true (by omega)
                                                                (try rw [show ((0 : Int)).toNat = 0 from rfl] at hx471_0)
                                                                (try rw [Addr.add_zero'] at hx471_0)
                                                                replace p471 := eq_true p471
                                                                replace q471 := eq_true q471
                                                                go_wp2_with (first | (go_at_call 10; (with_reducible refine (shawmlaw14_awake.calls  t472 _ A76.out).mono ?_); rintro e w77 ⟨rfl, hb⟩; have n0_ := Aside0.mk (Kd.R_below (by (with_reducible repeat (first | apply Kd.R_alloc | apply Kd.R_drewN | apply Kd.R_drew)); exact HO_16.out) hb); have n1_ := Aside0.mk (Kd.R_below (by (with_reducible repeat (first | apply Kd.R_alloc | apply Kd.R_drewN | apply Kd.R_drew)); exact HO_136.out) hb); have n2_ := Aside0.mk (below_step (by repeat (first | (with_reducible first | exact HB.out | apply below_alloc | apply pw_below_drewN | apply below_drew1) | exact HB.out)) hb); clear HO_16; clear HO_136; clear HB; have HO_16 := n0_; have HO_136 := n1_; have HB := n2_; clear n0_ n1_ n2_; (try clear hb); (try clear hb2); (try clear hk); (try clear hi)))
                                                                repeat (go_quiet (first | (go_at_call 10; (with_reducible refine (shawmlaw14_awake.calls  t472 _ A76.out).mono ?_); rintro e w77 ⟨rfl, hb⟩; have n0_ := Aside0.mk (Kd.R_below (by (with_reducible repeat (first | apply Kd.R_alloc | apply Kd.R_drewN | apply Kd.R_drew)); exact HO_16.out) hb); have n1_ := Aside0.mk (Kd.R_below (by (with_reducible repeat (first | apply Kd.R_alloc | apply Kd.R_drewN | apply Kd.R_drew)); exact HO_136.out) hb); have n2_ := Aside0.mk (below_step (by repeat (first | (with_reducible first | exact HB.out | apply below_alloc | apply pw_below_drewN | apply below_drew1) | exact HB.out)) hb); clear HO_16; clear HO_136; clear HB; have HO_16 := n0_; have HO_136 := n1_; have HB := n2_; clear n0_ n1_ n2_; (try clear hb); (try clear hb2); (try clear hk); (try clear hi))); try go_wp2_with (first | (go_at_call 10; (with_reducible refine (shawmlaw14_awake.calls  t472 _ A76.out).mono ?_); rintro e w77 ⟨rfl, hb⟩; have n0_ := Aside0.mk (Kd.R_below (by (with_reducible repeat (first | apply Kd.R_alloc | apply Kd.R_drewN | apply Kd.R_drew)); exact HO_16.out) hb); have n1_ := Aside0.mk (Kd.R_below (by (with_reducible repeat (first | apply Kd.R_alloc | apply Kd.R_drewN | apply Kd.R_drew)); exact HO_136.out) hb); have n2_ := Aside0.mk (below_step (by repeat (first | (with_reducible first | exact HB.out | apply below_alloc | apply pw_below_drewN | apply below_drew1) | exact HB.out)) hb); clear HO_16; clear HO_136; clear HB; have HO_16 := n0_; have HO_136 := n1_; have HB := n2_; clear n0_ n1_ n2_; (try clear hb); (try clear hb2); (try clear hk); (try clear hi))))
                                                                go_ret
                                                                exact ⟨by first | rfl | (simp [errW_none, errW_some] <;> rfl) | (simp [*, errW_none, errW_some] <;> rfl), by repeat (first | (with_reducible first | exact HB.out | apply below_alloc | apply pw_below_drewN | apply below_drew1) | exact HB.out)⟩
                                                              · rw [if_neg c75] at H
                                                                have c75b0 : ((rd t463 0) == 0) = false := beq_eq_false_iff_ne.mpr c75
                                                                have c75b1 : ((rd t463 0) != 0) = true := bne_iff_ne.mpr c75
                                                                by_cases c78 : ((decide ((rd t463 0) < 0)) == (decide (x18_7 > 0))) = true
                                                                · rw [if_pos c78] at H
                                                                  have c78b0 : ((decide ((rd t463 0) < 0)) == (decide (x18_7 > 0))) = true := c78
                                                                  (try (have c78b1 : decide ((decide ((rd t463 0) < 0)) = (decide (x18_7 > 0))) = true := by simpa using c78))
                                                                  (try (have c78b2 : ((decide ((rd t463 0) < 0)) == (decide (x18_7 > 0))) = true := by simpa using c78))
                                                                  clear c78
                                                                  replace H := Option.bind_eq_some_iff.mp H
                                                                  obtain ⟨t474, A790, H⟩ := H
                                                                  replace H : (some t474) = some r := H
                                                                  have A79 := Aside0.mk A790
                                                                  clear A790
                                                                  obtain rfl := Option.some.inj H
                                                                  have p471 : 0 ≤ (0 : Int) := (by omega)
                                                                  have q471 : 0 < (t463.length : Int) := of_decide_eq_true (by first | (with_reducible assumption) | assumption)
                                                                  obtain ⟨ad471, e471, hx471_0⟩ := Kd.at_int (Kd.R_reads' HO_16.out).2.2 0 p471 q471
                                                                  cases e471
                                                                  have qi471 : (0 < t463.length) = True := eq_true (by omega)
                                                                  (try rw [show ((0 : Int)).toNat = 0 from rfl] at hx471_0)
                                                                  (try rw [Addr.add_zero'] at hx471_0)
                                                                  replace p471 := eq_true p471
                                                                  replace q471 := eq_true q471
                                                                  have p473 : 0 ≤ (0 : Int) := (by omega)
                                                                  have q473 : 0 < (t463.length : Int) := of_decide_eq_true (by first | (with_reducible assumption) | assumption)
                                                                  obtain ⟨ad473, e473, hx473_0⟩ := Kd.at_int (Kd.R_reads' HO_16.out).2.2 0 p473 q473
                                                                  obtain rfl : ad471 = ad473 := (by injection e473)
                                                                  have qi473 : (0 < t463.length) = True := eq_true (by omega)
                                                                  (try rw [show ((0 : Int)).toNat = 0 from rfl] at hx473_0)
                                                                  (try rw [Addr.add_zero'] at hx473_0)
                                                                  replace p473 := eq_true p473
                                                                  replace q473 := eq_true q473
                                                                  go_wp2_with (first | (go_at_call 10; (with_reducible refine (shawmlaw14_awake.calls  t474 _ A79.out).mono ?_); rintro e w80 ⟨rfl, hb⟩; have n0_ := Aside0.mk (Kd.R_below (by (with_reducible repeat (first | apply Kd.R_alloc | apply Kd.R_drewN | apply Kd.R_drew)); exact HO_16.out) hb); have n1_ := Aside0.mk (Kd.R_below (by (with_reducible repeat (first | apply Kd.R_alloc | apply Kd.R_drewN | apply Kd.R_drew)); exact HO_136.out) hb); have n2_ := Aside0.mk (below_step (by repeat (first | (with_reducible first | exact HB.out | apply below_alloc | apply pw_below_drewN | apply below_drew1) | exact HB.out)) hb); clear HO_16; clear HO_136; clear HB; have HO_16 := n0_; have HO_136 := n1_; have HB := n2_; clear n0_ n1_ n2_; (try clear hb); (try clear hb2); (try clear hk); (try clear hi)))
                                                                  repeat (go_quiet (first | (go_at_call 10; (with_reducible refine (shawmlaw14_awake.calls  t474 _ A79.out).mono ?_); rintro e w80 ⟨rfl, hb⟩; have n0_ := Aside0.mk (Kd.R_below (by (with_reducible repeat (first | apply Kd.R_alloc | apply Kd.R_drewN | apply Kd.R_drew)); exact HO_16.out) hb); have n1_ := Aside0.mk (Kd.R_below (by (with_reducible repeat (first | apply Kd.R_alloc | apply Kd.R_drewN | apply Kd.R_drew)); exact HO_136.out) hb); have n2_ := Aside0.mk (below_step (by repeat (first | (with_reducible first | exact HB.out | apply below_alloc | apply pw_below_drewN | apply below_drew1) | exact HB.out)) hb); clear HO_16; clear HO_136; clear HB; have HO_16 := n0_; have HO_136 := n1_; have HB := n2_; clear n0_ n1_ n2_; (try clear hb); (try clear hb2); (try clear hk); (try clear hi))); try go_wp2_with (first | (go_at_call 10; (with_reducible refine (shawmlaw14_awake.calls  t474 _ A79.out).mono ?_); rintro e w80 ⟨rfl, hb⟩; have n0_ := Aside0.mk (Kd.R_below (by (with_reducible repeat (first | apply Kd.R_alloc | apply Kd.R_drewN | apply Kd.R_drew)); exact HO_16.out) hb); have n1_ := Aside0.mk (Kd.R_below (by (with_reducible repeat (first | apply Kd.R_alloc | apply Kd.R_drewN | apply Kd.R_drew)); exact HO_136.out) hb); have n2_ := Aside0.mk (below_step (by repeat (first | (with_reducible first | exact HB.out | apply below_alloc | apply pw_below_drewN | apply below_drew1) | exact HB.out)) hb); clear HO_16; clear HO_136; clear HB; have HO_16 := n0_; have HO_136 := n1_; have HB := n2_; clear n0_ n1_ n2_; (try clear hb); (try clear hb2); (try clear hk); (try clear hi))))
                                                                  go_ret
                                                                  exact ⟨by first | rfl | (simp [errW_none, errW_some] <;> rfl) | (simp [*, errW_none, errW_some] <;> rfl), by repeat (first | (with_reducible first | exact HB.out | apply below_alloc | apply pw_below_drewN | apply below_drew1) | exact HB.out)⟩
                                                                · rw [if_neg c78] at H
                                                                  have c78b0 : ((decide ((rd t463 0) < 0)) == (decide (x18_7 > 0))) = false := by simpa using c78
                                                                  (try (have c78b1 : decide ((decide ((rd t463 0) < 0)) = (decide (x18_7 > 0))) = false := by simpa using c78))
                                                                  (try (have c78b2 : ((decide ((rd t463 0) < 0)) == (decide (x18_7 > 0))) = false := by simpa using c78))
                                                                  (try (have c78b3 : ¬ ((decide ((rd t463 0) < 0)) = (decide (x18_7 > 0))) := by simpa using c78))
                                                                  clear c78
                                                                  obtain rfl := Option.some.inj H
                                                                  have p471 : 0 ≤ (0 : Int) := (by omega)
                                                                  have q471 : 0 < (t463.length : Int) := of_decide_eq_true (by first | (with_reducible assumption) | assumption)
                                                                  obtain ⟨ad471, e471, hx471_0⟩ := Kd.at_int (Kd.R_reads' HO_16.out).2.2 0 p471 q471
                                                                  cases e471
                                                                  have qi471 : (0 < t463.length) = True := eq_true (by omega)
                                                                  (try rw [show ((0 : Int)).toNat = 0 from rfl] at hx471_0)
                                                                  (try rw [Addr.add_zero'] at hx471_0)
                                                                  replace p471 := eq_true p471
                                                                  replace q471 := eq_true q471
                                                                  have p473 : 0 ≤ (0 : Int) := (by omega)
                                                                  have q473 : 0 < (t463.length : Int) := of_decide_eq_true (by first | (with_reducible assumption) | assumption)
                                                                  obtain ⟨ad473, e473, hx473_0⟩ := Kd.at_int (Kd.R_reads' HO_16.out).2.2 0 p473 q473
                                                                  obtain rfl : ad471 = ad473 := (by injection e473)
                                                                  have qi473 : (0 < t463.length) = True := eq_true (by omega)
                                                                  (try rw [show ((0 : Int)).toNat = 0 from rfl] at hx473_0)
                                                                  (try rw [Addr.add_zero'] at hx473_0)
                                                                  replace p473 := eq_true p473
                                                                  replace q473 := eq_true q473
                                                                  go_wp2
                                                                  repeat (go_quiet (fail); try go_wp2)
                                                                  go_ret
                                                                  exact ⟨by first | rfl | (simp [errW_none, errW_some] <;> rfl) | (simp [*, errW_none, errW_some] <;> rfl), by repeat (first | (with_reducible first | exact HB.out | apply below_alloc | apply pw_below_drewN | apply below_drew1) | exact HB.out)⟩
                                                            · rw [if_neg c74] at H
                                                              exact absurd H (by simp)
                                                          · rw [if_neg c73] at H
                                                            have c73b0 : ((t463.length : Int) == (Int.tmod (wrap64 (a2)) 13)) = false := beq_eq_false_iff_ne.mpr c73
                                                            have c73b1 : ((t463.length : Int) != (Int.tmod (wrap64 (a2)) 13)) = true := bne_iff_ne.mpr c73
                                                            obtain rfl := Option.some.inj H
                                                            go_wp2
                                                            repeat (go_quiet (fail); try go_wp2)
                                                            go_ret
                                                            exact ⟨by first | rfl | (simp [errW_none, errW_some] <;> rfl) | (simp [*, errW_none, errW_some] <;> rfl), by repeat (first | (with_reducible first | exact HB.out | apply below_alloc | apply pw_below_drewN | apply below_drew1) | exact HB.out)⟩
                                · rw [if_neg c38] at H
                                  exact absurd H (by simp)
                              · rw [if_neg c37] at H
                                exact absurd H (by simp)
          · rw [if_neg c11] at H
            exact absurd H (by simp)
        · rw [if_neg c10] at H
          exact absurd H (by simp)

/-- THE ONE PURE STATEMENT of shawmlaw14_LinearConstant: yours. -/
def shawmlaw14_LinearConstant.Pure : Prop := ∀ (l0 : List Int) (a1 : Int) (a2 : Int), l0.length ≤ maxLen → l0.length * 8 ≤ 140737488351232 → (∀ x ∈ l0, (Lit.int .i64 x).wf = true) → (Lit.int .i64 a1).wf = true → (Lit.int .u8 a2).wf = true → ∃ k, shawmlaw14_LinearConstant.f k l0 a1 a2 = some true
theorem shawmlaw14_LinearConstant.walk (P : shawmlaw14_LinearConstant.Pure) (a0 : Option Addr) (len0 cap0 : Nat) (z0 : List Int) (a1 : Int) (a2 : Int) (w : World) (w0 : (a0 = none ∧ len0 = 0 ∧ cap0 = 0 ∧ z0 = []) ∨ ∃ x, a0 = some x ∧ len0 ≤ cap0 ∧ cap0 ≤ maxLen ∧ z0.length = cap0 ∧ (∀ i, i < z0.length → w.cell? (x.add i) = some (.int .i64 (z0.getD i 0))) ∧ ∀ n ∈ z0, (Lit.int .i64 n).wf = true) (y0 : len0 * 8 ≤ 140737488351232) (w1 : (Lit.int .i64 a1).wf = true) (w2 : (Lit.int .u8 a2).wf = true) :
    Calls Try.prog 9 #[.slice a0 len0 cap0, .int .i64 a1, .int .u8 a2] w fun e w' => e = .returned (.bool true) ∧ Below w.heap.size w w' := by
  obtain ⟨l0, rfl, hr0, hm0, hw0, hc0⟩ := ReadsInt.ofRowC w0
  obtain ⟨k, h⟩ := P l0 a1 a2 hm0 y0 hw0 w1 w2
  refine (shawmlaw14_LinearConstant.calls k _ _ l0 a1 a2 true w (Kd.C_of_reads (d := (0 : Int)) (h1 := fun _ => rfl) hr0) hc0 h).mono ?_
  rintro e w' ⟨rfl, hd⟩
  exact ⟨rfl, hd⟩


end Go.Proofs.Ytafdiakomcejjaa.P
