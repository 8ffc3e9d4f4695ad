/- The arguments of chapter 20, opened; the orders that the program lays. -/
import Derived.Test.YtjcijaojcgampaaGreatDoorRows
import Derived.WalkKit
import Derived.ProofKit
import Derived.OpenShut
import Derived.ShutString
import Derived.ChangeOld
import Derived.SizedLaws
import Derived.Deep.Slices
import Derived.Deep.Fields
import Derived.LaidMore
import Derived.Lay
import Derived.Stop.Joined
import Derived.Test.YtjcijaojcgampaaGreatDoorZPl28
import Derived.Test.YtjcijaojcgampaaGreatDoorZPl19
import Derived.Test.YtjcijaojcgampaaGreatDoorZPl17
set_option linter.unusedVariables false
set_option linter.unusedSimpArgs false
set_option maxHeartbeats 16000000
set_option maxRecDepth 100000
namespace Go.Proofs.YtjcijaojcgampaaGreatDoor.P
open Go.RowKit Go.Shelf Go.Proofs.YtjcijaojcgampaaGreatDoor.Bits Go.Proofs.YtjcijaojcgampaaGreatDoorW.PrintWords Go.Proofs.YtjcijaojcgampaaGreatDoorW.PrintLast Go.Proofs.YtjcijaojcgampaaGreatDoorW.PrintMore
theorem of_laid {W : World} (h : laidMetH Tryz.prog Rows.losslessSmallRow.laid W) : HO W := by
  rw [MakeChecks.laidMetH_plain _ _ _ (by kernel_rfl)] at h
  obtain ⟨ps, ⟨g, t, cs, fuel, p, q, hg, ht, hv, hd, _, _⟩, _, _⟩ := h
  obtain rfl := Option.some.inj ((show Tryz.prog.globalNamed "shawm/lossless.orders" = some 0 by kernel_rfl).symm.trans hg)
  obtain rfl := Option.some.inj ((show (Tryz.prog.globals[0]?).map (·.type) = some 115 by kernel_rfl).symm.trans ht)
  obtain ⟨xs, m, _, ex, hcl, hl, hel⟩ := DataW.trod_array Tryz.underlying115 hd
  have c3 : Tryz.prog.cellsOf 3 = 1 := by kernel_rfl
  have c2 : Tryz.prog.cellsOf 114 = 2 := by kernel_rfl
  have c9 : Tryz.prog.cellsOf 115 = 8 := by kernel_rfl
  rw [c9] at hcl
  have e3 : (xs.map (·.1)) = [.agg [.lit (.int .i64 0), .lit (.int .i64 0)], .agg [.lit (.int .i64 0), .lit (.int .i64 0)], .agg [.lit (.int .i64 0), .lit (.int .i64 4)], .agg [.lit (.int .i64 1), .lit (.int .i64 12)]] := (DataW.agg.inj (Prod.mk.inj ex).1).symm
  have hcs : cs = orderCells := by
    have key : ∀ r, r < 4 → ∀ j, j < 2 → cs.toList[r * 2 + j]? = (orderCells.toList)[r * 2 + j]? := by
      intro r hr j hj
      have hE := hel r hr
      rw [c2, List.getElem?_eq_getElem (by omega)] at hE
      obtain ⟨ys, m2, _, ey, hcl2, hl2, hel2⟩ := DataW.trod_array Tryz.underlying114 hE
      have hF := hel2 j hj
      rw [c3, Nat.mul_one, List.getElem?_eq_getElem (by omega)] at hF
      obtain ⟨z, e1, e2, _⟩ := DataW.trod_int Tryz.underlying3 hF
      have e4 : (xs.map (·.1))[r]? = some (.agg (ys.map (·.1))) := by
        rw [List.getElem?_map, List.getElem?_eq_getElem (by omega : r < xs.length)]
        simp [ey]
      have e5 : (ys.map (·.1))[j]? = some (.lit (.int .i64 z)) := by rw [List.getElem?_map, List.getElem?_eq_getElem (by omega : j < ys.length)]; simp [e2]
      have h0 : ((((cs.toList.drop (r * 2)).take 2).drop j).take 1)[0]? = some (.int .i64 z) := by rw [e1]; rfl
      have h1 : cs.toList[r * 2 + j]? = some (.int .i64 z) := by
        rw [List.getElem?_take, if_pos (by omega), List.getElem?_drop, List.getElem?_take, if_pos (by omega), List.getElem?_drop] at h0
        simpa using h0
      rw [h1]
      rw [e3] at e4
      have e6 : ∀ k, (ys.map (·.1)) = k → k[j]? = some (.lit (.int .i64 z)) := fun k hk => by rw [← hk]; exact e5
      rcases (show r = 0 ∨ r = 1 ∨ r = 2 ∨ r = 3 by omega) with rfl | rfl | rfl | rfl
      all_goals
        simp only [List.getElem?_cons_zero, List.getElem?_cons_succ, Option.some.injEq, DataW.agg.injEq] at e4
        have := e6 _ e4.symm
        rcases (show j = 0 ∨ j = 1 by omega) with rfl | rfl
        all_goals
          simp at this
          simp [← this]
    have : cs.toList = orderCells.toList := by
      apply List.ext_getElem?
      intro r
      by_cases hr : r < 8
      · have := key (r / 2) (by omega) (r % 2) (by omega)
        rw [show r / 2 * 2 + r % 2 = r by omega] at this
        exact this
      · rw [List.getElem?_eq_none (by omega), List.getElem?_eq_none (by simp; omega)]
    exact Array.toList_inj.1 this
  subst hcs
  simp only [World.var?, hg, Option.bind_some] at hv
  unfold HO
  cases hk : W.heap[0]? with
  | none => rw [hk] at hv; cases hv
  | some o =>
    rw [hk] at hv
    cases o with
    | cells c t fr => simp only [Option.some.injEq] at hv; subst hv; exact ⟨t, fr, rfl⟩
    | _ => cases hv
section
open Go.ChangeShapes Go.WideShapes Go.ChangeAt Go.Deep
variable {H : Type} {enc : TypeId × Value → H} {W : World} {base : Nat} {spare : Nat → Bool} {held : Bool}
end
end Go.Proofs.YtjcijaojcgampaaGreatDoor.P
