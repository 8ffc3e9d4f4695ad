/- The arguments of chapter 20, opened; the orders that the program lays. A room that is an argument, opened. -/
import Derived.Test.YtjcijaojcgampaaGreatDoorRows
import Derived.WalkKit
import Derived.ProofKit
import Derived.OpenShut
import Derived.ShutString
import Derived.ChangeOld
import Derived.SizedLaws
import Derived.Deep.Slices
import Derived.Deep.Fields
import Derived.LaidMore
import Derived.Lay
import Derived.Stop.Joined
import Derived.Test.YtjcijaojcgampaaGreatDoorZBa28
import Derived.Test.YtjcijaojcgampaaGreatDoorZBa19
import Derived.Test.YtjcijaojcgampaaGreatDoorZBa17
import Derived.Test.YtjcijaojcgampaaGreatDoorZBa18
section
namespace Go.Proofs.YtjcijaojcgampaaGreatDoor.P
open Go.RowKit Go.Shelf Go.Proofs.YtjcijaojcgampaaGreatDoor.Bits Go.Proofs.YtjcijaojcgampaaGreatDoorW.PrintWords Go.Proofs.YtjcijaojcgampaaGreatDoorW.PrintLast Go.Proofs.YtjcijaojcgampaaGreatDoorW.PrintMore
set_option linter.unusedVariables false
set_option linter.unusedSimpArgs false
set_option maxRecDepth 100000 in
/-- What the laid variable gives the walks. -/
theorem of_laid {W : World} (h : laidMetH Tryz.prog Rows.losslessSmallRow.laid W) : HO W := by
  rw [MakeChecks.laidMetH_plain _ _ _ (by kernel_rfl)] at h
  obtain ⟨ps, ⟨g, t, cs, fuel, p, q, hg, ht, hv, hd, _, _⟩, _, _⟩ := h
  obtain rfl := Option.some.inj ((show Tryz.prog.globalNamed "shawm/lossless.orders" = some 0 by kernel_rfl).symm.trans hg)
  obtain rfl := Option.some.inj ((show (Tryz.prog.globals[0]?).map (·.type) = some 115 by kernel_rfl).symm.trans ht)
  obtain ⟨xs, m, _, ex, hcl, hl, hel⟩ := DataW.trod_array Tryz.underlying115 hd
  have c3 : Tryz.prog.cellsOf 3 = 1 := by kernel_rfl
  have c2 : Tryz.prog.cellsOf 114 = 2 := by kernel_rfl
  have c9 : Tryz.prog.cellsOf 115 = 8 := by kernel_rfl
  rw [c9] at hcl
  have e3 : (xs.map (·.1)) = [.agg [.lit (.int .i64 0), .lit (.int .i64 0)], .agg [.lit (.int .i64 0), .lit (.int .i64 0)], .agg [.lit (.int .i64 0), .lit (.int .i64 4)], .agg [.lit (.int .i64 1), .lit (.int .i64 12)]] := (DataW.agg.inj (Prod.mk.inj ex).1).symm
  have hcs : cs = orderCells := by
    have key : ∀ r, r < 4 → ∀ j, j < 2 → cs.toList[r * 2 + j]? = (orderCells.toList)[r * 2 + j]? := by
      intro r hr j hj
      have hE := hel r hr
      rw [c2, List.getElem?_eq_getElem (by omega)] at hE
      obtain ⟨ys, m2, _, ey, hcl2, hl2, hel2⟩ := DataW.trod_array Tryz.underlying114 hE
      have hF := hel2 j hj
      rw [c3, Nat.mul_one, List.getElem?_eq_getElem (by omega)] at hF
      obtain ⟨z, e1, e2, _⟩ := DataW.trod_int Tryz.underlying3 hF
      have e4 : (xs.map (·.1))[r]? = some (.agg (ys.map (·.1))) := by
        rw [List.getElem?_map, List.getElem?_eq_getElem (by omega : r < xs.length)]
        simp [ey]
      have e5 : (ys.map (·.1))[j]? = some (.lit (.int .i64 z)) := by rw [List.getElem?_map, List.getElem?_eq_getElem (by omega : j < ys.length)]; simp [e2]
      have h0 : ((((cs.toList.drop (r * 2)).take 2).drop j).take 1)[0]? = some (.int .i64 z) := by rw [e1]; rfl
      have h1 : cs.toList[r * 2 + j]? = some (.int .i64 z) := by
        rw [List.getElem?_take, if_pos (by omega), List.getElem?_drop, List.getElem?_take, if_pos (by omega), List.getElem?_drop] at h0
        simpa using h0
      rw [h1]
      rw [e3] at e4
      have e6 : ∀ k, (ys.map (·.1)) = k → k[j]? = some (.lit (.int .i64 z)) := fun k hk => by rw [← hk]; exact e5
      rcases (show r = 0 ∨ r = 1 ∨ r = 2 ∨ r = 3 by omega) with rfl | rfl | rfl | rfl
      all_goals
        simp only [List.getElem?_cons_zero, List.getElem?_cons_succ, Option.some.injEq, DataW.agg.injEq] at e4
        have := e6 _ e4.symm
        rcases (show j = 0 ∨ j = 1 by omega) with rfl | rfl
        all_goals
          simp at this
          simp [← this]
    have : cs.toList = orderCells.toList := by
      apply List.ext_getElem?
      intro r
      by_cases hr : r < 8
      · have := key (r / 2) (by omega) (r % 2) (by omega)
        rw [show r / 2 * 2 + r % 2 = r by omega] at this
        exact this
      · rw [List.getElem?_eq_none (by omega), List.getElem?_eq_none (by simp; omega)]
    exact Array.toList_inj.1 this
  subst hcs
  simp only [World.var?, hg, Option.bind_some] at hv
  unfold HO
  cases hk : W.heap[0]? with
  | none => rw [hk] at hv; cases hv
  | some o =>
    rw [hk] at hv
    cases o with
    | cells c t fr => simp only [Option.some.injEq] at hv; subst hv; exact ⟨t, fr, rfl⟩
    | _ => cases hv
section
open Go.ChangeShapes Go.WideShapes Go.ChangeAt Go.Deep
variable {H : Type} {enc : TypeId × Value → H} {W : World} {base : Nat} {spare : Nat → Bool} {held : Bool}
/-- One of the lists of an argument. -/
def LAt (W : World) (ad : Addr) (x : List Int) : Prop := ∃ A c, W.cell? ad = some (.slice A x.length c) ∧ x.length ≤ c ∧ Kd.C (Kd.int .i64) W A x.length x ∧ x.length ≤ reachBytes
set_option maxRecDepth 100000 in
/-- A slice of slices of ints that is an argument. -/
theorem open_lists {a : Option Addr} {len cap : Nat} {d : DataW H} {ps : List MemPlace} (h : DataW.Trod enc Tryz.prog W base spare held 27 (.slice a len cap) d ps) (hw : ∀ m ∈ d.weights Tryz.prog 27, m ≤ reachBytes) :
    ∃ ls : List (List Int), ls.length = len ∧ Kd.C KdL W a ls.length ls ∧ len ≤ cap ∧ len ≤ reachBytes ∧ ∀ x ∈ ls, x.length ≤ reachBytes := by
  obtain ⟨fuel, hf⟩ := h
  rcases open_slice Tryz.underlying27 hf with ⟨hcs, _⟩ | ⟨x, l, c, m, n, D, Pl, hcs, _, hl, hm, hmm, hx, hi⟩
  · simp [Value.cells] at hcs
    obtain ⟨rfl, rfl, rfl⟩ := hcs
    exact ⟨[], rfl, ⟨rfl, by decide, fun h => absurd h (by simp)⟩, Nat.le_refl _, Nat.zero_le _, fun x hx => by cases hx⟩
  · simp [Value.cells] at hcs
    obtain ⟨rfl, rfl, rfl⟩ := hcs
    have hlm : len ≤ m := by
      rw [hmm]
      split
      · exact hl
      · exact Nat.le_refl _
    have hd : d = .slice ((List.range len).map D) ((List.range (m - len)).map fun j => D (len + j)) := by
      injection hx with h1 _
    have eC : Tryz.prog.cellsOf 22 = 1 := by kernel_rfl
    rw [eC] at hi
    have each : ∀ i, i < len → ∃ o : List Int, LAt W (x.add i) o := by
      intro i hlt
      obtain ⟨cs', hc, ht⟩ := hi i (by omega)
      obtain ⟨_, hcl, hat⟩ := World.cells?_some hc
      obtain ⟨v, rfl⟩ : ∃ v, cs' = [v] := by
        match cs', hcl with
        | [v], _ => exact ⟨v, rfl⟩
      obtain ⟨A, c', B, rfl, hC, _, hcc, hr⟩ := open_list ht (fun q hq => hw q (by
        rw [hd]
        unfold DataW.weights
        rw [Tryz.underlying27]
        refine List.mem_cons_of_mem _ (List.mem_append_left _ (weights_mem_all (i := i) (d := D i) ?_ q hq))
        simp [hlt]))
      have h0 := hat 0 (by omega)
      rw [Nat.mul_one] at h0
      refine ⟨B, A, c', ?_, hcc, hC, hr⟩
      have e : (x.add i).add 0 = x.add i := by simp [Addr.add]
      rw [← e]
      exact h0
    have : ∀ k, k ≤ len → ∃ ls : List (List Int), ls.length = k ∧ ∀ i (h : i < ls.length), LAt W (x.add i) ls[i] := by
      intro k
      induction k with
      | zero => intro _; exact ⟨[], rfl, fun i hi => by simp at hi⟩
      | succ k ih =>
        intro hk
        obtain ⟨ls, hol, hoa⟩ := ih (by omega)
        obtain ⟨o, hat⟩ := each k (by omega)
        refine ⟨ls ++ [o], by simp [hol], fun i hi => ?_⟩
        by_cases hik : i < ls.length
        · rw [List.getElem_append_left hik]
          exact hoa i hik
        · have : i = ls.length := by simp at hi; omega
          subst this
          simp only [List.getElem_append_right (Nat.le_refl _), Nat.sub_self, List.getElem_cons_zero]
          rw [hol]
          exact hat
    obtain ⟨ls, hol, hoa⟩ := this len (Nat.le_refl _)
    have hlr : len ≤ reachBytes := by
      have h1 := hw ((len + (m - len)) * Tryz.prog.bytesOf 22) (by
        rw [hd]
        unfold DataW.weights
        rw [Tryz.underlying27]
        simp)
      have h2 : Tryz.prog.bytesOf 22 = 24 := by kernel_rfl
      rw [h2] at h1
      omega
    have hrb := reachBytes_lt
    refine ⟨ls, hol, ⟨rfl, by omega, fun _ => ⟨x, rfl, fun j p hj => ?_⟩⟩, hl, hlr, fun y hy => ?_⟩
    · obtain ⟨hj2, rfl⟩ := List.getElem?_eq_some_iff.1 hj
      obtain ⟨A1, c1, hce, hc1, hC1, _⟩ := hoa j hj2
      refine ⟨[.slice A1 ls[j].length c1], rfl, ⟨A1, c1, rfl, hc1, hC1⟩, fun i u hu => ?_⟩
      have hi : i < 1 := (List.getElem?_eq_some_iff.1 hu).1
      obtain rfl : i = 0 := by omega
      obtain rfl := Option.some.inj hu
      show W.cell? (x.add (j * 1 + 0)) = _
      simpa using hce
    · obtain ⟨j, hj, rfl⟩ := List.getElem_of_mem hy
      exact (hoa j hj).choose_spec.choose_spec.2.2.2
end
end Go.Proofs.YtjcijaojcgampaaGreatDoor.P
end
section
namespace Go.Proofs.YtjcijaojcgampaaGreatDoor.P
open Go.ChangeShapes Go.WideShapes Go.ChangeAt Go.RowKit Go.Deep Go.Proofs.YtjcijaojcgampaaGreatDoor.Bits
open Go.Proofs.YtjcijaojcgampaaGreatDoorW.PrintWords
set_option linter.unusedVariables false
set_option linter.unusedSimpArgs false
section
variable {H : Type} {enc : TypeId × Value → H} {W : World} {base : Nat} {spare : Nat → Bool} {held : Bool}
set_option maxRecDepth 100000 in
theorem open_room {n : Nat} {cs : List Value} {y : DataW H × List MemPlace} (h : DataW.trod enc Tryz.prog W base spare held n 53 cs = some y) (hw : ∀ m ∈ y.1.weights Tryz.prog 53, m ≤ reachBytes) :
    ∃ (A : Option Addr) (c : Nat) (B : List Int) (left : Int), cs = [.slice A B.length c, .int .i64 left] ∧ Kd.C (Kd.int .u8) W A B.length B ∧ is8 B ∧ B.length ≤ c ∧ B.length ≤ reachBytes := by
  obtain ⟨ys, n', rfl, hy, hlen, hyl, hf⟩ := DataW.trod_struct Tryz.underlying53 h
  have hcl : cs.length = 2 := hlen.trans (by kernel_rfl)
  match cs, hcl with
  | [c0, c1], _ =>
    have hy3 : ys.length = 2 := hyl
    match ys, hy3 with
    | [y0, y1], _ =>
      have e5 : Tryz.prog.cellsOf 30 = 1 := by kernel_rfl
      have e3 : Tryz.prog.cellsOf 3 = 1 := by kernel_rfl
      have f0 := hf 0 _ rfl
      have f1 := hf 1 _ rfl
      simp only [e5, e3, List.drop_zero, List.drop_succ_cons, List.take_succ_cons, List.take_zero, List.getElem?_cons_zero, List.getElem?_cons_succ] at f0 f1
      obtain ⟨A0, k0, B0, hb0, hC0, h80, hk0, hr0, _⟩ := open_bytes f0 (fun q hq => hw q (by
        rw [hy]
        unfold DataW.weights
        rw [Tryz.underlying53]
        exact DataW.weights_mem_each (j := 0) (t := 30) (d := y0.1) rfl rfl q hq))
      obtain ⟨z, e1, _, _⟩ := DataW.trod_int Tryz.underlying3 f1
      subst hb0
      cases e1
      exact ⟨A0, k0, B0, z, rfl, hC0, h80, hk0, hr0⟩
end
end Go.Proofs.YtjcijaojcgampaaGreatDoor.P
end
