/- FrameAll's argument, opened. -/
import Derived.Test.YtnaklnehichhpaaDoorSc
import Derived.WalkKit
import Derived.ProofKit
import Derived.OpenShut
import Derived.ShutString
import Derived.ChangeOld
import Derived.SizedLaws
import Derived.Deep.Slices
import Derived.Deep.Fields
import Derived.Test.YtnaklnehichhpaaDoorWSized
namespace Go.Proofs.YtnaklnehichhpaaDoor.P
open Go.ChangeShapes Go.WideShapes Go.ChangeAt Go.RowKit Go.Deep Go.Proofs.YtnaklnehichhpaaDoor.Bits
open Go.Proofs.YtnaklnehichhpaaDoorW.PrintWords
set_option linter.unusedVariables false
set_option linter.unusedSimpArgs false
section
variable {H : Type} {enc : TypeId × Value → H} {W : World} {base : Nat} {spare : Nat → Bool} {held : Bool}
set_option maxRecDepth 100000 in
/-- A part inside an argument. -/
theorem open_part {n : Nat} {cs : List Value} {y : DataW H × List MemPlace} (h : DataW.trod enc Tryd.prog W base spare held n 50 cs = some y) (hw : ∀ m ∈ y.1.weights Tryd.prog 50, m ≤ reachBytes) :
    ∃ x : PM, x.ok W ∧ cs = [.slice x.A0 x.d.before.length x.c0, .int .i64 x.d.h.num, .bool x.d.h.lossy, .int .i64 x.d.h.rate, .int .i64 x.d.h.ch, .int .i64 x.d.h.kind, .int .i64 x.d.h.count, .int .i64 x.d.h.back, .slice x.A1 x.d.body.length x.c1] := by
  obtain ⟨ys, n', rfl, hy, hlen, hyl, hf⟩ := DataW.trod_struct Tryd.underlying50 h
  have hcl : cs.length = 9 := hlen.trans (by kernel_rfl)
  match cs, hcl with
  | [c0, c1, c2, c3, c4, c5, c6, c7, c8], _ =>
    have hy3 : ys.length = 3 := hyl
    match ys, hy3 with
    | [y0, y1, y2], _ =>
      have e5 : Tryd.prog.cellsOf 24 = 1 := by kernel_rfl
      have e3 : Tryd.prog.cellsOf 23 = 7 := by kernel_rfl
      have f0 := hf 0 _ rfl
      have f1 := hf 1 _ rfl
      have f2 := hf 2 _ rfl
      simp only [e5, e3, List.drop_zero, List.drop_succ_cons, List.take_succ_cons, List.take_zero, List.getElem?_cons_zero, List.getElem?_cons_succ] at f0 f1 f2
      obtain ⟨A0, k0, B0, hb0, hC0, h80, hk0, hr0, _⟩ := open_bytes f0 (fun q hq => hw q (by
        rw [hy]
        unfold DataW.weights
        rw [Tryd.underlying50]
        exact DataW.weights_mem_each (j := 0) (t := 24) (d := y0.1) rfl rfl q hq))
      obtain ⟨A1, k1, B1, hb1, hC1, h81, hk1, hr1, _⟩ := open_bytes f2 (fun q hq => hw q (by
        rw [hy]
        unfold DataW.weights
        rw [Tryd.underlying50]
        exact DataW.weights_mem_each (j := 2) (t := 24) (d := y2.1) rfl rfl q hq))
      obtain ⟨hd, hh⟩ := open_hd f1
      have hrb := reachBytes_lt
      subst hb0
      subst hb1
      cases hh
      exact ⟨⟨A0, k0, A1, k1, ⟨B0, hd, B1⟩⟩, ⟨hC0, h80, ⟨hk0, by dsimp only; omega⟩, hC1, h81, ⟨hk1, by dsimp only; omega⟩⟩, rfl⟩

/-- The parts. -/
theorem open_parts {a : Option Addr} {len cap : Nat} {d : DataW H} {ps : List MemPlace} (h : DataW.Trod enc Tryd.prog W base spare held 48 (.slice a len cap) d ps) (hw : ∀ m ∈ d.weights Tryd.prog 48, m ≤ reachBytes) :
    ∃ ops : List PM, ops.length = len ∧ PartsAt W a ops ∧ len ≤ reachBytes := by
  obtain ⟨fuel, hf⟩ := h
  rcases open_slice Tryd.underlying48 hf with ⟨hcs, _⟩ | ⟨x, l, c, m, n, D, Pl, hcs, _, hl, hm, hmm, hx, hi⟩
  · simp [Value.cells] at hcs
    obtain ⟨rfl, rfl, rfl⟩ := hcs
    exact ⟨[], rfl, ⟨fun i hi => by simp at hi, fun o ho => by cases ho⟩, Nat.zero_le _⟩
  · simp [Value.cells] at hcs
    obtain ⟨rfl, rfl, rfl⟩ := hcs
    have hlm : len ≤ m := by
      rw [hmm]
      split
      · exact hl
      · exact Nat.le_refl _
    have hd : d = .slice ((List.range len).map D) ((List.range (m - len)).map fun j => D (len + j)) := by
      injection hx with h1 _
    have eC : Tryd.prog.cellsOf 50 = 9 := by kernel_rfl
    rw [eC] at hi
    have each : ∀ i, i < len → ∃ o : PM, o.ok W ∧ o.at W (x.add (i * 9)) := by
      intro i hlt
      obtain ⟨cs', hc, ht⟩ := hi i (by omega)
      obtain ⟨_, hcl, hat⟩ := World.cells?_some hc
      obtain ⟨o, hok, rfl⟩ := open_part ht (fun q hq => hw q (by
        rw [hd]
        unfold DataW.weights
        rw [Tryd.underlying48]
        refine List.mem_cons_of_mem _ (List.mem_append_left _ (weights_mem_all (i := i) (d := D i) ?_ q hq))
        simp [hlt]))
      exact ⟨o, hok, hat 0 (by omega), hat 1 (by omega), hat 2 (by omega), hat 3 (by omega), hat 4 (by omega), hat 5 (by omega), hat 6 (by omega), hat 7 (by omega), hat 8 (by omega)⟩
    have : ∀ k, k ≤ len → ∃ ops : List PM, ops.length = k ∧ PartsAt W (some x) ops := by
      intro k
      induction k with
      | zero => intro _; exact ⟨[], rfl, ⟨fun i hi => by simp at hi, fun o ho => by cases ho⟩⟩
      | succ k ih =>
        intro hk
        obtain ⟨ops, hol, hoa⟩ := ih (by omega)
        obtain ⟨o, hok, hat⟩ := each k (by omega)
        refine ⟨ops ++ [o], by simp [hol], ⟨fun i hi => ?_, fun o' ho' => ?_⟩⟩
        · by_cases hik : i < ops.length
          · obtain ⟨x', e, q⟩ := hoa.cells i hik
            rw [List.getElem_append_left hik]
            exact ⟨x', e, q⟩
          · have : i = ops.length := by simp at hi; omega
            subst this
            simp only [List.getElem_append_right (Nat.le_refl _), Nat.sub_self, List.getElem_cons_zero]
            rw [hol]
            exact ⟨x, rfl, hat⟩
        · rcases List.mem_append.1 ho' with q | q
          · exact hoa.ok o' q
          · rw [List.mem_singleton.1 q]; exact hok
    obtain ⟨ops, hol, hoa⟩ := this len (Nat.le_refl _)
    refine ⟨ops, hol, hoa, ?_⟩
    have h1 := hw ((len + (m - len)) * Tryd.prog.bytesOf 50) (by
      rw [hd]
      unfold DataW.weights
      rw [Tryd.underlying48]
      simp)
    have h2 : Tryd.prog.bytesOf 50 = 104 := by kernel_rfl
    rw [h2] at h1
    omega
end
end Go.Proofs.YtnaklnehichhpaaDoor.P
