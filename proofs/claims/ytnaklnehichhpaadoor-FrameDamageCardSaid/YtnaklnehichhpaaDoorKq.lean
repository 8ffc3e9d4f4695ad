/- The arguments of chapter 22, opened; the rates that the program lays. -/
import Derived.Test.YtnaklnehichhpaaDoorKp
import Derived.Test.YtnaklnehichhpaaDoorRows
import Derived.WalkKit
import Derived.ProofKit
import Derived.OpenShut
import Derived.ShutString
import Derived.ChangeOld
import Derived.SizedLaws
import Derived.Deep.Slices
import Derived.Deep.Fields
import Derived.LaidMore
import Derived.Lay
import Derived.Stop.Joined
import Derived.Test.YtnaklnehichhpaaDoorWSized
namespace Go.Proofs.YtnaklnehichhpaaDoor.P
open Go.ChangeShapes Go.WideShapes Go.ChangeAt Go.RowKit Go.Deep Go.Proofs.YtnaklnehichhpaaDoor.Bits
open Go.Proofs.YtnaklnehichhpaaDoorW.PrintWords
set_option linter.unusedVariables false
set_option linter.unusedSimpArgs false

theorem wf8 {x : Int} (h : (Lit.int .u8 x).wf = true) : 0 ≤ x ∧ x < 256 := by
  unfold Lit.wf at h
  rw [Bool.and_eq_true, decide_eq_true_eq, decide_eq_true_eq] at h
  have h1 : IntKind.u8.min = 0 := by decide
  have h2 : IntKind.u8.max = 255 := by decide
  omega
theorem wf64 {x : Int} (h : (Lit.int .i64 x).wf = true) : -9223372036854775808 ≤ x ∧ x ≤ 9223372036854775807 := by
  unfold Lit.wf at h
  rw [Bool.and_eq_true, decide_eq_true_eq, decide_eq_true_eq] at h
  have h1 : IntKind.i64.min = -9223372036854775808 := by decide
  have h2 : IntKind.i64.max = 9223372036854775807 := by decide
  omega
theorem weights_mem_all {H : Type} {P : Program} {e : TypeId} : ∀ {l : List (DataW H)} {i : Nat} {d : DataW H}, l[i]? = some d → ∀ n ∈ d.weights P e, n ∈ DataW.weightsAll P e l
  | [], i, d, h, n, hn => by simp at h
  | d0 :: r, 0, d, h, n, hn => by
    simp only [List.getElem?_cons_zero, Option.some.injEq] at h
    subst h
    simp only [DataW.weightsAll, List.mem_append]
    exact .inl hn
  | d0 :: r, i + 1, d, h, n, hn => by
    simp only [List.getElem?_cons_succ] at h
    simp only [DataW.weightsAll, List.mem_append]
    exact .inr (weights_mem_all h n hn)

section
variable {H : Type} {enc : TypeId × Value → H} {W : World} {base : Nat} {spare : Nat → Bool} {held : Bool}
/-- A slice of bytes inside an argument. -/
theorem open_bytes {n : Nat} {v : Value} {y : DataW H × List MemPlace} (h : DataW.trod enc Tryd.prog W base spare held n 24 [v] = some y) (hw : ∀ m ∈ y.1.weights Tryd.prog 24, m ≤ reachBytes) :
    ∃ (A : Option Addr) (c : Nat) (B : List Int), v = .slice A B.length c ∧ Kd.C (Kd.int .u8) W A B.length B ∧ is8 B ∧ B.length ≤ c ∧ B.length ≤ reachBytes ∧ ∀ ad, A = some ad → 0 < B.length → ad.block < W.heap.size := by
  have fin : ∀ (a0 : Option Addr) (len0 cap0 : Nat) (z0 : List Int), ((a0 = none ∧ len0 = 0 ∧ cap0 = 0 ∧ z0 = []) ∨ ∃ x, a0 = some x ∧ len0 ≤ cap0 ∧ cap0 ≤ maxLen ∧ z0.length = cap0 ∧ (∀ i, i < z0.length → W.cell? (x.add i) = some (.int .u8 (z0.getD i 0))) ∧ ∀ n ∈ z0, (Lit.int .u8 n).wf = true) → len0 ≤ reachBytes →
      ∃ (A : Option Addr) (c : Nat) (B : List Int), (.slice a0 len0 cap0 : Value) = .slice A B.length c ∧ Kd.C (Kd.int .u8) W A B.length B ∧ is8 B ∧ B.length ≤ c ∧ B.length ≤ reachBytes ∧ ∀ ad, A = some ad → 0 < B.length → ad.block < W.heap.size := by
    intro a0 len0 cap0 z0 w0 hr
    obtain ⟨l0, rfl, hr0, hm0, hw0, hc0⟩ := ReadsInt.ofRowC w0
    have hC : Kd.C (Kd.int .u8) W a0 l0.length l0 := Kd.C_of_reads (d := (0 : Int)) (h1 := fun _ => rfl) hr0
    refine ⟨a0, cap0, l0, rfl, hC, fun b hb => wf8 (hw0 b hb), hc0, hr, fun ad e hn => ?_⟩
    obtain ⟨ad', e', hx⟩ := at8 hC 0 hn
    rw [e] at e'
    cases e'
    have := World.block_lt_of_cell? W _ hx
    rwa [add_block] at this
  rcases open_ints Tryd.underlying24 Tryd.underlying5 (by kernel_rfl) h with ⟨hcs, _⟩ | ⟨x, l, c, zs, hcs, _, hl, hm, hz, hx, hcell, hwz⟩
  · cases hcs
    exact fin none 0 0 [] (.inl ⟨rfl, rfl, rfl, rfl⟩) (Nat.zero_le _)
  · cases hcs
    have hlz : l ≤ zs.length := by
      rw [hz]
      split
      · exact hl
      · exact Nat.le_refl _
    have hlen : l ≤ reachBytes := by
      subst hx
      have h1 := hw (((lits (H := H) .u8 (zs.take l)).length + (lits (H := H) .u8 (zs.drop l)).length) * Tryd.prog.bytesOf 5) (by
        unfold DataW.weights
        rw [Tryd.underlying24]
        exact List.mem_cons_self)
      have h2 : Tryd.prog.bytesOf 5 = 1 := by kernel_rfl
      rw [h2, Nat.mul_one] at h1
      have h3 : (lits (H := H) .u8 (zs.take l)).length + (lits (H := H) .u8 (zs.drop l)).length = zs.length := by
        simp [lits]
        omega
      omega
    cases hsp : spare x.block with
    | true =>
      rw [hsp, if_pos rfl] at hz
      exact fin (some x) l c zs (.inr ⟨x, rfl, hl, hm, hz, hcell, hwz⟩) hlen
    | false =>
      rw [hsp, if_neg (by decide)] at hz
      obtain ⟨A, c', B, hv, r⟩ := fin (some x) l l zs (.inr ⟨x, rfl, Nat.le_refl _, Nat.le_trans hl hm, hz, hcell, hwz⟩) hlen
      injection hv with h1 h2 h3
      subst h1
      obtain ⟨r1, r2, r3, r4, r5⟩ := r
      exact ⟨_, c, B, by rw [h2], r1, r2, by omega, r4, r5⟩

set_option maxRecDepth 100000 in
/-- A header inside an argument. -/
theorem open_hd {n : Nat} {cs : List Value} {y : DataW H × List MemPlace} (h : DataW.trod enc Tryd.prog W base spare held n 23 cs = some y) :
    ∃ hd : HD, cs = [.int .i64 hd.num, .bool hd.lossy, .int .i64 hd.rate, .int .i64 hd.ch, .int .i64 hd.kind, .int .i64 hd.count, .int .i64 hd.back] := by
  obtain ⟨ys, n', rfl, hy, hlen, hyl, hf⟩ := DataW.trod_struct Tryd.underlying23 h
  have hcl : cs.length = 7 := hlen.trans (by kernel_rfl)
  match cs, hcl with
  | [c0, c1, c2, c3, c4, c5, c6], _ =>
    have hy7 : ys.length = 7 := hyl
    match ys, hy7 with
    | [y0, y1, y2, y3, y4, y5, y6], _ =>
      have e3 : Tryd.prog.cellsOf 3 = 1 := by kernel_rfl
      have e4 : Tryd.prog.cellsOf 4 = 1 := by kernel_rfl
      have f0 := hf 0 _ rfl
      have f1 := hf 1 _ rfl
      have f2 := hf 2 _ rfl
      have f3 := hf 3 _ rfl
      have f4 := hf 4 _ rfl
      have f5 := hf 5 _ rfl
      have f6 := hf 6 _ rfl
      simp only [e3, e4, List.drop_zero, List.drop_succ_cons, List.take_succ_cons, List.take_zero, List.getElem?_cons_zero, List.getElem?_cons_succ] at f0 f1 f2 f3 f4 f5 f6
      obtain ⟨x0, h0, _, _⟩ := DataW.trod_int Tryd.underlying3 f0
      obtain ⟨x2, h2, _, _⟩ := DataW.trod_int Tryd.underlying3 f2
      obtain ⟨x3, h3, _, _⟩ := DataW.trod_int Tryd.underlying3 f3
      obtain ⟨x4, h4, _, _⟩ := DataW.trod_int Tryd.underlying3 f4
      obtain ⟨x5, h5, _, _⟩ := DataW.trod_int Tryd.underlying3 f5
      obtain ⟨x6, h6, _, _⟩ := DataW.trod_int Tryd.underlying3 f6
      obtain ⟨x1, h1, _⟩ := DataW.trod_bool Tryd.underlying4 f1
      cases h0
      cases h1
      cases h2
      cases h3
      cases h4
      cases h5
      cases h6
      exact ⟨⟨x0, x1, x2, x3, x4, x5, x6⟩, rfl⟩
set_option maxRecDepth 100000 in
/-- Two slices of bytes inside an argument. -/
theorem open_two {n : Nat} {cs : List Value} {y : DataW H × List MemPlace} (h : DataW.trod enc Tryd.prog W base spare held n 43 cs = some y) (hw : ∀ m ∈ y.1.weights Tryd.prog 43, m ≤ reachBytes) :
    ∃ (A0 : Option Addr) (c0 : Nat) (B0 : List Int) (A1 : Option Addr) (c1 : Nat) (B1 : List Int), cs = [.slice A0 B0.length c0, .slice A1 B1.length c1] ∧ (Kd.C (Kd.int .u8) W A0 B0.length B0 ∧ is8 B0 ∧ B0.length ≤ c0 ∧ B0.length ≤ reachBytes) ∧ (Kd.C (Kd.int .u8) W A1 B1.length B1 ∧ is8 B1 ∧ B1.length ≤ c1 ∧ B1.length ≤ reachBytes) := by
  obtain ⟨xs, m, rfl, hy, hlen, hxl, hf⟩ := DataW.trod_array Tryd.underlying43 h
  have e1 : Tryd.prog.cellsOf 24 = 1 := by kernel_rfl
  have hcl : cs.length = 2 := hlen.trans (by kernel_rfl)
  match cs, hcl with
  | [c0, c1], _ =>
    match xs, hxl with
    | [x0, x1], _ =>
      have f0 := hf 0 (by decide)
      have f1 := hf 1 (by decide)
      simp only [e1, Nat.zero_mul, Nat.one_mul, List.drop_zero, List.drop_succ_cons, List.take_succ_cons, List.take_zero, List.getElem?_cons_zero, List.getElem?_cons_succ] at f0 f1
      obtain ⟨A0, k0, B0, hb0, hC0, h80, hk0, hr0, _⟩ := open_bytes f0 (fun q hq => hw q (by
        rw [hy]
        unfold DataW.weights
        rw [Tryd.underlying43]
        exact weights_mem_all (i := 0) (d := x0.1) rfl q hq))
      obtain ⟨A1, k1, B1, hb1, hC1, h81, hk1, hr1, _⟩ := open_bytes f1 (fun q hq => hw q (by
        rw [hy]
        unfold DataW.weights
        rw [Tryd.underlying43]
        exact weights_mem_all (i := 1) (d := x1.1) rfl q hq))
      subst hb0
      subst hb1
      exact ⟨A0, k0, B0, A1, k1, B1, rfl, ⟨hC0, h80, hk0, hr0⟩, hC1, h81, hk1, hr1⟩
end
theorem okWide_array {P : Program} {w : World} {r : Reach} {base : Nat} {t : TypeId} {v : Value} {n : Nat} {e : TypeId} (ht : P.underlying t = some (.array n e)) (h : Value.okWide P w r base t v) : ∃ cs, v = .agg cs ∧ cs.size = P.cellsOf t := by
  simp only [Value.okWide, ht] at h
  obtain ⟨cs, h1, h2, _⟩ := h
  exact ⟨cs, h1, h2⟩
set_option maxRecDepth 100000 in
/-- What the laid variable gives the walks. -/
theorem of_laid {W : World} (h : laidMetH Tryd.prog Rows.frameBackRow.laid W) : HG W := by
  rw [MakeChecks.laidMetH_plain _ _ _ (by kernel_rfl)] at h
  obtain ⟨ps, ⟨g, t, cs, fuel, p, q, hg, ht, hv, hd, _, _⟩, _, _⟩ := h
  obtain rfl := Option.some.inj ((show Tryd.prog.globalNamed "shawm/frame.rates" = some 0 by kernel_rfl).symm.trans hg)
  obtain rfl := Option.some.inj ((show (Tryd.prog.globals[0]?).map (·.type) = some 96 by kernel_rfl).symm.trans ht)
  obtain ⟨xs, m, _, ex, hcl, hl, hel⟩ := DataW.trod_array Tryd.underlying96 hd
  have c3 : Tryd.prog.cellsOf 3 = 1 := by kernel_rfl
  have c9 : Tryd.prog.cellsOf 96 = 9 := by kernel_rfl
  rw [c9] at hcl
  have e3 : (xs.map (·.1)) = [.lit (.int .i64 8000), .lit (.int .i64 11025), .lit (.int .i64 12000), .lit (.int .i64 16000), .lit (.int .i64 22050), .lit (.int .i64 24000), .lit (.int .i64 32000), .lit (.int .i64 44100), .lit (.int .i64 48000)] := (DataW.agg.inj (Prod.mk.inj ex).1).symm
  have hcs : cs = rateCells := by
    have key : ∀ r, r < 9 → cs.toList[r]? = (rateCells.toList)[r]? := by
      intro r hr
      have hE := hel r hr
      rw [c3, Nat.mul_one, List.getElem?_eq_getElem (by omega)] at hE
      obtain ⟨z, e1, e2, _⟩ := DataW.trod_int Tryd.underlying3 hE
      have e4 : (xs.map (·.1))[r]? = some (.lit (.int .i64 z)) := by rw [List.getElem?_map, List.getElem?_eq_getElem (by omega : r < xs.length)]; simp [e2]
      have : cs.toList[r]? = some (.int .i64 z) := by
        have h0 : ((cs.toList.drop r).take 1)[0]? = some (.int .i64 z) := by rw [e1]; rfl
        simpa using h0
      rw [this]
      rw [e3] at e4
      match r, hr with
      | 0, _ | 1, _ | 2, _ | 3, _ | 4, _ | 5, _ | 6, _ | 7, _ | 8, _ => simp at e4; simp [e4]
    have : cs.toList = rateCells.toList := by
      apply List.ext_getElem?
      intro r
      by_cases hr : r < 9
      · exact key r hr
      · rw [List.getElem?_eq_none (by omega), List.getElem?_eq_none (by simp; omega)]
    exact Array.toList_inj.1 this
  subst hcs
  simp only [World.var?, hg, Option.bind_some] at hv
  unfold HG
  cases hk : W.heap[0]? with
  | none => rw [hk] at hv; cases hv
  | some o =>
    rw [hk] at hv
    cases o with
    | cells c t fr => simp only [Option.some.injEq] at hv; subst hv; exact ⟨t, fr, rfl⟩
    | _ => cases hv
end Go.Proofs.YtnaklnehichhpaaDoor.P
