/- The argument of calls, opened: what the claim says of it is what the walk needs. -/
import Derived.Test.YtmjekkkpbcehoaaBv
import Derived.WalkKit
import Derived.ProofKit
import Derived.OpenShut
import Derived.ShutString
import Derived.ChangeOld
import Derived.SizedLaws
import Derived.Deep.Slices
import Derived.Deep.Fields
import Derived.Test.YtmjekkkpbcehoaaWSized
namespace Go.Proofs.Ytmjekkkpbcehoaa.P
open Go.ChangeShapes Go.WideShapes Go.ChangeAt Go.RowKit Go.Deep Go.Proofs.Ytmjekkkpbcehoaa.Bits
open Go.Proofs.YtmjekkkpbcehoaaW.PrintWords
set_option linter.unusedVariables false
set_option linter.unusedSimpArgs false

theorem wf8 {x : Int} (h : (Lit.int .u8 x).wf = true) : 0 ≤ x ∧ x < 256 := by
  unfold Lit.wf at h
  rw [Bool.and_eq_true, decide_eq_true_eq, decide_eq_true_eq] at h
  have h1 : IntKind.u8.min = 0 := by decide
  have h2 : IntKind.u8.max = 255 := by decide
  omega
theorem wf64 {x : Int} (h : (Lit.int .i64 x).wf = true) : -9223372036854775808 ≤ x ∧ x ≤ 9223372036854775807 := by
  unfold Lit.wf at h
  rw [Bool.and_eq_true, decide_eq_true_eq, decide_eq_true_eq] at h
  have h1 : IntKind.i64.min = -9223372036854775808 := by decide
  have h2 : IntKind.i64.max = 9223372036854775807 := by decide
  omega
theorem weights_mem_all {H : Type} {P : Program} {e : TypeId} : ∀ {l : List (DataW H)} {i : Nat} {d : DataW H}, l[i]? = some d → ∀ n ∈ d.weights P e, n ∈ DataW.weightsAll P e l
  | [], i, d, h, n, hn => by simp at h
  | d0 :: r, 0, d, h, n, hn => by
    simp only [List.getElem?_cons_zero, Option.some.injEq] at h
    subst h
    simp only [DataW.weightsAll, List.mem_append]
    exact .inl hn
  | d0 :: r, i + 1, d, h, n, hn => by
    simp only [List.getElem?_cons_succ] at h
    simp only [DataW.weightsAll, List.mem_append]
    exact .inr (weights_mem_all h n hn)

section
variable {H : Type} {enc : TypeId × Value → H} {W : World} {base : Nat} {spare : Nat → Bool} {held : Bool}
/-- A slice of bytes inside an argument. -/
theorem open_bytes {n : Nat} {v : Value} {y : DataW H × List MemPlace} (h : DataW.trod enc Try.prog W base spare held n 22 [v] = some y) (hw : ∀ m ∈ y.1.weights Try.prog 22, m ≤ reachBytes) :
    ∃ (A : Option Addr) (c : Nat) (B : List Int), v = .slice A B.length c ∧ Kd.C (Kd.int .u8) W A B.length B ∧ is8 B ∧ B.length ≤ c ∧ B.length ≤ reachBytes ∧ ∀ ad, A = some ad → 0 < B.length → ad.block < W.heap.size := by
  have fin : ∀ (a0 : Option Addr) (len0 cap0 : Nat) (z0 : List Int), ((a0 = none ∧ len0 = 0 ∧ cap0 = 0 ∧ z0 = []) ∨ ∃ x, a0 = some x ∧ len0 ≤ cap0 ∧ cap0 ≤ maxLen ∧ z0.length = cap0 ∧ (∀ i, i < z0.length → W.cell? (x.add i) = some (.int .u8 (z0.getD i 0))) ∧ ∀ n ∈ z0, (Lit.int .u8 n).wf = true) → len0 ≤ reachBytes →
      ∃ (A : Option Addr) (c : Nat) (B : List Int), (.slice a0 len0 cap0 : Value) = .slice A B.length c ∧ Kd.C (Kd.int .u8) W A B.length B ∧ is8 B ∧ B.length ≤ c ∧ B.length ≤ reachBytes ∧ ∀ ad, A = some ad → 0 < B.length → ad.block < W.heap.size := by
    intro a0 len0 cap0 z0 w0 hr
    obtain ⟨l0, rfl, hr0, hm0, hw0, hc0⟩ := ReadsInt.ofRowC w0
    have hC : Kd.C (Kd.int .u8) W a0 l0.length l0 := Kd.C_of_reads (d := (0 : Int)) (h1 := fun _ => rfl) hr0
    refine ⟨a0, cap0, l0, rfl, hC, fun b hb => wf8 (hw0 b hb), hc0, hr, fun ad e hn => ?_⟩
    obtain ⟨ad', e', hx⟩ := at8 hC 0 hn
    rw [e] at e'
    cases e'
    have := World.block_lt_of_cell? W _ hx
    rwa [add_block] at this
  rcases open_ints Try.underlying22 Try.underlying5 (by kernel_rfl) h with ⟨hcs, _⟩ | ⟨x, l, c, zs, hcs, _, hl, hm, hz, hx, hcell, hwz⟩
  · cases hcs
    exact fin none 0 0 [] (.inl ⟨rfl, rfl, rfl, rfl⟩) (Nat.zero_le _)
  · cases hcs
    have hlz : l ≤ zs.length := by
      rw [hz]
      split
      · exact hl
      · exact Nat.le_refl _
    have hlen : l ≤ reachBytes := by
      subst hx
      have h1 := hw (((lits (H := H) .u8 (zs.take l)).length + (lits (H := H) .u8 (zs.drop l)).length) * Try.prog.bytesOf 5) (by
        unfold DataW.weights
        rw [Try.underlying22]
        exact List.mem_cons_self)
      have h2 : Try.prog.bytesOf 5 = 1 := by kernel_rfl
      rw [h2, Nat.mul_one] at h1
      have h3 : (lits (H := H) .u8 (zs.take l)).length + (lits (H := H) .u8 (zs.drop l)).length = zs.length := by
        simp [lits]
        omega
      omega
    cases hsp : spare x.block with
    | true =>
      rw [hsp, if_pos rfl] at hz
      exact fin (some x) l c zs (.inr ⟨x, rfl, hl, hm, hz, hcell, hwz⟩) hlen
    | false =>
      rw [hsp, if_neg (by decide)] at hz
      obtain ⟨A, c', B, hv, r⟩ := fin (some x) l l zs (.inr ⟨x, rfl, Nat.le_refl _, Nat.le_trans hl hm, hz, hcell, hwz⟩) hlen
      injection hv with h1 h2 h3
      subst h1
      obtain ⟨r1, r2, r3, r4, r5⟩ := r
      exact ⟨_, c, B, by rw [h2], r1, r2, by omega, r4, r5⟩

/-- A call inside an argument. -/
theorem open_op {n : Nat} {cs : List Value} {y : DataW H × List MemPlace} (h : DataW.trod enc Try.prog W base spare held n 41 cs = some y) (hw : ∀ m ∈ y.1.weights Try.prog 41, m ≤ reachBytes) :
    ∃ o : OpD, o.ok W ∧ cs = [.int .u8 (o.kind : Int), .int .i64 o.v, .int .i64 o.n, .slice o.A o.B.length o.c] := by
  obtain ⟨ys, n', rfl, hy, hlen, hyl, hf⟩ := DataW.trod_struct Try.underlying41 h
  have hcl : cs.length = 4 := hlen.trans (by kernel_rfl)
  match cs, hcl with
  | [c0, c1, c2, c3], _ =>
    have hy4 : ys.length = 4 := hyl
    match ys, hy4 with
    | [y0, y1, y2, y3], _ =>
      have e5 : Try.prog.cellsOf 5 = 1 := by kernel_rfl
      have e3 : Try.prog.cellsOf 3 = 1 := by kernel_rfl
      have e22 : Try.prog.cellsOf 22 = 1 := by kernel_rfl
      have f0 := hf 0 _ rfl
      have f1 := hf 1 _ rfl
      have f2 := hf 2 _ rfl
      have f3 := hf 3 _ rfl
      simp only [e5, e3, e22, List.drop_zero, List.drop_succ_cons, List.take_succ_cons, List.take_zero, List.getElem?_cons_zero, List.getElem?_cons_succ] at f0 f1 f2 f3
      obtain ⟨k, hk, _, hkw⟩ := DataW.trod_int Try.underlying5 f0
      obtain ⟨v, hv, _, hvw⟩ := DataW.trod_int Try.underlying3 f1
      obtain ⟨m, hm, _, hmw⟩ := DataW.trod_int Try.underlying3 f2
      cases hk
      cases hv
      cases hm
      obtain ⟨A, c, B, hb, hC, h8, hcap, hr, hlt⟩ := open_bytes f3 (fun q hq => hw q (by
        rw [hy]
        unfold DataW.weights
        rw [Try.underlying41]
        exact DataW.weights_mem_each (j := 3) (t := 22) (d := y3.1) rfl rfl q hq))
      subst hb
      have hk8 := wf8 hkw
      have hrb := reachBytes_lt
      refine ⟨⟨k.toNat, v, m, A, c, B⟩, ⟨by show k.toNat < 256; omega, wf64 hvw, wf64 hmw, hC, h8, hcap, by show B.length ≤ _; omega, hlt⟩, ?_⟩
      show [_, _, _, _] = [(Value.int .u8 (k.toNat : Int)), _, _, _]
      rw [Int.toNat_of_nonneg hk8.1]

/-- The argument of calls. -/
theorem open_ops {a : Option Addr} {len cap : Nat} {d : DataW H} {ps : List MemPlace} (h : DataW.Trod enc Try.prog W base spare held 31 (.slice a len cap) d ps) (hw : ∀ m ∈ d.weights Try.prog 31, m ≤ reachBytes) :
    ∃ ops : List OpD, ops.length = len ∧ OpsAt W a ops ∧ len ≤ reachBytes := by
  obtain ⟨fuel, hf⟩ := h
  rcases open_slice Try.underlying31 hf with ⟨hcs, _⟩ | ⟨x, l, c, m, n, D, Pl, hcs, _, hl, hm, hmm, hx, hi⟩
  · simp [Value.cells] at hcs
    obtain ⟨rfl, rfl, rfl⟩ := hcs
    exact ⟨[], rfl, ⟨fun i hi => by simp at hi, fun o ho => by cases ho⟩, Nat.zero_le _⟩
  · simp [Value.cells] at hcs
    obtain ⟨rfl, rfl, rfl⟩ := hcs
    have hlm : len ≤ m := by
      rw [hmm]
      split
      · exact hl
      · exact Nat.le_refl _
    have hd : d = .slice ((List.range len).map D) ((List.range (m - len)).map fun j => D (len + j)) := by
      injection hx with h1 _
    have eC : Try.prog.cellsOf 41 = 4 := by kernel_rfl
    rw [eC] at hi
    have each : ∀ i, i < len → ∃ o : OpD, o.ok W ∧ W.cell? (x.add (i * 4)) = some (.int .u8 (o.kind : Int)) ∧ W.cell? ⟨(x.add (i * 4)).block, (x.add (i * 4)).off + 1, none⟩ = some (.int .i64 o.v) ∧ W.cell? ⟨(x.add (i * 4)).block, (x.add (i * 4)).off + 2, none⟩ = some (.int .i64 o.n) ∧ W.cell? ⟨(x.add (i * 4)).block, (x.add (i * 4)).off + 3, none⟩ = some (.slice o.A o.B.length o.c) := by
      intro i hlt
      obtain ⟨cs', hc, ht⟩ := hi i (by omega)
      obtain ⟨_, hcl, hat⟩ := World.cells?_some hc
      obtain ⟨o, hok, rfl⟩ := open_op ht (fun q hq => hw q (by
        rw [hd]
        unfold DataW.weights
        rw [Try.underlying31]
        refine List.mem_cons_of_mem _ (List.mem_append_left _ (weights_mem_all (i := i) (d := D i) ?_ q hq))
        simp [hlt]))
      have h0 := hat 0 (by omega)
      have h1 := hat 1 (by omega)
      have h2 := hat 2 (by omega)
      have h3 := hat 3 (by omega)
      exact ⟨o, hok, h0, h1, h2, h3⟩
    have : ∀ k, k ≤ len → ∃ ops : List OpD, ops.length = k ∧ OpsAt W (some x) ops := by
      intro k
      induction k with
      | zero => intro _; exact ⟨[], rfl, ⟨fun i hi => by simp at hi, fun o ho => by cases ho⟩⟩
      | succ k ih =>
        intro hk
        obtain ⟨ops, hol, hoa⟩ := ih (by omega)
        obtain ⟨o, hok, h0, h1, h2, h3⟩ := each k (by omega)
        refine ⟨ops ++ [o], by simp [hol], ⟨fun i hi => ?_, fun o' ho' => ?_⟩⟩
        · by_cases hik : i < ops.length
          · obtain ⟨x', e, q⟩ := hoa.cells i hik
            rw [List.getElem_append_left hik]
            exact ⟨x', e, q⟩
          · have : i = ops.length := by simp at hi; omega
            subst this
            simp only [List.getElem_append_right (Nat.le_refl _), Nat.sub_self, List.getElem_cons_zero]
            rw [hol]
            exact ⟨x, rfl, h0, h1, h2, h3⟩
        · rcases List.mem_append.1 ho' with q | q
          · exact hoa.ok o' q
          · rw [List.mem_singleton.1 q]; exact hok
    obtain ⟨ops, hol, hoa⟩ := this len (Nat.le_refl _)
    refine ⟨ops, hol, hoa, ?_⟩
    have h1 := hw ((len + (m - len)) * Try.prog.bytesOf 41) (by
      rw [hd]
      unfold DataW.weights
      rw [Try.underlying31]
      simp)
    have h2 : Try.prog.bytesOf 41 = 48 := by kernel_rfl
    rw [h2] at h1
    omega
end
end Go.Proofs.Ytmjekkkpbcehoaa.P
