/- The arguments of chapter 27, opened; the rates that the program lays. A tag and a sound that are arguments, opened. -/
import Derived.Test.YthlmnnjbpikijaaDoorRows
import Derived.WalkKit
import Derived.ProofKit
import Derived.OpenShut
import Derived.ShutString
import Derived.ChangeOld
import Derived.SizedLaws
import Derived.SliceStrings
import Derived.Deep.Slices
import Derived.Deep.Fields
import Derived.LaidMore
import Derived.Lay
import Derived.Stop.Joined
import Derived.Test.YthlmnnjbpikijaaDoorZTr15
import Derived.Test.YthlmnnjbpikijaaDoorZTr10
import Derived.Test.YthlmnnjbpikijaaDoorZTr27
section
namespace Go.Proofs.YthlmnnjbpikijaaDoor.P
open Go.RowKit Go.Shelf Go.Proofs.YthlmnnjbpikijaaDoor.Bits Go.Proofs.YthlmnnjbpikijaaDoorW.PrintWords Go.Proofs.YthlmnnjbpikijaaDoorW.PrintLast Go.Proofs.YthlmnnjbpikijaaDoorW.PrintMore
set_option linter.unusedVariables false
set_option linter.unusedSimpArgs false
theorem wf64 {x : Int} (h : (Lit.int .i64 x).wf = true) : -9223372036854775808 ≤ x ∧ x ≤ 9223372036854775807 := by
  unfold Lit.wf at h
  rw [Bool.and_eq_true, decide_eq_true_eq, decide_eq_true_eq] at h
  have h1 : IntKind.i64.min = -9223372036854775808 := by decide
  have h2 : IntKind.i64.max = 9223372036854775807 := by decide
  omega
theorem weights_mem_all {H : Type} {P : Program} {e : TypeId} : ∀ {l : List (DataW H)} {i : Nat} {d : DataW H}, l[i]? = some d → ∀ n ∈ d.weights P e, n ∈ DataW.weightsAll P e l
  | [], i, d, h, n, hn => by simp at h
  | d0 :: r, 0, d, h, n, hn => by
    simp only [List.getElem?_cons_zero, Option.some.injEq] at h
    subst h
    simp only [DataW.weightsAll, List.mem_append]
    exact .inl hn
  | d0 :: r, i + 1, d, h, n, hn => by
    simp only [List.getElem?_cons_succ] at h
    simp only [DataW.weightsAll, List.mem_append]
    exact .inr (weights_mem_all h n hn)
set_option maxRecDepth 100000 in
/-- What the laid variable gives the walks. -/
theorem of_laid {W : World} (h : laidMetH Tryd.prog Rows.tagStuffsRow.laid W) : HG W := by
  rw [MakeChecks.laidMetH_plain _ _ _ (by kernel_rfl)] at h
  obtain ⟨ps, ⟨g, t, cs, fuel, p, q, hg, ht, hv, hd, _, _⟩, _, _⟩ := h
  obtain rfl := Option.some.inj ((show Tryd.prog.globalNamed "shawm/tag.rates" = some 0 by kernel_rfl).symm.trans hg)
  obtain rfl := Option.some.inj ((show (Tryd.prog.globals[0]?).map (·.type) = some 99 by kernel_rfl).symm.trans ht)
  obtain ⟨xs, m, _, ex, hcl, hl, hel⟩ := DataW.trod_array Tryd.underlying99 hd
  have c3 : Tryd.prog.cellsOf 3 = 1 := by kernel_rfl
  have c9 : Tryd.prog.cellsOf 99 = 9 := by kernel_rfl
  rw [c9] at hcl
  have e3 : (xs.map (·.1)) = [.lit (.int .i64 8000), .lit (.int .i64 11025), .lit (.int .i64 12000), .lit (.int .i64 16000), .lit (.int .i64 22050), .lit (.int .i64 24000), .lit (.int .i64 32000), .lit (.int .i64 44100), .lit (.int .i64 48000)] := (DataW.agg.inj (Prod.mk.inj ex).1).symm
  have hcs : cs = rateCells := by
    have key : ∀ r, r < 9 → cs.toList[r]? = (rateCells.toList)[r]? := by
      intro r hr
      have hE := hel r hr
      rw [c3, Nat.mul_one, List.getElem?_eq_getElem (by omega)] at hE
      obtain ⟨z, e1, e2, _⟩ := DataW.trod_int Tryd.underlying3 hE
      have e4 : (xs.map (·.1))[r]? = some (.lit (.int .i64 z)) := by rw [List.getElem?_map, List.getElem?_eq_getElem (by omega : r < xs.length)]; simp [e2]
      have : cs.toList[r]? = some (.int .i64 z) := by
        have h0 : ((cs.toList.drop r).take 1)[0]? = some (.int .i64 z) := by rw [e1]; rfl
        simpa using h0
      rw [this]
      rw [e3] at e4
      match r, hr with
      | 0, _ | 1, _ | 2, _ | 3, _ | 4, _ | 5, _ | 6, _ | 7, _ | 8, _ => simp at e4; simp [e4]
    have : cs.toList = rateCells.toList := by
      apply List.ext_getElem?
      intro r
      by_cases hr : r < 9
      · exact key r hr
      · rw [List.getElem?_eq_none (by omega), List.getElem?_eq_none (by simp; omega)]
    exact Array.toList_inj.1 this
  subst hcs
  simp only [World.var?, hg, Option.bind_some] at hv
  unfold HG
  cases hk : W.heap[0]? with
  | none => rw [hk] at hv; cases hv
  | some o =>
    rw [hk] at hv
    cases o with
    | cells c t fr => simp only [Option.some.injEq] at hv; subst hv; exact ⟨t, fr, rfl⟩
    | _ => cases hv
section
open Go.ChangeShapes Go.WideShapes Go.ChangeAt Go.Deep
variable {H : Type} {enc : TypeId × Value → H} {W : World} {base : Nat} {spare : Nat → Bool} {held : Bool}
/-- A slice of ints inside an argument. -/
theorem open_list {n : Nat} {v : Value} {y : DataW H × List MemPlace} (h : DataW.trod enc Tryd.prog W base spare held n 59 [v] = some y) (hw : ∀ m ∈ y.1.weights Tryd.prog 59, m ≤ reachBytes) :
    ∃ (A : Option Addr) (c : Nat) (B : List Int), v = .slice A B.length c ∧ Kd.C (Kd.int .i64) W A B.length B ∧ (∀ x ∈ B, -9223372036854775808 ≤ x ∧ x ≤ 9223372036854775807) ∧ B.length ≤ c ∧ B.length ≤ reachBytes := by
  have fin : ∀ (a0 : Option Addr) (len0 cap0 : Nat) (z0 : List Int), ((a0 = none ∧ len0 = 0 ∧ cap0 = 0 ∧ z0 = []) ∨ ∃ x, a0 = some x ∧ len0 ≤ cap0 ∧ cap0 ≤ maxLen ∧ z0.length = cap0 ∧ (∀ i, i < z0.length → W.cell? (x.add i) = some (.int .i64 (z0.getD i 0))) ∧ ∀ n ∈ z0, (Lit.int .i64 n).wf = true) → len0 ≤ reachBytes →
      ∃ (A : Option Addr) (c : Nat) (B : List Int), (.slice a0 len0 cap0 : Value) = .slice A B.length c ∧ Kd.C (Kd.int .i64) W A B.length B ∧ (∀ x ∈ B, -9223372036854775808 ≤ x ∧ x ≤ 9223372036854775807) ∧ B.length ≤ c ∧ B.length ≤ reachBytes := by
    intro a0 len0 cap0 z0 w0 hr
    obtain ⟨l0, rfl, hr0, hm0, hw0, hc0⟩ := ReadsInt.ofRowC w0
    have hC : Kd.C (Kd.int .i64) W a0 l0.length l0 := Kd.C_of_reads (d := (0 : Int)) (h1 := fun _ => rfl) hr0
    exact ⟨a0, cap0, l0, rfl, hC, fun b hb => wf64 (hw0 b hb), hc0, hr⟩
  rcases open_ints Tryd.underlying59 Tryd.underlying3 (by kernel_rfl) h with ⟨hcs, _⟩ | ⟨x, l, c, zs, hcs, _, hl, hm, hz, hx, hcell, hwz⟩
  · cases hcs
    exact fin none 0 0 [] (.inl ⟨rfl, rfl, rfl, rfl⟩) (Nat.zero_le _)
  · cases hcs
    have hlz : l ≤ zs.length := by
      rw [hz]
      split
      · exact hl
      · exact Nat.le_refl _
    have hlen : l ≤ reachBytes := by
      subst hx
      have h1 := hw (((lits (H := H) .i64 (zs.take l)).length + (lits (H := H) .i64 (zs.drop l)).length) * Tryd.prog.bytesOf 3) (by
        unfold DataW.weights
        rw [Tryd.underlying59]
        exact List.mem_cons_self)
      have h2 : Tryd.prog.bytesOf 3 = 8 := by kernel_rfl
      rw [h2] at h1
      have h3 : (lits (H := H) .i64 (zs.take l)).length + (lits (H := H) .i64 (zs.drop l)).length = zs.length := by
        simp [lits]
        omega
      omega
    cases hsp : spare x.block with
    | true =>
      rw [hsp, if_pos rfl] at hz
      exact fin (some x) l c zs (.inr ⟨x, rfl, hl, hm, hz, hcell, hwz⟩) hlen
    | false =>
      rw [hsp, if_neg (by decide)] at hz
      obtain ⟨A, c', B, hv, r⟩ := fin (some x) l l zs (.inr ⟨x, rfl, Nat.le_refl _, Nat.le_trans hl hm, hz, hcell, hwz⟩) hlen
      injection hv with h1 h2 h3
      subst h1
      obtain ⟨r1, r2, r3, r4⟩ := r
      exact ⟨_, c, B, by rw [h2], r1, r2, by omega, r4⟩
/-- One of the lists of an argument. -/
def LAt (W : World) (ad : Addr) (x : List Int) : Prop := ∃ A c, W.cell? ad = some (.slice A x.length c) ∧ x.length ≤ c ∧ Kd.C (Kd.int .i64) W A x.length x ∧ x.length ≤ reachBytes
set_option maxRecDepth 100000 in
/-- A slice of slices of ints that is an argument. -/
theorem open_lists {a : Option Addr} {len cap : Nat} {d : DataW H} {ps : List MemPlace} (h : DataW.Trod enc Tryd.prog W base spare held 44 (.slice a len cap) d ps) (hw : ∀ m ∈ d.weights Tryd.prog 44, m ≤ reachBytes) :
    ∃ ls : List (List Int), ls.length = len ∧ Kd.C KdL W a ls.length ls ∧ len ≤ cap ∧ len ≤ reachBytes ∧ ∀ x ∈ ls, x.length ≤ reachBytes := by
  obtain ⟨fuel, hf⟩ := h
  rcases open_slice Tryd.underlying44 hf with ⟨hcs, _⟩ | ⟨x, l, c, m, n, D, Pl, hcs, _, hl, hm, hmm, hx, hi⟩
  · simp [Value.cells] at hcs
    obtain ⟨rfl, rfl, rfl⟩ := hcs
    exact ⟨[], rfl, ⟨rfl, by decide, fun h => absurd h (by simp)⟩, Nat.le_refl _, Nat.zero_le _, fun x hx => by cases hx⟩
  · simp [Value.cells] at hcs
    obtain ⟨rfl, rfl, rfl⟩ := hcs
    have hlm : len ≤ m := by
      rw [hmm]
      split
      · exact hl
      · exact Nat.le_refl _
    have hd : d = .slice ((List.range len).map D) ((List.range (m - len)).map fun j => D (len + j)) := by
      injection hx with h1 _
    have eC : Tryd.prog.cellsOf 59 = 1 := by kernel_rfl
    rw [eC] at hi
    have each : ∀ i, i < len → ∃ o : List Int, LAt W (x.add i) o := by
      intro i hlt
      obtain ⟨cs', hc, ht⟩ := hi i (by omega)
      obtain ⟨_, hcl, hat⟩ := World.cells?_some hc
      obtain ⟨v, rfl⟩ : ∃ v, cs' = [v] := by
        match cs', hcl with
        | [v], _ => exact ⟨v, rfl⟩
      obtain ⟨A, c', B, rfl, hC, _, hcc, hr⟩ := open_list ht (fun q hq => hw q (by
        rw [hd]
        unfold DataW.weights
        rw [Tryd.underlying44]
        refine List.mem_cons_of_mem _ (List.mem_append_left _ (weights_mem_all (i := i) (d := D i) ?_ q hq))
        simp [hlt]))
      have h0 := hat 0 (by omega)
      rw [Nat.mul_one] at h0
      refine ⟨B, A, c', ?_, hcc, hC, hr⟩
      have e : (x.add i).add 0 = x.add i := by simp [Addr.add]
      rw [← e]
      exact h0
    have : ∀ k, k ≤ len → ∃ ls : List (List Int), ls.length = k ∧ ∀ i (h : i < ls.length), LAt W (x.add i) ls[i] := by
      intro k
      induction k with
      | zero => intro _; exact ⟨[], rfl, fun i hi => by simp at hi⟩
      | succ k ih =>
        intro hk
        obtain ⟨ls, hol, hoa⟩ := ih (by omega)
        obtain ⟨o, hat⟩ := each k (by omega)
        refine ⟨ls ++ [o], by simp [hol], fun i hi => ?_⟩
        by_cases hik : i < ls.length
        · rw [List.getElem_append_left hik]
          exact hoa i hik
        · have : i = ls.length := by simp at hi; omega
          subst this
          simp only [List.getElem_append_right (Nat.le_refl _), Nat.sub_self, List.getElem_cons_zero]
          rw [hol]
          exact hat
    obtain ⟨ls, hol, hoa⟩ := this len (Nat.le_refl _)
    have hlr : len ≤ reachBytes := by
      have h1 := hw ((len + (m - len)) * Tryd.prog.bytesOf 59) (by
        rw [hd]
        unfold DataW.weights
        rw [Tryd.underlying44]
        simp)
      have h2 : Tryd.prog.bytesOf 59 = 24 := by kernel_rfl
      rw [h2] at h1
      omega
    have hrb := reachBytes_lt
    refine ⟨ls, hol, ⟨rfl, by omega, fun _ => ⟨x, rfl, fun j p hj => ?_⟩⟩, hl, hlr, fun y hy => ?_⟩
    · obtain ⟨hj2, rfl⟩ := List.getElem?_eq_some_iff.1 hj
      obtain ⟨A1, c1, hce, hc1, hC1, _⟩ := hoa j hj2
      refine ⟨[.slice A1 ls[j].length c1], rfl, ⟨A1, c1, rfl, hc1, hC1⟩, fun i u hu => ?_⟩
      have hi : i < 1 := (List.getElem?_eq_some_iff.1 hu).1
      obtain rfl : i = 0 := by omega
      obtain rfl := Option.some.inj hu
      show W.cell? (x.add (j * 1 + 0)) = _
      simpa using hce
    · obtain ⟨j, hj, rfl⟩ := List.getElem_of_mem hy
      exact (hoa j hj).choose_spec.choose_spec.2.2.2
end
end Go.Proofs.YthlmnnjbpikijaaDoor.P
end
section
namespace Go.Proofs.YthlmnnjbpikijaaDoor.P
open Go.ChangeShapes Go.WideShapes Go.ChangeAt Go.RowKit Go.Deep Go.Proofs.YthlmnnjbpikijaaDoor.Bits
open Go.Proofs.YthlmnnjbpikijaaDoorW.PrintWords
set_option linter.unusedVariables false
set_option linter.unusedSimpArgs false
section
variable {H : Type} {enc : TypeId × Value → H} {W : World} {base : Nat} {spare : Nat → Bool} {held : Bool}
theorem bsize (s : ByteArray) (n : Nat) (h : s.data.toList.length ≤ n) : s.size ≤ n := by rw [Array.length_toList] at h; exact h
theorem open_str {n : Nat} {v : Value} {y : DataW H × List MemPlace} (h : DataW.trod enc Tryd.prog W base spare held n 9 [v] = some y) (hw : ∀ m ∈ y.1.weights Tryd.prog 9, m ≤ reachBytes) :
    ∃ s : ByteArray, v = .string s ∧ s.size ≤ reachBytes := by
  obtain ⟨s, e, hx, _⟩ := DataW.trod_string Tryd.underlying9 h
  cases e
  refine ⟨s, rfl, ?_⟩
  have := hw s.data.toList.length (by rw [hx]; unfold DataW.weights; exact List.mem_cons_self)
  exact bsize _ _ this
set_option maxRecDepth 100000 in
theorem open_entry {n : Nat} {cs : List Value} {y : DataW H × List MemPlace} (h : DataW.trod enc Tryd.prog W base spare held n 56 cs = some y) (hw : ∀ m ∈ y.1.weights Tryd.prog 56, m ≤ reachBytes) :
    ∃ p : S56, cs = [.string p.f0, .string p.f1] ∧ p.f0.size ≤ reachBytes ∧ p.f1.size ≤ reachBytes := by
  obtain ⟨ys, n', rfl, hy, hlen, hyl, hf⟩ := DataW.trod_struct Tryd.underlying56 h
  have hcl : cs.length = 2 := hlen.trans (by kernel_rfl)
  match cs, hcl with
  | [c0, c1], _ =>
    have hy3 : ys.length = 2 := hyl
    match ys, hy3 with
    | [y0, y1], _ =>
      have e5 : Tryd.prog.cellsOf 9 = 1 := by kernel_rfl
      have f0 := hf 0 _ rfl
      have f1 := hf 1 _ rfl
      simp only [e5, List.drop_zero, List.drop_succ_cons, List.take_succ_cons, List.take_zero, List.getElem?_cons_zero, List.getElem?_cons_succ] at f0 f1
      obtain ⟨s0, rfl, h0⟩ := open_str f0 (fun q hq => hw q (by
        rw [hy]
        unfold DataW.weights
        rw [Tryd.underlying56]
        exact DataW.weights_mem_each (j := 0) (t := 9) (d := y0.1) rfl rfl q hq))
      obtain ⟨s1, rfl, h1⟩ := open_str f1 (fun q hq => hw q (by
        rw [hy]
        unfold DataW.weights
        rw [Tryd.underlying56]
        exact DataW.weights_mem_each (j := 1) (t := 9) (d := y1.1) rfl rfl q hq))
      exact ⟨⟨s0, s1⟩, rfl, h0, h1⟩
def EAt (W : World) (ad : Addr) (p : S56) : Prop := W.cell? (ad.add 0) = some (.string p.f0) ∧ W.cell? (ad.add 1) = some (.string p.f1) ∧ p.f0.size ≤ reachBytes ∧ p.f1.size ≤ reachBytes
set_option maxRecDepth 100000 in
/-- The fields of a tag that is an argument. -/
theorem open_entries {n : Nat} {v : Value} {y : DataW H × List MemPlace} (h : DataW.trod enc Tryd.prog W base spare held n 22 [v] = some y) (hw : ∀ m ∈ y.1.weights Tryd.prog 22, m ≤ reachBytes) :
    ∃ (A : Option Addr) (c : Nat) (ls : List S56), v = .slice A ls.length c ∧ Kd.C k56 W A ls.length ls ∧ ls.length ≤ c ∧ ls.length ≤ reachBytes ∧ ∀ p ∈ ls, p.f0.size ≤ reachBytes ∧ p.f1.size ≤ reachBytes := by
  rcases open_slice Tryd.underlying22 h with ⟨hcs, _⟩ | ⟨x, len, cap, m, n, D, Pl, hcs, _, hl, hm, hmm, hx, hi⟩
  · cases hcs
    exact ⟨none, 0, [], rfl, ⟨rfl, by decide, fun h => absurd h (by simp)⟩, Nat.le_refl _, Nat.zero_le _, fun x hx => by cases hx⟩
  · cases hcs
    have hlm : len ≤ m := by
      rw [hmm]
      split
      · exact hl
      · exact Nat.le_refl _
    have hd : y.1 = .slice ((List.range len).map D) ((List.range (m - len)).map fun j => D (len + j)) := by rw [hx]
    have eC : Tryd.prog.cellsOf 56 = 2 := by kernel_rfl
    rw [eC] at hi
    have each : ∀ i, i < len → ∃ o : S56, EAt W (x.add (i * 2)) o := by
      intro i hlt
      obtain ⟨cs', hc, ht⟩ := hi i (by omega)
      obtain ⟨_, hcl, hat⟩ := World.cells?_some hc
      obtain ⟨p, rfl, h0, h1⟩ := open_entry ht (fun q hq => hw q (by
        rw [hd]
        unfold DataW.weights
        rw [Tryd.underlying22]
        refine List.mem_cons_of_mem _ (List.mem_append_left _ (weights_mem_all (i := i) (d := D i) ?_ q hq))
        simp [hlt]))
      exact ⟨p, hat 0 (by simp), hat 1 (by simp), h0, h1⟩
    have : ∀ k, k ≤ len → ∃ ls : List S56, ls.length = k ∧ ∀ i (h : i < ls.length), EAt W (x.add (i * 2)) ls[i] := by
      intro k
      induction k with
      | zero => intro _; exact ⟨[], rfl, fun i hi => by simp at hi⟩
      | succ k ih =>
        intro hk
        obtain ⟨ls, hol, hoa⟩ := ih (by omega)
        obtain ⟨o, hat⟩ := each k (by omega)
        refine ⟨ls ++ [o], by simp [hol], fun i hi => ?_⟩
        by_cases hik : i < ls.length
        · rw [List.getElem_append_left hik]
          exact hoa i hik
        · have : i = ls.length := by simp at hi; omega
          subst this
          simp only [List.getElem_append_right (Nat.le_refl _), Nat.sub_self, List.getElem_cons_zero]
          rw [hol]
          exact hat
    obtain ⟨ls, hol, hoa⟩ := this len (Nat.le_refl _)
    have hlr : len ≤ reachBytes := by
      have h1 := hw ((len + (m - len)) * Tryd.prog.bytesOf 56) (by
        rw [hd]
        unfold DataW.weights
        rw [Tryd.underlying22]
        simp)
      have h2 : Tryd.prog.bytesOf 56 = 32 := by kernel_rfl
      rw [h2] at h1
      omega
    have hrb := reachBytes_lt
    refine ⟨some x, cap, ls, by rw [hol], ⟨rfl, by omega, fun _ => ⟨x, rfl, fun j p hj => ?_⟩⟩, by omega, by omega, fun y hy => ?_⟩
    · obtain ⟨hj2, rfl⟩ := List.getElem?_eq_some_iff.1 hj
      obtain ⟨h0, h1, _⟩ := hoa j hj2
      refine ⟨[.string ls[j].f0, .string ls[j].f1], rfl, k56_mk W ls[j], fun i u hu => ?_⟩
      have hi2 : i < 2 := (List.getElem?_eq_some_iff.1 hu).1
      have ea : ∀ b, x.add (j * 2 + b) = (x.add (j * 2)).add b := fun b => by
        by_cases hb : b = 0
        · subst hb; simp [Addr.add]
        · by_cases hj0 : j = 0
          · simp [Addr.add, hb, hj0]
          · have h2 : j * 2 ≠ 0 := by omega
            have h3 : j * 2 + b ≠ 0 := by omega
            unfold Addr.add
            rw [if_neg h2, if_neg hb, if_neg h3, Nat.add_assoc]
      show W.cell? (x.add (j * 2 + i)) = _
      rw [ea]
      rcases (show i = 0 ∨ i = 1 by omega) with rfl | rfl
      · rw [h0, ← hu]; rfl
      · rw [h1, ← hu]; rfl
    · obtain ⟨j, hj, rfl⟩ := List.getElem_of_mem hy
      exact (hoa j hj).2.2
/-- What is known of a tag that is an argument. -/
structure TagArg (W : World) (s u : Int) (A : Option Addr) (c : Nat) (l : List S56) : Prop where
  s64 : -9223372036854775808 ≤ s ∧ s ≤ 9223372036854775807
  u64 : -9223372036854775808 ≤ u ∧ u ≤ 9223372036854775807
  C : Kd.C k56 W A l.length l
  cap : l.length ≤ c
  len : l.length ≤ reachBytes
  each : ∀ p ∈ l, p.f0.size ≤ reachBytes ∧ p.f1.size ≤ reachBytes
set_option maxRecDepth 100000 in
theorem open_tag {n : Nat} {cs : List Value} {y : DataW H × List MemPlace} (h : DataW.trod enc Tryd.prog W base spare held n 24 cs = some y) (hw : ∀ m ∈ y.1.weights Tryd.prog 24, m ≤ reachBytes) :
    ∃ (s u : Int) (A : Option Addr) (c : Nat) (l : List S56), cs = [.int .i64 s, .int .i64 u, .slice A l.length c] ∧ TagArg W s u A c l := by
  obtain ⟨ys, n', rfl, hy, hlen, hyl, hf⟩ := DataW.trod_struct Tryd.underlying24 h
  have hcl : cs.length = 3 := hlen.trans (by kernel_rfl)
  match cs, hcl with
  | [c0, c1, c2], _ =>
    have hy3 : ys.length = 3 := hyl
    match ys, hy3 with
    | [y0, y1, y2], _ =>
      have e3 : Tryd.prog.cellsOf 3 = 1 := by kernel_rfl
      have e5 : Tryd.prog.cellsOf 22 = 1 := by kernel_rfl
      have f0 := hf 0 _ rfl
      have f1 := hf 1 _ rfl
      have f2 := hf 2 _ rfl
      simp only [e3, e5, List.drop_zero, List.drop_succ_cons, List.take_succ_cons, List.take_zero, List.getElem?_cons_zero, List.getElem?_cons_succ] at f0 f1 f2
      obtain ⟨s, e0, _, w0⟩ := DataW.trod_int Tryd.underlying3 f0
      obtain ⟨u, e1, _, w1⟩ := DataW.trod_int Tryd.underlying3 f1
      obtain ⟨A, c, l, rfl, hC, hc, hr, he⟩ := open_entries f2 (fun q hq => hw q (by
        rw [hy]
        unfold DataW.weights
        rw [Tryd.underlying24]
        exact DataW.weights_mem_each (j := 2) (t := 22) (d := y2.1) rfl rfl q hq))
      cases e0
      cases e1
      exact ⟨s, u, A, c, l, rfl, wf64 w0, wf64 w1, hC, hc, hr, he⟩
/-- What is known of a sound that is an argument. -/
structure SndArg (W : World) (r : Int) (A : Option Addr) (c : Nat) (ls : List (List Int)) : Prop where
  r64 : -9223372036854775808 ≤ r ∧ r ≤ 9223372036854775807
  C : Kd.C KdL W A ls.length ls
  cap : ls.length ≤ c
  len : ls.length ≤ reachBytes
  each : ∀ x ∈ ls, x.length ≤ reachBytes
set_option maxRecDepth 100000 in
theorem open_snd {n : Nat} {cs : List Value} {y : DataW H × List MemPlace} (h : DataW.trod enc Tryd.prog W base spare held n 46 cs = some y) (hw : ∀ m ∈ y.1.weights Tryd.prog 46, m ≤ reachBytes) :
    ∃ (r : Int) (A : Option Addr) (c : Nat) (ls : List (List Int)), cs = [.int .i64 r, .slice A ls.length c] ∧ SndArg W r A c ls := by
  obtain ⟨ys, n', rfl, hy, hlen, hyl, hf⟩ := DataW.trod_struct Tryd.underlying46 h
  have hcl : cs.length = 2 := hlen.trans (by kernel_rfl)
  match cs, hcl with
  | [c0, c1], _ =>
    have hy3 : ys.length = 2 := hyl
    match ys, hy3 with
    | [y0, y1], _ =>
      have e3 : Tryd.prog.cellsOf 3 = 1 := by kernel_rfl
      have e5 : Tryd.prog.cellsOf 44 = 1 := by kernel_rfl
      have f0 := hf 0 _ rfl
      have f1 := hf 1 _ rfl
      simp only [e3, e5, List.drop_zero, List.drop_succ_cons, List.take_succ_cons, List.take_zero, List.getElem?_cons_zero, List.getElem?_cons_succ] at f0 f1
      obtain ⟨r, e0, _, w0⟩ := DataW.trod_int Tryd.underlying3 f0
      cases e0
      obtain ⟨a, len, cap, rfl⟩ : ∃ a len cap, c1 = .slice a len cap := by
        rcases open_slice Tryd.underlying44 f1 with ⟨hcs, _⟩ | ⟨x, len, cap, m, n, D, Pl, hcs, _⟩
        · cases hcs; exact ⟨_, _, _, rfl⟩
        · cases hcs; exact ⟨_, _, _, rfl⟩
      obtain ⟨ls, rfl, hC, hc, hr, he⟩ := open_lists ⟨_, f1⟩ (fun q hq => hw q (by
        rw [hy]
        unfold DataW.weights
        rw [Tryd.underlying46]
        exact DataW.weights_mem_each (j := 1) (t := 44) (d := y1.1) rfl rfl q hq))
      exact ⟨r, a, cap, ls, rfl, wf64 w0, hC, hc, hr, he⟩
end
end Go.Proofs.YthlmnnjbpikijaaDoor.P
end
