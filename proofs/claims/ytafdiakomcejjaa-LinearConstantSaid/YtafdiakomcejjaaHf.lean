/- Contract of linear.Differ. -/
import Derived.Test.YtafdiakomcejjaaHd
namespace Go.Proofs.Ytafdiakomcejjaa.P
open Go.RowKit Go.Proofs.YtafdiakomcejjaaW.PrintWords Go.Proofs.YtafdiakomcejjaaW.PrintLast Go.Proofs.YtafdiakomcejjaaW.PrintMore
set_option linter.unusedVariables false
set_option linter.unusedSimpArgs false

/-- The difference at a position. -/
def dAt (l : List Int) (j : Nat) : Int := if j = 0 then rd l 0 else rd l (j : Int) - rd l ((j : Int) - 1)
/-- The list in which the positions above i are differences. -/
def dpart (l : List Int) (i : Nat) : List Int := (List.range l.length).map fun j => if j ≤ i then rd l (j : Int) else dAt l j
def dstep (l : List Int) : List Int := (List.range l.length).map (dAt l)
def diffs (l : List Int) : Nat → List Int
  | 0 => l
  | n + 1 => dstep (diffs l n)
theorem dpart_length (l : List Int) (i : Nat) : (dpart l i).length = l.length := by simp [dpart]
theorem dstep_length (l : List Int) : (dstep l).length = l.length := by simp [dstep]
theorem diffs_length (l : List Int) (n : Nat) : (diffs l n).length = l.length := by
  induction n with
  | zero => rfl
  | succ n ih => rw [diffs, dstep_length, ih]
theorem rd_nat (l : List Int) (j : Nat) : rd l (j : Int) = l.getD j 0 := by simp [rd]
theorem dpart_all (l : List Int) (i : Nat) (h : l.length ≤ i + 1) : dpart l i = l := by
  apply List.ext_getElem (by simp [dpart])
  intro j h1 h2
  simp only [dpart, List.getElem_map, List.getElem_range]
  rw [if_pos (by omega), rd_nat]
  simp [List.getD_eq_getElem?_getD, h2]
theorem dpart_zero (l : List Int) : dpart l 0 = dstep l := by
  unfold dpart dstep
  apply List.map_congr_left
  intro j _
  by_cases hj : j = 0
  · subst hj; simp [dAt]
  · rw [if_neg (by omega)]
theorem dpart_rd (l : List Int) (i j : Nat) (hj : j < l.length) (h : j ≤ i) : rd (dpart l i) (j : Int) = rd l (j : Int) := by
  rw [rd_nat (dpart l i)]
  simp [dpart, List.getD_eq_getElem?_getD, hj, h]
theorem dpart_set (l : List Int) (i : Nat) (h : i + 1 < l.length) : (dpart l (i + 1)).set (i + 1) (rd l ((i + 1 : Nat) : Int) - rd l (i : Int)) = dpart l i := by
  apply List.ext_getElem (by simp [dpart])
  intro j h1 h2
  simp only [dpart, List.getElem_set, List.getElem_map, List.getElem_range]
  by_cases hj : j = i + 1
  · subst hj
    rw [if_pos rfl, if_neg (by omega), dAt, if_neg (by omega)]
    congr 2
    omega
  · rw [if_neg (by omega)]
    by_cases hk : j ≤ i
    · rw [if_pos (by omega), if_pos hk]
    · rw [if_neg (by omega), if_neg hk]

/-- All numbers are at most so great. -/
def within (B : Int) (l : List Int) : Prop := ∀ x ∈ l, -B ≤ x ∧ x ≤ B
theorem within_rd {B : Int} {l : List Int} (h : within B l) (hB : 0 ≤ B) (i : Int) : -B ≤ rd l i ∧ rd l i ≤ B := by
  unfold rd
  rw [List.getD_eq_getElem?_getD]
  by_cases hi : i.toNat < l.length
  · rw [List.getElem?_eq_getElem hi]
    exact h _ (List.getElem_mem hi)
  · rw [List.getElem?_eq_none (by omega)]
    simp; omega
theorem within_dstep {B : Int} {l : List Int} (h : within B l) (hB : 0 ≤ B) : within (2 * B) (dstep l) := by
  intro x hx
  obtain ⟨j, _, rfl⟩ := List.mem_map.1 hx
  unfold dAt
  have h0 := within_rd h hB 0
  have h1 := within_rd h hB (j : Int)
  have h2 := within_rd h hB ((j : Int) - 1)
  split <;> omega
theorem within_mono {B B' : Int} {l : List Int} (h : within B l) (hB : B ≤ B') : within B' l := fun x hx => by have := h x hx; omega
theorem within_diffs {l : List Int} (h : within 2097152 l) (n : Nat) (hn : n ≤ 4) : within 33554432 (diffs l n) := by
  match n, hn with
  | 0, _ => exact within_mono h (by omega)
  | 1, _ => exact within_mono (within_dstep h (by omega)) (by omega)
  | 2, _ => exact within_mono (within_dstep (within_dstep h (by omega)) (by omega)) (by omega)
  | 3, _ => exact within_mono (within_dstep (within_dstep (within_dstep h (by omega)) (by omega)) (by omega)) (by omega)
  | 4, _ => exact within_mono (within_dstep (within_dstep (within_dstep (within_dstep h (by omega)) (by omega)) (by omega)) (by omega)) (by omega)
theorem chk_zero {l : List Int} {m : Int} (h : chk l m = 0) : l.length ≤ 8192 ∧ within m l := by
  unfold chk at h
  split at h
  · omega
  · split at h
    · omega
    · rename_i h1 h2
      refine ⟨by omega, fun x hx => ?_⟩
      have : outB m x = false := by
        cases hb : outB m x
        · rfl
        · exact absurd (List.any_eq_true.2 ⟨x, hx, hb⟩) h2
      simp [outB] at this
      omega

def linear_Differ.f (l0 : List Int) (a1 : Int) : Option (List Int × Int) :=
  if l0.length ≤ 9223372036854775807 then
    (if a1 < 0 ∨ 4 < a1 then some ([], 1) else if chk l0 2097152 = 0 then some (diffs l0 a1.toNat, 0) else some ([], chk l0 2097152))
  else none

set_option maxHeartbeats 1000000 in
set_option maxRecDepth 100000 in
theorem differ_yes (A0 : Option Addr) (c0 : Nat) (l0 : List Int) (k : Nat) (w : World) (hr0 : Kd.C (Kd.int .i64) w A0 l0.length l0) (hc0 : l0.length ≤ c0) (hk : k ≤ 4) (hz : chk l0 2097152 = 0) :
    Calls Try.prog 11 #[.slice A0 l0.length c0, .int .i64 k] w fun e w' => ∃ v0_ : Value, e = .returned (.tuple #[v0_, .int .i64 0]) ∧ Kd.R (Kd.int .i64) 3 w' w.heap.size (fun _ => True) v0_ (diffs l0 k) ∧ Below w.heap.size w w' := by
  obtain ⟨hlen, hwi⟩ := chk_zero hz
  have HR := Aside0.mk hr0
  have HZ := Aside0.mk hz
  have HW := Aside0.mk hwi
  clear hr0 hz hwi
  have hd1 : decide ((k : Int) < 0) = false := by simp
  have hd2 : decide ((4 : Int) < (k : Int)) = false := by simp; omega
  have HB := Aside0.mk (Below.refl w.heap.size w)
  go_enter Try.func11, Try.ntmps11
  go_wp2_with (first
    | (go_at_call 26; refine (linear_check.calls A0 c0 l0 2097152 0 _ HR.out hc0 (by unfold linear_check.f; rw [if_pos (by omega), HZ.out])).mono ?_; rintro e w1 ⟨rfl, hb1⟩; have HB1 := Aside0.mk hb1; clear hb1)
    | ((with_reducible refine gate_dst (N := 22) rfl ?_); refine Kd.R_make (Kd.int .i64) (w0 := w) w.heap.size 3 rfl (N := 22) rfl 22 _ _ rfl (l0.length : Int) rfl rfl Try.underlying22 (.int .i64 0) 8 hinfo3 rfl (by decide) (by omega) (0 : Int) (ok := fun _ => True) (okp := fun _ => True) rfl (fun _ h => h) trivial (by omega) (by simp; omega) HB1.out HB1.out.size ?_; intro v2 w2 ho hb hg hf; rw [Int.toNat_natCast] at ho; obtain ⟨A2, c2, hv2, hc2, hC2⟩ := Kd.R_reads ho; rw [List.length_replicate] at hv2; cases hv2; have HO2 := Aside0.mk ho; have HB2 := Aside0.mk hb; clear ho hb hg hf hc2 hC2)
    | ((with_reducible refine gate_dst (N := 25) rfl ?_); refine Kd.R_copy (enc := Value.int .i64) (0 : Int) (w0 := w) w.heap.size rfl (.tmp 23) (.tmp 24) 22 22 3 rfl Try.underlying22 (by kernel_rfl) _ _ l0 _ _ _ (fun _ => True) rfl rfl HO2.out (Kd.C_below HR.out HB2.out) HB2.out HB2.out.size ?_; intro w3 ho hb hg; rw [List.length_replicate, Nat.min_self, List.take_length, List.drop_of_length_le (by simp), List.append_nil] at ho; have HO3 : Aside0 (Kd.R (Kd.int .i64) 3 w3 w.heap.size (fun _ => True) (.slice A2 l0.length c2) l0) := ⟨ho⟩; have HB3 := Aside0.mk hb; clear ho hb hg))
  go_loopw [8, 27] (fun u i wr => ∃ n : Nat, n ≤ k ∧ i = .int .i64 n ∧ Aside0 (Kd.R (Kd.int .i64) 3 wr w.heap.size (fun _ => True) (.slice A2 l0.length c2) (diffs l0 n)) ∧ Aside0 (Below w.heap.size w wr)) (fun _ i _ => k - (intOf i).toNat)
  case atStart => exact ⟨0, Nat.zero_le _, rfl, HO3, HB3⟩
  case round =>
    obtain ⟨n, hn, rfl, HOr, HBe⟩ := hrel
    by_cases hlt : n < k
    · have hL := diffs_length l0 n
      have HWI := Aside0.mk (within_diffs HW.out n (by omega))
      obtain ⟨L, hLL⟩ : ∃ L, L = diffs l0 n := ⟨_, rfl⟩
      rw [← hLL] at HOr HWI hL
      have HLL := Aside0.mk hLL
      have HLn := Aside0.mk hL
      clear hLL hL
      go_wp2
      obtain ⟨wo, rfl⟩ : ∃ wo : World, wo = wr := ⟨_, rfl⟩
      go_loopw [8] (fun u wi => ∃ i : Int, u = .int .i64 i ∧ -1 ≤ i ∧ i < l0.length ∧ Aside0 (Kd.R (Kd.int .i64) 3 wi w.heap.size (fun _ => True) (.slice A2 l0.length c2) (dpart L i.toNat)) ∧ Aside0 (Below w.heap.size w wi)) (fun u _ => (intOf u).toNat)
      case atStart =>
        refine ⟨_, rfl, by omega, by omega, ⟨?_⟩, HBe⟩
        rw [dpart_all L _ (by rw [HLn.out]; omega)]
        exact HOr.out
      case round =>
        obtain ⟨i, rfl, hi0, hi1, HOi, HBi⟩ := hrel
        by_cases hip : 0 < i
        · obtain ⟨m, rfl⟩ : ∃ m : Nat, i = ((m + 1 : Nat) : Int) := ⟨(i - 1).toNat, by omega⟩
          rw [Int.toNat_natCast] at HOi
          have hdl := dpart_length L (m + 1)
          rw [HLn.out] at hdl
          obtain ⟨g, cap, e, hbg, hgl, cells, hcells⟩ := Kd.R_form HOi.out (by omega)
          rw [hdl] at e
          cases e
          have hcg := Kd.R_cell (W := wr) (0 : Int) (by rw [hdl]; exact HOi.out) ((m + 1 : Nat) : Int) (by omega) (by omega)
          have hcg1 := Kd.R_cell (W := wr) (0 : Int) (by rw [hdl]; exact HOi.out) (m : Int) (by omega) (by omega)
          rw [Int.toNat_natCast] at hcg hcg1
          have hx1 : wr.cell? ⟨g, m + 1, none⟩ = some (.int .i64 (rd L ((m + 1 : Nat) : Int))) := by rw [hcg.1, ← dpart_rd L (m + 1) (m + 1) (by rw [HLn.out]; omega) (Nat.le_refl _)]; rfl
          have hx2 : wr.cell? ⟨g, m, none⟩ = some (.int .i64 (rd L (m : Int))) := by rw [hcg1.1, ← dpart_rd L (m + 1) m (by rw [HLn.out]; omega) (by omega)]; rfl
          have hfz := hcg.2
          have bx := within_rd HWI.out (by omega) ((m + 1 : Nat) : Int)
          have bx2 := within_rd HWI.out (by omega) (m : Int)
          have HS := Aside0.mk (dpart_set L m (by rw [HLn.out]; omega))
          obtain ⟨x, hx⟩ : ∃ x, x = rd L ((m + 1 : Nat) : Int) := ⟨_, rfl⟩
          obtain ⟨y, hy⟩ : ∃ y, y = rd L (m : Int) := ⟨_, rfl⟩
          rw [← hx] at hx1 bx HS
          rw [← hy] at hx2 bx2 HS
          have HL := Aside0.mk hdl
          have i1 : (0 : Int) ≤ (m : Int) + 1 := by omega
          have i2 : (m : Int) + 1 < (l0.length : Int) := by omega
          have i3 : (0 : Int) ≤ (m : Int) := by omega
          have i4 : (m : Int) < (l0.length : Int) := by omega
          have w1' : IntKind.i64.wrap (m : Int) = (m : Int) := IntWalk.i64_in _ (by omega)
          have w2' : IntKind.i64.wrap (x - y) = x - y := IntWalk.i64_in _ (by omega)
          clear hx hy hcg hcg1 hdl hcells
          go_wp2
          refine wp_region_still_tail 11 (by kernel_rfl) (by kernel_rfl) ?_
          simp only [List.take_succ_cons, List.take_zero, List.drop_succ_cons, List.drop_zero]
          repeat still_step
          refine wpStill_nil ?_
          change wpList _ _ _ _ _ wr.drew
          clear w1' w2'
          go_wp2
          go_roundw
          case rel =>
            have hput := Kd.R_put (W := wr) (by rw [HL.out]; exact HOi.out) ((m + 1 : Nat) : Int) (x - y)
            rw [Int.toNat_natCast, HS.out, HL.out] at hput
            exact ⟨(m : Int), by simp, by omega, by omega, ⟨by rw [Int.toNat_natCast]; exact Kd.R_drew hput.1⟩, ⟨(HBi.out.setCell hbg _).drew⟩⟩
          case measure => simp [intOf]
        · have hpz : dpart L i.toNat = dstep L := by rw [show i.toNat = 0 by omega, dpart_zero]
          rw [hpz] at HOi
          have HDD : Aside0 (diffs l0 (n + 1) = dstep L) := ⟨by rw [diffs, HLL.out]⟩
          clear hpz
          go_wp2
          go_roundw
          case rel => exact ⟨n + 1, by omega, by go_num, by rw [HDD.out]; exact HOi, HBi⟩
          case measure => simp [intOf]; omega
    · obtain rfl : n = k := by omega
      go_wp2
      go_ret2
      exact ⟨_, rfl, HOr.out, HBe.out⟩

set_option maxHeartbeats 1000000 in
theorem linear_Differ.calls (A0 : Option Addr) (c0 : Nat) (l0 : List Int) (a1 : Int) (r1 : List Int) (r2 : Int) (w : World) (hr0 : Kd.C (Kd.int .i64) w A0 l0.length l0) (hc0 : l0.length ≤ c0) (h : linear_Differ.f l0 a1 = some (r1, r2)) :
    Calls Try.prog 11 #[.slice A0 l0.length c0, .int .i64 a1] w fun e w' => ∃ v0_ : Value, e = .returned (.tuple #[v0_, .int .i64 r2]) ∧ Kd.R (Kd.int .i64) 3 w' w.heap.size (fun _ => True) v0_ r1 ∧ Below w.heap.size w w' := by
  unfold linear_Differ.f at h
  split at h
  · rename_i hl
    split at h
    · rename_i hk
      simp only [Option.some.injEq, Prod.mk.injEq] at h
      obtain ⟨rfl, rfl⟩ := h
      rcases hk with hk | hk
      · have hd1 : decide (a1 < 0) = true := by simpa using hk
        go_enter Try.func11, Try.ntmps11
        go_wp2
        go_ret2
        exact ⟨_, rfl, Kd.R_nil _ _ _ _ _, Below.refl _ _⟩
      · have hd1 : decide (a1 < 0) = false := by simp; omega
        have hd2 : decide (4 < a1) = true := by simpa using hk
        go_enter Try.func11, Try.ntmps11
        go_wp2
        go_ret2
        exact ⟨_, rfl, Kd.R_nil _ _ _ _ _, Below.refl _ _⟩
    · rename_i hk
      split at h
      · rename_i hz
        simp only [Option.some.injEq, Prod.mk.injEq] at h
        obtain ⟨rfl, rfl⟩ := h
        obtain ⟨k, rfl⟩ : ∃ k : Nat, a1 = k := ⟨a1.toNat, by omega⟩
        rw [Int.toNat_natCast]
        exact differ_yes A0 c0 l0 k w hr0 hc0 (by omega) hz
      · rename_i hz
        simp only [Option.some.injEq, Prod.mk.injEq] at h
        obtain ⟨rfl, rfl⟩ := h
        have HR := Aside0.mk hr0
        clear hr0
        have hd1 : decide (a1 < 0) = false := by simp; omega
        have hd2 : decide (4 < a1) = false := by simp; omega
        obtain ⟨q, hq⟩ : ∃ q, q = chk l0 2097152 := ⟨_, rfl⟩
        rw [← hq] at hz ⊢
        have HQ := Aside0.mk hq
        clear hq
        have hz1 : (q != 0) = true := by simpa using hz
        have hz2 : (q == 0) = false := by simpa using hz
        go_enter Try.func11, Try.ntmps11
        go_wp2_with (go_at_call 26; refine (linear_check.calls A0 c0 l0 2097152 q _ HR.out hc0 (by unfold linear_check.f; rw [if_pos (by omega), HQ.out])).mono ?_; rintro e w1 ⟨rfl, hb1⟩; have HB1 := Aside0.mk hb1; clear hb1)
        go_ret2
        exact ⟨_, rfl, Kd.R_nil _ _ _ _ _, HB1.out⟩
  · cases h
end Go.Proofs.Ytafdiakomcejjaa.P
