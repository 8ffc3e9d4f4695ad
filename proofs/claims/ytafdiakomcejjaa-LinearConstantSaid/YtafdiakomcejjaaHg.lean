/- Contract of linear.Add. -/
import Derived.Test.YtafdiakomcejjaaHf
namespace Go.Proofs.Ytafdiakomcejjaa.P
open Go.RowKit Go.Proofs.YtafdiakomcejjaaW.PrintWords Go.Proofs.YtafdiakomcejjaaW.PrintLast Go.Proofs.YtafdiakomcejjaaW.PrintMore
set_option linter.unusedVariables false
set_option linter.unusedSimpArgs false

/-- Sums of all up to each, none of them beyond a limit. -/
def psum (m : Int) : Int → List Int → Option (List Int)
  | _, [] => some []
  | prev, x :: l => if x + prev < -m ∨ m < x + prev then none else (psum m (x + prev) l).map fun r => (x + prev) :: r
/-- The greatest element of differences of order j. -/
def mostD (j : Nat) : Int := 2097152 * 2 ^ j
/-- The list of differences of order k. -/
def sums (l : List Int) : Nat → Option (List Int)
  | 0 => some l
  | j + 1 => (psum (mostD j) 0 l).bind fun r => sums r j
theorem psum_length {m : Int} : ∀ {prev : Int} {l r : List Int}, psum m prev l = some r → r.length = l.length
  | _, [], r, h => by simp [psum] at h; subst h; rfl
  | prev, x :: l, r, h => by
    unfold psum at h
    split at h
    · cases h
    · obtain ⟨r', hr, rfl⟩ := Option.map_eq_some_iff.1 h
      simp [psum_length hr]
theorem psum_within {m : Int} : ∀ {prev : Int} {l r : List Int}, psum m prev l = some r → within m r
  | _, [], r, h => by simp [psum] at h; subst h; intro x hx; cases hx
  | prev, x :: l, r, h => by
    unfold psum at h
    split at h
    · cases h
    · rename_i hc
      obtain ⟨r', hr, rfl⟩ := Option.map_eq_some_iff.1 h
      intro y hy
      rcases List.mem_cons.1 hy with rfl | hy
      · omega
      · exact psum_within hr y hy
theorem mostD_le (j : Nat) (h : j ≤ 3) : 2097152 ≤ mostD j ∧ mostD j ≤ 16777216 := by
  match j, h with
  | 0, _ => decide
  | 1, _ => decide
  | 2, _ => decide
  | 3, _ => decide

def linear_Add.f (l0 : List Int) (a1 : Int) : Option (List Int × Int) :=
  if l0.length ≤ 9223372036854775807 then
    (if a1 < 0 ∨ 4 < a1 then some ([], 1) else if chk l0 67108864 = 0 then
      (match sums l0 a1.toNat with
       | none => some ([], 6)
       | some r => if chk r 2097152 = 0 then some (r, 0) else some ([], 6))
    else some ([], chk l0 67108864))
  else none

set_option maxHeartbeats 1000000 in
set_option maxRecDepth 100000 in
theorem add_any (A0 : Option Addr) (c0 : Nat) (l0 : List Int) (k : Nat) (w : World) (r1 : List Int) (r2 : Int) (hr0 : Kd.C (Kd.int .i64) w A0 l0.length l0) (hc0 : l0.length ≤ c0) (hk : k ≤ 4) (hz : chk l0 67108864 = 0)
    (hs : (match sums l0 k with
       | none => some ([], 6)
       | some r => if chk r 2097152 = 0 then some (r, 0) else some ([], 6)) = some (r1, r2)) :
    Calls Try.prog 13 #[.slice A0 l0.length c0, .int .i64 k] w fun e w' => ∃ v0_ : Value, e = .returned (.tuple #[v0_, .int .i64 r2]) ∧ Kd.R (Kd.int .i64) 3 w' w.heap.size (fun _ => True) v0_ r1 ∧ Below w.heap.size w w' := by
  obtain ⟨hlen, hwi⟩ := chk_zero hz
  have HR := Aside0.mk hr0
  have HZ := Aside0.mk hz
  have HW := Aside0.mk hwi
  have HS := Aside0.mk hs
  clear hr0 hz hwi hs
  have hd1 : decide ((k : Int) < 0) = false := by simp
  have hd2 : decide ((4 : Int) < (k : Int)) = false := by simp; omega
  go_enter Try.func13, Try.ntmps13
  go_wp2_with (first
    | (go_at_call 26; refine (linear_check.calls A0 c0 l0 67108864 0 _ HR.out hc0 (by unfold linear_check.f; rw [if_pos (by omega), HZ.out])).mono ?_; rintro e w1 ⟨rfl, hb1⟩; have HB1 := Aside0.mk hb1; clear hb1)
    | ((with_reducible refine gate_dst (N := 25) rfl ?_); refine Kd.R_make (Kd.int .i64) (w0 := w) w.heap.size 3 rfl (N := 25) rfl 22 _ _ rfl (l0.length : Int) rfl rfl Try.underlying22 (.int .i64 0) 8 hinfo3 rfl (by decide) (by omega) (0 : Int) (ok := fun _ => True) (okp := fun _ => True) rfl (fun _ h => h) trivial (by omega) (by simp; omega) HB1.out HB1.out.size ?_; intro v2 w2 ho hb hg hf; rw [Int.toNat_natCast] at ho; obtain ⟨A2, c2, hv2, hc2, hC2⟩ := Kd.R_reads ho; rw [List.length_replicate] at hv2; cases hv2; have HO2 := Aside0.mk ho; have HB2 := Aside0.mk hb; clear ho hb hg hf hc2 hC2)
    | ((with_reducible refine gate_dst (N := 28) rfl ?_); refine Kd.R_copy (enc := Value.int .i64) (0 : Int) (w0 := w) w.heap.size rfl (.tmp 26) (.tmp 27) 22 22 3 rfl Try.underlying22 (by kernel_rfl) _ _ l0 _ _ _ (fun _ => True) rfl rfl HO2.out (Kd.C_below HR.out HB2.out) HB2.out HB2.out.size ?_; intro w3 ho hb hg; rw [List.length_replicate, Nat.min_self, List.take_length, List.drop_of_length_le (by simp), List.append_nil] at ho; have HO3 : Aside0 (Kd.R (Kd.int .i64) 3 w3 w.heap.size (fun _ => True) (.slice A2 l0.length c2) l0) := ⟨ho⟩; have HB3 := Aside0.mk hb; clear ho hb hg))
  go_loopw [8] (fun u wr => ∃ (j : Nat) (L : List Int), j ≤ k ∧ u = .int .i64 ((j : Int) - 1) ∧ L.length = l0.length ∧ Aside0 (within 67108864 L) ∧ Aside0 (sums l0 k = sums L j) ∧ Aside0 (Kd.R (Kd.int .i64) 3 wr w.heap.size (fun _ => True) (.slice A2 l0.length c2) L) ∧ Aside0 (Below w.heap.size w wr)) (fun u _ => (intOf u + 1).toNat)
  case atStart => exact ⟨k, l0, Nat.le_refl _, rfl, rfl, HW, ⟨rfl⟩, HO3, HB3⟩
  case round =>
    obtain ⟨j, L, hj, rfl, hL, HWL, HSL, HOr, HBe⟩ := hrel
    have HLn := Aside0.mk hL
    clear hL
    cases j with
    | zero =>
      have hS := HS.out
      rw [HSL.out, sums] at hS
      simp only at hS
      have HLc := Aside0.mk (show L.length ≤ 8192 by rw [HLn.out]; exact hlen)
      by_cases hc : chk L 2097152 = 0
      · rw [if_pos hc] at hS
        simp only [Option.some.injEq, Prod.mk.injEq] at hS
        obtain ⟨rfl, rfl⟩ := hS
        have HC := Aside0.mk hc
        clear hc
        have hck := linear_check.calls A2 c2 L 2097152 0 wr (Kd.R_reads' HOr.out).2.2 (by rw [HLn.out]; exact (Kd.R_reads' HOr.out).2.1) (by unfold linear_check.f; rw [if_pos (by have := HLc.out; omega), HC.out])
        rw [HLn.out] at hck
        have HCK := Aside0.mk hck
        clear hck
        go_wp2_with (go_at_call 26; refine HCK.out.mono ?_; rintro e w1 ⟨rfl, hb1⟩; have HB1 := Aside0.mk hb1; clear hb1)
        go_ret2
        exact ⟨_, rfl, Kd.R_below HOr.out HB1.out, HBe.out.trans (HB1.out.mono HBe.out.size)⟩
      · rw [if_neg hc] at hS
        simp only [Option.some.injEq, Prod.mk.injEq] at hS
        obtain ⟨rfl, rfl⟩ := hS
        obtain ⟨q, hq⟩ : ∃ q, q = chk L 2097152 := ⟨_, rfl⟩
        rw [← hq] at hc
        have HQ := Aside0.mk hq
        clear hq
        have hz1 : (q != 0) = true := by simpa using hc
        have hz2 : (q == 0) = false := by simpa using hc
        have hck := linear_check.calls A2 c2 L 2097152 q wr (Kd.R_reads' HOr.out).2.2 (by rw [HLn.out]; exact (Kd.R_reads' HOr.out).2.1) (by unfold linear_check.f; rw [if_pos (by have := HLc.out; omega), HQ.out])
        rw [HLn.out] at hck
        have HCK := Aside0.mk hck
        clear hck
        go_wp2_with (go_at_call 26; refine HCK.out.mono ?_; rintro e w1 ⟨rfl, hb1⟩; have HB1 := Aside0.mk hb1; clear hb1)
        go_ret2
        exact ⟨_, rfl, Kd.R_nil _ _ _ _ _, HBe.out.trans (HB1.out.mono HBe.out.size)⟩
    | succ j =>
      have e1 : ((j + 1 : Nat) : Int) - 1 = (j : Int) := by omega
      rw [e1]
      clear e1
      have hm := mostD_le j (by omega)
      unfold mostD at hm
      go_wp2
      obtain ⟨M, hM⟩ : ∃ M : Int, M = 2097152 * 2 ^ j := ⟨_, rfl⟩
      rw [← hM] at hm ⊢
      have HM : Aside0 (mostD j = M) := ⟨by rw [hM]; rfl⟩
      clear hM
      obtain ⟨wo, rfl⟩ : ∃ wo : World, wo = wr := ⟨_, rfl⟩
      go_loopw [39] (fun u wr => ∃ (pre rest : List Int) (prev : Int), u = .int .i64 (pre.length : Int) ∧ pre.length + rest.length = l0.length ∧ -67108864 ≤ prev ∧ prev ≤ 67108864 ∧ Aside0 (within 67108864 rest) ∧
          Aside0 (pre = [] → prev = 0) ∧ Aside0 (pre ≠ [] → rd pre ((pre.length : Int) - 1) = prev) ∧ Aside0 (psum M 0 L = (psum M prev rest).map (pre ++ ·)) ∧ Aside0 (Kd.R (Kd.int .i64) 3 wr w.heap.size (fun _ => True) (.slice A2 l0.length c2) (pre ++ rest)) ∧ Aside0 (Below w.heap.size w wr)) (fun u _ => l0.length - (intOf u).toNat)
      case atStart => exact ⟨[], L, 0, rfl, by simpa using HLn.out, by omega, by omega, HWL, ⟨fun _ => rfl⟩, ⟨fun h => absurd rfl h⟩, ⟨by simp⟩, HOr, HBe⟩
      case round =>
        obtain ⟨pre, rest, prev, rfl, hlr, hp0, hp1, HWR, HP0, HPN, HPS, HOi, HBi⟩ := hrel
        cases rest with
        | nil =>
          simp only [List.length_nil, Nat.add_zero] at hlr
          have HE : Aside0 (sums l0 k = sums pre j) := ⟨by rw [HSL.out, sums, HM.out, HPS.out, psum]; simp⟩
          have HWP : Aside0 (within 67108864 pre) := ⟨by
            have h9 : psum M 0 L = some pre := by rw [HPS.out, psum]; simp
            exact within_mono (psum_within h9) (by omega)⟩
          rw [List.append_nil] at HOi
          have HLP := Aside0.mk hlr
          have hlq : ¬ ((pre.length : Int) < (l0.length : Int)) := by omega
          clear hlr
          go_wp2
          go_roundw
          case rel => exact ⟨j, pre, by omega, by go_num, HLP.out, HWP, HE, HOi, HBi⟩
          case measure => simp [intOf]
        | cons x rest =>
          have hplt : pre.length < l0.length := by simp at hlr; omega
          have hall : (pre ++ x :: rest).length = l0.length := by rw [List.length_append]; exact hlr
          obtain ⟨g, cap, e, hbg, hgl, cells, hcells⟩ := Kd.R_form HOi.out (by omega)
          rw [hall] at e
          cases e
          have hcg := Kd.R_cell (W := wr) (0 : Int) (by rw [hall]; exact HOi.out) (pre.length : Int) (by omega) (by omega)
          rw [Int.toNat_natCast] at hcg
          have hx1 : wr.cell? ⟨g, pre.length, none⟩ = some (.int .i64 x) := by rw [hcg.1]; simp [rdOf]
          have hfz := hcg.2
          have bx := HWR.out x (by simp)
          have HL := Aside0.mk hall
          have HSet : Aside0 ((pre ++ x :: rest).set pre.length (x + prev) = (pre ++ [x + prev]) ++ rest) := ⟨by simp⟩
          have HWR' : Aside0 (within 67108864 rest) := ⟨fun z hz => HWR.out z (List.mem_cons_of_mem _ hz)⟩
          have HLR : Aside0 ((pre ++ [x + prev]).length + rest.length = l0.length) := ⟨by simp at hlr ⊢; omega⟩
          have HPr : Aside0 (rd (pre ++ [x + prev]) (((pre ++ [x + prev]).length : Int) - 1) = x + prev) := ⟨by simp [rd]⟩
          have HPL : Aside0 ((pre ++ [x + prev]).length = pre.length + 1) := ⟨by simp⟩
          have hxp : 0 < pre.length → wr.cell? ⟨g, pre.length - 1, none⟩ = some (.int .i64 prev) := fun hp => by
            have h7 := Kd.R_cell (W := wr) (0 : Int) (by rw [hall]; exact HOi.out) ((pre.length : Int) - 1) (by omega) (by omega)
            rw [show ((pre.length : Int) - 1).toNat = pre.length - 1 by omega] at h7
            rw [h7.1, ← HPN.out (by rintro rfl; simp at hp)]
            simp [rdOf, rd, show ((pre.length : Int) - 1).toNat = pre.length - 1 by omega, List.getD_eq_getElem?_getD, List.getElem?_append_left (show pre.length - 1 < pre.length by omega)]
          have hp0' : pre.length = 0 → prev = 0 := fun h => HP0.out (List.eq_nil_of_length_eq_zero h)
          have hput := Kd.R_put (W := wr) (by rw [hall]; exact HOi.out) (pre.length : Int) (x + prev)
          rw [Int.toNat_natCast, HSet.out, hall] at hput
          have HPut := Aside0.mk hput.1
          have hfin : psum M 0 L = if x + prev < -M ∨ M < x + prev then none else (psum M (x + prev) rest).map ((pre ++ [x + prev]) ++ ·) := by
            rw [HPS.out, psum]
            split
            · rfl
            · simp [Option.map_map, Function.comp_def]
          have HFin := Aside0.mk hfin
          obtain ⟨p, hp⟩ : ∃ p, p = pre.length := ⟨_, rfl⟩
          rw [← hp] at hplt hx1 hfz hxp hp0' HPut HPL ⊢
          have HPP := Aside0.mk hp
          clear hp hcg hall hcells hlr hfin hput
          have i1 : (0 : Int) ≤ (p : Int) := by omega
          have i2 : (p : Int) < (l0.length : Int) := by omega
          by_cases hy : x + prev < -M ∨ M < x + prev
          · have hS := HS.out
            rw [HSL.out, sums, HM.out, HFin.out, if_pos hy] at hS
            simp only [Option.bind_none, Option.some.injEq, Prod.mk.injEq] at hS
            obtain ⟨rfl, rfl⟩ := hS
            by_cases hpe : p = 0
            · have h0 := hp0' hpe
              subst h0
              have hd0 : decide ((0 : Int) < (p : Int)) = false := by simp; omega
              have hd0n : decide (0 < p) = false := by simp; omega
              have i7 : (p : Int) ≤ 0 := by omega
              simp only [Int.add_zero] at hy
              clear hxp hp0' hpe
              rcases Int.lt_or_le x (-M) with hq | hq
              · have hd3 : decide (x < -M) = true := by simpa using hq
                go_wp2
                go_ret2
                exact ⟨_, rfl, Kd.R_nil _ _ _ _ _, HBi.out⟩
              · have hd3 : decide (x < -M) = false := by simpa using hq
                have hd4 : decide (M < x) = true := by simp; omega
                go_wp2
                go_ret2
                exact ⟨_, rfl, Kd.R_nil _ _ _ _ _, HBi.out⟩
            · have hx2 := hxp (by omega)
              have hd0 : decide ((0 : Int) < (p : Int)) = true := by simp; omega
              have i3 : (1 : Int) ≤ (p : Int) := by omega
              have i4 : (p : Int) - 1 < (l0.length : Int) := by omega
              have i5 : (p : Int) < (l0.length : Int) + 1 := by omega
              have i6 : (0 : Int) ≤ (p : Int) - 1 := by omega
              clear hxp hp0' hpe
              rcases Int.lt_or_le (x + prev) (-M) with hq | hq
              · have hd3 : decide (x + prev < -M) = true := by simpa using hq
                go_wp2
                go_ret2
                exact ⟨_, rfl, Kd.R_nil _ _ _ _ _, HBi.out⟩
              · have hd3 : decide (x + prev < -M) = false := by simpa using hq
                have hd4 : decide (M < x + prev) = true := by simp; omega
                go_wp2
                go_ret2
                exact ⟨_, rfl, Kd.R_nil _ _ _ _ _, HBi.out⟩
          · have HGO := HFin
            rw [if_neg hy] at HGO
            by_cases hpe : p = 0
            · have h0 := hp0' hpe
              subst h0
              have hd0 : decide ((0 : Int) < (p : Int)) = false := by simp; omega
              have hd0n : decide (0 < p) = false := by simp; omega
              have i7 : (p : Int) ≤ 0 := by omega
              simp only [Int.add_zero] at hy HPut
              have hd3 : decide (x < -M) = false := by simp; omega
              have hd4 : decide (M < x) = false := by simp; omega
              clear hxp hp0' hpe hy
              go_wp2
              go_roundw
              case rel => exact ⟨pre ++ [x + 0], rest, x + 0, by rw [HPL.out]; go_num, HLR.out, by omega, by omega, HWR', ⟨fun h => by simp at h⟩, ⟨fun _ => HPr.out⟩, HGO, ⟨by rw [Int.add_zero]; exact HPut.out⟩, ⟨HBi.out.setCell hbg _⟩⟩
              case measure => simp [intOf]; omega
            · have hx2 := hxp (by omega)
              have hd0 : decide ((0 : Int) < (p : Int)) = true := by simp; omega
              have i3 : (1 : Int) ≤ (p : Int) := by omega
              have i4 : (p : Int) - 1 < (l0.length : Int) := by omega
              have i5 : (p : Int) < (l0.length : Int) + 1 := by omega
              have i6 : (0 : Int) ≤ (p : Int) - 1 := by omega
              have hd3 : decide (x + prev < -M) = false := by simp; omega
              have hd4 : decide (M < x + prev) = false := by simp; omega
              have hyb : -67108864 ≤ x + prev ∧ x + prev ≤ 67108864 := by omega
              clear hxp hp0' hpe hy
              go_wp2
              go_roundw
              case rel => exact ⟨pre ++ [x + prev], rest, x + prev, by rw [HPL.out]; go_num, HLR.out, by omega, by omega, HWR', ⟨fun h => by simp at h⟩, ⟨fun _ => HPr.out⟩, HGO, HPut, ⟨HBi.out.setCell hbg _⟩⟩
              case measure => simp [intOf]; omega

set_option maxHeartbeats 1000000 in
theorem linear_Add.calls (A0 : Option Addr) (c0 : Nat) (l0 : List Int) (a1 : Int) (r1 : List Int) (r2 : Int) (w : World) (hr0 : Kd.C (Kd.int .i64) w A0 l0.length l0) (hc0 : l0.length ≤ c0) (h : linear_Add.f l0 a1 = some (r1, r2)) :
    Calls Try.prog 13 #[.slice A0 l0.length c0, .int .i64 a1] w fun e w' => ∃ v0_ : Value, e = .returned (.tuple #[v0_, .int .i64 r2]) ∧ Kd.R (Kd.int .i64) 3 w' w.heap.size (fun _ => True) v0_ r1 ∧ Below w.heap.size w w' := by
  unfold linear_Add.f at h
  split at h
  · rename_i hl
    split at h
    · rename_i hk
      simp only [Option.some.injEq, Prod.mk.injEq] at h
      obtain ⟨rfl, rfl⟩ := h
      rcases hk with hk | hk
      · have hd1 : decide (a1 < 0) = true := by simpa using hk
        go_enter Try.func13, Try.ntmps13
        go_wp2
        go_ret2
        exact ⟨_, rfl, Kd.R_nil _ _ _ _ _, Below.refl _ _⟩
      · have hd1 : decide (a1 < 0) = false := by simp; omega
        have hd2 : decide (4 < a1) = true := by simpa using hk
        go_enter Try.func13, Try.ntmps13
        go_wp2
        go_ret2
        exact ⟨_, rfl, Kd.R_nil _ _ _ _ _, Below.refl _ _⟩
    · rename_i hk
      split at h
      · rename_i hz
        obtain ⟨k, rfl⟩ : ∃ k : Nat, a1 = k := ⟨a1.toNat, by omega⟩
        rw [Int.toNat_natCast] at h
        exact add_any A0 c0 l0 k w r1 r2 hr0 hc0 (by omega) hz h
      · rename_i hz
        simp only [Option.some.injEq, Prod.mk.injEq] at h
        obtain ⟨rfl, rfl⟩ := h
        have HR := Aside0.mk hr0
        clear hr0
        have hd1 : decide (a1 < 0) = false := by simp; omega
        have hd2 : decide (4 < a1) = false := by simp; omega
        obtain ⟨q, hq⟩ : ∃ q, q = chk l0 67108864 := ⟨_, rfl⟩
        rw [← hq] at hz ⊢
        have HQ := Aside0.mk hq
        clear hq
        have hz1 : (q != 0) = true := by simpa using hz
        have hz2 : (q == 0) = false := by simpa using hz
        go_enter Try.func13, Try.ntmps13
        go_wp2_with (go_at_call 26; refine (linear_check.calls A0 c0 l0 67108864 q _ HR.out hc0 (by unfold linear_check.f; rw [if_pos (by omega), HQ.out])).mono ?_; rintro e w1 ⟨rfl, hb1⟩; have HB1 := Aside0.mk hb1; clear hb1)
        go_ret2
        exact ⟨_, rfl, Kd.R_nil _ _ _ _ _, HB1.out⟩
  · cases h
end Go.Proofs.Ytafdiakomcejjaa.P
