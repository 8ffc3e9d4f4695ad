/- Contract of linear.weights and its closure. Contract of linear.Differ. Contract of linear.weights. Contract of linear.Add. -/
import Derived.Deep.RegionHeld3
import Derived.Deep.DrawnRows
import Derived.Test.YtjcijaojcgampaaGreatDoorZPl23
set_option linter.unusedVariables false
set_option linter.unusedSimpArgs false
set_option maxHeartbeats 16000000
set_option maxRecDepth 100000
section
namespace Go.Proofs.YtjcijaojcgampaaGreatDoor.P.Lin
open Go.RowKit Go.Proofs.YtjcijaojcgampaaGreatDoorW.PrintWords Go.Proofs.YtjcijaojcgampaaGreatDoorW.PrintLast Go.Proofs.YtjcijaojcgampaaGreatDoorW.PrintMore
attribute [local go_sem ↓] Go.wp_at_zero Go.wp_at_succ
theorem weights_step (b base : Nat) (k : Int) (v : Value) (a a' : List Int) (w : World) (hbb : base ≤ b) (hB : w.heap[b]? = some (.cells #[v] 22 (0, 0))) (ho : Kd.R (Kd.int .i64) 3 w base (fun _ => True) v a) (h : stepW? a k = some a') :
    Calls Tryz.prog 177 #[.int .i64 k, .pointer (some ⟨b, 0, none⟩)] w fun e w' => e = .returned (.tuple #[]) ∧ ∃ v', w'.heap[b]? = some (.cells #[v'] 22 (0, 0)) ∧ Kd.R (Kd.int .i64) 3 w' base (fun _ => True) v' a' ∧ Below base w w' := by
  unfold stepW? at h
  split at h
  · rename_i hh
    obtain ⟨hs, hlen, hk0, hk1⟩ := hh
    obtain rfl := Option.some.inj h
    clear h
    obtain ⟨A, c, rfl, hc, hC⟩ := Kd.R_reads ho
    have hc1 := cell_of_one hB
    have hf1 := free_of_one hB
    have HS := Aside0.mk hs
    have HO := Aside0.mk ho
    have HC := Aside0.mk hC
    have HBB := Aside0.mk hB
    clear hs ho hC hB
    go_enter Tryz.func177, Tryz.ntmps177
    go_wp2_with (go_at_call 171; refine (slices_Clone_int_int.calls A c a a _ HC.out hc (by unfold slices_Clone_int_int.f; rw [if_pos (by omega)])).mono ?_; rintro e w1 ⟨v1, rfl, ho1, hb1⟩; obtain ⟨A1, c1, rfl, hc1', hC1⟩ := Kd.R_reads ho1; have HO1 := Aside0.mk ho1; have HB1 := Aside0.mk hb1; have HC1 := Aside0.mk hC1; clear ho1 hb1 hC1)
    have hsz1 := HB1.out.size
    go_loopw [4, 9] (fun u i wr => ∃ n : Nat, n ≤ a.length ∧ i = .int .i64 n ∧ Aside0 (wr.heap[b]? = some (.cells #[.slice A a.length c] 22 (0, 0))) ∧ Aside0 (Kd.R (Kd.int .i64) 3 wr base (fun q => q < w.heap.size) (.slice A a.length c) (newW a k n)) ∧
        Aside0 (Kd.R (Kd.int .i64) 3 wr w.heap.size (fun q => w.heap.size ≤ q) (.slice A1 a.length c1) a) ∧ Aside0 (Below base w wr)) (fun _ i _ => a.length - (intOf i).toNat)
    case atStart =>
      refine ⟨0, Nat.zero_le _, rfl, ⟨?_⟩, ⟨?_⟩, ⟨Kd.R_mono (Kd.R_bound HO1.out) (fun q hq => hq.2.1)⟩, ⟨HB1.out.mono (by have := lt_of_block HBB.out; omega)⟩⟩
      · exact (HB1.out.block b (lt_of_block HBB.out)).trans HBB.out
      · rw [newW_zero]
        exact Kd.R_below (Kd.R_mono (Kd.R_bound HO.out) (fun q hq => hq.2.2.1)) HB1.out
    case round =>
      obtain ⟨n, hn, rfl, HBr, HOr, HWr, HBe⟩ := hrel
      by_cases hlt : n < a.length
      · have hlen' := newW_length a k n hn
        obtain ⟨g, cap, e, hbg, hgl, cells, hcells⟩ := Kd.R_form HOr.out (by omega)
        obtain ⟨g1, cap1, e1, hbg1, hgl1, cells1, hcells1⟩ := Kd.R_form HWr.out (by omega)
        rw [hlen'] at e
        cases e
        cases e1
        have hgw : g < w.heap.size := HOr.out.1 g rfl
        have hne : g1 ≠ g := by omega
        have HE := Aside0.mk (newW_rd a k n hlt)
        have hC0 := cell_of_one HBr.out
        have hcg := Kd.R_cell (W := wr) (0 : Int) (by rw [hlen']; exact HOr.out) (n : Int) (by omega) (by omega)
        have hcg1 := Kd.R_cell (W := wr) (0 : Int) HWr.out ((a.length : Int) - 1 - (n : Int)) (by omega) (by omega)
        obtain ⟨x, hx⟩ : ∃ x, x = rd a (n : Int) := ⟨_, rfl⟩
        obtain ⟨y, hy⟩ : ∃ y, y = rd a ((a.length : Int) - 1 - (n : Int)) := ⟨_, rfl⟩
        have hgn : wr.cell? ⟨g, n, none⟩ = some (.int .i64 x) := by
          have := hcg.1
          rw [Int.toNat_natCast] at this
          rw [this, hx, ← HE.out]; rfl
        have hgf : wr.frozen? ⟨g, n, none⟩ = false := by have := hcg.2; rwa [Int.toNat_natCast] at this
        have hgm : wr.cell? ⟨g1, a.length - 1 - n, none⟩ = some (.int .i64 y) := by rw [show a.length - 1 - n = ((a.length : Int) - 1 - (n : Int)).toNat by omega, hcg1.1, hy]; rfl
        have bx := smallL_rd HS.out (n : Int)
        have by' := smallL_rd HS.out ((a.length : Int) - 1 - (n : Int))
        rw [← hx] at bx
        rw [← hy] at by'
        have hk : -1099511627776000 ≤ k * y ∧ k * y ≤ 1099511627776000 := by
          have h1 := Int.mul_le_mul_of_nonneg_right (show k ≤ 1000 by omega) (show (0 : Int) ≤ 1099511627776 by omega)
          constructor
          · rcases Int.le_total 0 y with q | q
            · have := Int.mul_le_mul_of_nonneg_right (show -1000 ≤ k by omega) q; omega
            · have := Int.mul_le_mul_of_nonpos_right (show k ≤ 1000 by omega) q; omega
          · rcases Int.le_total 0 y with q | q
            · have := Int.mul_le_mul_of_nonneg_right (show k ≤ 1000 by omega) q; omega
            · have := Int.mul_le_mul_of_nonpos_right (show -1000 ≤ k by omega) q; omega
        have hrb := rnd_bound (k * y) 128 1099511627776000 (by omega) (by omega) (by omega)
        have i1 : (0 : Int) ≤ (a.length : Int) - 1 - (n : Int) := by omega
        have i2 : (a.length : Int) - 1 - (n : Int) < (a.length : Int) := by omega
        have i3 : (n : Int) < (a.length : Int) := by omega
        have i4 : (n : Int) ≤ (a.length : Int) - 1 := by omega
        have Hx := Aside0.mk hx
        have Hy := Aside0.mk hy
        have HL := Aside0.mk hlen'
        have HN := Aside0.mk hcells
        have w1' : IntKind.i64.wrap ((a.length : Int) - 1) = (a.length : Int) - 1 := IntWalk.i64_in _ (by omega)
        have w2' : IntKind.i64.wrap ((a.length : Int) - 1 - (n : Int)) = (a.length : Int) - 1 - (n : Int) := IntWalk.i64_in _ (by omega)
        have w3' : IntKind.i64.wrap (k * y) = k * y := IntWalk.i64_in _ (by omega)
        have w4' : IntKind.i64.wrap (x + rnd (k * y) 128) = x + rnd (k * y) 128 := IntWalk.i64_in _ (by omega)
        clear hx hy hcg hcg1 hlen' hcells hcells1
        go_wp2
        refine wp_region_still_tail 17 (by kernel_rfl) (by kernel_rfl) ?_
        simp only [List.take_succ_cons, List.take_zero, List.drop_succ_cons, List.drop_zero]
        repeat still_step
        still_call ((round_any (k * y) 128 wr.drew (by omega) (by omega) (by omega) (by omega)).mono (fun e w' h => ⟨h.1, h.2.symm⟩))
        repeat still_step
        refine wpStill_nil ?_
        change wpList _ _ _ _ _ wr.drew
        clear w1' w2' w3' w4'
        go_wp2
        go_roundw
        case rel =>
          have hset := newW_set a k n hlt
          rw [← Hx.out, ← Hy.out] at hset
          have hput := Kd.R_put (W := wr) (by rw [HL.out]; exact HOr.out) (n : Int) (x + rnd (k * y) 128)
          rw [Int.toNat_natCast, hset, HL.out] at hput
          refine ⟨n + 1, by omega, by go_num, ⟨?_⟩, ⟨?_⟩, ⟨?_⟩, ⟨(HBe.out.setCell hbg _).drew⟩⟩
          · have hbg' : b ≠ g := by
              rintro rfl
              have := HBr.out.symm.trans HN.out
              simp at this
            exact (Below.heap_setCell _ _ _ _ hbg').trans HBr.out
          · exact Kd.R_drew hput.1
          · exact Kd.R_drew (Kd.R_far (p := ⟨g, n, none⟩) HWr.out (fun q hq => by show q ≠ g; omega) _)
        case measure => simp [intOf]; omega
      · obtain rfl : n = a.length := by omega
        have hC0 := cell_of_one HBr.out
        have hF0 := free_of_one HBr.out
        have hbl := lt_of_block HBr.out
        have HOr' := Aside0.mk (Kd.R_mono HOr.out (fun _ _ => trivial) : Kd.R (Kd.int .i64) 3 wr base (fun _ => True) (.slice A a.length c) (newW a k a.length))
        have HL := Aside0.mk (newW_length a k a.length (Nat.le_refl _))
        have hbz : base ≤ wr.heap.size := by omega
        go_wp2_with (at_builtin; refine Kd.R_append (Kd.int .i64) (w0 := w) base rfl (.tmp 30) (.tmp 33) 22 3 (.int .i64 0) 8 rfl Tryz.underlying22 hinfo3 rfl (by decide) (by omega) _ (newW a k a.length) (32 * k) [.int .i64 (32 * k)] (fun _ => True) (fun _ => False) rfl rfl rfl (fun _ hk => hk.elim) (fun _ _ => trivial) HOr'.out HBe.out hbz (by rw [HL.out]; omega) ?_; intro v2 w2 ho hb hg hat; obtain ⟨A2, c2, rfl, hc2, hC2⟩ := Kd.R_reads ho; have hB2 := (hg.block b hbl (Kd.R_ne HOr'.out HBr.out (by decide))).trans HBr.out; have hK2 := cell_of_one hB2; have hF2 := free_of_one hB2; have HO2 := Aside0.mk ho; have HB2 := Aside0.mk hb; have HH2 := Aside0.mk hB2; clear ho hb hg hat hB2 hC2 hc2)
        go_end0
        refine ⟨rfl, _, one_setCell HH2.out, ?_, HB2.out.setCell hbb _⟩
        have h9 := Kd.R_set HO2.out HH2.out (by intro q hq; simp [Kd.int, Kd.scalar] at hq; omega) 0 (.slice A2 ((newW a k a.length).length + 1) c2)
        rw [List.length_append] at h9
        exact h9
  · cases h
end Go.Proofs.YtjcijaojcgampaaGreatDoor.P.Lin
end
section
namespace Go.Proofs.YtjcijaojcgampaaGreatDoor.P.Lin
open Go.RowKit Go.Proofs.YtjcijaojcgampaaGreatDoorW.PrintWords Go.Proofs.YtjcijaojcgampaaGreatDoorW.PrintLast Go.Proofs.YtjcijaojcgampaaGreatDoorW.PrintMore
def dAt (l : List Int) (j : Nat) : Int := if j = 0 then rd l 0 else rd l (j : Int) - rd l ((j : Int) - 1)
def dpart (l : List Int) (i : Nat) : List Int := (List.range l.length).map fun j => if j ≤ i then rd l (j : Int) else dAt l j
def dstep (l : List Int) : List Int := (List.range l.length).map (dAt l)
def diffs (l : List Int) : Nat → List Int
  | 0 => l
  | n + 1 => dstep (diffs l n)
theorem dpart_length (l : List Int) (i : Nat) : (dpart l i).length = l.length := by simp [dpart]
theorem dstep_length (l : List Int) : (dstep l).length = l.length := by simp [dstep]
theorem diffs_length (l : List Int) (n : Nat) : (diffs l n).length = l.length := by
  induction n with
  | zero => rfl
  | succ n ih => rw [diffs, dstep_length, ih]
theorem rd_nat (l : List Int) (j : Nat) : rd l (j : Int) = l.getD j 0 := by simp [rd]
theorem dpart_all (l : List Int) (i : Nat) (h : l.length ≤ i + 1) : dpart l i = l := by
  apply List.ext_getElem (by simp [dpart])
  intro j h1 h2
  simp only [dpart, List.getElem_map, List.getElem_range]
  rw [if_pos (by omega), rd_nat]
  simp [List.getD_eq_getElem?_getD, h2]
theorem dpart_zero (l : List Int) : dpart l 0 = dstep l := by
  unfold dpart dstep
  apply List.map_congr_left
  intro j _
  by_cases hj : j = 0
  · subst hj; simp [dAt]
  · rw [if_neg (by omega)]
theorem dpart_rd (l : List Int) (i j : Nat) (hj : j < l.length) (h : j ≤ i) : rd (dpart l i) (j : Int) = rd l (j : Int) := by
  rw [rd_nat (dpart l i)]
  simp [dpart, List.getD_eq_getElem?_getD, hj, h]
theorem dpart_set (l : List Int) (i : Nat) (h : i + 1 < l.length) : (dpart l (i + 1)).set (i + 1) (rd l ((i + 1 : Nat) : Int) - rd l (i : Int)) = dpart l i := by
  apply List.ext_getElem (by simp [dpart])
  intro j h1 h2
  simp only [dpart, List.getElem_set, List.getElem_map, List.getElem_range]
  by_cases hj : j = i + 1
  · subst hj
    rw [if_pos rfl, if_neg (by omega), dAt, if_neg (by omega)]
    congr 2
    omega
  · rw [if_neg (by omega)]
    by_cases hk : j ≤ i
    · rw [if_pos (by omega), if_pos hk]
    · rw [if_neg (by omega), if_neg hk]
def within (B : Int) (l : List Int) : Prop := ∀ x ∈ l, -B ≤ x ∧ x ≤ B
theorem within_rd {B : Int} {l : List Int} (h : within B l) (hB : 0 ≤ B) (i : Int) : -B ≤ rd l i ∧ rd l i ≤ B := by
  unfold rd
  rw [List.getD_eq_getElem?_getD]
  by_cases hi : i.toNat < l.length
  · rw [List.getElem?_eq_getElem hi]
    exact h _ (List.getElem_mem hi)
  · rw [List.getElem?_eq_none (by omega)]
    simp; omega
theorem within_dstep {B : Int} {l : List Int} (h : within B l) (hB : 0 ≤ B) : within (2 * B) (dstep l) := by
  intro x hx
  obtain ⟨j, _, rfl⟩ := List.mem_map.1 hx
  unfold dAt
  have h0 := within_rd h hB 0
  have h1 := within_rd h hB (j : Int)
  have h2 := within_rd h hB ((j : Int) - 1)
  split <;> omega
theorem within_mono {B B' : Int} {l : List Int} (h : within B l) (hB : B ≤ B') : within B' l := fun x hx => by have := h x hx; omega
theorem within_diffs {l : List Int} (h : within 2097152 l) (n : Nat) (hn : n ≤ 4) : within 33554432 (diffs l n) := by
  match n, hn with
  | 0, _ => exact within_mono h (by omega)
  | 1, _ => exact within_mono (within_dstep h (by omega)) (by omega)
  | 2, _ => exact within_mono (within_dstep (within_dstep h (by omega)) (by omega)) (by omega)
  | 3, _ => exact within_mono (within_dstep (within_dstep (within_dstep h (by omega)) (by omega)) (by omega)) (by omega)
  | 4, _ => exact within_mono (within_dstep (within_dstep (within_dstep (within_dstep h (by omega)) (by omega)) (by omega)) (by omega)) (by omega)
theorem chk_zero {l : List Int} {m : Int} (h : chk l m = 0) : l.length ≤ 8192 ∧ within m l := by
  unfold chk at h
  split at h
  · omega
  · split at h
    · omega
    · rename_i h1 h2
      refine ⟨by omega, fun x hx => ?_⟩
      have : outB m x = false := by
        cases hb : outB m x
        · rfl
        · exact absurd (List.any_eq_true.2 ⟨x, hx, hb⟩) h2
      simp [outB] at this
      omega
theorem differ_yes (A0 : Option Addr) (c0 : Nat) (l0 : List Int) (k : Nat) (w : World) (hr0 : Kd.C (Kd.int .i64) w A0 l0.length l0) (hc0 : l0.length ≤ c0) (hk : k ≤ 4) (hz : chk l0 2097152 = 0) :
    Calls Tryz.prog 99 #[.slice A0 l0.length c0, .int .i64 k] w fun e w' => ∃ v0_ : Value, e = .returned (.tuple #[v0_, .int .i64 0]) ∧ Kd.R (Kd.int .i64) 3 w' w.heap.size (fun _ => True) v0_ (diffs l0 k) ∧ Below w.heap.size w w' := by
  obtain ⟨hlen, hwi⟩ := chk_zero hz
  have HR := Aside0.mk hr0
  have HZ := Aside0.mk hz
  have HW := Aside0.mk hwi
  clear hr0 hz hwi
  have hd1 : decide ((k : Int) < 0) = false := by simp
  have hd2 : decide ((4 : Int) < (k : Int)) = false := by simp; omega
  have HB := Aside0.mk (Below.refl w.heap.size w)
  go_enter Tryz.func99, Tryz.ntmps99
  go_wp2_with (first
    | (go_at_call 128; refine (linear_check.calls A0 c0 l0 2097152 0 _ HR.out hc0 (by unfold linear_check.f; rw [if_pos (by omega), HZ.out])).mono ?_; rintro e w1 ⟨rfl, hb1⟩; have HB1 := Aside0.mk hb1; clear hb1)
    | ((with_reducible refine gate_dst (N := 22) rfl ?_); refine Kd.R_make (Kd.int .i64) (w0 := w) w.heap.size 3 rfl (N := 22) rfl 22 _ _ rfl (l0.length : Int) rfl rfl Tryz.underlying22 (.int .i64 0) 8 hinfo3 rfl (by decide) (by omega) (0 : Int) (ok := fun _ => True) (okp := fun _ => True) rfl (fun _ h => h) trivial (by omega) (by simp; omega) HB1.out HB1.out.size ?_; intro v2 w2 ho hb hg hf; rw [Int.toNat_natCast] at ho; obtain ⟨A2, c2, hv2, hc2, hC2⟩ := Kd.R_reads ho; rw [List.length_replicate] at hv2; cases hv2; have HO2 := Aside0.mk ho; have HB2 := Aside0.mk hb; clear ho hb hg hf hc2 hC2)
    | ((with_reducible refine gate_dst (N := 25) rfl ?_); refine Kd.R_copy (enc := Value.int .i64) (0 : Int) (w0 := w) w.heap.size rfl (.tmp 23) (.tmp 24) 22 22 3 rfl Tryz.underlying22 (by kernel_rfl) _ _ l0 _ _ _ (fun _ => True) rfl rfl HO2.out (Kd.C_below HR.out HB2.out) HB2.out HB2.out.size ?_; intro w3 ho hb hg; rw [List.length_replicate, Nat.min_self, List.take_length, List.drop_of_length_le (by simp), List.append_nil] at ho; have HO3 : Aside0 (Kd.R (Kd.int .i64) 3 w3 w.heap.size (fun _ => True) (.slice A2 l0.length c2) l0) := ⟨ho⟩; have HB3 := Aside0.mk hb; clear ho hb hg))
  go_loopw [8, 27] (fun u i wr => ∃ n : Nat, n ≤ k ∧ i = .int .i64 n ∧ Aside0 (Kd.R (Kd.int .i64) 3 wr w.heap.size (fun _ => True) (.slice A2 l0.length c2) (diffs l0 n)) ∧ Aside0 (Below w.heap.size w wr)) (fun _ i _ => k - (intOf i).toNat)
  case atStart => exact ⟨0, Nat.zero_le _, rfl, HO3, HB3⟩
  case round =>
    obtain ⟨n, hn, rfl, HOr, HBe⟩ := hrel
    by_cases hlt : n < k
    · have hL := diffs_length l0 n
      have HWI := Aside0.mk (within_diffs HW.out n (by omega))
      obtain ⟨L, hLL⟩ : ∃ L, L = diffs l0 n := ⟨_, rfl⟩
      rw [← hLL] at HOr HWI hL
      have HLL := Aside0.mk hLL
      have HLn := Aside0.mk hL
      clear hLL hL
      go_wp2
      obtain ⟨wo, rfl⟩ : ∃ wo : World, wo = wr := ⟨_, rfl⟩
      go_loopw [8] (fun u wi => ∃ i : Int, u = .int .i64 i ∧ -1 ≤ i ∧ i < l0.length ∧ Aside0 (Kd.R (Kd.int .i64) 3 wi w.heap.size (fun _ => True) (.slice A2 l0.length c2) (dpart L i.toNat)) ∧ Aside0 (Below w.heap.size w wi)) (fun u _ => (intOf u).toNat)
      case atStart =>
        refine ⟨_, rfl, by omega, by omega, ⟨?_⟩, HBe⟩
        rw [dpart_all L _ (by rw [HLn.out]; omega)]
        exact HOr.out
      case round =>
        obtain ⟨i, rfl, hi0, hi1, HOi, HBi⟩ := hrel
        by_cases hip : 0 < i
        · obtain ⟨m, rfl⟩ : ∃ m : Nat, i = ((m + 1 : Nat) : Int) := ⟨(i - 1).toNat, by omega⟩
          rw [Int.toNat_natCast] at HOi
          have hdl := dpart_length L (m + 1)
          rw [HLn.out] at hdl
          obtain ⟨g, cap, e, hbg, hgl, cells, hcells⟩ := Kd.R_form HOi.out (by omega)
          rw [hdl] at e
          cases e
          have hcg := Kd.R_cell (W := wr) (0 : Int) (by rw [hdl]; exact HOi.out) ((m + 1 : Nat) : Int) (by omega) (by omega)
          have hcg1 := Kd.R_cell (W := wr) (0 : Int) (by rw [hdl]; exact HOi.out) (m : Int) (by omega) (by omega)
          rw [Int.toNat_natCast] at hcg hcg1
          have hx1 : wr.cell? ⟨g, m + 1, none⟩ = some (.int .i64 (rd L ((m + 1 : Nat) : Int))) := by rw [hcg.1, ← dpart_rd L (m + 1) (m + 1) (by rw [HLn.out]; omega) (Nat.le_refl _)]; rfl
          have hx2 : wr.cell? ⟨g, m, none⟩ = some (.int .i64 (rd L (m : Int))) := by rw [hcg1.1, ← dpart_rd L (m + 1) m (by rw [HLn.out]; omega) (by omega)]; rfl
          have hfz := hcg.2
          have bx := within_rd HWI.out (by omega) ((m + 1 : Nat) : Int)
          have bx2 := within_rd HWI.out (by omega) (m : Int)
          have HS := Aside0.mk (dpart_set L m (by rw [HLn.out]; omega))
          obtain ⟨x, hx⟩ : ∃ x, x = rd L ((m + 1 : Nat) : Int) := ⟨_, rfl⟩
          obtain ⟨y, hy⟩ : ∃ y, y = rd L (m : Int) := ⟨_, rfl⟩
          rw [← hx] at hx1 bx HS
          rw [← hy] at hx2 bx2 HS
          have HL := Aside0.mk hdl
          have i1 : (0 : Int) ≤ (m : Int) + 1 := by omega
          have i2 : (m : Int) + 1 < (l0.length : Int) := by omega
          have i3 : (0 : Int) ≤ (m : Int) := by omega
          have i4 : (m : Int) < (l0.length : Int) := by omega
          have w1' : IntKind.i64.wrap (m : Int) = (m : Int) := IntWalk.i64_in _ (by omega)
          have w2' : IntKind.i64.wrap (x - y) = x - y := IntWalk.i64_in _ (by omega)
          clear hx hy hcg hcg1 hdl hcells
          go_wp2
          refine wp_region_still_tail 11 (by kernel_rfl) (by kernel_rfl) ?_
          simp only [List.take_succ_cons, List.take_zero, List.drop_succ_cons, List.drop_zero]
          repeat still_step
          refine wpStill_nil ?_
          change wpList _ _ _ _ _ wr.drew
          clear w1' w2'
          go_wp2
          go_roundw
          case rel =>
            have hput := Kd.R_put (W := wr) (by rw [HL.out]; exact HOi.out) ((m + 1 : Nat) : Int) (x - y)
            rw [Int.toNat_natCast, HS.out, HL.out] at hput
            exact ⟨(m : Int), by simp, by omega, by omega, ⟨by rw [Int.toNat_natCast]; exact Kd.R_drew hput.1⟩, ⟨(HBi.out.setCell hbg _).drew⟩⟩
          case measure => simp [intOf]
        · have hpz : dpart L i.toNat = dstep L := by rw [show i.toNat = 0 by omega, dpart_zero]
          rw [hpz] at HOi
          have HDD : Aside0 (diffs l0 (n + 1) = dstep L) := ⟨by rw [diffs, HLL.out]⟩
          clear hpz
          go_wp2
          go_roundw
          case rel => exact ⟨n + 1, by omega, by go_num, by rw [HDD.out]; exact HOi, HBi⟩
          case measure => simp [intOf]; omega
    · obtain rfl : n = k := by omega
      go_wp2
      go_ret2
      exact ⟨_, rfl, HOr.out, HBe.out⟩
def wfold (a : List Int) : List Int → Option (List Int)
  | [] => some a
  | k :: l => (stepW? a k).bind fun a' => wfold a' l
def linear_weights.f (l0 : List Int) : Option (List Int) := if l0.length ≤ 9223372036854775807 then wfold [] l0 else none
theorem linear_weights.calls (A0 : Option Addr) (c0 : Nat) (l0 : List Int) (r : List Int) (w : World) (hr0 : Kd.C (Kd.int .i64) w A0 l0.length l0) (hc0 : l0.length ≤ c0) (h : linear_weights.f l0 = some r) :
    Calls Tryz.prog 137 #[.slice A0 l0.length c0] w fun e w' => ∃ v0_ : Value, e = .returned v0_ ∧ Kd.R (Kd.int .i64) 3 w' w.heap.size (fun _ => True) v0_ r ∧ Below w.heap.size w w' := by
  unfold linear_weights.f at h
  split at h
  · rename_i hh
    have HR := Aside0.mk hr0
    have H := Aside0.mk h
    clear hr0 h
    go_enter Tryz.func137, Tryz.ntmps137
    go_wp2
    go_loopw [6, 10] (fun u i wr => ∃ (n : Nat) (v : Value) (a : List Int), n ≤ l0.length ∧ i = .int .i64 n ∧ Aside0 (wr.heap[w.heap.size]? = some (.cells #[v] 22 (0, 0))) ∧ Aside0 (Kd.R (Kd.int .i64) 3 wr w.heap.size (fun _ => True) v a) ∧
        Aside0 (wfold a (l0.drop n) = some r) ∧ Aside0 (Below w.heap.size w wr)) (fun _ i _ => l0.length - (intOf i).toNat)
    case atStart =>
      exact ⟨0, _, [], Nat.zero_le _, rfl, ⟨heap_alloc_new w _⟩, ⟨Kd.R_nil _ _ _ _ _⟩, ⟨by simpa using H.out⟩, ⟨(Below.refl _ _).alloc (Nat.le_refl _) _⟩⟩
    case round =>
      obtain ⟨n, v, a, hn, rfl, HBr, HOr, HE, HBe⟩ := hrel
      by_cases hlt : n < l0.length
      · have q1 : (0 : Int) ≤ (n : Int) := by omega
        have q2 : (n : Int) < (l0.length : Int) := by omega
        obtain ⟨ad, e, hx⟩ := Kd.at_int (Kd.C_below HR.out HBe.out) (n : Int) q1 q2
        cases e
        rw [Int.toNat_natCast] at hx
        have hE := HE.out
        rw [drop_head l0 n hlt, wfold] at hE
        obtain ⟨a', ha', hE'⟩ := Option.bind_eq_some_iff.1 hE
        have HE1 := Aside0.mk ha'
        have HE2 := Aside0.mk hE'
        clear ha' hE' hE
        go_wp2_with (go_at_call 177; refine (weights_step w.heap.size w.heap.size _ v a a' _ (Nat.le_refl _) HBr.out HOr.out HE1.out).mono ?_; rintro e w1 ⟨rfl, v', hb1, ho1, hbe1⟩; have HB1 := Aside0.mk hb1; have HO1 := Aside0.mk ho1; have HBE1 := Aside0.mk hbe1; clear hb1 ho1 hbe1)
        go_roundw
        case rel => exact ⟨n + 1, v', a', by omega, by go_num, HB1, HO1, HE2, ⟨HBe.out.trans HBE1.out⟩⟩
        case measure => simp [intOf]; omega
      · obtain rfl : n = l0.length := by omega
        have hE := HE.out
        rw [List.drop_length, wfold] at hE
        have HE1 := Aside0.mk (Option.some.inj hE)
        clear hE
        have hC0 := cell_of_one HBr.out
        obtain ⟨A, c, hv, hc, hC⟩ := Kd.R_reads HOr.out
        cases hv
        clear hC
        go_wp2
        go_ret
        exact ⟨_, rfl, by rw [← HE1.out]; exact HOr.out, HBe.out⟩
  · cases h
def psum (m : Int) : Int → List Int → Option (List Int)
  | _, [] => some []
  | prev, x :: l => if x + prev < -m ∨ m < x + prev then none else (psum m (x + prev) l).map fun r => (x + prev) :: r
def mostD (j : Nat) : Int := 2097152 * 2 ^ j
def sums (l : List Int) : Nat → Option (List Int)
  | 0 => some l
  | j + 1 => (psum (mostD j) 0 l).bind fun r => sums r j
theorem psum_length {m : Int} : ∀ {prev : Int} {l r : List Int}, psum m prev l = some r → r.length = l.length
  | _, [], r, h => by simp [psum] at h; subst h; rfl
  | prev, x :: l, r, h => by
    unfold psum at h
    split at h
    · cases h
    · obtain ⟨r', hr, rfl⟩ := Option.map_eq_some_iff.1 h
      simp [psum_length hr]
theorem psum_within {m : Int} : ∀ {prev : Int} {l r : List Int}, psum m prev l = some r → within m r
  | _, [], r, h => by simp [psum] at h; subst h; intro x hx; cases hx
  | prev, x :: l, r, h => by
    unfold psum at h
    split at h
    · cases h
    · rename_i hc
      obtain ⟨r', hr, rfl⟩ := Option.map_eq_some_iff.1 h
      intro y hy
      rcases List.mem_cons.1 hy with rfl | hy
      · omega
      · exact psum_within hr y hy
theorem mostD_le (j : Nat) (h : j ≤ 3) : 2097152 ≤ mostD j ∧ mostD j ≤ 16777216 := by
  match j, h with
  | 0, _ => decide
  | 1, _ => decide
  | 2, _ => decide
  | 3, _ => decide
def linear_Add.f (l0 : List Int) (a1 : Int) : Option (List Int × Int) :=
  if l0.length ≤ 9223372036854775807 then
    (if a1 < 0 ∨ 4 < a1 then some ([], 1) else if chk l0 67108864 = 0 then
      (match sums l0 a1.toNat with
       | none => some ([], 6)
       | some r => if chk r 2097152 = 0 then some (r, 0) else some ([], 6))
    else some ([], chk l0 67108864))
  else none
theorem add_any (A0 : Option Addr) (c0 : Nat) (l0 : List Int) (k : Nat) (w : World) (r1 : List Int) (r2 : Int) (hr0 : Kd.C (Kd.int .i64) w A0 l0.length l0) (hc0 : l0.length ≤ c0) (hk : k ≤ 4) (hz : chk l0 67108864 = 0)
    (hs : (match sums l0 k with
       | none => some ([], 6)
       | some r => if chk r 2097152 = 0 then some (r, 0) else some ([], 6)) = some (r1, r2)) :
    Calls Tryz.prog 155 #[.slice A0 l0.length c0, .int .i64 k] w fun e w' => ∃ v0_ : Value, e = .returned (.tuple #[v0_, .int .i64 r2]) ∧ Kd.R (Kd.int .i64) 3 w' w.heap.size (fun _ => True) v0_ r1 ∧ Below w.heap.size w w' := by
  obtain ⟨hlen, hwi⟩ := chk_zero hz
  have HR := Aside0.mk hr0
  have HZ := Aside0.mk hz
  have HW := Aside0.mk hwi
  have HS := Aside0.mk hs
  clear hr0 hz hwi hs
  have hd1 : decide ((k : Int) < 0) = false := by simp
  have hd2 : decide ((4 : Int) < (k : Int)) = false := by simp; omega
  go_enter Tryz.func155, Tryz.ntmps155
  go_wp2_with (first
    | (go_at_call 128; refine (linear_check.calls A0 c0 l0 67108864 0 _ HR.out hc0 (by unfold linear_check.f; rw [if_pos (by omega), HZ.out])).mono ?_; rintro e w1 ⟨rfl, hb1⟩; have HB1 := Aside0.mk hb1; clear hb1)
    | ((with_reducible refine gate_dst (N := 25) rfl ?_); refine Kd.R_make (Kd.int .i64) (w0 := w) w.heap.size 3 rfl (N := 25) rfl 22 _ _ rfl (l0.length : Int) rfl rfl Tryz.underlying22 (.int .i64 0) 8 hinfo3 rfl (by decide) (by omega) (0 : Int) (ok := fun _ => True) (okp := fun _ => True) rfl (fun _ h => h) trivial (by omega) (by simp; omega) HB1.out HB1.out.size ?_; intro v2 w2 ho hb hg hf; rw [Int.toNat_natCast] at ho; obtain ⟨A2, c2, hv2, hc2, hC2⟩ := Kd.R_reads ho; rw [List.length_replicate] at hv2; cases hv2; have HO2 := Aside0.mk ho; have HB2 := Aside0.mk hb; clear ho hb hg hf hc2 hC2)
    | ((with_reducible refine gate_dst (N := 28) rfl ?_); refine Kd.R_copy (enc := Value.int .i64) (0 : Int) (w0 := w) w.heap.size rfl (.tmp 26) (.tmp 27) 22 22 3 rfl Tryz.underlying22 (by kernel_rfl) _ _ l0 _ _ _ (fun _ => True) rfl rfl HO2.out (Kd.C_below HR.out HB2.out) HB2.out HB2.out.size ?_; intro w3 ho hb hg; rw [List.length_replicate, Nat.min_self, List.take_length, List.drop_of_length_le (by simp), List.append_nil] at ho; have HO3 : Aside0 (Kd.R (Kd.int .i64) 3 w3 w.heap.size (fun _ => True) (.slice A2 l0.length c2) l0) := ⟨ho⟩; have HB3 := Aside0.mk hb; clear ho hb hg))
  go_loopw [8] (fun u wr => ∃ (j : Nat) (L : List Int), j ≤ k ∧ u = .int .i64 ((j : Int) - 1) ∧ L.length = l0.length ∧ Aside0 (within 67108864 L) ∧ Aside0 (sums l0 k = sums L j) ∧ Aside0 (Kd.R (Kd.int .i64) 3 wr w.heap.size (fun _ => True) (.slice A2 l0.length c2) L) ∧ Aside0 (Below w.heap.size w wr)) (fun u _ => (intOf u + 1).toNat)
  case atStart => exact ⟨k, l0, Nat.le_refl _, rfl, rfl, HW, ⟨rfl⟩, HO3, HB3⟩
  case round =>
    obtain ⟨j, L, hj, rfl, hL, HWL, HSL, HOr, HBe⟩ := hrel
    have HLn := Aside0.mk hL
    clear hL
    cases j with
    | zero =>
      have hS := HS.out
      rw [HSL.out, sums] at hS
      simp only at hS
      have HLc := Aside0.mk (show L.length ≤ 8192 by rw [HLn.out]; exact hlen)
      by_cases hc : chk L 2097152 = 0
      · rw [if_pos hc] at hS
        simp only [Option.some.injEq, Prod.mk.injEq] at hS
        obtain ⟨rfl, rfl⟩ := hS
        have HC := Aside0.mk hc
        clear hc
        have hck := linear_check.calls A2 c2 L 2097152 0 wr (Kd.R_reads' HOr.out).2.2 (by rw [HLn.out]; exact (Kd.R_reads' HOr.out).2.1) (by unfold linear_check.f; rw [if_pos (by have := HLc.out; omega), HC.out])
        rw [HLn.out] at hck
        have HCK := Aside0.mk hck
        clear hck
        go_wp2_with (go_at_call 128; refine HCK.out.mono ?_; rintro e w1 ⟨rfl, hb1⟩; have HB1 := Aside0.mk hb1; clear hb1)
        go_ret2
        exact ⟨_, rfl, Kd.R_below HOr.out HB1.out, HBe.out.trans (HB1.out.mono HBe.out.size)⟩
      · rw [if_neg hc] at hS
        simp only [Option.some.injEq, Prod.mk.injEq] at hS
        obtain ⟨rfl, rfl⟩ := hS
        obtain ⟨q, hq⟩ : ∃ q, q = chk L 2097152 := ⟨_, rfl⟩
        rw [← hq] at hc
        have HQ := Aside0.mk hq
        clear hq
        have hz1 : (q != 0) = true := by simpa using hc
        have hz2 : (q == 0) = false := by simpa using hc
        have hck := linear_check.calls A2 c2 L 2097152 q wr (Kd.R_reads' HOr.out).2.2 (by rw [HLn.out]; exact (Kd.R_reads' HOr.out).2.1) (by unfold linear_check.f; rw [if_pos (by have := HLc.out; omega), HQ.out])
        rw [HLn.out] at hck
        have HCK := Aside0.mk hck
        clear hck
        go_wp2_with (go_at_call 128; refine HCK.out.mono ?_; rintro e w1 ⟨rfl, hb1⟩; have HB1 := Aside0.mk hb1; clear hb1)
        go_ret2
        exact ⟨_, rfl, Kd.R_nil _ _ _ _ _, HBe.out.trans (HB1.out.mono HBe.out.size)⟩
    | succ j =>
      have e1 : ((j + 1 : Nat) : Int) - 1 = (j : Int) := by omega
      rw [e1]
      clear e1
      have hm := mostD_le j (by omega)
      unfold mostD at hm
      go_wp2
      obtain ⟨M, hM⟩ : ∃ M : Int, M = 2097152 * 2 ^ j := ⟨_, rfl⟩
      rw [← hM] at hm ⊢
      have HM : Aside0 (mostD j = M) := ⟨by rw [hM]; rfl⟩
      clear hM
      obtain ⟨wo, rfl⟩ : ∃ wo : World, wo = wr := ⟨_, rfl⟩
      go_loopw [39] (fun u wr => ∃ (pre rest : List Int) (prev : Int), u = .int .i64 (pre.length : Int) ∧ pre.length + rest.length = l0.length ∧ -67108864 ≤ prev ∧ prev ≤ 67108864 ∧ Aside0 (within 67108864 rest) ∧
          Aside0 (pre = [] → prev = 0) ∧ Aside0 (pre ≠ [] → rd pre ((pre.length : Int) - 1) = prev) ∧ Aside0 (psum M 0 L = (psum M prev rest).map (pre ++ ·)) ∧ Aside0 (Kd.R (Kd.int .i64) 3 wr w.heap.size (fun _ => True) (.slice A2 l0.length c2) (pre ++ rest)) ∧ Aside0 (Below w.heap.size w wr)) (fun u _ => l0.length - (intOf u).toNat)
      case atStart => exact ⟨[], L, 0, rfl, by simpa using HLn.out, by omega, by omega, HWL, ⟨fun _ => rfl⟩, ⟨fun h => absurd rfl h⟩, ⟨by simp⟩, HOr, HBe⟩
      case round =>
        obtain ⟨pre, rest, prev, rfl, hlr, hp0, hp1, HWR, HP0, HPN, HPS, HOi, HBi⟩ := hrel
        cases rest with
        | nil =>
          simp only [List.length_nil, Nat.add_zero] at hlr
          have HE : Aside0 (sums l0 k = sums pre j) := ⟨by rw [HSL.out, sums, HM.out, HPS.out, psum]; simp⟩
          have HWP : Aside0 (within 67108864 pre) := ⟨by
            have h9 : psum M 0 L = some pre := by rw [HPS.out, psum]; simp
            exact within_mono (psum_within h9) (by omega)⟩
          rw [List.append_nil] at HOi
          have HLP := Aside0.mk hlr
          have hlq : ¬ ((pre.length : Int) < (l0.length : Int)) := by omega
          clear hlr
          go_wp2
          go_roundw
          case rel => exact ⟨j, pre, by omega, by go_num, HLP.out, HWP, HE, HOi, HBi⟩
          case measure => simp [intOf]
        | cons x rest =>
          have hplt : pre.length < l0.length := by simp at hlr; omega
          have hall : (pre ++ x :: rest).length = l0.length := by rw [List.length_append]; exact hlr
          obtain ⟨g, cap, e, hbg, hgl, cells, hcells⟩ := Kd.R_form HOi.out (by omega)
          rw [hall] at e
          cases e
          have hcg := Kd.R_cell (W := wr) (0 : Int) (by rw [hall]; exact HOi.out) (pre.length : Int) (by omega) (by omega)
          rw [Int.toNat_natCast] at hcg
          have hx1 : wr.cell? ⟨g, pre.length, none⟩ = some (.int .i64 x) := by rw [hcg.1]; simp [rdOf]
          have hfz := hcg.2
          have bx := HWR.out x (by simp)
          have HL := Aside0.mk hall
          have HSet : Aside0 ((pre ++ x :: rest).set pre.length (x + prev) = (pre ++ [x + prev]) ++ rest) := ⟨by simp⟩
          have HWR' : Aside0 (within 67108864 rest) := ⟨fun z hz => HWR.out z (List.mem_cons_of_mem _ hz)⟩
          have HLR : Aside0 ((pre ++ [x + prev]).length + rest.length = l0.length) := ⟨by simp at hlr ⊢; omega⟩
          have HPr : Aside0 (rd (pre ++ [x + prev]) (((pre ++ [x + prev]).length : Int) - 1) = x + prev) := ⟨by simp [rd]⟩
          have HPL : Aside0 ((pre ++ [x + prev]).length = pre.length + 1) := ⟨by simp⟩
          have hxp : 0 < pre.length → wr.cell? ⟨g, pre.length - 1, none⟩ = some (.int .i64 prev) := fun hp => by
            have h7 := Kd.R_cell (W := wr) (0 : Int) (by rw [hall]; exact HOi.out) ((pre.length : Int) - 1) (by omega) (by omega)
            rw [show ((pre.length : Int) - 1).toNat = pre.length - 1 by omega] at h7
            rw [h7.1, ← HPN.out (by rintro rfl; simp at hp)]
            simp [rdOf, rd, show ((pre.length : Int) - 1).toNat = pre.length - 1 by omega, List.getD_eq_getElem?_getD, List.getElem?_append_left (show pre.length - 1 < pre.length by omega)]
          have hp0' : pre.length = 0 → prev = 0 := fun h => HP0.out (List.eq_nil_of_length_eq_zero h)
          have hput := Kd.R_put (W := wr) (by rw [hall]; exact HOi.out) (pre.length : Int) (x + prev)
          rw [Int.toNat_natCast, HSet.out, hall] at hput
          have HPut := Aside0.mk hput.1
          have hfin : psum M 0 L = if x + prev < -M ∨ M < x + prev then none else (psum M (x + prev) rest).map ((pre ++ [x + prev]) ++ ·) := by
            rw [HPS.out, psum]
            split
            · rfl
            · simp [Option.map_map, Function.comp_def]
          have HFin := Aside0.mk hfin
          obtain ⟨p, hp⟩ : ∃ p, p = pre.length := ⟨_, rfl⟩
          rw [← hp] at hplt hx1 hfz hxp hp0' HPut HPL ⊢
          have HPP := Aside0.mk hp
          clear hp hcg hall hcells hlr hfin hput
          have i1 : (0 : Int) ≤ (p : Int) := by omega
          have i2 : (p : Int) < (l0.length : Int) := by omega
          by_cases hy : x + prev < -M ∨ M < x + prev
          · have hS := HS.out
            rw [HSL.out, sums, HM.out, HFin.out, if_pos hy] at hS
            simp only [Option.bind_none, Option.some.injEq, Prod.mk.injEq] at hS
            obtain ⟨rfl, rfl⟩ := hS
            by_cases hpe : p = 0
            · have h0 := hp0' hpe
              subst h0
              have hd0 : decide ((0 : Int) < (p : Int)) = false := by simp; omega
              have hd0n : decide (0 < p) = false := by simp; omega
              have i7 : (p : Int) ≤ 0 := by omega
              simp only [Int.add_zero] at hy
              clear hxp hp0' hpe
              rcases Int.lt_or_le x (-M) with hq | hq
              · have hd3 : decide (x < -M) = true := by simpa using hq
                go_wp2
                go_ret2
                exact ⟨_, rfl, Kd.R_nil _ _ _ _ _, HBi.out⟩
              · have hd3 : decide (x < -M) = false := by simpa using hq
                have hd4 : decide (M < x) = true := by simp; omega
                go_wp2
                go_ret2
                exact ⟨_, rfl, Kd.R_nil _ _ _ _ _, HBi.out⟩
            · have hx2 := hxp (by omega)
              have hd0 : decide ((0 : Int) < (p : Int)) = true := by simp; omega
              have i3 : (1 : Int) ≤ (p : Int) := by omega
              have i4 : (p : Int) - 1 < (l0.length : Int) := by omega
              have i5 : (p : Int) < (l0.length : Int) + 1 := by omega
              have i6 : (0 : Int) ≤ (p : Int) - 1 := by omega
              clear hxp hp0' hpe
              rcases Int.lt_or_le (x + prev) (-M) with hq | hq
              · have hd3 : decide (x + prev < -M) = true := by simpa using hq
                go_wp2
                go_ret2
                exact ⟨_, rfl, Kd.R_nil _ _ _ _ _, HBi.out⟩
              · have hd3 : decide (x + prev < -M) = false := by simpa using hq
                have hd4 : decide (M < x + prev) = true := by simp; omega
                go_wp2
                go_ret2
                exact ⟨_, rfl, Kd.R_nil _ _ _ _ _, HBi.out⟩
          · have HGO := HFin
            rw [if_neg hy] at HGO
            by_cases hpe : p = 0
            · have h0 := hp0' hpe
              subst h0
              have hd0 : decide ((0 : Int) < (p : Int)) = false := by simp; omega
              have hd0n : decide (0 < p) = false := by simp; omega
              have i7 : (p : Int) ≤ 0 := by omega
              simp only [Int.add_zero] at hy HPut
              have hd3 : decide (x < -M) = false := by simp; omega
              have hd4 : decide (M < x) = false := by simp; omega
              clear hxp hp0' hpe hy
              go_wp2
              go_roundw
              case rel => exact ⟨pre ++ [x + 0], rest, x + 0, by rw [HPL.out]; go_num, HLR.out, by omega, by omega, HWR', ⟨fun h => by simp at h⟩, ⟨fun _ => HPr.out⟩, HGO, ⟨by rw [Int.add_zero]; exact HPut.out⟩, ⟨HBi.out.setCell hbg _⟩⟩
              case measure => simp [intOf]; omega
            · have hx2 := hxp (by omega)
              have hd0 : decide ((0 : Int) < (p : Int)) = true := by simp; omega
              have i3 : (1 : Int) ≤ (p : Int) := by omega
              have i4 : (p : Int) - 1 < (l0.length : Int) := by omega
              have i5 : (p : Int) < (l0.length : Int) + 1 := by omega
              have i6 : (0 : Int) ≤ (p : Int) - 1 := by omega
              have hd3 : decide (x + prev < -M) = false := by simp; omega
              have hd4 : decide (M < x + prev) = false := by simp; omega
              have hyb : -67108864 ≤ x + prev ∧ x + prev ≤ 67108864 := by omega
              clear hxp hp0' hpe hy
              go_wp2
              go_roundw
              case rel => exact ⟨pre ++ [x + prev], rest, x + prev, by rw [HPL.out]; go_num, HLR.out, by omega, by omega, HWR', ⟨fun h => by simp at h⟩, ⟨fun _ => HPr.out⟩, HGO, HPut, ⟨HBi.out.setCell hbg _⟩⟩
              case measure => simp [intOf]; omega
theorem linear_Add.calls (A0 : Option Addr) (c0 : Nat) (l0 : List Int) (a1 : Int) (r1 : List Int) (r2 : Int) (w : World) (hr0 : Kd.C (Kd.int .i64) w A0 l0.length l0) (hc0 : l0.length ≤ c0) (h : linear_Add.f l0 a1 = some (r1, r2)) :
    Calls Tryz.prog 155 #[.slice A0 l0.length c0, .int .i64 a1] w fun e w' => ∃ v0_ : Value, e = .returned (.tuple #[v0_, .int .i64 r2]) ∧ Kd.R (Kd.int .i64) 3 w' w.heap.size (fun _ => True) v0_ r1 ∧ Below w.heap.size w w' := by
  unfold linear_Add.f at h
  split at h
  · rename_i hl
    split at h
    · rename_i hk
      simp only [Option.some.injEq, Prod.mk.injEq] at h
      obtain ⟨rfl, rfl⟩ := h
      rcases hk with hk | hk
      · have hd1 : decide (a1 < 0) = true := by simpa using hk
        go_enter Tryz.func155, Tryz.ntmps155
        go_wp2
        go_ret2
        exact ⟨_, rfl, Kd.R_nil _ _ _ _ _, Below.refl _ _⟩
      · have hd1 : decide (a1 < 0) = false := by simp; omega
        have hd2 : decide (4 < a1) = true := by simpa using hk
        go_enter Tryz.func155, Tryz.ntmps155
        go_wp2
        go_ret2
        exact ⟨_, rfl, Kd.R_nil _ _ _ _ _, Below.refl _ _⟩
    · rename_i hk
      split at h
      · rename_i hz
        obtain ⟨k, rfl⟩ : ∃ k : Nat, a1 = k := ⟨a1.toNat, by omega⟩
        rw [Int.toNat_natCast] at h
        exact add_any A0 c0 l0 k w r1 r2 hr0 hc0 (by omega) hz h
      · rename_i hz
        simp only [Option.some.injEq, Prod.mk.injEq] at h
        obtain ⟨rfl, rfl⟩ := h
        have HR := Aside0.mk hr0
        clear hr0
        have hd1 : decide (a1 < 0) = false := by simp; omega
        have hd2 : decide (4 < a1) = false := by simp; omega
        obtain ⟨q, hq⟩ : ∃ q, q = chk l0 67108864 := ⟨_, rfl⟩
        rw [← hq] at hz ⊢
        have HQ := Aside0.mk hq
        clear hq
        have hz1 : (q != 0) = true := by simpa using hz
        have hz2 : (q == 0) = false := by simpa using hz
        go_enter Tryz.func155, Tryz.ntmps155
        go_wp2_with (go_at_call 128; refine (linear_check.calls A0 c0 l0 67108864 q _ HR.out hc0 (by unfold linear_check.f; rw [if_pos (by omega), HQ.out])).mono ?_; rintro e w1 ⟨rfl, hb1⟩; have HB1 := Aside0.mk hb1; clear hb1)
        go_ret2
        exact ⟨_, rfl, Kd.R_nil _ _ _ _ _, HB1.out⟩
  · cases h
end Go.Proofs.YtjcijaojcgampaaGreatDoor.P.Lin
end
