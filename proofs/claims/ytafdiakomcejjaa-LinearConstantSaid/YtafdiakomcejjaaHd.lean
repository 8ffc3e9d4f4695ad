/- Contract of linear.weights and its closure. -/
import Derived.Test.YtafdiakomcejjaaHc
import Derived.Deep.RegionHeld3
import Derived.Deep.DrawnRows
namespace Go.Proofs.Ytafdiakomcejjaa.P
open Go.RowKit Go.Proofs.YtafdiakomcejjaaW.PrintWords Go.Proofs.YtafdiakomcejjaaW.PrintLast Go.Proofs.YtafdiakomcejjaaW.PrintMore
set_option linter.unusedVariables false
set_option linter.unusedSimpArgs false
attribute [local go_sem ↓] Go.wp_at_zero Go.wp_at_succ

set_option maxHeartbeats 1000000 in
set_option maxRecDepth 100000 in
theorem weights_step (b base : Nat) (k : Int) (v : Value) (a a' : List Int) (w : World) (hbb : base ≤ b) (hB : w.heap[b]? = some (.cells #[v] 22 (0, 0))) (ho : Kd.R (Kd.int .i64) 3 w base (fun _ => True) v a) (h : stepW? a k = some a') :
    Calls Try.prog 49 #[.int .i64 k, .pointer (some ⟨b, 0, none⟩)] w fun e w' => e = .returned (.tuple #[]) ∧ ∃ v', w'.heap[b]? = some (.cells #[v'] 22 (0, 0)) ∧ Kd.R (Kd.int .i64) 3 w' base (fun _ => True) v' a' ∧ Below base w w' := by
  unfold stepW? at h
  split at h
  · rename_i hh
    obtain ⟨hs, hlen, hk0, hk1⟩ := hh
    obtain rfl := Option.some.inj h
    clear h
    obtain ⟨A, c, rfl, hc, hC⟩ := Kd.R_reads ho
    have hc1 := cell_of_one hB
    have hf1 := free_of_one hB
    have HS := Aside0.mk hs
    have HO := Aside0.mk ho
    have HC := Aside0.mk hC
    have HBB := Aside0.mk hB
    clear hs ho hC hB
    go_enter Try.func49, Try.ntmps49
    go_wp2_with (go_at_call 37; refine (slices_Clone_int_int.calls A c a a _ HC.out hc (by unfold slices_Clone_int_int.f; rw [if_pos (by omega)])).mono ?_; rintro e w1 ⟨v1, rfl, ho1, hb1⟩; obtain ⟨A1, c1, rfl, hc1', hC1⟩ := Kd.R_reads ho1; have HO1 := Aside0.mk ho1; have HB1 := Aside0.mk hb1; have HC1 := Aside0.mk hC1; clear ho1 hb1 hC1)
    have hsz1 := HB1.out.size
    go_loopw [4, 9] (fun u i wr => ∃ n : Nat, n ≤ a.length ∧ i = .int .i64 n ∧ Aside0 (wr.heap[b]? = some (.cells #[.slice A a.length c] 22 (0, 0))) ∧ Aside0 (Kd.R (Kd.int .i64) 3 wr base (fun q => q < w.heap.size) (.slice A a.length c) (newW a k n)) ∧
        Aside0 (Kd.R (Kd.int .i64) 3 wr w.heap.size (fun q => w.heap.size ≤ q) (.slice A1 a.length c1) a) ∧ Aside0 (Below base w wr)) (fun _ i _ => a.length - (intOf i).toNat)
    case atStart =>
      refine ⟨0, Nat.zero_le _, rfl, ⟨?_⟩, ⟨?_⟩, ⟨Kd.R_mono (Kd.R_bound HO1.out) (fun q hq => hq.2.1)⟩, ⟨HB1.out.mono (by have := lt_of_block HBB.out; omega)⟩⟩
      · exact (HB1.out.block b (lt_of_block HBB.out)).trans HBB.out
      · rw [newW_zero]
        exact Kd.R_below (Kd.R_mono (Kd.R_bound HO.out) (fun q hq => hq.2.2.1)) HB1.out
    case round =>
      obtain ⟨n, hn, rfl, HBr, HOr, HWr, HBe⟩ := hrel
      by_cases hlt : n < a.length
      · have hlen' := newW_length a k n hn
        obtain ⟨g, cap, e, hbg, hgl, cells, hcells⟩ := Kd.R_form HOr.out (by omega)
        obtain ⟨g1, cap1, e1, hbg1, hgl1, cells1, hcells1⟩ := Kd.R_form HWr.out (by omega)
        rw [hlen'] at e
        cases e
        cases e1
        have hgw : g < w.heap.size := HOr.out.1 g rfl
        have hne : g1 ≠ g := by omega
        have HE := Aside0.mk (newW_rd a k n hlt)
        have hC0 := cell_of_one HBr.out
        have hcg := Kd.R_cell (W := wr) (0 : Int) (by rw [hlen']; exact HOr.out) (n : Int) (by omega) (by omega)
        have hcg1 := Kd.R_cell (W := wr) (0 : Int) HWr.out ((a.length : Int) - 1 - (n : Int)) (by omega) (by omega)
        obtain ⟨x, hx⟩ : ∃ x, x = rd a (n : Int) := ⟨_, rfl⟩
        obtain ⟨y, hy⟩ : ∃ y, y = rd a ((a.length : Int) - 1 - (n : Int)) := ⟨_, rfl⟩
        have hgn : wr.cell? ⟨g, n, none⟩ = some (.int .i64 x) := by
          have := hcg.1
          rw [Int.toNat_natCast] at this
          rw [this, hx, ← HE.out]; rfl
        have hgf : wr.frozen? ⟨g, n, none⟩ = false := by have := hcg.2; rwa [Int.toNat_natCast] at this
        have hgm : wr.cell? ⟨g1, a.length - 1 - n, none⟩ = some (.int .i64 y) := by rw [show a.length - 1 - n = ((a.length : Int) - 1 - (n : Int)).toNat by omega, hcg1.1, hy]; rfl
        have bx := smallL_rd HS.out (n : Int)
        have by' := smallL_rd HS.out ((a.length : Int) - 1 - (n : Int))
        rw [← hx] at bx
        rw [← hy] at by'
        have hk : -1099511627776000 ≤ k * y ∧ k * y ≤ 1099511627776000 := by
          have h1 := Int.mul_le_mul_of_nonneg_right (show k ≤ 1000 by omega) (show (0 : Int) ≤ 1099511627776 by omega)
          constructor
          · rcases Int.le_total 0 y with q | q
            · have := Int.mul_le_mul_of_nonneg_right (show -1000 ≤ k by omega) q; omega
            · have := Int.mul_le_mul_of_nonpos_right (show k ≤ 1000 by omega) q; omega
          · rcases Int.le_total 0 y with q | q
            · have := Int.mul_le_mul_of_nonneg_right (show k ≤ 1000 by omega) q; omega
            · have := Int.mul_le_mul_of_nonpos_right (show -1000 ≤ k by omega) q; omega
        have hrb := rnd_bound (k * y) 128 1099511627776000 (by omega) (by omega) (by omega)
        have i1 : (0 : Int) ≤ (a.length : Int) - 1 - (n : Int) := by omega
        have i2 : (a.length : Int) - 1 - (n : Int) < (a.length : Int) := by omega
        have i3 : (n : Int) < (a.length : Int) := by omega
        have i4 : (n : Int) ≤ (a.length : Int) - 1 := by omega
        have Hx := Aside0.mk hx
        have Hy := Aside0.mk hy
        have HL := Aside0.mk hlen'
        have HN := Aside0.mk hcells
        have w1' : IntKind.i64.wrap ((a.length : Int) - 1) = (a.length : Int) - 1 := IntWalk.i64_in _ (by omega)
        have w2' : IntKind.i64.wrap ((a.length : Int) - 1 - (n : Int)) = (a.length : Int) - 1 - (n : Int) := IntWalk.i64_in _ (by omega)
        have w3' : IntKind.i64.wrap (k * y) = k * y := IntWalk.i64_in _ (by omega)
        have w4' : IntKind.i64.wrap (x + rnd (k * y) 128) = x + rnd (k * y) 128 := IntWalk.i64_in _ (by omega)
        clear hx hy hcg hcg1 hlen' hcells hcells1
        go_wp2
        refine wp_region_still_tail 17 (by kernel_rfl) (by kernel_rfl) ?_
        simp only [List.take_succ_cons, List.take_zero, List.drop_succ_cons, List.drop_zero]
        repeat still_step
        still_call ((round_any (k * y) 128 wr.drew (by omega) (by omega) (by omega) (by omega)).mono (fun e w' h => ⟨h.1, h.2.symm⟩))
        repeat still_step
        refine wpStill_nil ?_
        change wpList _ _ _ _ _ wr.drew
        clear w1' w2' w3' w4'
        go_wp2
        go_roundw
        case rel =>
          have hset := newW_set a k n hlt
          rw [← Hx.out, ← Hy.out] at hset
          have hput := Kd.R_put (W := wr) (by rw [HL.out]; exact HOr.out) (n : Int) (x + rnd (k * y) 128)
          rw [Int.toNat_natCast, hset, HL.out] at hput
          refine ⟨n + 1, by omega, by go_num, ⟨?_⟩, ⟨?_⟩, ⟨?_⟩, ⟨(HBe.out.setCell hbg _).drew⟩⟩
          · have hbg' : b ≠ g := by
              rintro rfl
              have := HBr.out.symm.trans HN.out
              simp at this
            exact (Below.heap_setCell _ _ _ _ hbg').trans HBr.out
          · exact Kd.R_drew hput.1
          · exact Kd.R_drew (Kd.R_far (p := ⟨g, n, none⟩) HWr.out (fun q hq => by show q ≠ g; omega) _)
        case measure => simp [intOf]; omega
      · obtain rfl : n = a.length := by omega
        have hC0 := cell_of_one HBr.out
        have hF0 := free_of_one HBr.out
        have hbl := lt_of_block HBr.out
        have HOr' := Aside0.mk (Kd.R_mono HOr.out (fun _ _ => trivial) : Kd.R (Kd.int .i64) 3 wr base (fun _ => True) (.slice A a.length c) (newW a k a.length))
        have HL := Aside0.mk (newW_length a k a.length (Nat.le_refl _))
        have hbz : base ≤ wr.heap.size := by omega
        go_wp2_with (at_builtin; refine Kd.R_append (Kd.int .i64) (w0 := w) base rfl (.tmp 30) (.tmp 33) 22 3 (.int .i64 0) 8 rfl Try.underlying22 hinfo3 rfl (by decide) (by omega) _ (newW a k a.length) (32 * k) [.int .i64 (32 * k)] (fun _ => True) (fun _ => False) rfl rfl rfl (fun _ hk => hk.elim) (fun _ _ => trivial) HOr'.out HBe.out hbz (by rw [HL.out]; omega) ?_; intro v2 w2 ho hb hg hat; obtain ⟨A2, c2, rfl, hc2, hC2⟩ := Kd.R_reads ho; have hB2 := (hg.block b hbl (Kd.R_ne HOr'.out HBr.out (by decide))).trans HBr.out; have hK2 := cell_of_one hB2; have hF2 := free_of_one hB2; have HO2 := Aside0.mk ho; have HB2 := Aside0.mk hb; have HH2 := Aside0.mk hB2; clear ho hb hg hat hB2 hC2 hc2)
        go_end0
        refine ⟨rfl, _, one_setCell HH2.out, ?_, HB2.out.setCell hbb _⟩
        have h9 := Kd.R_set HO2.out HH2.out (by intro q hq; simp [Kd.int, Kd.scalar] at hq; omega) 0 (.slice A2 ((newW a k a.length).length + 1) c2)
        rw [List.length_append] at h9
        exact h9
  · cases h
end Go.Proofs.Ytafdiakomcejjaa.P
