/- The contracts of frame.from, rateAt, one, Check. -/
import Derived.Test.YtnaklnehichhpaaDoorKb
import Derived.Test.YtnaklnehichhpaaDoorBn
namespace Go.Proofs.YtnaklnehichhpaaDoor.P
open Go.RowKit Go.Shelf Go.Proofs.YtnaklnehichhpaaDoor.Bits Go.Proofs.YtnaklnehichhpaaDoorW.PrintWords Go.Proofs.YtnaklnehichhpaaDoorW.PrintLast Go.Proofs.YtnaklnehichhpaaDoorW.PrintMore
set_option linter.unusedVariables false
set_option linter.unusedSimpArgs false
attribute [local go_sem ↓] Go.wp_at_zero Go.wp_at_succ

abbrev rateCells : Array Value := #[.int .i64 8000, .int .i64 11025, .int .i64 12000, .int .i64 16000, .int .i64 22050, .int .i64 24000, .int .i64 32000, .int .i64 44100, .int .i64 48000]
/-- The list of rates lies where the program laid it. -/
def HG (w : World) : Prop := ∃ t fr, w.heap[0]? = some (.cells rateCells t fr)
theorem HG.below {w w' : World} (h : HG w) (hb : Below w.heap.size w w') : HG w' := by
  obtain ⟨t, fr, hg⟩ := h
  exact ⟨t, fr, (hb.block 0 (lt_of_block hg)).trans hg⟩
theorem from_any (v l h : Int) (w : World) : Calls Tryd.prog 34 #[.int .i64 v, .int .i64 l, .int .i64 h] w fun e w' => e = .returned (.bool (decide (l ≤ v ∧ v ≤ h))) ∧ w' = w := by
  by_cases h1 : l ≤ v
  · have e : decide (l ≤ v ∧ v ≤ h) = decide (v ≤ h) := by simp [h1]
    have d1 : decide (l ≤ v) = true := by simp [h1]
    rw [e]
    go_enter Tryd.func34, Tryd.ntmps34
    go_wp2_with fail
    go_ret
    exact ⟨rfl, rfl⟩
  · have e : decide (l ≤ v ∧ v ≤ h) = false := by simp [h1]
    have d1 : decide (l ≤ v) = false := by simp [h1]
    rw [e]
    go_enter Tryd.func34, Tryd.ntmps34
    go_wp2_with fail
    go_ret
    exact ⟨rfl, rfl⟩
theorem one_any (b : Bool) (w : World) : Calls Tryd.prog 45 #[.bool b] w fun e w' => e = .returned (.int .i64 (one b)) ∧ w' = w := by
  cases b
  · go_enter Tryd.func45, Tryd.ntmps45
    go_wp2_with fail
    go_ret
    exact ⟨rfl, rfl⟩
  · go_enter Tryd.func45, Tryd.ntmps45
    go_wp2_with fail
    go_ret
    exact ⟨rfl, rfl⟩
theorem rix_find (r : Int) (k : Nat) (hk : k < 9) (h : rates.getD k 0 = r) : rix r = k := by rw [← h]; exact rix_rates k hk
theorem rix_none (r : Int) (h : ∀ j, j < 9 → rates.getD j 0 ≠ r) : rix r = -1 := by
  have h0 := h 0 (by omega); have h1 := h 1 (by omega); have h2 := h 2 (by omega); have h3 := h 3 (by omega); have h4 := h 4 (by omega); have h5 := h 5 (by omega); have h6 := h 6 (by omega); have h7 := h 7 (by omega); have h8 := h 8 (by omega)
  simp [rates] at h0 h1 h2 h3 h4 h5 h6 h7 h8
  unfold rix
  repeat' split
  all_goals omega
set_option maxRecDepth 100000 in
theorem rate_at (k : Nat) (hk : k < 9) : ∀ w : World, (Instr.index 96 (.agg rateCells) (.int .i64 (k : Int))).run Tryd.prog w = .ok (.int .i64 (rates.getD k 0)) w := by
  have h9 : k = 0 ∨ k = 1 ∨ k = 2 ∨ k = 3 ∨ k = 4 ∨ k = 5 ∨ k = 6 ∨ k = 7 ∨ k = 8 := by omega
  rcases h9 with rfl | rfl | rfl | rfl | rfl | rfl | rfl | rfl | rfl <;> exact fun _ => by kernel_rfl
set_option maxHeartbeats 2000000 in
set_option maxRecDepth 100000 in
theorem rateAt_any (r : Int) (w : World) (h : HG w) : Calls Tryd.prog 35 #[.int .i64 r] w fun e w' => e = .returned (.int .i64 (rix r)) ∧ w' = w := by
  obtain ⟨tt, fr, hg⟩ := h
  go_enter Tryd.func35, Tryd.ntmps35
  go_wp2_with (refine wpList_load_row rfl _ _ rfl 0 rfl tt _ fr _ hg Tryd.underlying96 rfl (by kernel_rfl) ?_)
  go_loop [6] (fun i => ∃ k : Nat, i = .int .i64 (k : Int) ∧ k ≤ 9 ∧ Aside0 (∀ j, j < k → rates.getD j 0 ≠ r)) (fun i => 9 - (intOf i).toNat)
  case atStart => exact ⟨0, rfl, Nat.zero_le _, ⟨fun j hj => by omega⟩⟩
  case round =>
    obtain ⟨k, rfl, hk, HN⟩ := hrel
    clear hg
    by_cases hlt : k < 9
    · have hix := rate_at k hlt
      by_cases he : rates.getD k 0 = r
      · have HR := Aside0.mk (rix_find r k hlt he)
        have q : (rates.getD k 0 == r) = true := beq_iff_eq.2 he
        generalize rates.getD k 0 = x at *
        clear he
        go_wp2_with fail
        go_ret
        rw [HR.out]
        exact ⟨rfl, rfl⟩
      · have HN2 : Aside0 (∀ j, j < k + 1 → rates.getD j 0 ≠ r) := ⟨fun j hj => by
          by_cases hjk : j = k
          · subst hjk; exact he
          · exact HN.out j (by omega)⟩
        have q : (rates.getD k 0 == r) = false := beq_eq_false_iff_ne.2 he
        generalize rates.getD k 0 = x at *
        clear he
        go_wp2_with fail
        go_round
        case rel => exact ⟨k + 1, by go_num, by omega, HN2⟩
        case measure => simp [intOf]; omega
    · obtain rfl : k = 9 := by omega
      have HR := Aside0.mk (rix_none r HN.out)
      go_wp2_with fail
      go_ret
      rw [HR.out]
      exact ⟨rfl, rfl⟩
end Go.Proofs.YtnaklnehichhpaaDoor.P
