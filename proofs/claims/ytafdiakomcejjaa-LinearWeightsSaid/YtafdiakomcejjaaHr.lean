/- The contract of the reference's Trim. -/
import Derived.Test.YtafdiakomcejjaaQb
import Derived.Test.YtafdiakomcejjaaQc
namespace Go.Proofs.Ytafdiakomcejjaa.P
open Go.RowKit Go.Shelf Go.Proofs.YtafdiakomcejjaaW.PrintWords Go.Proofs.YtafdiakomcejjaaW.PrintLast Go.Proofs.YtafdiakomcejjaaW.PrintMore
set_option linter.unusedVariables false
set_option linter.unusedSimpArgs false
attribute [local go_sem ↓] Go.wp_at_zero Go.wp_at_succ

def shawmref14_Trim.f (k : Nat) (l0 : List Int) : Option (List Int × Int) := if isF l0 = true then some (trimd l0, 0) else some ([], 1)
theorem shawmref14_Trim.mono : ∀ a0 k, LeO (shawmref14_Trim.f k a0) (shawmref14_Trim.f (k + 1) a0) := fun _ _ => LeO.refl _

theorem reads_take {W : World} {A : Option Addr} {l : List Int} (n : Nat) (h : n ≤ l.length) (hC : Kd.C (Kd.int .i64) W A l.length l) : Kd.C (Kd.int .i64) W A n (l.take n) := by
  have := Kd.C_take (m := n) hC h
  rwa [List.length_take, Nat.min_eq_left h] at this

set_option maxHeartbeats 1000000 in
set_option maxRecDepth 100000 in
theorem shawmref14_Trim.calls (k : Nat) (A0 : Option Addr) (c0 : Nat) (l0 : List Int) (r1 : List Int) (r2 : Int) (w : World) (hr0 : Kd.C (Kd.int .i64) w A0 l0.length l0) (hc0 : l0.length ≤ c0) (h : shawmref14_Trim.f k l0 = some (r1, r2)) :
    Calls Try.prog 21 #[.slice A0 l0.length c0] w fun e w' => ∃ v0_ : Value, e = .returned (.tuple #[v0_, .int .i64 r2]) ∧ Kd.R (Kd.int .i64) 3 w' w.heap.size (fun _ => True) v0_ r1 ∧ Below w.heap.size w w' := by
  unfold shawmref14_Trim.f at h
  have HR := Aside0.mk hr0
  clear hr0
  split at h
  · rename_i hf
    simp only [Option.some.injEq, Prod.mk.injEq] at h
    obtain ⟨rfl, rfl⟩ := h
    have hl := (isF_within hf).1
    have HF := Aside0.mk hf
    clear hf
    go_enter Try.func21, Try.ntmps21
    go_wp2_with (go_at_call 35; refine (shawmref14_Is.calls 9000 A0 c0 l0 true _ HR.out hc0 (by rw [is_f l0 9000 (by omega), HF.out])).mono ?_; rintro e w1 ⟨rfl, hb1⟩; have HB1 := Aside0.mk hb1.below; clear hb1)
    have HEND : ∀ n : Nat, n ≤ l0.length → ∀ W : World, (Instr.slice 22 (.slice A0 l0.length c0) none (some (.int .i64 (n : Int))) none).run Try.prog W = .ok (.slice A0 n c0) W := fun n hn W => by
      have := cut_to (P := Try.prog) 22 3 .i64 Try.underlying22 (i := _) rfl A0 l0.length c0 (n : Int) (by omega) (by omega) hc0 W
      simpa using this
    have HE := Aside0.mk HEND
    clear HEND
    go_loop [4] (fun s => ∃ n : Nat, n ≤ l0.length ∧ s = .int .i64 n ∧ Aside0 (trimN l0 l0.length = trimN l0 n)) (fun s => (intOf s).toNat)
    case atStart => exact ⟨l0.length, Nat.le_refl _, rfl, ⟨rfl⟩⟩
    case round =>
      obtain ⟨n, hn, rfl, HN⟩ := hrel
      have fin : ∀ m : Nat, m ≤ l0.length → trimN l0 l0.length = m → Aside0 (trimd l0 = l0.take m) := fun m _ hm => ⟨by unfold trimd; rw [hm]⟩
      cases n with
      | zero =>
        have HT := fin 0 (by omega) (by rw [HN.out]; rfl)
        have hcut := HE.out 0 (by omega)
        rw [show ((0 : Nat) : Int) = 0 from rfl] at hcut
        clear fin
        go_wp2_with (first
          | ((with_reducible refine gate_dst (N := 22) rfl ?_); refine Kd.R_lit (Kd.int .i64) _ 3 ?hg (N := 22) ?hd (xs := ([] : List Int)) (inner := []) (ok := fun _ => True) (okp := fun _ => True) ?hr ?hp (fun _ hk => hk) trivial (Below.refl _ _) (Nat.le_refl _) (by simp) ?_; (case hd => rfl); (case hg => rfl); (case hr => first | (go_simp; done) | (go_simp; rfl)); (case hp => exact (Reps.none _ _)); intro v1 w2 ho hb hg_ hnew_; have HO2 := Aside0.mk (Kd.R_lower ho (below_size HB1.out)); have HB2 := Aside0.mk (below_step HB1.out hb); clear ho hb hg_ hnew_)
          | (at_builtin; refine Kd.R_append_row (Value.int .i64) (0 : Int) (w0 := w) w.heap.size rfl (.tmp 22) (.tmp 25) 22 3 (.int .i64 0) 8 rfl Try.underlying22 hinfo3 rfl (by decide) v1 [] (l0.take 0) _ _ _ (fun _ => True) rfl rfl (fun _ _ => trivial) HO2.out (reads_take 0 (by omega) (Kd.C_below HR.out HB2.out)) HB2.out (HB2.out.size) (by simp) ?_; intro v2 w3 ho hb hg_ hat; have HO3 := Aside0.mk ho; have HB3 := Aside0.mk hb; clear ho hb hg_ hat))
        go_ret2
        exact ⟨_, rfl, by rw [HT.out]; exact HO3.out, HB3.out⟩
      | succ n =>
        obtain ⟨ad, e, hx⟩ := Kd.at_int HR.out (n : Int) (by omega) (by omega)
        cases e
        rw [Int.toNat_natCast] at hx
        have hx1 := ((HB1.out.cell (World.block_lt_of_cell? w _ hx)).trans hx)
        have w1' : IntKind.i64.wrap (((n + 1 : Nat) : Int) - 1) = (n : Int) := by rw [IntWalk.i64_in _ (by omega)]; omega
        have w1'' : IntKind.i64.wrap ((n : Int) + 1 - 1) = (n : Int) := by rw [IntWalk.i64_in _ (by omega)]; omega
        have i1 : (0 : Int) ≤ (n : Int) := by omega
        have i2 : (n : Int) < (l0.length : Int) := by omega
        have i3 : (0 : Int) < (n : Int) + 1 := by omega
        have q0 : decide ((0 : Int) < (n : Int) + 1) = true := decide_eq_true i3
        have hst : trimN l0 (n + 1) = if rd l0 (n : Int) = 0 then trimN l0 n else n + 1 := rfl
        obtain ⟨x, hxx⟩ : ∃ x, x = rd l0 (n : Int) := ⟨_, rfl⟩
        rw [← hxx] at hx hx1 hst
        clear hx hxx
        by_cases hz : x = 0
        · rw [if_pos hz] at hst
          subst hz
          have HN2 := Aside0.mk (HN.out.trans hst)
          clear hst fin
          go_wp2
          go_round
          case rel => exact ⟨n, by omega, by go_num, HN2⟩
          case measure => simp [intOf]
        · rw [if_neg hz] at hst
          have HT := fin (n + 1) (by omega) (by rw [HN.out]; exact hst)
          have hz1 : (x == 0) = false := by simpa using hz
          have hcut := HE.out (n + 1) (by omega)
          rw [show ((n + 1 : Nat) : Int) = (n : Int) + 1 by omega] at hcut
          clear fin hst
          go_wp2_with (first
            | ((with_reducible refine gate_dst (N := 22) rfl ?_); refine Kd.R_lit (Kd.int .i64) _ 3 ?hg (N := 22) ?hd (xs := ([] : List Int)) (inner := []) (ok := fun _ => True) (okp := fun _ => True) ?hr ?hp (fun _ hk => hk) trivial (Below.refl _ _) (Nat.le_refl _) (by simp) ?_; (case hd => rfl); (case hg => rfl); (case hr => first | (go_simp; done) | (go_simp; rfl)); (case hp => exact (Reps.none _ _)); intro v1 w2 ho hb hg_ hnew_; have HO2 := Aside0.mk (Kd.R_lower ho (below_size HB1.out)); have HB2 := Aside0.mk (below_step HB1.out hb); clear ho hb hg_ hnew_)
            | (at_builtin; refine Kd.R_append_row (Value.int .i64) (0 : Int) (w0 := w) w.heap.size rfl (.tmp 22) (.tmp 25) 22 3 (.int .i64 0) 8 rfl Try.underlying22 hinfo3 rfl (by decide) v1 [] (l0.take (n + 1)) _ _ _ (fun _ => True) rfl rfl (fun _ _ => trivial) HO2.out (reads_take (n + 1) (by omega) (Kd.C_below HR.out HB2.out)) HB2.out (HB2.out.size) (by simp; omega) ?_; intro v2 w3 ho hb hg_ hat; have HO3 := Aside0.mk ho; have HB3 := Aside0.mk hb; clear ho hb hg_ hat))
          go_ret2
          exact ⟨_, rfl, by rw [HT.out]; exact HO3.out, HB3.out⟩
  · rename_i hf
    simp only [Option.some.injEq, Prod.mk.injEq] at h
    obtain ⟨rfl, rfl⟩ := h
    have hf : isF l0 = false := by simpa using hf
    have HF := Aside0.mk hf
    clear hf
    go_enter Try.func21, Try.ntmps21
    go_wp2_with (go_at_call 35; refine (shawmref14_Is.calls 9000 A0 c0 l0 false _ HR.out hc0 (by rw [is_f l0 9000 (by omega), HF.out])).mono ?_; rintro e w1 ⟨rfl, hb1⟩; have HB1 := Aside0.mk hb1.below; clear hb1)
    go_ret2
    exact ⟨_, rfl, Kd.R_nil _ _ _ _ _, HB1.out⟩
end Go.Proofs.Ytafdiakomcejjaa.P
