/- Contract of linear.weights. -/
import Derived.Test.YtafdiakomcejjaaHd
namespace Go.Proofs.Ytafdiakomcejjaa.P
open Go.RowKit Go.Proofs.YtafdiakomcejjaaW.PrintWords Go.Proofs.YtafdiakomcejjaaW.PrintLast Go.Proofs.YtafdiakomcejjaaW.PrintMore
set_option linter.unusedVariables false
set_option linter.unusedSimpArgs false

def wfold (a : List Int) : List Int → Option (List Int)
  | [] => some a
  | k :: l => (stepW? a k).bind fun a' => wfold a' l
def linear_weights.f (l0 : List Int) : Option (List Int) := if l0.length ≤ 9223372036854775807 then wfold [] l0 else none

set_option maxHeartbeats 1000000 in
set_option maxRecDepth 100000 in
theorem linear_weights.calls (A0 : Option Addr) (c0 : Nat) (l0 : List Int) (r : List Int) (w : World) (hr0 : Kd.C (Kd.int .i64) w A0 l0.length l0) (hc0 : l0.length ≤ c0) (h : linear_weights.f l0 = some r) :
    Calls Try.prog 34 #[.slice A0 l0.length c0] w fun e w' => ∃ v0_ : Value, e = .returned v0_ ∧ Kd.R (Kd.int .i64) 3 w' w.heap.size (fun _ => True) v0_ r ∧ Below w.heap.size w w' := by
  unfold linear_weights.f at h
  split at h
  · rename_i hh
    have HR := Aside0.mk hr0
    have H := Aside0.mk h
    clear hr0 h
    go_enter Try.func34, Try.ntmps34
    go_wp2
    go_loopw [6, 10] (fun u i wr => ∃ (n : Nat) (v : Value) (a : List Int), n ≤ l0.length ∧ i = .int .i64 n ∧ Aside0 (wr.heap[w.heap.size]? = some (.cells #[v] 22 (0, 0))) ∧ Aside0 (Kd.R (Kd.int .i64) 3 wr w.heap.size (fun _ => True) v a) ∧
        Aside0 (wfold a (l0.drop n) = some r) ∧ Aside0 (Below w.heap.size w wr)) (fun _ i _ => l0.length - (intOf i).toNat)
    case atStart =>
      exact ⟨0, _, [], Nat.zero_le _, rfl, ⟨heap_alloc_new w _⟩, ⟨Kd.R_nil _ _ _ _ _⟩, ⟨by simpa using H.out⟩, ⟨(Below.refl _ _).alloc (Nat.le_refl _) _⟩⟩
    case round =>
      obtain ⟨n, v, a, hn, rfl, HBr, HOr, HE, HBe⟩ := hrel
      by_cases hlt : n < l0.length
      · have q1 : (0 : Int) ≤ (n : Int) := by omega
        have q2 : (n : Int) < (l0.length : Int) := by omega
        obtain ⟨ad, e, hx⟩ := Kd.at_int (Kd.C_below HR.out HBe.out) (n : Int) q1 q2
        cases e
        rw [Int.toNat_natCast] at hx
        have hE := HE.out
        rw [drop_head l0 n hlt, wfold] at hE
        obtain ⟨a', ha', hE'⟩ := Option.bind_eq_some_iff.1 hE
        have HE1 := Aside0.mk ha'
        have HE2 := Aside0.mk hE'
        clear ha' hE' hE
        go_wp2_with (go_at_call 49; refine (weights_step w.heap.size w.heap.size _ v a a' _ (Nat.le_refl _) HBr.out HOr.out HE1.out).mono ?_; rintro e w1 ⟨rfl, v', hb1, ho1, hbe1⟩; have HB1 := Aside0.mk hb1; have HO1 := Aside0.mk ho1; have HBE1 := Aside0.mk hbe1; clear hb1 ho1 hbe1)
        go_roundw
        case rel => exact ⟨n + 1, v', a', by omega, by go_num, HB1, HO1, HE2, ⟨HBe.out.trans HBE1.out⟩⟩
        case measure => simp [intOf]; omega
      · obtain rfl : n = l0.length := by omega
        have hE := HE.out
        rw [List.drop_length, wfold] at hE
        have HE1 := Aside0.mk (Option.some.inj hE)
        clear hE
        have hC0 := cell_of_one HBr.out
        obtain ⟨A, c, hv, hc, hC⟩ := Kd.R_reads HOr.out
        cases hv
        clear hC
        go_wp2
        go_ret
        exact ⟨_, rfl, by rw [← HE1.out]; exact HOr.out, HBe.out⟩
  · cases h
end Go.Proofs.Ytafdiakomcejjaa.P
