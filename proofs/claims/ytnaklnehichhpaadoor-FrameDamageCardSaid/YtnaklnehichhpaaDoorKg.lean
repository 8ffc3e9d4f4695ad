/- The contracts of frame.refuse, caught. -/
import Derived.Test.YtnaklnehichhpaaDoorKd
import Derived.Recover
namespace Go.Proofs.YtnaklnehichhpaaDoor.P
open Go.RowKit Go.Shelf Go.Proofs.YtnaklnehichhpaaDoor.Bits Go.Proofs.YtnaklnehichhpaaDoorW.PrintWords Go.Proofs.YtnaklnehichhpaaDoorW.PrintLast Go.Proofs.YtnaklnehichhpaaDoorW.PrintMore
set_option linter.unusedVariables false
set_option linter.unusedSimpArgs false
attribute [local go_sem ↓] Go.wp_at_zero Go.wp_at_succ

/-- The error with which something leaves. -/
abbrev errV (e : Int) : Value := .iface 26 (.int .i64 e)
theorem refuse_no (e : Int) (w : World) : Calls Tryd.prog 53 #[.bool false, .int .i64 e] w fun r w' => r = .returned (.tuple #[]) ∧ w' = w := by
  go_enter Tryd.func53, Tryd.ntmps53
  go_wp2_with fail
  go_end0
  exact ⟨rfl, rfl⟩
theorem refuse_yes (e : Int) (w : World) : Calls Tryd.prog 53 #[.bool true, .int .i64 e] w fun r w' => r = .panicked [{ v := errV e, recovered := false }] ∧ w' = w := by
  go_enter Tryd.func53, Tryd.ntmps53
  go_wp2_with fail
  exact ⟨rfl, rfl, rfl⟩
set_option maxRecDepth 100000 in
theorem caught_idle (p : Addr) (w : World) : CallsD Tryd.prog 36 #[.pointer (some p)] .returning w fun r u' w' => r = .returned (.tuple #[]) ∧ u' = .returning ∧ w' = w := by
  refine callsD_of_wpS Tryd.func36 rfl fun c₀ cs hu => ?_
  apply wpS_seq
  apply wpS_region
  simp [wpOpsS, go_sem, recoverD, hu, Tryd.ntmps36, Exit.thenS]
  refine wpS_of_wp ?_
  go_wp2
  cases c₀
  simp_all [bodyPostS, results]
set_option maxHeartbeats 2000000 in
set_option maxRecDepth 100000 in
theorem caught_panic (p : Addr) (x e : Int) (older : List PanicEntry) (w : World) (hc : w.cell? p = some (.int .i64 x)) (hz : w.frozen? p = false) :
    CallsD Tryd.prog 36 #[.pointer (some p)] (.panicking ({ v := errV e, recovered := false } :: older)) w fun r u' w' => r = .returned (.tuple #[]) ∧ u' = .panicking ({ v := errV e, recovered := true } :: older) ∧ w' = w.setCell p (.int .i64 e) := by
  have hta : ∀ W : World, (Instr.typeAssert (errV e) 20 26 true).run Tryd.prog W = .ok (.tuple #[.int .i64 e, .bool true]) W := fun _ => by kernel_rfl
  refine callsD_of_wpS Tryd.func36 rfl fun c₀ cs hu => ?_
  apply wpS_seq
  apply wpS_region
  simp [wpOpsS, go_sem, recoverD, hu, Tryd.ntmps36, Exit.thenS]
  refine wpS_of_wp ?_
  go_wp2
  cases c₀
  simp_all [bodyPostS, results]
end Go.Proofs.YtnaklnehichhpaaDoor.P
