/- rice.Write of no writer. -/
import Derived.Test.YtnpheeendbchbaaHo
namespace Go.Proofs.Ytnpheeendbchbaa.P
open Go.RowKit Go.Shelf Go.Proofs.Ytnpheeendbchbaa.Bits Go.Proofs.YtnpheeendbchbaaW.PrintWords Go.Proofs.YtnpheeendbchbaaW.PrintLast Go.Proofs.YtnpheeendbchbaaW.PrintMore
set_option linter.unusedVariables false
set_option linter.unusedSimpArgs false
attribute [local go_sem ↓] Go.wp_at_zero Go.wp_at_succ

theorem WriteNil_any (A : Option Addr) (n c : Nat) (w : World) :
    Calls Try.prog 42 #[.pointer none, .slice A n c] w fun e w' => e = .returned (.int .i64 1) ∧ Below w.heap.size w w' := by
  obtain ⟨w1, hw1⟩ : ∃ w1, w1 = w.alloc (.cells #[.pointer none] 47) := ⟨_, rfl⟩
  have hb1 : Below w.heap.size w w1 := by rw [hw1]; exact below_alloc (Below.refl _ _) _
  have HE1 : Aside0 (w.alloc (.cells #[.pointer none] 47) = w1) := ⟨hw1.symm⟩
  have HB1 := Aside0.mk hb1
  have z0 : (w.alloc (.cells #[.pointer none] 47)).cell? ⟨w.heap.size, 0, none⟩ = some (.pointer none) := cell_of_one (World.alloc_heap_new w _)
  clear hw1 hb1
  go_enter Try.func42, Try.ntmps42
  go_wp2_with fail
  go_ret
  rw [HE1.out]
  exact ⟨rfl, HB1.out⟩
end Go.Proofs.Ytnpheeendbchbaa.P
