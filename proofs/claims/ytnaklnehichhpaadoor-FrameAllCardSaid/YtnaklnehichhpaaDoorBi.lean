/- The contracts of Writer.Align, Append, Len, New. -/
import Derived.Test.YtnaklnehichhpaaDoorBh
namespace Go.Proofs.YtnaklnehichhpaaDoor.P
open Go.RowKit Go.Shelf Go.Proofs.YtnaklnehichhpaaDoor.Bits Go.Proofs.YtnaklnehichhpaaDoorW.PrintWords Go.Proofs.YtnaklnehichhpaaDoorW.PrintLast Go.Proofs.YtnaklnehichhpaaDoorW.PrintMore
set_option linter.unusedVariables false
set_option linter.unusedSimpArgs false
attribute [local go_sem ↓] Go.wp_at_zero Go.wp_at_succ

theorem C_fr {k : IntKind} {w W : World} {T : Nat → Prop} {A : Option Addr} {n : Nat} {xs : List Int} (h : Kd.C (Kd.int k) w A n xs) (hf : Fr T w W) (hd : ∀ ad, A = some ad → 0 < n → ¬ T ad.block) : Kd.C (Kd.int k) W A n xs := by
  have h' := Kd.reads_of_C (enc := Value.int k) (d := (0 : Int)) (h1 := fun _ => rfl) h
  refine Kd.C_of_reads (enc := Value.int k) (d := (0 : Int)) (h1 := fun _ => rfl) ⟨h'.1, h'.2.1, fun hn => ?_⟩
  obtain ⟨ad, e, hc⟩ := h'.2.2 hn
  refine ⟨ad, e, fun j hj => ?_⟩
  have hcj := hc j hj
  have hlt := World.block_lt_of_cell? w _ hcj
  exact (World.cell?_of_block (hf.block _ hlt (by rw [add_block]; exact hd ad e hn))).trans hcj

/-- How many bits a writer has. -/
def bitsIn (w : World) (p : Nat) : Nat := (intOf ((w.cell? ⟨p, 1, none⟩).getD undef)).toNat
theorem Wr.cell1 {w : World} {S : Nat → Prop} {p : Nat} {L : List Int} (h : Wr w S p L) : w.cell? ⟨p, 1, none⟩ = some (.int .i64 (L.length : Int)) := by
  obtain ⟨v, hb, _⟩ := h.blk
  rw [cell_of_row _ _ _ _ _ _ hb]; rfl
theorem WrTo.cell1 {w W : World} {S : Nat → Prop} {p : Nat} {L : List Int} (h : WrTo w S p L W) : W.cell? ⟨p, 1, none⟩ = some (.int .i64 (L.length : Int)) := by
  obtain ⟨S1, h1, _⟩ := h
  exact h1.cell1
theorem bitsIn_of {w : World} {p n : Nat} (h : w.cell? ⟨p, 1, none⟩ = some (.int .i64 (n : Int))) : bitsIn w p = n := by
  unfold bitsIn; rw [h]; simp [intOf]

/-- How many bits are added. -/
def padN (n : Nat) : Nat := (8 - n % 8) % 8
def wAlign (L : List Int) (b : Int) : Int × List Int := if b ≠ 0 ∧ b ≠ 1 then (1, L) else (0, L ++ List.replicate (padN L.length) b)

def wAppend (L B : List Int) (n : Int) : Int × List Int := if n < 0 ∨ 8 * (B.length : Int) < n then (1, L) else wput L (ofB B n.toNat)

end Go.Proofs.YtnaklnehichhpaaDoor.P
