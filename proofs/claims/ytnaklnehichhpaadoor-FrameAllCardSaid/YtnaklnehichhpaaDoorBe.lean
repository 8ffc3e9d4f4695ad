/- The contract of Writer.put. -/
import Derived.Test.YtnaklnehichhpaaDoorBd
namespace Go.Proofs.YtnaklnehichhpaaDoor.P
open Go.RowKit Go.Shelf Go.Proofs.YtnaklnehichhpaaDoor.Bits Go.Proofs.YtnaklnehichhpaaDoorW.PrintWords Go.Proofs.YtnaklnehichhpaaDoorW.PrintLast Go.Proofs.YtnaklnehichhpaaDoorW.PrintMore
set_option linter.unusedVariables false
set_option linter.unusedSimpArgs false
attribute [local go_sem ↓] Go.wp_at_zero Go.wp_at_succ

/-- Numbers and their widths, as fields in memory. -/
def fldCells (fs : List (Int × Nat)) : Array Value := (fs.flatMap fun f => [Value.int .i64 f.1, .int .i64 (f.2 : Int)]).toArray
def Flds (w : World) (b : Nat) (fs : List (Int × Nat)) : Prop := w.heap[b]? = some (.cells (fldCells fs) 61 (0, 0))
def fldBits (fs : List (Int × Nat)) : List Int := fs.flatMap fun f => numb f.1 f.2
def widths (fs : List (Int × Nat)) : Nat := (fs.map (·.2)).sum
theorem fldBits_length (fs : List (Int × Nat)) : (fldBits fs).length = widths fs := by
  induction fs with
  | nil => rfl
  | cons f fs ih => simp only [fldBits, widths, List.flatMap_cons, List.length_append, numb_length, List.map_cons, List.sum_cons] at ih ⊢; rw [ih]
theorem fldCells_get (fs : List (Int × Nat)) (i : Nat) (h : i < fs.length) : (fldCells fs)[2 * i]? = some (.int .i64 fs[i].1) ∧ (fldCells fs)[2 * i + 1]? = some (.int .i64 (fs[i].2 : Int)) := by
  unfold fldCells
  rw [List.getElem?_toArray, List.getElem?_toArray]
  induction fs generalizing i with
  | nil => simp at h
  | cons f fs ih =>
    cases i with
    | zero => simp
    | succ i =>
      have := ih i (by simpa using h)
      rw [List.flatMap_cons, show 2 * (i + 1) = (2 * i) + 1 + 1 by omega]
      simpa using this
theorem widths_take (fs : List (Int × Nat)) (i : Nat) (h : i < fs.length) : widths (fs.take (i + 1)) = widths (fs.take i) + fs[i].2 := by
  unfold widths
  rw [List.take_succ_eq_append_getElem h, List.map_append, List.sum_append]
  simp
theorem fldBits_take (fs : List (Int × Nat)) (i : Nat) (h : i < fs.length) : fldBits (fs.take (i + 1)) = fldBits (fs.take i) ++ numb fs[i].1 fs[i].2 := by
  unfold fldBits
  rw [List.take_succ_eq_append_getElem h, List.flatMap_append]
  simp
theorem widths_take_le (fs : List (Int × Nat)) (i : Nat) : widths (fs.take i) ≤ widths fs := by
  unfold widths
  have := List.sum_append (l₁ := (fs.take i).map (·.2)) (l₂ := (fs.drop i).map (·.2))
  rw [← List.map_append, List.take_append_drop] at this
  omega

/-- What a writer with the bits L has when bits have been added, and what is said. -/
def putE (L M : List Int) : Int := if 1048576 < L.length + M.length then 2 else 0
def putL (L M : List Int) : List Int := if 1048576 < L.length + M.length then L else L ++ M

theorem WrTo.glue {w W1 W2 : World} {S S1 : Nat → Prop} {p : Nat} {L2 : List Int} (hs1 : ∀ k, S1 k → S k ∨ w.heap.size ≤ k) (f1 : Fr (fun k => k = p ∨ S k) w W1) (h2 : WrTo W1 S1 p L2 W2) : WrTo w S p L2 W2 := by
  obtain ⟨S2, k2, hs2, f2⟩ := h2
  refine ⟨S2, k2, fun i hi => ?_, f1.next f2 (fun i hi hT => ?_)⟩
  · rcases hs2 i hi with q | q
    · exact hs1 i q
    · exact .inr (Nat.le_trans f1.size q)
  · rcases hT with q | q
    · exact .inl q
    · rcases hs1 i q with q | q
      · exact .inr q
      · omega
theorem blk_alloc' {w : World} {k : Nat} {q : Obj} (h : w.heap[k]? = some q) (o : Obj) : (w.alloc o).heap[k]? = some q := (Below.heap_alloc w o k (lt_of_block h)).trans h
theorem Wr.below {w w' : World} {S : Nat → Prop} {p : Nat} {L : List Int} (h : Wr w S p L) (hb : Below w.heap.size w w') : Wr w' S p L := h.fr (Fr.below hb (fun _ => False)) (fun h => h) (fun _ _ h => h)
theorem Wr.wrTo {w w' : World} {S : Nat → Prop} {p : Nat} {L : List Int} (h : Wr w S p L) (hb : Below w.heap.size w w') : WrTo w S p L w' := h.to (Fr.below hb (fun _ => False)) (fun h => h) (fun _ _ h => h) (fun _ _ h => h.elim)
theorem WrTo.flds {w W : World} {S : Nat → Prop} {p b : Nat} {L L0 : List Int} {fs : List (Int × Nat)} (h : WrTo w S p L W) (h0 : Wr w S p L0) (hF : Flds w b fs) : Flds W b fs := by
  obtain ⟨S1, _, _, f1⟩ := h
  refine blk_fr hF f1 ?_
  rintro (rfl | q)
  · obtain ⟨v, hk, _⟩ := h0.blk
    unfold Flds at hF; exact absurd rfl (blk_ne hF hk (by decide))
  · obtain ⟨cells, hk⟩ := h0.typed b q
    unfold Flds at hF; exact absurd rfl (blk_ne hF hk (by decide))

set_option maxHeartbeats 2000000 in
set_option maxRecDepth 100000 in
theorem put_any (S : Nat → Prop) (p b : Nat) (fs : List (Int × Nat)) (L : List Int) (w : World) (hW : Wr w S p L) (hF : Flds w b fs) (hn : fs.length ≤ 1000) (hfs : ∀ f ∈ fs, 0 ≤ f.1 ∧ f.1 ≤ 9223372036854775807 ∧ f.2 ≤ 100000) (hL : L.length ≤ 1048576) (hws : widths fs ≤ 1000000) :
    Calls Tryd.prog 43 #[.pointer (some ⟨p, 0, none⟩), .slice (some ⟨b, 0, none⟩) fs.length fs.length] w fun e w' => e = .returned (.int .i64 (putE L (fldBits fs))) ∧ WrTo w S p (putL L (fldBits fs)) w' := by
  have hlen := fldBits_length fs
  have HE : Aside0 (putE L (fldBits fs) = if 1048576 < L.length + widths fs then 2 else 0) := ⟨by unfold putE; rw [hlen]⟩
  have HL : Aside0 (putL L (fldBits fs) = if 1048576 < L.length + widths fs then L else L ++ fldBits fs) := ⟨by unfold putL; rw [hlen]⟩
  have HW := Aside0.mk hW
  have HF := Aside0.mk hF
  have HFS := Aside0.mk hfs
  have lb := lt_of_block hF
  clear hW hF hfs hlen
  go_enter Tryd.func43, Tryd.ntmps43
  go_wp2_with fail
  go_loopw [5, 12] (fun u i wr => ∃ k : Nat, k ≤ fs.length ∧ i = .int .i64 (k : Int) ∧ u = .int .i64 (widths (fs.take k) : Int) ∧ Aside0 (Below w.heap.size w wr)) (fun _ i _ => fs.length - (intOf i).toNat)
  case atStart => exact ⟨0, Nat.zero_le _, rfl, rfl, ⟨Below.refl _ _⟩⟩
  case round =>
    obtain ⟨k, hk, rfl, rfl, HB⟩ := hrel
    by_cases hlt : k < fs.length
    · have hc := fldCells_get fs k hlt
      have hFr := (HB.out.block b lb).trans HF.out
      have hc1 : wr.cell? ⟨b, k * 2, none⟩ = some (.int .i64 fs[k].1) := by rw [cell_of_row _ _ _ _ _ _ hFr, Nat.mul_comm]; exact hc.1
      have hc2 : wr.cell? ⟨b, k * 2 + 1, none⟩ = some (.int .i64 (fs[k].2 : Int)) := by rw [cell_of_row _ _ _ _ _ _ hFr, Nat.mul_comm]; exact hc.2
      have HWT := Aside0.mk (widths_take fs k hlt)
      have hw1 := widths_take_le fs (k + 1)
      have hw2 : widths (fs.take (k + 1)) = widths (fs.take k) + fs[k].2 := HWT.out
      have hw3 : (widths (fs.take k) : Int) + (fs[k].2 : Int) ≤ 1000000 := by omega
      clear hc hFr hw1 hw2
      go_wp2_with fail
      go_roundw
      case rel => exact ⟨k + 1, by omega, by go_num, by rw [HWT.out]; go_num, ⟨by (repeat (first | with_reducible exact Below.refl _ _ | (refine Aside0.out (p := Below _ _ _) ?_; assumption) | refine below_drew ?_ | refine below_alloc ?_ _ | (refine below_step ?_ (Aside0.out (p := Below _ _ _) (by assumption)))))⟩⟩
      case measure => simp [intOf]; omega
    · obtain rfl : k = fs.length := by omega
      rw [List.take_length]
      have hWr := HW.out.below HB.out
      obtain ⟨v, hblk, _⟩ := hWr.blk
      have c1 : wr.cell? ⟨p, 1, none⟩ = some (.int .i64 (L.length : Int)) := by rw [cell_of_row _ _ _ _ _ _ hblk]; rfl
      have HWr := Aside0.mk hWr
      clear hblk hWr
      by_cases ho : 1048576 < L.length + widths fs
      · have q1 : decide ((1048576 : Int) < (L.length : Int) + (widths fs : Int)) = true := by simp; omega
        go_wp2_with fail
        go_ret
        refine ⟨by rw [HE.out, if_pos ho]; rfl, ?_⟩
        rw [HL.out, if_pos ho]
        exact HW.out.wrTo HB.out
      · have q1 : decide ((1048576 : Int) < (L.length : Int) + (widths fs : Int)) = false := by simp; omega
        rw [if_neg ho] at HE HL
        go_wp2_with fail
        go_loopw [30] (fun i wr => ∃ k : Nat, k ≤ fs.length ∧ i = .int .i64 (k : Int) ∧ Aside0 (WrTo w S p (L ++ fldBits (fs.take k)) wr)) (fun i _ => fs.length - (intOf i).toNat)
        case atStart => exact ⟨0, Nat.zero_le _, rfl, ⟨by rw [List.take_zero]; show WrTo w S p (L ++ []) _; rw [List.append_nil]; exact HW.out.wrTo HB.out⟩⟩
        case round =>
          obtain ⟨k, hk, rfl, HT⟩ := hrel
          clear c1
          by_cases hlt : k < fs.length
          · have hc := fldCells_get fs k hlt
            have hFr := HT.out.flds HW.out HF.out
            unfold Flds at hFr
            have hc1 : wr.cell? ⟨b, k * 2, none⟩ = some (.int .i64 fs[k].1) := by rw [cell_of_row _ _ _ _ _ _ hFr, Nat.mul_comm]; exact hc.1
            have hc2 : wr.cell? ⟨b, k * 2 + 1, none⟩ = some (.int .i64 (fs[k].2 : Int)) := by rw [cell_of_row _ _ _ _ _ _ hFr, Nat.mul_comm]; exact hc.2
            have HBT := Aside0.mk (fldBits_take fs k hlt)
            have HWT := Aside0.mk (widths_take fs k hlt)
            have HW1 := Aside0.mk (widths_take_le fs (k + 1))
            have hfk := HFS.out fs[k] (List.getElem_mem hlt)
            obtain ⟨S1, h1, hs1, f1⟩ := HT.out
            have H1 := Aside0.mk h1
            have HS1 := Aside0.mk hs1
            have F1 := Aside0.mk f1
            clear hc hFr h1 hs1 f1
            go_wp2_with (first
              | (go_at_call 48; refine (number_any _ _ _).mono ?_; rintro e w1 ⟨rfl, rfl⟩)
              | (go_at_call 47; (refine (each_add S1 p _ _ fs[k].2 fs[k].1 (L ++ fldBits (fs.take k)) _ (H1.out.below (by (repeat (first | with_reducible exact Below.refl _ _ | (refine Aside0.out (p := Below _ _ _) ?_; assumption) | refine below_drew ?_ | refine below_alloc ?_ _ | (refine below_step ?_ (Aside0.out (p := Below _ _ _) (by assumption))))))) ?gn ?gv ?gw ?g0 ?g1 ?gl).mono ?_; (case gn => (have := World.alloc_heap_new ((wr.alloc (.cells #[.int .i64 fs[k].1, .int .i64 (fs[k].2 : Int)] 61)).alloc (intBox fs[k].1)) (intBox (fs[k].2 : Int)); simpa using this)); (case gv => (have h1 := World.alloc_heap_new (wr.alloc (.cells #[.int .i64 fs[k].1, .int .i64 (fs[k].2 : Int)] 61)) (intBox fs[k].1); have h2 := blk_alloc' h1 (intBox (fs[k].2 : Int)); simpa using h2)); (case gw => exact hfk.2.2); (case g0 => exact hfk.1); (case g1 => exact hfk.2.1); (case gl => (rw [List.length_append, fldBits_length]; have := widths_take_le fs k; omega)); rintro e w2 ⟨rfl, h2⟩; have H2 := Aside0.mk h2; clear h2)))
            go_roundw
            case rel =>
              refine ⟨k + 1, by omega, by go_num, ⟨?_⟩⟩
              have h2 := H2.out
              rw [List.append_assoc, ← HBT.out] at h2
              exact WrTo.glue HS1.out (F1.out.trans (Fr.below (by (repeat (first | with_reducible exact Below.refl _ _ | (refine Aside0.out (p := Below _ _ _) ?_; assumption) | refine below_drew ?_ | refine below_alloc ?_ _ | (refine below_step ?_ (Aside0.out (p := Below _ _ _) (by assumption)))))) _)) h2
            case measure => simp [intOf]; omega
          · obtain rfl : k = fs.length := by omega
            go_wp2_with fail
            go_ret
            refine ⟨by rw [HE.out]; rfl, ?_⟩
            rw [HL.out]
            have := HT.out
            rw [List.take_length] at this
            exact this
end Go.Proofs.YtnaklnehichhpaaDoor.P
