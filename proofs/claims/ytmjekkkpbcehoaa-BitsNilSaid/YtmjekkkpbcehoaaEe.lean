/- same, the reference's Open. -/
import Derived.Test.YtmjekkkpbcehoaaEd
namespace Go.Proofs.Ytmjekkkpbcehoaa.P
open Go.RowKit Go.Shelf Go.Proofs.Ytmjekkkpbcehoaa.Bits Go.Proofs.YtmjekkkpbcehoaaW.PrintWords Go.Proofs.YtmjekkkpbcehoaaW.PrintLast Go.Proofs.YtmjekkkpbcehoaaW.PrintMore
set_option linter.unusedVariables false
set_option linter.unusedSimpArgs false
attribute [local go_sem ↓] Go.wp_at_zero Go.wp_at_succ

set_option maxHeartbeats 1000000 in
set_option maxRecDepth 100000 in
/-- Two replies that say the same. -/
theorem same_any (A A' : Option Addr) (n n' c c' : Nat) (x er at_ st : Int) (B : List Int) (w : World) (hC : Kd.C (Kd.int .u8) w A n B) (hC' : Kd.C (Kd.int .u8) w A' n' B) (hn : n ≤ 1000000000) :
    Calls Try.prog 33 #[.agg #[.int .i64 x, .slice A n c, .int .i64 er, .int .i64 at_, .int .i64 st], .agg #[.int .i64 x, .slice A' n' c', .int .i64 er, .int .i64 at_, .int .i64 st]] w fun e w' => e = .returned (.bool true) ∧ Below w.heap.size w w' := by
  have hl := C_len8 hC
  have hl' := C_len8 hC'
  have hs := fun W h h' => Same_any A A' n n' c c' B B W h h' hn (by omega)
  simp only [decide_true] at hs
  have HS := Aside0.mk hs
  have HC := Aside0.mk hC
  have HC' := Aside0.mk hC'
  clear hC hC' hl hl' hs
  go_enter Try.func33, Try.ntmps33
  go_wp2_with fail
  refine (HS.out _ (Kd.C_below HC.out (by (repeat (first | with_reducible exact Below.refl _ _ | (refine Aside0.out (p := Below _ _ _) ?_; assumption) | refine below_drew ?_ | refine below_alloc ?_ _ | (refine below_step ?_ (Aside0.out (p := Below _ _ _) (by assumption))))))) (Kd.C_below HC'.out (by (repeat (first | with_reducible exact Below.refl _ _ | (refine Aside0.out (p := Below _ _ _) ?_; assumption) | refine below_drew ?_ | refine below_alloc ?_ _ | (refine below_step ?_ (Aside0.out (p := Below _ _ _) (by assumption)))))))).mono ?_
  rintro e w1 ⟨rfl, hd⟩
  have hk0 := blk_fr (blk_alloc' (World.alloc_heap_new w _) _) (Fr.below hd.below (fun _ => False)) (fun h => h)
  have hk1 := blk_fr (heap_alloc2_new w _ _) (Fr.below hd.below (fun _ => False)) (fun h => h)
  have a2 : w1.cell? ⟨w.heap.size, 2, none⟩ = some (.int .i64 er) := by rw [cell_of_row _ _ _ _ _ _ hk0]; rfl
  have b2 : w1.cell? ⟨w.heap.size + 1, 2, none⟩ = some (.int .i64 er) := by rw [cell_of_row _ _ _ _ _ _ hk1]; rfl
  have a3 : w1.cell? ⟨w.heap.size, 3, none⟩ = some (.int .i64 at_) := by rw [cell_of_row _ _ _ _ _ _ hk0]; rfl
  have b3 : w1.cell? ⟨w.heap.size + 1, 3, none⟩ = some (.int .i64 at_) := by rw [cell_of_row _ _ _ _ _ _ hk1]; rfl
  have a4 : w1.cell? ⟨w.heap.size, 4, none⟩ = some (.int .i64 st) := by rw [cell_of_row _ _ _ _ _ _ hk0]; rfl
  have b4 : w1.cell? ⟨w.heap.size + 1, 4, none⟩ = some (.int .i64 st) := by rw [cell_of_row _ _ _ _ _ _ hk1]; rfl
  have HD := Aside0.mk ((show Below w.heap.size w _ from by (repeat (first | with_reducible exact Below.refl _ _ | (refine Aside0.out (p := Below _ _ _) ?_; assumption) | refine below_drew ?_ | refine below_alloc ?_ _ | (refine below_step ?_ (Aside0.out (p := Below _ _ _) (by assumption)))))).trans (hd.below.mono (by simp; omega)))
  clear hd hk0 hk1
  go_wp2_with fail
  go_ret
  exact ⟨rfl, HD.out⟩

def ROpenPost (w : World) (B : List Int) (n : Int) (e : Ending) (w' : World) : Prop :=
  if openE B n = 0 then ∃ p S, e = .returned (.tuple #[.pointer (some ⟨p, 0, none⟩), .int .i64 0]) ∧ RRd w' S p (ofB B n.toNat) 0 ∧ w.heap.size ≤ p ∧ (∀ k, S k → w.heap.size ≤ k) ∧ Below w.heap.size w w'
  else e = .returned (.tuple #[.pointer none, .int .i64 (openE B n)]) ∧ w' = w
set_option maxHeartbeats 1000000 in
set_option maxRecDepth 100000 in
theorem RefOpen_any (A : Option Addr) (c : Nat) (B : List Int) (n : Int) (w : World) (hC : Kd.C (Kd.int .u8) w A B.length B) (hB : is8 B) (hBl : B.length ≤ 1000000000) :
    Calls Try.prog 32 #[.slice A B.length c, .int .i64 n] w (ROpenPost w B n) := by
  have HC := Aside0.mk hC
  have H8 := Aside0.mk hB
  clear hC hB
  by_cases h1 : n < 0
  · have HN : Aside0 (openE B n = 1) := ⟨by unfold openE; rw [if_pos (.inl h1)]⟩
    have d1 : decide (n < 0) = true := by simpa using h1
    go_enter Try.func32, Try.ntmps32
    go_wp2_with fail
    go_ret2
    unfold ROpenPost
    rw [HN.out, if_neg (by decide)]
    exact ⟨rfl, rfl⟩
  obtain ⟨m, rfl⟩ : ∃ m : Nat, n = m := ⟨n.toNat, by omega⟩
  have d1 : decide ((m : Int) < 0) = false := by simp
  by_cases h2 : 8 * (B.length : Int) < m
  · have HN : Aside0 (openE B m = 1) := ⟨by unfold openE; rw [if_pos (.inr h2)]⟩
    have d2 : decide (8 * (B.length : Int) < (m : Int)) = true := by simpa using h2
    clear h1
    go_enter Try.func32, Try.ntmps32
    go_wp2_with fail
    go_ret2
    unfold ROpenPost
    rw [HN.out, if_neg (by decide)]
    exact ⟨rfl, rfl⟩
  have d2 : decide (8 * (B.length : Int) < (m : Int)) = false := by simpa using h2
  by_cases h3 : 1048576 < (m : Int)
  · have HN : Aside0 (openE B m = 2) := ⟨by unfold openE; rw [if_neg (by omega), if_pos h3]⟩
    have d3 : decide (1048576 < (m : Int)) = true := by simpa using h3
    clear h1
    go_enter Try.func32, Try.ntmps32
    go_wp2_with fail
    go_ret2
    unfold ROpenPost
    rw [HN.out, if_neg (by decide)]
    exact ⟨rfl, rfl⟩
  · have HN : Aside0 (openE B m = 0) := ⟨by unfold openE; rw [if_neg (by omega), if_neg h3]⟩
    have d3 : decide (1048576 < (m : Int)) = false := by simpa using h3
    have hm : m ≤ 1048576 := by omega
    have hm8 : m ≤ 8 * B.length := by omega
    have HOF := Aside0.mk (Of_any A B.length c m B w HC.out H8.out hm8 hBl)
    clear h1 h2 h3
    go_enter Try.func32, Try.ntmps32
    go_wp2_with fail
    refine HOF.out.mono ?_
    rintro e w1 ⟨v, S, rfl, hr, hs, hb⟩
    obtain ⟨Av, cv, ev⟩ := Kd.R_slice hr
    subst ev
    rw [ofB_length] at hr ⊢
    have HR := Aside0.mk hr
    have HS := Aside0.mk hs
    have HB := Aside0.mk hb
    clear hr hs hb
    go_wp2_with fail
    go_ret2
    unfold ROpenPost
    rw [HN.out, if_pos rfl, Int.toNat_natCast]
    have hr1 := Kd.R_bound HR.out
    have hsz := HB.out.size
    refine ⟨w1.heap.size, fun k => S k ∧ ∃ cells, (w1.alloc (.cells #[.slice Av m cv, .int .i64 0] 76)).heap[k]? = some (.cells cells 5 (0, 0)), rfl, ⟨⟨.slice Av m cv, World.alloc_heap_new w1 _, ?_⟩, ofB_01 _ _, Nat.zero_le _, by rw [ofB_length]; exact hm, fun k hk => hk.2⟩, hsz, fun k hk => HS.out k hk.1, HB.out.alloc hsz _⟩
    refine Kd.R_mono (Kd.R_alloc hr1 _) (fun k hk => ⟨hk.1, ?_⟩)
    obtain ⟨q', hq', cells, hc⟩ := hk.2.2.2
    obtain rfl : q' = 5 := by simpa [Kd.int, Kd.scalar] using hq'
    exact ⟨cells, blk_alloc' hc _⟩
end Go.Proofs.Ytmjekkkpbcehoaa.P
