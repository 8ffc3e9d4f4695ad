/- The walk of shawmlaw22.FrameReads. -/
import Derived.Test.YtnaklnehichhpaaDoorRg
import Derived.Test.YtnaklnehichhpaaDoorKq
namespace Go.Proofs.YtnaklnehichhpaaDoor.P
open Go.RowKit Go.Shelf Go.Proofs.YtnaklnehichhpaaDoor.Bits Go.Proofs.YtnaklnehichhpaaDoorW.PrintWords Go.Proofs.YtnaklnehichhpaaDoorW.PrintLast Go.Proofs.YtnaklnehichhpaaDoorW.PrintMore
set_option linter.unusedVariables false
set_option linter.unusedSimpArgs false

theorem fRead_len (B : List Int) (a : Int) : (fRead B a).2.1.length ≤ B.length := by
  unfold fRead
  split
  · simp
  · unfold fReadB
    repeat' split
    all_goals first | (simp; done) | (simp only [List.length_take, List.length_drop]; omega)
set_option maxHeartbeats 4000000 in
set_option maxRecDepth 100000 in
theorem FrameReads_any (A : Option Addr) (c : Nat) (B : List Int) (at_ : Int) (w : World) (hg : HG w)
    (hC : Kd.C (Kd.int .u8) w A B.length B) (h8 : is8 B) (hc : B.length ≤ c) (hl : B.length ≤ 9000000000000000000) :
    Calls Tryd.prog 4 #[.slice A B.length c, .int .i64 at_] w fun e w' => e = .returned (.bool true) ∧ Below w.heap.size w w' := by
  by_cases hbig : 5000 < B.length
  · have q1 : decide ((5000 : Int) < (B.length : Int)) = true := by simp; omega
    have HG1 := Aside0.mk hg
    clear hC h8 hg
    go_enter Tryd.func4, Tryd.ntmps4
    go_wp2_with fail
    refine (awake_any _ HG1.out).mono ?_
    rintro e w9 ⟨rfl, hb⟩
    go_wp2_with fail
    go_ret
    exact ⟨rfl, hb⟩
  have q1 : decide ((5000 : Int) < (B.length : Int)) = false := by simp; omega
  have hbody := fRead_len B at_
  have HR := Aside0.mk (Read_any A c B at_ w hC h8 (by omega) hc hg)
  have HRR := Aside0.mk (fun W hW => RRead_any A c B at_ W hW h8 (by omega) hc)
  unfold ReadPost at HR HRR
  generalize fRead B at_ = r at *
  obtain ⟨⟨num, lossy, rate, ch, kind, count, back⟩, body, er⟩ := r
  unfold HD.val at HR HRR
  dsimp only at HR HRR hbody
  have HC := Aside0.mk hC
  have HG0 := Aside0.mk hg
  clear hC h8 hg
  go_enter Tryd.func4, Tryd.ntmps4
  go_wp2_with fail
  refine HR.out.mono ?_
  rintro e w1 ⟨v1, S1, rfl, hr, hs, hb⟩
  obtain ⟨A1, c1, hv, _, hC1⟩ := Kd.R_reads hr
  subst hv
  obtain ⟨w2, hw2⟩ : ∃ w2, w2 = w1.alloc (.cells #[.int .i64 num, .bool lossy, .int .i64 rate, .int .i64 ch, .int .i64 kind, .int .i64 count, .int .i64 back] 23) := ⟨_, rfl⟩
  obtain ⟨p, hp⟩ : ∃ p, p = w1.heap.size := ⟨_, rfl⟩
  have hb2 : Below w1.heap.size w1 w2 := by rw [hw2]; exact below_alloc (Below.refl _ _) _
  have HK2 : Aside0 (w2.heap[p]? = some (.cells #[.int .i64 num, .bool lossy, .int .i64 rate, .int .i64 ch, .int .i64 kind, .int .i64 count, .int .i64 back] 23 (0, 0))) := ⟨by rw [hw2, hp]; exact World.alloc_heap_new w1 _⟩
  have HB2 := Aside0.mk (hb.trans (hb2.mono hb.size))
  have HC2 := Aside0.mk (Kd.C_below HC.out HB2.out)
  have HD2 := Aside0.mk (Kd.C_below hC1 hb2)
  have HE : Aside0 (w1.alloc (.cells #[.int .i64 num, .bool lossy, .int .i64 rate, .int .i64 ch, .int .i64 kind, .int .i64 count, .int .i64 back] 23) = w2) := ⟨hw2.symm⟩
  have HP := Aside0.mk hp
  clear hr hs hb hC1 hw2 hp hb2
  go_wp2_with fail
  rw [HE.out, ← HP.out]
  refine (HRR.out w2 HC2.out).mono ?_
  rintro e w3 ⟨v3, S3, rfl, hr, hs, hb⟩
  obtain ⟨A3, c3, hv, _, hC3⟩ := Kd.R_reads hr
  subst hv
  obtain ⟨w4, hw4⟩ : ∃ w4, w4 = w3.alloc (.cells #[.int .i64 num, .bool lossy, .int .i64 rate, .int .i64 ch, .int .i64 kind, .int .i64 count, .int .i64 back] 23) := ⟨_, rfl⟩
  obtain ⟨q, hq⟩ : ∃ q, q = w3.heap.size := ⟨_, rfl⟩
  have hb4 : Below w3.heap.size w3 w4 := by rw [hw4]; exact below_alloc (Below.refl _ _) _
  have hb24 := hb.trans (hb4.mono hb.size)
  have hk2 := blk_fr HK2.out (Fr.below hb24 (fun _ => False)) (fun h => h)
  have hk4 : w4.heap[q]? = some (.cells #[.int .i64 num, .bool lossy, .int .i64 rate, .int .i64 ch, .int .i64 kind, .int .i64 count, .int .i64 back] 23 (0, 0)) := by rw [hw4, hq]; exact World.alloc_heap_new w3 _
  have HB4 := Aside0.mk (HB2.out.trans (hb24.mono HB2.out.size))
  have HD4 := Aside0.mk (Kd.C_below HD2.out hb24)
  have HF4 := Aside0.mk (Kd.C_below hC3 hb4)
  have HG4 := Aside0.mk (HG0.out.below HB4.out)
  have x0 : w4.cell? ⟨p, 0, none⟩ = some (.int .i64 num) := by rw [cell_of_row w4 p 0 _ _ (0, 0) hk2]; rfl
  have x1 : w4.cell? ⟨p, 1, none⟩ = some (.bool lossy) := by rw [cell_of_row w4 p 1 _ _ (0, 0) hk2]; rfl
  have x2 : w4.cell? ⟨p, 2, none⟩ = some (.int .i64 rate) := by rw [cell_of_row w4 p 2 _ _ (0, 0) hk2]; rfl
  have x3 : w4.cell? ⟨p, 3, none⟩ = some (.int .i64 ch) := by rw [cell_of_row w4 p 3 _ _ (0, 0) hk2]; rfl
  have x4 : w4.cell? ⟨p, 4, none⟩ = some (.int .i64 kind) := by rw [cell_of_row w4 p 4 _ _ (0, 0) hk2]; rfl
  have x5 : w4.cell? ⟨p, 5, none⟩ = some (.int .i64 count) := by rw [cell_of_row w4 p 5 _ _ (0, 0) hk2]; rfl
  have x6 : w4.cell? ⟨p, 6, none⟩ = some (.int .i64 back) := by rw [cell_of_row w4 p 6 _ _ (0, 0) hk2]; rfl
  have y0 : w4.cell? ⟨q, 0, none⟩ = some (.int .i64 num) := by rw [cell_of_row w4 q 0 _ _ (0, 0) hk4]; rfl
  have y1 : w4.cell? ⟨q, 1, none⟩ = some (.bool lossy) := by rw [cell_of_row w4 q 1 _ _ (0, 0) hk4]; rfl
  have y2 : w4.cell? ⟨q, 2, none⟩ = some (.int .i64 rate) := by rw [cell_of_row w4 q 2 _ _ (0, 0) hk4]; rfl
  have y3 : w4.cell? ⟨q, 3, none⟩ = some (.int .i64 ch) := by rw [cell_of_row w4 q 3 _ _ (0, 0) hk4]; rfl
  have y4 : w4.cell? ⟨q, 4, none⟩ = some (.int .i64 kind) := by rw [cell_of_row w4 q 4 _ _ (0, 0) hk4]; rfl
  have y5 : w4.cell? ⟨q, 5, none⟩ = some (.int .i64 count) := by rw [cell_of_row w4 q 5 _ _ (0, 0) hk4]; rfl
  have y6 : w4.cell? ⟨q, 6, none⟩ = some (.int .i64 back) := by rw [cell_of_row w4 q 6 _ _ (0, 0) hk4]; rfl
  have heq : ∀ W : World, (binOp .eql 23 (.agg #[.int .i64 num, .bool lossy, .int .i64 rate, .int .i64 ch, .int .i64 kind, .int .i64 count, .int .i64 back]) (.agg #[.int .i64 num, .bool lossy, .int .i64 rate, .int .i64 ch, .int .i64 kind, .int .i64 count, .int .i64 back])).run Tryd.prog W = .ok (.bool true) W := by
    intro W
    have := eql_hd ⟨num, lossy, rate, ch, kind, count, back⟩ ⟨num, lossy, rate, ch, kind, count, back⟩ W
    rw [decide_eq_true rfl] at this
    exact this
  have hee : (er == er) = true := beq_self_eq_true er
  subst hw4
  subst hq
  clear hr hs hb hC3 hb4 hb24 hk2 hk4 HK2 HB2 HC2 HD2 HE HP HR HRR HC HG0
  go_wp2_with fail
  have cc := Same_any A1 A3 body.length body.length c1 c3 body body _ HD4.out HF4.out (by omega) (by omega)
  rw [decide_eq_true rfl] at cc
  refine cc.mono ?_
  clear cc
  rintro e w10 ⟨rfl, hd⟩
  have HB10 := Aside0.mk (HB4.out.trans (hd.below.mono HB4.out.size))
  have HG10 := Aside0.mk (HG4.out.below hd.below)
  clear hd
  go_wp2_with fail
  refine (awake_any _ HG10.out).mono ?_
  rintro e w11 ⟨rfl, hb⟩
  have HB11 := Aside0.mk (HB10.out.trans (hb.mono HB10.out.size))
  clear hb
  go_wp2_with fail
  go_ret
  exact ⟨rfl, HB11.out⟩
end Go.Proofs.YtnaklnehichhpaaDoor.P
