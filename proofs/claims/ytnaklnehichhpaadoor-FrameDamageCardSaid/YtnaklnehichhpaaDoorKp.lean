/- The chapter's examples hold: shawmlaw22.awake. -/
import Derived.Test.YtnaklnehichhpaaDoorKo
import Derived.Test.YtnaklnehichhpaaDoorKj
namespace Go.Proofs.YtnaklnehichhpaaDoor.P
open Go.RowKit Go.Shelf Go.Proofs.YtnaklnehichhpaaDoor.Bits Go.Proofs.YtnaklnehichhpaaDoorW.PrintWords Go.Proofs.YtnaklnehichhpaaDoorW.PrintLast Go.Proofs.YtnaklnehichhpaaDoorW.PrintMore
set_option linter.unusedVariables false
set_option linter.unusedSimpArgs false
theorem eql_hd (a b : HD) (w : World) : (binOp .eql 23 a.val b.val).run Tryd.prog w = .ok (.bool (decide (a = b))) w := by
  have h := neq_hd a b w
  unfold HD.val at *
  rw [run_neq_struct] at h
  rw [run_eql_struct]
  generalize (Op.equalIn 10000 _ _ _).run Tryd.prog w = R at *
  cases R with
  | ok v w' =>
    rw [Result.andThen_ok] at h ⊢
    injection h with h1 h2
    injection h1 with h1
    rw [h2]
    congr 2
    generalize decide (a = b) = y at *
    cases v <;> cases y <;> simp_all
  | _ => simp [Result.andThen] at h
def awH : HD := ⟨1, false, 8000, 1, 0, 128, 0⟩
abbrev awB : List Int := [250, 208, 64, 31, 192, 0, 0, 176, 123]
theorem aw1 : fWrite awH [] = (awB, 0) := by decide +kernel
theorem aw2 : fRead awB 0 = (awH, [], 0) := by decide +kernel
theorem aw3 : fFind ([250, 1] ++ awB) 0 = (2, 0) := by decide +kernel
theorem aw4 : placesF awB = [0] := by decide +kernel
theorem aw5 : lostF awB = [] := by decide +kernel
theorem aw6 : okH awH = true := by decide +kernel
theorem awV : awH.val = .agg #[.int .i64 1, .bool false, .int .i64 8000, .int .i64 1, .int .i64 0, .int .i64 128, .int .i64 0] := rfl
theorem awB8 : is8 awB := by intro b hb; simp at hb; omega

theorem lit_R8 (W : World) (xs : List Int) (hm : xs.length ≤ 9223372036854775807) : RB (fun k => k = W.heap.size) (W.alloc (.cells (nums .u8 xs).toArray 5)) (.slice (some ⟨W.heap.size, 0, none⟩) xs.length xs.length) xs :=
  Kd.R_of_own (own_lit_of (enc := fun x => Value.int .u8 x) W 0 5 xs (Nat.zero_le _) hm) (fun k hk => by simpa [Value.ownBlock] using hk.symm)
set_option maxHeartbeats 4000000 in
set_option maxRecDepth 100000 in
theorem awake_any (w : World) (hg : HG w) : Calls Tryd.prog 10 #[] w fun e w' => e = .returned (.bool true) ∧ Below w.heap.size w w' := by
  obtain ⟨w1, hw1⟩ : ∃ w1, w1 = w.alloc (hdObj awH) := ⟨_, rfl⟩
  obtain ⟨p, hp⟩ : ∃ p, p = w.heap.size := ⟨_, rfl⟩
  have HB1 : Aside0 (Below w.heap.size w w1) := ⟨by rw [hw1]; exact below_alloc (Below.refl _ _) _⟩
  have HK1 : Aside0 (w1.heap[p]? = some (hdObj awH)) := ⟨by rw [hw1, hp]; exact World.alloc_heap_new w _⟩
  have HG1 := Aside0.mk hg
  have HW1 := Aside0.mk hw1
  have HP := Aside0.mk hp
  clear hg hw1 hp
  go_enter Tryd.func10, Tryd.ntmps10
  go_wp2_with fail
  have HE1 : Aside0 (w.alloc (.cells #[.int .i64 1, .bool false, .int .i64 8000, .int .i64 1, .int .i64 0, .int .i64 128, .int .i64 0] 23) = w1) := ⟨by rw [HW1.out]; rfl⟩
  rw [HE1.out, ← HP.out]
  clear HE1 HW1 HP
  have cc := Write_any awH none 0 [] w1 (Kd.C_nil _ _) (fun b hb => by cases hb) (HG1.out.below HB1.out) (by decide)
  rw [aw1] at cc
  refine cc.mono ?_
  clear cc
  rintro e w2 ⟨v2, S2, rfl, hr, hs, hb⟩
  obtain ⟨A, c, hv, hc, hC⟩ := Kd.R_reads hr
  subst hv
  have HB2 := Aside0.mk (HB1.out.trans (hb.mono HB1.out.size))
  have HK2 := Aside0.mk (blk_fr HK1.out (Fr.below hb (fun _ => False)) (fun h => h))
  have HC2 := Aside0.mk hC
  have HCC := Aside0.mk hc
  clear hr hs hb hC hc HB1 HK1
  go_wp2_with fail
  have cc := Read_any A c awB 0 w2 HC2.out awB8 (by decide) HCC.out (HG1.out.below HB2.out)
  unfold ReadPost at cc
  rw [aw2, awV] at cc
  refine cc.mono ?_
  clear cc
  rintro e w3 ⟨v3, S3, rfl, hr, hs, hb⟩
  obtain ⟨A3, c3, hv, hc3, hC3⟩ := Kd.R_reads hr
  subst hv
  have HB3 := Aside0.mk (HB2.out.trans (hb.mono HB2.out.size))
  have HK3 := Aside0.mk (blk_fr HK2.out (Fr.below hb (fun _ => False)) (fun h => h))
  have HC3 := Aside0.mk (Kd.C_below HC2.out hb)
  clear hr hs hb hC3 hc3 HB2 HK2 HC2
  obtain ⟨w4, hw4⟩ : ∃ w4, w4 = w3.alloc (hdObj awH) := ⟨_, rfl⟩
  obtain ⟨q, hq⟩ : ∃ q, q = w3.heap.size := ⟨_, rfl⟩
  have hsz4 : w4.heap.size = w3.heap.size + 1 := by rw [hw4]; simp
  have hb4 : Below w3.heap.size w3 w4 := by rw [hw4]; exact below_alloc (Below.refl _ _) _
  have hC4 := Kd.C_below HC3.out hb4
  have hB4 := HB3.out.trans (hb4.mono HB3.out.size)
  have HK4 := Aside0.mk (blk_fr HK3.out (Fr.below hb4 (fun _ => False)) (fun h => h))
  have hq4 : w4.heap[q]? = some (hdObj awH) := by rw [hw4, hq]; exact World.alloc_heap_new w3 _
  obtain ⟨v5, w5, hrun, hr5, hg5⟩ := append_run (S := fun k => k = w4.heap.size) (w4.alloc (.cells (nums .u8 [250, 1]).toArray 5)) (.slice (some ⟨w4.heap.size, 0, none⟩) 2 2) [250, 1] awB A 9 c (lit_R8 w4 [250, 1] (by decide)) (Kd.C_alloc hC4 _) (by decide)
  have hb5 : Below w4.heap.size w4 w5 := (below_alloc (Below.refl _ _) _).grown hg5 (by simp) (fun k hk => by
    have : w4.heap.size = k := by simpa [Value.ownBlock] using hk
    omega)
  obtain ⟨A5, c5, hv, hc5, hC5⟩ := Kd.R_reads hr5
  subst hv
  rw [hsz4] at hrun
  have HRUN : Aside0 ((Builtin.append_ #[24, 24] 24 #[.slice (some ⟨w3.heap.size + 1, 0, none⟩) 2 2, .slice A 9 c]).run Tryd.prog ((w3.alloc (.cells #[.int .i64 1, .bool false, .int .i64 8000, .int .i64 1, .int .i64 0, .int .i64 128, .int .i64 0] 23)).alloc (.cells #[.int .u8 250, .int .u8 1] 5)) = .ok (.slice A5 11 c5) w5) := ⟨by rw [hw4] at hrun; exact hrun⟩
  have HK5 := Aside0.mk (blk_fr HK4.out (Fr.below hb5 (fun _ => False)) (fun h => h))
  have HQ5 := Aside0.mk (blk_fr hq4 (Fr.below hb5 (fun _ => False)) (fun h => h))
  have HB5 := Aside0.mk (hB4.trans (hb5.mono hB4.size))
  have HC5 := Aside0.mk (Kd.C_below hC4 hb5)
  have HX5 := Aside0.mk hC5
  have HCX := Aside0.mk hc5
  have HQ := Aside0.mk hq
  clear hw4 hsz4 hb4 hC4 hB4 hq4 hrun hr5 hg5 hb5 hC5 hc5 HK4 HB3 HK3 HC3 hq
  go_wp2_with (at_builtin; refine wpList_run_append rfl _ _ _ rfl _ _ rfl rfl HRUN.out ?_)
  rw [← HQ.out]
  have cc := Find_any A5 c5 ([250, 1] ++ awB) 0 w5 HX5.out (by intro b hb; simp at hb; omega) (by decide) HCX.out (HG1.out.below HB5.out)
  rw [aw3] at cc
  refine cc.mono ?_
  clear cc
  rintro e w6 ⟨rfl, hb⟩
  have HK6 := Aside0.mk (blk_fr HK5.out (Fr.below hb (fun _ => False)) (fun h => h))
  have HQ6 := Aside0.mk (blk_fr HQ5.out (Fr.below hb (fun _ => False)) (fun h => h))
  have HB6 := Aside0.mk (HB5.out.trans (hb.mono HB5.out.size))
  have HC6 := Aside0.mk (Kd.C_below HC5.out hb)
  clear hb HK5 HQ5 HB5 HC5 HX5 HRUN HQ
  have hsl : ∀ W : World, (Instr.slice 24 (.slice A 9 c) none (some (.int .i64 7)) none).run Tryd.prog W = .ok (.slice A 7 c) W := by
    intro W
    have := cut_to (P := Tryd.prog) 24 5 .i64 Tryd.underlying24 (i := _) rfl A 9 c 7 (by omega) (by omega) HCC.out W
    simpa using this
  have heq : ∀ W : World, (binOp .eql 23 (.agg #[.int .i64 1, .bool false, .int .i64 8000, .int .i64 1, .int .i64 0, .int .i64 128, .int .i64 0]) (.agg #[.int .i64 1, .bool false, .int .i64 8000, .int .i64 1, .int .i64 0, .int .i64 128, .int .i64 0])).run Tryd.prog W = .ok (.bool true) W := by
    intro W
    have := eql_hd awH awH W
    rw [decide_eq_true rfl] at this
    exact this
  have hcp := cell_of_row _ _ 0 _ _ (0, 0) HK6.out
  go_wp2_with fail
  have hC7 : Kd.C (Kd.int .u8) w6 A 7 [250, 208, 64, 31, 192, 0, 0] := Kd.C_take HC6.out (show 7 ≤ awB.length by decide)
  have cc := Same_any A (some ⟨w6.heap.size, 0, none⟩) 7 7 c 7 [250, 208, 64, 31, 192, 0, 0] [250, 208, 64, 31, 192, 0, 0] _ (Kd.C_alloc hC7 _) (lit_C8 w6 [250, 208, 64, 31, 192, 0, 0] (by decide)) (by decide) (by decide)
  rw [decide_eq_true rfl] at cc
  refine cc.mono ?_
  clear cc hC7
  rintro e w7 ⟨rfl, hd⟩
  have hb := (below_alloc (Below.refl w6.heap.size w6) (.cells (nums .u8 [250, 208, 64, 31, 192, 0, 0]).toArray 5)).trans (hd.below.mono (by simp))
  have hk7 := blk_fr HK6.out (Fr.below hb (fun _ => False)) (fun h => h)
  have hq7 := blk_fr HQ6.out (Fr.below hb (fun _ => False)) (fun h => h)
  have HB7 := Aside0.mk (HB6.out.trans (hb.mono HB6.out.size))
  have HC7 := Aside0.mk (Kd.C_below HC6.out hb)
  have cp0 : w7.cell? ⟨p, 0, none⟩ = some (.int .i64 1) := by rw [cell_of_row w7 p 0 _ _ (0, 0) hk7]; rfl
  have cp1 : w7.cell? ⟨p, 1, none⟩ = some (.bool false) := by rw [cell_of_row w7 p 1 _ _ (0, 0) hk7]; rfl
  have cp2 : w7.cell? ⟨p, 2, none⟩ = some (.int .i64 8000) := by rw [cell_of_row w7 p 2 _ _ (0, 0) hk7]; rfl
  have cp3 : w7.cell? ⟨p, 3, none⟩ = some (.int .i64 1) := by rw [cell_of_row w7 p 3 _ _ (0, 0) hk7]; rfl
  have cp4 : w7.cell? ⟨p, 4, none⟩ = some (.int .i64 0) := by rw [cell_of_row w7 p 4 _ _ (0, 0) hk7]; rfl
  have cp5 : w7.cell? ⟨p, 5, none⟩ = some (.int .i64 128) := by rw [cell_of_row w7 p 5 _ _ (0, 0) hk7]; rfl
  have cp6 : w7.cell? ⟨p, 6, none⟩ = some (.int .i64 0) := by rw [cell_of_row w7 p 6 _ _ (0, 0) hk7]; rfl
  have cq0 : w7.cell? ⟨q, 0, none⟩ = some (.int .i64 1) := by rw [cell_of_row w7 q 0 _ _ (0, 0) hq7]; rfl
  have cq1 : w7.cell? ⟨q, 1, none⟩ = some (.bool false) := by rw [cell_of_row w7 q 1 _ _ (0, 0) hq7]; rfl
  have cq2 : w7.cell? ⟨q, 2, none⟩ = some (.int .i64 8000) := by rw [cell_of_row w7 q 2 _ _ (0, 0) hq7]; rfl
  have cq3 : w7.cell? ⟨q, 3, none⟩ = some (.int .i64 1) := by rw [cell_of_row w7 q 3 _ _ (0, 0) hq7]; rfl
  have cq4 : w7.cell? ⟨q, 4, none⟩ = some (.int .i64 0) := by rw [cell_of_row w7 q 4 _ _ (0, 0) hq7]; rfl
  have cq5 : w7.cell? ⟨q, 5, none⟩ = some (.int .i64 128) := by rw [cell_of_row w7 q 5 _ _ (0, 0) hq7]; rfl
  have cq6 : w7.cell? ⟨q, 6, none⟩ = some (.int .i64 0) := by rw [cell_of_row w7 q 6 _ _ (0, 0) hq7]; rfl
  have HK7 := Aside0.mk hk7
  have HQ7 := Aside0.mk hq7
  clear hd hb hk7 hq7 hcp HB6 HC6 HQ6 HK6 hsl
  go_wp2_with fail
  clear cp0 cp1 cp2 cp3 cp4 cp5 cp6 cq0 cq1 cq2 cq3 cq4 cq5 cq6
  have cc := All_any A c awB w7 HC7.out awB8 (by decide) HCC.out (HG1.out.below HB7.out)
  rw [aw4] at cc
  refine cc.mono ?_
  clear cc
  rintro e w8 ⟨v8, rfl, hr, hb⟩
  obtain ⟨A8, c8, hv, hc8, hC8⟩ := hr.reads (by decide)
  subst hv
  have HC8 := Aside0.mk hC8
  have HK8 := Aside0.mk (blk_fr HK7.out (Fr.below hb (fun _ => False)) (fun h => h))
  have HB8 := Aside0.mk (HB7.out.trans (hb.mono HB7.out.size))
  have HD8 := Aside0.mk (Kd.C_below HC7.out hb)
  clear hr hb hC8 hc8 HB7 HC7 HK7 HQ7
  go_wp2_with fail
  have cc := Ints_any A8 (some ⟨w8.heap.size, 0, none⟩) 1 1 c8 1 [0] [0] _ (Kd.C_alloc HC8.out _) (lit_C64 w8 [0] (by decide)) (by decide) (by decide)
  rw [decide_eq_true rfl] at cc
  refine cc.mono ?_
  clear cc
  rintro e w9 ⟨rfl, hd⟩
  have hb := (below_alloc (Below.refl w8.heap.size w8) (.cells (nums .i64 [0]).toArray 3)).trans (hd.below.mono (by simp))
  have HK9 := Aside0.mk (blk_fr HK8.out (Fr.below hb (fun _ => False)) (fun h => h))
  have HB9 := Aside0.mk (HB8.out.trans (hb.mono HB8.out.size))
  have HC9 := Aside0.mk (Kd.C_below HD8.out hb)
  clear hd hb HC8 HK8 HB8 HD8
  go_wp2_with fail
  have cc := Lost_any A c awB w9 HC9.out awB8 (by decide) HCC.out (HG1.out.below HB9.out)
  rw [aw5] at cc
  refine cc.mono ?_
  clear cc
  rintro e w10 ⟨v10, rfl, hr, hb⟩
  obtain ⟨A10, c10, hv⟩ := hr.slice
  subst hv
  have hk10 := blk_fr HK9.out (Fr.below hb (fun _ => False)) (fun h => h)
  have HB10 := Aside0.mk (HB9.out.trans (hb.mono HB9.out.size))
  have c0 : w10.cell? ⟨p, 0, none⟩ = some (.int .i64 1) := by rw [cell_of_row w10 p 0 _ _ (0, 0) hk10]; rfl
  have c1 : w10.cell? ⟨p, 1, none⟩ = some (.bool false) := by rw [cell_of_row w10 p 1 _ _ (0, 0) hk10]; rfl
  have c2 : w10.cell? ⟨p, 2, none⟩ = some (.int .i64 8000) := by rw [cell_of_row w10 p 2 _ _ (0, 0) hk10]; rfl
  have c3 : w10.cell? ⟨p, 3, none⟩ = some (.int .i64 1) := by rw [cell_of_row w10 p 3 _ _ (0, 0) hk10]; rfl
  have c4 : w10.cell? ⟨p, 4, none⟩ = some (.int .i64 0) := by rw [cell_of_row w10 p 4 _ _ (0, 0) hk10]; rfl
  have c5 : w10.cell? ⟨p, 5, none⟩ = some (.int .i64 128) := by rw [cell_of_row w10 p 5 _ _ (0, 0) hk10]; rfl
  have c6 : w10.cell? ⟨p, 6, none⟩ = some (.int .i64 0) := by rw [cell_of_row w10 p 6 _ _ (0, 0) hk10]; rfl
  clear hr hb hk10 HK9 HB9 HC9
  go_wp2_with fail
  have cc := Check_any awH w10 (HG1.out.below HB10.out)
  rw [aw6, if_pos rfl] at cc
  refine cc.mono ?_
  clear cc
  rintro e w11 ⟨rfl, hb⟩
  have HB11 := Aside0.mk (HB10.out.trans (hb.mono HB10.out.size))
  clear hb
  go_wp2_with fail
  go_ret
  exact ⟨rfl, HB11.out⟩
end Go.Proofs.YtnaklnehichhpaaDoor.P
