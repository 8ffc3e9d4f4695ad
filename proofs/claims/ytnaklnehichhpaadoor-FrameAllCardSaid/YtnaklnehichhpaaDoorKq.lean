/- shawmref02.Ints; rows of one's own as lists that are read. The chapter's examples hold: shawmlaw22.awake. The arguments of chapter 22, opened; the rates that the program lays. -/
import Derived.Test.YtnaklnehichhpaaDoorKn
import Derived.Test.YtnaklnehichhpaaDoorBo
import Derived.Test.YtnaklnehichhpaaDoorKj
import Derived.Test.YtnaklnehichhpaaDoorRows
import Derived.WalkKit
import Derived.ProofKit
import Derived.OpenShut
import Derived.ShutString
import Derived.ChangeOld
import Derived.SizedLaws
import Derived.Deep.Slices
import Derived.Deep.Fields
import Derived.LaidMore
import Derived.Lay
import Derived.Stop.Joined
import Derived.Test.YtnaklnehichhpaaDoorWSized
namespace Go.Proofs.YtnaklnehichhpaaDoor.P
section
open Go.RowKit Go.Shelf Go.Proofs.YtnaklnehichhpaaDoor.Bits Go.Proofs.YtnaklnehichhpaaDoorW.PrintWords Go.Proofs.YtnaklnehichhpaaDoorW.PrintLast Go.Proofs.YtnaklnehichhpaaDoorW.PrintMore
set_option linter.unusedVariables false
set_option linter.unusedSimpArgs false

theorem at64 {w : World} {A : Option Addr} {n : Nat} {B : List Int} (h : Kd.C (Kd.int .i64) w A n B) (i : Nat) (hi : i < n) : ∃ ad, A = some ad ∧ w.cell? (ad.add i) = some (.int .i64 (B.getD i 0)) := by
  obtain ⟨ad, e, hx⟩ := Kd.at_int h (i : Int) (by omega) (by omega)
  refine ⟨ad, e, ?_⟩
  rw [Int.toNat_natCast] at hx
  rw [hx]; unfold rd; rw [Int.toNat_natCast]
theorem C_len64 {w : World} {A : Option Addr} {n : Nat} {B : List Int} (h : Kd.C (Kd.int .i64) w A n B) : B.length = n := h.1
/-- A row of one's own, as a list that is read. -/
theorem RowV.reads {w : World} {base : Nat} {v : Value} {l : List Int} (h : RowV w base 3 1 v l.length (flatI l)) (hl : l.length ≤ 9223372036854775807) : ∃ A c, v = .slice A l.length c ∧ l.length ≤ c ∧ Kd.C (Kd.int .i64) w A l.length l := by
  rcases h.2 with ⟨rfl, hn⟩ | ⟨g, cap, cur, rfl, hb, hg, hle, hcap, hsz, htk⟩
  · have : l = [] := List.length_eq_zero_iff.1 hn
    subst this
    exact ⟨none, 0, rfl, Nat.le_refl _, Kd.C_of_reads (enc := Value.int .i64) (d := (0 : Int)) (h1 := fun _ => rfl) ⟨rfl, hl, fun hn => absurd hn (by simp)⟩⟩
  · refine ⟨_, cap, rfl, hle, Kd.C_of_reads (enc := Value.int .i64) (d := (0 : Int)) (h1 := fun _ => rfl) ⟨rfl, hl, fun hn => ⟨_, rfl, fun j hj => ?_⟩⟩⟩
    have e : (⟨g, 0, none⟩ : Addr).add j = ⟨g, j, none⟩ := by unfold Addr.add; split <;> simp_all
    rw [e, cell_of_row w g j cur _ (0, 0) hg]
    have h1 : (cur.toList.take (l.length * 1))[j]? = (flatI l)[j]? := by rw [htk]
    rw [List.getElem?_take, if_pos (by omega), Array.getElem?_toList] at h1
    rw [h1]
    simp [flatI, hj]

theorem lit_C64 (X : World) (xs : List Int) (hm : xs.length ≤ 9223372036854775807) : Kd.C (Kd.int .i64) (X.alloc (.cells (nums .i64 xs).toArray 3)) (some ⟨X.heap.size, 0, none⟩) xs.length xs := by
  obtain ⟨A, c, e, _, hC⟩ := Kd.R_reads (Kd.R_of_own (ok := fun _ => True) (own_lit_of (enc := fun x => Value.int .i64 x) X X.heap.size 3 xs (Nat.le_refl _) hm) (fun _ _ => trivial))
  cases e
  exact hC

set_option maxHeartbeats 1000000 in
set_option maxRecDepth 100000 in
theorem Ints_any (A A' : Option Addr) (n n' c c' : Nat) (B B' : List Int) (w : World) (hC : Kd.C (Kd.int .i64) w A n B) (hC' : Kd.C (Kd.int .i64) w A' n' B') (hn : n ≤ 1000000000) (hn' : n' ≤ 1000000000) :
    Calls Tryd.prog 20 #[.slice A n c, .slice A' n' c'] w fun e w' => e = .returned (.bool (decide (B = B'))) ∧ Drawn0 w w' := by
  have hl := C_len64 hC
  have hl' := C_len64 hC'
  have HC := Aside0.mk hC
  have HC' := Aside0.mk hC'
  clear hC hC'
  by_cases hnn : n = n'
  · subst hnn
    have HL := Aside0.mk hl
    have HL' := Aside0.mk hl'
    clear hl hl'
    go_enter Tryd.func20, Tryd.ntmps20
    go_wp2_with fail
    go_loopw [13] (fun i wr => ∃ k : Nat, i = .int .i64 (k : Int) ∧ k ≤ n ∧ Aside0 (∀ j, j < k → B.getD j 0 = B'.getD j 0) ∧ Aside0 (Drawn0 w wr)) (fun i _ => n - (intOf i).toNat)
    case atStart => exact ⟨0, rfl, Nat.zero_le _, ⟨fun j hj => by omega⟩, ⟨Drawn0.refl _⟩⟩
    case round =>
      obtain ⟨k, rfl, hk, HE, HD⟩ := hrel
      by_cases hlt : k < n
      · have hCr := Kd.C_below HC.out HD.out.below
        have hCr' := Kd.C_below HC'.out HD.out.below
        obtain ⟨ad, e, hx⟩ := at64 hCr k hlt
        obtain ⟨ad', e', hx'⟩ := at64 hCr' k hlt
        subst e
        subst e'
        have HX := Aside0.mk (rfl : B.getD k 0 = B.getD k 0)
        obtain ⟨x, hX⟩ : ∃ x, x = B.getD k 0 := ⟨_, rfl⟩
        obtain ⟨y, hY⟩ : ∃ y, y = B'.getD k 0 := ⟨_, rfl⟩
        rw [← hX] at hx
        rw [← hY] at hx'
        have HX := Aside0.mk hX
        have HY := Aside0.mk hY
        clear hX hY hCr hCr'
        by_cases hxy : x = y
        · have q1 : (x != y) = false := by simp [hxy]
          have HXY := Aside0.mk hxy
          clear hxy
          go_wp2_with fail
          go_quiet (fail)
          go_wp2_with fail
          go_roundw
          case rel => exact ⟨k + 1, by go_num, by omega, ⟨fun j hj => by
            by_cases h : j = k
            · subst h; rw [← HX.out, ← HY.out]; exact HXY.out
            · exact HE.out j (by omega)⟩, ⟨HD.out.step _⟩⟩
          case measure => simp [intOf]; omega
        · have q1 : (x != y) = true := by simp [hxy]
          have HN : Aside0 (decide (B = B') = false) := ⟨by
            apply decide_eq_false
            rintro rfl
            exact hxy (HX.out.trans HY.out.symm)⟩
          clear hxy
          go_wp2_with fail
          go_quiet (fail)
          go_wp2_with fail
          go_ret
          rw [HN.out]
          exact ⟨rfl, HD.out.step _⟩
      · have HN : Aside0 (decide (B = B') = true) := ⟨decide_eq_true (C_ext HL.out HL'.out (fun i hi => HE.out i (by omega)))⟩
        go_wp2_with fail
        go_ret
        rw [HN.out]
        exact ⟨rfl, HD.out⟩
  · have HN : Aside0 (decide (B = B') = false) := ⟨by
      apply decide_eq_false
      rintro rfl
      omega⟩
    have q1 : ((n : Int) != (n' : Int)) = true := by simp; omega
    clear hl hl'
    go_enter Tryd.func20, Tryd.ntmps20
    go_wp2_with fail
    go_ret
    rw [HN.out]
    exact ⟨rfl, Drawn0.refl _⟩
end
section
open Go.RowKit Go.Shelf Go.Proofs.YtnaklnehichhpaaDoor.Bits Go.Proofs.YtnaklnehichhpaaDoorW.PrintWords Go.Proofs.YtnaklnehichhpaaDoorW.PrintLast Go.Proofs.YtnaklnehichhpaaDoorW.PrintMore
set_option linter.unusedVariables false
set_option linter.unusedSimpArgs false
theorem eql_hd (a b : HD) (w : World) : (binOp .eql 23 a.val b.val).run Tryd.prog w = .ok (.bool (decide (a = b))) w := by
  have h := neq_hd a b w
  unfold HD.val at *
  rw [run_neq_struct] at h
  rw [run_eql_struct]
  generalize (Op.equalIn 10000 _ _ _).run Tryd.prog w = R at *
  cases R with
  | ok v w' =>
    rw [Result.andThen_ok] at h ⊢
    injection h with h1 h2
    injection h1 with h1
    rw [h2]
    congr 2
    generalize decide (a = b) = y at *
    cases v <;> cases y <;> simp_all
  | _ => simp [Result.andThen] at h
def awH : HD := ⟨1, false, 8000, 1, 0, 128, 0⟩
abbrev awB : List Int := [250, 208, 64, 31, 192, 0, 0, 176, 123]
theorem aw1 : fWrite awH [] = (awB, 0) := by decide +kernel
theorem aw2 : fRead awB 0 = (awH, [], 0) := by decide +kernel
theorem aw3 : fFind ([250, 1] ++ awB) 0 = (2, 0) := by decide +kernel
theorem aw4 : placesF awB = [0] := by decide +kernel
theorem aw5 : lostF awB = [] := by decide +kernel
theorem aw6 : okH awH = true := by decide +kernel
theorem awV : awH.val = .agg #[.int .i64 1, .bool false, .int .i64 8000, .int .i64 1, .int .i64 0, .int .i64 128, .int .i64 0] := rfl
theorem awB8 : is8 awB := by intro b hb; simp at hb; omega

theorem lit_R8 (W : World) (xs : List Int) (hm : xs.length ≤ 9223372036854775807) : RB (fun k => k = W.heap.size) (W.alloc (.cells (nums .u8 xs).toArray 5)) (.slice (some ⟨W.heap.size, 0, none⟩) xs.length xs.length) xs :=
  Kd.R_of_own (own_lit_of (enc := fun x => Value.int .u8 x) W 0 5 xs (Nat.zero_le _) hm) (fun k hk => by simpa [Value.ownBlock] using hk.symm)
set_option maxHeartbeats 4000000 in
set_option maxRecDepth 100000 in
theorem awake_any (w : World) (hg : HG w) : Calls Tryd.prog 10 #[] w fun e w' => e = .returned (.bool true) ∧ Below w.heap.size w w' := by
  obtain ⟨w1, hw1⟩ : ∃ w1, w1 = w.alloc (hdObj awH) := ⟨_, rfl⟩
  obtain ⟨p, hp⟩ : ∃ p, p = w.heap.size := ⟨_, rfl⟩
  have HB1 : Aside0 (Below w.heap.size w w1) := ⟨by rw [hw1]; exact below_alloc (Below.refl _ _) _⟩
  have HK1 : Aside0 (w1.heap[p]? = some (hdObj awH)) := ⟨by rw [hw1, hp]; exact World.alloc_heap_new w _⟩
  have HG1 := Aside0.mk hg
  have HW1 := Aside0.mk hw1
  have HP := Aside0.mk hp
  clear hg hw1 hp
  go_enter Tryd.func10, Tryd.ntmps10
  go_wp2_with fail
  have HE1 : Aside0 (w.alloc (.cells #[.int .i64 1, .bool false, .int .i64 8000, .int .i64 1, .int .i64 0, .int .i64 128, .int .i64 0] 23) = w1) := ⟨by rw [HW1.out]; rfl⟩
  rw [HE1.out, ← HP.out]
  clear HE1 HW1 HP
  have cc := Write_any awH none 0 [] w1 (Kd.C_nil _ _) (fun b hb => by cases hb) (HG1.out.below HB1.out) (by decide)
  rw [aw1] at cc
  refine cc.mono ?_
  clear cc
  rintro e w2 ⟨v2, S2, rfl, hr, hs, hb⟩
  obtain ⟨A, c, hv, hc, hC⟩ := Kd.R_reads hr
  subst hv
  have HB2 := Aside0.mk (HB1.out.trans (hb.mono HB1.out.size))
  have HK2 := Aside0.mk (blk_fr HK1.out (Fr.below hb (fun _ => False)) (fun h => h))
  have HC2 := Aside0.mk hC
  have HCC := Aside0.mk hc
  clear hr hs hb hC hc HB1 HK1
  go_wp2_with fail
  have cc := Read_any A c awB 0 w2 HC2.out awB8 (by decide) HCC.out (HG1.out.below HB2.out)
  unfold ReadPost at cc
  rw [aw2, awV] at cc
  refine cc.mono ?_
  clear cc
  rintro e w3 ⟨v3, S3, rfl, hr, hs, hb⟩
  obtain ⟨A3, c3, hv, hc3, hC3⟩ := Kd.R_reads hr
  subst hv
  have HB3 := Aside0.mk (HB2.out.trans (hb.mono HB2.out.size))
  have HK3 := Aside0.mk (blk_fr HK2.out (Fr.below hb (fun _ => False)) (fun h => h))
  have HC3 := Aside0.mk (Kd.C_below HC2.out hb)
  clear hr hs hb hC3 hc3 HB2 HK2 HC2
  obtain ⟨w4, hw4⟩ : ∃ w4, w4 = w3.alloc (hdObj awH) := ⟨_, rfl⟩
  obtain ⟨q, hq⟩ : ∃ q, q = w3.heap.size := ⟨_, rfl⟩
  have hsz4 : w4.heap.size = w3.heap.size + 1 := by rw [hw4]; simp
  have hb4 : Below w3.heap.size w3 w4 := by rw [hw4]; exact below_alloc (Below.refl _ _) _
  have hC4 := Kd.C_below HC3.out hb4
  have hB4 := HB3.out.trans (hb4.mono HB3.out.size)
  have HK4 := Aside0.mk (blk_fr HK3.out (Fr.below hb4 (fun _ => False)) (fun h => h))
  have hq4 : w4.heap[q]? = some (hdObj awH) := by rw [hw4, hq]; exact World.alloc_heap_new w3 _
  obtain ⟨v5, w5, hrun, hr5, hg5⟩ := append_run (S := fun k => k = w4.heap.size) (w4.alloc (.cells (nums .u8 [250, 1]).toArray 5)) (.slice (some ⟨w4.heap.size, 0, none⟩) 2 2) [250, 1] awB A 9 c (lit_R8 w4 [250, 1] (by decide)) (Kd.C_alloc hC4 _) (by decide)
  have hb5 : Below w4.heap.size w4 w5 := (below_alloc (Below.refl _ _) _).grown hg5 (by simp) (fun k hk => by
    have : w4.heap.size = k := by simpa [Value.ownBlock] using hk
    omega)
  obtain ⟨A5, c5, hv, hc5, hC5⟩ := Kd.R_reads hr5
  subst hv
  rw [hsz4] at hrun
  have HRUN : Aside0 ((Builtin.append_ #[24, 24] 24 #[.slice (some ⟨w3.heap.size + 1, 0, none⟩) 2 2, .slice A 9 c]).run Tryd.prog ((w3.alloc (.cells #[.int .i64 1, .bool false, .int .i64 8000, .int .i64 1, .int .i64 0, .int .i64 128, .int .i64 0] 23)).alloc (.cells #[.int .u8 250, .int .u8 1] 5)) = .ok (.slice A5 11 c5) w5) := ⟨by rw [hw4] at hrun; exact hrun⟩
  have HK5 := Aside0.mk (blk_fr HK4.out (Fr.below hb5 (fun _ => False)) (fun h => h))
  have HQ5 := Aside0.mk (blk_fr hq4 (Fr.below hb5 (fun _ => False)) (fun h => h))
  have HB5 := Aside0.mk (hB4.trans (hb5.mono hB4.size))
  have HC5 := Aside0.mk (Kd.C_below hC4 hb5)
  have HX5 := Aside0.mk hC5
  have HCX := Aside0.mk hc5
  have HQ := Aside0.mk hq
  clear hw4 hsz4 hb4 hC4 hB4 hq4 hrun hr5 hg5 hb5 hC5 hc5 HK4 HB3 HK3 HC3 hq
  go_wp2_with (at_builtin; refine wpList_run_append rfl _ _ _ rfl _ _ rfl rfl HRUN.out ?_)
  rw [← HQ.out]
  have cc := Find_any A5 c5 ([250, 1] ++ awB) 0 w5 HX5.out (by intro b hb; simp at hb; omega) (by decide) HCX.out (HG1.out.below HB5.out)
  rw [aw3] at cc
  refine cc.mono ?_
  clear cc
  rintro e w6 ⟨rfl, hb⟩
  have HK6 := Aside0.mk (blk_fr HK5.out (Fr.below hb (fun _ => False)) (fun h => h))
  have HQ6 := Aside0.mk (blk_fr HQ5.out (Fr.below hb (fun _ => False)) (fun h => h))
  have HB6 := Aside0.mk (HB5.out.trans (hb.mono HB5.out.size))
  have HC6 := Aside0.mk (Kd.C_below HC5.out hb)
  clear hb HK5 HQ5 HB5 HC5 HX5 HRUN HQ
  have hsl : ∀ W : World, (Instr.slice 24 (.slice A 9 c) none (some (.int .i64 7)) none).run Tryd.prog W = .ok (.slice A 7 c) W := by
    intro W
    have := cut_to (P := Tryd.prog) 24 5 .i64 Tryd.underlying24 (i := _) rfl A 9 c 7 (by omega) (by omega) HCC.out W
    simpa using this
  have heq : ∀ W : World, (binOp .eql 23 (.agg #[.int .i64 1, .bool false, .int .i64 8000, .int .i64 1, .int .i64 0, .int .i64 128, .int .i64 0]) (.agg #[.int .i64 1, .bool false, .int .i64 8000, .int .i64 1, .int .i64 0, .int .i64 128, .int .i64 0])).run Tryd.prog W = .ok (.bool true) W := by
    intro W
    have := eql_hd awH awH W
    rw [decide_eq_true rfl] at this
    exact this
  have hcp := cell_of_row _ _ 0 _ _ (0, 0) HK6.out
  go_wp2_with fail
  have hC7 : Kd.C (Kd.int .u8) w6 A 7 [250, 208, 64, 31, 192, 0, 0] := Kd.C_take HC6.out (show 7 ≤ awB.length by decide)
  have cc := Same_any A (some ⟨w6.heap.size, 0, none⟩) 7 7 c 7 [250, 208, 64, 31, 192, 0, 0] [250, 208, 64, 31, 192, 0, 0] _ (Kd.C_alloc hC7 _) (lit_C8 w6 [250, 208, 64, 31, 192, 0, 0] (by decide)) (by decide) (by decide)
  rw [decide_eq_true rfl] at cc
  refine cc.mono ?_
  clear cc hC7
  rintro e w7 ⟨rfl, hd⟩
  have hb := (below_alloc (Below.refl w6.heap.size w6) (.cells (nums .u8 [250, 208, 64, 31, 192, 0, 0]).toArray 5)).trans (hd.below.mono (by simp))
  have hk7 := blk_fr HK6.out (Fr.below hb (fun _ => False)) (fun h => h)
  have hq7 := blk_fr HQ6.out (Fr.below hb (fun _ => False)) (fun h => h)
  have HB7 := Aside0.mk (HB6.out.trans (hb.mono HB6.out.size))
  have HC7 := Aside0.mk (Kd.C_below HC6.out hb)
  have cp0 : w7.cell? ⟨p, 0, none⟩ = some (.int .i64 1) := by rw [cell_of_row w7 p 0 _ _ (0, 0) hk7]; rfl
  have cp1 : w7.cell? ⟨p, 1, none⟩ = some (.bool false) := by rw [cell_of_row w7 p 1 _ _ (0, 0) hk7]; rfl
  have cp2 : w7.cell? ⟨p, 2, none⟩ = some (.int .i64 8000) := by rw [cell_of_row w7 p 2 _ _ (0, 0) hk7]; rfl
  have cp3 : w7.cell? ⟨p, 3, none⟩ = some (.int .i64 1) := by rw [cell_of_row w7 p 3 _ _ (0, 0) hk7]; rfl
  have cp4 : w7.cell? ⟨p, 4, none⟩ = some (.int .i64 0) := by rw [cell_of_row w7 p 4 _ _ (0, 0) hk7]; rfl
  have cp5 : w7.cell? ⟨p, 5, none⟩ = some (.int .i64 128) := by rw [cell_of_row w7 p 5 _ _ (0, 0) hk7]; rfl
  have cp6 : w7.cell? ⟨p, 6, none⟩ = some (.int .i64 0) := by rw [cell_of_row w7 p 6 _ _ (0, 0) hk7]; rfl
  have cq0 : w7.cell? ⟨q, 0, none⟩ = some (.int .i64 1) := by rw [cell_of_row w7 q 0 _ _ (0, 0) hq7]; rfl
  have cq1 : w7.cell? ⟨q, 1, none⟩ = some (.bool false) := by rw [cell_of_row w7 q 1 _ _ (0, 0) hq7]; rfl
  have cq2 : w7.cell? ⟨q, 2, none⟩ = some (.int .i64 8000) := by rw [cell_of_row w7 q 2 _ _ (0, 0) hq7]; rfl
  have cq3 : w7.cell? ⟨q, 3, none⟩ = some (.int .i64 1) := by rw [cell_of_row w7 q 3 _ _ (0, 0) hq7]; rfl
  have cq4 : w7.cell? ⟨q, 4, none⟩ = some (.int .i64 0) := by rw [cell_of_row w7 q 4 _ _ (0, 0) hq7]; rfl
  have cq5 : w7.cell? ⟨q, 5, none⟩ = some (.int .i64 128) := by rw [cell_of_row w7 q 5 _ _ (0, 0) hq7]; rfl
  have cq6 : w7.cell? ⟨q, 6, none⟩ = some (.int .i64 0) := by rw [cell_of_row w7 q 6 _ _ (0, 0) hq7]; rfl
  have HK7 := Aside0.mk hk7
  have HQ7 := Aside0.mk hq7
  clear hd hb hk7 hq7 hcp HB6 HC6 HQ6 HK6 hsl
  go_wp2_with fail
  clear cp0 cp1 cp2 cp3 cp4 cp5 cp6 cq0 cq1 cq2 cq3 cq4 cq5 cq6
  have cc := All_any A c awB w7 HC7.out awB8 (by decide) HCC.out (HG1.out.below HB7.out)
  rw [aw4] at cc
  refine cc.mono ?_
  clear cc
  rintro e w8 ⟨v8, rfl, hr, hb⟩
  obtain ⟨A8, c8, hv, hc8, hC8⟩ := hr.reads (by decide)
  subst hv
  have HC8 := Aside0.mk hC8
  have HK8 := Aside0.mk (blk_fr HK7.out (Fr.below hb (fun _ => False)) (fun h => h))
  have HB8 := Aside0.mk (HB7.out.trans (hb.mono HB7.out.size))
  have HD8 := Aside0.mk (Kd.C_below HC7.out hb)
  clear hr hb hC8 hc8 HB7 HC7 HK7 HQ7
  go_wp2_with fail
  have cc := Ints_any A8 (some ⟨w8.heap.size, 0, none⟩) 1 1 c8 1 [0] [0] _ (Kd.C_alloc HC8.out _) (lit_C64 w8 [0] (by decide)) (by decide) (by decide)
  rw [decide_eq_true rfl] at cc
  refine cc.mono ?_
  clear cc
  rintro e w9 ⟨rfl, hd⟩
  have hb := (below_alloc (Below.refl w8.heap.size w8) (.cells (nums .i64 [0]).toArray 3)).trans (hd.below.mono (by simp))
  have HK9 := Aside0.mk (blk_fr HK8.out (Fr.below hb (fun _ => False)) (fun h => h))
  have HB9 := Aside0.mk (HB8.out.trans (hb.mono HB8.out.size))
  have HC9 := Aside0.mk (Kd.C_below HD8.out hb)
  clear hd hb HC8 HK8 HB8 HD8
  go_wp2_with fail
  have cc := Lost_any A c awB w9 HC9.out awB8 (by decide) HCC.out (HG1.out.below HB9.out)
  rw [aw5] at cc
  refine cc.mono ?_
  clear cc
  rintro e w10 ⟨v10, rfl, hr, hb⟩
  obtain ⟨A10, c10, hv⟩ := hr.slice
  subst hv
  have hk10 := blk_fr HK9.out (Fr.below hb (fun _ => False)) (fun h => h)
  have HB10 := Aside0.mk (HB9.out.trans (hb.mono HB9.out.size))
  have c0 : w10.cell? ⟨p, 0, none⟩ = some (.int .i64 1) := by rw [cell_of_row w10 p 0 _ _ (0, 0) hk10]; rfl
  have c1 : w10.cell? ⟨p, 1, none⟩ = some (.bool false) := by rw [cell_of_row w10 p 1 _ _ (0, 0) hk10]; rfl
  have c2 : w10.cell? ⟨p, 2, none⟩ = some (.int .i64 8000) := by rw [cell_of_row w10 p 2 _ _ (0, 0) hk10]; rfl
  have c3 : w10.cell? ⟨p, 3, none⟩ = some (.int .i64 1) := by rw [cell_of_row w10 p 3 _ _ (0, 0) hk10]; rfl
  have c4 : w10.cell? ⟨p, 4, none⟩ = some (.int .i64 0) := by rw [cell_of_row w10 p 4 _ _ (0, 0) hk10]; rfl
  have c5 : w10.cell? ⟨p, 5, none⟩ = some (.int .i64 128) := by rw [cell_of_row w10 p 5 _ _ (0, 0) hk10]; rfl
  have c6 : w10.cell? ⟨p, 6, none⟩ = some (.int .i64 0) := by rw [cell_of_row w10 p 6 _ _ (0, 0) hk10]; rfl
  clear hr hb hk10 HK9 HB9 HC9
  go_wp2_with fail
  have cc := Check_any awH w10 (HG1.out.below HB10.out)
  rw [aw6, if_pos rfl] at cc
  refine cc.mono ?_
  clear cc
  rintro e w11 ⟨rfl, hb⟩
  have HB11 := Aside0.mk (HB10.out.trans (hb.mono HB10.out.size))
  clear hb
  go_wp2_with fail
  go_ret
  exact ⟨rfl, HB11.out⟩
end
section
open Go.ChangeShapes Go.WideShapes Go.ChangeAt Go.RowKit Go.Deep Go.Proofs.YtnaklnehichhpaaDoor.Bits
open Go.Proofs.YtnaklnehichhpaaDoorW.PrintWords
set_option linter.unusedVariables false
set_option linter.unusedSimpArgs false

theorem wf8 {x : Int} (h : (Lit.int .u8 x).wf = true) : 0 ≤ x ∧ x < 256 := by
  unfold Lit.wf at h
  rw [Bool.and_eq_true, decide_eq_true_eq, decide_eq_true_eq] at h
  have h1 : IntKind.u8.min = 0 := by decide
  have h2 : IntKind.u8.max = 255 := by decide
  omega
theorem wf64 {x : Int} (h : (Lit.int .i64 x).wf = true) : -9223372036854775808 ≤ x ∧ x ≤ 9223372036854775807 := by
  unfold Lit.wf at h
  rw [Bool.and_eq_true, decide_eq_true_eq, decide_eq_true_eq] at h
  have h1 : IntKind.i64.min = -9223372036854775808 := by decide
  have h2 : IntKind.i64.max = 9223372036854775807 := by decide
  omega
theorem weights_mem_all {H : Type} {P : Program} {e : TypeId} : ∀ {l : List (DataW H)} {i : Nat} {d : DataW H}, l[i]? = some d → ∀ n ∈ d.weights P e, n ∈ DataW.weightsAll P e l
  | [], i, d, h, n, hn => by simp at h
  | d0 :: r, 0, d, h, n, hn => by
    simp only [List.getElem?_cons_zero, Option.some.injEq] at h
    subst h
    simp only [DataW.weightsAll, List.mem_append]
    exact .inl hn
  | d0 :: r, i + 1, d, h, n, hn => by
    simp only [List.getElem?_cons_succ] at h
    simp only [DataW.weightsAll, List.mem_append]
    exact .inr (weights_mem_all h n hn)

section
variable {H : Type} {enc : TypeId × Value → H} {W : World} {base : Nat} {spare : Nat → Bool} {held : Bool}
/-- A slice of bytes inside an argument. -/
theorem open_bytes {n : Nat} {v : Value} {y : DataW H × List MemPlace} (h : DataW.trod enc Tryd.prog W base spare held n 24 [v] = some y) (hw : ∀ m ∈ y.1.weights Tryd.prog 24, m ≤ reachBytes) :
    ∃ (A : Option Addr) (c : Nat) (B : List Int), v = .slice A B.length c ∧ Kd.C (Kd.int .u8) W A B.length B ∧ is8 B ∧ B.length ≤ c ∧ B.length ≤ reachBytes ∧ ∀ ad, A = some ad → 0 < B.length → ad.block < W.heap.size := by
  have fin : ∀ (a0 : Option Addr) (len0 cap0 : Nat) (z0 : List Int), ((a0 = none ∧ len0 = 0 ∧ cap0 = 0 ∧ z0 = []) ∨ ∃ x, a0 = some x ∧ len0 ≤ cap0 ∧ cap0 ≤ maxLen ∧ z0.length = cap0 ∧ (∀ i, i < z0.length → W.cell? (x.add i) = some (.int .u8 (z0.getD i 0))) ∧ ∀ n ∈ z0, (Lit.int .u8 n).wf = true) → len0 ≤ reachBytes →
      ∃ (A : Option Addr) (c : Nat) (B : List Int), (.slice a0 len0 cap0 : Value) = .slice A B.length c ∧ Kd.C (Kd.int .u8) W A B.length B ∧ is8 B ∧ B.length ≤ c ∧ B.length ≤ reachBytes ∧ ∀ ad, A = some ad → 0 < B.length → ad.block < W.heap.size := by
    intro a0 len0 cap0 z0 w0 hr
    obtain ⟨l0, rfl, hr0, hm0, hw0, hc0⟩ := ReadsInt.ofRowC w0
    have hC : Kd.C (Kd.int .u8) W a0 l0.length l0 := Kd.C_of_reads (d := (0 : Int)) (h1 := fun _ => rfl) hr0
    refine ⟨a0, cap0, l0, rfl, hC, fun b hb => wf8 (hw0 b hb), hc0, hr, fun ad e hn => ?_⟩
    obtain ⟨ad', e', hx⟩ := at8 hC 0 hn
    rw [e] at e'
    cases e'
    have := World.block_lt_of_cell? W _ hx
    rwa [add_block] at this
  rcases open_ints Tryd.underlying24 Tryd.underlying5 (by kernel_rfl) h with ⟨hcs, _⟩ | ⟨x, l, c, zs, hcs, _, hl, hm, hz, hx, hcell, hwz⟩
  · cases hcs
    exact fin none 0 0 [] (.inl ⟨rfl, rfl, rfl, rfl⟩) (Nat.zero_le _)
  · cases hcs
    have hlz : l ≤ zs.length := by
      rw [hz]
      split
      · exact hl
      · exact Nat.le_refl _
    have hlen : l ≤ reachBytes := by
      subst hx
      have h1 := hw (((lits (H := H) .u8 (zs.take l)).length + (lits (H := H) .u8 (zs.drop l)).length) * Tryd.prog.bytesOf 5) (by
        unfold DataW.weights
        rw [Tryd.underlying24]
        exact List.mem_cons_self)
      have h2 : Tryd.prog.bytesOf 5 = 1 := by kernel_rfl
      rw [h2, Nat.mul_one] at h1
      have h3 : (lits (H := H) .u8 (zs.take l)).length + (lits (H := H) .u8 (zs.drop l)).length = zs.length := by
        simp [lits]
        omega
      omega
    cases hsp : spare x.block with
    | true =>
      rw [hsp, if_pos rfl] at hz
      exact fin (some x) l c zs (.inr ⟨x, rfl, hl, hm, hz, hcell, hwz⟩) hlen
    | false =>
      rw [hsp, if_neg (by decide)] at hz
      obtain ⟨A, c', B, hv, r⟩ := fin (some x) l l zs (.inr ⟨x, rfl, Nat.le_refl _, Nat.le_trans hl hm, hz, hcell, hwz⟩) hlen
      injection hv with h1 h2 h3
      subst h1
      obtain ⟨r1, r2, r3, r4, r5⟩ := r
      exact ⟨_, c, B, by rw [h2], r1, r2, by omega, r4, r5⟩

set_option maxRecDepth 100000 in
/-- A header inside an argument. -/
theorem open_hd {n : Nat} {cs : List Value} {y : DataW H × List MemPlace} (h : DataW.trod enc Tryd.prog W base spare held n 23 cs = some y) :
    ∃ hd : HD, cs = [.int .i64 hd.num, .bool hd.lossy, .int .i64 hd.rate, .int .i64 hd.ch, .int .i64 hd.kind, .int .i64 hd.count, .int .i64 hd.back] := by
  obtain ⟨ys, n', rfl, hy, hlen, hyl, hf⟩ := DataW.trod_struct Tryd.underlying23 h
  have hcl : cs.length = 7 := hlen.trans (by kernel_rfl)
  match cs, hcl with
  | [c0, c1, c2, c3, c4, c5, c6], _ =>
    have hy7 : ys.length = 7 := hyl
    match ys, hy7 with
    | [y0, y1, y2, y3, y4, y5, y6], _ =>
      have e3 : Tryd.prog.cellsOf 3 = 1 := by kernel_rfl
      have e4 : Tryd.prog.cellsOf 4 = 1 := by kernel_rfl
      have f0 := hf 0 _ rfl
      have f1 := hf 1 _ rfl
      have f2 := hf 2 _ rfl
      have f3 := hf 3 _ rfl
      have f4 := hf 4 _ rfl
      have f5 := hf 5 _ rfl
      have f6 := hf 6 _ rfl
      simp only [e3, e4, List.drop_zero, List.drop_succ_cons, List.take_succ_cons, List.take_zero, List.getElem?_cons_zero, List.getElem?_cons_succ] at f0 f1 f2 f3 f4 f5 f6
      obtain ⟨x0, h0, _, _⟩ := DataW.trod_int Tryd.underlying3 f0
      obtain ⟨x2, h2, _, _⟩ := DataW.trod_int Tryd.underlying3 f2
      obtain ⟨x3, h3, _, _⟩ := DataW.trod_int Tryd.underlying3 f3
      obtain ⟨x4, h4, _, _⟩ := DataW.trod_int Tryd.underlying3 f4
      obtain ⟨x5, h5, _, _⟩ := DataW.trod_int Tryd.underlying3 f5
      obtain ⟨x6, h6, _, _⟩ := DataW.trod_int Tryd.underlying3 f6
      obtain ⟨x1, h1, _⟩ := DataW.trod_bool Tryd.underlying4 f1
      cases h0
      cases h1
      cases h2
      cases h3
      cases h4
      cases h5
      cases h6
      exact ⟨⟨x0, x1, x2, x3, x4, x5, x6⟩, rfl⟩
set_option maxRecDepth 100000 in
/-- Two slices of bytes inside an argument. -/
theorem open_two {n : Nat} {cs : List Value} {y : DataW H × List MemPlace} (h : DataW.trod enc Tryd.prog W base spare held n 43 cs = some y) (hw : ∀ m ∈ y.1.weights Tryd.prog 43, m ≤ reachBytes) :
    ∃ (A0 : Option Addr) (c0 : Nat) (B0 : List Int) (A1 : Option Addr) (c1 : Nat) (B1 : List Int), cs = [.slice A0 B0.length c0, .slice A1 B1.length c1] ∧ (Kd.C (Kd.int .u8) W A0 B0.length B0 ∧ is8 B0 ∧ B0.length ≤ c0 ∧ B0.length ≤ reachBytes) ∧ (Kd.C (Kd.int .u8) W A1 B1.length B1 ∧ is8 B1 ∧ B1.length ≤ c1 ∧ B1.length ≤ reachBytes) := by
  obtain ⟨xs, m, rfl, hy, hlen, hxl, hf⟩ := DataW.trod_array Tryd.underlying43 h
  have e1 : Tryd.prog.cellsOf 24 = 1 := by kernel_rfl
  have hcl : cs.length = 2 := hlen.trans (by kernel_rfl)
  match cs, hcl with
  | [c0, c1], _ =>
    match xs, hxl with
    | [x0, x1], _ =>
      have f0 := hf 0 (by decide)
      have f1 := hf 1 (by decide)
      simp only [e1, Nat.zero_mul, Nat.one_mul, List.drop_zero, List.drop_succ_cons, List.take_succ_cons, List.take_zero, List.getElem?_cons_zero, List.getElem?_cons_succ] at f0 f1
      obtain ⟨A0, k0, B0, hb0, hC0, h80, hk0, hr0, _⟩ := open_bytes f0 (fun q hq => hw q (by
        rw [hy]
        unfold DataW.weights
        rw [Tryd.underlying43]
        exact weights_mem_all (i := 0) (d := x0.1) rfl q hq))
      obtain ⟨A1, k1, B1, hb1, hC1, h81, hk1, hr1, _⟩ := open_bytes f1 (fun q hq => hw q (by
        rw [hy]
        unfold DataW.weights
        rw [Tryd.underlying43]
        exact weights_mem_all (i := 1) (d := x1.1) rfl q hq))
      subst hb0
      subst hb1
      exact ⟨A0, k0, B0, A1, k1, B1, rfl, ⟨hC0, h80, hk0, hr0⟩, hC1, h81, hk1, hr1⟩
end
theorem okWide_array {P : Program} {w : World} {r : Reach} {base : Nat} {t : TypeId} {v : Value} {n : Nat} {e : TypeId} (ht : P.underlying t = some (.array n e)) (h : Value.okWide P w r base t v) : ∃ cs, v = .agg cs ∧ cs.size = P.cellsOf t := by
  simp only [Value.okWide, ht] at h
  obtain ⟨cs, h1, h2, _⟩ := h
  exact ⟨cs, h1, h2⟩
set_option maxRecDepth 100000 in
/-- What the laid variable gives the walks. -/
theorem of_laid {W : World} (h : laidMetH Tryd.prog Rows.frameBackRow.laid W) : HG W := by
  rw [MakeChecks.laidMetH_plain _ _ _ (by kernel_rfl)] at h
  obtain ⟨ps, ⟨g, t, cs, fuel, p, q, hg, ht, hv, hd, _, _⟩, _, _⟩ := h
  obtain rfl := Option.some.inj ((show Tryd.prog.globalNamed "shawm/frame.rates" = some 0 by kernel_rfl).symm.trans hg)
  obtain rfl := Option.some.inj ((show (Tryd.prog.globals[0]?).map (·.type) = some 96 by kernel_rfl).symm.trans ht)
  obtain ⟨xs, m, _, ex, hcl, hl, hel⟩ := DataW.trod_array Tryd.underlying96 hd
  have c3 : Tryd.prog.cellsOf 3 = 1 := by kernel_rfl
  have c9 : Tryd.prog.cellsOf 96 = 9 := by kernel_rfl
  rw [c9] at hcl
  have e3 : (xs.map (·.1)) = [.lit (.int .i64 8000), .lit (.int .i64 11025), .lit (.int .i64 12000), .lit (.int .i64 16000), .lit (.int .i64 22050), .lit (.int .i64 24000), .lit (.int .i64 32000), .lit (.int .i64 44100), .lit (.int .i64 48000)] := (DataW.agg.inj (Prod.mk.inj ex).1).symm
  have hcs : cs = rateCells := by
    have key : ∀ r, r < 9 → cs.toList[r]? = (rateCells.toList)[r]? := by
      intro r hr
      have hE := hel r hr
      rw [c3, Nat.mul_one, List.getElem?_eq_getElem (by omega)] at hE
      obtain ⟨z, e1, e2, _⟩ := DataW.trod_int Tryd.underlying3 hE
      have e4 : (xs.map (·.1))[r]? = some (.lit (.int .i64 z)) := by rw [List.getElem?_map, List.getElem?_eq_getElem (by omega : r < xs.length)]; simp [e2]
      have : cs.toList[r]? = some (.int .i64 z) := by
        have h0 : ((cs.toList.drop r).take 1)[0]? = some (.int .i64 z) := by rw [e1]; rfl
        simpa using h0
      rw [this]
      rw [e3] at e4
      match r, hr with
      | 0, _ | 1, _ | 2, _ | 3, _ | 4, _ | 5, _ | 6, _ | 7, _ | 8, _ => simp at e4; simp [e4]
    have : cs.toList = rateCells.toList := by
      apply List.ext_getElem?
      intro r
      by_cases hr : r < 9
      · exact key r hr
      · rw [List.getElem?_eq_none (by omega), List.getElem?_eq_none (by simp; omega)]
    exact Array.toList_inj.1 this
  subst hcs
  simp only [World.var?, hg, Option.bind_some] at hv
  unfold HG
  cases hk : W.heap[0]? with
  | none => rw [hk] at hv; cases hv
  | some o =>
    rw [hk] at hv
    cases o with
    | cells c t fr => simp only [Option.some.injEq] at hv; subst hv; exact ⟨t, fr, rfl⟩
    | _ => cases hv
end
end Go.Proofs.YtnaklnehichhpaaDoor.P
