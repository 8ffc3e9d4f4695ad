/- The contract of tag.Write. -/
import Derived.Lib.SlBytesConst
import Derived.ArgAppend
import Derived.Test.YthlmnnjbpikijaaDoorZTr20
import Derived.Test.YthlmnnjbpikijaaDoorZTr10
namespace Go.Proofs.YthlmnnjbpikijaaDoor.P
open Go.RowKit Go.Shelf Go.Proofs.YthlmnnjbpikijaaDoor.Bits Go.Proofs.YthlmnnjbpikijaaDoorW.PrintWords Go.Proofs.YthlmnnjbpikijaaDoorW.PrintLast Go.Proofs.YthlmnnjbpikijaaDoorW.PrintMore
set_option linter.unusedVariables false
set_option linter.unusedSimpArgs false
attribute [local go_sem ↓] Go.wp_at_zero Go.wp_at_succ
/-- A byte that says whether there are zeros put between. -/
def flagB (t : TG) : Int := if (tagB t).length < (stf (tagB t)).length then 1 else 0
/-- The four bytes of a length. -/
def four (n : Int) : List Int := [n / 2097152 % 128, n / 16384 % 128, n / 128 % 128, n % 128]
/-- A tag, written. -/
def wTag (t : TG) : List Int := [83, 72, 84, 1, flagB t] ++ (four (stf (tagB t)).length ++ stf (tagB t))
def fWriteT (t : TG) : List Int × Int := if okT t = true then (wTag t, 0) else ([], 1)
theorem and127 (x : Nat) (h : x < 9223372036854775808) : Go.bits BinOp.and IntKind.i64 (x : Int) 127 = ((x % 128 : Nat) : Int) := by
  have := and_i64 x 127 h (by omega)
  rw [show ((127 : Nat) : Int) = 127 from rfl] at this
  rw [this, show (127 : Nat) = 2 ^ 7 - 1 from rfl, Nat.and_two_pow_sub_one_eq_mod]
theorem tagB_len {t : TG} (h : okT t = true) : (tagB t).length ≤ 40000 := by
  obtain ⟨hfs, h32, -, -⟩ := okT_fs h
  have h1 := flds_len t.fs (good_small hfs)
  have h2 := congrArg List.length (tag_bits t)
  rw [ofB_length] at h2
  unfold tagBits at h2
  simp only [List.length_append, numb_length] at h2
  omega
/-- Bytes of one's own, in memory made from w on. -/
abbrev OB (w W : World) (v : Value) (xs : List Int) : Prop := RB (fun k => w.heap.size ≤ k) W v xs ∧ Below w.heap.size w W
theorem OB.below {w W W' : World} {v : Value} {xs : List Int} (h : OB w W v xs) (hb : Below W.heap.size W W') : OB w W' v xs := ⟨R_fr h.1 (Fr.below hb (fun _ => False)) (fun _ _ _ h => h), h.2.trans (hb.mono h.2.size)⟩
theorem OB.app {w W : World} {v : Value} {xs : List Int} (h : OB w W v xs) (ys : List Int) (A : Option Addr) (m c : Nat) (hC : Kd.C (Kd.int .u8) W A m ys) (hl : xs.length + m ≤ 140737488355328) :
    ∃ v1 w1, (Builtin.append_ #[27, 27] 27 #[v, .slice A m c]).run Tryd.prog W = .ok v1 w1 ∧ OB w w1 v1 (xs ++ ys) := by
  obtain ⟨v1, w1, hrun, hr, hg⟩ := append_run (S := fun k => w.heap.size ≤ k) W v xs ys A m c h.1 hC hl
  refine ⟨v1, w1, hrun, Kd.R_mono hr (fun k hk => ?_), h.2.grown hg h.2.size (fun k hk => h.1.1 k hk)⟩
  rcases hk with q | rfl
  · exact q
  · exact h.2.size
set_option maxHeartbeats 8000000 in
set_option maxRecDepth 100000 in
theorem TWrite_any (t : TG) (A : Option Addr) (c : Nat) (w : World) (h : FD w A c t.fs) :
    Calls Tryd.prog 13 #[tagV t.skip t.cut A t.fs.length c] w fun e w' => ∃ v S, e = .returned (.tuple #[v, .int .i64 (fWriteT t).2]) ∧ RB S w' v (fWriteT t).1 ∧ (∀ k, S k → w.heap.size ≤ k) ∧ Below w.heap.size w w' := by
  obtain ⟨w1, hw1⟩ : ∃ w1, w1 = w.alloc (tagObj t.skip t.cut A t.fs.length c) := ⟨_, rfl⟩
  have hb1 : Below w.heap.size w w1 := by rw [hw1]; exact below_alloc (Below.refl _ _) _
  have hx1 : w1.heap[w.heap.size]? = some (tagObj t.skip t.cut A t.fs.length c) := by rw [hw1]; exact World.alloc_heap_new w _
  have hck := Check_any t A c w1 (h.below hb1)
  have hcn := fun W hW hok => content_any t A c W (h.below hW) hok
  have hfw : fWriteT t = if okT t = true then (wTag t, 0) else ([], 1) := rfl
  have hwt : wTag t = [83, 72, 84, 1, flagB t] ++ (four (stf (tagB t)).length ++ stf (tagB t)) := rfl
  have hlen := fun hok => tagB_len (t := t) hok
  have h8 := tagB_8 t
  have hfl : flagB t = if (tagB t).length < (stf (tagB t)).length then 1 else 0 := rfl
  generalize okT t = ok at *
  generalize tagB t = B at *
  generalize flagB t = fl at *
  generalize wTag t = WT at *
  generalize fWriteT t = r at *
  obtain ⟨s, u, l⟩ := t
  dsimp only at *
  have HB1 := Aside0.mk hb1
  have HX1 := Aside0.mk hx1
  have HW1 := Aside0.mk hw1
  have HCN := Aside0.mk hcn
  have z0 : w1.cell? ⟨w.heap.size, 0, none⟩ = some (.int .i64 s) := by rw [cell_of_row _ _ _ _ _ _ hx1]; rfl
  have z1 : w1.cell? ⟨w.heap.size, 1, none⟩ = some (.int .i64 u) := by rw [cell_of_row _ _ _ _ _ _ hx1]; rfl
  have z2 : w1.cell? ⟨w.heap.size, 2, none⟩ = some (.slice A l.length c) := by rw [cell_of_row _ _ _ _ _ _ hx1]; rfl
  clear hb1 hx1 hw1 hcn h
  cases ok with
  | false =>
    rw [if_neg (by simp)] at hfw hck
    have HCK := Aside0.mk hck
    subst hfw
    clear hck
    go_enter Tryd.func13, Tryd.ntmps13
    go_wp2_with fail
    rw [← HW1.out]
    refine HCK.out.mono ?_
    rintro e w2 ⟨rfl, hb2⟩
    have HB2 := Aside0.mk (HB1.out.trans (hb2.mono HB1.out.size))
    clear hb2 HCK z0 z1 z2
    go_wp2_with fail
    go_ret2
    exact ⟨.slice none 0 0, fun _ => False, rfl, Kd.R_nil _ _ _ _ _, fun _ h => h.elim, HB2.out⟩
  | true =>
    rw [if_pos rfl] at hfw hck
    have HCK := Aside0.mk hck
    have hlB := hlen rfl
    have hsl := stf_len B
    have h8s := stf_8 h8
    have HWT := Aside0.mk hwt
    have HFL := Aside0.mk hfl
    have HL := Aside0.mk hlB
    have HSL := Aside0.mk hsl
    have H8 := Aside0.mk h8
    have H8S := Aside0.mk h8s
    subst hfw
    dsimp only
    clear hck hlen hlB hsl h8 h8s hwt hfl
    go_enter Tryd.func13, Tryd.ntmps13
    go_wp2_with fail
    rw [← HW1.out]
    refine HCK.out.mono ?_
    rintro e w2 ⟨rfl, hb2⟩
    have HB2 := Aside0.mk (HB1.out.trans (hb2.mono HB1.out.size))
    have hx2 := blk_fr HX1.out (Fr.below hb2 (fun _ => False)) (fun h => h)
    have y0 : w2.cell? ⟨w.heap.size, 0, none⟩ = some (.int .i64 s) := by rw [cell_of_row _ _ _ _ _ _ hx2]; rfl
    have y1 : w2.cell? ⟨w.heap.size, 1, none⟩ = some (.int .i64 u) := by rw [cell_of_row _ _ _ _ _ _ hx2]; rfl
    have y2 : w2.cell? ⟨w.heap.size, 2, none⟩ = some (.slice A l.length c) := by rw [cell_of_row _ _ _ _ _ _ hx2]; rfl
    clear hb2 HCK z0 z1 z2 hx2
    go_wp2_with fail
    refine (HCN.out w2 HB2.out (by first | rfl | trivial)).mono ?_
    rintro e w3 ⟨v3, S3, rfl, hr3, hs3, hb3⟩
    obtain ⟨A3, c3, rfl, hc3, hC3⟩ := Kd.R_reads hr3
    have hst := Stuff_row A3 c3 B w3 hC3 H8.out (by have := HL.out; omega)
    have HST := Aside0.mk hst
    have HB3 := Aside0.mk (HB2.out.trans (hb3.mono HB2.out.size))
    clear hr3 hs3 hb3 hc3 hC3 hst y0 y1 y2 HCN
    go_wp2_with fail
    refine HST.out.mono ?_
    rintro e w4 ⟨v4, rfl, hr4, hb4⟩
    have hR4 : RB (fun _ => True) w4 v4 (stf B) := Kd.R_of_own (enc := fun x => Value.int .u8 x) (hr4.less (Nat.zero_le _)) (fun _ _ => trivial)
    obtain ⟨A4, c4, rfl, hc4, hC4⟩ := Kd.R_reads hR4
    have HB4 := Aside0.mk (HB3.out.trans (hb4.mono HB3.out.size))
    have HC4 := Aside0.mk hC4
    clear hr4 hb4 hc4 hC4 hR4 HST
    generalize stf B = T at *
    have hcv := Lib.run_convert_bytes_const (P := Tryd.prog) w4 27 5 #[.int .u8 83, .int .u8 72, .int .u8 84] 3 3 Tryd.underlying27 (by kernel_rfl)
    simp only [List.size_toArray, List.length_cons, List.length_nil, Nat.reduceAdd] at hcv
    obtain ⟨wa, hwa⟩ : ∃ wa, wa = (w4.alloc (.cells #[.int .u8 83, .int .u8 72, .int .u8 84] 5 (3, 4))).alloc (.cells #[.int .u8 1, .int .u8 fl] 5 (0, 0)) := ⟨_, rfl⟩
    have hk1 : wa.heap[w4.heap.size]? = some (.cells #[.int .u8 83, .int .u8 72, .int .u8 84] 5 (3, 4)) := by rw [hwa]; exact blk_alloc' (World.alloc_heap_new w4 _) _
    have hk2 : wa.heap[w4.heap.size + 1]? = some (.cells #[.int .u8 1, .int .u8 fl] 5 (0, 0)) := by rw [hwa]; have := World.alloc_heap_new (w4.alloc (.cells #[.int .u8 83, .int .u8 72, .int .u8 84] 5 (3, 4))) (.cells #[.int .u8 1, .int .u8 fl] 5 (0, 0)); simpa using this
    have hba : Below w4.heap.size w4 wa := by rw [hwa]; exact below_alloc (below_alloc (Below.refl _ _) _) _
    obtain ⟨i0, hi, hzz⟩ := Option.map_eq_some_iff.1 binfo8
    simp only [Prod.mk.injEq] at hzz
    obtain ⟨hz0, hz1, hz2⟩ := hzz
    obtain ⟨v5, w5, hrun5, hr5, hg5⟩ := run_append_arg_grows (P := Tryd.prog) wa 27 27 5 i0 _ 1 1 Tryd.underlying27 hi hz0 hz1 hz2 rfl (by omega) ⟨w4.heap.size, 0, none⟩ 3 3 [.int .u8 83, .int .u8 72, .int .u8 84] rfl (fun j u hu => by
      rw [show (⟨w4.heap.size, 0, none⟩ : Addr).add j = ⟨w4.heap.size, j, none⟩ by simp [Addr.add_lit], cell_of_row _ _ _ _ _ _ hk1]
      simpa using hu) ⟨w4.heap.size + 1, 0, none⟩ 2 2 [.int .u8 1, .int .u8 fl] rfl (fun j u hu => by
      rw [show (⟨w4.heap.size + 1, 0, none⟩ : Addr).add j = ⟨w4.heap.size + 1, j, none⟩ by simp [Addr.add_lit], cell_of_row _ _ _ _ _ _ hk2]
      simpa using hu) (by omega) (by simp only [maxLen]; omega) (by omega)
    have hO5 : OB w4 w5 v5 ([83, 72, 84] ++ [1, fl]) := ⟨Kd.R_of_own (enc := fun x => Value.int .u8 x) (own_less hr5 (Nat.zero_le _)) (fun k hk => by
      have := (RowV.block hr5 k hk).2
      have := hba.size
      omega), hba.grown hg5 hba.size (fun k e => by cases e)⟩
    rw [hwa] at hrun5
    have HRUN5 := Aside0.mk hrun5
    have HO5 := Aside0.mk hO5
    clear hwa hk1 hk2 hba hi hz0 hz1 hz2 hrun5 hr5 hg5 hO5
    have hfl2 : (B.length < T.length ∧ fl = 1) ∨ (¬ B.length < T.length ∧ fl = 0) := by
      have := HFL.out
      split at this
      · exact .inl ⟨by assumption, this⟩
      · exact .inr ⟨by assumption, this⟩
    have hd : decide ((B.length : Int) < (T.length : Int)) = decide (fl = 1) := by
      rcases hfl2 with ⟨h, rfl⟩ | ⟨h, rfl⟩ <;> simp <;> omega
    have HLT : Aside0 (T.length ≤ 80000) := ⟨by have := HSL.out; have := HL.out; omega⟩
    rcases hfl2 with ⟨h, hf⟩ | ⟨h, hf⟩
    all_goals
      rw [hf] at hd
      simp only [Int.reduceEq, decide_true, decide_false] at hd
      have hr5 := HRUN5.out
      rw [hf] at hr5
      have HR5 := Aside0.mk hr5
      clear hr5
      have HF := Aside0.mk hf
      clear hf
      go_wp2_with (at_builtin; refine wpList_run_append rfl _ _ _ rfl _ _ rfl rfl HR5.out ?_)
      go_loopw [8, 9] (fun o u wr => ∃ k : Nat, u = .int .i64 (21 - 7 * (k : Int)) ∧ k ≤ 4 ∧ Aside0 (OB w4 wr o ([83, 72, 84] ++ [1, fl] ++ (four T.length).take k))) (fun o u _ => (intOf u + 7).toNat)
      case atStart => exact ⟨0, rfl, by omega, ⟨by simpa using HO5.out⟩⟩
      case round =>
        obtain ⟨k, rfl, hk, HO⟩ := hrel
        have h5 : k = 0 ∨ k = 1 ∨ k = 2 ∨ k = 3 ∨ k = 4 := by omega
        rcases h5 with rfl | rfl | rfl | rfl | rfl
        · rw [show (21 - 7 * ((0 : Nat) : Int)) = 21 from rfl]
          have hx : Go.bits BinOp.and IntKind.i64 ((T.length : Int) / 2097152) 127 % 256 = (T.length / 2097152 % 128 : Nat) := by
            have := and127 (T.length / 2097152) (by have := HLT.out; omega)
            rw [show ((T.length / 2097152 : Nat) : Int) = ((T.length : Int) / 2097152) from by omega] at this
            rw [this]
            omega
          have HX := Aside0.mk hx
          obtain ⟨v6, w6, hrun6, hO6⟩ := (HO.out.below (below_alloc (Below.refl _ _) (.cells #[.int .u8 (Go.bits BinOp.and IntKind.i64 ((T.length : Int) / 2097152) 127 % 256)] 5))).app [Go.bits BinOp.and IntKind.i64 ((T.length : Int) / 2097152) 127 % 256] (some ⟨wr.heap.size, 0, none⟩) 1 1 (lit_C8 wr [Go.bits BinOp.and IntKind.i64 ((T.length : Int) / 2097152) 127 % 256] (by simp)) (by simp [four])
          have HRUN6 := Aside0.mk hrun6
          have HO6 := Aside0.mk hO6
          clear hx hrun6 hO6
          go_wp2_with (at_builtin; refine wpList_run_append rfl _ _ _ rfl _ _ rfl rfl HRUN6.out ?_)
          go_roundw
          case rel => exact ⟨1, rfl, by omega, ⟨by
            have := HO6.out
            rw [HX.out] at this
            simpa [four] using this⟩⟩
          case measure => simp [intOf]
        · rw [show (21 - 7 * ((1 : Nat) : Int)) = 14 from rfl]
          have hx : Go.bits BinOp.and IntKind.i64 ((T.length : Int) / 16384) 127 % 256 = (T.length / 16384 % 128 : Nat) := by
            have := and127 (T.length / 16384) (by have := HLT.out; omega)
            rw [show ((T.length / 16384 : Nat) : Int) = ((T.length : Int) / 16384) from by omega] at this
            rw [this]
            omega
          have HX := Aside0.mk hx
          obtain ⟨v6, w6, hrun6, hO6⟩ := (HO.out.below (below_alloc (Below.refl _ _) (.cells #[.int .u8 (Go.bits BinOp.and IntKind.i64 ((T.length : Int) / 16384) 127 % 256)] 5))).app [Go.bits BinOp.and IntKind.i64 ((T.length : Int) / 16384) 127 % 256] (some ⟨wr.heap.size, 0, none⟩) 1 1 (lit_C8 wr [Go.bits BinOp.and IntKind.i64 ((T.length : Int) / 16384) 127 % 256] (by simp)) (by simp [four])
          have HRUN6 := Aside0.mk hrun6
          have HO6 := Aside0.mk hO6
          clear hx hrun6 hO6
          go_wp2_with (at_builtin; refine wpList_run_append rfl _ _ _ rfl _ _ rfl rfl HRUN6.out ?_)
          go_roundw
          case rel => exact ⟨2, rfl, by omega, ⟨by
            have := HO6.out
            rw [HX.out] at this
            simpa [four] using this⟩⟩
          case measure => simp [intOf]
        · rw [show (21 - 7 * ((2 : Nat) : Int)) = 7 from rfl]
          have hx : Go.bits BinOp.and IntKind.i64 ((T.length : Int) / 128) 127 % 256 = (T.length / 128 % 128 : Nat) := by
            have := and127 (T.length / 128) (by have := HLT.out; omega)
            rw [show ((T.length / 128 : Nat) : Int) = ((T.length : Int) / 128) from by omega] at this
            rw [this]
            omega
          have HX := Aside0.mk hx
          obtain ⟨v6, w6, hrun6, hO6⟩ := (HO.out.below (below_alloc (Below.refl _ _) (.cells #[.int .u8 (Go.bits BinOp.and IntKind.i64 ((T.length : Int) / 128) 127 % 256)] 5))).app [Go.bits BinOp.and IntKind.i64 ((T.length : Int) / 128) 127 % 256] (some ⟨wr.heap.size, 0, none⟩) 1 1 (lit_C8 wr [Go.bits BinOp.and IntKind.i64 ((T.length : Int) / 128) 127 % 256] (by simp)) (by simp [four])
          have HRUN6 := Aside0.mk hrun6
          have HO6 := Aside0.mk hO6
          clear hx hrun6 hO6
          go_wp2_with (at_builtin; refine wpList_run_append rfl _ _ _ rfl _ _ rfl rfl HRUN6.out ?_)
          go_roundw
          case rel => exact ⟨3, rfl, by omega, ⟨by
            have := HO6.out
            rw [HX.out] at this
            simpa [four] using this⟩⟩
          case measure => simp [intOf]
        · rw [show (21 - 7 * ((3 : Nat) : Int)) = 0 from rfl]
          have hx : Go.bits BinOp.and IntKind.i64 (T.length : Int) 127 % 256 = (T.length % 128 : Nat) := by
            have := and127 (T.length) (by have := HLT.out; omega)
            rw [show ((T.length : Nat) : Int) = (T.length : Int) from by omega] at this
            rw [this]
            omega
          have HX := Aside0.mk hx
          obtain ⟨v6, w6, hrun6, hO6⟩ := (HO.out.below (below_alloc (Below.refl _ _) (.cells #[.int .u8 (Go.bits BinOp.and IntKind.i64 (T.length : Int) 127 % 256)] 5))).app [Go.bits BinOp.and IntKind.i64 (T.length : Int) 127 % 256] (some ⟨wr.heap.size, 0, none⟩) 1 1 (lit_C8 wr [Go.bits BinOp.and IntKind.i64 (T.length : Int) 127 % 256] (by simp)) (by simp [four])
          have HRUN6 := Aside0.mk hrun6
          have HO6 := Aside0.mk hO6
          clear hx hrun6 hO6
          go_wp2_with (at_builtin; refine wpList_run_append rfl _ _ _ rfl _ _ rfl rfl HRUN6.out ?_)
          go_roundw
          case rel => exact ⟨4, rfl, by omega, ⟨by
            have := HO6.out
            rw [HX.out] at this
            simpa [four] using this⟩⟩
          case measure => simp [intOf]
        · rw [show (21 - 7 * ((4 : Nat) : Int)) = -7 from rfl]
          obtain ⟨v7, w7, hrun7, hO7⟩ := HO.out.app T A4 T.length c4 (Kd.C_below HC4.out HO.out.2) (by have := HLT.out; simp [four]; omega)
          have HRUN7 := Aside0.mk hrun7
          have HO7 := Aside0.mk hO7
          clear hrun7 hO7
          go_wp2_with (at_builtin; refine wpList_run_append rfl _ _ _ rfl _ _ rfl rfl HRUN7.out ?_)
          go_ret2
          refine ⟨v7, _, rfl, ?_, fun k hk => Nat.le_trans HB4.out.size hk, HB4.out.trans (HO7.out.2.mono HB4.out.size)⟩
          rw [HWT.out]
          have := HO7.out.1
          simpa [four] using this
end Go.Proofs.YthlmnnjbpikijaaDoor.P
