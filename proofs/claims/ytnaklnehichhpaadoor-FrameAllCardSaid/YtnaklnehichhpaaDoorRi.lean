/- The reference's find, Find, End, All: contracts. -/
import Derived.Test.YtnaklnehichhpaaDoorRg
import Derived.Test.YtnaklnehichhpaaDoorKn
namespace Go.Proofs.YtnaklnehichhpaaDoor.P
open Go.RowKit Go.Shelf Go.Proofs.YtnaklnehichhpaaDoor.Bits Go.Proofs.YtnaklnehichhpaaDoorW.PrintWords Go.Proofs.YtnaklnehichhpaaDoorW.PrintLast Go.Proofs.YtnaklnehichhpaaDoorW.PrintMore
set_option linter.unusedVariables false
set_option linter.unusedSimpArgs false
attribute [local go_sem ↓] Go.wp_at_zero Go.wp_at_succ

theorem ret_int {k : IntKind} {a b : Int} (h : a = b) : Ending.returned (.int k a) = .returned (.int k b) := by rw [h]
theorem fRead_len' (B : List Int) (a : Int) : (fRead B a).2.1.length ≤ B.length := by
  unfold fRead
  split
  · simp
  · unfold fReadB
    repeat' split
    all_goals first | (simp; done) | (simp only [List.length_take, List.length_drop]; omega)
def meas (n : Nat) (v : Value) : Nat := if intOf v < 0 then 0 else n - (intOf v).toNat + 1
theorem meas_neg (n : Nat) : meas n (.int .i64 (-1)) = 0 := by unfold meas; simp [intOf]
theorem meas_nat (n i : Nat) : meas n (.int .i64 (i : Int)) = n - i + 1 := by
  have e : intOf (.int .i64 (i : Int)) = (i : Int) := rfl
  unfold meas
  rw [e, if_neg (by omega), Int.toNat_natCast]
/-- The first frame's position as the reference's find gives it. -/
def nxt (B : List Int) (k : Nat) : Int := match nextF B k with | some i => (i : Int) | none => -1
set_option maxHeartbeats 4000000 in
set_option maxRecDepth 100000 in
theorem rfind_any (A : Option Addr) (c : Nat) (B : List Int) (n : Nat) (w : World) (hC : Kd.C (Kd.int .u8) w A B.length B) (h8 : is8 B) (hBl : B.length ≤ 100000000) (hc : B.length ≤ c) (hn : n ≤ 1000000000) :
    Calls Tryd.prog 40 #[.slice A B.length c, .int .i64 (n : Int)] w fun e w' => e = .returned (.int .i64 (nxt B n)) ∧ Below w.heap.size w w' := by
  have HC := Aside0.mk hC
  have H8 := Aside0.mk h8
  clear hC h8
  go_enter Tryd.func40, Tryd.ntmps40
  go_wp2_with fail
  go_loopw [5] (fun i wr => ∃ k : Nat, i = .int .i64 (k : Int) ∧ k ≤ 1000000000 ∧ Aside0 (nextF B n = nextF B k) ∧ Aside0 (Below w.heap.size w wr)) (fun i _ => 1000000000 - (intOf i).toNat)
  case atStart => exact ⟨n, rfl, hn, ⟨rfl⟩, ⟨Below.refl _ _⟩⟩
  case round =>
    obtain ⟨k, rfl, hk, HX, HB⟩ := hrel
    by_cases hlt : k < B.length
    · have d1 : decide ((k : Int) < (B.length : Int)) = true := by simp; omega
      have HST := Aside0.mk (nextF_step B k hlt)
      have HRR := Aside0.mk (RRead_any A c B (k : Int) wr (Kd.C_below HC.out HB.out) H8.out hBl hc)
      have HOK : Aside0 (okAt B k = decide ((fRead B (k : Int)).2.2 = 0)) := ⟨rfl⟩
      unfold ReadPost at HRR
      generalize fRead B (k : Int) = r at *
      obtain ⟨⟨num, lossy, rate, ch, kind, count, back⟩, body, er⟩ := r
      unfold HD.val at HRR
      dsimp only at HRR HOK
      by_cases her : er = 0
      · have q1 : (er == 0) = true := by simpa using her
        have HR : Aside0 (nxt B n = k) := ⟨by unfold nxt; rw [HX.out, HST.out, HOK.out, decide_eq_true her]; rfl⟩
        clear her
        go_wp2_with fail
        refine HRR.out.mono ?_
        rintro e w1 ⟨v1, S1, rfl, hr, hs, hb⟩
        obtain ⟨A1, c1, hv⟩ := Kd.R_slice hr
        subst hv
        have HB1 := Aside0.mk (HB.out.trans (hb.mono HB.out.size))
        clear hr hs hb
        go_wp2_with fail
        go_ret
        rw [HR.out]
        exact ⟨rfl, HB1.out.trans ((below_alloc (Below.refl _ _) _).mono HB1.out.size)⟩
      · have q1 : (er == 0) = false := by simpa using her
        have HX1 : Aside0 (nextF B n = nextF B (k + 1)) := ⟨by rw [HX.out, HST.out, HOK.out, decide_eq_false her]; rfl⟩
        clear her
        go_wp2_with fail
        refine HRR.out.mono ?_
        rintro e w1 ⟨v1, S1, rfl, hr, hs, hb⟩
        obtain ⟨A1, c1, hv⟩ := Kd.R_slice hr
        subst hv
        have HB1 := Aside0.mk (HB.out.trans (hb.mono HB.out.size))
        clear hr hs hb
        go_wp2_with fail
        go_roundw
        case rel => exact ⟨k + 1, by go_num, by omega, HX1, ⟨HB1.out.trans ((below_alloc (Below.refl _ _) _).mono HB1.out.size)⟩⟩
        case measure => simp [intOf]; omega
    · have d1 : decide ((k : Int) < (B.length : Int)) = false := by simp; omega
      have HR : Aside0 (nxt B n = -1) := ⟨by unfold nxt; rw [HX.out, nextF_end B k (by omega)]⟩
      go_wp2_with fail
      go_ret
      rw [HR.out]
      exact ⟨rfl, HB.out⟩
set_option maxHeartbeats 2000000 in
set_option maxRecDepth 100000 in
theorem RFind_any (A : Option Addr) (c : Nat) (B : List Int) (at_ : Int) (w : World) (hC : Kd.C (Kd.int .u8) w A B.length B) (h8 : is8 B) (hBl : B.length ≤ 100000000) (hc : B.length ≤ c) :
    Calls Tryd.prog 19 #[.slice A B.length c, .int .i64 at_] w fun e w' => e = .returned (.tuple #[.int .i64 (fFind B at_).1, .int .i64 (fFind B at_).2]) ∧ Below w.heap.size w w' := by
  have HC := Aside0.mk hC
  have H8 := Aside0.mk h8
  clear hC h8
  by_cases h1 : at_ < 0
  · have HN : Aside0 (fFind B at_ = (0, 6)) := ⟨by unfold fFind; rw [if_pos (.inl h1)]⟩
    have d1 : decide (at_ < 0) = true := by simpa using h1
    go_enter Tryd.func19, Tryd.ntmps19
    go_wp2_with fail
    go_ret2
    rw [HN.out]
    exact ⟨rfl, Below.refl _ _⟩
  by_cases h2 : (B.length : Int) < at_
  · have HN : Aside0 (fFind B at_ = (0, 6)) := ⟨by unfold fFind; rw [if_pos (.inr h2)]⟩
    have d1 : decide (at_ < 0) = false := by simpa using h1
    have d2 : decide ((B.length : Int) < at_) = true := by simpa using h2
    go_enter Tryd.func19, Tryd.ntmps19
    go_wp2_with fail
    go_ret2
    rw [HN.out]
    exact ⟨rfl, Below.refl _ _⟩
  obtain ⟨n, rfl⟩ : ∃ n : Nat, at_ = (n : Int) := ⟨at_.toNat, by omega⟩
  have hn : n ≤ B.length := by omega
  have d1 : decide ((n : Int) < 0) = false := by simp
  have d2 : decide ((B.length : Int) < (n : Int)) = false := by simp; omega
  have d3 : decide (B.length < n) = false := by simp; omega
  have HF : Aside0 (fFind B (n : Int) = match nextF B n with | some i => ((i : Int), 0) | none => (0, 5)) := ⟨by unfold fFind; rw [if_neg (by omega), Int.toNat_natCast]; cases nextF B n <;> rfl⟩
  have HRF := Aside0.mk (rfind_any A c B n w HC.out H8.out hBl hc (by omega))
  clear h1 h2
  unfold nxt at HRF
  cases hx : nextF B n with
  | some i =>
    rw [hx] at HF HRF
    dsimp only at HF HRF
    have q1 : decide ((i : Int) < 0) = false := by simp
    clear hx
    go_enter Tryd.func19, Tryd.ntmps19
    go_wp2_with fail
    refine HRF.out.mono ?_
    rintro e w1 ⟨rfl, hb⟩
    have HB1 := Aside0.mk hb
    clear hb
    go_wp2_with fail
    go_ret2
    rw [HF.out]
    exact ⟨rfl, HB1.out⟩
  | none =>
    rw [hx] at HF HRF
    dsimp only at HF HRF
    clear hx
    go_enter Tryd.func19, Tryd.ntmps19
    go_wp2_with fail
    refine HRF.out.mono ?_
    rintro e w1 ⟨rfl, hb⟩
    have HB1 := Aside0.mk hb
    clear hb
    go_wp2_with fail
    go_ret2
    rw [HF.out]
    exact ⟨rfl, HB1.out⟩
set_option maxHeartbeats 2000000 in
set_option maxRecDepth 100000 in
theorem REnd_any (A : Option Addr) (c : Nat) (B : List Int) (n : Nat) (w : World) (hC : Kd.C (Kd.int .u8) w A B.length B) (h8 : is8 B) (hBl : B.length ≤ 100000000) (hc : B.length ≤ c) (hn : n ≤ B.length) :
    Calls Tryd.prog 42 #[.slice A B.length c, .int .i64 (n : Int)] w fun e w' => e = .returned (.int .i64 (endF B n : Int)) ∧ Below w.heap.size w w' := by
  have HRR := Aside0.mk (RRead_any A c B (n : Int) w hC h8 hBl hc)
  have hbl := fRead_len' B (n : Int)
  have HEN : Aside0 (endF B n = n + 9 + (fRead B (n : Int)).2.1.length) := ⟨rfl⟩
  unfold ReadPost at HRR
  generalize fRead B (n : Int) = r at *
  obtain ⟨⟨num, lossy, rate, ch, kind, count, back⟩, body, er⟩ := r
  unfold HD.val at HRR
  dsimp only at HRR HEN hbl
  clear hC h8
  go_enter Tryd.func42, Tryd.ntmps42
  go_wp2_with fail
  refine HRR.out.mono ?_
  rintro e w1 ⟨v1, S1, rfl, hr, hs, hb⟩
  obtain ⟨A1, c1, hv⟩ := Kd.R_slice hr
  subst hv
  have HB1 := Aside0.mk hb
  clear hr hs hb
  go_wp2_with fail
  go_ret
  rw [HEN.out]
  exact ⟨ret_int (by omega), HB1.out.trans ((below_alloc (Below.refl _ _) _).mono HB1.out.size)⟩

set_option maxHeartbeats 4000000 in
set_option maxRecDepth 100000 in
theorem RAll_any (A : Option Addr) (c : Nat) (B : List Int) (w : World) (hC : Kd.C (Kd.int .u8) w A B.length B) (h8 : is8 B) (hBl : B.length ≤ 100000000) (hc : B.length ≤ c) :
    Calls Tryd.prog 22 #[.slice A B.length c] w fun e w' => ∃ v, e = .returned v ∧ RowV w' w.heap.size 3 1 v (placesF B).length (flatI (placesF B)) ∧ Below w.heap.size w w' := by
  have HC := Aside0.mk hC
  have H8 := Aside0.mk h8
  have HRF := Aside0.mk (fun W hW (k : Nat) hk => rfind_any A c B k W hW h8 hBl hc hk)
  have HRE := Aside0.mk (fun W hW (k : Nat) hk => REnd_any A c B k W hW h8 hBl hc hk)
  have HLEN := Aside0.mk (allF_len B)
  clear hC h8
  go_enter Tryd.func22, Tryd.ntmps22
  go_wp2_with fail
  refine (HRF.out w HC.out 0 (by omega)).mono ?_
  rintro e w1 ⟨rfl, hb⟩
  have HB1 := Aside0.mk hb
  clear hb
  go_wp2_with fail
  go_loopw [3, 4] (fun v i wr => ∃ (f k : Nat) (done : List (Nat × Nat)) (A1 : Option Addr) (m c1 : Nat), i = .int .i64 (nxt B k) ∧ v = .slice A1 m c1 ∧ Aside0 (m = done.length) ∧ k ≤ B.length ∧ B.length < k + f + 1 ∧ Aside0 (allF B = done ++ allN B (f + 1) k) ∧ Aside0 (RowV wr w.heap.size 3 1 v (done.map fun x => ((x.1 : Nat) : Int)).length (flatI (done.map fun x => ((x.1 : Nat) : Int)))) ∧ Aside0 (Below w.heap.size w wr)) (fun _ i _ => meas B.length i)
  case atStart => exact ⟨B.length, 0, [], none, 0, 0, rfl, rfl, ⟨rfl⟩, by omega, by omega, ⟨rfl⟩, ⟨World.ownsRow_nil _ _ _ _⟩, HB1⟩
  case round =>
    obtain ⟨f, k, done, A1, m, c1, rfl, rfl, HM, hk, hf, HAL, HR, HB⟩ := hrel
    have hnx : nxt B k = match nextF B k with | some i => (i : Int) | none => -1 := rfl
    have hal : allN B (f + 1) k = match nextF B k with | none => [] | some i => (i, endF B i) :: allN B f (endF B i) := rfl
    cases hx : nextF B k with
    | none =>
      rw [hx] at hnx hal
      dsimp only at hnx hal
      have HAL2 : Aside0 (allF B = done) := ⟨by rw [HAL.out, hal, List.append_nil]⟩
      rw [hnx]
      clear hx hal hnx HAL
      go_wp2_with fail
      go_ret
      refine ⟨_, rfl, ?_, HB.out⟩
      unfold placesF
      rw [HAL2.out]
      exact HR.out
    | some i =>
      rw [hx] at hnx hal
      dsimp only at hnx hal
      obtain ⟨hki, hil, hok, _⟩ := nextF_some hx
      have hend := (ok_len B i (by omega) hok).1
      have hgt := endF_gt B i
      obtain ⟨g, rfl⟩ : ∃ g, f = g + 1 := ⟨f - 1, by omega⟩
      have HAL2 : Aside0 (allF B = (done ++ [(i, endF B i)]) ++ allN B (g + 1) (endF B i)) := ⟨by rw [HAL.out, hal, List.append_assoc]; rfl⟩
      rw [hnx]
      have d1 : decide ((0 : Int) ≤ (i : Int)) = true := by simp
      have hdl : done.length ≤ B.length := by have := HLEN.out; rw [HAL.out, List.length_append] at this; omega
      obtain ⟨v1, w2, hrun, hr2, hg2⟩ := rowI_append (wr.alloc (.cells #[.int .i64 (i : Int)] 3 (0, 0))) w.heap.size (.slice A1 m c1) (done.map fun x => ((x.1 : Nat) : Int)) (i : Int) wr.heap.size (HR.out.below (below_alloc (Below.refl _ _) _)) (World.alloc_heap_new wr _) (by simp; omega) (by have := HB.out.size; simp; omega)
      have hlen1 : (done.map (fun x : Nat × Nat => ((x.1 : Nat) : Int)) ++ [(i : Int)]).length = done.length + 1 := by simp
      rw [hlen1] at hr2
      obtain ⟨A2, c2, rfl⟩ := hr2.slice
      have hb2 : Below w.heap.size w w2 := (HB.out.alloc HB.out.size (.cells #[.int .i64 (i : Int)] 3 (0, 0))).grown hg2 (by have := HB.out.size; simp; omega) (fun k hk => (HR.out.block k hk).2)
      have hmap : (done ++ [(i, endF B i)]).map (fun x : Nat × Nat => ((x.1 : Nat) : Int)) = done.map (fun x : Nat × Nat => ((x.1 : Nat) : Int)) ++ [(i : Int)] := by simp
      have HR2 : Aside0 (RowV w2 w.heap.size 3 1 (.slice A2 (done.length + 1) c2) ((done ++ [(i, endF B i)]).map fun x => ((x.1 : Nat) : Int)).length (flatI ((done ++ [(i, endF B i)]).map fun x => ((x.1 : Nat) : Int)))) := ⟨by rw [hmap, hlen1]; exact hr2⟩
      have HRUN := Aside0.mk hrun
      have HB2 := Aside0.mk hb2
      clear hx hal hnx hok hrun hr2 hg2 hlen1 hb2 hmap HAL HR
      go_wp2_with (at_builtin; refine wpList_run_append rfl _ _ _ rfl _ _ rfl rfl HRUN.out ?_)
      refine (HRE.out w2 (Kd.C_below HC.out HB2.out) i (by omega)).mono ?_
      rintro e w3 ⟨rfl, hb⟩
      have HB3 := Aside0.mk (HB2.out.trans (hb.mono HB2.out.size))
      have HR3 := Aside0.mk (HR2.out.below hb)
      clear hb
      go_wp2_with fail
      refine (HRF.out w3 (Kd.C_below HC.out HB3.out) (endF B i) (by omega)).mono ?_
      rintro e w4 ⟨rfl, hb⟩
      have HB4 := Aside0.mk (HB3.out.trans (hb.mono HB3.out.size))
      have HR4 := Aside0.mk (HR3.out.below hb)
      clear hb
      have hms : meas B.length (.int .i64 (nxt B (endF B i))) < meas B.length (.int .i64 (i : Int)) := by
        unfold nxt
        cases hy : nextF B (endF B i) with
        | none => rw [meas_neg, meas_nat]; omega
        | some j =>
          obtain ⟨h1, h2, _⟩ := nextF_some hy
          dsimp only
          rw [meas_nat, meas_nat]
          omega
      have HMS := Aside0.mk hms
      clear hms
      go_wp2_with fail
      go_roundw
      case rel => exact ⟨g, endF B i, done ++ [(i, endF B i)], A2, done.length + 1, c2, rfl, rfl, ⟨by simp⟩, hend, by omega, HAL2, HR4, HB4⟩
      case measure => exact HMS.out
end Go.Proofs.YtnaklnehichhpaaDoor.P
