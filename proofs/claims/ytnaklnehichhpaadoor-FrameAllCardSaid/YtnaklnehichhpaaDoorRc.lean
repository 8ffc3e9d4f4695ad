/- The reference's Rates, rated, Right, Check: contracts. The reference's rows of bits: Put, Bytes. The reference's head and Write: contracts. -/
import Derived.Test.YtnaklnehichhpaaDoorKq
import Derived.Test.YtnaklnehichhpaaDoorKj
namespace Go.Proofs.YtnaklnehichhpaaDoor.P
section
open Go.RowKit Go.Shelf Go.Proofs.YtnaklnehichhpaaDoor.Bits Go.Proofs.YtnaklnehichhpaaDoorW.PrintWords Go.Proofs.YtnaklnehichhpaaDoorW.PrintLast Go.Proofs.YtnaklnehichhpaaDoorW.PrintMore
set_option linter.unusedVariables false
set_option linter.unusedSimpArgs false
attribute [local go_sem ↓] Go.wp_at_zero Go.wp_at_succ

set_option maxRecDepth 100000 in
theorem Rates_any (w : World) : Calls Tryd.prog 57 #[] w fun e w' => ∃ A, e = .returned (.slice A 9 9) ∧ Kd.C (Kd.int .i64) w' A 9 rates ∧ Below w.heap.size w w' := by
  have HL := Aside0.mk (lit_C64 w rates (by decide))
  go_enter Tryd.func57, Tryd.ntmps57
  go_wp2_with fail
  go_ret
  exact ⟨_, rfl, HL.out, below_alloc (Below.refl _ _) _⟩

set_option maxHeartbeats 1000000 in
set_option maxRecDepth 100000 in
theorem rated_any (r : Int) (w : World) : Calls Tryd.prog 49 #[.int .i64 r] w fun e w' => e = .returned (.int .i64 (rix r)) ∧ Below w.heap.size w w' := by
  go_enter Tryd.func49, Tryd.ntmps49
  go_wp2_with fail
  refine (Rates_any w).mono ?_
  rintro e w1 ⟨A, rfl, hC, hb⟩
  have HC := Aside0.mk hC
  have HB := Aside0.mk hb
  clear hC hb
  go_wp2_with fail
  go_loopw [7] (fun i wr => ∃ k : Nat, i = .int .i64 (k : Int) ∧ k ≤ 9 ∧ Aside0 (∀ j, j < k → rates.getD j 0 ≠ r) ∧ Aside0 (wr = w1)) (fun i _ => 9 - (intOf i).toNat)
  case atStart => exact ⟨0, rfl, by omega, ⟨fun j hj => by omega⟩, ⟨rfl⟩⟩
  case round =>
    obtain ⟨k, rfl, hk, HN, HW⟩ := hrel
    obtain rfl := HW.out
    by_cases hlt : k < 9
    · obtain ⟨ad, e, hx⟩ := at64 HC.out k hlt
      subst e
      obtain ⟨x, hX⟩ : ∃ x, x = rates.getD k 0 := ⟨_, rfl⟩
      rw [← hX] at hx
      have HX := Aside0.mk hX
      clear hX
      by_cases hxr : x = r
      · have q1 : (x == r) = true := by simp [hxr]
        have HR : Aside0 (rix r = k) := ⟨rix_find r k hlt (by rw [← HX.out]; exact hxr)⟩
        clear hxr
        go_wp2_with fail
        go_ret
        exact ⟨by rw [HR.out]; rfl, HB.out⟩
      · have q1 : (x == r) = false := by simp [hxr]
        have HXR := Aside0.mk hxr
        clear hxr
        go_wp2_with fail
        go_roundw
        case rel => exact ⟨k + 1, by go_num, by omega, ⟨fun j hj => by
          by_cases h : j = k
          · subst h; rw [← HX.out]; exact HXR.out
          · exact HN.out j (by omega)⟩, (by first | exact ⟨rfl⟩ | exact ⟨trivial⟩)⟩
        case measure => simp [intOf]; omega
    · obtain rfl : k = 9 := by omega
      have HR : Aside0 (rix r = -1) := ⟨rix_none r HN.out⟩
      go_wp2_with fail
      go_ret
      exact ⟨by rw [HR.out]; rfl, HB.out⟩

theorem okH_bools (h : HD) : okH h = (!decide (h.num < 0) && !decide (63 < h.num) && !decide (rix h.rate < 0) && !decide (h.ch < 1) && !decide (2 < h.ch) && !decide (h.kind < 0) && !decide (4 < h.kind) && !decide (h.count < 1) && !decide (128 < h.count) && !decide (h.back < 0) && !decide (511 < h.back) && (h.lossy || (h.kind == 0 && h.back == 0))) := by
  rw [Bool.eq_iff_iff]
  unfold okH
  simp only [Bool.and_eq_true, Bool.or_eq_true, decide_eq_true_eq, Bool.not_eq_true', decide_eq_false_iff_not, beq_iff_eq]
  constructor
  · rintro ⟨⟨⟨⟨⟨⟨a, b⟩, c⟩, d⟩, e⟩, f⟩, g⟩
    refine ⟨⟨⟨⟨⟨⟨⟨⟨⟨⟨⟨?_, ?_⟩, ?_⟩, ?_⟩, ?_⟩, ?_⟩, ?_⟩, ?_⟩, ?_⟩, ?_⟩, ?_⟩, g⟩ <;> omega
  · rintro ⟨⟨⟨⟨⟨⟨⟨⟨⟨⟨⟨a, b⟩, c⟩, d⟩, e⟩, f⟩, g⟩, h⟩, i⟩, j⟩, k⟩, l⟩
    exact ⟨⟨⟨⟨⟨⟨by omega, by omega⟩, by omega⟩, by omega⟩, by omega⟩, by omega⟩, l⟩

set_option maxHeartbeats 4000000 in
set_option maxRecDepth 100000 in
theorem Right_any (h : HD) (w : World) : Calls Tryd.prog 31 #[h.val] w fun e w' => e = .returned (.bool (okH h)) ∧ Below w.heap.size w w' := by
  have HR := Aside0.mk (okH_bools h)
  have hrt := fun W => rated_any h.rate W
  generalize okH h = R at *
  obtain ⟨num, lossy, rate, ch, kind, count, back⟩ := h
  unfold HD.val at *
  dsimp only at *
  generalize rix rate = rx at *
  generalize hb0 : decide (num < 0) = b0 at *
  generalize hb1 : decide (63 < num) = b1 at *
  generalize hb2 : decide (rx < 0) = b2 at *
  generalize hb3 : decide (ch < 1) = b3 at *
  generalize hb4 : decide (2 < ch) = b4 at *
  generalize hb5 : decide (kind < 0) = b5 at *
  generalize hb6 : decide (4 < kind) = b6 at *
  generalize hb7 : decide (count < 1) = b7 at *
  generalize hb8 : decide (128 < count) = b8 at *
  generalize hb9 : decide (back < 0) = b9 at *
  generalize hb10 : decide (511 < back) = b10 at *
  generalize hb11 : (kind == 0) = b11 at *
  generalize hb12 : (back == 0) = b12 at *
  have HRT := Aside0.mk hrt
  clear hrt
  go_enter Tryd.func31, Tryd.ntmps31
  cases b0 with
  | true =>
    go_wp2_with fail
    go_ret
    exact ⟨by rw [HR.out]; rfl, by (repeat (first | with_reducible exact Below.refl _ _ | (refine Aside0.out (p := Below _ _ _) ?_; assumption) | refine below_drew ?_ | refine below_alloc ?_ _ | (refine below_step ?_ (Aside0.out (p := Below _ _ _) (by assumption)))))⟩
  | false =>
    cases b1 with
    | true =>
      go_wp2_with fail
      go_ret
      exact ⟨by rw [HR.out]; rfl, by (repeat (first | with_reducible exact Below.refl _ _ | (refine Aside0.out (p := Below _ _ _) ?_; assumption) | refine below_drew ?_ | refine below_alloc ?_ _ | (refine below_step ?_ (Aside0.out (p := Below _ _ _) (by assumption)))))⟩
    | false =>
      go_wp2_with fail
      refine (HRT.out _).mono ?_
      rintro e w1 ⟨rfl, hb⟩
      have HB := Aside0.mk ((below_alloc (Below.refl w.heap.size w) (hdObj ⟨num, lossy, rate, ch, kind, count, back⟩)).trans (hb.mono (by simp)))
      have hk := blk_fr (World.alloc_heap_new w (hdObj ⟨num, lossy, rate, ch, kind, count, back⟩)) (Fr.below hb (fun _ => False)) (fun h => h)
      have c0 : w1.cell? ⟨w.heap.size, 0, none⟩ = some (.int .i64 num) := by rw [cell_of_row w1 _ _ _ _ _ hk]; rfl
      have c1 : w1.cell? ⟨w.heap.size, 1, none⟩ = some (.bool lossy) := by rw [cell_of_row w1 _ _ _ _ _ hk]; rfl
      have c2 : w1.cell? ⟨w.heap.size, 2, none⟩ = some (.int .i64 rate) := by rw [cell_of_row w1 _ _ _ _ _ hk]; rfl
      have c3 : w1.cell? ⟨w.heap.size, 3, none⟩ = some (.int .i64 ch) := by rw [cell_of_row w1 _ _ _ _ _ hk]; rfl
      have c4 : w1.cell? ⟨w.heap.size, 4, none⟩ = some (.int .i64 kind) := by rw [cell_of_row w1 _ _ _ _ _ hk]; rfl
      have c5 : w1.cell? ⟨w.heap.size, 5, none⟩ = some (.int .i64 count) := by rw [cell_of_row w1 _ _ _ _ _ hk]; rfl
      have c6 : w1.cell? ⟨w.heap.size, 6, none⟩ = some (.int .i64 back) := by rw [cell_of_row w1 _ _ _ _ _ hk]; rfl
      clear hb hk
      cases b2 with
      | true =>
        go_wp2_with fail
        go_ret
        exact ⟨by rw [HR.out]; rfl, HB.out⟩
      | false =>
        cases b3 with
        | true =>
          go_wp2_with fail
          go_ret
          exact ⟨by rw [HR.out]; rfl, HB.out⟩
        | false =>
          cases b4 with
          | true =>
            go_wp2_with fail
            go_ret
            exact ⟨by rw [HR.out]; rfl, HB.out⟩
          | false =>
            cases b5 with
            | true =>
              go_wp2_with fail
              go_ret
              exact ⟨by rw [HR.out]; rfl, HB.out⟩
            | false =>
              cases b6 with
              | true =>
                go_wp2_with fail
                go_ret
                exact ⟨by rw [HR.out]; rfl, HB.out⟩
              | false =>
                cases b7 with
                | true =>
                  go_wp2_with fail
                  go_ret
                  exact ⟨by rw [HR.out]; rfl, HB.out⟩
                | false =>
                  cases b8 with
                  | true =>
                    go_wp2_with fail
                    go_ret
                    exact ⟨by rw [HR.out]; rfl, HB.out⟩
                  | false =>
                    cases b9 with
                    | true =>
                      go_wp2_with fail
                      go_ret
                      exact ⟨by rw [HR.out]; rfl, HB.out⟩
                    | false =>
                      cases b10 with
                      | true =>
                        go_wp2_with fail
                        go_ret
                        exact ⟨by rw [HR.out]; rfl, HB.out⟩
                      | false =>
                        cases lossy with
                        | true =>
                          go_wp2_with fail
                          go_ret
                          exact ⟨by rw [HR.out]; rfl, HB.out⟩
                        | false =>
                          cases b11 with
                          | false =>
                            go_wp2_with fail
                            go_ret
                            exact ⟨by rw [HR.out]; rfl, HB.out⟩
                          | true =>
                            cases b12 with
                            | false =>
                              go_wp2_with fail
                              go_ret
                              exact ⟨by rw [HR.out]; rfl, HB.out⟩
                            | true =>
                              go_wp2_with fail
                              go_ret
                              exact ⟨by rw [HR.out]; rfl, HB.out⟩

set_option maxHeartbeats 1000000 in
set_option maxRecDepth 100000 in
theorem RCheck_any (h : HD) (w : World) : Calls Tryd.prog 14 #[h.val] w fun e w' => e = .returned (.int .i64 (if okH h then 0 else 1)) ∧ Below w.heap.size w w' := by
  have hrt := fun W => Right_any h W
  generalize okH h = R at *
  obtain ⟨num, lossy, rate, ch, kind, count, back⟩ := h
  unfold HD.val at *
  dsimp only at *
  have HRT := Aside0.mk hrt
  clear hrt
  go_enter Tryd.func14, Tryd.ntmps14
  go_wp2_with fail
  refine (HRT.out _).mono ?_
  rintro e w1 ⟨rfl, hb⟩
  have HB := Aside0.mk ((below_alloc (Below.refl w.heap.size w) (hdObj ⟨num, lossy, rate, ch, kind, count, back⟩)).trans (hb.mono (by simp)))
  clear hb HRT
  cases R with
  | true =>
    go_wp2_with fail
    go_ret
    exact ⟨rfl, HB.out⟩
  | false =>
    go_wp2_with fail
    go_ret
    exact ⟨rfl, HB.out⟩
end
section
open Go.RowKit Go.Shelf Go.Proofs.YtnaklnehichhpaaDoor.Bits Go.Proofs.YtnaklnehichhpaaDoorW.PrintWords Go.Proofs.YtnaklnehichhpaaDoorW.PrintLast Go.Proofs.YtnaklnehichhpaaDoorW.PrintMore
set_option linter.unusedVariables false
set_option linter.unusedSimpArgs false
attribute [local go_sem ↓] Go.wp_at_zero Go.wp_at_succ

theorem append_runR {S : Nat → Prop} (W : World) (v : Value) (xs ys : List Int) (A : Option Addr) (m c : Nat) (HO : RB S W v xs) (HR : Kd.C (Kd.int .u8) W A m ys) (hl : xs.length + m ≤ 140737488355328) :
    ∃ v1 w1, (Builtin.append_ #[92, 92] 92 #[v, .slice A m c]).run Tryd.prog W = .ok v1 w1 ∧ RB (fun k => S k ∨ k = W.heap.size) w1 v1 (xs ++ ys) ∧ W.grownBy w1 v.ownBlock := by
  obtain ⟨i0, hi, hzz⟩ := Option.map_eq_some_iff.1 binfo
  simp only [Prod.mk.injEq] at hzz
  obtain ⟨hz0, hz1, hz2⟩ := hzz
  have HO' := Kd.own_of_R HO
  have HR' := Kd.reads_of_C (enc := Value.int .u8) (d := (0 : Int)) (h1 := fun _ => rfl) HR
  have hm : ys.length = m := HR'.1
  have ht := Tryd.underlying92
  rcases A with _ | ad
  · have h0 : m = 0 := by
      rcases Nat.eq_zero_or_pos m with h0 | h0
      · exact h0
      · obtain ⟨ad, h, _⟩ := HR'.2.2 h0
        cases h
    subst h0
    obtain rfl : ys = [] := List.eq_nil_of_length_eq_zero hm
    refine ⟨v, W, ?_, by rw [List.append_nil]; exact Kd.R_mono HO (fun k hk => .inl hk), World.grownBy.refl W _⟩
    rcases HO'.2 with ⟨rfl, hn⟩ | ⟨g, cap, cur, rfl, _, _, hnc, _⟩
    · simp [Builtin.append_, run_underlying ht, sizeOf, typeInfo, hi, Builtin.lenOf, Builtin.firstCells]
    · simp [Builtin.append_, run_underlying ht, sizeOf, typeInfo, hi, Builtin.lenOf, Builtin.firstCells, hnc, storeCells]
  · have hcells : ∀ j u, (encs (Value.int .u8) ys)[j]? = some u → W.cell? (ad.add j) = some u := by
      intro j u hu
      have hj : j < ys.length := by
        rcases Nat.lt_or_ge j ys.length with h | h
        · exact h
        · simp [encs, List.getElem?_eq_none h] at hu
      obtain ⟨ad', h', hc⟩ := HR'.2.2 (by omega)
      obtain rfl := Option.some.inj h'
      rw [encs_get (d := (0 : Int)) ys j hj] at hu
      rw [← hu]
      exact hc j (by omega)
    obtain ⟨v1, w1, hr, h2, h3, _, h5⟩ := run_append_own_at (P := Tryd.prog) W 0 92 92 5 i0 _ 1 1 ht hi hz0 hz1 hz2 rfl (by omega) v xs.length (encs (Value.int .u8) xs) HO' ad m c (encs (Value.int .u8) ys) (by simp [encs, hm]) hcells
      (by intro u hu; simp only [encs, List.mem_map] at hu; obtain ⟨q, _, rfl⟩ := hu; rfl) (by simp only [maxLen]; omega) (by omega) (Nat.zero_le _)
    refine ⟨v1, w1, hr, Kd.R_of_own (by simpa [encs, hm] using h2) (fun k hk => ?_), h3⟩
    rcases h5 with e | e
    · exact .inl (HO.1 k (by rw [← e]; exact hk))
    · rw [e] at hk; cases hk; exact .inr rfl

set_option maxHeartbeats 2000000 in
set_option maxRecDepth 100000 in
theorem RPut_any (b : Nat) (v : Value) (L : List Int) (x : Int) (n : Nat) (w : World) (hR : RB (fun k => b ≤ k) w v L) (hb : b ≤ w.heap.size) (hn : n ≤ 64) (hx : 0 ≤ x ∧ x ≤ 9223372036854775807) (hl : L.length ≤ 1000000000) :
    Calls Tryd.prog 50 #[v, .int .i64 x, .int .i64 (n : Int)] w fun e w' => ∃ v', e = .returned v' ∧ RB (fun k => b ≤ k) w' v' (L ++ numb x n) ∧ Below b w w' := by
  obtain ⟨A0, c0, hv⟩ := Kd.R_slice hR
  subst hv
  have HR0 := Aside0.mk hR
  clear hR
  go_enter Tryd.func50, Tryd.ntmps50
  go_wp2_with fail
  go_loopw [0, 7] (fun u i wr => ∃ (j : Nat) (z : Int) (A : Option Addr) (m c : Nat), i = .int .i64 z ∧ u = .slice A m c ∧ z = (n : Int) - 1 - (j : Int) ∧ j ≤ n ∧ Aside0 (m = L.length + j) ∧ Aside0 (RB (fun k => b ≤ k) wr (.slice A m c) (L ++ (numb x n).take j)) ∧ Aside0 (Below b w wr)) (fun _ i _ => (intOf i + 1).toNat)
  case atStart => exact ⟨0, _, A0, L.length, c0, rfl, rfl, by omega, Nat.zero_le _, ⟨rfl⟩, ⟨by simpa using HR0.out⟩, ⟨Below.refl _ _⟩⟩
  case round =>
    obtain ⟨j, z, A, m, c, rfl, rfl, hz, hj, HM, HR, HB⟩ := hrel
    by_cases hlt : j < n
    · obtain ⟨i, hi⟩ : ∃ i : Nat, i = n - 1 - j := ⟨_, rfl⟩
      obtain rfl : z = (i : Int) := by omega
      have hT := numb_take x n j hlt
      rw [← hi] at hT
      have ha := and_shift x i hx.1 hx.2
      have HT := Aside0.mk hT
      have d1 : decide ((0 : Int) ≤ (i : Int)) = true := by simp
      obtain ⟨y, hy⟩ : ∃ y, y = x / 2 ^ i % 2 := ⟨_, rfl⟩
      rw [← hy] at ha hT
      have hy01 : y = 0 ∨ y = 1 := by omega
      have hyc : IntKind.u8.wrap y = y := IntWalk.u8_in _ (by omega)
      have hlm := HM.out
      obtain ⟨v1, w1, hrun, hr1, hg1⟩ := append_runR (wr.alloc (.cells (nums .u8 [y]).toArray 5)) (.slice A m c) (L ++ (numb x n).take j) [y] (some ⟨wr.heap.size, 0, none⟩) 1 1 (Kd.R_alloc HR.out _) (lit_C8 wr [y] (by simp)) (by simp [numb_length]; omega)
      obtain ⟨A1, c1, hv1⟩ := Kd.R_slice hr1
      subst hv1
      have hbw := HB.out.size
      have hr1' := Kd.R_mono hr1 (ok' := fun k => b ≤ k) (fun k hk => by
        rcases hk with q | q
        · exact q
        · rw [q]; simp; omega)
      have hlen1 : (L ++ (numb x n).take j ++ [y]).length = L.length + (j + 1) := by simp [numb_length]; omega
      rw [hlen1] at hrun hr1'
      rw [List.append_assoc, ← hT] at hr1'
      have hb1 : Below b w w1 := (HB.out.alloc (show b ≤ wr.heap.size by omega) (.cells (nums .u8 [y]).toArray 5)).grown hg1 (by simp; omega) (fun k hk => HR.out.1 k hk)
      have hw : wrap64 ((i : Int) - 1) = (i : Int) - 1 := wrap64_id (by omega) (by omega)
      have HZ : Aside0 (wrap64 ((i : Int) - 1) = (n : Int) - 1 - ((j + 1 : Nat) : Int)) := ⟨by rw [hw]; omega⟩
      have HRUN := Aside0.mk hrun
      have HR1 := Aside0.mk hr1'
      have HB1 := Aside0.mk hb1
      clear hT hrun hr1 hr1' hb1 hg1 hlen1 hbw hlm hz hi hy
      go_wp2_with (at_builtin; refine wpList_run_append rfl _ _ _ rfl _ _ rfl rfl HRUN.out ?_)
      go_roundw
      case rel => exact ⟨j + 1, _, A1, _, c1, rfl, rfl, HZ.out, by omega, ⟨rfl⟩, HR1, HB1⟩
      case measure => simp [intOf]; omega
    · have d1 : decide ((0 : Int) ≤ z) = false := by simp; omega
      obtain rfl : j = n := by omega
      go_wp2_with fail
      go_ret
      refine ⟨_, rfl, ?_, HB.out⟩
      have := HR.out
      rwa [List.take_of_length_le (by rw [numb_length]; omega)] at this

set_option maxHeartbeats 1000000 in
set_option maxRecDepth 100000 in
theorem RBytes_any (A : Option Addr) (n c : Nat) (L : List Int) (w : World) (hC : Kd.C (Kd.int .u8) w A n L) (h01 : is01 L) (hn : n ≤ 1000000000) :
    Calls Tryd.prog 51 #[.slice A n c] w fun e w' => ∃ v S', e = .returned v ∧ RB S' w' v (pk L) ∧ (∀ k, S' k → w.heap.size ≤ k) ∧ Below w.heap.size w w' := by
  obtain rfl := C_len8 hC
  have HC := Aside0.mk hC
  have H01 := Aside0.mk h01
  obtain ⟨nb, hnb⟩ : ∃ nb, nb = (L.length + 7) / 8 := ⟨_, rfl⟩
  have hmk := print_make_of (P := Tryd.prog) 24 5 (.int .u8 0) 1 Tryd.underlying24 binfo rfl (by decide) nb (by omega)
  have e1 : ((L.length : Int) + 7) / 8 = (nb : Int) := by omega
  have HNB := Aside0.mk hnb
  have hnb' : 8 * nb < L.length + 8 ∧ L.length ≤ 8 * nb := by omega
  clear hC h01 hnb
  go_enter Tryd.func51, Tryd.ntmps51
  go_wp2_with fail
  clear hmk e1
  obtain ⟨g, hg⟩ : ∃ g, g = w.heap.size := ⟨_, rfl⟩
  have HR0 := Aside0.mk (made8 w nb (by omega))
  rw [← hg] at HR0 ⊢
  have HG := Aside0.mk hg
  have HB0 := Aside0.mk (below_alloc (Below.refl w.heap.size w) (.cells (madeCells #[.int .u8 0] nb) 5))
  clear hg
  go_loopw [13] (fun i wr => ∃ k : Nat, i = .int .i64 (k : Int) ∧ k ≤ L.length ∧ Aside0 (RB (fun k => k = g) wr (.slice (some ⟨g, 0, none⟩) nb nb) (pkN L k)) ∧ Aside0 (Below w.heap.size w wr)) (fun i _ => L.length - (intOf i).toNat)
  case atStart => exact ⟨0, rfl, Nat.zero_le _, ⟨by rw [pkN_zero, ← HNB.out]; exact HR0.out⟩, HB0⟩
  case round =>
    obtain ⟨k, rfl, hk, HR, HB⟩ := hrel
    by_cases hlt : k < L.length
    · have hCr := Kd.C_below HC.out HB.out
      obtain ⟨ad, e, hx⟩ := at8 hCr k hlt
      subst e
      have hb01 := getD01 H01.out k
      have hset := pkN_set L k hlt
      have hrest := byteAt_rest' L k hk
      have hx8 := byteAt_is8 (is01_take H01.out k) (k / 8)
      obtain ⟨q, hq⟩ : ∃ q, q = k / 8 := ⟨_, rfl⟩
      obtain ⟨m, hm⟩ : ∃ m, m = k % 8 := ⟨_, rfl⟩
      have hgq := pkN_getD L k q (by have := HNB.out; omega)
      rw [← hq, ← hm] at hset
      rw [← hq, ← hm] at hrest
      rw [← hq] at hx8
      have hcell := Kd.R_celln 0 HR.out (q : Int) (by omega) (by omega)
      unfold rdOf at hcell
      rw [Int.toNat_natCast, hgq] at hcell
      obtain ⟨hc1, hc2⟩ := hcell
      generalize hB : L.getD k 0 = b at *
      generalize hX : byteAt (L.take k) q = x at *
      have hm8 : m < 8 := by omega
      have HO := Aside0.mk (or_byte' x b m hx8 (by omega) hm8 hrest)
      have HSet := Aside0.mk hset
      have i1 : (0 : Int) ≤ (q : Int) := by omega
      have i2 : (q : Int) < (nb : Int) := by omega
      have i2' : q < nb := by omega
      have i3 : (0 : Int) ≤ 7 - (m : Int) := by omega
      have w0' : (k : Int).tdiv 8 = (q : Int) := by rw [Int.tdiv_eq_ediv_of_nonneg (by omega)]; omega
      have w1' : IntKind.i64.wrap ((k : Int) / 8) = (q : Int) := by rw [IntWalk.i64_in _ (by omega)]; omega
      have w4' : IntKind.i64.wrap (q : Int) = (q : Int) := IntWalk.i64_in _ (by omega)
      have w2' : (k : Int).tmod 8 = (m : Int) := by rw [Int.tmod_eq_emod_of_nonneg (by omega)]; omega
      have w3' : IntKind.i64.wrap (7 - (m : Int)) = 7 - (m : Int) := IntWalk.i64_in _ (by omega)
      clear hset hrest hgq hB hX hq hm hCr
      go_wp2_with fail
      refine wp_still 12 (by kernel_rfl) (by kernel_rfl) ?_
      simp only [List.take_succ_cons, List.take_zero, List.drop_succ_cons, List.drop_zero]
      repeat still_step
      repeat still_step
      refine wpStill_nil ?_
      show wpList _ _ _ _ _ _
      rw [HO.out]
      clear w0' w1' w2' w3' w4' HO
      generalize x + b * 2 ^ (7 - m) = V at *
      generalize IntKind.u8.wrap (b * 2 ^ (7 - m)) = Y at *
      go_wp2_with fail
      go_roundw
      case rel =>
        have hr := Kd.R_putn HR.out (q : Int) V
        rw [Int.toNat_natCast, HSet.out] at hr
        refine ⟨k + 1, by go_num, by omega, ⟨?_⟩, ⟨?_⟩⟩
        · first | exact hr | exact Kd.R_drew hr
        · have hb := HB.out.setCell (p := ⟨g, q, none⟩) (by have := HG.out; show w.heap.size ≤ g; omega) (.int .u8 V)
          first | exact hb | exact below_drew hb
      case measure => simp [intOf]; omega
    · obtain rfl : k = L.length := by omega
      go_wp2_with fail
      go_ret
      refine ⟨_, _, rfl, by have := HR.out; rw [pkN_all] at this; exact this, fun j hj => ?_, HB.out⟩
      have := HG.out
      omega
end
section
open Go.RowKit Go.Shelf Go.Proofs.YtnaklnehichhpaaDoor.Bits Go.Proofs.YtnaklnehichhpaaDoorW.PrintWords Go.Proofs.YtnaklnehichhpaaDoorW.PrintLast Go.Proofs.YtnaklnehichhpaaDoorW.PrintMore
set_option linter.unusedVariables false
set_option linter.unusedSimpArgs false

set_option maxHeartbeats 4000000 in
set_option maxRecDepth 100000 in
theorem head_any (h : HD) (n : Nat) (w : World) (hok : OkH h) (hn : n ≤ 2047) :
    Calls Tryd.prog 32 #[h.val, .int .i64 (n : Int)] w fun e w' => ∃ v S', e = .returned v ∧ RB S' w' v (hbytes h n) ∧ (∀ k, S' k → w.heap.size ≤ k) ∧ Below w.heap.size w w' := by
  obtain ⟨w0, hw0⟩ : ∃ w0, w0 = w.alloc (hdObj h) := ⟨_, rfl⟩
  obtain ⟨p, hp⟩ : ∃ p, p = w.heap.size := ⟨_, rfl⟩
  obtain ⟨b, hb⟩ : ∃ b, b = w0.heap.size := ⟨_, rfl⟩
  have hbp : b = p + 1 := by rw [hb, hw0, hp]; simp
  have HK0 : Aside0 (w0.heap[p]? = some (hdObj h)) := ⟨by rw [hw0, hp]; exact World.alloc_heap_new w _⟩
  have HB0 : Aside0 (Below w.heap.size w w0) := ⟨by rw [hw0]; exact below_alloc (Below.refl _ _) _⟩
  have HFI : Aside0 (hbytes h n = pk (hbits h n)) := ⟨rfl⟩
  have HBE := Aside0.mk (hbits_eq h n)
  have HB01 := Aside0.mk (hbits_01 h n)
  have HL := Aside0.mk (hbits_length h n)
  have HW0 := Aside0.mk hw0
  have HP := Aside0.mk hp
  have HBB := Aside0.mk hb
  have HBP := Aside0.mk hbp
  obtain ⟨⟨n1, n2⟩, r1, ⟨k1, k2⟩, ⟨d1, d2⟩, ⟨q1, q2⟩, ⟨t1, t2⟩, _⟩ : (0 ≤ h.num ∧ h.num ≤ 63) ∧ 0 ≤ rix h.rate ∧ (1 ≤ h.ch ∧ h.ch ≤ 2) ∧ (0 ≤ h.kind ∧ h.kind ≤ 4) ∧ (1 ≤ h.count ∧ h.count ≤ 128) ∧ (0 ≤ h.back ∧ h.back ≤ 511) ∧ True := by
    obtain ⟨a, b, c, d, e, f, _⟩ := hok
    exact ⟨a, b, c, d, e, f, trivial⟩
  have r2 := rix_lt h.rate
  have hrt := fun W => rated_any h.rate W
  generalize rix h.rate = rx at *
  generalize hHB : hbits h n = hb9 at *
  generalize hHY : hbytes h n = hy9 at *
  obtain ⟨num, lossy, rate, ch, kind, count, back⟩ := h
  unfold HD.val at *
  dsimp only at *
  have HRT := Aside0.mk hrt
  have HE : Aside0 (w.alloc (.cells #[.int .i64 num, .bool lossy, .int .i64 rate, .int .i64 ch, .int .i64 kind, .int .i64 count, .int .i64 back] 23) = w0) := ⟨HW0.out.symm⟩
  have hfld : ∀ W : World, W.heap[p]? = some (hdObj ⟨num, lossy, rate, ch, kind, count, back⟩) → W.cell? ⟨p, 0, none⟩ = some (.int .i64 num) ∧ W.cell? ⟨p, 1, none⟩ = some (.bool lossy) ∧ W.cell? ⟨p, 2, none⟩ = some (.int .i64 rate) ∧ W.cell? ⟨p, 3, none⟩ = some (.int .i64 ch) ∧ W.cell? ⟨p, 4, none⟩ = some (.int .i64 kind) ∧ W.cell? ⟨p, 5, none⟩ = some (.int .i64 count) ∧ W.cell? ⟨p, 6, none⟩ = some (.int .i64 back) := fun W hW => by
    refine ⟨?_, ?_, ?_, ?_, ?_, ?_, ?_⟩ <;> (rw [cell_of_row W _ _ _ _ _ hW]; rfl)
  have HFD := Aside0.mk hfld
  have HN0 : Aside0 (RB (fun k => b ≤ k) w0 (.slice none 0 0) []) := ⟨Kd.R_nil _ _ _ _ _⟩
  have HA0 : Aside0 (Below b w0 w0) := ⟨Below.refl _ _⟩
  clear hok hHB hHY hrt hw0 hp hb hbp hfld
  go_enter Tryd.func32, Tryd.ntmps32
  go_wp2_with fail
  rw [HE.out, ← HP.out]
  refine (RPut_any b _ [] 4013 12 w0 HN0.out (by have := HA0.out.size; have := HBB.out; omega) (by omega) (by omega) (by decide)).mono ?_
  rintro e w1 ⟨v1, rfl, hr, hb⟩
  obtain ⟨A1, c1, hv⟩ := Kd.R_slice hr
  subst hv
  obtain ⟨L1, hL⟩ : ∃ L, L = [] ++ numb 4013 12 := ⟨_, rfl⟩
  rw [← hL] at hr ⊢
  have HQ1 := Aside0.mk hL
  have HA1 := Aside0.mk (HA0.out.trans hb)
  have HL1 : Aside0 (L1.length = 12) := ⟨by rw [hL, List.length_append, numb_length]; rfl⟩
  rw [HL1.out] at hr ⊢
  have HN1 := Aside0.mk hr
  have hk := HA1.out.block p (by have := HBP.out; omega)
  rw [HK0.out] at hk
  obtain ⟨f0, f1, f2, f3, f4, f5, f6⟩ := HFD.out w1 hk
  clear hr hb hL
  go_wp2_with fail
  clear f0 f1 f2 f3 f4 f5 f6 hk
  refine (RPut_any b _ L1 num 6 w1 HN1.out (by have := HA1.out.size; have := HBB.out; omega) (by omega) (by omega) (by have := HL1.out; omega)).mono ?_
  rintro e w2 ⟨v2, rfl, hr, hb⟩
  obtain ⟨A2, c2, hv⟩ := Kd.R_slice hr
  subst hv
  obtain ⟨L2, hL⟩ : ∃ L, L = L1 ++ numb num 6 := ⟨_, rfl⟩
  rw [← hL] at hr ⊢
  have HQ2 := Aside0.mk hL
  have HA2 := Aside0.mk (HA1.out.trans hb)
  have HL2 : Aside0 (L2.length = 18) := ⟨by rw [hL, List.length_append, numb_length, HL1.out]⟩
  rw [HL2.out] at hr ⊢
  have HN2 := Aside0.mk hr
  have hk := HA2.out.block p (by have := HBP.out; omega)
  rw [HK0.out] at hk
  obtain ⟨f0, f1, f2, f3, f4, f5, f6⟩ := HFD.out w2 hk
  clear hr hb hL
  cases lossy with
  | true =>
    go_wp2_with fail
    clear f0 f1 f2 f3 f4 f5 f6 hk
    refine (RPut_any b _ L2 1 1 w2 HN2.out (by have := HA2.out.size; have := HBB.out; omega) (by omega) (by omega) (by have := HL2.out; omega)).mono ?_
    rintro e w3 ⟨v3, rfl, hr, hb⟩
    obtain ⟨A3, c3, hv⟩ := Kd.R_slice hr
    subst hv
    obtain ⟨L3, hL⟩ : ∃ L, L = L2 ++ numb 1 1 := ⟨_, rfl⟩
    rw [← hL] at hr ⊢
    have HQ3 := Aside0.mk hL
    have HA3 := Aside0.mk (HA2.out.trans hb)
    have HL3 : Aside0 (L3.length = 19) := ⟨by rw [hL, List.length_append, numb_length, HL2.out]⟩
    rw [HL3.out] at hr ⊢
    have HN3 := Aside0.mk hr
    have hk := HA3.out.block p (by have := HBP.out; omega)
    rw [HK0.out] at hk
    obtain ⟨f0, f1, f2, f3, f4, f5, f6⟩ := HFD.out w3 hk
    clear hr hb hL
    go_wp2_with fail
    clear f0 f1 f2 f3 f4 f5 f6 hk
    refine (RPut_any b _ L3 (ch - 1) 1 w3 HN3.out (by have := HA3.out.size; have := HBB.out; omega) (by omega) (by omega) (by have := HL3.out; omega)).mono ?_
    rintro e w4 ⟨v4, rfl, hr, hb⟩
    obtain ⟨A4, c4, hv⟩ := Kd.R_slice hr
    subst hv
    obtain ⟨L4, hL⟩ : ∃ L, L = L3 ++ numb (ch - 1) 1 := ⟨_, rfl⟩
    rw [← hL] at hr ⊢
    have HQ4 := Aside0.mk hL
    have HA4 := Aside0.mk (HA3.out.trans hb)
    have HL4 : Aside0 (L4.length = 20) := ⟨by rw [hL, List.length_append, numb_length, HL3.out]⟩
    rw [HL4.out] at hr ⊢
    have HN4 := Aside0.mk hr
    have hk := HA4.out.block p (by have := HBP.out; omega)
    rw [HK0.out] at hk
    obtain ⟨f0, f1, f2, f3, f4, f5, f6⟩ := HFD.out w4 hk
    clear hr hb hL
    go_wp2_with fail
    clear f0 f1 f2 f3 f4 f5 f6 hk
    refine (HRT.out _).mono ?_
    rintro e w4' ⟨rfl, hb⟩
    have HA4' := Aside0.mk (HA4.out.trans (hb.mono (by have := HA4.out.size; have := HBB.out; omega)))
    have HN4' := Aside0.mk (R_fr HN4.out (Fr.below hb (fun _ => False)) (fun _ _ _ h => h))
    clear hb HN4 HA4
    have HN4 := HN4'
    have HA4 := HA4'
    clear HN4' HA4'
    go_wp2_with fail
    refine (RPut_any b _ L4 rx 4 w4' HN4.out (by have := HA4.out.size; have := HBB.out; omega) (by omega) (by omega) (by have := HL4.out; omega)).mono ?_
    rintro e w5 ⟨v5, rfl, hr, hb⟩
    obtain ⟨A5, c5, hv⟩ := Kd.R_slice hr
    subst hv
    obtain ⟨L5, hL⟩ : ∃ L, L = L4 ++ numb rx 4 := ⟨_, rfl⟩
    rw [← hL] at hr ⊢
    have HQ5 := Aside0.mk hL
    have HA5 := Aside0.mk (HA4.out.trans hb)
    have HL5 : Aside0 (L5.length = 24) := ⟨by rw [hL, List.length_append, numb_length, HL4.out]⟩
    rw [HL5.out] at hr ⊢
    have HN5 := Aside0.mk hr
    have hk := HA5.out.block p (by have := HBP.out; omega)
    rw [HK0.out] at hk
    obtain ⟨f0, f1, f2, f3, f4, f5, f6⟩ := HFD.out w5 hk
    clear hr hb hL
    go_wp2_with fail
    clear f0 f1 f2 f3 f4 f5 f6 hk
    refine (RPut_any b _ L5 kind 3 w5 HN5.out (by have := HA5.out.size; have := HBB.out; omega) (by omega) (by omega) (by have := HL5.out; omega)).mono ?_
    rintro e w6 ⟨v6, rfl, hr, hb⟩
    obtain ⟨A6, c6, hv⟩ := Kd.R_slice hr
    subst hv
    obtain ⟨L6, hL⟩ : ∃ L, L = L5 ++ numb kind 3 := ⟨_, rfl⟩
    rw [← hL] at hr ⊢
    have HQ6 := Aside0.mk hL
    have HA6 := Aside0.mk (HA5.out.trans hb)
    have HL6 : Aside0 (L6.length = 27) := ⟨by rw [hL, List.length_append, numb_length, HL5.out]⟩
    rw [HL6.out] at hr ⊢
    have HN6 := Aside0.mk hr
    have hk := HA6.out.block p (by have := HBP.out; omega)
    rw [HK0.out] at hk
    obtain ⟨f0, f1, f2, f3, f4, f5, f6⟩ := HFD.out w6 hk
    clear hr hb hL
    go_wp2_with fail
    clear f0 f1 f2 f3 f4 f5 f6 hk
    refine (RPut_any b _ L6 (count - 1) 7 w6 HN6.out (by have := HA6.out.size; have := HBB.out; omega) (by omega) (by omega) (by have := HL6.out; omega)).mono ?_
    rintro e w7 ⟨v7, rfl, hr, hb⟩
    obtain ⟨A7, c7, hv⟩ := Kd.R_slice hr
    subst hv
    obtain ⟨L7, hL⟩ : ∃ L, L = L6 ++ numb (count - 1) 7 := ⟨_, rfl⟩
    rw [← hL] at hr ⊢
    have HQ7 := Aside0.mk hL
    have HA7 := Aside0.mk (HA6.out.trans hb)
    have HL7 : Aside0 (L7.length = 34) := ⟨by rw [hL, List.length_append, numb_length, HL6.out]⟩
    rw [HL7.out] at hr ⊢
    have HN7 := Aside0.mk hr
    have hk := HA7.out.block p (by have := HBP.out; omega)
    rw [HK0.out] at hk
    obtain ⟨f0, f1, f2, f3, f4, f5, f6⟩ := HFD.out w7 hk
    clear hr hb hL
    go_wp2_with fail
    clear f0 f1 f2 f3 f4 f5 f6 hk
    refine (RPut_any b _ L7 (n : Int) 11 w7 HN7.out (by have := HA7.out.size; have := HBB.out; omega) (by omega) (by omega) (by have := HL7.out; omega)).mono ?_
    rintro e w8 ⟨v8, rfl, hr, hb⟩
    obtain ⟨A8, c8, hv⟩ := Kd.R_slice hr
    subst hv
    obtain ⟨L8, hL⟩ : ∃ L, L = L7 ++ numb (n : Int) 11 := ⟨_, rfl⟩
    rw [← hL] at hr ⊢
    have HQ8 := Aside0.mk hL
    have HA8 := Aside0.mk (HA7.out.trans hb)
    have HL8 : Aside0 (L8.length = 45) := ⟨by rw [hL, List.length_append, numb_length, HL7.out]⟩
    rw [HL8.out] at hr ⊢
    have HN8 := Aside0.mk hr
    have hk := HA8.out.block p (by have := HBP.out; omega)
    rw [HK0.out] at hk
    obtain ⟨f0, f1, f2, f3, f4, f5, f6⟩ := HFD.out w8 hk
    clear hr hb hL
    go_wp2_with fail
    clear f0 f1 f2 f3 f4 f5 f6 hk
    refine (RPut_any b _ L8 back 9 w8 HN8.out (by have := HA8.out.size; have := HBB.out; omega) (by omega) (by omega) (by have := HL8.out; omega)).mono ?_
    rintro e w9 ⟨v9, rfl, hr, hb⟩
    obtain ⟨A9, c9, hv⟩ := Kd.R_slice hr
    subst hv
    obtain ⟨L9, hL⟩ : ∃ L, L = L8 ++ numb back 9 := ⟨_, rfl⟩
    rw [← hL] at hr ⊢
    have HQ9 := Aside0.mk hL
    have HA9 := Aside0.mk (HA8.out.trans hb)
    have HL9 : Aside0 (L9.length = 54) := ⟨by rw [hL, List.length_append, numb_length, HL8.out]⟩
    rw [HL9.out] at hr ⊢
    have HN9 := Aside0.mk hr
    have hk := HA9.out.block p (by have := HBP.out; omega)
    rw [HK0.out] at hk
    obtain ⟨f0, f1, f2, f3, f4, f5, f6⟩ := HFD.out w9 hk
    clear hr hb hL
    go_wp2_with fail
    clear f0 f1 f2 f3 f4 f5 f6 hk
    refine (RPut_any b _ L9 0 2 w9 HN9.out (by have := HA9.out.size; have := HBB.out; omega) (by omega) (by omega) (by have := HL9.out; omega)).mono ?_
    rintro e w10 ⟨v10, rfl, hr, hb⟩
    obtain ⟨A10, c10, hv⟩ := Kd.R_slice hr
    subst hv
    obtain ⟨L10, hL⟩ : ∃ L, L = L9 ++ numb 0 2 := ⟨_, rfl⟩
    rw [← hL] at hr ⊢
    have HQ10 := Aside0.mk hL
    have HA10 := Aside0.mk (HA9.out.trans hb)
    have HL10 : Aside0 (L10.length = 56) := ⟨by rw [hL, List.length_append, numb_length, HL9.out]⟩
    rw [HL10.out] at hr ⊢
    have HN10 := Aside0.mk hr
    have hk := HA10.out.block p (by have := HBP.out; omega)
    rw [HK0.out] at hk
    obtain ⟨f0, f1, f2, f3, f4, f5, f6⟩ := HFD.out w10 hk
    clear hr hb hL
    clear f0 f1 f2 f3 f4 f5 f6 hk
    have hfin : L10 = hb9 := by
      rw [HBE.out]
      rw [HQ10.out, HQ9.out, HQ8.out, HQ7.out, HQ6.out, HQ5.out, HQ4.out, HQ3.out, HQ2.out, HQ1.out]
      simp only [List.nil_append, List.append_assoc, one, if_true, Bool.false_eq_true, if_false]
    subst hfin
    obtain ⟨A, c, hv, hc, hC⟩ := Kd.R_reads HN10.out
    rw [HL10.out] at hv
    injection hv with hv1 hv2 hv3
    subst hv1
    subst hv3
    have HC := Aside0.mk hC
    clear hC hc hv2
    go_wp2_with fail
    have hC := HC.out
    rw [HL10.out] at hC
    refine (RBytes_any _ 56 _ L10 w10 hC HB01.out (by omega)).mono ?_
    rintro e w11 ⟨v11, S11, rfl, hr, hs, hb⟩
    have hsz := HA10.out.size
    have HB11 := Aside0.mk ((HB0.out.trans (HA10.out.mono (show w.heap.size ≤ b by have := HBB.out; have := HB0.out.size; omega))).trans (hb.mono (HB0.out.trans (HA10.out.mono (show w.heap.size ≤ b by have := HBB.out; have := HB0.out.size; omega))).size))
    have HS11 : Aside0 (∀ k, S11 k → w.heap.size ≤ k) := ⟨fun k hk => by have := hs k hk; have := (HB0.out.trans (HA10.out.mono (show w.heap.size ≤ b by have := HBB.out; have := HB0.out.size; omega))).size; omega⟩
    have HR11 := Aside0.mk hr
    clear hr hs hb hC
    go_wp2_with fail
    go_ret
    exact ⟨_, S11, rfl, by rw [HFI.out]; exact HR11.out, HS11.out, HB11.out⟩
  | false =>
    go_wp2_with fail
    clear f0 f1 f2 f3 f4 f5 f6 hk
    refine (RPut_any b _ L2 0 1 w2 HN2.out (by have := HA2.out.size; have := HBB.out; omega) (by omega) (by omega) (by have := HL2.out; omega)).mono ?_
    rintro e w3 ⟨v3, rfl, hr, hb⟩
    obtain ⟨A3, c3, hv⟩ := Kd.R_slice hr
    subst hv
    obtain ⟨L3, hL⟩ : ∃ L, L = L2 ++ numb 0 1 := ⟨_, rfl⟩
    rw [← hL] at hr ⊢
    have HQ3 := Aside0.mk hL
    have HA3 := Aside0.mk (HA2.out.trans hb)
    have HL3 : Aside0 (L3.length = 19) := ⟨by rw [hL, List.length_append, numb_length, HL2.out]⟩
    rw [HL3.out] at hr ⊢
    have HN3 := Aside0.mk hr
    have hk := HA3.out.block p (by have := HBP.out; omega)
    rw [HK0.out] at hk
    obtain ⟨f0, f1, f2, f3, f4, f5, f6⟩ := HFD.out w3 hk
    clear hr hb hL
    go_wp2_with fail
    clear f0 f1 f2 f3 f4 f5 f6 hk
    refine (RPut_any b _ L3 (ch - 1) 1 w3 HN3.out (by have := HA3.out.size; have := HBB.out; omega) (by omega) (by omega) (by have := HL3.out; omega)).mono ?_
    rintro e w4 ⟨v4, rfl, hr, hb⟩
    obtain ⟨A4, c4, hv⟩ := Kd.R_slice hr
    subst hv
    obtain ⟨L4, hL⟩ : ∃ L, L = L3 ++ numb (ch - 1) 1 := ⟨_, rfl⟩
    rw [← hL] at hr ⊢
    have HQ4 := Aside0.mk hL
    have HA4 := Aside0.mk (HA3.out.trans hb)
    have HL4 : Aside0 (L4.length = 20) := ⟨by rw [hL, List.length_append, numb_length, HL3.out]⟩
    rw [HL4.out] at hr ⊢
    have HN4 := Aside0.mk hr
    have hk := HA4.out.block p (by have := HBP.out; omega)
    rw [HK0.out] at hk
    obtain ⟨f0, f1, f2, f3, f4, f5, f6⟩ := HFD.out w4 hk
    clear hr hb hL
    go_wp2_with fail
    clear f0 f1 f2 f3 f4 f5 f6 hk
    refine (HRT.out _).mono ?_
    rintro e w4' ⟨rfl, hb⟩
    have HA4' := Aside0.mk (HA4.out.trans (hb.mono (by have := HA4.out.size; have := HBB.out; omega)))
    have HN4' := Aside0.mk (R_fr HN4.out (Fr.below hb (fun _ => False)) (fun _ _ _ h => h))
    clear hb HN4 HA4
    have HN4 := HN4'
    have HA4 := HA4'
    clear HN4' HA4'
    go_wp2_with fail
    refine (RPut_any b _ L4 rx 4 w4' HN4.out (by have := HA4.out.size; have := HBB.out; omega) (by omega) (by omega) (by have := HL4.out; omega)).mono ?_
    rintro e w5 ⟨v5, rfl, hr, hb⟩
    obtain ⟨A5, c5, hv⟩ := Kd.R_slice hr
    subst hv
    obtain ⟨L5, hL⟩ : ∃ L, L = L4 ++ numb rx 4 := ⟨_, rfl⟩
    rw [← hL] at hr ⊢
    have HQ5 := Aside0.mk hL
    have HA5 := Aside0.mk (HA4.out.trans hb)
    have HL5 : Aside0 (L5.length = 24) := ⟨by rw [hL, List.length_append, numb_length, HL4.out]⟩
    rw [HL5.out] at hr ⊢
    have HN5 := Aside0.mk hr
    have hk := HA5.out.block p (by have := HBP.out; omega)
    rw [HK0.out] at hk
    obtain ⟨f0, f1, f2, f3, f4, f5, f6⟩ := HFD.out w5 hk
    clear hr hb hL
    go_wp2_with fail
    clear f0 f1 f2 f3 f4 f5 f6 hk
    refine (RPut_any b _ L5 kind 3 w5 HN5.out (by have := HA5.out.size; have := HBB.out; omega) (by omega) (by omega) (by have := HL5.out; omega)).mono ?_
    rintro e w6 ⟨v6, rfl, hr, hb⟩
    obtain ⟨A6, c6, hv⟩ := Kd.R_slice hr
    subst hv
    obtain ⟨L6, hL⟩ : ∃ L, L = L5 ++ numb kind 3 := ⟨_, rfl⟩
    rw [← hL] at hr ⊢
    have HQ6 := Aside0.mk hL
    have HA6 := Aside0.mk (HA5.out.trans hb)
    have HL6 : Aside0 (L6.length = 27) := ⟨by rw [hL, List.length_append, numb_length, HL5.out]⟩
    rw [HL6.out] at hr ⊢
    have HN6 := Aside0.mk hr
    have hk := HA6.out.block p (by have := HBP.out; omega)
    rw [HK0.out] at hk
    obtain ⟨f0, f1, f2, f3, f4, f5, f6⟩ := HFD.out w6 hk
    clear hr hb hL
    go_wp2_with fail
    clear f0 f1 f2 f3 f4 f5 f6 hk
    refine (RPut_any b _ L6 (count - 1) 7 w6 HN6.out (by have := HA6.out.size; have := HBB.out; omega) (by omega) (by omega) (by have := HL6.out; omega)).mono ?_
    rintro e w7 ⟨v7, rfl, hr, hb⟩
    obtain ⟨A7, c7, hv⟩ := Kd.R_slice hr
    subst hv
    obtain ⟨L7, hL⟩ : ∃ L, L = L6 ++ numb (count - 1) 7 := ⟨_, rfl⟩
    rw [← hL] at hr ⊢
    have HQ7 := Aside0.mk hL
    have HA7 := Aside0.mk (HA6.out.trans hb)
    have HL7 : Aside0 (L7.length = 34) := ⟨by rw [hL, List.length_append, numb_length, HL6.out]⟩
    rw [HL7.out] at hr ⊢
    have HN7 := Aside0.mk hr
    have hk := HA7.out.block p (by have := HBP.out; omega)
    rw [HK0.out] at hk
    obtain ⟨f0, f1, f2, f3, f4, f5, f6⟩ := HFD.out w7 hk
    clear hr hb hL
    go_wp2_with fail
    clear f0 f1 f2 f3 f4 f5 f6 hk
    refine (RPut_any b _ L7 (n : Int) 11 w7 HN7.out (by have := HA7.out.size; have := HBB.out; omega) (by omega) (by omega) (by have := HL7.out; omega)).mono ?_
    rintro e w8 ⟨v8, rfl, hr, hb⟩
    obtain ⟨A8, c8, hv⟩ := Kd.R_slice hr
    subst hv
    obtain ⟨L8, hL⟩ : ∃ L, L = L7 ++ numb (n : Int) 11 := ⟨_, rfl⟩
    rw [← hL] at hr ⊢
    have HQ8 := Aside0.mk hL
    have HA8 := Aside0.mk (HA7.out.trans hb)
    have HL8 : Aside0 (L8.length = 45) := ⟨by rw [hL, List.length_append, numb_length, HL7.out]⟩
    rw [HL8.out] at hr ⊢
    have HN8 := Aside0.mk hr
    have hk := HA8.out.block p (by have := HBP.out; omega)
    rw [HK0.out] at hk
    obtain ⟨f0, f1, f2, f3, f4, f5, f6⟩ := HFD.out w8 hk
    clear hr hb hL
    go_wp2_with fail
    clear f0 f1 f2 f3 f4 f5 f6 hk
    refine (RPut_any b _ L8 back 9 w8 HN8.out (by have := HA8.out.size; have := HBB.out; omega) (by omega) (by omega) (by have := HL8.out; omega)).mono ?_
    rintro e w9 ⟨v9, rfl, hr, hb⟩
    obtain ⟨A9, c9, hv⟩ := Kd.R_slice hr
    subst hv
    obtain ⟨L9, hL⟩ : ∃ L, L = L8 ++ numb back 9 := ⟨_, rfl⟩
    rw [← hL] at hr ⊢
    have HQ9 := Aside0.mk hL
    have HA9 := Aside0.mk (HA8.out.trans hb)
    have HL9 : Aside0 (L9.length = 54) := ⟨by rw [hL, List.length_append, numb_length, HL8.out]⟩
    rw [HL9.out] at hr ⊢
    have HN9 := Aside0.mk hr
    have hk := HA9.out.block p (by have := HBP.out; omega)
    rw [HK0.out] at hk
    obtain ⟨f0, f1, f2, f3, f4, f5, f6⟩ := HFD.out w9 hk
    clear hr hb hL
    go_wp2_with fail
    clear f0 f1 f2 f3 f4 f5 f6 hk
    refine (RPut_any b _ L9 0 2 w9 HN9.out (by have := HA9.out.size; have := HBB.out; omega) (by omega) (by omega) (by have := HL9.out; omega)).mono ?_
    rintro e w10 ⟨v10, rfl, hr, hb⟩
    obtain ⟨A10, c10, hv⟩ := Kd.R_slice hr
    subst hv
    obtain ⟨L10, hL⟩ : ∃ L, L = L9 ++ numb 0 2 := ⟨_, rfl⟩
    rw [← hL] at hr ⊢
    have HQ10 := Aside0.mk hL
    have HA10 := Aside0.mk (HA9.out.trans hb)
    have HL10 : Aside0 (L10.length = 56) := ⟨by rw [hL, List.length_append, numb_length, HL9.out]⟩
    rw [HL10.out] at hr ⊢
    have HN10 := Aside0.mk hr
    have hk := HA10.out.block p (by have := HBP.out; omega)
    rw [HK0.out] at hk
    obtain ⟨f0, f1, f2, f3, f4, f5, f6⟩ := HFD.out w10 hk
    clear hr hb hL
    clear f0 f1 f2 f3 f4 f5 f6 hk
    have hfin : L10 = hb9 := by
      rw [HBE.out]
      rw [HQ10.out, HQ9.out, HQ8.out, HQ7.out, HQ6.out, HQ5.out, HQ4.out, HQ3.out, HQ2.out, HQ1.out]
      simp only [List.nil_append, List.append_assoc, one, if_true, Bool.false_eq_true, if_false]
    subst hfin
    obtain ⟨A, c, hv, hc, hC⟩ := Kd.R_reads HN10.out
    rw [HL10.out] at hv
    injection hv with hv1 hv2 hv3
    subst hv1
    subst hv3
    have HC := Aside0.mk hC
    clear hC hc hv2
    go_wp2_with fail
    have hC := HC.out
    rw [HL10.out] at hC
    refine (RBytes_any _ 56 _ L10 w10 hC HB01.out (by omega)).mono ?_
    rintro e w11 ⟨v11, S11, rfl, hr, hs, hb⟩
    have hsz := HA10.out.size
    have HB11 := Aside0.mk ((HB0.out.trans (HA10.out.mono (show w.heap.size ≤ b by have := HBB.out; have := HB0.out.size; omega))).trans (hb.mono (HB0.out.trans (HA10.out.mono (show w.heap.size ≤ b by have := HBB.out; have := HB0.out.size; omega))).size))
    have HS11 : Aside0 (∀ k, S11 k → w.heap.size ≤ k) := ⟨fun k hk => by have := hs k hk; have := (HB0.out.trans (HA10.out.mono (show w.heap.size ≤ b by have := HBB.out; have := HB0.out.size; omega))).size; omega⟩
    have HR11 := Aside0.mk hr
    clear hr hs hb hC
    go_wp2_with fail
    go_ret
    exact ⟨_, S11, rfl, by rw [HFI.out]; exact HR11.out, HS11.out, HB11.out⟩

set_option maxHeartbeats 4000000 in
set_option maxRecDepth 100000 in
theorem RWrite_any (h : HD) (A : Option Addr) (c : Nat) (body : List Int) (w : World) (hC : Kd.C (Kd.int .u8) w A body.length body) (h8 : is8 body) (hl : body.length ≤ 9223372036854775807) :
    Calls Tryd.prog 12 #[h.val, .slice A body.length c] w fun e w' => ∃ v S', e = .returned (.tuple #[v, .int .i64 (fWrite h body).2]) ∧ RB S' w' v (fWrite h body).1 ∧ (∀ k, S' k → w.heap.size ≤ k) ∧ Below w.heap.size w w' := by
  have HC := Aside0.mk hC
  have H8 := Aside0.mk h8
  have hri := fun W => Right_any h W
  have hhd := fun ho hn W => head_any h body.length W ho hn
  have HOK : Aside0 (okH h = true → OkH h) := ⟨fun e => (okH_iff h).1 e⟩
  have HF : Aside0 (fWrite h body = if okH h = false then ([], 1) else if 2047 < body.length then ([], 2) else (wFrame h body, 0)) := ⟨rfl⟩
  have HWF : Aside0 (wFrame h body = outB h body ++ [((sumB (outB h body) / 256 : Nat) : Int), ((sumB (outB h body) % 256 : Nat) : Int)]) := ⟨rfl⟩
  have HOB : Aside0 (outB h body = hbytes h body.length ++ body) := ⟨rfl⟩
  have HOL := Aside0.mk (outB_length h body)
  have HO8 := Aside0.mk (outB_8 h h8)
  have H7 := Aside0.mk (hbytes_length h body.length)
  have hb0 : Below w.heap.size w (w.alloc (hdObj h)) := below_alloc (Below.refl _ _) _
  have HB0 := Aside0.mk hb0
  have HK0 : Aside0 ((w.alloc (hdObj h)).heap[w.heap.size]? = some (hdObj h)) := ⟨World.alloc_heap_new w _⟩
  obtain ⟨ok, hok⟩ : ∃ ok, ok = okH h := ⟨_, rfl⟩
  rw [← hok] at hri HF HOK
  generalize fWrite h body = fw at *
  generalize hwf : wFrame h body = wf at *
  generalize outB h body = out at *
  generalize hbytes h body.length = hy at *
  have HRI := Aside0.mk hri
  have HHD := Aside0.mk (fun e hn W => hhd (HOK.out e) hn W)
  clear hC h8 hri hhd hb0 hok HOK hwf
  obtain ⟨num, lossy, rate, ch, kind, count, back⟩ := h
  unfold HD.val at *
  dsimp only at *
  obtain ⟨w1, hw1⟩ : ∃ w1, w1 = w.alloc (hdObj ⟨num, lossy, rate, ch, kind, count, back⟩) := ⟨_, rfl⟩
  have HE : Aside0 (w.alloc (.cells #[.int .i64 num, .bool lossy, .int .i64 rate, .int .i64 ch, .int .i64 kind, .int .i64 count, .int .i64 back] 23) = w1) := ⟨hw1.symm⟩
  rw [← hw1] at HB0 HK0
  clear hw1
  obtain ⟨p, hp⟩ : ∃ p, p = w.heap.size := ⟨_, rfl⟩
  have HP := Aside0.mk hp
  have HK1 : Aside0 (w1.heap[p]? = some (hdObj ⟨num, lossy, rate, ch, kind, count, back⟩)) := ⟨by rw [hp]; exact HK0.out⟩
  clear hp HK0
  go_enter Tryd.func12, Tryd.ntmps12
  go_wp2_with fail
  rw [HE.out, ← HP.out]
  refine (HRI.out w1).mono ?_
  rintro e w2 ⟨rfl, hb⟩
  have HB2 := Aside0.mk (HB0.out.trans (hb.mono HB0.out.size))
  have hk := blk_fr HK1.out (Fr.below hb (fun _ => False)) (fun h => h)
  have c0 : w2.cell? ⟨p, 0, none⟩ = some (.int .i64 num) := by rw [cell_of_row w2 _ _ _ _ _ hk]; rfl
  have c1 : w2.cell? ⟨p, 1, none⟩ = some (.bool lossy) := by rw [cell_of_row w2 _ _ _ _ _ hk]; rfl
  have c2 : w2.cell? ⟨p, 2, none⟩ = some (.int .i64 rate) := by rw [cell_of_row w2 _ _ _ _ _ hk]; rfl
  have c3 : w2.cell? ⟨p, 3, none⟩ = some (.int .i64 ch) := by rw [cell_of_row w2 _ _ _ _ _ hk]; rfl
  have c4 : w2.cell? ⟨p, 4, none⟩ = some (.int .i64 kind) := by rw [cell_of_row w2 _ _ _ _ _ hk]; rfl
  have c5 : w2.cell? ⟨p, 5, none⟩ = some (.int .i64 count) := by rw [cell_of_row w2 _ _ _ _ _ hk]; rfl
  have c6 : w2.cell? ⟨p, 6, none⟩ = some (.int .i64 back) := by rw [cell_of_row w2 _ _ _ _ _ hk]; rfl
  clear hb hk HRI
  cases ok with
  | false =>
    rw [if_pos rfl] at HF
    go_wp2_with fail
    go_ret2
    rw [HF.out]
    exact ⟨_, fun _ => False, rfl, Kd.R_nil _ _ _ _ _, fun _ h => h.elim, HB2.out⟩
  | true =>
    rw [if_neg (by simp)] at HF
    by_cases hn : 2047 < body.length
    · rw [if_pos hn] at HF
      have q1 : decide ((2047 : Int) < (body.length : Int)) = true := by simp; omega
      go_wp2_with fail
      go_ret2
      rw [HF.out]
      exact ⟨_, fun _ => False, rfl, Kd.R_nil _ _ _ _ _, fun _ h => h.elim, HB2.out⟩
    · rw [if_neg hn] at HF
      have q1 : decide ((2047 : Int) < (body.length : Int)) = false := by simp; omega
      go_wp2_with fail
      refine (HHD.out (by first | exact rfl | trivial) (by omega) w2).mono ?_
      rintro e w5 ⟨v5, S5, rfl, hr5, hs5, hb5⟩
      obtain ⟨A5, c5', ev, hcap5, hC5⟩ := Kd.R_reads hr5
      subst ev
      rw [H7.out] at hr5 ⊢
      obtain ⟨v6, w6, hrun6, hr6, hg6⟩ := append_run (S := S5) w5 (.slice A5 7 c5') hy body A body.length c hr5 (Kd.C_below HC.out (HB2.out.trans (hb5.mono HB2.out.size))) (by rw [H7.out]; omega)
      have hb6 : Below w2.heap.size w2 w6 := hb5.grown hg6 hb5.size (fun k hk => hs5 k (hr5.1 k hk))
      rw [← HOB.out] at hr6
      obtain ⟨A6, c6', ev, hcap6, hC6⟩ := Kd.R_reads hr6
      subst ev
      have HRUN6 := Aside0.mk hrun6
      have HR6 := Aside0.mk hr6
      have HC6 := Aside0.mk hC6
      have HB6 := Aside0.mk hb6
      have HS6 : Aside0 (∀ k, (S5 k ∨ k = w5.heap.size) → w2.heap.size ≤ k) := ⟨fun k hk => by
        rcases hk with q | rfl
        · exact hs5 k q
        · exact hb5.size⟩
      clear hr5 hs5 hb5 hC5 hcap5 hrun6 hr6 hg6 hb6 hC6 hcap6 c0 c1 c2 c3 c4 c5 c6 HHD
      go_wp2_with (at_builtin; refine wpList_run_append rfl _ _ _ rfl _ _ rfl rfl HRUN6.out ?_)
      refine (RefCrc16_any A6 out.length c6' out w6 HC6.out HO8.out (by have := HOL.out; omega)).mono ?_
      rintro e w7 ⟨rfl, hb7⟩
      rw [show crc16 (ofB out (8 * out.length)) = sumB out from rfl]
      have hs16 := sumB_lt out
      have hr7 : RB _ w7 (.slice A6 out.length c6') out := R_fr HR6.out (Fr.below hb7 (fun _ => False)) (fun _ _ _ h => h)
      have hb67 := HB6.out.trans (hb7.mono HB6.out.size)
      generalize hS : sumB out = s at *
      obtain ⟨w8, hw8⟩ : ∃ w8, w8 = w7.alloc (.cells #[.int .u8 ((s : Int) / 256), .int .u8 ((s : Int) % 256)] 5) := ⟨_, rfl⟩
      have hb8 : Below w2.heap.size w2 w8 := by rw [hw8]; exact hb67.trans ((below_alloc (Below.refl _ _) _).mono hb67.size)
      have hr8 : RB _ w8 (.slice A6 out.length c6') out := R_fr hr7 (by rw [hw8]; exact Fr.below (below_alloc (Below.refl _ _) _) (fun _ => False)) (fun _ _ _ h => h)
      have hl8 : Kd.C (Kd.int .u8) w8 (some ⟨w7.heap.size, 0, none⟩) 2 [(s : Int) / 256, (s : Int) % 256] := by rw [hw8]; exact lit_C8 w7 [(s : Int) / 256, (s : Int) % 256] (by simp)
      obtain ⟨v9, w9, hrun9, hr9, hg9⟩ := append_run w8 (.slice A6 out.length c6') out [(s : Int) / 256, (s : Int) % 256] (some ⟨w7.heap.size, 0, none⟩) 2 2 hr8 hl8 (by have := HOL.out; omega)
      have hb9 : Below w2.heap.size w2 w9 := hb8.grown hg9 hb8.size (fun k hk => HS6.out k (hr8.1 k hk))
      rw [hw8] at hrun9
      have HRUN9 := Aside0.mk hrun9
      have HR9 := Aside0.mk hr9
      have HB9 := Aside0.mk hb9
      have HSZ8 : Aside0 (w2.heap.size ≤ w8.heap.size) := ⟨hb8.size⟩
      clear hr7 hb67 hb8 hr8 hl8 hrun9 hr9 hg9 hb9 hb7 hw8
      go_wp2_with (at_builtin; refine wpList_run_append rfl _ _ _ rfl _ _ rfl rfl HRUN9.out ?_)
      go_ret2
      rw [HF.out, HWF.out]
      have es : [((s / 256 : Nat) : Int), ((s % 256 : Nat) : Int)] = [(s : Int) / 256, (s : Int) % 256] := by simp
      rw [es]
      refine ⟨_, _, rfl, HR9.out, fun k hk => ?_, HB2.out.trans (HB9.out.mono HB2.out.size)⟩
      have := HB2.out.size
      rcases hk with q | q
      · have := HS6.out k q; omega
      · have := HSZ8.out; omega
end
end Go.Proofs.YtnaklnehichhpaaDoor.P
