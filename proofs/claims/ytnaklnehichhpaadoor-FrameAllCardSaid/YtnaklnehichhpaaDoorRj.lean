/- The reference's Lost; the law's pairs. -/
import Derived.Test.YtnaklnehichhpaaDoorRi
import Derived.Test.YtnaklnehichhpaaDoorKq
namespace Go.Proofs.YtnaklnehichhpaaDoor.P
open Go.RowKit Go.Shelf Go.Proofs.YtnaklnehichhpaaDoor.Bits Go.Proofs.YtnaklnehichhpaaDoorW.PrintWords Go.Proofs.YtnaklnehichhpaaDoorW.PrintLast Go.Proofs.YtnaklnehichhpaaDoorW.PrintMore
set_option linter.unusedVariables false
set_option linter.unusedSimpArgs false
attribute [local go_sem ↓] Go.wp_at_zero Go.wp_at_succ

theorem allN_mem (B : List Int) : ∀ (f k : Nat), k ≤ B.length → ∀ x ∈ allN B f k, k ≤ x.1 ∧ x.1 < B.length ∧ x.2 = endF B x.1 ∧ okAt B x.1 = true ∧ x.2 ≤ B.length
  | 0, k, h, x, hx => by simp [allN] at hx
  | f + 1, k, h, x, hx => by
    rw [allN] at hx
    cases hn : nextF B k with
    | none => rw [hn] at hx; simp at hx
    | some i =>
      rw [hn] at hx
      obtain ⟨a, b, c, _⟩ := nextF_some hn
      obtain ⟨d, _⟩ := ok_len B i (by omega) c
      rcases List.mem_cons.1 hx with rfl | hx
      · exact ⟨a, b, rfl, c, d⟩
      · have h1 := allN_mem B f (endF B i) d x hx
        have h2 := endF_gt B i
        exact ⟨by omega, h1.2.1, h1.2.2.1, h1.2.2.2.1, h1.2.2.2.2⟩
theorem allF_mem {B : List Int} {x : Nat × Nat} (h : x ∈ allF B) : x.1 < B.length ∧ x.2 = endF B x.1 ∧ okAt B x.1 = true ∧ x.2 ≤ B.length := (allN_mem B _ 0 (Nat.zero_le _) x h).2
theorem RowV.mono {w : World} {base base' : Nat} {e : TypeId} {sz : Nat} {v : Value} {n : Nat} {fl : List Value} (h : RowV w base e sz v n fl) (hb : base' ≤ base) : RowV w base' e sz v n fl := by
  refine ⟨h.1, ?_⟩
  rcases h.2 with hn | ⟨g, cap, cur, rfl, hb', rest⟩
  · exact .inl hn
  · exact .inr ⟨g, cap, cur, rfl, Nat.le_trans hb hb', rest⟩
/-- The state of Lost after j of its positions. -/
def lst (B : List Int) (j : Nat) : Nat × List (Nat × Nat) := if j ≤ (allF B).length then lostL ((allF B).take j) else ((lostL (allF B)).1, lostF B)
/-- Position j of those that Lost goes through. -/
def lpos (B : List Int) (j : Nat) : Nat := if h : j < (allF B).length then (allF B)[j].1 else B.length
theorem lst_step (B : List Int) (j : Nat) (hj : j ≤ (allF B).length) : lst B (j + 1) = (if j < (allF B).length then endF B (lpos B j) else (lst B j).1, if (lst B j).1 < lpos B j then (lst B j).2 ++ [((lst B j).1, lpos B j)] else (lst B j).2) := by
  unfold lst lpos
  rw [if_pos hj]
  by_cases h : j < (allF B).length
  · rw [if_pos (by omega), if_pos h, dif_pos h, List.take_succ_eq_append_getElem h, lostL_snoc]
    rw [(allF_mem (List.getElem_mem h)).2.1]
  · obtain rfl : j = (allF B).length := by omega
    rw [if_neg (by omega), if_neg h, dif_neg h, List.take_length]
    unfold lostF
    rfl
theorem lst_len (B : List Int) (j : Nat) (hj : j ≤ (allF B).length) : (lst B j).2.length ≤ B.length := by
  unfold lst
  rw [if_pos hj]
  have h1 := lostL_le ((allF B).take j)
  have h2 := allF_len B
  rw [List.length_take] at h1
  omega
def lposL (B : List Int) : List Int := placesF B ++ [(B.length : Int)]
theorem lposL_length (B : List Int) : (lposL B).length = (allF B).length + 1 := by unfold lposL placesF; simp
theorem lposL_get (B : List Int) (j : Nat) (hj : j < (allF B).length + 1) : (lposL B).getD j 0 = (lpos B j : Int) := by
  unfold lposL placesF lpos
  by_cases h : j < (allF B).length
  · rw [dif_pos h, List.getD_eq_getElem?_getD, List.getElem?_append_left (by simpa using h), List.getElem?_map, List.getElem?_eq_getElem h]; rfl
  · obtain rfl : j = (allF B).length := by omega
    rw [dif_neg h, List.getD_eq_getElem?_getD, List.getElem?_append_right (by simp)]; simp

set_option maxHeartbeats 8000000 in
set_option maxRecDepth 100000 in
theorem RLost_any (A : Option Addr) (c : Nat) (B : List Int) (w : World) (hC : Kd.C (Kd.int .u8) w A B.length B) (h8 : is8 B) (hBl : B.length ≤ 100000000) (hc : B.length ≤ c) :
    Calls Tryd.prog 25 #[.slice A B.length c] w fun e w' => ∃ v, e = .returned v ∧ RowV w' w.heap.size 51 2 v (lostF B).length (flatP (lostF B)) ∧ Below w.heap.size w w' := by
  have HC := Aside0.mk hC
  have HRE := Aside0.mk (fun W hW (k : Nat) hk => REnd_any A c B k W hW h8 hBl hc hk)
  have HRA := Aside0.mk (RAll_any A c B w hC h8 hBl hc)
  have hlen := allF_len B
  have HFIN : Aside0 (lst B ((allF B).length + 1) = ((lostL (allF B)).1, lostF B)) := ⟨by unfold lst; rw [if_neg (by omega)]⟩
  have HST0 : Aside0 (lst B 0 = (0, [])) := ⟨by unfold lst; rw [if_pos (by omega)]; rfl⟩
  have HSTEP := Aside0.mk (lst_step B)
  have HLL := Aside0.mk (lst_len B)
  have HGET := Aside0.mk (lposL_get B)
  have HPL : Aside0 ((placesF B).length = (allF B).length) := ⟨by unfold placesF; simp⟩
  have HLP : Aside0 (lposL B = placesF B ++ [(B.length : Int)]) := ⟨rfl⟩
  have hlpl := lposL_length B
  have HAJ0 : Aside0 (∀ j, j < (allF B).length → lpos B j < B.length) := ⟨fun j h => by unfold lpos; rw [dif_pos h]; exact (allF_mem (List.getElem_mem h)).1⟩
  have HAN0 : Aside0 (∀ j, ¬ j < (allF B).length → lpos B j = B.length) := ⟨fun j h => by unfold lpos; rw [dif_neg h]⟩
  generalize (allF B).length = N at *
  generalize placesF B = pl at *
  generalize lposL B = LL at *
  clear hC h8
  go_enter Tryd.func25, Tryd.ntmps25
  go_wp2_with fail
  refine HRA.out.mono ?_
  rintro e w1 ⟨v, rfl, hr, hb⟩
  obtain ⟨v4, w5, hrun, hr5, hg5⟩ := rowI_append (w1.alloc (.cells #[.int .i64 (B.length : Int)] 3 (0, 0))) w.heap.size v pl (B.length : Int) w1.heap.size (hr.below (below_alloc (Below.refl _ _) _)) (World.alloc_heap_new w1 _) (by have := HPL.out; omega) (by have := hb.size; simp; omega)
  have hb5 : Below w.heap.size w w5 := (hb.alloc hb.size (.cells #[.int .i64 (B.length : Int)] 3 (0, 0))).grown hg5 (by have := hb.size; simp; omega) (fun k hk => (hr.block k hk).2)
  rw [← HLP.out] at hr5
  obtain ⟨A4, c4, rfl, hc4, hC4⟩ := RowV.reads hr5 (by omega)
  rw [hlpl] at hrun hC4 hc4
  obtain ⟨A9, c9, rfl⟩ := hr.slice
  have HRUN0 := Aside0.mk hrun
  have HB5 := Aside0.mk hb5
  have HC4 := Aside0.mk hC4
  have HBW : Aside0 (∀ W, Below w5.heap.size w5 W → Kd.C (Kd.int .u8) W A B.length B) := ⟨fun W hW => Kd.C_below HC.out (HB5.out.trans (hW.mono HB5.out.size))⟩
  clear hr hb hrun hr5 hg5 hb5 hC4 hlpl
  go_wp2_with (at_builtin; refine wpList_run_append rfl _ _ _ rfl _ _ rfl rfl HRUN0.out ?_)
  go_loopw [3, 4, 14] (fun v u i wr => ∃ (j E : Nat) (O : List (Nat × Nat)) (A1 : Option Addr) (m c1 : Nat), i = .int .i64 (j : Int) ∧ u = .int .i64 (E : Int) ∧ v = .slice A1 m c1 ∧ j ≤ N + 1 ∧ Aside0 (lst B j = (E, O)) ∧ Aside0 (m = O.length) ∧ Aside0 (RowV wr w5.heap.size 51 2 v O.length (flatP O)) ∧ Aside0 (Below w5.heap.size w5 wr)) (fun _ _ i _ => N + 1 - (intOf i).toNat)
  case atStart => exact ⟨0, 0, [], none, 0, 0, rfl, rfl, rfl, by omega, HST0, ⟨rfl⟩, ⟨World.ownsRow_nil _ _ _ _⟩, ⟨Below.refl _ _⟩⟩
  case round =>
    obtain ⟨j, E, O, A1, m, c1, rfl, rfl, rfl, hj1, HEO, HM, HR, HB⟩ := hrel
    by_cases hlt : j < N + 1
    · have d1 : decide ((j : Int) < ((N + 1 : Nat) : Int)) = true := by simp; omega
      obtain ⟨ad, e, hx⟩ := at64 (Kd.C_below HC4.out HB.out) j hlt
      subst e
      rw [HGET.out j hlt] at hx
      have hst := HSTEP.out j (by omega)
      have hol := HLL.out j (by omega)
      have HAJ := Aside0.mk (HAJ0.out j)
      have HAN := Aside0.mk (HAN0.out j)
      have hale : lpos B j ≤ B.length := by
        by_cases h : j < N
        · have := HAJ.out h; omega
        · have := HAN.out h; omega
      rw [HEO.out] at hst hol
      dsimp only at hst hol
      generalize lpos B j = a at *
      have HST := Aside0.mk hst
      clear hst HEO
      by_cases hE : E < a
      · by_cases hj : j < N
        · rw [if_pos hE] at HST
          have d2 : decide (E < a) = true := by simp; omega
          obtain ⟨v1, w2, hrun, hr2, hg2⟩ := rowP_append (wr.alloc (.cells #[.int .i64 (E : Int), .int .i64 (a : Int)] 51 (0, 0))) w5.heap.size (.slice A1 m c1) O E a wr.heap.size (HR.out.below (below_alloc (Below.refl _ _) _)) (World.alloc_heap_new wr _) (by omega) (by have := HB.out.size; simp; omega)
          have hlen1 : (O ++ [(E, a)]).length = O.length + 1 := by simp
          rw [hlen1] at hr2
          obtain ⟨A2, c2, rfl⟩ := hr2.slice
          have hb2 : Below w5.heap.size w5 w2 := (HB.out.alloc HB.out.size (.cells #[.int .i64 (E : Int), .int .i64 (a : Int)] 51 (0, 0))).grown hg2 (by have := HB.out.size; simp; omega) (fun k hk => (HR.out.block k hk).2)
          have HRUN := Aside0.mk hrun
          have HB2 := Aside0.mk hb2
          have HR2 := Aside0.mk hr2
          clear hrun hr2 hg2 hb2 hE HR
          rw [if_pos hj] at HST
          have d3 : decide (a < B.length) = true := by have := HAJ.out hj; simp; omega
          clear hj
          go_wp2_with (at_builtin; refine wpList_run_append rfl _ _ _ rfl _ _ rfl rfl HRUN.out ?_)
          refine (HRE.out w2 (HBW.out w2 HB2.out) a (by omega)).mono ?_
          rintro e w3 ⟨rfl, hb⟩
          have HB3 := Aside0.mk (HB2.out.trans (hb.mono HB2.out.size))
          have HR3 := Aside0.mk (HR2.out.below hb)
          clear hb
          go_wp2_with fail
          go_roundw
          case rel => exact ⟨j + 1, endF B a, O ++ [(E, a)], A2, O.length + 1, c2, by go_num, rfl, rfl, by omega, HST, ⟨by simp⟩, ⟨by rw [hlen1]; exact HR3.out⟩, HB3⟩
          case measure => simp [intOf]; omega
        · rw [if_pos hE] at HST
          have d2 : decide (E < a) = true := by simp; omega
          obtain ⟨v1, w2, hrun, hr2, hg2⟩ := rowP_append (wr.alloc (.cells #[.int .i64 (E : Int), .int .i64 (a : Int)] 51 (0, 0))) w5.heap.size (.slice A1 m c1) O E a wr.heap.size (HR.out.below (below_alloc (Below.refl _ _) _)) (World.alloc_heap_new wr _) (by omega) (by have := HB.out.size; simp; omega)
          have hlen1 : (O ++ [(E, a)]).length = O.length + 1 := by simp
          rw [hlen1] at hr2
          obtain ⟨A2, c2, rfl⟩ := hr2.slice
          have hb2 : Below w5.heap.size w5 w2 := (HB.out.alloc HB.out.size (.cells #[.int .i64 (E : Int), .int .i64 (a : Int)] 51 (0, 0))).grown hg2 (by have := HB.out.size; simp; omega) (fun k hk => (HR.out.block k hk).2)
          have HRUN := Aside0.mk hrun
          have HB2 := Aside0.mk hb2
          have HR2 := Aside0.mk hr2
          clear hrun hr2 hg2 hb2 hE HR
          rw [if_neg hj] at HST
          have d3 : decide (a < B.length) = false := by have := HAN.out hj; simp; omega
          clear hj
          go_wp2_with (at_builtin; refine wpList_run_append rfl _ _ _ rfl _ _ rfl rfl HRUN.out ?_)
          go_roundw
          case rel => exact ⟨j + 1, E, O ++ [(E, a)], A2, O.length + 1, c2, by go_num, rfl, rfl, by omega, HST, ⟨by simp⟩, ⟨by rw [hlen1]; exact HR2.out⟩, HB2⟩
          case measure => simp [intOf]; omega
      · by_cases hj : j < N
        · rw [if_neg hE] at HST
          have d2 : decide (E < a) = false := by simp; omega
          clear hE
          rw [if_pos hj] at HST
          have d3 : decide (a < B.length) = true := by have := HAJ.out hj; simp; omega
          clear hj
          go_wp2_with fail
          refine (HRE.out wr (HBW.out wr HB.out) a (by omega)).mono ?_
          rintro e w3 ⟨rfl, hb⟩
          have HB3 := Aside0.mk (HB.out.trans (hb.mono HB.out.size))
          have HR3 := Aside0.mk (HR.out.below hb)
          clear hb
          go_wp2_with fail
          go_roundw
          case rel => exact ⟨j + 1, endF B a, O, A1, m, c1, by go_num, rfl, rfl, by omega, HST, HM, HR3, HB3⟩
          case measure => simp [intOf]; omega
        · rw [if_neg hE] at HST
          have d2 : decide (E < a) = false := by simp; omega
          clear hE
          rw [if_neg hj] at HST
          have d3 : decide (a < B.length) = false := by have := HAN.out hj; simp; omega
          clear hj
          go_wp2_with fail
          go_roundw
          case rel => exact ⟨j + 1, E, O, A1, m, c1, by go_num, rfl, rfl, by omega, HST, HM, HR, HB⟩
          case measure => simp [intOf]; omega
    · obtain rfl : j = N + 1 := by omega
      have hfin := HFIN.out
      rw [HEO.out] at hfin
      have HO : Aside0 (O = lostF B) := ⟨(Prod.mk.inj hfin).2⟩
      clear hfin HEO
      go_wp2_with fail
      go_ret
      refine ⟨_, rfl, ?_, HB5.out.trans (HB.out.mono HB5.out.size)⟩
      rw [← HO.out]
      exact HR.out.mono HB5.out.size

/-- Pairs in memory, as they are read. -/
def PC (w : World) (A : Option Addr) (l : List (Nat × Nat)) : Prop := ∀ i (h : i < l.length), ∃ g o, A = some ⟨g, o, none⟩ ∧ w.cell? ⟨g, o + i * 2, none⟩ = some (.int .i64 (l[i].1 : Int)) ∧ w.cell? ⟨g, o + i * 2 + 1, none⟩ = some (.int .i64 (l[i].2 : Int)) ∧ g < w.heap.size
theorem flatP_get (l : List (Nat × Nat)) : ∀ (i : Nat) (h : i < l.length), (flatP l)[i * 2]? = some (.int .i64 (l[i].1 : Int)) ∧ (flatP l)[i * 2 + 1]? = some (.int .i64 (l[i].2 : Int)) := by
  induction l with
  | nil => intro i h; simp at h
  | cons x l ih =>
    intro i h
    have e : flatP (x :: l) = .int .i64 (x.1 : Int) :: .int .i64 (x.2 : Int) :: flatP l := rfl
    rw [e]
    cases i with
    | zero => exact ⟨rfl, rfl⟩
    | succ i =>
      have := ih i (by simpa using h)
      rw [show (i + 1) * 2 = i * 2 + 1 + 1 by omega, show i * 2 + 1 + 1 + 1 = (i * 2 + 1) + 1 + 1 by omega]
      simpa using this
theorem RowV.pairs {w : World} {base : Nat} {v : Value} {l : List (Nat × Nat)} (h : RowV w base 51 2 v l.length (flatP l)) : ∃ A c, v = .slice A l.length c ∧ l.length ≤ c ∧ PC w A l := by
  rcases h.2 with ⟨rfl, hn⟩ | ⟨g, cap, cur, rfl, hb, hg, hle, hcap, hsz, htk⟩
  · have : l = [] := List.length_eq_zero_iff.1 hn
    subst this
    exact ⟨none, 0, rfl, Nat.le_refl _, fun i h => by simp at h⟩
  · refine ⟨_, cap, rfl, hle, fun i hi => ⟨_, _, rfl, ?_, ?_, lt_of_block hg⟩⟩
    · rw [cell_of_row w g _ cur _ (0, 0) hg]
      have h1 : (cur.toList.take (l.length * 2))[i * 2]? = (flatP l)[i * 2]? := by rw [htk]
      rw [List.getElem?_take, if_pos (by omega), Array.getElem?_toList, (flatP_get l i hi).1] at h1
      rw [Nat.zero_add]
      exact h1
    · rw [cell_of_row w g _ cur _ (0, 0) hg]
      have h1 : (cur.toList.take (l.length * 2))[i * 2 + 1]? = (flatP l)[i * 2 + 1]? := by rw [htk]
      rw [List.getElem?_take, if_pos (by omega), Array.getElem?_toList, (flatP_get l i hi).2] at h1
      rw [Nat.zero_add]
      exact h1
theorem PC.below {w w' : World} {A : Option Addr} {l : List (Nat × Nat)} (h : PC w A l) (hb : Below w.heap.size w w') : PC w' A l := fun i hi => by
  obtain ⟨g, o, e, h1, h2, h4⟩ := h i hi
  exact ⟨g, o, e, (hb.cell (p := ⟨g, o + i * 2, none⟩) h4).trans h1, (hb.cell (p := ⟨g, o + i * 2 + 1, none⟩) h4).trans h2, Nat.lt_of_lt_of_le h4 hb.size⟩
theorem neq_pair (a b : Int) (w : World) : (binOp .neq 51 (.agg #[.int .i64 a, .int .i64 b]) (.agg #[.int .i64 a, .int .i64 b])).run Tryd.prog w = .ok (.bool false) w := by
  have u3 : Tryd.prog.underlying 3 = some (.int .i64) := Tryd.underlying3
  have a3 := Tryd.isAgg3
  have z3 := Tryd.sizeOf3
  rw [run_neq_struct, show (10000 : Nat) = 9999 + 1 from rfl, Op.equalIn]
  simp only [Sem.run_bind, run_underlying Tryd.underlying51, Result.andThen_ok]
  simp only [Std.Legacy.Range.forIn_eq_forIn_range', Std.Legacy.Range.size, Nat.sub_zero, Nat.add_sub_cancel, Nat.div_one, List.range'_succ, List.range'_zero, List.forIn_cons, List.forIn_nil]
  go_simp
set_option maxHeartbeats 1000000 in
set_option maxRecDepth 100000 in
theorem pairs_any (A A' : Option Addr) (c c' : Nat) (l : List (Nat × Nat)) (w : World) (hC : PC w A l) (hC' : PC w A' l) (hl : l.length ≤ 1000000000) :
    Calls Tryd.prog 23 #[.slice A l.length c, .slice A' l.length c'] w fun e w' => e = .returned (.bool true) ∧ Drawn0 w w' := by
  have HC := Aside0.mk hC
  have HC' := Aside0.mk hC'
  have hne := neq_pair
  clear hC hC'
  go_enter Tryd.func23, Tryd.ntmps23
  go_wp2_with fail
  go_loopw [13] (fun i wr => ∃ k : Nat, i = .int .i64 (k : Int) ∧ k ≤ l.length ∧ Aside0 (Drawn0 w wr)) (fun i _ => l.length - (intOf i).toNat)
  case atStart => exact ⟨0, rfl, Nat.zero_le _, ⟨Drawn0.refl _⟩⟩
  case round =>
    obtain ⟨k, rfl, hk, HD⟩ := hrel
    by_cases hlt : k < l.length
    · obtain ⟨g, o, e, h1, h2, _⟩ := (HC.out.below HD.out.below) k hlt
      obtain ⟨g', o', e', h1', h2', _⟩ := (HC'.out.below HD.out.below) k hlt
      subst e
      subst e'
      generalize ((l[k].1 : Nat) : Int) = x at *
      generalize ((l[k].2 : Nat) : Int) = y at *
      have hn := hne x y
      clear hne
      go_wp2_with fail
      go_quiet (fail)
      go_wp2_with fail
      go_roundw
      case rel => exact ⟨k + 1, by go_num, by omega, ⟨HD.out.step _⟩⟩
      case measure => simp [intOf]; omega
    · clear hne
      go_wp2_with fail
      go_ret
      exact ⟨rfl, HD.out⟩
end Go.Proofs.YtnaklnehichhpaaDoor.P
