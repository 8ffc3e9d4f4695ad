/- The reference's Bits and Tape: contracts. -/
import Derived.Test.YtnaklnehichhpaaDoorRc
namespace Go.Proofs.YtnaklnehichhpaaDoor.P
open Go.RowKit Go.Shelf Go.Proofs.YtnaklnehichhpaaDoor.Bits Go.Proofs.YtnaklnehichhpaaDoorW.PrintWords Go.Proofs.YtnaklnehichhpaaDoorW.PrintLast Go.Proofs.YtnaklnehichhpaaDoorW.PrintMore
set_option linter.unusedVariables false
set_option linter.unusedSimpArgs false
attribute [local go_sem ↓] Go.wp_at_zero Go.wp_at_succ

theorem ofB_snoc (B : List Int) (k : Nat) : ofB B (k + 1) = ofB B k ++ [bitAt B k] := by simp [ofB, List.range_succ]
set_option maxHeartbeats 2000000 in
set_option maxRecDepth 100000 in
theorem RBits_any (A : Option Addr) (c n : Nat) (B : List Int) (w : World) (hC : Kd.C (Kd.int .u8) w A B.length B) (h8 : is8 B) (hn : n ≤ 8 * B.length) (hn2 : n ≤ 1000000) (hBl : B.length ≤ 1000000000) :
    Calls Tryd.prog 55 #[.slice A B.length c, .int .i64 (n : Int)] w fun e w' => ∃ v, e = .returned v ∧ RB (fun k => w.heap.size ≤ k) w' v (ofB B n) ∧ Below w.heap.size w w' := by
  have HC := Aside0.mk hC
  have H8 := Aside0.mk h8
  clear hC h8
  go_enter Tryd.func55, Tryd.ntmps55
  go_wp2_with fail
  go_loopw [5, 6] (fun u i wr => ∃ (k : Nat) (A1 : Option Addr) (m c1 : Nat), i = .int .i64 (k : Int) ∧ u = .slice A1 m c1 ∧ k ≤ n ∧ Aside0 (m = k) ∧ Aside0 (RB (fun k => w.heap.size ≤ k) wr (.slice A1 m c1) (ofB B k)) ∧ Aside0 (Below w.heap.size w wr)) (fun _ i _ => n - (intOf i).toNat)
  case atStart => exact ⟨0, none, 0, 0, rfl, rfl, Nat.zero_le _, ⟨rfl⟩, ⟨Kd.R_nil _ _ _ _ _⟩, ⟨Below.refl _ _⟩⟩
  case round =>
    obtain ⟨k, A1, m, c1, rfl, rfl, hk, HM, HR, HB⟩ := hrel
    by_cases hlt : k < n
    · obtain ⟨ad, e, hx⟩ := at8 (Kd.C_below HC.out HB.out) (k / 8) (by omega)
      subst e
      have hx8 := getD8 H8.out (k / 8)
      have hbit : bitAt B k = B.getD (k / 8) 0 / 2 ^ (7 - k % 8) % 2 := rfl
      obtain ⟨x, hX⟩ : ∃ x, x = B.getD (k / 8) 0 := ⟨_, rfl⟩
      rw [← hX] at hx hx8 hbit
      have hd := div_small x (7 - k % 8) hx8.1 hx8.2
      have ha := and1_u8 (x / 2 ^ (7 - k % 8)) hd
      rw [← hbit] at ha
      have hT := ofB_snoc B k
      generalize bitAt B k = y at *
      have i1 : (0 : Int) ≤ (k : Int) / 8 := by omega
      have i2 : (k : Int) / 8 < (B.length : Int) := by omega
      have d1 : decide ((k : Int) < (n : Int)) = true := by simp; omega
      have d2 : decide ((k : Int) < 8 * (B.length : Int)) = true := by simp; omega
      obtain ⟨v1, w1, hrun, hr1, hg1⟩ := append_runR (wr.alloc (.cells (nums .u8 [y]).toArray 5)) (.slice A1 m c1) (ofB B k) [y] (some ⟨wr.heap.size, 0, none⟩) 1 1 (Kd.R_alloc HR.out _) (lit_C8 wr [y] (by simp)) (by rw [ofB_length]; omega)
      obtain ⟨A2, c2, hv1⟩ := Kd.R_slice hr1
      subst hv1
      have hbw := HB.out.size
      have hr1' := Kd.R_mono hr1 (ok' := fun k => w.heap.size ≤ k) (fun k hk => by
        rcases hk with q | q
        · exact q
        · rw [q]; simp; omega)
      have hlen1 : (ofB B k ++ [y]).length = k + 1 := by simp [ofB_length]
      rw [hlen1] at hrun hr1'
      rw [← hT] at hr1'
      have hb1 : Below w.heap.size w w1 := (HB.out.alloc hbw (.cells (nums .u8 [y]).toArray 5)).grown hg1 (by simp; omega) (fun k hk => HR.out.1 k hk)
      have HRUN := Aside0.mk hrun
      have HR1 := Aside0.mk hr1'
      have HB1 := Aside0.mk hb1
      clear hT hrun hr1 hr1' hb1 hg1 hlen1 hbw hX hd hbit
      go_wp2_with (at_builtin; refine wpList_run_append rfl _ _ _ rfl _ _ rfl rfl HRUN.out ?_)
      go_roundw
      case rel => exact ⟨k + 1, A2, _, c2, by go_num, rfl, by omega, ⟨rfl⟩, HR1, HB1⟩
      case measure => simp [intOf]; omega
    · obtain rfl : k = n := by omega
      have d1 : decide ((k : Int) < (k : Int)) = false := by simp
      go_wp2_with fail
      go_ret
      exact ⟨_, rfl, HR.out, HB.out⟩

/-- A tape at a block. -/
abbrev tapeObj (A : Option Addr) (n c a : Nat) : Obj := .cells #[.slice A n c, .int .i64 (a : Int), .int .i64 0] 103 (0, 0)
theorem TOK_any (t : Nat) (A : Option Addr) (n c a : Nat) (w : World) (ht : w.heap[t]? = some (tapeObj A n c a)) :
    Calls Tryd.prog 64 #[.pointer (some ⟨t, 0, none⟩)] w fun e w' => e = .returned (.bool true) ∧ w' = w := by
  have c2 : w.cell? ⟨t, 2, none⟩ = some (.int .i64 0) := by rw [cell_of_row w _ _ _ _ _ ht]; rfl
  clear ht
  go_enter Tryd.func64, Tryd.ntmps64
  go_wp2_with fail
  go_ret
  exact ⟨rfl, rfl⟩
theorem TLeft_any (t : Nat) (A : Option Addr) (n c a : Nat) (w : World) (ht : w.heap[t]? = some (tapeObj A n c a)) (hn : n ≤ 1000000000) (ha : a ≤ n) :
    Calls Tryd.prog 65 #[.pointer (some ⟨t, 0, none⟩)] w fun e w' => e = .returned (.int .i64 ((n : Int) - (a : Int))) ∧ Drawn0 w w' := by
  have c0 : w.cell? ⟨t, 0, none⟩ = some (.slice A n c) := by rw [cell_of_row w _ _ _ _ _ ht]; rfl
  have c1 : w.cell? ⟨t, 1, none⟩ = some (.int .i64 (a : Int)) := by rw [cell_of_row w _ _ _ _ _ ht]; rfl
  clear ht
  go_enter Tryd.func65, Tryd.ntmps65
  go_wp2_with fail
  go_quiet (fail)
  go_wp2_with fail
  go_ret
  exact ⟨rfl, (Drawn0.refl w).step _⟩

set_option maxHeartbeats 2000000 in
set_option maxRecDepth 100000 in
theorem TGet_any (S : Nat → Prop) (t : Nat) (A : Option Addr) (c : Nat) (L : List Int) (a n : Nat) (w : World) (ht : w.heap[t]? = some (tapeObj A L.length c a)) (hR : RB S w (.slice A L.length c) L) (hS : ∀ k, S k → k ≠ t) (h01 : is01 L) (hn : a + n ≤ L.length) (hl : L.length ≤ 1000000) (hn2 : n ≤ 32) :
    Calls Tryd.prog 56 #[.pointer (some ⟨t, 0, none⟩), .int .i64 (n : Int)] w fun e w' => e = .returned (.int .i64 (val ((L.drop a).take n))) ∧ w'.heap[t]? = some (tapeObj A L.length c (a + n)) ∧ Fr (fun k => k = t) w w' := by
  have HR := Aside0.mk hR
  have HT := Aside0.mk ht
  have HS := Aside0.mk hS
  have H01 := Aside0.mk h01
  clear hR ht hS h01
  go_enter Tryd.func56, Tryd.ntmps56
  go_wp2_with fail
  refine (TOK_any t A L.length c a w HT.out).mono ?_
  rintro e w1 ⟨rfl, hw⟩
  obtain rfl := hw.symm
  go_wp2_with fail
  refine (TLeft_any t A L.length c a w HT.out (by omega) (by omega)).mono ?_
  rintro e w2 ⟨rfl, hd⟩
  have d1 : decide ((L.length : Int) - (a : Int) < (n : Int)) = false := by simp; omega
  have HF2 := Aside0.mk (Fr.below hd.below (fun k => k = t))
  have HT2 := Aside0.mk (blk_fr HT.out (Fr.below hd.below (fun _ => False)) (fun h => h))
  clear hd
  go_wp2_with fail
  refine (TOK_any t A L.length c a w2 HT2.out).mono ?_
  rintro e w3 ⟨rfl, hw⟩
  obtain rfl := hw.symm
  go_wp2_with fail
  go_loopw [5, 20] (fun u i wr => ∃ k : Nat, i = .int .i64 (k : Int) ∧ u = .int .i64 (val ((L.drop a).take k)) ∧ k ≤ n ∧ Aside0 (wr.heap[t]? = some (tapeObj A L.length c (a + k))) ∧ Aside0 (Fr (fun k => k = t) w wr)) (fun _ i _ => n - (intOf i).toNat)
  case atStart => exact ⟨0, rfl, rfl, Nat.zero_le _, HT2, HF2⟩
  case round =>
    obtain ⟨k, rfl, rfl, hk, HTr, HF⟩ := hrel
    by_cases hlt : k < n
    · obtain ⟨q, hq⟩ : ∃ q, q = a + k := ⟨_, rfl⟩
      have hTk := take_getD L a k (by omega)
      rw [← hq] at HTr hTk
      have hRr : RB S wr (.slice A L.length c) L := R_fr HR.out HF.out (fun k hk _ e => HS.out k hk e)
      obtain ⟨A', c', e, hc', hC⟩ := Kd.R_reads hRr
      injection e with e1 e2 e3
      subst e1
      subst e3
      obtain ⟨ad, e, hx⟩ := at8 hC q (by omega)
      subst e
      have hb01 := getD01 H01.out q
      have c0 : wr.cell? ⟨t, 0, none⟩ = some (.slice (some ad) L.length c) := by rw [cell_of_row wr _ _ _ _ _ HTr.out]; rfl
      have c1 : wr.cell? ⟨t, 1, none⟩ = some (.int .i64 (q : Int)) := by rw [cell_of_row wr _ _ _ _ _ HTr.out]; rfl
      have fz : wr.frozen? ⟨t, 1, none⟩ = false := blk_frozen HTr.out 1
      have hv := val_bound (is01_take (is01_drop H01.out a) k)
      have hv2 : val ((L.drop a).take k) ≤ 4294967296 := by
        have h1 := (pow_le32 (m := ((L.drop a).take k).length) (by rw [List.length_take]; omega)).2
        omega
      have HVT : Aside0 (val ((L.drop a).take (k + 1)) = 2 * val ((L.drop a).take k) + L.getD q 0) := ⟨by rw [hTk, val_snoc]⟩
      have hv0 := hv.1
      have hql : q < L.length := by omega
      have i1 : (0 : Int) ≤ (q : Int) := by omega
      have i2 : (q : Int) < (L.length : Int) := by omega
      have HQ := Aside0.mk hq
      generalize hX : val ((L.drop a).take k) = X at *
      generalize hY : L.getD q 0 = y at *
      have hy : 0 ≤ y ∧ y ≤ 1 := by omega
      clear hTk hRr hC hc' hv hX hY hb01 hq e2
      go_wp2_with fail
      go_quiet (fail)
      go_wp2_with fail
      go_roundw
      case rel =>
        refine ⟨k + 1, by go_num, by rw [HVT.out], by omega, ⟨?_⟩, ⟨?_⟩⟩
        · have e : (q : Int) + 1 = ((a + (k + 1) : Nat) : Int) := by have := HQ.out; omega
          rw [e, heap_setCell_same _ _ _ _ _ _ (show (wr.drewN nq).heap[t]? = some (tapeObj (some ad) L.length c q) from HTr.out)]
          rfl
        · exact (HF.out.trans (Fr.below (below_drewN (Below.refl _ _) nq) _)).setCell (p := ⟨t, 1, none⟩) (fun _ => rfl) _
      case measure => simp [intOf]; omega
    · obtain rfl : k = n := by omega
      go_wp2_with fail
      go_ret
      exact ⟨rfl, HTr.out, HF.out⟩
end Go.Proofs.YtnaklnehichhpaaDoor.P
