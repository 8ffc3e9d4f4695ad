/- The contracts of frame.begins, Find. -/
import Derived.Test.YtnaklnehichhpaaDoorKj
namespace Go.Proofs.YtnaklnehichhpaaDoor.P
open Go.RowKit Go.Shelf Go.Proofs.YtnaklnehichhpaaDoor.Bits Go.Proofs.YtnaklnehichhpaaDoorW.PrintWords Go.Proofs.YtnaklnehichhpaaDoorW.PrintLast Go.Proofs.YtnaklnehichhpaaDoorW.PrintMore
set_option linter.unusedVariables false
set_option linter.unusedSimpArgs false
attribute [local go_sem ↓] Go.wp_at_zero Go.wp_at_succ

theorem sync_bits (B : List Int) (h8 : is8 B) : gv B 0 12 = B.getD 0 0 * 16 + B.getD 1 0 / 16 := by
  have h0 := getD8 h8 0
  have h1 := getD8 h8 1
  have e : ((ofB B 56).drop 0).take 12 = numb (B.getD 0 0 * 16 + B.getD 1 0 / 16) 12 := by
    rw [List.drop_zero, ofB_take B 12 56 (by omega)]
    have b0 : ∀ i, i < 8 → bitAt B i = B.getD 0 0 / 2 ^ (7 - i) % 2 := fun i hi => by unfold bitAt; rw [show i / 8 = 0 by omega, show i % 8 = i by omega]
    have b1 : ∀ i, 8 ≤ i → i < 16 → bitAt B i = B.getD 1 0 / 2 ^ (15 - i) % 2 := fun i h hi => by unfold bitAt; rw [show i / 8 = 1 by omega, show 7 - i % 8 = 15 - i by omega]
    simp only [ofB, numb, List.range_succ, List.range_zero, List.nil_append, List.map_append, List.map_cons, List.map_nil, List.append_assoc, List.cons_append, List.singleton_append]
    rw [b0 0 (by omega), b0 1 (by omega), b0 2 (by omega), b0 3 (by omega), b0 4 (by omega), b0 5 (by omega), b0 6 (by omega), b0 7 (by omega), b1 8 (by omega) (by omega), b1 9 (by omega) (by omega), b1 10 (by omega) (by omega), b1 11 (by omega) (by omega)]
    generalize B.getD 0 0 = x at *
    generalize B.getD 1 0 = y at *
    simp only [Nat.reduceSub, Int.reducePow, List.cons.injEq, and_true]
    omega
  unfold gv
  rw [e, val_numb]
  omega
/-- Is there a frame? -/
def okAt (B : List Int) (i : Nat) : Bool := decide ((fRead B (i : Int)).2.2 = 0)
/-- Where it ends. -/
def endF (B : List Int) (i : Nat) : Nat := i + 9 + (fRead B (i : Int)).2.1.length
theorem fRead_nat (B : List Int) (i : Nat) (h : i ≤ B.length) : fRead B (i : Int) = fReadB (B.drop i) := by
  unfold fRead
  rw [if_neg (by omega), Int.toNat_natCast]
theorem ok_len (B : List Int) (i : Nat) (hi : i ≤ B.length) (h : okAt B i = true) : endF B i ≤ B.length ∧ i < B.length := by
  unfold okAt at h
  unfold endF
  have h' := of_decide_eq_true h
  rw [fRead_nat B i hi] at h' ⊢
  have hd : (B.drop i).length = B.length - i := List.length_drop
  unfold fReadB at h' ⊢
  repeat' split at h'
  all_goals first | (exact absurd h' (by decide)) | skip
  rename_i a1 a2 a3 a4 a5 a6
  rw [if_neg a1, if_neg a2, if_neg a3, if_neg a4, if_neg a5, if_neg a6]
  dsimp only
  rw [List.length_take, List.length_drop]
  omega
theorem not_ok_short (B : List Int) (i : Nat) (hi : i ≤ B.length) (h : B.length - i < 9) : okAt B i = false := by
  unfold okAt
  rw [fRead_nat B i hi]
  unfold fReadB
  rw [if_pos (by rw [List.length_drop]; exact h)]
  rfl
theorem not_ok_sync (B : List Int) (i : Nat) (hi : i ≤ B.length) (h8 : is8 B) (h : ¬ (B.getD i 0 = 250 ∧ B.getD (i + 1) 0 / 16 = 13)) : okAt B i = false := by
  unfold okAt
  rw [fRead_nat B i hi]
  have hd8 : is8 (B.drop i) := fun b hb => h8 b (List.mem_of_mem_drop hb)
  have hs := sync_bits (B.drop i) hd8
  have g0 : (B.drop i).getD 0 0 = B.getD i 0 := by simp [List.getD_eq_getElem?_getD]
  have g1 : (B.drop i).getD 1 0 = B.getD (i + 1) 0 := by simp [List.getD_eq_getElem?_getD]
  rw [g0, g1] at hs
  have h0 := getD8 h8 i
  have h1 := getD8 h8 (i + 1)
  unfold fReadB
  split
  · rfl
  · rw [if_pos (by rw [hs]; omega)]
    rfl

set_option maxHeartbeats 2000000 in
set_option maxRecDepth 100000 in
theorem begins_any (A : Option Addr) (c : Nat) (B : List Int) (n : Nat) (w : World) (hC : Kd.C (Kd.int .u8) w A B.length B) (h8 : is8 B) (hBl : B.length ≤ 1000000000) (hc : B.length ≤ c) (hg : HG w) (hn : n < B.length) :
    Calls Tryd.prog 39 #[.slice A B.length c, .int .i64 (n : Int)] w fun e w' => ∃ x, e = .returned (.tuple #[.int .i64 x, .bool (okAt B n)]) ∧ (okAt B n = true → x = (endF B n : Int)) ∧ Below w.heap.size w w' := by
  obtain ⟨ad, e, hx⟩ := at8 hC n hn
  subst e
  have hx8 := getD8 h8 n
  have HREAD := Aside0.mk (Read_any (some ad) c B (n : Int) w hC h8 hBl hc hg)
  have HS := Aside0.mk (not_ok_short B n (by omega))
  have HY := Aside0.mk (not_ok_sync B n (by omega) h8)
  have i0 : (0 : Int) ≤ (n : Int) := by omega
  have i1 : (n : Int) < (B.length : Int) := by omega
  by_cases h9 : B.length - n < 9
  · have HN := Aside0.mk (HS.out h9)
    have d1 : decide ((B.length : Int) - (n : Int) < 9) = true := by simp; omega
    clear hx hx8 HREAD HS HY hC h8 hg
    go_enter Tryd.func39, Tryd.ntmps39
    go_wp2_with fail
    go_ret2
    rw [HN.out]
    exact ⟨_, rfl, (fun h => by cases h), Below.refl _ _⟩
  have d1 : decide ((B.length : Int) - (n : Int) < 9) = false := by simp; omega
  obtain ⟨ad', e', hy⟩ := at8 hC (n + 1) (by omega)
  injection e' with e'
  subst e'
  have hy8 := getD8 h8 (n + 1)
  rw [show ((n + 1 : Nat)) = n + 1 from rfl] at hy
  generalize B.getD n 0 = x at *
  obtain ⟨n1, hn1⟩ : ∃ n1, n1 = n + 1 := ⟨_, rfl⟩
  rw [← hn1] at hy hy8 HY
  generalize B.getD n1 0 = y at *
  have i2 : (0 : Int) ≤ (n1 : Int) := by omega
  have i3 : (n1 : Int) < (B.length : Int) := by omega
  have i4 : (n : Int) + 1 = (n1 : Int) := by omega
  clear hn1
  clear hC h8 hg h9 HS
  by_cases hx0 : x = 250
  case neg =>
    have q1 : (x != 250) = true := bne_iff_ne.2 hx0
    have HN := Aside0.mk (HY.out (fun h => hx0 h.1))
    clear HREAD HY
    go_enter Tryd.func39, Tryd.ntmps39
    go_wp2_with fail
    go_ret2
    rw [HN.out]
    exact ⟨_, rfl, (fun h => by cases h), Below.refl _ _⟩
  have q1 : (x != 250) = false := by rw [hx0]; rfl
  by_cases hy0 : y / 16 = 13
  case neg =>
    have q2 : (y / 16 != 13) = true := bne_iff_ne.2 hy0
    have HN := Aside0.mk (HY.out (fun h => hy0 h.2))
    clear HREAD HY hy0
    go_enter Tryd.func39, Tryd.ntmps39
    go_wp2_with fail
    go_ret2
    rw [HN.out]
    exact ⟨_, rfl, (fun h => by cases h), Below.refl _ _⟩
  have q2 : (y / 16 != 13) = false := by rw [hy0]; rfl
  have HE : Aside0 (okAt B n = decide ((fRead B (n : Int)).2.2 = 0)) := ⟨rfl⟩
  have HE2 : Aside0 (endF B n = n + 9 + (fRead B (n : Int)).2.1.length) := ⟨rfl⟩
  have HL := Aside0.mk (ok_len B n (by omega))
  clear HY hx0 hy0
  go_enter Tryd.func39, Tryd.ntmps39
  go_wp2_with fail
  refine HREAD.out.mono ?_
  rintro e w1 ⟨v, S', rfl, hr, hs, hb⟩
  obtain ⟨A1, c1, ev, _, hC1⟩ := Kd.R_reads hr
  subst ev
  have HB := Aside0.mk hb
  have hl := C_len8 hC1
  clear hr hs hb hC1
  unfold HD.val
  by_cases hz : (fRead B (n : Int)).2.2 = 0
  · have hok : okAt B n = true := by rw [HE.out]; exact decide_eq_true hz
    have hll := HL.out hok
    rw [HE2.out] at hll
    have HOK := Aside0.mk hok
    clear hok
    have HE3 : Aside0 ((endF B n : Int) = (n : Int) + 9 + ((fRead B (n : Int)).2.1.length : Int)) := ⟨by rw [HE2.out]; omega⟩
    rw [hz]
    generalize (fRead B (n : Int)).2.1.length = ln at *
    go_wp2_with fail
    go_ret2
    rw [HOK.out]
    exact ⟨_, rfl, (fun _ => by rw [HE3.out]; omega), by have := HB.out; exact this.trans (below_alloc (Below.refl _ _) _ |>.mono this.size)⟩
  · have hok : okAt B n = false := by rw [HE.out]; exact decide_eq_false hz
    have q3 : ((fRead B (n : Int)).2.2 == 0) = false := beq_eq_false_iff_ne.2 hz
    have HOK := Aside0.mk hok
    clear hok
    generalize (fRead B (n : Int)).2.1.length = ln at *
    generalize (fRead B (n : Int)).2.2 = er at *
    go_wp2_with fail
    go_ret2
    rw [HOK.out]
    exact ⟨_, rfl, (fun h => by cases h), by have := HB.out; exact this.trans (below_alloc (Below.refl _ _) _ |>.mono this.size)⟩
end Go.Proofs.YtnaklnehichhpaaDoor.P
