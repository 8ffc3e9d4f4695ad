/- The reference's writer: Number, unary, Put, Signed, Unary, Append, Len, Bytes. -/
import Derived.Test.YtmjekkkpbcehoaaBs
import Derived.Test.YtmjekkkpbcehoaaBi
namespace Go.Proofs.Ytmjekkkpbcehoaa.P
open Go.RowKit Go.Shelf Go.Proofs.Ytmjekkkpbcehoaa.Bits Go.Proofs.YtmjekkkpbcehoaaW.PrintWords Go.Proofs.YtmjekkkpbcehoaaW.PrintLast Go.Proofs.YtmjekkkpbcehoaaW.PrintMore
set_option linter.unusedVariables false
set_option linter.unusedSimpArgs false
attribute [local go_sem ↓] Go.wp_at_zero Go.wp_at_succ

theorem numb_fill (v : Int) (n : Nat) : fillB (fun i => v / 2 ^ (n - 1 - i) % 2) n n = numb v n := by rw [fillB_all]; rfl
set_option maxHeartbeats 1000000 in
set_option maxRecDepth 100000 in
theorem Number_any (v : Int) (n : Nat) (w : World) (hv : 0 ≤ v) (hv' : v ≤ 9223372036854775807) (hn : n ≤ 60) :
    Calls Try.prog 74 #[.int .i64 v, .int .i64 n] w fun e w' => ∃ g S', e = .returned (.slice (some ⟨g, 0, none⟩) n n) ∧ RB S' w' (.slice (some ⟨g, 0, none⟩) n n) (numb v n) ∧ (∀ k, S' k → w.heap.size ≤ k) ∧ Below w.heap.size w w' := by
  have hmk := print_make_of (P := Try.prog) 22 5 (.int .u8 0) 1 Try.underlying22 binfo rfl (by decide) n (by omega)
  go_enter Try.func74, Try.ntmps74
  go_wp2_with fail
  clear hmk
  obtain ⟨g, hg⟩ : ∃ g, g = w.heap.size := ⟨_, rfl⟩
  have HR0 := Aside0.mk (made8 w n (by omega))
  rw [← hg] at HR0 ⊢
  have HG := Aside0.mk hg
  have HB0 := Aside0.mk (below_alloc (Below.refl w.heap.size w) (.cells (madeCells #[.int .u8 0] n) 5))
  clear hg
  go_loopw [10] (fun i wr => ∃ k : Nat, i = .int .i64 (k : Int) ∧ k ≤ n ∧ Aside0 (RB (fun k => k = g) wr (.slice (some ⟨g, 0, none⟩) n n) (fillB (fun i => v / 2 ^ (n - 1 - i) % 2) n k)) ∧ Aside0 (Below w.heap.size w wr)) (fun i _ => n - (intOf i).toNat)
  case atStart => exact ⟨0, rfl, Nat.zero_le _, ⟨by rw [fillB_zero]; exact HR0.out⟩, HB0⟩
  case round =>
    obtain ⟨k, rfl, hk, HR, HB⟩ := hrel
    by_cases hlt : k < n
    · have hcell := Kd.R_celln 0 HR.out (k : Int) (by omega) (by omega)
      rw [Int.toNat_natCast] at hcell
      obtain ⟨hc1, hc2⟩ := hcell
      have HP := Aside0.mk (fillB_set (fun i => v / 2 ^ (n - 1 - i) % 2) n k hlt)
      have hd : 0 ≤ v / 2 ^ (n - 1 - k) ∧ v / 2 ^ (n - 1 - k) ≤ v := ⟨Int.ediv_nonneg hv (Int.le_of_lt (Int.pow_pos (by omega))), Int.ediv_le_self _ hv⟩
      have ha := and1_i64 (v / 2 ^ (n - 1 - k)) (by omega)
      have i3 : (0 : Int) ≤ (k : Int) := by omega
      have i4 : (k : Int) < (n : Int) := by omega
      have i5 : (0 : Int) ≤ (n : Int) - 1 - k := by omega
      have hb2 : 0 ≤ v / 2 ^ (n - 1 - k) % 2 ∧ v / 2 ^ (n - 1 - k) % 2 < 2 := by omega
      clear hd
      go_wp2_with fail
      go_roundw
      case rel =>
        have hr := Kd.R_putn HR.out (k : Int) (v / 2 ^ (n - 1 - k) % 2)
        rw [Int.toNat_natCast, HP.out] at hr
        refine ⟨k + 1, by go_num, by omega, ⟨?_⟩, ⟨HB.out.setCell (p := ⟨g, k, none⟩) (by have := HG.out; show w.heap.size ≤ g; omega) _⟩⟩
        have e : v / 2 ^ (n - 1 - k) % 2 % 256 = v / 2 ^ (n - 1 - k) % 2 := by omega
        first | exact hr | (rw [e]; exact hr)
      case measure => simp [intOf]; omega
    · obtain rfl : k = n := by omega
      go_wp2_with fail
      go_ret
      refine ⟨g, _, rfl, by have := HR.out; rw [numb_fill] at this; exact this, fun j hj => ?_, HB.out⟩
      have := HG.out
      omega

set_option maxHeartbeats 1000000 in
set_option maxRecDepth 100000 in
theorem RPut_any (S : Nat → Prop) (p : Nat) (L : List Int) (v n : Int) (w : World) (hW : RWr w S p L) (hL : L.length ≤ 1048576) :
    Calls Try.prog 54 #[.pointer (some ⟨p, 0, none⟩), .int .i64 v, .int .i64 n] w fun e w' => e = .returned (.int .i64 (wPut L v n).1) ∧ RWrTo w S p (wPut L v n).2 w' := by
  have HW := Aside0.mk hW
  clear hW
  have no : n < 0 ∨ 32 < n ∨ v < 0 ∨ 2 ^ n.toNat ≤ v → Aside0 (wPut L v n = (1, L)) := fun h => ⟨by unfold wPut; rw [if_pos h]⟩
  by_cases h1 : n < 0
  · have HN := no (.inl h1)
    have d1 : decide (n < 0) = true := by simpa using h1
    clear no
    go_enter Try.func54, Try.ntmps54
    go_wp2_with fail
    go_ret
    rw [HN.out]
    exact ⟨rfl, HW.out.wrTo (Below.refl _ _)⟩
  by_cases h2 : 32 < n
  · have HN := no (.inr (.inl h2))
    have d1 : decide (n < 0) = false := by simpa using h1
    have d2 : decide (32 < n) = true := by simpa using h2
    clear no
    go_enter Try.func54, Try.ntmps54
    go_wp2_with fail
    go_ret
    rw [HN.out]
    exact ⟨rfl, HW.out.wrTo (Below.refl _ _)⟩
  by_cases h3 : v < 0
  · have HN := no (.inr (.inr (.inl h3)))
    have d1 : decide (n < 0) = false := by simpa using h1
    have d2 : decide (32 < n) = false := by simpa using h2
    have d3 : decide (v < 0) = true := by simpa using h3
    clear no
    go_enter Try.func54, Try.ntmps54
    go_wp2_with fail
    go_ret
    rw [HN.out]
    exact ⟨rfl, HW.out.wrTo (Below.refl _ _)⟩
  obtain ⟨m, rfl⟩ : ∃ m : Nat, n = m := ⟨n.toNat, by omega⟩
  have d1 : decide ((m : Int) < 0) = false := by simp
  have d2 : decide (32 < (m : Int)) = false := by simpa using h2
  have d3 : decide (v < 0) = false := by simp; omega
  have hp2 := pow_le32 (m := m) (by omega)
  have hm : m ≤ 32 := by omega
  clear h1 h2
  have hs := shl1 m hm
  by_cases h4 : 2 ^ m ≤ v
  · have HN := no (.inr (.inr (.inr (by simpa using h4))))
    have d4 : decide (2 ^ m ≤ v) = true := by simpa using h4
    have d4' : decide (wrap64 (2 ^ min m 64) ≤ v) = true := by rw [hs]; simpa using h4
    clear no hs
    go_enter Try.func54, Try.ntmps54
    go_wp2_with fail
    go_ret
    rw [HN.out]
    exact ⟨rfl, HW.out.wrTo (Below.refl _ _)⟩
  have HN : Aside0 (wPut L v m = wput L (numb v m)) := ⟨by unfold wPut; rw [if_neg (by simp only [Int.toNat_natCast]; omega)]; simp⟩
  have d4 : decide (2 ^ m ≤ v) = false := by simpa using h4
  have d4' : decide (wrap64 (2 ^ min m 64) ≤ v) = false := by rw [hs]; simpa using h4
  have hv2 : v ≤ 4294967296 := by omega
  clear no hs h4
  go_enter Try.func54, Try.ntmps54
  go_wp2_with (first
    | (go_at_call 74; refine (Number_any v m _ (by omega) (by omega) (by omega)).mono ?_; rintro e w1 ⟨g1, S1, rfl, hr, hs, hb⟩; obtain ⟨A1, c1, hv1, _, hC1⟩ := Kd.R_reads hr; rw [numb_length] at hv1 hC1; cases hv1; have HC1 := Aside0.mk hC1; have HB1 := Aside0.mk hb; clear hr hs hC1 hb)
    | (go_at_call 73; refine (RefPut_any S p L _ _ _ _ _ (HW.out.below HB1.out) HC1.out (numb_01 _ _) hL (by omega)).mono ?_; rintro e w2 ⟨rfl, h2⟩; have H2 := Aside0.mk h2; clear h2))
  go_ret
  rw [HN.out]
  exact ⟨rfl, RWrTo.glue (fun k hk => .inl hk) (Fr.below HB1.out _) H2.out⟩

set_option maxHeartbeats 1000000 in
set_option maxRecDepth 100000 in
theorem RAppend_any (S : Nat → Prop) (p : Nat) (L : List Int) (A : Option Addr) (c : Nat) (B : List Int) (n : Int) (w : World) (hW : RWr w S p L) (hL : L.length ≤ 1048576) (hC : Kd.C (Kd.int .u8) w A B.length B) (hB : is8 B) (hBl : B.length ≤ 10000000) :
    Calls Try.prog 59 #[.pointer (some ⟨p, 0, none⟩), .slice A B.length c, .int .i64 n] w fun e w' => e = .returned (.int .i64 (wAppend L B n).1) ∧ RWrTo w S p (wAppend L B n).2 w' := by
  have HW := Aside0.mk hW
  have HC := Aside0.mk hC
  have H8 := Aside0.mk hB
  clear hW hC hB
  have no : n < 0 ∨ 8 * (B.length : Int) < n → Aside0 (wAppend L B n = (1, L)) := fun h => ⟨by unfold wAppend; rw [if_pos h]⟩
  by_cases h1 : n < 0
  · have HN := no (.inl h1)
    have d1 : decide (n < 0) = true := by simpa using h1
    clear no
    go_enter Try.func59, Try.ntmps59
    go_wp2_with fail
    go_ret
    rw [HN.out]
    exact ⟨rfl, HW.out.wrTo (Below.refl _ _)⟩
  obtain ⟨m, rfl⟩ : ∃ m : Nat, n = m := ⟨n.toNat, by omega⟩
  have d1 : decide ((m : Int) < 0) = false := by simp
  by_cases h2 : 8 * (B.length : Int) < m
  · have HN := no (.inr h2)
    have d2 : decide (8 * (B.length : Int) < (m : Int)) = true := by simpa using h2
    clear no
    go_enter Try.func59, Try.ntmps59
    go_wp2_with fail
    go_ret
    rw [HN.out]
    exact ⟨rfl, HW.out.wrTo (Below.refl _ _)⟩
  have d2 : decide (8 * (B.length : Int) < (m : Int)) = false := by simpa using h2
  have HN : Aside0 (wAppend L B m = wput L (ofB B m)) := ⟨by unfold wAppend; rw [if_neg (by omega)]; simp⟩
  have hm8 : m ≤ 8 * B.length := by omega
  clear no h1 h2
  go_enter Try.func59, Try.ntmps59
  go_wp2_with (first
    | (go_at_call 31; refine (Of_any A B.length c m B _ HC.out H8.out hm8 (by omega)).mono ?_; rintro e w1 ⟨v1, S1, rfl, hr, hs, hb⟩; obtain ⟨A1, c1, hv1, _, hC1⟩ := Kd.R_reads hr; rw [ofB_length] at hv1 hC1; cases hv1; have HC1 := Aside0.mk hC1; have HB1 := Aside0.mk hb; clear hr hs hC1 hb)
    | (go_at_call 73; refine (RefPut_any S p L _ _ _ _ _ (HW.out.below HB1.out) HC1.out (ofB_01 _ _) hL (by omega)).mono ?_; rintro e w2 ⟨rfl, h2⟩; have H2 := Aside0.mk h2; clear h2))
  go_ret
  rw [HN.out]
  exact ⟨rfl, RWrTo.glue (fun k hk => .inl hk) (Fr.below HB1.out _) H2.out⟩

set_option maxHeartbeats 1000000 in
set_option maxRecDepth 100000 in
theorem unary_any (n : Nat) (w : World) (hn : n ≤ 1000) :
    Calls Try.prog 75 #[.int .i64 n] w fun e w' => ∃ g S', e = .returned (.slice (some ⟨g, 0, none⟩) (n + 1) (n + 1)) ∧ RB S' w' (.slice (some ⟨g, 0, none⟩) (n + 1) (n + 1)) (numb 0 n ++ numb 1 1) ∧ (∀ k, S' k → w.heap.size ≤ k) ∧ Below w.heap.size w w' := by
  have hmk := print_make_of (P := Try.prog) 22 5 (.int .u8 0) 1 Try.underlying22 binfo rfl (by decide) (n + 1) (by omega)
  rw [show ((n + 1 : Nat) : Int) = (n : Int) + 1 by omega] at hmk
  have hr := made8 w (n + 1) (by omega)
  have hcell := Kd.R_celln 0 hr (n : Int) (by omega) (by omega)
  rw [Int.toNat_natCast] at hcell
  obtain ⟨hc1, hc2⟩ := hcell
  have hr2 := Kd.R_putn hr (n : Int) 1
  have e : (List.replicate (n + 1) (0 : Int)).set n 1 = numb 0 n ++ numb 1 1 := by
    have e0 : numb 0 n = List.replicate n 0 := by
      unfold numb
      rw [List.eq_replicate_iff]
      refine ⟨by simp, fun b hb => ?_⟩
      obtain ⟨j, _, rfl⟩ := List.mem_map.1 hb
      simp
    rw [e0, List.replicate_succ', List.set_append_right _ _ (by simp)]
    simp [numb]
  rw [Int.toNat_natCast, e] at hr2
  rw [World.setCell_alloc_at _ _ _ _ _ rfl] at hr2
  have HR2 := Aside0.mk hr2
  have i3 : (0 : Int) ≤ (n : Int) := by omega
  have i4 : (n : Int) < (n : Int) + 1 := by omega
  clear hr hr2 e
  go_enter Try.func75, Try.ntmps75
  go_wp2_with fail
  go_ret
  exact ⟨_, _, rfl, HR2.out, fun k hk => by omega, below_alloc (Below.refl _ _) _⟩

set_option maxHeartbeats 1000000 in
set_option maxRecDepth 100000 in
theorem RUnaryW_any (S : Nat → Prop) (p : Nat) (L : List Int) (n : Int) (w : World) (hW : RWr w S p L) (hL : L.length ≤ 1048576) :
    Calls Try.prog 56 #[.pointer (some ⟨p, 0, none⟩), .int .i64 n] w fun e w' => e = .returned (.int .i64 (wUnary L n).1) ∧ RWrTo w S p (wUnary L n).2 w' := by
  have HW := Aside0.mk hW
  clear hW
  have no : n < 0 ∨ 1000 < n → Aside0 (wUnary L n = (1, L)) := fun h => ⟨by unfold wUnary; rw [if_pos h]⟩
  by_cases h1 : n < 0
  · have HN := no (.inl h1)
    have d1 : decide (n < 0) = true := by simpa using h1
    clear no
    go_enter Try.func56, Try.ntmps56
    go_wp2_with fail
    go_ret
    rw [HN.out]
    exact ⟨rfl, HW.out.wrTo (Below.refl _ _)⟩
  by_cases h2 : 1000 < n
  · have HN := no (.inr h2)
    have d1 : decide (n < 0) = false := by simpa using h1
    have d2 : decide (1000 < n) = true := by simpa using h2
    clear no
    go_enter Try.func56, Try.ntmps56
    go_wp2_with fail
    go_ret
    rw [HN.out]
    exact ⟨rfl, HW.out.wrTo (Below.refl _ _)⟩
  obtain ⟨m, rfl⟩ : ∃ m : Nat, n = m := ⟨n.toNat, by omega⟩
  have d1 : decide ((m : Int) < 0) = false := by simp
  have d2 : decide (1000 < (m : Int)) = false := by simpa using h2
  have HN : Aside0 (wUnary L m = wput L (numb 0 m ++ numb 1 1)) := ⟨by unfold wUnary; rw [if_neg (by omega)]; simp⟩
  have hm : m ≤ 1000 := by omega
  clear no h1 h2
  go_enter Try.func56, Try.ntmps56
  go_wp2_with (first
    | (go_at_call 75; refine (unary_any m _ hm).mono ?_; rintro e w1 ⟨g1, S1, rfl, hr, hs, hb⟩; obtain ⟨A1, c1, hv1, _, hC1⟩ := Kd.R_reads hr; rw [List.length_append, numb_length, numb_length] at hv1 hC1; cases hv1; have HC1 := Aside0.mk hC1; have HB1 := Aside0.mk hb; clear hr hs hC1 hb)
    | (go_at_call 73; refine (RefPut_any S p L _ _ _ _ _ (HW.out.below HB1.out) HC1.out (is01_append (numb_01 _ _) (numb_01 _ _)) hL (by omega)).mono ?_; rintro e w2 ⟨rfl, h2⟩; have H2 := Aside0.mk h2; clear h2))
  go_ret
  rw [HN.out]
  exact ⟨rfl, RWrTo.glue (fun k hk => .inl hk) (Fr.below HB1.out _) H2.out⟩

set_option maxHeartbeats 1000000 in
set_option maxRecDepth 100000 in
theorem RSignedW_any (S : Nat → Prop) (p : Nat) (L : List Int) (v n : Int) (w : World) (hW : RWr w S p L) (hL : L.length ≤ 1048576) :
    Calls Try.prog 55 #[.pointer (some ⟨p, 0, none⟩), .int .i64 v, .int .i64 n] w fun e w' => e = .returned (.int .i64 (wSigned L v n).1) ∧ RWrTo w S p (wSigned L v n).2 w' := by
  have HW := Aside0.mk hW
  clear hW
  have no : n < 1 ∨ 32 < n ∨ v < -2 ^ (n.toNat - 1) ∨ 2 ^ (n.toNat - 1) ≤ v → Aside0 (wSigned L v n = (1, L)) := fun h => ⟨by unfold wSigned; rw [if_pos h]⟩
  by_cases h1 : n < 1
  · have HN := no (.inl h1)
    have d1 : decide (n < 1) = true := by simpa using h1
    clear no
    go_enter Try.func55, Try.ntmps55
    go_wp2_with fail
    go_ret
    rw [HN.out]
    exact ⟨rfl, HW.out.wrTo (Below.refl _ _)⟩
  by_cases h2 : 32 < n
  · have HN := no (.inr (.inl h2))
    have d1 : decide (n < 1) = false := by simpa using h1
    have d2 : decide (32 < n) = true := by simpa using h2
    clear no
    go_enter Try.func55, Try.ntmps55
    go_wp2_with fail
    go_ret
    rw [HN.out]
    exact ⟨rfl, HW.out.wrTo (Below.refl _ _)⟩
  obtain ⟨m, rfl⟩ : ∃ m : Nat, n = m + 1 := ⟨n.toNat - 1, by omega⟩
  have d1 : decide ((m : Int) + 1 < 1) = false := by simp; omega
  have d2 : decide (32 < (m : Int) + 1) = false := by simp; omega
  have hm : m ≤ 31 := by omega
  clear h1 h2
  have hp1 := pow_le31 hm
  have e1 : wrap64 (2 ^ m) = 2 ^ m := wrap64_id (by omega) (by omega)
  have e2 : wrap64 (-2 ^ m) = -2 ^ m := wrap64_id (by omega) (by omega)
  by_cases h3 : v < -2 ^ m
  · have HN := no (.inr (.inr (.inl (by simpa using h3))))
    have d3 : decide (v < wrap64 (-2 ^ m)) = true := by rw [e2]; simpa using h3
    clear no e1 e2
    go_enter Try.func55, Try.ntmps55
    go_wp2_with fail
    go_ret
    rw [HN.out]
    exact ⟨rfl, HW.out.wrTo (Below.refl _ _)⟩
  by_cases h4 : 2 ^ m ≤ v
  · have HN := no (.inr (.inr (.inr (by simpa using h4))))
    have d3 : decide (v < wrap64 (-2 ^ m)) = false := by rw [e2]; simp; omega
    have d4 : decide (wrap64 (2 ^ m) ≤ v) = true := by rw [e1]; simpa using h4
    clear no e1 e2
    go_enter Try.func55, Try.ntmps55
    go_wp2_with fail
    go_ret
    rw [HN.out]
    exact ⟨rfl, HW.out.wrTo (Below.refl _ _)⟩
  have d3 : decide (v < wrap64 (-2 ^ m)) = false := by rw [e2]; simp; omega
  have d4 : decide (wrap64 (2 ^ m) ≤ v) = false := by rw [e1]; simp; omega
  have hp3 := pow_le32 (m := m + 1) (by omega)
  have e5 := pow_step m
  have e6 : wrap64 (2 ^ (m + 1)) = 2 ^ (m + 1) := wrap64_id (by omega) (by omega)
  by_cases h5 : v < 0
  · have hmod : v % 2 ^ (m + 1) = v + 2 ^ (m + 1) := by
      rw [← Int.add_emod_right, Int.emod_eq_of_lt (by omega) (by omega)]
    have HN : Aside0 (wSigned L v (m + 1) = wput L (numb (v + 2 ^ (m + 1)) (m + 1))) := ⟨by
      unfold wSigned
      rw [show ((m : Int) + 1).toNat = m + 1 by omega, if_neg (by rw [Nat.add_sub_cancel]; omega), hmod]⟩
    have d5 : decide (v < 0) = true := by simpa using h5
    have hV : wrap64 (v + wrap64 (2 ^ (m + 1))) = v + 2 ^ (m + 1) := by rw [e6]; exact wrap64_id (by omega) (by omega)
    have hr1 : 0 ≤ v + 2 ^ (m + 1) := by omega
    have hr2 : v + 2 ^ (m + 1) ≤ 4294967296 := by omega
    generalize v + 2 ^ (m + 1) = V at *
    clear no e1 e2 e5 e6 hmod hp1 hp3 h3 h4 h5
    go_enter Try.func55, Try.ntmps55
    go_wp2_with (first
      | (go_at_call 74; refine (Number_any V (m + 1) _ (by omega) (by omega) (by omega)).mono ?_; rintro e w1 ⟨g1, S1, rfl, hr, hs, hb⟩; obtain ⟨A1, c1, hv1, _, hC1⟩ := Kd.R_reads hr; rw [numb_length] at hv1 hC1; cases hv1; have HC1 := Aside0.mk hC1; have HB1 := Aside0.mk hb; clear hr hs hC1 hb)
      | (go_at_call 73; refine (RefPut_any S p L _ _ _ _ _ (HW.out.below HB1.out) HC1.out (numb_01 _ _) hL (by omega)).mono ?_; rintro e w2 ⟨rfl, h2⟩; have H2 := Aside0.mk h2; clear h2))
    go_ret
    rw [HN.out]
    exact ⟨rfl, RWrTo.glue (fun k hk => .inl hk) (Fr.below HB1.out _) H2.out⟩
  · have hmod : v % 2 ^ (m + 1) = v := Int.emod_eq_of_lt (by omega) (by omega)
    have HN : Aside0 (wSigned L v (m + 1) = wput L (numb v (m + 1))) := ⟨by
      unfold wSigned
      rw [show ((m : Int) + 1).toNat = m + 1 by omega, if_neg (by rw [Nat.add_sub_cancel]; omega), hmod]⟩
    have d5 : decide (v < 0) = false := by simpa using h5
    have hr1 : 0 ≤ v := by omega
    have hr2 : v ≤ 4294967296 := by omega
    clear no e1 e2 e5 e6 hmod hp1 hp3 h3 h4 h5
    go_enter Try.func55, Try.ntmps55
    go_wp2_with (first
      | (go_at_call 74; refine (Number_any v (m + 1) _ (by omega) (by omega) (by omega)).mono ?_; rintro e w1 ⟨g1, S1, rfl, hr, hs, hb⟩; obtain ⟨A1, c1, hv1, _, hC1⟩ := Kd.R_reads hr; rw [numb_length] at hv1 hC1; cases hv1; have HC1 := Aside0.mk hC1; have HB1 := Aside0.mk hb; clear hr hs hC1 hb)
      | (go_at_call 73; refine (RefPut_any S p L _ _ _ _ _ (HW.out.below HB1.out) HC1.out (numb_01 _ _) hL (by omega)).mono ?_; rintro e w2 ⟨rfl, h2⟩; have H2 := Aside0.mk h2; clear h2))
    go_ret
    rw [HN.out]
    exact ⟨rfl, RWrTo.glue (fun k hk => .inl hk) (Fr.below HB1.out _) H2.out⟩

set_option maxHeartbeats 1000000 in
set_option maxRecDepth 100000 in
theorem RLen_any (S : Nat → Prop) (p : Nat) (L : List Int) (w : World) (hW : RWr w S p L) : Calls Try.prog 23 #[.pointer (some ⟨p, 0, none⟩)] w fun e w' => e = .returned (.int .i64 (L.length : Int)) ∧ w' = w := by
  obtain ⟨v, hb, hr⟩ := hW.blk
  obtain ⟨A, c, e⟩ := Kd.R_slice hr
  subst e
  have c0 := cell_of_one hb
  clear hW hb hr
  go_enter Try.func23, Try.ntmps23
  go_wp2_with fail
  go_ret
  exact ⟨rfl, rfl⟩

set_option maxHeartbeats 1000000 in
set_option maxRecDepth 100000 in
theorem RBytes_any (S : Nat → Prop) (p : Nat) (L : List Int) (w : World) (hW : RWr w S p L) (hL : L.length ≤ 1048576) :
    Calls Try.prog 25 #[.pointer (some ⟨p, 0, none⟩)] w fun e w' => ∃ v S', e = .returned v ∧ RB S' w' v (pk L) ∧ (∀ k, S' k → w.heap.size ≤ k) ∧ Below w.heap.size w w' := by
  obtain ⟨v, hb, hr⟩ := hW.blk
  obtain ⟨A, c, e, _, hC⟩ := Kd.R_reads hr
  subst e
  have c0 := cell_of_one hb
  have HP := Aside0.mk (Pack_any A L.length c L w hC hW.bits (by omega))
  clear hW hb hr hC
  go_enter Try.func25, Try.ntmps25
  go_wp2_with (go_at_call 30; refine HP.out.mono ?_; rintro e w1 ⟨v1, S1, rfl, hr, hs, hb⟩; have HR := Aside0.mk hr; have HS := Aside0.mk hs; have HB := Aside0.mk hb; clear hr hs hb)
  go_ret
  exact ⟨v1, S1, rfl, HR.out, HS.out, HB.out⟩
end Go.Proofs.Ytmjekkkpbcehoaa.P
