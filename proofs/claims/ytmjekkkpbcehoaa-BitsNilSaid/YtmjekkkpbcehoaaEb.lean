/- The reference's reader: Get, Signed, Unary, Gamma, Take, Seek, At, Left, Align. -/
import Derived.Test.YtmjekkkpbcehoaaEa
namespace Go.Proofs.Ytmjekkkpbcehoaa.P
open Go.RowKit Go.Shelf Go.Proofs.Ytmjekkkpbcehoaa.Bits Go.Proofs.YtmjekkkpbcehoaaW.PrintWords Go.Proofs.YtmjekkkpbcehoaaW.PrintLast Go.Proofs.YtmjekkkpbcehoaaW.PrintMore
set_option linter.unusedVariables false
set_option linter.unusedSimpArgs false
attribute [local go_sem ↓] Go.wp_at_zero Go.wp_at_succ

/-- What a call of the reference's reader that gives a number and an error says. -/
def RRdPost (w : World) (S : Nat → Prop) (p : Nat) (L : List Int) (r : Int × Int × Nat) (e : Ending) (w' : World) : Prop := e = .returned (.tuple #[.int .i64 r.1, .int .i64 r.2.1]) ∧ RRd w' S p L r.2.2 ∧ Fr (fun k => k = p) w w'
theorem val_nil : val [] = 0 := rfl
theorem C_nil8 (w : World) : Kd.C (Kd.int .u8) w none 0 [] := ⟨rfl, by omega, fun h => by omega⟩

theorem RefAt_any (S : Nat → Prop) (p a : Nat) (L : List Int) (w : World) (hR : RRd w S p L a) : Calls Try.prog 37 #[.pointer (some ⟨p, 0, none⟩)] w fun e w' => e = .returned (.int .i64 (a : Int)) ∧ w' = w := by
  have c1 := hR.cell1
  clear hR
  go_enter Try.func37, Try.ntmps37
  go_wp2_with fail
  go_ret
  exact ⟨rfl, rfl⟩
theorem RefLeft_any (S : Nat → Prop) (p a : Nat) (L : List Int) (w : World) (hR : RRd w S p L a) : Calls Try.prog 39 #[.pointer (some ⟨p, 0, none⟩)] w fun e w' => e = .returned (.int .i64 ((L.length : Int) - a)) ∧ ∃ n, w' = w.drewN n := by
  obtain ⟨A, c, c0, _, hcap, _⟩ := hR.bytes
  have c1 := hR.cell1
  have hal := hR.at_le
  have hlen := hR.len
  have w1' : IntKind.i64.wrap ((L.length : Int) - (a : Int)) = (L.length : Int) - (a : Int) := IntWalk.i64_in _ (by omega)
  clear hR
  go_enter Try.func39, Try.ntmps39
  go_wp2_with fail
  go_quiet (fail)
  clear w1'
  go_wp2_with fail
  go_ret
  exact ⟨rfl, _, rfl⟩
theorem RRd.fr_seek {w : World} {p : Nat} (u : Value) (j : Nat) : Fr (fun k => k = p) w (w.setCell ⟨p, j, none⟩ u) := Fr.setCell (S := fun k => k = p) (Fr.refl _ _) (p := ⟨p, j, none⟩) (fun _ => rfl) u
set_option maxHeartbeats 1000000 in
theorem RefSeek_any (S : Nat → Prop) (p a : Nat) (L : List Int) (n : Int) (w : World) (hR : RRd w S p L a) :
    Calls Try.prog 68 #[.pointer (some ⟨p, 0, none⟩), .int .i64 n] w fun e w' => e = .returned (.int .i64 (rSeek L a n).1) ∧ RRd w' S p L (rSeek L a n).2 ∧ Fr (fun k => k = p) w w' := by
  obtain ⟨A, c, c0, _, hcap, _⟩ := hR.bytes
  have c1 := hR.cell1
  have fz := hR.fz 1
  have HR := Aside0.mk hR
  clear hR
  by_cases h1 : n < 0
  · have HN : Aside0 (rSeek L a n = (6, a)) := ⟨by unfold rSeek; rw [if_pos (.inl h1)]⟩
    have d1 : decide (n < 0) = true := by simpa using h1
    go_enter Try.func68, Try.ntmps68
    go_wp2_with fail
    go_ret
    rw [HN.out]
    exact ⟨rfl, HR.out, Fr.refl _ _⟩
  obtain ⟨m, rfl⟩ : ∃ m : Nat, n = m := ⟨n.toNat, by omega⟩
  have d1 : decide ((m : Int) < 0) = false := by simp
  by_cases h2 : L.length < m
  · have HN : Aside0 (rSeek L a m = (6, a)) := ⟨by unfold rSeek; rw [if_pos (.inr (by omega))]⟩
    have d2 : decide (L.length < m) = true := by simpa using h2
    clear h1
    go_enter Try.func68, Try.ntmps68
    go_wp2_with fail
    go_ret
    rw [HN.out]
    exact ⟨rfl, HR.out, Fr.refl _ _⟩
  · have HN : Aside0 (rSeek L a m = (0, m)) := ⟨by unfold rSeek; rw [if_neg (by omega)]; simp⟩
    have d2 : decide (L.length < m) = false := by simpa using h2
    have hm : m ≤ L.length := by omega
    clear h1
    go_enter Try.func68, Try.ntmps68
    go_wp2_with fail
    go_ret
    rw [HN.out]
    exact ⟨rfl, HR.out.seek m hm, RRd.fr_seek _ _⟩

set_option maxHeartbeats 1000000 in
theorem RefGet_any (S : Nat → Prop) (p a : Nat) (L : List Int) (n : Int) (w : World) (hR : RRd w S p L a) :
    Calls Try.prog 62 #[.pointer (some ⟨p, 0, none⟩), .int .i64 n] w (RRdPost w S p L (rGet L a n)) := by
  have HR := Aside0.mk hR
  have hal := hR.at_le
  have H01 := Aside0.mk hR.bits
  clear hR
  by_cases h1 : n < 0
  · have HN : Aside0 (rGet L a n = (0, 1, a)) := ⟨by unfold rGet; rw [if_pos (.inl h1)]⟩
    have d1 : decide (n < 0) = true := by simpa using h1
    go_enter Try.func62, Try.ntmps62
    go_wp2_with fail
    go_ret2
    rw [HN.out]
    exact ⟨rfl, HR.out, Fr.refl _ _⟩
  obtain ⟨m, rfl⟩ : ∃ m : Nat, n = m := ⟨n.toNat, by omega⟩
  have d1 : decide ((m : Int) < 0) = false := by simp
  by_cases h2 : 32 < m
  · have HN : Aside0 (rGet L a m = (0, 1, a)) := ⟨by unfold rGet; rw [if_pos (.inr (by omega))]⟩
    have d2 : decide ((32 : Int) < (m : Int)) = true := by simp; omega
    clear h1
    go_enter Try.func62, Try.ntmps62
    go_wp2_with fail
    go_ret2
    rw [HN.out]
    exact ⟨rfl, HR.out, Fr.refl _ _⟩
  have d2 : decide ((32 : Int) < (m : Int)) = false := by simp; omega
  have hm32 : m ≤ 32 := by omega
  by_cases h3 : L.length < a + m
  · have HN : Aside0 (rGet L a m = (0, 3, a)) := ⟨by unfold rGet; rw [if_neg (by omega), if_pos (by omega)]⟩
    have HNX := Aside0.mk (RefNext_short S p a m L w HR.out (by omega) h3)
    clear h1 h2
    go_enter Try.func62, Try.ntmps62
    go_wp2_with fail
    refine HNX.out.mono ?_
    rintro e w1 ⟨rfl, hr1, hf1⟩
    have HR1 := Aside0.mk hr1
    have HF1 := Aside0.mk hf1
    clear hr1 hf1
    go_wp2_with fail
    refine (value_any none 0 0 [] w1 (C_nil8 w1) is01_nil (by omega)).mono ?_
    rintro e w2 ⟨rfl, rfl⟩
    go_wp2_with fail
    go_ret2
    rw [HN.out]
    exact ⟨rfl, HR1.out, HF1.out⟩
  · have HN : Aside0 (rGet L a m = (val ((L.drop a).take m), 0, a + m)) := ⟨by unfold rGet; rw [if_neg (by omega), if_neg (by omega), Int.toNat_natCast]⟩
    have HNX := Aside0.mk (RefNext_long S p a m L w HR.out (by omega) h3)
    clear h1 h2
    go_enter Try.func62, Try.ntmps62
    go_wp2_with fail
    refine HNX.out.mono ?_
    rintro e w1 ⟨A1, c1, rfl, hC1, hr1, hf1⟩
    have HR1 := Aside0.mk hr1
    have HF1 := Aside0.mk hf1
    have HC1 := Aside0.mk hC1
    clear hr1 hf1 hC1
    go_wp2_with fail
    refine (value_any A1 m c1 _ w1 HC1.out (is01_take (is01_drop H01.out a) m) (by omega)).mono ?_
    rintro e w2 ⟨rfl, rfl⟩
    go_wp2_with fail
    go_ret2
    rw [HN.out]
    exact ⟨rfl, HR1.out, HF1.out⟩

set_option maxHeartbeats 1000000 in
theorem RefTake_any (S : Nat → Prop) (p a : Nat) (L : List Int) (n : Int) (w : World) (hR : RRd w S p L a) (hn : n ≤ 9223372036854775807) :
    Calls Try.prog 67 #[.pointer (some ⟨p, 0, none⟩), .int .i64 n] w fun e w' => ∃ v S', e = .returned (.tuple #[v, .int .i64 (rTake L a n).2.1]) ∧ RB S' w' v (pk (rTake L a n).1) ∧ (∀ k, S' k → w.heap.size ≤ k) ∧ RRd w' S p L (rTake L a n).2.2 ∧ Fr (fun k => k = p) w w' := by
  have HR := Aside0.mk hR
  have hal := hR.at_le
  have hlen := hR.len
  have H01 := Aside0.mk hR.bits
  clear hR
  by_cases h1 : n < 0
  · have HN : Aside0 (rTake L a n = ([], 1, a)) := ⟨by unfold rTake; rw [if_pos h1]⟩
    have d1 : decide (n < 0) = true := by simpa using h1
    go_enter Try.func67, Try.ntmps67
    go_wp2_with fail
    go_ret2
    rw [HN.out]
    exact ⟨_, fun _ => False, rfl, RB_nil _ _, fun _ h => h.elim, HR.out, Fr.refl _ _⟩
  obtain ⟨m, rfl⟩ : ∃ m : Nat, n = m := ⟨n.toNat, by omega⟩
  have d1 : decide ((m : Int) < 0) = false := by simp
  by_cases h3 : L.length < a + m
  · have HN : Aside0 (rTake L a m = ([], 3, a)) := ⟨by unfold rTake; rw [if_neg (by omega), if_pos (by omega)]⟩
    have HNX := Aside0.mk (RefNext_short S p a m L w HR.out (by omega) h3)
    clear h1
    go_enter Try.func67, Try.ntmps67
    go_wp2_with fail
    refine HNX.out.mono ?_
    rintro e w1 ⟨rfl, hr1, hf1⟩
    have HR1 := Aside0.mk hr1
    have HF1 := Aside0.mk hf1
    clear hr1 hf1
    go_wp2_with fail
    refine (Pack_any none 0 0 [] w1 (C_nil8 w1) is01_nil (by omega)).mono ?_
    rintro e w2 ⟨v2, S2, rfl, hr2, hs2, hb2⟩
    have HR2 := Aside0.mk hr2
    have HS2 := Aside0.mk hs2
    have HB2 := Aside0.mk hb2
    clear hr2 hs2 hb2
    go_wp2_with fail
    go_ret2
    rw [HN.out]
    exact ⟨v2, S2, rfl, HR2.out, fun k hk => Nat.le_trans HF1.out.size (HS2.out k hk), HR1.out.below HB2.out, HF1.out.trans (Fr.below HB2.out _)⟩
  · have HN : Aside0 (rTake L a m = ((L.drop a).take m, 0, a + m)) := ⟨by unfold rTake; rw [if_neg (by omega), if_neg (by omega), Int.toNat_natCast]⟩
    have HNX := Aside0.mk (RefNext_long S p a m L w HR.out (by omega) h3)
    clear h1
    go_enter Try.func67, Try.ntmps67
    go_wp2_with fail
    refine HNX.out.mono ?_
    rintro e w1 ⟨A1, c1, rfl, hC1, hr1, hf1⟩
    have HR1 := Aside0.mk hr1
    have HF1 := Aside0.mk hf1
    have HC1 := Aside0.mk hC1
    clear hr1 hf1 hC1
    go_wp2_with fail
    refine (Pack_any A1 m c1 _ w1 HC1.out (is01_take (is01_drop H01.out a) m) (by omega)).mono ?_
    rintro e w2 ⟨v2, S2, rfl, hr2, hs2, hb2⟩
    have HR2 := Aside0.mk hr2
    have HS2 := Aside0.mk hs2
    have HB2 := Aside0.mk hb2
    clear hr2 hs2 hb2
    go_wp2_with fail
    go_ret2
    rw [HN.out]
    exact ⟨v2, S2, rfl, HR2.out, fun k hk => Nat.le_trans HF1.out.size (HS2.out k hk), HR1.out.below HB2.out, HF1.out.trans (Fr.below HB2.out _)⟩
end Go.Proofs.Ytmjekkkpbcehoaa.P
