/- The reference's reader: what is in memory; next, value. The reference's reader: Get, Signed, Unary, Gamma, Take, Seek, At, Left, Align. The reference's reader: Signed, Unary, Gamma, Align. Calls of a reader, as the law makes them: read and asked. same, the reference's Open. -/
import Derived.Test.YtnpheeendbchbaaBj
import Derived.Test.YtnpheeendbchbaaBn
import Derived.Test.YtnpheeendbchbaaBs
section
namespace Go.Proofs.Ytnpheeendbchbaa.P
open Go.RowKit Go.Shelf Go.Proofs.Ytnpheeendbchbaa.Bits Go.Proofs.YtnpheeendbchbaaW.PrintWords Go.Proofs.YtnpheeendbchbaaW.PrintLast Go.Proofs.YtnpheeendbchbaaW.PrintMore
set_option linter.unusedVariables false
set_option linter.unusedSimpArgs false
attribute [local go_sem ↓] Go.wp_at_zero Go.wp_at_succ

/-- A reader of the reference at block p has the bits L and stands at a. -/
structure RRd (w : World) (S : Nat → Prop) (p : Nat) (L : List Int) (at_ : Nat) : Prop where
  blk : ∃ v, w.heap[p]? = some (.cells #[v, .int .i64 (at_ : Int)] 72 (0, 0)) ∧ RB S w v L
  bits : is01 L
  at_le : at_ ≤ L.length
  len : L.length ≤ 1048576
  typed : ∀ k, S k → ∃ cells, w.heap[k]? = some (.cells cells 5 (0, 0))
theorem RRd.p_lt {w : World} {S : Nat → Prop} {p a : Nat} {L : List Int} (h : RRd w S p L a) : p < w.heap.size := by
  obtain ⟨v, hb, _⟩ := h.blk
  exact lt_of_block hb
theorem RRd.lt {w : World} {S : Nat → Prop} {p a : Nat} {L : List Int} (h : RRd w S p L a) (k : Nat) (hk : S k) : k < w.heap.size := by
  obtain ⟨cells, hc⟩ := h.typed k hk
  exact lt_of_block hc
theorem RRd.fr {w w' : World} {S T : Nat → Prop} {p a : Nat} {L : List Int} (h : RRd w S p L a) (hf : Fr T w w') (hp : ¬ T p) (hS : ∀ k, S k → ¬ T k) : RRd w' S p L a := by
  obtain ⟨v, hb, hr⟩ := h.blk
  exact ⟨⟨v, blk_fr hb hf hp, R_fr hr hf (fun k hk _ => hS k hk)⟩, h.bits, h.at_le, h.len, fun k hk => by
    obtain ⟨cells, hc⟩ := h.typed k hk
    exact ⟨cells, blk_fr hc hf (hS k hk)⟩⟩
theorem RRd.below {w w' : World} {S : Nat → Prop} {p a : Nat} {L : List Int} (h : RRd w S p L a) (hb : Below w.heap.size w w') : RRd w' S p L a := h.fr (Fr.below hb (fun _ => False)) (fun h => h) (fun _ _ h => h)
theorem RRd.drew {w : World} {S : Nat → Prop} {p a : Nat} {L : List Int} (h : RRd w S p L a) (n : Nat) : RRd (w.drewN n) S p L a := h.below (below_drewN (Below.refl _ _) n)
theorem RRd.cell1 {w : World} {S : Nat → Prop} {p a : Nat} {L : List Int} (h : RRd w S p L a) : w.cell? ⟨p, 1, none⟩ = some (.int .i64 (a : Int)) := by
  obtain ⟨v, hb, _⟩ := h.blk
  rw [cell_of_row _ _ _ _ _ _ hb]; rfl
theorem RRd.fz {w : World} {S : Nat → Prop} {p a : Nat} {L : List Int} (h : RRd w S p L a) (i : Nat) : w.frozen? ⟨p, i, none⟩ = false := by
  obtain ⟨v, hb, _⟩ := h.blk
  exact blk_frozen hb i
theorem RRd.bytes {w : World} {S : Nat → Prop} {p a : Nat} {L : List Int} (h : RRd w S p L a) : ∃ A c, w.cell? ⟨p, 0, none⟩ = some (.slice A L.length c) ∧ Kd.C (Kd.int .u8) w A L.length L ∧ L.length ≤ c ∧ ∀ ad, A = some ad → 0 < L.length → ad.block ≠ p := by
  obtain ⟨v, hb, hr⟩ := h.blk
  obtain ⟨A, c, e, hcap, hC⟩ := Kd.R_reads hr
  subst e
  refine ⟨A, c, by rw [cell_of_row _ _ _ _ _ _ hb]; rfl, hC, hcap, fun ad e hn he => ?_⟩
  obtain ⟨g, c', ev, hg⟩ := own_addr hr hn
  injection ev with ev1 _ _
  rw [e] at ev1
  injection ev1 with ev1
  subst ev1
  obtain ⟨cells, hc⟩ := h.typed g hg
  exact blk_ne hb hc (by decide) he.symm
theorem RRd.seek {w : World} {S : Nat → Prop} {p a : Nat} {L : List Int} (h : RRd w S p L a) (b : Nat) (hb : b ≤ L.length) : RRd (w.setCell ⟨p, 1, none⟩ (.int .i64 (b : Int))) S p L b := by
  obtain ⟨v, hk, hr⟩ := h.blk
  refine ⟨⟨v, blk_put hk 1 _ rfl, Kd.R_set hr hk (by simp [Kd.int, Kd.scalar]) 1 _⟩, h.bits, hb, h.len, fun k hk' => ?_⟩
  obtain ⟨cells, hc⟩ := h.typed k hk'
  exact ⟨cells, blk_far hc (blk_ne hc hk (by decide)) _⟩
set_option maxHeartbeats 1000000 in
theorem value_any (A : Option Addr) (n c : Nat) (L : List Int) (w : World) (hC : Kd.C (Kd.int .u8) w A n L) (h01 : is01 L) (hn : n ≤ 40) :
    Calls Try.prog 82 #[.slice A n c] w fun e w' => e = .returned (.int .i64 (val L)) ∧ w' = w := by
  obtain rfl := C_len8 hC
  have HC := Aside0.mk hC
  have H01 := Aside0.mk h01
  clear hC h01
  go_enter Try.func82, Try.ntmps82
  go_wp2_with fail
  go_loop [3, 8] (fun u i => ∃ k : Nat, i = .int .i64 (k : Int) ∧ k ≤ L.length ∧ u = .int .i64 (val (L.take k))) (fun _ i => L.length - (intOf i).toNat)
  case atStart => exact ⟨0, rfl, Nat.zero_le _, rfl⟩
  case round =>
    obtain ⟨k, rfl, hk, rfl⟩ := hrel
    by_cases hlt : k < L.length
    · obtain ⟨ad, e, hx⟩ := at8 HC.out k hlt
      subst e
      have hb01 := getD01 H01.out k
      have hT : L.take (k + 1) = L.take k ++ [L.getD k 0] := by
        rw [List.take_succ_eq_append_getElem hlt, List.getD_eq_getElem?_getD, List.getElem?_eq_getElem hlt]; rfl
      have HV : Aside0 (val (L.take (k + 1)) = 2 * val (L.take k) + L.getD k 0) := ⟨by rw [hT, val_snoc]⟩
      have hv := val_bound (is01_take H01.out k)
      have hp : val (L.take k) ≤ 1099511627776 := by
        have h1 := Nat.pow_le_pow_right (show 0 < 2 by omega) (show (L.take k).length ≤ 40 by rw [List.length_take]; omega)
        have h2 : ((2 ^ (L.take k).length : Nat) : Int) = (2 : Int) ^ (L.take k).length := Int.natCast_pow 2 _
        omega
      have hv0 := hv.1
      generalize val (L.take k) = V at *
      generalize L.getD k 0 = b at *
      have w1' : wrap64 b = b := wrap64_id (by omega) (by omega)
      clear hT hv
      go_wp2_with fail
      go_round
      case rel => exact ⟨k + 1, by go_num, by omega, by rw [HV.out]⟩
      case measure => simp [intOf]; omega
    · obtain rfl : k = L.length := by omega
      rw [List.take_length] at *
      go_wp2_with fail
      go_ret
      exact ⟨rfl, rfl⟩

/-- What next gives. -/
def NextPost (w : World) (S : Nat → Prop) (p : Nat) (L : List Int) (a n : Nat) (e : Ending) (w' : World) : Prop :=
  if L.length < a + n then e = .returned (.tuple #[.slice none 0 0, .int .i64 3]) ∧ RRd w' S p L a ∧ Fr (fun k => k = p) w w'
  else ∃ A c, e = .returned (.tuple #[.slice A n c, .int .i64 0]) ∧ Kd.C (Kd.int .u8) w' A n ((L.drop a).take n) ∧ RRd w' S p L (a + n) ∧ Fr (fun k => k = p) w w'

set_option maxHeartbeats 1000000 in
set_option maxRecDepth 100000 in
theorem RefNext_any (S : Nat → Prop) (p a n : Nat) (L : List Int) (w : World) (hR : RRd w S p L a) (hn : n ≤ 9223372036854775807) :
    Calls Try.prog 81 #[.pointer (some ⟨p, 0, none⟩), .int .i64 n] w (NextPost w S p L a n) := by
  obtain ⟨A, c, c0, hC, hcap, hA⟩ := hR.bytes
  have c1 := hR.cell1
  have fz := hR.fz 1
  have hal := hR.at_le
  have hlen := hR.len
  have HR := Aside0.mk hR
  have HC := Aside0.mk hC
  have w1' : IntKind.i64.wrap ((L.length : Int) - (a : Int)) = (L.length : Int) - (a : Int) := IntWalk.i64_in _ (by omega)
  clear hR hC
  by_cases h : L.length < a + n
  · clear hA
    have d1 : decide ((L.length : Int) - (a : Int) < (n : Int)) = true := by simp; omega
    have HN : Aside0 (L.length < a + n) := ⟨h⟩
    clear h
    go_enter Try.func81, Try.ntmps81
    go_wp2_with fail
    go_quiet (fail)
    go_wp2_with fail
    go_ret2
    unfold NextPost
    rw [if_pos HN.out]
    exact ⟨rfl, HR.out.drew _, Fr.below (below_drewN (Below.refl _ _) _) _⟩
  · have d1 : decide ((L.length : Int) - (a : Int) < (n : Int)) = false := by simp; omega
    have HN : Aside0 (¬ L.length < a + n) := ⟨h⟩
    have hle : a + n ≤ L.length := by omega
    have w2' : IntKind.i64.wrap ((a : Int) + (n : Int)) = (a : Int) + (n : Int) := IntWalk.i64_in _ (by omega)
    have hsl : ∀ W : World, (Instr.slice 27 (.slice A L.length c) (some (.int .i64 (a : Int))) (some (.int .i64 ((a : Int) + (n : Int)))) none).run Try.prog W = .ok (.slice (if c = a then A else A.map (·.add a)) n (c - a)) W := by
      intro W
      have := cut_mid (P := Try.prog) 27 5 .i64 .i64 Try.underlying27 (i := _) rfl 1 rfl A L.length c (a : Int) ((a : Int) + (n : Int)) (by omega) (by omega) (by omega) hcap W
      rw [show (((a : Int) + (n : Int)).toNat - ((a : Int)).toNat) = n by omega, Int.toNat_natCast, Nat.mul_one] at this
      exact this
    have hCm := Kd.C_mid (c := c) (lo := a) (hi := a + n) HC.out (by omega) hle hcap
    have e1 : (L.take (a + n)).drop a = (L.drop a).take n := by rw [List.drop_take, show a + n - a = n by omega]
    have e2 : ((L.drop a).take n).length = n := by rw [List.length_take, List.length_drop]; omega
    rw [e1, e2, show a * (Kd.int .u8).sz = a from Nat.mul_one a] at hCm
    have HCm := Aside0.mk hCm
    have HA : Aside0 (∀ ad, (if c = a then A else A.map (·.add a)) = some ad → 0 < n → ad.block ≠ p) := ⟨fun ad e hp => by
      split at e
      · exact hA ad e (by omega)
      · obtain ⟨ad', e', rfl⟩ := Option.map_eq_some_iff.1 e
        rw [add_block]
        exact hA ad' e' (by omega)⟩
    clear h hCm e1 e2 hA
    generalize hA' : (if c = a then A else A.map (·.add a)) = A' at *
    go_enter Try.func81, Try.ntmps81
    go_wp2_with fail
    go_quiet (fail)
    clear w1'
    go_wp2_with fail
    go_quiet (fail)
    go_wp2_with fail
    go_ret2
    unfold NextPost
    rw [if_neg HN.out]
    have key : ∀ m, Kd.C (Kd.int .u8) ((w.drewN m).setCell ⟨p, 1, none⟩ (.int .i64 ((a : Int) + (n : Int)))) A' n ((L.drop a).take n) ∧ RRd ((w.drewN m).setCell ⟨p, 1, none⟩ (.int .i64 ((a : Int) + (n : Int)))) S p L (a + n) ∧ Fr (fun k => k = p) w ((w.drewN m).setCell ⟨p, 1, none⟩ (.int .i64 ((a : Int) + (n : Int)))) := fun m => by
      have h := (HR.out.drew m).seek (a + n) hle
      rw [Int.natCast_add] at h
      have hf : Fr (fun k => k = p) w ((w.drewN m).setCell ⟨p, 1, none⟩ (.int .i64 ((a : Int) + (n : Int)))) := Fr.setCell (S := fun k => k = p) (Fr.below (below_drewN (Below.refl _ _) _) _) (p := ⟨p, 1, none⟩) (fun _ => rfl) _
      exact ⟨C_fr HCm.out hf (fun ad e hn' => HA.out ad e (by have := C_len8 HCm.out; omega)), h, hf⟩
    exact ⟨A', c - a, rfl, key _⟩
theorem RefNext_short (S : Nat → Prop) (p a n : Nat) (L : List Int) (w : World) (hR : RRd w S p L a) (hn : n ≤ 9223372036854775807) (h : L.length < a + n) :
    Calls Try.prog 81 #[.pointer (some ⟨p, 0, none⟩), .int .i64 n] w fun e w' => e = .returned (.tuple #[.slice none 0 0, .int .i64 3]) ∧ RRd w' S p L a ∧ Fr (fun k => k = p) w w' :=
  (RefNext_any S p a n L w hR hn).mono fun e w' q => by unfold NextPost at q; rwa [if_pos h] at q
theorem RefNext_long (S : Nat → Prop) (p a n : Nat) (L : List Int) (w : World) (hR : RRd w S p L a) (hn : n ≤ 9223372036854775807) (h : ¬ L.length < a + n) :
    Calls Try.prog 81 #[.pointer (some ⟨p, 0, none⟩), .int .i64 n] w fun e w' => ∃ A c, e = .returned (.tuple #[.slice A n c, .int .i64 0]) ∧ Kd.C (Kd.int .u8) w' A n ((L.drop a).take n) ∧ RRd w' S p L (a + n) ∧ Fr (fun k => k = p) w w' :=
  (RefNext_any S p a n L w hR hn).mono fun e w' q => by unfold NextPost at q; rwa [if_neg h] at q
end Go.Proofs.Ytnpheeendbchbaa.P
end
section
namespace Go.Proofs.Ytnpheeendbchbaa.P
open Go.RowKit Go.Shelf Go.Proofs.Ytnpheeendbchbaa.Bits Go.Proofs.YtnpheeendbchbaaW.PrintWords Go.Proofs.YtnpheeendbchbaaW.PrintLast Go.Proofs.YtnpheeendbchbaaW.PrintMore
set_option linter.unusedVariables false
set_option linter.unusedSimpArgs false
attribute [local go_sem ↓] Go.wp_at_zero Go.wp_at_succ

/-- What a call of the reference's reader that gives a number and an error says. -/
def RRdPost (w : World) (S : Nat → Prop) (p : Nat) (L : List Int) (r : Int × Int × Nat) (e : Ending) (w' : World) : Prop := e = .returned (.tuple #[.int .i64 r.1, .int .i64 r.2.1]) ∧ RRd w' S p L r.2.2 ∧ Fr (fun k => k = p) w w'
theorem val_nil : val [] = 0 := rfl
theorem C_nil8 (w : World) : Kd.C (Kd.int .u8) w none 0 [] := ⟨rfl, by omega, fun h => by omega⟩

theorem RefAt_any (S : Nat → Prop) (p a : Nat) (L : List Int) (w : World) (hR : RRd w S p L a) : Calls Try.prog 24 #[.pointer (some ⟨p, 0, none⟩)] w fun e w' => e = .returned (.int .i64 (a : Int)) ∧ w' = w := by
  have c1 := hR.cell1
  clear hR
  go_enter Try.func24, Try.ntmps24
  go_wp2_with fail
  go_ret
  exact ⟨rfl, rfl⟩
theorem RRd.fr_seek {w : World} {p : Nat} (u : Value) (j : Nat) : Fr (fun k => k = p) w (w.setCell ⟨p, j, none⟩ u) := Fr.setCell (S := fun k => k = p) (Fr.refl _ _) (p := ⟨p, j, none⟩) (fun _ => rfl) u
set_option maxHeartbeats 1000000 in
theorem RefSeek_any (S : Nat → Prop) (p a : Nat) (L : List Int) (n : Int) (w : World) (hR : RRd w S p L a) :
    Calls Try.prog 20 #[.pointer (some ⟨p, 0, none⟩), .int .i64 n] w fun e w' => e = .returned (.int .i64 (rSeek L a n).1) ∧ RRd w' S p L (rSeek L a n).2 ∧ Fr (fun k => k = p) w w' := by
  obtain ⟨A, c, c0, _, hcap, _⟩ := hR.bytes
  have c1 := hR.cell1
  have fz := hR.fz 1
  have HR := Aside0.mk hR
  clear hR
  by_cases h1 : n < 0
  · have HN : Aside0 (rSeek L a n = (6, a)) := ⟨by unfold rSeek; rw [if_pos (.inl h1)]⟩
    have d1 : decide (n < 0) = true := by simpa using h1
    go_enter Try.func20, Try.ntmps20
    go_wp2_with fail
    go_ret
    rw [HN.out]
    exact ⟨rfl, HR.out, Fr.refl _ _⟩
  obtain ⟨m, rfl⟩ : ∃ m : Nat, n = m := ⟨n.toNat, by omega⟩
  have d1 : decide ((m : Int) < 0) = false := by simp
  by_cases h2 : L.length < m
  · have HN : Aside0 (rSeek L a m = (6, a)) := ⟨by unfold rSeek; rw [if_pos (.inr (by omega))]⟩
    have d2 : decide (L.length < m) = true := by simpa using h2
    clear h1
    go_enter Try.func20, Try.ntmps20
    go_wp2_with fail
    go_ret
    rw [HN.out]
    exact ⟨rfl, HR.out, Fr.refl _ _⟩
  · have HN : Aside0 (rSeek L a m = (0, m)) := ⟨by unfold rSeek; rw [if_neg (by omega)]; simp⟩
    have d2 : decide (L.length < m) = false := by simpa using h2
    have hm : m ≤ L.length := by omega
    clear h1
    go_enter Try.func20, Try.ntmps20
    go_wp2_with fail
    go_ret
    rw [HN.out]
    exact ⟨rfl, HR.out.seek m hm, RRd.fr_seek _ _⟩

set_option maxHeartbeats 1000000 in
theorem RefGet_any (S : Nat → Prop) (p a : Nat) (L : List Int) (n : Int) (w : World) (hR : RRd w S p L a) :
    Calls Try.prog 57 #[.pointer (some ⟨p, 0, none⟩), .int .i64 n] w (RRdPost w S p L (rGet L a n)) := by
  have HR := Aside0.mk hR
  have hal := hR.at_le
  have H01 := Aside0.mk hR.bits
  clear hR
  by_cases h1 : n < 0
  · have HN : Aside0 (rGet L a n = (0, 1, a)) := ⟨by unfold rGet; rw [if_pos (.inl h1)]⟩
    have d1 : decide (n < 0) = true := by simpa using h1
    go_enter Try.func57, Try.ntmps57
    go_wp2_with fail
    go_ret2
    rw [HN.out]
    exact ⟨rfl, HR.out, Fr.refl _ _⟩
  obtain ⟨m, rfl⟩ : ∃ m : Nat, n = m := ⟨n.toNat, by omega⟩
  have d1 : decide ((m : Int) < 0) = false := by simp
  by_cases h2 : 32 < m
  · have HN : Aside0 (rGet L a m = (0, 1, a)) := ⟨by unfold rGet; rw [if_pos (.inr (by omega))]⟩
    have d2 : decide ((32 : Int) < (m : Int)) = true := by simp; omega
    clear h1
    go_enter Try.func57, Try.ntmps57
    go_wp2_with fail
    go_ret2
    rw [HN.out]
    exact ⟨rfl, HR.out, Fr.refl _ _⟩
  have d2 : decide ((32 : Int) < (m : Int)) = false := by simp; omega
  have hm32 : m ≤ 32 := by omega
  by_cases h3 : L.length < a + m
  · have HN : Aside0 (rGet L a m = (0, 3, a)) := ⟨by unfold rGet; rw [if_neg (by omega), if_pos (by omega)]⟩
    have HNX := Aside0.mk (RefNext_short S p a m L w HR.out (by omega) h3)
    clear h1 h2
    go_enter Try.func57, Try.ntmps57
    go_wp2_with fail
    refine HNX.out.mono ?_
    rintro e w1 ⟨rfl, hr1, hf1⟩
    have HR1 := Aside0.mk hr1
    have HF1 := Aside0.mk hf1
    clear hr1 hf1
    go_wp2_with fail
    refine (value_any none 0 0 [] w1 (C_nil8 w1) is01_nil (by omega)).mono ?_
    rintro e w2 ⟨rfl, rfl⟩
    go_wp2_with fail
    go_ret2
    rw [HN.out]
    exact ⟨rfl, HR1.out, HF1.out⟩
  · have HN : Aside0 (rGet L a m = (val ((L.drop a).take m), 0, a + m)) := ⟨by unfold rGet; rw [if_neg (by omega), if_neg (by omega), Int.toNat_natCast]⟩
    have HNX := Aside0.mk (RefNext_long S p a m L w HR.out (by omega) h3)
    clear h1 h2
    go_enter Try.func57, Try.ntmps57
    go_wp2_with fail
    refine HNX.out.mono ?_
    rintro e w1 ⟨A1, c1, rfl, hC1, hr1, hf1⟩
    have HR1 := Aside0.mk hr1
    have HF1 := Aside0.mk hf1
    have HC1 := Aside0.mk hC1
    clear hr1 hf1 hC1
    go_wp2_with fail
    refine (value_any A1 m c1 _ w1 HC1.out (is01_take (is01_drop H01.out a) m) (by omega)).mono ?_
    rintro e w2 ⟨rfl, rfl⟩
    go_wp2_with fail
    go_ret2
    rw [HN.out]
    exact ⟨rfl, HR1.out, HF1.out⟩

end Go.Proofs.Ytnpheeendbchbaa.P
end
section
namespace Go.Proofs.Ytnpheeendbchbaa.P
open Go.RowKit Go.Shelf Go.Proofs.Ytnpheeendbchbaa.Bits Go.Proofs.YtnpheeendbchbaaW.PrintWords Go.Proofs.YtnpheeendbchbaaW.PrintLast Go.Proofs.YtnpheeendbchbaaW.PrintMore
set_option linter.unusedVariables false
set_option linter.unusedSimpArgs false
attribute [local go_sem ↓] Go.wp_at_zero Go.wp_at_succ

theorem val_cons (b : Int) (M : List Int) : val (b :: M) = b * 2 ^ M.length + val M := by
  induction M using snoc_ind with
  | h0 => simp [val]
  | h1 M c ih =>
    rw [← List.cons_append, val_snoc, val_snoc, ih, List.length_append, List.length_singleton, Int.pow_succ]
    have : b * (2 ^ M.length * 2) = 2 * (b * 2 ^ M.length) := by rw [← Int.mul_assoc, Int.mul_comm]
    omega
theorem sgn_top {M : List Int} (h : is01 M) (hl : 0 < M.length) : sgn (val M) M.length = if M.getD 0 0 = 1 then val M - 2 ^ M.length else val M := by
  cases M with
  | nil => simp at hl
  | cons b M =>
    have hb := h b List.mem_cons_self
    have hv := val_bound (L := M) (fun x hx => h x (List.mem_cons_of_mem _ hx))
    have hc := val_cons b M
    have hp : (0 : Int) < 2 ^ M.length := Int.pow_pos (by omega)
    unfold sgn
    have e1 : (b :: M).length - 1 = M.length := by simp
    have e2 : (b :: M).getD 0 0 = b := rfl
    rw [e1, e2]
    rcases hb with rfl | rfl
    · rw [if_neg (by omega), if_neg (by omega)]
    · rw [if_pos (by omega), if_pos rfl]

set_option maxHeartbeats 1000000 in
theorem RefUnary_any (S : Nat → Prop) (p a : Nat) (L : List Int) (n : Int) (w : World) (hR : RRd w S p L a) :
    Calls Try.prog 56 #[.pointer (some ⟨p, 0, none⟩), .int .i64 n] w (RRdPost w S p L (rUnary L a n)) := by
  have HR := Aside0.mk hR
  have hal := hR.at_le
  have hlen := hR.len
  have h01 := hR.bits
  clear hR
  by_cases h1 : n < 0
  · have HN : Aside0 (rUnary L a n = (0, 1, a)) := ⟨by unfold rUnary; rw [if_pos (.inl h1)]⟩
    have d1 : decide (n < 0) = true := by simpa using h1
    go_enter Try.func56, Try.ntmps56
    go_wp2_with fail
    go_ret2
    rw [HN.out]
    exact ⟨rfl, HR.out, Fr.refl _ _⟩
  obtain ⟨m, rfl⟩ : ∃ m : Nat, n = m := ⟨n.toNat, by omega⟩
  have d1 : decide ((m : Int) < 0) = false := by simp
  by_cases h2 : 1000 < m
  · have HN : Aside0 (rUnary L a m = (0, 1, a)) := ⟨by unfold rUnary; rw [if_pos (.inr (by omega))]⟩
    have d2 : decide ((1000 : Int) < (m : Int)) = true := by simp; omega
    clear h1
    go_enter Try.func56, Try.ntmps56
    go_wp2_with fail
    go_ret2
    rw [HN.out]
    exact ⟨rfl, HR.out, Fr.refl _ _⟩
  have d2 : decide ((1000 : Int) < (m : Int)) = false := by simp; omega
  have hm32 : m ≤ 1000 := by omega
  have HN0 : Aside0 (rUnary L a m = rZeros L a m) := ⟨by unfold rUnary; rw [if_neg (by omega), Int.toNat_natCast]⟩
  have hzl := zs_le (L.drop a)
  rw [List.length_drop] at hzl
  clear h1 h2
  go_enter Try.func56, Try.ntmps56
  go_wp2_with fail
  go_loopw [6] (fun i wr => ∃ k : Nat, i = .int .i64 (k : Int) ∧ k ≤ m + 1 ∧ Aside0 (k ≤ zs (L.drop a)) ∧ Aside0 (RRd wr S p L a) ∧ Aside0 (Fr (fun k => k = p) w wr)) (fun i _ => m + 1 - (intOf i).toNat)
  case atStart => exact ⟨0, rfl, Nat.zero_le _, ⟨Nat.zero_le _⟩, HR, ⟨Fr.refl _ _⟩⟩
  case round =>
    obtain ⟨k, rfl, hk, HZ, HRr, HF⟩ := hrel
    by_cases hlt : k ≤ m
    · obtain ⟨A, c, c0, hC, hcap, hA⟩ := HRr.out.bytes
      have c1 := HRr.out.cell1
      have fz := HRr.out.fz 1
      have hkl := HZ.out
      have HC := Aside0.mk hC
      have w1' : IntKind.i64.wrap ((a : Int) + (k : Int)) = (a : Int) + (k : Int) := IntWalk.i64_in _ (by omega)
      clear hA hC
      by_cases hs : L.length ≤ a + k
      · have HN : Aside0 (rZeros L a m = (0, 3, a)) := ⟨by unfold rZeros; rw [if_neg (by omega), if_neg (by omega)]⟩
        have d3 : decide ((L.length : Int) ≤ (a : Int) + (k : Int)) = true := by simp; omega
        go_wp2_with fail
        go_quiet (fail)
        go_wp2_with fail
        go_ret2
        rw [HN0.out, HN.out]
        exact ⟨rfl, HRr.out.drew _, HF.out.trans (Fr.below (below_drewN (Below.refl _ _) _) _)⟩
      · have d3 : decide ((L.length : Int) ≤ (a : Int) + (k : Int)) = false := by simp; omega
        obtain ⟨ad, e, hx⟩ := at8 HC.out (a + k) (by omega)
        subst e
        have hkd : k < (L.drop a).length := by rw [List.length_drop]; omega
        have hgd : (L.drop a).getD k 0 = L.getD (a + k) 0 := getD_drop' L a k
        have hb01 := getD01 h01 (a + k)
        obtain ⟨q, hq⟩ : ∃ q, q = a + k := ⟨_, rfl⟩
        have w2' : (a : Int) + (k : Int) = (q : Int) := by omega
        rw [← hq] at hx hgd hb01
        have hql : q < L.length := by omega
        have w3' : IntKind.i64.wrap (q : Int) = (q : Int) := IntWalk.i64_in _ (by omega)
        have i1 : (0 : Int) ≤ (q : Int) := by omega
        have i2 : (q : Int) < (L.length : Int) := by omega
        rw [w2'] at w1' d3
        by_cases hb : L.getD q 0 = 1
        · have hz := zs_one hkd hkl (by rw [hgd, hb]; decide)
          have HN : Aside0 (rZeros L a m = ((k : Int), 0, a + (k + 1))) := ⟨by unfold rZeros; rw [hz, if_neg (by omega), if_pos (by omega), Nat.add_assoc]⟩
          rw [hb] at hx
          have hle : a + (k + 1) ≤ L.length := by omega
          clear hgd hb hb01 hkd hz hkl hq
          go_wp2_with fail
          go_quiet (fail)
          go_wp2_with fail
          go_quiet (fail)
          go_wp2_with fail
          go_ret2
          rw [HN0.out, HN.out]
          have key : ∀ j, RRd ((wr.drewN j).setCell ⟨p, 1, none⟩ (.int .i64 ((a : Int) + ((k : Int) + 1)))) S p L (a + (k + 1)) ∧ Fr (fun k => k = p) w ((wr.drewN j).setCell ⟨p, 1, none⟩ (.int .i64 ((a : Int) + ((k : Int) + 1)))) := fun j => by
            have h := (HRr.out.drew j).seek (a + (k + 1)) hle
            rw [show ((a + (k + 1) : Nat) : Int) = (a : Int) + ((k : Int) + 1) by omega] at h
            exact ⟨h, (HF.out.trans (Fr.below (below_drewN (Below.refl _ _) j) _)).setCell (p := ⟨p, 1, none⟩) (fun _ => rfl) _⟩
          exact ⟨rfl, (key _).1, (key _).2⟩
        · have HZ1 := Aside0.mk (zs_step hkd hkl (by rw [hgd]; omega))
          have q1 : (L.getD q 0 == 1) = false := beq_eq_false_iff_ne.2 hb
          generalize L.getD q 0 = b at *
          clear hgd hb hb01 hkd hkl hq
          go_wp2_with fail
          go_quiet (fail)
          go_wp2_with fail
          go_quiet (fail)
          go_wp2_with fail
          go_roundw
          case rel => exact ⟨k + 1, by go_num, by omega, HZ1, ⟨HRr.out.drew _⟩, ⟨HF.out.trans (Fr.below (below_drewN (Below.refl _ _) _) _)⟩⟩
          case measure => simp [intOf]; omega
    · obtain rfl : k = m + 1 := by omega
      have hz := HZ.out
      have HN : Aside0 (rZeros L a m = (0, 4, a)) := ⟨by unfold rZeros; rw [if_pos (by omega)]⟩
      go_wp2_with fail
      go_ret2
      rw [HN0.out, HN.out]
      exact ⟨rfl, HRr.out, HF.out⟩

end Go.Proofs.Ytnpheeendbchbaa.P
end
section
namespace Go.Proofs.Ytnpheeendbchbaa.P
open Go.RowKit Go.Shelf Go.Proofs.Ytnpheeendbchbaa.Bits Go.Proofs.YtnpheeendbchbaaW.PrintWords Go.Proofs.YtnpheeendbchbaaW.PrintLast Go.Proofs.YtnpheeendbchbaaW.PrintMore
set_option linter.unusedVariables false
set_option linter.unusedSimpArgs false
attribute [local go_sem ↓] Go.wp_at_zero Go.wp_at_succ

/-- What a call of a reader gives: a number, bits, an error, where it stands then. -/
def rOp (L : List Int) (a : Nat) (o : OpD) : Int × List Int × Int × Nat := match o.kind % 7 with
  | 0 => ((rGet L a o.n).1, [], (rGet L a o.n).2.1, (rGet L a o.n).2.2)
  | 1 => ((rSigned L a o.n).1, [], (rSigned L a o.n).2.1, (rSigned L a o.n).2.2)
  | 2 => ((rUnary L a o.n).1, [], (rUnary L a o.n).2.1, (rUnary L a o.n).2.2)
  | 3 => ((rGamma L a).1, [], (rGamma L a).2.1, (rGamma L a).2.2)
  | 4 => ((rAlign L a : Int) - a, [], 0, rAlign L a)
  | 5 => (0, (rTake L a o.n).1, (rTake L a o.n).2.1, (rTake L a o.n).2.2)
  | _ => (0, [], (rSeek L a o.n).1, (rSeek L a o.n).2)
def reply (L : List Int) (r : Int × List Int × Int × Nat) (v : Value) : Value := .agg #[.int .i64 r.1, v, .int .i64 r.2.2.1, .int .i64 (r.2.2.2 : Int), .int .i64 ((L.length : Int) - (r.2.2.2 : Int))]
def ReadPost (w : World) (S : Nat → Prop) (p : Nat) (L : List Int) (r : Int × List Int × Int × Nat) (e : Ending) (w' : World) : Prop :=
  ∃ v S', e = .returned (reply L r v) ∧ RB S' w' v (pk r.2.1) ∧ (∀ k, S' k → w.heap.size ≤ k) ∧ Rd w' S p L r.2.2.2 ∧ Fr (fun k => k = p) w w'
theorem from_fr {T St : Nat → Prop} {w W w1 : World} (h : Fr T W w1) (hb : Below w.heap.size w W) (hs : ∀ k, St k → W.heap.size ≤ k) : ∀ k, St k → w.heap.size ≤ k := fun k hk => Nat.le_trans hb.size (hs k hk)
theorem fr_setRow (w : World) (g : Nat) (cs : Array Value) : Fr (fun k => k = g) w (w.setRow g cs) := ⟨rfl, rfl, rfl, by simp, fun k _ h => setRow_other w g k cs h⟩
def AskPost (w : World) (S : Nat → Prop) (p : Nat) (L : List Int) (r : Int × List Int × Int × Nat) (e : Ending) (w' : World) : Prop :=
  ∃ v S', e = .returned (reply L r v) ∧ RB S' w' v (pk r.2.1) ∧ (∀ k, S' k → w.heap.size ≤ k) ∧ RRd w' S p L r.2.2.2 ∧ Fr (fun k => k = p) w w'

end Go.Proofs.Ytnpheeendbchbaa.P
end
section
namespace Go.Proofs.Ytnpheeendbchbaa.P
open Go.RowKit Go.Shelf Go.Proofs.Ytnpheeendbchbaa.Bits Go.Proofs.YtnpheeendbchbaaW.PrintWords Go.Proofs.YtnpheeendbchbaaW.PrintLast Go.Proofs.YtnpheeendbchbaaW.PrintMore
set_option linter.unusedVariables false
set_option linter.unusedSimpArgs false
attribute [local go_sem ↓] Go.wp_at_zero Go.wp_at_succ

def ROpenPost (w : World) (B : List Int) (n : Int) (e : Ending) (w' : World) : Prop :=
  if openE B n = 0 then ∃ p S, e = .returned (.tuple #[.pointer (some ⟨p, 0, none⟩), .int .i64 0]) ∧ RRd w' S p (ofB B n.toNat) 0 ∧ w.heap.size ≤ p ∧ (∀ k, S k → w.heap.size ≤ k) ∧ Below w.heap.size w w'
  else e = .returned (.tuple #[.pointer none, .int .i64 (openE B n)]) ∧ w' = w
set_option maxHeartbeats 1000000 in
set_option maxRecDepth 100000 in
theorem RefOpen_any (A : Option Addr) (c : Nat) (B : List Int) (n : Int) (w : World) (hC : Kd.C (Kd.int .u8) w A B.length B) (hB : is8 B) (hBl : B.length ≤ 1000000000) :
    Calls Try.prog 18 #[.slice A B.length c, .int .i64 n] w (ROpenPost w B n) := by
  have HC := Aside0.mk hC
  have H8 := Aside0.mk hB
  clear hC hB
  by_cases h1 : n < 0
  · have HN : Aside0 (openE B n = 1) := ⟨by unfold openE; rw [if_pos (.inl h1)]⟩
    have d1 : decide (n < 0) = true := by simpa using h1
    go_enter Try.func18, Try.ntmps18
    go_wp2_with fail
    go_ret2
    unfold ROpenPost
    rw [HN.out, if_neg (by decide)]
    exact ⟨rfl, rfl⟩
  obtain ⟨m, rfl⟩ : ∃ m : Nat, n = m := ⟨n.toNat, by omega⟩
  have d1 : decide ((m : Int) < 0) = false := by simp
  by_cases h2 : 8 * (B.length : Int) < m
  · have HN : Aside0 (openE B m = 1) := ⟨by unfold openE; rw [if_pos (.inr h2)]⟩
    have d2 : decide (8 * (B.length : Int) < (m : Int)) = true := by simpa using h2
    clear h1
    go_enter Try.func18, Try.ntmps18
    go_wp2_with fail
    go_ret2
    unfold ROpenPost
    rw [HN.out, if_neg (by decide)]
    exact ⟨rfl, rfl⟩
  have d2 : decide (8 * (B.length : Int) < (m : Int)) = false := by simpa using h2
  by_cases h3 : 1048576 < (m : Int)
  · have HN : Aside0 (openE B m = 2) := ⟨by unfold openE; rw [if_neg (by omega), if_pos h3]⟩
    have d3 : decide (1048576 < (m : Int)) = true := by simpa using h3
    clear h1
    go_enter Try.func18, Try.ntmps18
    go_wp2_with fail
    go_ret2
    unfold ROpenPost
    rw [HN.out, if_neg (by decide)]
    exact ⟨rfl, rfl⟩
  · have HN : Aside0 (openE B m = 0) := ⟨by unfold openE; rw [if_neg (by omega), if_neg h3]⟩
    have d3 : decide (1048576 < (m : Int)) = false := by simpa using h3
    have hm : m ≤ 1048576 := by omega
    have hm8 : m ≤ 8 * B.length := by omega
    have HOF := Aside0.mk (Of_any A B.length c m B w HC.out H8.out hm8 hBl)
    clear h1 h2 h3
    go_enter Try.func18, Try.ntmps18
    go_wp2_with fail
    refine HOF.out.mono ?_
    rintro e w1 ⟨v, S, rfl, hr, hs, hb⟩
    obtain ⟨Av, cv, ev⟩ := Kd.R_slice hr
    subst ev
    rw [ofB_length] at hr ⊢
    have HR := Aside0.mk hr
    have HS := Aside0.mk hs
    have HB := Aside0.mk hb
    clear hr hs hb
    go_wp2_with fail
    go_ret2
    unfold ROpenPost
    rw [HN.out, if_pos rfl, Int.toNat_natCast]
    have hr1 := Kd.R_bound HR.out
    have hsz := HB.out.size
    refine ⟨w1.heap.size, fun k => S k ∧ ∃ cells, (w1.alloc (.cells #[.slice Av m cv, .int .i64 0] 72)).heap[k]? = some (.cells cells 5 (0, 0)), rfl, ⟨⟨.slice Av m cv, World.alloc_heap_new w1 _, ?_⟩, ofB_01 _ _, Nat.zero_le _, by rw [ofB_length]; exact hm, fun k hk => hk.2⟩, hsz, fun k hk => HS.out k hk.1, HB.out.alloc hsz _⟩
    refine Kd.R_mono (Kd.R_alloc hr1 _) (fun k hk => ⟨hk.1, ?_⟩)
    obtain ⟨q', hq', cells, hc⟩ := hk.2.2.2
    obtain rfl : q' = 5 := by simpa [Kd.int, Kd.scalar] using hq'
    exact ⟨cells, blk_alloc' hc _⟩
end Go.Proofs.Ytnpheeendbchbaa.P
end
