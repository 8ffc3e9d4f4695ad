/- The reference's reader: what is in memory; next, value. -/
import Derived.Test.YtmjekkkpbcehoaaBm
import Derived.Test.YtmjekkkpbcehoaaBo
import Derived.Test.YtmjekkkpbcehoaaCa
namespace Go.Proofs.Ytmjekkkpbcehoaa.P
open Go.RowKit Go.Shelf Go.Proofs.Ytmjekkkpbcehoaa.Bits Go.Proofs.YtmjekkkpbcehoaaW.PrintWords Go.Proofs.YtmjekkkpbcehoaaW.PrintLast Go.Proofs.YtmjekkkpbcehoaaW.PrintMore
set_option linter.unusedVariables false
set_option linter.unusedSimpArgs false
attribute [local go_sem ↓] Go.wp_at_zero Go.wp_at_succ

/-- A reader of the reference at block p has the bits L and stands at a. -/
structure RRd (w : World) (S : Nat → Prop) (p : Nat) (L : List Int) (at_ : Nat) : Prop where
  blk : ∃ v, w.heap[p]? = some (.cells #[v, .int .i64 (at_ : Int)] 76 (0, 0)) ∧ RB S w v L
  bits : is01 L
  at_le : at_ ≤ L.length
  len : L.length ≤ 1048576
  typed : ∀ k, S k → ∃ cells, w.heap[k]? = some (.cells cells 5 (0, 0))
theorem RRd.p_lt {w : World} {S : Nat → Prop} {p a : Nat} {L : List Int} (h : RRd w S p L a) : p < w.heap.size := by
  obtain ⟨v, hb, _⟩ := h.blk
  exact lt_of_block hb
theorem RRd.lt {w : World} {S : Nat → Prop} {p a : Nat} {L : List Int} (h : RRd w S p L a) (k : Nat) (hk : S k) : k < w.heap.size := by
  obtain ⟨cells, hc⟩ := h.typed k hk
  exact lt_of_block hc
theorem RRd.fr {w w' : World} {S T : Nat → Prop} {p a : Nat} {L : List Int} (h : RRd w S p L a) (hf : Fr T w w') (hp : ¬ T p) (hS : ∀ k, S k → ¬ T k) : RRd w' S p L a := by
  obtain ⟨v, hb, hr⟩ := h.blk
  exact ⟨⟨v, blk_fr hb hf hp, R_fr hr hf (fun k hk _ => hS k hk)⟩, h.bits, h.at_le, h.len, fun k hk => by
    obtain ⟨cells, hc⟩ := h.typed k hk
    exact ⟨cells, blk_fr hc hf (hS k hk)⟩⟩
theorem RRd.below {w w' : World} {S : Nat → Prop} {p a : Nat} {L : List Int} (h : RRd w S p L a) (hb : Below w.heap.size w w') : RRd w' S p L a := h.fr (Fr.below hb (fun _ => False)) (fun h => h) (fun _ _ h => h)
theorem RRd.drew {w : World} {S : Nat → Prop} {p a : Nat} {L : List Int} (h : RRd w S p L a) (n : Nat) : RRd (w.drewN n) S p L a := h.below (below_drewN (Below.refl _ _) n)
theorem RRd.cell1 {w : World} {S : Nat → Prop} {p a : Nat} {L : List Int} (h : RRd w S p L a) : w.cell? ⟨p, 1, none⟩ = some (.int .i64 (a : Int)) := by
  obtain ⟨v, hb, _⟩ := h.blk
  rw [cell_of_row _ _ _ _ _ _ hb]; rfl
theorem RRd.fz {w : World} {S : Nat → Prop} {p a : Nat} {L : List Int} (h : RRd w S p L a) (i : Nat) : w.frozen? ⟨p, i, none⟩ = false := by
  obtain ⟨v, hb, _⟩ := h.blk
  exact blk_frozen hb i
theorem RRd.bytes {w : World} {S : Nat → Prop} {p a : Nat} {L : List Int} (h : RRd w S p L a) : ∃ A c, w.cell? ⟨p, 0, none⟩ = some (.slice A L.length c) ∧ Kd.C (Kd.int .u8) w A L.length L ∧ L.length ≤ c ∧ ∀ ad, A = some ad → 0 < L.length → ad.block ≠ p := by
  obtain ⟨v, hb, hr⟩ := h.blk
  obtain ⟨A, c, e, hcap, hC⟩ := Kd.R_reads hr
  subst e
  refine ⟨A, c, by rw [cell_of_row _ _ _ _ _ _ hb]; rfl, hC, hcap, fun ad e hn he => ?_⟩
  obtain ⟨g, c', ev, hg⟩ := own_addr hr hn
  injection ev with ev1 _ _
  rw [e] at ev1
  injection ev1 with ev1
  subst ev1
  obtain ⟨cells, hc⟩ := h.typed g hg
  exact blk_ne hb hc (by decide) he.symm
theorem RRd.seek {w : World} {S : Nat → Prop} {p a : Nat} {L : List Int} (h : RRd w S p L a) (b : Nat) (hb : b ≤ L.length) : RRd (w.setCell ⟨p, 1, none⟩ (.int .i64 (b : Int))) S p L b := by
  obtain ⟨v, hk, hr⟩ := h.blk
  refine ⟨⟨v, blk_put hk 1 _ rfl, Kd.R_set hr hk (by simp [Kd.int, Kd.scalar]) 1 _⟩, h.bits, hb, h.len, fun k hk' => ?_⟩
  obtain ⟨cells, hc⟩ := h.typed k hk'
  exact ⟨cells, blk_far hc (blk_ne hc hk (by decide)) _⟩
set_option maxHeartbeats 1000000 in
theorem value_any (A : Option Addr) (n c : Nat) (L : List Int) (w : World) (hC : Kd.C (Kd.int .u8) w A n L) (h01 : is01 L) (hn : n ≤ 40) :
    Calls Try.prog 77 #[.slice A n c] w fun e w' => e = .returned (.int .i64 (val L)) ∧ w' = w := by
  obtain rfl := C_len8 hC
  have HC := Aside0.mk hC
  have H01 := Aside0.mk h01
  clear hC h01
  go_enter Try.func77, Try.ntmps77
  go_wp2_with fail
  go_loop [3, 8] (fun u i => ∃ k : Nat, i = .int .i64 (k : Int) ∧ k ≤ L.length ∧ u = .int .i64 (val (L.take k))) (fun _ i => L.length - (intOf i).toNat)
  case atStart => exact ⟨0, rfl, Nat.zero_le _, rfl⟩
  case round =>
    obtain ⟨k, rfl, hk, rfl⟩ := hrel
    by_cases hlt : k < L.length
    · obtain ⟨ad, e, hx⟩ := at8 HC.out k hlt
      subst e
      have hb01 := getD01 H01.out k
      have hT : L.take (k + 1) = L.take k ++ [L.getD k 0] := by
        rw [List.take_succ_eq_append_getElem hlt, List.getD_eq_getElem?_getD, List.getElem?_eq_getElem hlt]; rfl
      have HV : Aside0 (val (L.take (k + 1)) = 2 * val (L.take k) + L.getD k 0) := ⟨by rw [hT, val_snoc]⟩
      have hv := val_bound (is01_take H01.out k)
      have hp : val (L.take k) ≤ 1099511627776 := by
        have h1 := Nat.pow_le_pow_right (show 0 < 2 by omega) (show (L.take k).length ≤ 40 by rw [List.length_take]; omega)
        have h2 : ((2 ^ (L.take k).length : Nat) : Int) = (2 : Int) ^ (L.take k).length := Int.natCast_pow 2 _
        omega
      have hv0 := hv.1
      generalize val (L.take k) = V at *
      generalize L.getD k 0 = b at *
      have w1' : wrap64 b = b := wrap64_id (by omega) (by omega)
      clear hT hv
      go_wp2_with fail
      go_round
      case rel => exact ⟨k + 1, by go_num, by omega, by rw [HV.out]⟩
      case measure => simp [intOf]; omega
    · obtain rfl : k = L.length := by omega
      rw [List.take_length] at *
      go_wp2_with fail
      go_ret
      exact ⟨rfl, rfl⟩

/-- What next gives. -/
def NextPost (w : World) (S : Nat → Prop) (p : Nat) (L : List Int) (a n : Nat) (e : Ending) (w' : World) : Prop :=
  if L.length < a + n then e = .returned (.tuple #[.slice none 0 0, .int .i64 3]) ∧ RRd w' S p L a ∧ Fr (fun k => k = p) w w'
  else ∃ A c, e = .returned (.tuple #[.slice A n c, .int .i64 0]) ∧ Kd.C (Kd.int .u8) w' A n ((L.drop a).take n) ∧ RRd w' S p L (a + n) ∧ Fr (fun k => k = p) w w'

set_option maxHeartbeats 1000000 in
theorem RefNext_any (S : Nat → Prop) (p a n : Nat) (L : List Int) (w : World) (hR : RRd w S p L a) (hn : n ≤ 9223372036854775807) :
    Calls Try.prog 76 #[.pointer (some ⟨p, 0, none⟩), .int .i64 n] w (NextPost w S p L a n) := by
  obtain ⟨A, c, c0, hC, hcap, hA⟩ := hR.bytes
  have c1 := hR.cell1
  have fz := hR.fz 1
  have hal := hR.at_le
  have hlen := hR.len
  have HR := Aside0.mk hR
  have HC := Aside0.mk hC
  have w1' : IntKind.i64.wrap ((L.length : Int) - (a : Int)) = (L.length : Int) - (a : Int) := IntWalk.i64_in _ (by omega)
  clear hR hC
  by_cases h : L.length < a + n
  · clear hA
    have d1 : decide ((L.length : Int) - (a : Int) < (n : Int)) = true := by simp; omega
    have HN : Aside0 (L.length < a + n) := ⟨h⟩
    clear h
    go_enter Try.func76, Try.ntmps76
    go_wp2_with fail
    go_quiet (fail)
    go_wp2_with fail
    go_ret2
    unfold NextPost
    rw [if_pos HN.out]
    exact ⟨rfl, HR.out.drew _, Fr.below (below_drewN (Below.refl _ _) _) _⟩
  · have d1 : decide ((L.length : Int) - (a : Int) < (n : Int)) = false := by simp; omega
    have HN : Aside0 (¬ L.length < a + n) := ⟨h⟩
    have hle : a + n ≤ L.length := by omega
    have w2' : IntKind.i64.wrap ((a : Int) + (n : Int)) = (a : Int) + (n : Int) := IntWalk.i64_in _ (by omega)
    have hsl : ∀ W : World, (Instr.slice 22 (.slice A L.length c) (some (.int .i64 (a : Int))) (some (.int .i64 ((a : Int) + (n : Int)))) none).run Try.prog W = .ok (.slice (if c = a then A else A.map (·.add a)) n (c - a)) W := by
      intro W
      have := cut_mid (P := Try.prog) 22 5 .i64 .i64 Try.underlying22 (i := _) rfl 1 rfl A L.length c (a : Int) ((a : Int) + (n : Int)) (by omega) (by omega) (by omega) hcap W
      rw [show (((a : Int) + (n : Int)).toNat - ((a : Int)).toNat) = n by omega, Int.toNat_natCast, Nat.mul_one] at this
      exact this
    have hCm := Kd.C_mid (c := c) (lo := a) (hi := a + n) HC.out (by omega) hle hcap
    have e1 : (L.take (a + n)).drop a = (L.drop a).take n := by rw [List.drop_take, show a + n - a = n by omega]
    have e2 : ((L.drop a).take n).length = n := by rw [List.length_take, List.length_drop]; omega
    rw [e1, e2, show a * (Kd.int .u8).sz = a from Nat.mul_one a] at hCm
    have HCm := Aside0.mk hCm
    have HA : Aside0 (∀ ad, (if c = a then A else A.map (·.add a)) = some ad → 0 < n → ad.block ≠ p) := ⟨fun ad e hp => by
      split at e
      · exact hA ad e (by omega)
      · obtain ⟨ad', e', rfl⟩ := Option.map_eq_some_iff.1 e
        rw [add_block]
        exact hA ad' e' (by omega)⟩
    clear h hCm e1 e2 hA
    generalize hA' : (if c = a then A else A.map (·.add a)) = A' at *
    go_enter Try.func76, Try.ntmps76
    go_wp2_with fail
    go_quiet (fail)
    clear w1'
    go_wp2_with fail
    go_quiet (fail)
    go_wp2_with fail
    go_ret2
    unfold NextPost
    rw [if_neg HN.out]
    have key : ∀ m, Kd.C (Kd.int .u8) ((w.drewN m).setCell ⟨p, 1, none⟩ (.int .i64 ((a : Int) + (n : Int)))) A' n ((L.drop a).take n) ∧ RRd ((w.drewN m).setCell ⟨p, 1, none⟩ (.int .i64 ((a : Int) + (n : Int)))) S p L (a + n) ∧ Fr (fun k => k = p) w ((w.drewN m).setCell ⟨p, 1, none⟩ (.int .i64 ((a : Int) + (n : Int)))) := fun m => by
      have h := (HR.out.drew m).seek (a + n) hle
      rw [Int.natCast_add] at h
      have hf : Fr (fun k => k = p) w ((w.drewN m).setCell ⟨p, 1, none⟩ (.int .i64 ((a : Int) + (n : Int)))) := Fr.setCell (S := fun k => k = p) (Fr.below (below_drewN (Below.refl _ _) _) _) (p := ⟨p, 1, none⟩) (fun _ => rfl) _
      exact ⟨C_fr HCm.out hf (fun ad e hn' => HA.out ad e (by have := C_len8 HCm.out; omega)), h, hf⟩
    exact ⟨A', c - a, rfl, key _⟩
theorem RefNext_short (S : Nat → Prop) (p a n : Nat) (L : List Int) (w : World) (hR : RRd w S p L a) (hn : n ≤ 9223372036854775807) (h : L.length < a + n) :
    Calls Try.prog 76 #[.pointer (some ⟨p, 0, none⟩), .int .i64 n] w fun e w' => e = .returned (.tuple #[.slice none 0 0, .int .i64 3]) ∧ RRd w' S p L a ∧ Fr (fun k => k = p) w w' :=
  (RefNext_any S p a n L w hR hn).mono fun e w' q => by unfold NextPost at q; rwa [if_pos h] at q
theorem RefNext_long (S : Nat → Prop) (p a n : Nat) (L : List Int) (w : World) (hR : RRd w S p L a) (hn : n ≤ 9223372036854775807) (h : ¬ L.length < a + n) :
    Calls Try.prog 76 #[.pointer (some ⟨p, 0, none⟩), .int .i64 n] w fun e w' => ∃ A c, e = .returned (.tuple #[.slice A n c, .int .i64 0]) ∧ Kd.C (Kd.int .u8) w' A n ((L.drop a).take n) ∧ RRd w' S p L (a + n) ∧ Fr (fun k => k = p) w w' :=
  (RefNext_any S p a n L w hR hn).mono fun e w' q => by unfold NextPost at q; rwa [if_neg h] at q
end Go.Proofs.Ytmjekkkpbcehoaa.P
