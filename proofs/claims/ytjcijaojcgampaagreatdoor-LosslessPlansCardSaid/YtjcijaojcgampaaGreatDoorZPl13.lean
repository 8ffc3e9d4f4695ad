/- The reader: what is in memory; the contract of Reader.next. The contracts of Reader.Get, Signed, zeros. The contracts of New, Writer.Len, Reader.At, Left, Seek, Align, Unary, Gamma. The contracts of Writer.Bytes, Open. The contracts of the reference's Same, Of, Pack. Lists of ints in memory: rows of one's own, as they are read; shawmref02.Ints. The reference's writer: what is in memory; Number, unary, put. The reference's writer: Number, unary, Put, Signed, Unary, Append, Len, Bytes. The contract of flipped. -/
import Derived.Deep.QuietTactic
import Derived.BigQuiet
import Derived.WalkSmall
import Derived.Maps.AppendAt
import Derived.Test.YtjcijaojcgampaaGreatDoorZPl12
set_option linter.unusedVariables false
set_option linter.unusedSimpArgs false
set_option maxHeartbeats 16000000
set_option maxRecDepth 100000
section
namespace Go.Proofs.YtjcijaojcgampaaGreatDoor.P
open Go.RowKit Go.Shelf Go.Proofs.YtjcijaojcgampaaGreatDoor.Bits Go.Proofs.YtjcijaojcgampaaGreatDoorW.PrintWords Go.Proofs.YtjcijaojcgampaaGreatDoorW.PrintLast Go.Proofs.YtjcijaojcgampaaGreatDoorW.PrintMore
attribute [local go_sem ↓] Go.wp_at_zero Go.wp_at_succ
structure Rd (w : World) (S : Nat → Prop) (p : Nat) (L : List Int) (at_ : Nat) : Prop where
  blk : ∃ v B, w.heap[p]? = some (.cells #[v, .int .i64 (L.length : Int), .int .i64 (at_ : Int)] 77 (0, 0)) ∧ RB S w v B ∧ is8 B ∧ ofB B L.length = L ∧ L.length ≤ 8 * B.length ∧ B.length ≤ 1000000000
  at_le : at_ ≤ L.length
  len : L.length ≤ 1048576
  typed : ∀ k, S k → ∃ cells, w.heap[k]? = some (.cells cells 5 (0, 0))
theorem Rd.p_lt {w : World} {S : Nat → Prop} {p a : Nat} {L : List Int} (h : Rd w S p L a) : p < w.heap.size := by
  obtain ⟨v, B, hb, _⟩ := h.blk
  exact lt_of_block hb
theorem Rd.lt {w : World} {S : Nat → Prop} {p a : Nat} {L : List Int} (h : Rd w S p L a) (k : Nat) (hk : S k) : k < w.heap.size := by
  obtain ⟨cells, hc⟩ := h.typed k hk
  exact lt_of_block hc
theorem Rd.bits {w : World} {S : Nat → Prop} {p a : Nat} {L : List Int} (h : Rd w S p L a) : is01 L := by
  obtain ⟨v, B, _, _, _, hL, _⟩ := h.blk
  rw [← hL]; exact ofB_01 _ _
theorem Rd.fr {w w' : World} {S T : Nat → Prop} {p a : Nat} {L : List Int} (h : Rd w S p L a) (hf : Fr T w w') (hp : ¬ T p) (hS : ∀ k, S k → ¬ T k) : Rd w' S p L a := by
  obtain ⟨v, B, hb, hr, h8, hL, hl, hl2⟩ := h.blk
  exact ⟨⟨v, B, blk_fr hb hf hp, R_fr hr hf (fun k hk _ => hS k hk), h8, hL, hl, hl2⟩, h.at_le, h.len, fun k hk => by
    obtain ⟨cells, hc⟩ := h.typed k hk
    exact ⟨cells, blk_fr hc hf (hS k hk)⟩⟩
theorem Rd.below {w w' : World} {S : Nat → Prop} {p a : Nat} {L : List Int} (h : Rd w S p L a) (hb : Below w.heap.size w w') : Rd w' S p L a := h.fr (Fr.below hb (fun _ => False)) (fun h => h) (fun _ _ h => h)
theorem Rd.drew {w : World} {S : Nat → Prop} {p a : Nat} {L : List Int} (h : Rd w S p L a) (n : Nat) : Rd (w.drewN n) S p L a := h.below (below_drewN (Below.refl _ _) n)
theorem Rd.cell1 {w : World} {S : Nat → Prop} {p a : Nat} {L : List Int} (h : Rd w S p L a) : w.cell? ⟨p, 1, none⟩ = some (.int .i64 (L.length : Int)) := by
  obtain ⟨v, B, hb, _⟩ := h.blk
  rw [cell_of_row _ _ _ _ _ _ hb]; rfl
theorem Rd.cell2 {w : World} {S : Nat → Prop} {p a : Nat} {L : List Int} (h : Rd w S p L a) : w.cell? ⟨p, 2, none⟩ = some (.int .i64 (a : Int)) := by
  obtain ⟨v, B, hb, _⟩ := h.blk
  rw [cell_of_row _ _ _ _ _ _ hb]; rfl
theorem Rd.fz {w : World} {S : Nat → Prop} {p a : Nat} {L : List Int} (h : Rd w S p L a) (i : Nat) : w.frozen? ⟨p, i, none⟩ = false := by
  obtain ⟨v, B, hb, _⟩ := h.blk
  exact blk_frozen hb i
theorem Rd.bytes {w : World} {S : Nat → Prop} {p a : Nat} {L : List Int} (h : Rd w S p L a) : ∃ A n c B, w.cell? ⟨p, 0, none⟩ = some (.slice A n c) ∧ Kd.C (Kd.int .u8) w A n B ∧ is8 B ∧ L.length ≤ 8 * n ∧ n ≤ 1000000000 ∧ ∀ i, i < L.length → bitAt B i = L.getD i 0 := by
  obtain ⟨v, B, hb, hr, h8, hL, hl, hl2⟩ := h.blk
  obtain ⟨A, c, e, _, hC⟩ := Kd.R_reads hr
  subst e
  refine ⟨A, B.length, c, B, by rw [cell_of_row _ _ _ _ _ _ hb]; rfl, hC, h8, hl, hl2, fun i hi => ?_⟩
  rw [← getD_ofB B L.length i hi, hL]
theorem Rd.seek {w : World} {S : Nat → Prop} {p a : Nat} {L : List Int} (h : Rd w S p L a) (b : Nat) (hb : b ≤ L.length) : Rd (w.setCell ⟨p, 2, none⟩ (.int .i64 (b : Int))) S p L b := by
  obtain ⟨v, B, hk, hr, h8, hL, hl, hl2⟩ := h.blk
  refine ⟨⟨v, B, blk_put hk 2 _ rfl, Kd.R_set hr hk (by simp [Kd.int, Kd.scalar]) 2 _, h8, hL, hl, hl2⟩, hb, h.len, fun k hk' => ?_⟩
  obtain ⟨cells, hc⟩ := h.typed k hk'
  exact ⟨cells, blk_far hc (blk_ne hc hk (by decide)) _⟩
theorem Rd.fr_seek {w : World} {p : Nat} (u : Value) (j : Nat) : Fr (fun k => k = p) w (w.setCell ⟨p, j, none⟩ u) := Fr.setCell (S := fun k => k = p) (Fr.refl _ _) (p := ⟨p, j, none⟩) (fun _ => rfl) u
theorem or_snoc (x b : Int) (h0 : 0 ≤ x) (h1 : x ≤ 4294967296) (hb : b = 0 ∨ b = 1) : Go.bits BinOp.or IntKind.i64 (x * 2) b = 2 * x + b := by
  obtain ⟨X, rfl⟩ : ∃ X : Nat, x = X := ⟨x.toNat, by omega⟩
  obtain ⟨c, hc, rfl⟩ : ∃ c : Nat, c < 2 ∧ b = c := ⟨b.toNat, by omega, by omega⟩
  rw [show ((X : Int) * 2) = ((2 * X : Nat) : Int) by omega, or_i64 _ _ (by omega) (by omega)]
  have h := Nat.two_pow_add_eq_or_of_lt (i := 1) (b := c) (by omega) X
  rw [Nat.pow_one] at h
  rw [← h]
  norm_cast
theorem take_getD (L : List Int) (a k : Nat) (h : a + k < L.length) : (L.drop a).take (k + 1) = (L.drop a).take k ++ [L.getD (a + k) 0] := by
  rw [List.take_succ_eq_append_getElem (by rw [List.length_drop]; omega), List.getElem_drop, List.getD_eq_getElem?_getD, List.getElem?_eq_getElem (by omega)]; rfl
theorem next_any (S : Nat → Prop) (p a n : Nat) (L : List Int) (w : World) (hR : Rd w S p L a) (hn : a + n ≤ L.length) (hn' : n ≤ 32) :
    Calls Tryz.prog 94 #[.pointer (some ⟨p, 0, none⟩), .int .i64 n] w fun e w' => e = .returned (.int .i64 (val ((L.drop a).take n))) ∧ Rd w' S p L (a + n) ∧ Fr (fun k => k = p) w w' := by
  have HR := Aside0.mk hR
  have h01 := hR.bits
  have hlen := hR.len
  clear hR
  go_enter Tryz.func94, Tryz.ntmps94
  go_wp2_with fail
  go_loopw [5, 7] (fun u i wr => ∃ k : Nat, k ≤ n ∧ i = .int .i64 (k : Int) ∧ u = .int .i64 (val ((L.drop a).take k)) ∧ Aside0 (Rd wr S p L (a + k)) ∧ Aside0 (Fr (fun k => k = p) w wr)) (fun _ i _ => n - (intOf i).toNat)
  case atStart => exact ⟨0, Nat.zero_le _, rfl, rfl, HR, ⟨Fr.refl _ _⟩⟩
  case round =>
    obtain ⟨k, hk, rfl, rfl, HRr, HF⟩ := hrel
    by_cases hlt : k < n
    · obtain ⟨q, hq⟩ : ∃ q, q = a + k := ⟨_, rfl⟩
      have hT := take_getD L a k (by omega)
      rw [← hq] at HRr hT
      obtain ⟨A, nb, cb, B, c0, hC, h8, hl, hnb, hbit⟩ := HRr.out.bytes
      have c2 := HRr.out.cell2
      have fz := HRr.out.fz 2
      have hv := val_bound (is01_take (is01_drop h01 a) k)
      have hbk := hbit q (by omega)
      have hb01 := bitAt_01 B q
      have hv2 : val ((L.drop a).take k) ≤ 4294967296 := by
        have h1 := (pow_le32 (m := ((L.drop a).take k).length) (by rw [List.length_take]; omega)).2
        omega
      have HO := Aside0.mk (or_snoc (val ((L.drop a).take k)) (bitAt B q) hv.1 hv2 hb01)
      have HVT : Aside0 (val ((L.drop a).take (k + 1)) = 2 * val ((L.drop a).take k) + bitAt B q) := ⟨by rw [hT, val_snoc, hbk]⟩
      have HC := Aside0.mk hC
      have H8 := Aside0.mk h8
      have hv0 := hv.1
      have hql : q < L.length := by omega
      have HQ := Aside0.mk hq
      generalize hX : val ((L.drop a).take k) = X at *
      clear hT hbk hC h8 hv hbit hX hb01 hq
      go_wp2_with fail
      go_quiet ((go_at_call 49; exact Calls.quiet_of_same (bit_any A nb cb B q _ (Kd.C_drew HC.out) (by omega) H8.out (by omega))))
      go_wp2_with fail
      go_roundw
      case rel =>
        refine ⟨k + 1, by omega, by go_num, by rw [HVT.out, HO.out], ⟨?_⟩, ⟨?_⟩⟩
        · rw [show a + (k + 1) = q + 1 by have := HQ.out; omega]
          have h := (HRr.out.drew nq).seek (q + 1) (by omega)
          rwa [Int.natCast_add] at h
        · exact (HF.out.trans (Fr.below (below_drewN (Below.refl _ _) nq) _)).setCell (p := ⟨p, 2, none⟩) (fun _ => rfl) _
      case measure => simp [intOf]; omega
    · obtain rfl : k = n := by omega
      go_wp2_with fail
      go_ret
      exact ⟨rfl, HRr.out, HF.out⟩
def rGet (L : List Int) (a : Nat) (n : Int) : Int × Int × Nat := if n < 0 ∨ 32 < n then (0, 1, a) else if (L.length : Int) - a < n then (0, 3, a) else (val ((L.drop a).take n.toNat), 0, a + n.toNat)
def sgn (v : Int) (n : Nat) : Int := if 2 ^ (n - 1) ≤ v then v - 2 ^ n else v
def rSigned (L : List Int) (a : Nat) (n : Int) : Int × Int × Nat := if n < 1 ∨ 32 < n then (0, 1, a) else if (L.length : Int) - a < n then (0, 3, a) else (sgn (val ((L.drop a).take n.toNat)) n.toNat, 0, a + n.toNat)
def RdPost (w : World) (S : Nat → Prop) (p : Nat) (L : List Int) (r : Int × Int × Nat) (e : Ending) (w' : World) : Prop := e = .returned (.tuple #[.int .i64 r.1, .int .i64 r.2.1]) ∧ Rd w' S p L r.2.2 ∧ Fr (fun k => k = p) w w'
theorem Get_any (S : Nat → Prop) (p a : Nat) (L : List Int) (n : Int) (w : World) (hR : Rd w S p L a) :
    Calls Tryz.prog 65 #[.pointer (some ⟨p, 0, none⟩), .int .i64 n] w (RdPost w S p L (rGet L a n)) := by
  have HR := Aside0.mk hR
  have hlen := hR.len
  have hal := hR.at_le
  have c1 := hR.cell1
  have c2 := hR.cell2
  clear hR
  have no : n < 0 ∨ 32 < n → Aside0 (rGet L a n = (0, 1, a)) := fun h => ⟨by unfold rGet; rw [if_pos h]⟩
  by_cases h1 : n < 0
  · have HN := no (.inl h1)
    have d1 : decide (n < 0) = true := by simpa using h1
    clear no
    go_enter Tryz.func65, Tryz.ntmps65
    go_wp2_with fail
    go_ret2
    rw [HN.out]
    exact ⟨rfl, HR.out, Fr.refl _ _⟩
  by_cases h2 : 32 < n
  · have HN := no (.inr h2)
    have d1 : decide (n < 0) = false := by simpa using h1
    have d2 : decide (32 < n) = true := by simpa using h2
    clear no
    go_enter Tryz.func65, Tryz.ntmps65
    go_wp2_with fail
    go_ret2
    rw [HN.out]
    exact ⟨rfl, HR.out, Fr.refl _ _⟩
  obtain ⟨m, rfl⟩ : ∃ m : Nat, n = m := ⟨n.toNat, by omega⟩
  have d1 : decide ((m : Int) < 0) = false := by simp
  have d2 : decide (32 < (m : Int)) = false := by simpa using h2
  have hm : m ≤ 32 := by omega
  have w1' : IntKind.i64.wrap ((L.length : Int) - (a : Int)) = (L.length : Int) - (a : Int) := IntWalk.i64_in _ (by omega)
  clear no h1 h2
  by_cases h3 : (L.length : Int) - a < m
  · have HN : Aside0 (rGet L a m = (0, 3, a)) := ⟨by unfold rGet; rw [if_neg (by omega), if_pos h3]⟩
    have d3 : decide ((L.length : Int) - (a : Int) < (m : Int)) = true := by simpa using h3
    clear h3
    go_enter Tryz.func65, Tryz.ntmps65
    go_wp2_with fail
    go_quiet (fail)
    clear w1'
    go_wp2_with fail
    go_ret2
    rw [HN.out]
    exact ⟨rfl, HR.out.drew _, Fr.below (below_drewN (Below.refl _ _) _) _⟩
  · have HN : Aside0 (rGet L a m = (val ((L.drop a).take m), 0, a + m)) := ⟨by unfold rGet; rw [if_neg (by omega), if_neg h3]; simp⟩
    have d3 : decide ((L.length : Int) - (a : Int) < (m : Int)) = false := by simpa using h3
    have hm3 : a + m ≤ L.length := by omega
    clear h3
    go_enter Tryz.func65, Tryz.ntmps65
    go_wp2_with fail
    go_quiet (fail)
    clear w1' d3
    go_wp2_with (go_at_call 94; refine (next_any S p a m L _ (HR.out.drew _) hm3 hm).mono ?_; rintro e w2 ⟨rfl, h2, h3⟩; have H2 := Aside0.mk h2; have H3 := Aside0.mk h3; clear h2 h3)
    go_ret2
    rw [HN.out]
    exact ⟨rfl, H2.out, (Fr.below (below_drewN (Below.refl _ _) _) _).trans H3.out⟩
theorem RSigned_any (S : Nat → Prop) (p a : Nat) (L : List Int) (n : Int) (w : World) (hR : Rd w S p L a) :
    Calls Tryz.prog 153 #[.pointer (some ⟨p, 0, none⟩), .int .i64 n] w (RdPost w S p L (rSigned L a n)) := by
  have HR := Aside0.mk hR
  have hlen := hR.len
  have hal := hR.at_le
  have c1 := hR.cell1
  have c2 := hR.cell2
  have h01 := hR.bits
  clear hR
  have no : n < 1 ∨ 32 < n → Aside0 (rSigned L a n = (0, 1, a)) := fun h => ⟨by unfold rSigned; rw [if_pos h]⟩
  by_cases h1 : n < 1
  · have HN := no (.inl h1)
    have d1 : decide (n < 1) = true := by simpa using h1
    clear no
    go_enter Tryz.func153, Tryz.ntmps153
    go_wp2_with fail
    go_ret2
    rw [HN.out]
    exact ⟨rfl, HR.out, Fr.refl _ _⟩
  by_cases h2 : 32 < n
  · have HN := no (.inr h2)
    have d1 : decide (n < 1) = false := by simpa using h1
    have d2 : decide (32 < n) = true := by simpa using h2
    clear no
    go_enter Tryz.func153, Tryz.ntmps153
    go_wp2_with fail
    go_ret2
    rw [HN.out]
    exact ⟨rfl, HR.out, Fr.refl _ _⟩
  obtain ⟨m, rfl⟩ : ∃ m : Nat, n = m + 1 := ⟨n.toNat - 1, by omega⟩
  have d1 : decide ((m : Int) + 1 < 1) = false := by simp; omega
  have d2 : decide (32 < (m : Int) + 1) = false := by simp; omega
  have hm : m ≤ 31 := by omega
  have w1' : IntKind.i64.wrap ((L.length : Int) - (a : Int)) = (L.length : Int) - (a : Int) := IntWalk.i64_in _ (by omega)
  clear no h1 h2
  by_cases h3 : (L.length : Int) - a < m + 1
  · have HN : Aside0 (rSigned L a (m + 1) = (0, 3, a)) := ⟨by unfold rSigned; rw [if_neg (by omega), if_pos h3]⟩
    have d3 : decide ((L.length : Int) - (a : Int) < (m : Int) + 1) = true := by simpa using h3
    clear h3
    go_enter Tryz.func153, Tryz.ntmps153
    go_wp2_with fail
    go_quiet (fail)
    clear w1'
    go_wp2_with fail
    go_ret2
    rw [HN.out]
    exact ⟨rfl, HR.out.drew _, Fr.below (below_drewN (Below.refl _ _) _) _⟩
  · have HN : Aside0 (rSigned L a (m + 1) = (sgn (val ((L.drop a).take (m + 1))) (m + 1), 0, a + (m + 1))) := ⟨by
      unfold rSigned; rw [if_neg (by omega), if_neg h3, show ((m : Int) + 1).toNat = m + 1 by omega]⟩
    have d3 : decide ((L.length : Int) - (a : Int) < (m : Int) + 1) = false := by simpa using h3
    have hm3 : a + (m + 1) ≤ L.length := by omega
    have hb := val_bound (is01_take (is01_drop h01 a) (m + 1))
    have hb2 := (pow_le32 (m := ((L.drop a).take (m + 1)).length) (by rw [List.length_take]; omega)).2
    have hp1 := pow_le31 hm
    have hp2 := pow_le32 (m := m + 1) (by omega)
    have e1 : wrap64 (2 ^ m) = 2 ^ m := wrap64_id (by omega) (by omega)
    have e2 : wrap64 (2 ^ (m + 1)) = 2 ^ (m + 1) := wrap64_id (by omega) (by omega)
    have HNX := Aside0.mk (next_any S p a (m + 1) L)
    generalize hX : val ((L.drop a).take (m + 1)) = X at *
    clear h3
    by_cases h5 : 2 ^ m ≤ X
    · have d5 : decide (wrap64 (2 ^ m) ≤ X) = true := by rw [e1]; simpa using h5
      have HS : Aside0 (sgn X (m + 1) = wrap64 (X - wrap64 (2 ^ (m + 1)))) := ⟨by unfold sgn; rw [Nat.add_sub_cancel, if_pos h5, e2, wrap64_id (by omega) (by omega)]⟩
      clear hb hb2 hp1 hp2 e1 e2 h5 hX
      go_enter Tryz.func153, Tryz.ntmps153
      go_wp2_with fail
      go_quiet (fail)
      clear w1' d3
      go_wp2_with (go_at_call 94; refine (HNX.out _ (HR.out.drew _) hm3 (by omega)).mono ?_; rintro e w2 ⟨rfl, h2, h3⟩; have H2 := Aside0.mk h2; have H3 := Aside0.mk h3; clear h2 h3)
      go_ret2
      rw [HN.out]
      refine ⟨?_, H2.out, (Fr.below (below_drewN (Below.refl _ _) _) _).trans H3.out⟩
      rw [HS.out]
      rfl
    · have d5 : decide (wrap64 (2 ^ m) ≤ X) = false := by rw [e1]; simpa using h5
      have HS : Aside0 (sgn X (m + 1) = X) := ⟨by unfold sgn; rw [Nat.add_sub_cancel, if_neg h5]⟩
      clear hb hb2 hp1 hp2 e1 e2 h5 hX
      go_enter Tryz.func153, Tryz.ntmps153
      go_wp2_with fail
      go_quiet (fail)
      clear w1' d3
      go_wp2_with (go_at_call 94; refine (HNX.out _ (HR.out.drew _) hm3 (by omega)).mono ?_; rintro e w2 ⟨rfl, h2, h3⟩; have H2 := Aside0.mk h2; have H3 := Aside0.mk h3; clear h2 h3)
      go_ret2
      rw [HN.out]
      refine ⟨?_, H2.out, (Fr.below (below_drewN (Below.refl _ _) _) _).trans H3.out⟩
      rw [HS.out]
      rfl
def zs : List Int → Nat
  | [] => 0
  | b :: M => if b = 0 then zs M + 1 else 0
theorem zs_step {M : List Int} : ∀ {k : Nat}, k < M.length → k ≤ zs M → M.getD k 0 = 0 → k + 1 ≤ zs M := by
  induction M with
  | nil => intro k h; simp at h
  | cons b M ih =>
    intro k h1 h2 h3
    unfold zs at h2 ⊢
    cases k with
    | zero => have : b = 0 := by simpa using h3
              rw [if_pos this]; omega
    | succ k =>
      split at h2
      · rw [if_pos ‹_›]
        have := ih (k := k) (by simpa using h1) (by omega) (by simpa using h3)
        omega
      · omega
theorem zs_one {M : List Int} : ∀ {k : Nat}, k < M.length → k ≤ zs M → M.getD k 0 ≠ 0 → zs M = k := by
  induction M with
  | nil => intro k h; simp at h
  | cons b M ih =>
    intro k h1 h2 h3
    unfold zs at h2 ⊢
    cases k with
    | zero => have : b ≠ 0 := by simpa using h3
              rw [if_neg this]
    | succ k =>
      split at h2
      · rw [if_pos ‹_›]
        have := ih (k := k) (by simpa using h1) (by omega) (by simpa using h3)
        omega
      · omega
theorem zs_le (M : List Int) : zs M ≤ M.length := by
  induction M with
  | nil => simp [zs]
  | cons b M ih => unfold zs; split <;> simp <;> omega
def rZeros (L : List Int) (a m : Nat) : Int × Int × Nat := if m < zs (L.drop a) then (0, 4, a) else if a + zs (L.drop a) < L.length then (zs (L.drop a), 0, a + zs (L.drop a) + 1) else (0, 3, a)
theorem getD_drop' (L : List Int) (a k : Nat) : (L.drop a).getD k 0 = L.getD (a + k) 0 := by
  rw [List.getD_eq_getElem?_getD, List.getD_eq_getElem?_getD, List.getElem?_drop]
theorem zeros_any (S : Nat → Prop) (p a m : Nat) (L : List Int) (w : World) (hR : Rd w S p L a) (hm : m ≤ 1000) :
    Calls Tryz.prog 202 #[.pointer (some ⟨p, 0, none⟩), .int .i64 m] w (RdPost w S p L (rZeros L a m)) := by
  have HR := Aside0.mk hR
  have hlen := hR.len
  have hal := hR.at_le
  have c1 := hR.cell1
  have c2 := hR.cell2
  have fz := hR.fz 2
  have h01 := hR.bits
  have hzl := zs_le (L.drop a)
  rw [List.length_drop] at hzl
  obtain ⟨A, nb, cb, B, c0, hC, h8, hl, hnb, hbit⟩ := hR.bytes
  have HC := Aside0.mk hC
  have H8 := Aside0.mk h8
  have HBit := Aside0.mk hbit
  clear hR hC h8 hbit
  go_enter Tryz.func202, Tryz.ntmps202
  go_wp2_with fail
  go_loop [6, 7] (fun n i => ∃ k q : Nat, n = .int .i64 (k : Int) ∧ i = .int .i64 (q : Int) ∧ k ≤ m ∧ q ≤ L.length ∧ Aside0 (q = a + k) ∧ Aside0 (k ≤ zs (L.drop a))) (fun _ i => L.length - (intOf i).toNat)
  case atStart => exact ⟨0, a, rfl, rfl, Nat.zero_le _, hal, ⟨rfl⟩, ⟨Nat.zero_le _⟩⟩
  case round =>
    obtain ⟨k, q, rfl, rfl, hk, hq, HQ, HZ⟩ := hrel
    by_cases hlt : q < L.length
    · have hgd : L.getD q 0 = (L.drop a).getD k 0 := by rw [getD_drop', HQ.out]
      have hbk := HBit.out q hlt
      have hkl : k < (L.drop a).length := by rw [List.length_drop]; have := HQ.out; omega
      by_cases hb : L.getD q 0 = 0
      · have HZ1 := Aside0.mk (zs_step hkl HZ.out (by rw [← hgd]; exact hb))
        have hy : bitAt B q = 0 := hbk.trans hb
        have q1 : (bitAt B q == 1) = false := by rw [hy]; rfl
        clear hgd hbk hkl hb hy
        by_cases hkm : m < k + 1
        · have HN : Aside0 (rZeros L a m = (0, 4, a)) := ⟨by unfold rZeros; rw [if_pos (by have := HZ1.out; omega)]⟩
          have d1 : decide ((m : Int) < (k : Int) + 1) = true := by simp; omega
          go_wp2_with (go_at_call 49; refine (bit_any A nb cb B q _ HC.out (by omega) H8.out (by omega)).mono ?_; rintro e w1 ⟨rfl, rfl⟩)
          go_ret2
          rw [HN.out]
          exact ⟨rfl, HR.out, Fr.refl _ _⟩
        · have d1 : decide ((m : Int) < (k : Int) + 1) = false := by simp; omega
          go_wp2_with (go_at_call 49; refine (bit_any A nb cb B q _ HC.out (by omega) H8.out (by omega)).mono ?_; rintro e w1 ⟨rfl, rfl⟩)
          go_round
          case rel => exact ⟨k + 1, q + 1, by go_num, by go_num, by omega, by omega, ⟨by have := HQ.out; omega⟩, HZ1⟩
          case measure => simp [intOf]; omega
      · have hz := zs_one hkl HZ.out (by rw [← hgd]; exact hb)
        have HN : Aside0 (rZeros L a m = ((k : Int), 0, q + 1)) := ⟨by unfold rZeros; rw [hz, if_neg (by omega), if_pos (by rw [← HQ.out]; exact hlt), HQ.out]⟩
        have q1 : (bitAt B q == 1) = true := by
          rcases bitAt_01 B q with h | h
          · rw [hbk] at h; exact absurd h hb
          · rw [h]; rfl
        clear hgd hbk hkl hb hz
        go_wp2_with (go_at_call 49; refine (bit_any A nb cb B q _ HC.out (by omega) H8.out (by omega)).mono ?_; rintro e w1 ⟨rfl, rfl⟩)
        go_ret2
        rw [HN.out]
        refine ⟨rfl, ?_, Rd.fr_seek _ _⟩
        have h := HR.out.seek (q + 1) (by omega)
        rwa [Int.natCast_add] at h
    · obtain rfl : q = L.length := by omega
      have HN : Aside0 (rZeros L a m = (0, 3, a)) := ⟨by
        have h1 := HQ.out
        have h2 := HZ.out
        unfold rZeros
        rw [if_neg (by omega), if_neg (by omega)]⟩
      go_wp2_with fail
      go_ret2
      rw [HN.out]
      exact ⟨rfl, HR.out, Fr.refl _ _⟩
end Go.Proofs.YtjcijaojcgampaaGreatDoor.P
end
section
namespace Go.Proofs.YtjcijaojcgampaaGreatDoor.P
open Go.RowKit Go.Shelf Go.Proofs.YtjcijaojcgampaaGreatDoor.Bits Go.Proofs.YtjcijaojcgampaaGreatDoorW.PrintWords Go.Proofs.YtjcijaojcgampaaGreatDoorW.PrintLast Go.Proofs.YtjcijaojcgampaaGreatDoorW.PrintMore
attribute [local go_sem ↓] Go.wp_at_zero Go.wp_at_succ
attribute [local go_sem] max2_int min2_int max_two min_two
abbrev newWr : Obj := .cells #[.slice none 0 0, .int .i64 0] 75 (0, 0)
theorem New_any (w : World) : Calls Tryz.prog 15 #[] w fun e w' => e = .returned (.pointer (some ⟨w.heap.size, 0, none⟩)) ∧ w' = w.alloc newWr := by
  go_enter Tryz.func15, Tryz.ntmps15
  go_wp2
  go_ret
  simp
theorem Wr.new (w : World) : Wr (w.alloc newWr) (fun _ => False) w.heap.size [] :=
  ⟨⟨.slice none 0 0, World.alloc_heap_new w _, Kd.R_nil _ _ _ _ _⟩, is01_nil, fun _ h => h.elim⟩
theorem Len_any (S : Nat → Prop) (p : Nat) (L : List Int) (w : World) (hW : Wr w S p L) : Calls Tryz.prog 17 #[.pointer (some ⟨p, 0, none⟩)] w fun e w' => e = .returned (.int .i64 (L.length : Int)) ∧ w' = w := by
  have c1 := hW.cell1
  clear hW
  go_enter Tryz.func17, Tryz.ntmps17
  go_wp2_with fail
  go_ret
  exact ⟨rfl, rfl⟩
theorem At_any (S : Nat → Prop) (p a : Nat) (L : List Int) (w : World) (hR : Rd w S p L a) : Calls Tryz.prog 21 #[.pointer (some ⟨p, 0, none⟩)] w fun e w' => e = .returned (.int .i64 (a : Int)) ∧ w' = w := by
  have c2 := hR.cell2
  clear hR
  go_enter Tryz.func21, Tryz.ntmps21
  go_wp2_with fail
  go_ret
  exact ⟨rfl, rfl⟩
theorem Left_any (S : Nat → Prop) (p a : Nat) (L : List Int) (w : World) (hR : Rd w S p L a) : Calls Tryz.prog 43 #[.pointer (some ⟨p, 0, none⟩)] w fun e w' => e = .returned (.int .i64 ((L.length : Int) - a)) ∧ ∃ n, w' = w.drewN n := by
  have c1 := hR.cell1
  have c2 := hR.cell2
  have hal := hR.at_le
  have hlen := hR.len
  have w1' : IntKind.i64.wrap ((L.length : Int) - (a : Int)) = (L.length : Int) - (a : Int) := IntWalk.i64_in _ (by omega)
  clear hR
  go_enter Tryz.func43, Tryz.ntmps43
  go_wp2_with fail
  go_quiet (fail)
  clear w1'
  go_wp2_with fail
  go_ret
  exact ⟨rfl, _, rfl⟩
def rSeek (L : List Int) (a : Nat) (n : Int) : Int × Nat := if n < 0 ∨ (L.length : Int) < n then (6, a) else (0, n.toNat)
theorem Seek_any (S : Nat → Prop) (p a : Nat) (L : List Int) (n : Int) (w : World) (hR : Rd w S p L a) :
    Calls Tryz.prog 42 #[.pointer (some ⟨p, 0, none⟩), .int .i64 n] w fun e w' => e = .returned (.int .i64 (rSeek L a n).1) ∧ Rd w' S p L (rSeek L a n).2 ∧ Fr (fun k => k = p) w w' := by
  have c1 := hR.cell1
  have c2 := hR.cell2
  have fz := hR.fz 2
  have HR := Aside0.mk hR
  clear hR
  by_cases h1 : n < 0
  · have HN : Aside0 (rSeek L a n = (6, a)) := ⟨by unfold rSeek; rw [if_pos (.inl h1)]⟩
    have d1 : decide (n < 0) = true := by simpa using h1
    go_enter Tryz.func42, Tryz.ntmps42
    go_wp2_with fail
    go_ret
    rw [HN.out]
    exact ⟨rfl, HR.out, Fr.refl _ _⟩
  obtain ⟨m, rfl⟩ : ∃ m : Nat, n = m := ⟨n.toNat, by omega⟩
  have d1 : decide ((m : Int) < 0) = false := by simp
  by_cases h2 : L.length < m
  · have HN : Aside0 (rSeek L a m = (6, a)) := ⟨by unfold rSeek; rw [if_pos (.inr (by omega))]⟩
    have d2 : decide (L.length < m) = true := by simpa using h2
    clear h1
    go_enter Tryz.func42, Tryz.ntmps42
    go_wp2_with fail
    go_ret
    rw [HN.out]
    exact ⟨rfl, HR.out, Fr.refl _ _⟩
  · have HN : Aside0 (rSeek L a m = (0, m)) := ⟨by unfold rSeek; rw [if_neg (by omega)]; simp⟩
    have d2 : decide (L.length < m) = false := by simpa using h2
    have hm : m ≤ L.length := by omega
    clear h1
    go_enter Tryz.func42, Tryz.ntmps42
    go_wp2_with fail
    go_ret
    rw [HN.out]
    exact ⟨rfl, HR.out.seek m hm, Rd.fr_seek _ _⟩
def rUnary (L : List Int) (a : Nat) (n : Int) : Int × Int × Nat := if n < 0 ∨ 1000 < n then (0, 1, a) else rZeros L a n.toNat
theorem RUnary_any (S : Nat → Prop) (p a : Nat) (L : List Int) (n : Int) (w : World) (hR : Rd w S p L a) :
    Calls Tryz.prog 196 #[.pointer (some ⟨p, 0, none⟩), .int .i64 n] w (RdPost w S p L (rUnary L a n)) := by
  have HR := Aside0.mk hR
  clear hR
  by_cases h1 : n < 0
  · have HN : Aside0 (rUnary L a n = (0, 1, a)) := ⟨by unfold rUnary; rw [if_pos (.inl h1)]⟩
    have d1 : decide (n < 0) = true := by simpa using h1
    go_enter Tryz.func196, Tryz.ntmps196
    go_wp2_with fail
    go_ret2
    rw [HN.out]
    exact ⟨rfl, HR.out, Fr.refl _ _⟩
  obtain ⟨m, rfl⟩ : ∃ m : Nat, n = m := ⟨n.toNat, by omega⟩
  have d1 : decide ((m : Int) < 0) = false := by simp
  by_cases h2 : 1000 < (m : Int)
  · have HN : Aside0 (rUnary L a m = (0, 1, a)) := ⟨by unfold rUnary; rw [if_pos (.inr h2)]⟩
    have d2 : decide (1000 < (m : Int)) = true := by simpa using h2
    clear h1
    go_enter Tryz.func196, Tryz.ntmps196
    go_wp2_with fail
    go_ret2
    rw [HN.out]
    exact ⟨rfl, HR.out, Fr.refl _ _⟩
  · have HN : Aside0 (rUnary L a m = rZeros L a m) := ⟨by unfold rUnary; rw [if_neg (by omega)]; simp⟩
    have d2 : decide (1000 < (m : Int)) = false := by simpa using h2
    have hm : m ≤ 1000 := by omega
    clear h1 h2
    go_enter Tryz.func196, Tryz.ntmps196
    go_wp2_with (go_at_call 202; refine (zeros_any S p a m L _ HR.out hm).mono ?_; rintro e w2 ⟨rfl, h2, h3⟩; have H2 := Aside0.mk h2; have H3 := Aside0.mk h3; clear h2 h3)
    go_ret2
    rw [HN.out]
    exact ⟨rfl, H2.out, H3.out⟩
theorem rZeros_cases (L : List Int) (a m : Nat) : (rZeros L a m = (0, 4, a) ∨ rZeros L a m = (0, 3, a)) ∨ ∃ z : Nat, z ≤ m ∧ a + z < L.length ∧ rZeros L a m = ((z : Int), 0, a + z + 1) := by
  unfold rZeros
  split
  · exact .inl (.inl rfl)
  · split
    · exact .inr ⟨_, by omega, ‹_›, rfl⟩
    · exact .inl (.inr rfl)
end Go.Proofs.YtjcijaojcgampaaGreatDoor.P
end
section
namespace Go.Proofs.YtjcijaojcgampaaGreatDoor.P
open Go.RowKit Go.Shelf Go.Proofs.YtjcijaojcgampaaGreatDoor.Bits Go.Proofs.YtjcijaojcgampaaGreatDoorW.PrintWords Go.Proofs.YtjcijaojcgampaaGreatDoorW.PrintLast Go.Proofs.YtjcijaojcgampaaGreatDoorW.PrintMore
attribute [local go_sem ↓] Go.wp_at_zero Go.wp_at_succ
theorem append_run {S : Nat → Prop} (W : World) (v : Value) (xs ys : List Int) (A : Option Addr) (m c : Nat) (HO : RB S W v xs) (HR : Kd.C (Kd.int .u8) W A m ys) (hl : xs.length + m ≤ 140737488355328) :
    ∃ v1 w1, (Builtin.append_ #[30, 30] 30 #[v, .slice A m c]).run Tryz.prog W = .ok v1 w1 ∧ RB (fun k => S k ∨ k = W.heap.size) w1 v1 (xs ++ ys) ∧ W.grownBy w1 v.ownBlock := by
  obtain ⟨i0, hi, hzz⟩ := Option.map_eq_some_iff.1 binfo
  simp only [Prod.mk.injEq] at hzz
  obtain ⟨hz0, hz1, hz2⟩ := hzz
  have HO' := Kd.own_of_R HO
  have HR' := Kd.reads_of_C (enc := Value.int .u8) (d := (0 : Int)) (h1 := fun _ => rfl) HR
  have hm : ys.length = m := HR'.1
  have ht := Tryz.underlying30
  rcases A with _ | ad
  · have h0 : m = 0 := by
      rcases Nat.eq_zero_or_pos m with h0 | h0
      · exact h0
      · obtain ⟨ad, h, _⟩ := HR'.2.2 h0
        cases h
    subst h0
    obtain rfl : ys = [] := List.eq_nil_of_length_eq_zero hm
    refine ⟨v, W, ?_, by rw [List.append_nil]; exact Kd.R_mono HO (fun k hk => .inl hk), World.grownBy.refl W _⟩
    rcases HO'.2 with ⟨rfl, hn⟩ | ⟨g, cap, cur, rfl, _, _, hnc, _⟩
    · simp [Builtin.append_, run_underlying ht, sizeOf, typeInfo, hi, Builtin.lenOf, Builtin.firstCells]
    · simp [Builtin.append_, run_underlying ht, sizeOf, typeInfo, hi, Builtin.lenOf, Builtin.firstCells, hnc, storeCells]
  · have hcells : ∀ j u, (encs (Value.int .u8) ys)[j]? = some u → W.cell? (ad.add j) = some u := by
      intro j u hu
      have hj : j < ys.length := by
        rcases Nat.lt_or_ge j ys.length with h | h
        · exact h
        · simp [encs, List.getElem?_eq_none h] at hu
      obtain ⟨ad', h', hc⟩ := HR'.2.2 (by omega)
      obtain rfl := Option.some.inj h'
      rw [encs_get (d := (0 : Int)) ys j hj] at hu
      rw [← hu]
      exact hc j (by omega)
    obtain ⟨v1, w1, hr, h2, h3, _, h5⟩ := run_append_own_at (P := Tryz.prog) W 0 30 30 5 i0 _ 1 1 ht hi hz0 hz1 hz2 rfl (by omega) v xs.length (encs (Value.int .u8) xs) HO' ad m c (encs (Value.int .u8) ys) (by simp [encs, hm]) hcells
      (by intro u hu; simp only [encs, List.mem_map] at hu; obtain ⟨q, _, rfl⟩ := hu; rfl) (by simp only [maxLen]; omega) (by omega) (Nat.zero_le _)
    refine ⟨v1, w1, hr, Kd.R_of_own (by simpa [encs, hm] using h2) (fun k hk => ?_), h3⟩
    rcases h5 with e | e
    · exact .inl (HO.1 k (by rw [← e]; exact hk))
    · rw [e] at hk; cases hk; exact .inr rfl
abbrev noBytes : Obj := .cells #[] 5 (0, 0)
theorem empty_R (W : World) : RB (fun k => k = W.heap.size) (W.alloc noBytes) (.slice (some ⟨W.heap.size, 0, none⟩) 0 0) [] :=
  Kd.R_of_own (own_lit_of (enc := fun x => Value.int .u8 x) W 0 5 [] (Nat.zero_le _) (by decide)) (fun k hk => by simpa [Value.ownBlock] using hk.symm)
theorem step_run_append {P : Program} {ops : Array Oper} {o : Oper} {a : Act} {K : Act → World → Prop} {Q : Exit → Act → World → Prop} {E : Prop} {W w1 : World} {v1 : Value} (hgd : o.guard = none) (s x : Operand) (t : TypeId)
    (ho : o.op = .call { callee := .builtin .append, args := #[s, x], argTypes := #[t, t] }) (v y : Value) (hs : a.eval s = v) (hx : a.eval x = y) (hrun : (Builtin.append_ #[t, t] o.type #[v, y]).run P W = .ok v1 w1) (h : K (a.put o.dst v1) w1) :
    if Region.wanted o (yielded ops a.tmps) = true then Oper.wp P o a W K Q else E := by
  have hw : Region.wanted o (yielded ops a.tmps) = true := by simp [Region.wanted, hgd]
  rw [if_pos hw]
  unfold Oper.wp execOp
  simp only [ho, resolve, invoke, builtin, Sem.run_bind, Sem.run_pure, Result.andThen_ok, List.map_toArray, List.map_cons, List.map_nil, hs, hx, hrun]
  exact h
theorem Bytes_any (S : Nat → Prop) (p : Nat) (L : List Int) (w : World) (hW : Wr w S p L) (hL : L.length ≤ 1048576) :
    Calls Tryz.prog 19 #[.pointer (some ⟨p, 0, none⟩)] w fun e w' => ∃ v S', e = .returned v ∧ RB S' w' v (pk L) ∧ (∀ k, S' k → w.heap.size ≤ k) ∧ Below w.heap.size w w' := by
  obtain ⟨v, hblk, hR⟩ := hW.blk
  obtain ⟨A, cv, ev, hcv, hC⟩ := Kd.R_reads hR
  subst ev
  have c0 : w.cell? ⟨p, 0, none⟩ = some (.slice A (pk L).length cv) := by rw [cell_of_row _ _ _ _ _ _ hblk]; rfl
  have hpl := lt_of_block hblk
  have HC := Aside0.mk hC
  have HR := Aside0.mk hR
  clear hblk hR hC hW
  go_enter Tryz.func19, Tryz.ntmps19
  go_wp2_with fail
  obtain ⟨v1, w1, hrun, hr1, hg1⟩ := append_run (S := fun k => k = w.heap.size) (w.alloc noBytes).drew (.slice (some ⟨w.heap.size, 0, none⟩) 0 0) [] (pk L) A (pk L).length (pk L).length (Kd.R_drew (empty_R w)) (Kd.C_drew (Kd.C_alloc HC.out _)) (by simp [pk_length]; omega)
  have HR1 := Aside0.mk hr1
  have HG1 := Aside0.mk hg1
  have HRUN := Aside0.mk hrun
  have hk1 : w1.cell? ⟨p, 0, none⟩ = some (.slice A (pk L).length cv) := by
    have h1 : (w.alloc noBytes).drew.cell? ⟨p, 0, none⟩ = some (.slice A (pk L).length cv) := (World.cell?_alloc_lt w noBytes ⟨p, 0, none⟩ hpl).trans c0
    refine (World.cell?_of_block (hg1.block p (by simp; omega) (fun e => ?_))).trans h1
    have : p = w.heap.size := by simpa [Value.ownBlock] using e
    omega
  clear hr1 hg1 hrun
  go_region_held3 (fun w' => w'.cell? ⟨p, 0, none⟩ = some (.slice A (pk L).length cv))
    (first | assumption | go_keep)
    ((refine step_run_append (by rfl) _ _ _ (by rfl) _ _ (by rfl) (by rfl) HRUN.out ?_))
  go_wp2_with fail
  go_ret
  refine ⟨v1, _, rfl, by have := HR1.out; rwa [List.nil_append] at this, ?_, ?_⟩
  · rintro k (rfl | rfl)
    · exact Nat.le_refl _
    · simp
  · refine (below_drew (below_alloc (Below.refl _ _) _)).grown HG1.out (by simp) (fun k hk => ?_)
    have : w.heap.size = k := by simpa [Value.ownBlock] using hk
    omega
theorem wpList_run_append {P : Program} {ops : Array Oper} {rest : List Oper} {o : Oper} {a : Act} {Q : Exit → Act → World → Prop} {W w1 : World} {v1 : Value} (hgd : o.guard = none) (s x : Operand) (t : TypeId)
    (ho : o.op = .call { callee := .builtin .append, args := #[s, x], argTypes := #[t, t] }) (v y : Value) (hs : a.eval s = v) (hx : a.eval x = y) (hrun : (Builtin.append_ #[t, t] o.type #[v, y]).run P W = .ok v1 w1) (h : wpList P ops Q rest (a.put o.dst v1) w1) :
    wpList P ops Q (o :: rest) a W := by
  refine wpList_plain hgd fun K hK => ?_
  unfold Oper.wp execOp
  simp only [ho, resolve, invoke, builtin, Sem.run_bind, Sem.run_pure, Result.andThen_ok, List.map_toArray, List.map_cons, List.map_nil, hs, hx, hrun]
  exact hK _ _ h
def openE (B : List Int) (n : Int) : Int := if n < 0 ∨ 8 * (B.length : Int) < n then 1 else if 1048576 < n then 2 else 0
def OpenPost (w : World) (B : List Int) (n : Int) (e : Ending) (w' : World) : Prop :=
  if openE B n = 0 then ∃ p S, e = .returned (.tuple #[.pointer (some ⟨p, 0, none⟩), .int .i64 0]) ∧ Rd w' S p (ofB B n.toNat) 0 ∧ w.heap.size ≤ p ∧ (∀ k, S k → w.heap.size ≤ k) ∧ Below w.heap.size w w'
  else e = .returned (.tuple #[.pointer none, .int .i64 (openE B n)]) ∧ w' = w
theorem bitAt_take (B : List Int) (m i : Nat) (h : i / 8 < m) : bitAt (B.take m) i = bitAt B i := by
  unfold bitAt
  rw [List.getD_eq_getElem?_getD, List.getElem?_take, if_pos h, ← List.getD_eq_getElem?_getD]
theorem ofB_take' (B : List Int) (m n : Nat) (h : n ≤ 8 * m) : ofB (B.take m) n = ofB B n := by
  unfold ofB
  apply List.map_congr_left
  intro i hi
  have := List.mem_range.1 hi
  exact bitAt_take B m i (by omega)
theorem Open_any (A : Option Addr) (c : Nat) (B : List Int) (n : Int) (w : World) (hC : Kd.C (Kd.int .u8) w A B.length B) (hB : is8 B) (hBl : B.length ≤ 1000000000) (hc : B.length ≤ c) :
    Calls Tryz.prog 18 #[.slice A B.length c, .int .i64 n] w (OpenPost w B n) := by
  have HC := Aside0.mk hC
  have H8 := Aside0.mk hB
  clear hC hB
  by_cases h1 : n < 0
  · have HN : Aside0 (openE B n = 1) := ⟨by unfold openE; rw [if_pos (.inl h1)]⟩
    have d1 : decide (n < 0) = true := by simpa using h1
    go_enter Tryz.func18, Tryz.ntmps18
    go_wp2_with fail
    go_ret2
    unfold OpenPost
    rw [HN.out, if_neg (by decide)]
    exact ⟨rfl, rfl⟩
  obtain ⟨m, rfl⟩ : ∃ m : Nat, n = m := ⟨n.toNat, by omega⟩
  have d1 : decide ((m : Int) < 0) = false := by simp
  by_cases h2 : 8 * (B.length : Int) < m
  · have HN : Aside0 (openE B m = 1) := ⟨by unfold openE; rw [if_pos (.inr h2)]⟩
    have d2 : decide (8 * (B.length : Int) < (m : Int)) = true := by simpa using h2
    clear h1
    go_enter Tryz.func18, Tryz.ntmps18
    go_wp2_with fail
    go_ret2
    unfold OpenPost
    rw [HN.out, if_neg (by decide)]
    exact ⟨rfl, rfl⟩
  have d2 : decide (8 * (B.length : Int) < (m : Int)) = false := by simpa using h2
  by_cases h3 : 1048576 < (m : Int)
  · have HN : Aside0 (openE B m = 2) := ⟨by unfold openE; rw [if_neg (by omega), if_pos h3]⟩
    have d3 : decide (1048576 < (m : Int)) = true := by simpa using h3
    clear h1
    go_enter Tryz.func18, Tryz.ntmps18
    go_wp2_with fail
    go_ret2
    unfold OpenPost
    rw [HN.out, if_neg (by decide)]
    exact ⟨rfl, rfl⟩
  · have HN : Aside0 (openE B m = 0) := ⟨by unfold openE; rw [if_neg (by omega), if_neg h3]⟩
    have d3 : decide (1048576 < (m : Int)) = false := by simpa using h3
    have hm : m ≤ 1048576 := by omega
    have hm8 : m ≤ 8 * B.length := by omega
    obtain ⟨q, hq⟩ : ∃ q, q = (m + 7) / 8 := ⟨_, rfl⟩
    have hqB : q ≤ B.length := by omega
    have w1' : ((m : Int) + 7) / 8 = (q : Int) := by omega
    have hsl : ∀ W : World, (Instr.slice 30 (.slice A B.length c) none (some (.int .i64 (q : Int))) none).run Tryz.prog W = .ok (.slice A q c) W := by
      intro W
      have := cut_to (P := Tryz.prog) 30 5 .i64 Tryz.underlying30 (i := _) rfl A B.length c (q : Int) (by omega) (by omega) hc W
      simpa using this
    have hl : (B.take q).length = q := by rw [List.length_take]; omega
    have hCt := Kd.C_take HC.out hqB
    rw [hl] at hCt
    obtain ⟨v1, w1, hrun, hr1, hg1⟩ := append_run (S := fun k => k = w.heap.size) (w.alloc noBytes) (.slice (some ⟨w.heap.size, 0, none⟩) 0 0) [] (B.take q) A q c (empty_R w) (Kd.C_alloc hCt _) (by simp; omega)
    rw [List.nil_append] at hr1
    obtain ⟨Av, cv, ev⟩ := Kd.R_slice hr1
    subst ev
    rw [hl] at hr1 hrun
    have HQ := Aside0.mk hq
    have HR1 := Aside0.mk hr1
    have HG1 := Aside0.mk hg1
    have HRUN := Aside0.mk hrun
    have HL := Aside0.mk hl
    clear hr1 hg1 hrun h1 h2 h3 hCt hq hl
    go_enter Tryz.func18, Tryz.ntmps18
    go_wp2_with (at_builtin; refine wpList_run_append rfl _ _ _ rfl _ _ rfl rfl HRUN.out ?_)
    go_ret2
    unfold OpenPost
    rw [HN.out, if_pos rfl, Int.toNat_natCast]
    have hb1 : Below w.heap.size w w1 := (below_alloc (Below.refl _ _) _).grown HG1.out (by simp) (fun k hk => by
      have : w.heap.size = k := by simpa [Value.ownBlock] using hk
      omega)
    have hr1 := Kd.R_bound HR1.out
    have hsz := hb1.size
    have hq := HQ.out
    refine ⟨w1.heap.size, fun k => (k = w.heap.size ∨ k = (w.alloc noBytes).heap.size) ∧ ∃ cells, (w1.alloc (.cells #[.slice Av q cv, .int .i64 (m : Int), .int .i64 0] 77)).heap[k]? = some (.cells cells 5 (0, 0)), rfl, ⟨⟨.slice Av q cv, B.take q, ?_, ?_, ?_, ?_, ?_, ?_⟩, Nat.zero_le _, by rw [ofB_length]; exact hm, fun k hk => hk.2⟩, hsz, ?_, ?_⟩
    · rw [ofB_length]; exact World.alloc_heap_new w1 _
    · refine Kd.R_mono (Kd.R_alloc hr1 _) (fun k hk => ⟨hk.1, ?_⟩)
      obtain ⟨q', hq', cells, hc⟩ := hk.2.2.2
      obtain rfl : q' = 5 := by simpa [Kd.int, Kd.scalar] using hq'
      exact ⟨cells, blk_alloc' hc _⟩
    · exact fun b hb => H8.out b (List.mem_of_mem_take hb)
    · rw [ofB_length]; exact ofB_take' B q m (by omega)
    · rw [ofB_length, HL.out]; omega
    · rw [HL.out]; omega
    · rintro k ⟨(rfl | rfl), _⟩
      · exact Nat.le_refl _
      · simp
    · exact hb1.alloc hsz _
theorem at8 {w : World} {A : Option Addr} {n : Nat} {B : List Int} (h : Kd.C (Kd.int .u8) w A n B) (i : Nat) (hi : i < n) : ∃ ad, A = some ad ∧ w.cell? (ad.add i) = some (.int .u8 (B.getD i 0)) := by
  obtain ⟨ad, e, hx⟩ := Kd.at_int h (i : Int) (by omega) (by omega)
  refine ⟨ad, e, ?_⟩
  rw [Int.toNat_natCast] at hx
  rw [hx]; unfold rd; rw [Int.toNat_natCast]
theorem C_len8 {w : World} {A : Option Addr} {n : Nat} {B : List Int} (h : Kd.C (Kd.int .u8) w A n B) : B.length = n := h.1
def fillB (f : Nat → Int) (n p : Nat) : List Int := (List.range p).map f ++ List.replicate (n - p) 0
theorem fillB_set (f : Nat → Int) (n p : Nat) (h : p < n) : (fillB f n p).set p (f p) = fillB f n (p + 1) := by
  unfold fillB
  rw [show n - p = (n - (p + 1)) + 1 by omega, List.replicate_succ, List.set_append, List.range_succ]
  simp
theorem fillB_zero (f : Nat → Int) (n : Nat) : fillB f n 0 = List.replicate n 0 := by simp [fillB]
theorem fillB_all (f : Nat → Int) (n : Nat) : fillB f n n = (List.range n).map f := by simp [fillB]
theorem made8 (W : World) (m : Nat) (hm : m ≤ 9223372036854775807) : RB (fun k => k = W.heap.size) (W.alloc (.cells (madeCells #[.int .u8 0] m) 5)) (.slice (some ⟨W.heap.size, 0, none⟩) m m) (List.replicate m 0) :=
  Kd.R_of_own (own_made_of' (enc := fun x => Value.int .u8 x) (d := 0) W 0 5 m (Nat.zero_le _) hm) (fun k hk => by simpa [Value.ownBlock] using hk.symm)
def pkN (L : List Int) (k : Nat) : List Int := (List.range ((L.length + 7) / 8)).map (byteAt (L.take k))
theorem pkN_zero (L : List Int) : pkN L 0 = List.replicate ((L.length + 7) / 8) 0 := by
  unfold pkN
  rw [List.eq_replicate_iff]
  refine ⟨by simp, fun b hb => ?_⟩
  obtain ⟨j, _, rfl⟩ := List.mem_map.1 hb
  rw [List.take_zero]
  exact byteAt_out [] j (by simp)
theorem pkN_all (L : List Int) : pkN L L.length = pk L := by unfold pkN pk; rw [List.take_length]
theorem pkN_length (L : List Int) (k : Nat) : (pkN L k).length = (L.length + 7) / 8 := by simp [pkN]
theorem pkN_getD (L : List Int) (k j : Nat) (h : j < (L.length + 7) / 8) : (pkN L k).getD j 0 = byteAt (L.take k) j := by simp [pkN, h]
theorem pkN_set (L : List Int) (k : Nat) (h : k < L.length) : (pkN L k).set (k / 8) (byteAt (L.take k) (k / 8) + L.getD k 0 * 2 ^ (7 - k % 8)) = pkN L (k + 1) := by
  have hl : (L.take k).length = k := by rw [List.length_take]; omega
  apply ext_getD
  · simp [pkN_length]
  · intro j hj
    rw [List.length_set, pkN_length] at hj
    rw [getD_set _ _ _ _ (by rw [pkN_length]; omega), pkN_getD L (k + 1) j hj]
    have ht : L.take (k + 1) = L.take k ++ [L.getD k 0] := by
      rw [List.take_succ_eq_append_getElem h, List.getD_eq_getElem?_getD, List.getElem?_eq_getElem h]; rfl
    rw [ht, byteAt_snoc, hl]
    by_cases hjk : k / 8 = j
    · rw [if_pos hjk, if_pos hjk.symm, hjk]
    · rw [if_neg hjk, if_neg (fun e => hjk e.symm), pkN_getD L k j hj]; omega
theorem byteAt_rest' (L : List Int) (k : Nat) (h : k ≤ L.length) : byteAt (L.take k) (k / 8) % 2 ^ (8 - k % 8) = 0 := by
  have := byteAt_rest (L.take k)
  rwa [List.length_take, Nat.min_eq_left h] at this
theorem or_byte' (x b : Int) (m : Nat) (hx : 0 ≤ x ∧ x < 256) (hb : b = 0 ∨ b = 1) (hm : m < 8) (hr : x % 2 ^ (8 - m) = 0) : Go.bits BinOp.or IntKind.u8 x (IntKind.u8.wrap (b * 2 ^ (7 - m))) = x + b * 2 ^ (7 - m) := by
  have h := or_byte x b m hx hb hm hr
  have hp : (2 : Int) ^ (7 - m) ≤ 2 ^ 7 := by
    have h1 : ((2 ^ (7 - m) : Nat) : Int) = (2 : Int) ^ (7 - m) := Int.natCast_pow 2 _
    have h2 := Nat.pow_le_pow_right (show 0 < 2 by omega) (show 7 - m ≤ 7 by omega)
    omega
  have hp0 : (0 : Int) < 2 ^ (7 - m) := Int.pow_pos (by omega)
  have hbd : 0 ≤ b * 2 ^ (7 - m) ∧ b * 2 ^ (7 - m) < 256 := by rcases hb with rfl | rfl <;> omega
  rw [wrap64_id (by omega) (by omega)] at h
  rw [IntKind.wrap_u8]
  exact h
theorem Pack_any (A : Option Addr) (n c : Nat) (L : List Int) (w : World) (hC : Kd.C (Kd.int .u8) w A n L) (h01 : is01 L) (hn : n ≤ 1000000000) :
    Calls Tryz.prog 146 #[.slice A n c] w fun e w' => ∃ v S', e = .returned v ∧ RB S' w' v (pk L) ∧ (∀ k, S' k → w.heap.size ≤ k) ∧ Below w.heap.size w w' := by
  obtain rfl := C_len8 hC
  have HC := Aside0.mk hC
  have H01 := Aside0.mk h01
  obtain ⟨nb, hnb⟩ : ∃ nb, nb = (L.length + 7) / 8 := ⟨_, rfl⟩
  have hmk := print_make_of (P := Tryz.prog) 30 5 (.int .u8 0) 1 Tryz.underlying30 binfo rfl (by decide) nb (by omega)
  have e1 : ((L.length : Int) + 7) / 8 = (nb : Int) := by omega
  have HNB := Aside0.mk hnb
  have hnb' : 8 * nb < L.length + 8 ∧ L.length ≤ 8 * nb := by omega
  clear hC h01 hnb
  go_enter Tryz.func146, Tryz.ntmps146
  go_wp2_with fail
  clear hmk e1
  obtain ⟨g, hg⟩ : ∃ g, g = w.heap.size := ⟨_, rfl⟩
  have HR0 := Aside0.mk (made8 w nb (by omega))
  rw [← hg] at HR0 ⊢
  have HG := Aside0.mk hg
  have HB0 := Aside0.mk (below_alloc (Below.refl w.heap.size w) (.cells (madeCells #[.int .u8 0] nb) 5))
  clear hg
  go_loopw [13] (fun i wr => ∃ k : Nat, i = .int .i64 (k : Int) ∧ k ≤ L.length ∧ Aside0 (RB (fun k => k = g) wr (.slice (some ⟨g, 0, none⟩) nb nb) (pkN L k)) ∧ Aside0 (Below w.heap.size w wr)) (fun i _ => L.length - (intOf i).toNat)
  case atStart => exact ⟨0, rfl, Nat.zero_le _, ⟨by rw [pkN_zero, ← HNB.out]; exact HR0.out⟩, HB0⟩
  case round =>
    obtain ⟨k, rfl, hk, HR, HB⟩ := hrel
    by_cases hlt : k < L.length
    · have hCr := Kd.C_below HC.out HB.out
      obtain ⟨ad, e, hx⟩ := at8 hCr k hlt
      subst e
      have hb01 := getD01 H01.out k
      have hset := pkN_set L k hlt
      have hrest := byteAt_rest' L k hk
      have hx8 := byteAt_is8 (is01_take H01.out k) (k / 8)
      obtain ⟨q, hq⟩ : ∃ q, q = k / 8 := ⟨_, rfl⟩
      obtain ⟨m, hm⟩ : ∃ m, m = k % 8 := ⟨_, rfl⟩
      have hgq := pkN_getD L k q (by have := HNB.out; omega)
      rw [← hq, ← hm] at hset
      rw [← hq, ← hm] at hrest
      rw [← hq] at hx8
      have hcell := Kd.R_celln 0 HR.out (q : Int) (by omega) (by omega)
      unfold rdOf at hcell
      rw [Int.toNat_natCast, hgq] at hcell
      obtain ⟨hc1, hc2⟩ := hcell
      generalize hB : L.getD k 0 = b at *
      generalize hX : byteAt (L.take k) q = x at *
      have hm8 : m < 8 := by omega
      have HO := Aside0.mk (or_byte' x b m hx8 (by omega) hm8 hrest)
      have HSet := Aside0.mk hset
      have i1 : (0 : Int) ≤ (q : Int) := by omega
      have i2 : (q : Int) < (nb : Int) := by omega
      have i2' : q < nb := by omega
      have i3 : (0 : Int) ≤ 7 - (m : Int) := by omega
      have w0' : (k : Int).tdiv 8 = (q : Int) := by rw [Int.tdiv_eq_ediv_of_nonneg (by omega)]; omega
      have w1' : IntKind.i64.wrap ((k : Int) / 8) = (q : Int) := by rw [IntWalk.i64_in _ (by omega)]; omega
      have w4' : IntKind.i64.wrap (q : Int) = (q : Int) := IntWalk.i64_in _ (by omega)
      have w2' : (k : Int).tmod 8 = (m : Int) := by rw [Int.tmod_eq_emod_of_nonneg (by omega)]; omega
      have w3' : IntKind.i64.wrap (7 - (m : Int)) = 7 - (m : Int) := IntWalk.i64_in _ (by omega)
      clear hset hrest hgq hB hX hq hm hCr
      go_wp2_with fail
      refine wp_still 12 (by kernel_rfl) (by kernel_rfl) ?_
      simp only [List.take_succ_cons, List.take_zero, List.drop_succ_cons, List.drop_zero]
      repeat still_step
      repeat still_step
      refine wpStill_nil ?_
      show wpList _ _ _ _ _ _
      rw [HO.out]
      clear w0' w1' w2' w3' w4' HO
      generalize x + b * 2 ^ (7 - m) = V at *
      generalize IntKind.u8.wrap (b * 2 ^ (7 - m)) = Y at *
      go_wp2_with fail
      go_roundw
      case rel =>
        have hr := Kd.R_putn HR.out (q : Int) V
        rw [Int.toNat_natCast, HSet.out] at hr
        refine ⟨k + 1, by go_num, by omega, ⟨?_⟩, ⟨?_⟩⟩
        · first | exact hr | exact Kd.R_drew hr
        · have hb := HB.out.setCell (p := ⟨g, q, none⟩) (by have := HG.out; show w.heap.size ≤ g; omega) (.int .u8 V)
          first | exact hb | exact below_drew hb
      case measure => simp [intOf]; omega
    · obtain rfl : k = L.length := by omega
      go_wp2_with fail
      go_ret
      refine ⟨_, _, rfl, by have := HR.out; rw [pkN_all] at this; exact this, fun j hj => ?_, HB.out⟩
      have := HG.out
      omega
theorem iinfo : (Tryz.prog.info? 3).map (fun i => (i.zero, i.size, i.bytes)) = some (some (.int .i64 0), 1, 8) := by kernel_rfl
def flatI (l : List Int) : List Value := l.map fun x => .int .i64 x
abbrev RowV (w : World) (base : Nat) (e : TypeId) (sz : Nat) (v : Value) (n : Nat) (fl : List Value) : Prop := w.ownsRow base e sz v n fl
theorem RowV.fr {w w' : World} {base : Nat} {e : TypeId} {sz : Nat} {v : Value} {n : Nat} {fl : List Value} {T : Nat → Prop} (h : RowV w base e sz v n fl) (hf : Fr T w w') (hT : ∀ k cs, T k → k < w.heap.size → w.heap[k]? ≠ some (.cells cs e (0, 0))) : RowV w' base e sz v n fl := by
  refine ⟨h.1, ?_⟩
  rcases h.2 with hn | ⟨g, cap, cur, rfl, hb, hg, rest⟩
  · exact .inl hn
  · exact .inr ⟨g, cap, cur, rfl, hb, blk_fr hg hf (fun ht => hT g cur ht (lt_of_block hg) hg), rest⟩
theorem RowV.below {w w' : World} {base : Nat} {e : TypeId} {sz : Nat} {v : Value} {n : Nat} {fl : List Value} (h : RowV w base e sz v n fl) (hb : Below w.heap.size w w') : RowV w' base e sz v n fl :=
  h.fr (Fr.below hb (fun _ => False)) (fun _ _ hk => hk.elim)
theorem RowV.block {w : World} {base : Nat} {e : TypeId} {sz : Nat} {v : Value} {n : Nat} {fl : List Value} (h : RowV w base e sz v n fl) (j : Nat) (hj : v.ownBlock = some j) : (∃ cs, w.heap[j]? = some (.cells cs e (0, 0))) ∧ base ≤ j := by
  rcases h.2 with ⟨rfl, hn⟩ | ⟨g, cap, cur, rfl, hb, hg, rest⟩
  · simp [Value.ownBlock] at hj
  · simp [Value.ownBlock] at hj
    subst hj
    exact ⟨⟨cur, hg⟩, hb⟩
theorem RowV.slice {w : World} {base : Nat} {e : TypeId} {sz : Nat} {v : Value} {n : Nat} {fl : List Value} (h : RowV w base e sz v n fl) : ∃ A c, v = .slice A n c := by
  rcases h.2 with ⟨rfl, hn⟩ | ⟨g, cap, cur, rfl, hb, hg, rest⟩
  · have h0 : n = 0 := hn
    subst h0
    exact ⟨none, 0, rfl⟩
  · exact ⟨_, _, rfl⟩
theorem rowI_append (W : World) (base : Nat) (v : Value) (l : List Int) (x : Int) (g : Nat) (h : RowV W base 3 1 v l.length (flatI l)) (hg : W.heap[g]? = some (.cells #[.int .i64 x] 3 (0, 0))) (hl : l.length ≤ 1000000001) (hb : base ≤ W.heap.size) :
    ∃ v1 w1, (Builtin.append_ #[22, 22] 22 #[v, .slice (some ⟨g, 0, none⟩) 1 1]).run Tryz.prog W = .ok v1 w1 ∧ RowV w1 base 3 1 v1 (l ++ [x]).length (flatI (l ++ [x])) ∧ W.grownBy w1 v.ownBlock := by
  obtain ⟨i0, hi, hzz⟩ := Option.map_eq_some_iff.1 iinfo
  simp only [Prod.mk.injEq] at hzz
  obtain ⟨hz0, hz1, hz2⟩ := hzz
  obtain ⟨v1, w1, hr, h2, h3, _, _⟩ := run_append_own_at (P := Tryz.prog) W base 22 22 3 i0 _ 1 8 Tryz.underlying22 hi hz0 hz1 hz2 rfl (by omega) v l.length (flatI l) h ⟨g, 0, none⟩ 1 1 [.int .i64 x] (by simp)
    (fun j u hu => by
      rw [show (⟨g, 0, none⟩ : Addr).add j = ⟨g, j, none⟩ by simp [Addr.add_lit], cell_of_row W g j #[.int .i64 x] _ (0, 0) hg]
      simpa using hu)
    (by intro u hu; simp at hu; subst hu; rfl) (by simp only [maxLen]; omega) (by omega) hb
  refine ⟨v1, w1, hr, ?_, h3⟩
  have e : flatI (l ++ [x]) = flatI l ++ [.int .i64 x] := by simp [flatI]
  rw [e, List.length_append]
  exact h2
theorem at64 {w : World} {A : Option Addr} {n : Nat} {B : List Int} (h : Kd.C (Kd.int .i64) w A n B) (i : Nat) (hi : i < n) : ∃ ad, A = some ad ∧ w.cell? (ad.add i) = some (.int .i64 (B.getD i 0)) := by
  obtain ⟨ad, e, hx⟩ := Kd.at_int h (i : Int) (by omega) (by omega)
  refine ⟨ad, e, ?_⟩
  rw [Int.toNat_natCast] at hx
  rw [hx]; unfold rd; rw [Int.toNat_natCast]
theorem RowV.reads {w : World} {base : Nat} {v : Value} {l : List Int} (h : RowV w base 3 1 v l.length (flatI l)) (hl : l.length ≤ 9223372036854775807) : ∃ A c, v = .slice A l.length c ∧ l.length ≤ c ∧ Kd.C (Kd.int .i64) w A l.length l := by
  rcases h.2 with ⟨rfl, hn⟩ | ⟨g, cap, cur, rfl, hb, hg, hle, hcap, hsz, htk⟩
  · have : l = [] := List.length_eq_zero_iff.1 hn
    subst this
    exact ⟨none, 0, rfl, Nat.le_refl _, Kd.C_of_reads (enc := Value.int .i64) (d := (0 : Int)) (h1 := fun _ => rfl) ⟨rfl, hl, fun hn => absurd hn (by simp)⟩⟩
  · refine ⟨_, cap, rfl, hle, Kd.C_of_reads (enc := Value.int .i64) (d := (0 : Int)) (h1 := fun _ => rfl) ⟨rfl, hl, fun hn => ⟨_, rfl, fun j hj => ?_⟩⟩⟩
    have e : (⟨g, 0, none⟩ : Addr).add j = ⟨g, j, none⟩ := by unfold Addr.add; split <;> simp_all
    rw [e, cell_of_row w g j cur _ (0, 0) hg]
    have h1 : (cur.toList.take (l.length * 1))[j]? = (flatI l)[j]? := by rw [htk]
    rw [List.getElem?_take, if_pos (by omega), Array.getElem?_toList] at h1
    rw [h1]
    simp [flatI, hj]
theorem lit_C64 (X : World) (xs : List Int) (hm : xs.length ≤ 9223372036854775807) : Kd.C (Kd.int .i64) (X.alloc (.cells (nums .i64 xs).toArray 3)) (some ⟨X.heap.size, 0, none⟩) xs.length xs := by
  obtain ⟨A, c, e, _, hC⟩ := Kd.R_reads (Kd.R_of_own (ok := fun _ => True) (own_lit_of (enc := fun x => Value.int .i64 x) X X.heap.size 3 xs (Nat.le_refl _) hm) (fun _ _ => trivial))
  cases e
  exact hC
structure RWr (w : World) (S : Nat → Prop) (p : Nat) (L : List Int) : Prop where
  blk : ∃ v, w.heap[p]? = some (.cells #[v] 135 (0, 0)) ∧ RB S w v L
  bits : is01 L
  typed : ∀ k, S k → ∃ cells, w.heap[k]? = some (.cells cells 5 (0, 0))
def RWrTo (w : World) (S : Nat → Prop) (p : Nat) (L : List Int) (w' : World) : Prop := ∃ S', RWr w' S' p L ∧ (∀ k, S' k → S k ∨ w.heap.size ≤ k) ∧ Fr (fun k => k = p ∨ S k) w w'
theorem RWr.lt {w : World} {S : Nat → Prop} {p : Nat} {L : List Int} (h : RWr w S p L) (k : Nat) (hk : S k) : k < w.heap.size := by
  obtain ⟨cells, hc⟩ := h.typed k hk
  exact lt_of_block hc
theorem RWr.p_lt {w : World} {S : Nat → Prop} {p : Nat} {L : List Int} (h : RWr w S p L) : p < w.heap.size := by
  obtain ⟨v, hb, _⟩ := h.blk
  exact lt_of_block hb
theorem RWr.fr {w w' : World} {S T : Nat → Prop} {p : Nat} {L : List Int} (h : RWr w S p L) (hf : Fr T w w') (hp : ¬ T p) (hS : ∀ k, S k → ¬ T k) : RWr w' S p L := by
  obtain ⟨v, hb, hr⟩ := h.blk
  exact ⟨⟨v, blk_fr hb hf hp, R_fr hr hf (fun k hk _ => hS k hk)⟩, h.bits, fun k hk => by
    obtain ⟨cells, hc⟩ := h.typed k hk
    exact ⟨cells, blk_fr hc hf (hS k hk)⟩⟩
theorem RWr.below {w w' : World} {S : Nat → Prop} {p : Nat} {L : List Int} (h : RWr w S p L) (hb : Below w.heap.size w w') : RWr w' S p L := h.fr (Fr.below hb (fun _ => False)) (fun h => h) (fun _ _ h => h)
theorem RWr.wrTo {w w' : World} {S : Nat → Prop} {p : Nat} {L : List Int} (h : RWr w S p L) (hb : Below w.heap.size w w') : RWrTo w S p L w' := ⟨S, h.below hb, fun _ hk => .inl hk, Fr.below hb _⟩
theorem RWrTo.glue {w W1 W2 : World} {S S1 : Nat → Prop} {p : Nat} {L2 : List Int} (hs1 : ∀ k, S1 k → S k ∨ w.heap.size ≤ k) (f1 : Fr (fun k => k = p ∨ S k) w W1) (h2 : RWrTo W1 S1 p L2 W2) : RWrTo w S p L2 W2 := by
  obtain ⟨S2, k2, hs2, f2⟩ := h2
  refine ⟨S2, k2, fun i hi => ?_, f1.next f2 (fun i hi hT => ?_)⟩
  · rcases hs2 i hi with q | q
    · exact hs1 i q
    · exact .inr (Nat.le_trans f1.size q)
  · rcases hT with q | q
    · exact .inl q
    · rcases hs1 i q with q | q
      · exact .inr q
      · omega
theorem RWr.stored {w w1 : World} {S : Nat → Prop} {p n c : Nat} {A : Option Addr} {L L1 : List Int} {row : Option Nat} (h : RWr w S p L) (h01 : is01 L1) (hR : RB (fun k => S k ∨ w.heap.size ≤ k) w1 (.slice A n c) L1) (hg : w.grownBy w1 row) (hr : ∀ k, row = some k → S k) : RWrTo w S p L1 (w1.setCell ⟨p, 0, none⟩ (.slice A n c)) := by
  obtain ⟨v, hb, hrr⟩ := h.blk
  have hp1 : w1.heap[p]? = some (.cells #[v] 135 (0, 0)) := by
    refine blk_grown hb hg (fun e => ?_)
    obtain ⟨cells, hc⟩ := h.typed p (hr p e.symm)
    exact blk_ne hb hc (by decide) rfl
  have hR2 := Kd.R_bound (Kd.R_set (j := 0) (u := .slice A n c) hR hp1 (by simp [Kd.int, Kd.scalar]))
  refine ⟨fun k => (S k ∨ w.heap.size ≤ k) ∧ ∃ cells, (w1.setCell ⟨p, 0, none⟩ (.slice A n c)).heap[k]? = some (.cells cells 5 (0, 0)), ⟨⟨.slice A n c, one_setCell hp1, ?_⟩, h01, fun k hk => hk.2⟩, fun k hk => hk.1, ?_⟩
  · refine Kd.R_mono hR2 (fun k hk => ⟨hk.1, ?_⟩)
    obtain ⟨q, hq, cells, hc⟩ := hk.2.2.2
    obtain rfl : q = 5 := by simpa [Kd.int, Kd.scalar] using hq
    exact ⟨cells, hc⟩
  · exact ((Fr.refl _ _).grown hg (fun k _ e => .inr (hr k e))).setCell (p := ⟨p, 0, none⟩) (fun _ => .inl rfl) _
theorem RefPut_any (S : Nat → Prop) (p : Nat) (L M : List Int) (A : Option Addr) (m c : Nat) (w : World) (hW : RWr w S p L) (hC : Kd.C (Kd.int .u8) w A m M) (hM : is01 M) (hL : L.length ≤ 1048576) (hm : m ≤ 1000000000) :
    Calls Tryz.prog 181 #[.pointer (some ⟨p, 0, none⟩), .slice A m c] w fun e w' => e = .returned (.int .i64 (putE L M)) ∧ RWrTo w S p (putL L M) w' := by
  obtain ⟨v, hblk, hR⟩ := hW.blk
  obtain ⟨Av, cv, ev⟩ := Kd.R_slice hR
  subst ev
  have hml := C_len8 hC
  have c0 := cell_of_one hblk
  have fz := free_of_one hblk
  have HW := Aside0.mk hW
  have HR := Aside0.mk hR
  have HC := Aside0.mk hC
  have HM := Aside0.mk hM
  have HK := Aside0.mk hblk
  clear hW hR hC hM hblk
  by_cases ho : 1048576 < L.length + m
  · have HE : Aside0 (putE L M = 2) := ⟨by unfold putE; rw [if_pos (by omega)]⟩
    have HL : Aside0 (putL L M = L) := ⟨by unfold putL; rw [if_pos (by omega)]⟩
    have q1 : decide ((1048576 : Int) < (L.length : Int) + (m : Int)) = true := by simp; omega
    clear hml
    go_enter Tryz.func181, Tryz.ntmps181
    go_wp2_with fail
    go_ret
    rw [HE.out, HL.out]
    exact ⟨rfl, HW.out.wrTo (Below.refl _ _)⟩
  · have HE : Aside0 (putE L M = 0) := ⟨by unfold putE; rw [if_neg (by omega)]⟩
    have HL : Aside0 (putL L M = L ++ M) := ⟨by unfold putL; rw [if_neg (by omega)]⟩
    have q1 : decide ((1048576 : Int) < (L.length : Int) + (m : Int)) = false := by simp; omega
    clear hml
    go_enter Tryz.func181, Tryz.ntmps181
    go_wp2_with (at_builtin; refine Kd.R_append_row (Value.int .u8) (0 : Int) (w0 := w) 0 rfl (.tmp 18) (.tmp 19) 30 5 (.int .u8 0) 1 rfl Tryz.underlying30 binfo rfl (by decide) (.slice Av L.length cv) L M _ _ _ (fun k => S k ∨ w.heap.size ≤ k) rfl rfl (fun k hk => .inr hk) (Kd.R_mono HR.out (fun _ hk => .inl hk)) HC.out (Below.refl _ _) (Nat.zero_le _) (by omega) ?_; intro v1 w1 ho hb1 hg hat; obtain ⟨A1, k1, ev1⟩ := Kd.R_slice ho; subst ev1; have hbk := blk_grown HK.out hg (Kd.R_ne HR.out HK.out (by decide)); have d0 := cell_of_one hbk; have df := free_of_one hbk; have HO1 := Aside0.mk ho; have HG1 := Aside0.mk hg; clear ho hg hbk hat hb1)
    go_ret
    rw [HE.out, HL.out]
    refine ⟨rfl, ?_⟩
    have := HW.out.stored (is01_append HW.out.bits HM.out) HO1.out HG1.out (fun k hk => HR.out.1 k hk)
    simpa using this
theorem numb_fill (v : Int) (n : Nat) : fillB (fun i => v / 2 ^ (n - 1 - i) % 2) n n = numb v n := by rw [fillB_all]; rfl
theorem Number_any (v : Int) (n : Nat) (w : World) (hv : 0 ≤ v) (hv' : v ≤ 9223372036854775807) (hn : n ≤ 60) :
    Calls Tryz.prog 182 #[.int .i64 v, .int .i64 n] w fun e w' => ∃ g S', e = .returned (.slice (some ⟨g, 0, none⟩) n n) ∧ RB S' w' (.slice (some ⟨g, 0, none⟩) n n) (numb v n) ∧ (∀ k, S' k → w.heap.size ≤ k) ∧ Below w.heap.size w w' := by
  have hmk := print_make_of (P := Tryz.prog) 30 5 (.int .u8 0) 1 Tryz.underlying30 binfo rfl (by decide) n (by omega)
  go_enter Tryz.func182, Tryz.ntmps182
  go_wp2_with fail
  clear hmk
  obtain ⟨g, hg⟩ : ∃ g, g = w.heap.size := ⟨_, rfl⟩
  have HR0 := Aside0.mk (made8 w n (by omega))
  rw [← hg] at HR0 ⊢
  have HG := Aside0.mk hg
  have HB0 := Aside0.mk (below_alloc (Below.refl w.heap.size w) (.cells (madeCells #[.int .u8 0] n) 5))
  clear hg
  go_loopw [10] (fun i wr => ∃ k : Nat, i = .int .i64 (k : Int) ∧ k ≤ n ∧ Aside0 (RB (fun k => k = g) wr (.slice (some ⟨g, 0, none⟩) n n) (fillB (fun i => v / 2 ^ (n - 1 - i) % 2) n k)) ∧ Aside0 (Below w.heap.size w wr)) (fun i _ => n - (intOf i).toNat)
  case atStart => exact ⟨0, rfl, Nat.zero_le _, ⟨by rw [fillB_zero]; exact HR0.out⟩, HB0⟩
  case round =>
    obtain ⟨k, rfl, hk, HR, HB⟩ := hrel
    by_cases hlt : k < n
    · have hcell := Kd.R_celln 0 HR.out (k : Int) (by omega) (by omega)
      rw [Int.toNat_natCast] at hcell
      obtain ⟨hc1, hc2⟩ := hcell
      have HP := Aside0.mk (fillB_set (fun i => v / 2 ^ (n - 1 - i) % 2) n k hlt)
      have hd : 0 ≤ v / 2 ^ (n - 1 - k) ∧ v / 2 ^ (n - 1 - k) ≤ v := ⟨Int.ediv_nonneg hv (Int.le_of_lt (Int.pow_pos (by omega))), Int.ediv_le_self _ hv⟩
      have ha := and1_i64 (v / 2 ^ (n - 1 - k)) (by omega)
      have i3 : (0 : Int) ≤ (k : Int) := by omega
      have i4 : (k : Int) < (n : Int) := by omega
      have i5 : (0 : Int) ≤ (n : Int) - 1 - k := by omega
      have hb2 : 0 ≤ v / 2 ^ (n - 1 - k) % 2 ∧ v / 2 ^ (n - 1 - k) % 2 < 2 := by omega
      clear hd
      go_wp2_with fail
      go_roundw
      case rel =>
        have hr := Kd.R_putn HR.out (k : Int) (v / 2 ^ (n - 1 - k) % 2)
        rw [Int.toNat_natCast, HP.out] at hr
        refine ⟨k + 1, by go_num, by omega, ⟨?_⟩, ⟨HB.out.setCell (p := ⟨g, k, none⟩) (by have := HG.out; show w.heap.size ≤ g; omega) _⟩⟩
        have e : v / 2 ^ (n - 1 - k) % 2 % 256 = v / 2 ^ (n - 1 - k) % 2 := by omega
        first | exact hr | (rw [e]; exact hr)
      case measure => simp [intOf]; omega
    · obtain rfl : k = n := by omega
      go_wp2_with fail
      go_ret
      refine ⟨g, _, rfl, by have := HR.out; rw [numb_fill] at this; exact this, fun j hj => ?_, HB.out⟩
      have := HG.out
      omega
theorem RPut_any (S : Nat → Prop) (p : Nat) (L : List Int) (v n : Int) (w : World) (hW : RWr w S p L) (hL : L.length ≤ 1048576) :
    Calls Tryz.prog 142 #[.pointer (some ⟨p, 0, none⟩), .int .i64 v, .int .i64 n] w fun e w' => e = .returned (.int .i64 (wPut L v n).1) ∧ RWrTo w S p (wPut L v n).2 w' := by
  have HW := Aside0.mk hW
  clear hW
  have no : n < 0 ∨ 32 < n ∨ v < 0 ∨ 2 ^ n.toNat ≤ v → Aside0 (wPut L v n = (1, L)) := fun h => ⟨by unfold wPut; rw [if_pos h]⟩
  by_cases h1 : n < 0
  · have HN := no (.inl h1)
    have d1 : decide (n < 0) = true := by simpa using h1
    clear no
    go_enter Tryz.func142, Tryz.ntmps142
    go_wp2_with fail
    go_ret
    rw [HN.out]
    exact ⟨rfl, HW.out.wrTo (Below.refl _ _)⟩
  by_cases h2 : 32 < n
  · have HN := no (.inr (.inl h2))
    have d1 : decide (n < 0) = false := by simpa using h1
    have d2 : decide (32 < n) = true := by simpa using h2
    clear no
    go_enter Tryz.func142, Tryz.ntmps142
    go_wp2_with fail
    go_ret
    rw [HN.out]
    exact ⟨rfl, HW.out.wrTo (Below.refl _ _)⟩
  by_cases h3 : v < 0
  · have HN := no (.inr (.inr (.inl h3)))
    have d1 : decide (n < 0) = false := by simpa using h1
    have d2 : decide (32 < n) = false := by simpa using h2
    have d3 : decide (v < 0) = true := by simpa using h3
    clear no
    go_enter Tryz.func142, Tryz.ntmps142
    go_wp2_with fail
    go_ret
    rw [HN.out]
    exact ⟨rfl, HW.out.wrTo (Below.refl _ _)⟩
  obtain ⟨m, rfl⟩ : ∃ m : Nat, n = m := ⟨n.toNat, by omega⟩
  have d1 : decide ((m : Int) < 0) = false := by simp
  have d2 : decide (32 < (m : Int)) = false := by simpa using h2
  have d3 : decide (v < 0) = false := by simp; omega
  have hp2 := pow_le32 (m := m) (by omega)
  have hm : m ≤ 32 := by omega
  clear h1 h2
  have hs := shl1 m hm
  by_cases h4 : 2 ^ m ≤ v
  · have HN := no (.inr (.inr (.inr (by simpa using h4))))
    have d4 : decide (2 ^ m ≤ v) = true := by simpa using h4
    have d4' : decide (wrap64 (2 ^ min m 64) ≤ v) = true := by rw [hs]; simpa using h4
    clear no hs
    go_enter Tryz.func142, Tryz.ntmps142
    go_wp2_with fail
    go_ret
    rw [HN.out]
    exact ⟨rfl, HW.out.wrTo (Below.refl _ _)⟩
  have HN : Aside0 (wPut L v m = wput L (numb v m)) := ⟨by unfold wPut; rw [if_neg (by simp only [Int.toNat_natCast]; omega)]; simp⟩
  have d4 : decide (2 ^ m ≤ v) = false := by simpa using h4
  have d4' : decide (wrap64 (2 ^ min m 64) ≤ v) = false := by rw [hs]; simpa using h4
  have hv2 : v ≤ 4294967296 := by omega
  clear no hs h4
  go_enter Tryz.func142, Tryz.ntmps142
  go_wp2_with (first
    | (go_at_call 182; refine (Number_any v m _ (by omega) (by omega) (by omega)).mono ?_; rintro e w1 ⟨g1, S1, rfl, hr, hs, hb⟩; obtain ⟨A1, c1, hv1, _, hC1⟩ := Kd.R_reads hr; rw [numb_length] at hv1 hC1; cases hv1; have HC1 := Aside0.mk hC1; have HB1 := Aside0.mk hb; clear hr hs hC1 hb)
    | (go_at_call 181; refine (RefPut_any S p L _ _ _ _ _ (HW.out.below HB1.out) HC1.out (numb_01 _ _) hL (by omega)).mono ?_; rintro e w2 ⟨rfl, h2⟩; have H2 := Aside0.mk h2; clear h2))
  go_ret
  rw [HN.out]
  exact ⟨rfl, RWrTo.glue (fun k hk => .inl hk) (Fr.below HB1.out _) H2.out⟩
theorem unary_any (n : Nat) (w : World) (hn : n ≤ 1000) :
    Calls Tryz.prog 193 #[.int .i64 n] w fun e w' => ∃ g S', e = .returned (.slice (some ⟨g, 0, none⟩) (n + 1) (n + 1)) ∧ RB S' w' (.slice (some ⟨g, 0, none⟩) (n + 1) (n + 1)) (numb 0 n ++ numb 1 1) ∧ (∀ k, S' k → w.heap.size ≤ k) ∧ Below w.heap.size w w' := by
  have hmk := print_make_of (P := Tryz.prog) 30 5 (.int .u8 0) 1 Tryz.underlying30 binfo rfl (by decide) (n + 1) (by omega)
  rw [show ((n + 1 : Nat) : Int) = (n : Int) + 1 by omega] at hmk
  have hr := made8 w (n + 1) (by omega)
  have hcell := Kd.R_celln 0 hr (n : Int) (by omega) (by omega)
  rw [Int.toNat_natCast] at hcell
  obtain ⟨hc1, hc2⟩ := hcell
  have hr2 := Kd.R_putn hr (n : Int) 1
  have e : (List.replicate (n + 1) (0 : Int)).set n 1 = numb 0 n ++ numb 1 1 := by
    have e0 : numb 0 n = List.replicate n 0 := by
      unfold numb
      rw [List.eq_replicate_iff]
      refine ⟨by simp, fun b hb => ?_⟩
      obtain ⟨j, _, rfl⟩ := List.mem_map.1 hb
      simp
    rw [e0, List.replicate_succ', List.set_append_right _ _ (by simp)]
    simp [numb]
  rw [Int.toNat_natCast, e] at hr2
  rw [World.setCell_alloc_at _ _ _ _ _ rfl] at hr2
  have HR2 := Aside0.mk hr2
  have i3 : (0 : Int) ≤ (n : Int) := by omega
  have i4 : (n : Int) < (n : Int) + 1 := by omega
  clear hr hr2 e
  go_enter Tryz.func193, Tryz.ntmps193
  go_wp2_with fail
  go_ret
  exact ⟨_, _, rfl, HR2.out, fun k hk => by omega, below_alloc (Below.refl _ _) _⟩
theorem RUnaryW_any (S : Nat → Prop) (p : Nat) (L : List Int) (n : Int) (w : World) (hW : RWr w S p L) (hL : L.length ≤ 1048576) :
    Calls Tryz.prog 185 #[.pointer (some ⟨p, 0, none⟩), .int .i64 n] w fun e w' => e = .returned (.int .i64 (wUnary L n).1) ∧ RWrTo w S p (wUnary L n).2 w' := by
  have HW := Aside0.mk hW
  clear hW
  have no : n < 0 ∨ 1000 < n → Aside0 (wUnary L n = (1, L)) := fun h => ⟨by unfold wUnary; rw [if_pos h]⟩
  by_cases h1 : n < 0
  · have HN := no (.inl h1)
    have d1 : decide (n < 0) = true := by simpa using h1
    clear no
    go_enter Tryz.func185, Tryz.ntmps185
    go_wp2_with fail
    go_ret
    rw [HN.out]
    exact ⟨rfl, HW.out.wrTo (Below.refl _ _)⟩
  by_cases h2 : 1000 < n
  · have HN := no (.inr h2)
    have d1 : decide (n < 0) = false := by simpa using h1
    have d2 : decide (1000 < n) = true := by simpa using h2
    clear no
    go_enter Tryz.func185, Tryz.ntmps185
    go_wp2_with fail
    go_ret
    rw [HN.out]
    exact ⟨rfl, HW.out.wrTo (Below.refl _ _)⟩
  obtain ⟨m, rfl⟩ : ∃ m : Nat, n = m := ⟨n.toNat, by omega⟩
  have d1 : decide ((m : Int) < 0) = false := by simp
  have d2 : decide (1000 < (m : Int)) = false := by simpa using h2
  have HN : Aside0 (wUnary L m = wput L (numb 0 m ++ numb 1 1)) := ⟨by unfold wUnary; rw [if_neg (by omega)]; simp⟩
  have hm : m ≤ 1000 := by omega
  clear no h1 h2
  go_enter Tryz.func185, Tryz.ntmps185
  go_wp2_with (first
    | (go_at_call 193; refine (unary_any m _ hm).mono ?_; rintro e w1 ⟨g1, S1, rfl, hr, hs, hb⟩; obtain ⟨A1, c1, hv1, _, hC1⟩ := Kd.R_reads hr; rw [List.length_append, numb_length, numb_length] at hv1 hC1; cases hv1; have HC1 := Aside0.mk hC1; have HB1 := Aside0.mk hb; clear hr hs hC1 hb)
    | (go_at_call 181; refine (RefPut_any S p L _ _ _ _ _ (HW.out.below HB1.out) HC1.out (is01_append (numb_01 _ _) (numb_01 _ _)) hL (by omega)).mono ?_; rintro e w2 ⟨rfl, h2⟩; have H2 := Aside0.mk h2; clear h2))
  go_ret
  rw [HN.out]
  exact ⟨rfl, RWrTo.glue (fun k hk => .inl hk) (Fr.below HB1.out _) H2.out⟩
theorem RLen_any (S : Nat → Prop) (p : Nat) (L : List Int) (w : World) (hW : RWr w S p L) : Calls Tryz.prog 107 #[.pointer (some ⟨p, 0, none⟩)] w fun e w' => e = .returned (.int .i64 (L.length : Int)) ∧ w' = w := by
  obtain ⟨v, hb, hr⟩ := hW.blk
  obtain ⟨A, c, e⟩ := Kd.R_slice hr
  subst e
  have c0 := cell_of_one hb
  clear hW hb hr
  go_enter Tryz.func107, Tryz.ntmps107
  go_wp2_with fail
  go_ret
  exact ⟨rfl, rfl⟩
theorem RBytes_any (S : Nat → Prop) (p : Nat) (L : List Int) (w : World) (hW : RWr w S p L) (hL : L.length ≤ 1048576) :
    Calls Tryz.prog 106 #[.pointer (some ⟨p, 0, none⟩)] w fun e w' => ∃ v S', e = .returned v ∧ RB S' w' v (pk L) ∧ (∀ k, S' k → w.heap.size ≤ k) ∧ Below w.heap.size w w' := by
  obtain ⟨v, hb, hr⟩ := hW.blk
  obtain ⟨A, c, e, _, hC⟩ := Kd.R_reads hr
  subst e
  have c0 := cell_of_one hb
  have HP := Aside0.mk (Pack_any A L.length c L w hC hW.bits (by omega))
  clear hW hb hr hC
  go_enter Tryz.func106, Tryz.ntmps106
  go_wp2_with (go_at_call 146; refine HP.out.mono ?_; rintro e w1 ⟨v1, S1, rfl, hr, hs, hb⟩; have HR := Aside0.mk hr; have HS := Aside0.mk hs; have HB := Aside0.mk hb; clear hr hs hb)
  go_ret
  exact ⟨v1, S1, rfl, HR.out, HS.out, HB.out⟩
def xorB (x : Int) (k : Nat) : Int := ((x.toNat ^^^ k : Nat) : Int)
def fbit (low : Bool) (p : Nat) : Nat := if low then 2 ^ (p % 8) else 2 ^ (7 - p % 8)
def fl (low : Bool) (a0 mask : Nat) (B : List Int) : Nat → List Int
  | 0 => B
  | i + 1 => if mask / 2 ^ i % 2 = 0 ∨ 8 * B.length ≤ a0 + i then fl low a0 mask B i else (fl low a0 mask B i).set ((a0 + i) / 8) (xorB ((fl low a0 mask B i).getD ((a0 + i) / 8) 0) (fbit low (a0 + i)))
end Go.Proofs.YtjcijaojcgampaaGreatDoor.P
end
