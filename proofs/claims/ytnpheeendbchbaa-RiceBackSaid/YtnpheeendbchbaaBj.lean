/- The reader: what is in memory; the contract of Reader.next. The contracts of Reader.Get, Signed, zeros. The contracts of New, Writer.Len, Reader.At, Left, Seek, Align, Unary, Gamma. The contracts of Reader.Take, Align, Open, Writer.Bytes. -/
import Derived.Test.YtnpheeendbchbaaBi
import Derived.Deep.QuietTactic
import Derived.BigQuiet
import Derived.WalkSmall
section
namespace Go.Proofs.Ytnpheeendbchbaa.P
open Go.RowKit Go.Shelf Go.Proofs.Ytnpheeendbchbaa.Bits Go.Proofs.YtnpheeendbchbaaW.PrintWords Go.Proofs.YtnpheeendbchbaaW.PrintLast Go.Proofs.YtnpheeendbchbaaW.PrintMore
set_option linter.unusedVariables false
set_option linter.unusedSimpArgs false
attribute [local go_sem ↓] Go.wp_at_zero Go.wp_at_succ

/-- A reader at block p of the bits L, at a position; its bytes lie in S. -/
structure Rd (w : World) (S : Nat → Prop) (p : Nat) (L : List Int) (at_ : Nat) : Prop where
  blk : ∃ v B, w.heap[p]? = some (.cells #[v, .int .i64 (L.length : Int), .int .i64 (at_ : Int)] 69 (0, 0)) ∧ RB S w v B ∧ is8 B ∧ ofB B L.length = L ∧ L.length ≤ 8 * B.length ∧ B.length ≤ 1000000000
  at_le : at_ ≤ L.length
  len : L.length ≤ 1048576
  typed : ∀ k, S k → ∃ cells, w.heap[k]? = some (.cells cells 5 (0, 0))
theorem Rd.p_lt {w : World} {S : Nat → Prop} {p a : Nat} {L : List Int} (h : Rd w S p L a) : p < w.heap.size := by
  obtain ⟨v, B, hb, _⟩ := h.blk
  exact lt_of_block hb
theorem Rd.lt {w : World} {S : Nat → Prop} {p a : Nat} {L : List Int} (h : Rd w S p L a) (k : Nat) (hk : S k) : k < w.heap.size := by
  obtain ⟨cells, hc⟩ := h.typed k hk
  exact lt_of_block hc
theorem Rd.bits {w : World} {S : Nat → Prop} {p a : Nat} {L : List Int} (h : Rd w S p L a) : is01 L := by
  obtain ⟨v, B, _, _, _, hL, _⟩ := h.blk
  rw [← hL]; exact ofB_01 _ _
theorem Rd.fr {w w' : World} {S T : Nat → Prop} {p a : Nat} {L : List Int} (h : Rd w S p L a) (hf : Fr T w w') (hp : ¬ T p) (hS : ∀ k, S k → ¬ T k) : Rd w' S p L a := by
  obtain ⟨v, B, hb, hr, h8, hL, hl, hl2⟩ := h.blk
  exact ⟨⟨v, B, blk_fr hb hf hp, R_fr hr hf (fun k hk _ => hS k hk), h8, hL, hl, hl2⟩, h.at_le, h.len, fun k hk => by
    obtain ⟨cells, hc⟩ := h.typed k hk
    exact ⟨cells, blk_fr hc hf (hS k hk)⟩⟩
theorem Rd.below {w w' : World} {S : Nat → Prop} {p a : Nat} {L : List Int} (h : Rd w S p L a) (hb : Below w.heap.size w w') : Rd w' S p L a := h.fr (Fr.below hb (fun _ => False)) (fun h => h) (fun _ _ h => h)
theorem Rd.drew {w : World} {S : Nat → Prop} {p a : Nat} {L : List Int} (h : Rd w S p L a) (n : Nat) : Rd (w.drewN n) S p L a := h.below (below_drewN (Below.refl _ _) n)
theorem Rd.cell1 {w : World} {S : Nat → Prop} {p a : Nat} {L : List Int} (h : Rd w S p L a) : w.cell? ⟨p, 1, none⟩ = some (.int .i64 (L.length : Int)) := by
  obtain ⟨v, B, hb, _⟩ := h.blk
  rw [cell_of_row _ _ _ _ _ _ hb]; rfl
theorem Rd.cell2 {w : World} {S : Nat → Prop} {p a : Nat} {L : List Int} (h : Rd w S p L a) : w.cell? ⟨p, 2, none⟩ = some (.int .i64 (a : Int)) := by
  obtain ⟨v, B, hb, _⟩ := h.blk
  rw [cell_of_row _ _ _ _ _ _ hb]; rfl
theorem Rd.fz {w : World} {S : Nat → Prop} {p a : Nat} {L : List Int} (h : Rd w S p L a) (i : Nat) : w.frozen? ⟨p, i, none⟩ = false := by
  obtain ⟨v, B, hb, _⟩ := h.blk
  exact blk_frozen hb i
/-- The bytes, to be read. -/
theorem Rd.bytes {w : World} {S : Nat → Prop} {p a : Nat} {L : List Int} (h : Rd w S p L a) : ∃ A n c B, w.cell? ⟨p, 0, none⟩ = some (.slice A n c) ∧ Kd.C (Kd.int .u8) w A n B ∧ is8 B ∧ L.length ≤ 8 * n ∧ n ≤ 1000000000 ∧ ∀ i, i < L.length → bitAt B i = L.getD i 0 := by
  obtain ⟨v, B, hb, hr, h8, hL, hl, hl2⟩ := h.blk
  obtain ⟨A, c, e, _, hC⟩ := Kd.R_reads hr
  subst e
  refine ⟨A, B.length, c, B, by rw [cell_of_row _ _ _ _ _ _ hb]; rfl, hC, h8, hl, hl2, fun i hi => ?_⟩
  rw [← getD_ofB B L.length i hi, hL]
/-- The position is set. -/
theorem Rd.seek {w : World} {S : Nat → Prop} {p a : Nat} {L : List Int} (h : Rd w S p L a) (b : Nat) (hb : b ≤ L.length) : Rd (w.setCell ⟨p, 2, none⟩ (.int .i64 (b : Int))) S p L b := by
  obtain ⟨v, B, hk, hr, h8, hL, hl, hl2⟩ := h.blk
  refine ⟨⟨v, B, blk_put hk 2 _ rfl, Kd.R_set hr hk (by simp [Kd.int, Kd.scalar]) 2 _, h8, hL, hl, hl2⟩, hb, h.len, fun k hk' => ?_⟩
  obtain ⟨cells, hc⟩ := h.typed k hk'
  exact ⟨cells, blk_far hc (blk_ne hc hk (by decide)) _⟩
theorem Rd.fr_seek {w : World} {p : Nat} (u : Value) (j : Nat) : Fr (fun k => k = p) w (w.setCell ⟨p, j, none⟩ u) := Fr.setCell (S := fun k => k = p) (Fr.refl _ _) (p := ⟨p, j, none⟩) (fun _ => rfl) u

theorem or_snoc (x b : Int) (h0 : 0 ≤ x) (h1 : x ≤ 4294967296) (hb : b = 0 ∨ b = 1) : Go.bits BinOp.or IntKind.i64 (x * 2) b = 2 * x + b := by
  obtain ⟨X, rfl⟩ : ∃ X : Nat, x = X := ⟨x.toNat, by omega⟩
  obtain ⟨c, hc, rfl⟩ : ∃ c : Nat, c < 2 ∧ b = c := ⟨b.toNat, by omega, by omega⟩
  rw [show ((X : Int) * 2) = ((2 * X : Nat) : Int) by omega, or_i64 _ _ (by omega) (by omega)]
  have h := Nat.two_pow_add_eq_or_of_lt (i := 1) (b := c) (by omega) X
  rw [Nat.pow_one] at h
  rw [← h]
  norm_cast
theorem take_getD (L : List Int) (a k : Nat) (h : a + k < L.length) : (L.drop a).take (k + 1) = (L.drop a).take k ++ [L.getD (a + k) 0] := by
  rw [List.take_succ_eq_append_getElem (by rw [List.length_drop]; omega), List.getElem_drop, List.getD_eq_getElem?_getD, List.getElem?_eq_getElem (by omega)]; rfl

set_option maxHeartbeats 1000000 in
set_option maxRecDepth 100000 in
theorem next_any (S : Nat → Prop) (p a n : Nat) (L : List Int) (w : World) (hR : Rd w S p L a) (hn : a + n ≤ L.length) (hn' : n ≤ 32) :
    Calls Try.prog 96 #[.pointer (some ⟨p, 0, none⟩), .int .i64 n] w fun e w' => e = .returned (.int .i64 (val ((L.drop a).take n))) ∧ Rd w' S p L (a + n) ∧ Fr (fun k => k = p) w w' := by
  have HR := Aside0.mk hR
  have h01 := hR.bits
  have hlen := hR.len
  clear hR
  go_enter Try.func96, Try.ntmps96
  go_wp2_with fail
  go_loopw [5, 7] (fun u i wr => ∃ k : Nat, k ≤ n ∧ i = .int .i64 (k : Int) ∧ u = .int .i64 (val ((L.drop a).take k)) ∧ Aside0 (Rd wr S p L (a + k)) ∧ Aside0 (Fr (fun k => k = p) w wr)) (fun _ i _ => n - (intOf i).toNat)
  case atStart => exact ⟨0, Nat.zero_le _, rfl, rfl, HR, ⟨Fr.refl _ _⟩⟩
  case round =>
    obtain ⟨k, hk, rfl, rfl, HRr, HF⟩ := hrel
    by_cases hlt : k < n
    · obtain ⟨q, hq⟩ : ∃ q, q = a + k := ⟨_, rfl⟩
      have hT := take_getD L a k (by omega)
      rw [← hq] at HRr hT
      obtain ⟨A, nb, cb, B, c0, hC, h8, hl, hnb, hbit⟩ := HRr.out.bytes
      have c2 := HRr.out.cell2
      have fz := HRr.out.fz 2
      have hv := val_bound (is01_take (is01_drop h01 a) k)
      have hbk := hbit q (by omega)
      have hb01 := bitAt_01 B q
      have hv2 : val ((L.drop a).take k) ≤ 4294967296 := by
        have h1 := (pow_le32 (m := ((L.drop a).take k).length) (by rw [List.length_take]; omega)).2
        omega
      have HO := Aside0.mk (or_snoc (val ((L.drop a).take k)) (bitAt B q) hv.1 hv2 hb01)
      have HVT : Aside0 (val ((L.drop a).take (k + 1)) = 2 * val ((L.drop a).take k) + bitAt B q) := ⟨by rw [hT, val_snoc, hbk]⟩
      have HC := Aside0.mk hC
      have H8 := Aside0.mk h8
      have hv0 := hv.1
      have hql : q < L.length := by omega
      have HQ := Aside0.mk hq
      generalize hX : val ((L.drop a).take k) = X at *
      clear hT hbk hC h8 hv hbit hX hb01 hq
      go_wp2_with fail
      go_quiet ((go_at_call 67; exact Calls.quiet_of_same (bit_any A nb cb B q _ (Kd.C_drew HC.out) (by omega) H8.out (by omega))))
      go_wp2_with fail
      go_roundw
      case rel =>
        refine ⟨k + 1, by omega, by go_num, by rw [HVT.out, HO.out], ⟨?_⟩, ⟨?_⟩⟩
        · rw [show a + (k + 1) = q + 1 by have := HQ.out; omega]
          have h := (HRr.out.drew nq).seek (q + 1) (by omega)
          rwa [Int.natCast_add] at h
        · exact (HF.out.trans (Fr.below (below_drewN (Below.refl _ _) nq) _)).setCell (p := ⟨p, 2, none⟩) (fun _ => rfl) _
      case measure => simp [intOf]; omega
    · obtain rfl : k = n := by omega
      go_wp2_with fail
      go_ret
      exact ⟨rfl, HRr.out, HF.out⟩
end Go.Proofs.Ytnpheeendbchbaa.P
end
section
namespace Go.Proofs.Ytnpheeendbchbaa.P
open Go.RowKit Go.Shelf Go.Proofs.Ytnpheeendbchbaa.Bits Go.Proofs.YtnpheeendbchbaaW.PrintWords Go.Proofs.YtnpheeendbchbaaW.PrintLast Go.Proofs.YtnpheeendbchbaaW.PrintMore
set_option linter.unusedVariables false
set_option linter.unusedSimpArgs false
attribute [local go_sem ↓] Go.wp_at_zero Go.wp_at_succ

def rGet (L : List Int) (a : Nat) (n : Int) : Int × Int × Nat := if n < 0 ∨ 32 < n then (0, 1, a) else if (L.length : Int) - a < n then (0, 3, a) else (val ((L.drop a).take n.toNat), 0, a + n.toNat)
def sgn (v : Int) (n : Nat) : Int := if 2 ^ (n - 1) ≤ v then v - 2 ^ n else v
def rSigned (L : List Int) (a : Nat) (n : Int) : Int × Int × Nat := if n < 1 ∨ 32 < n then (0, 1, a) else if (L.length : Int) - a < n then (0, 3, a) else (sgn (val ((L.drop a).take n.toNat)) n.toNat, 0, a + n.toNat)

/-- What a call of a reader that gives a number and an error says. -/
def RdPost (w : World) (S : Nat → Prop) (p : Nat) (L : List Int) (r : Int × Int × Nat) (e : Ending) (w' : World) : Prop := e = .returned (.tuple #[.int .i64 r.1, .int .i64 r.2.1]) ∧ Rd w' S p L r.2.2 ∧ Fr (fun k => k = p) w w'

set_option maxHeartbeats 1000000 in
set_option maxRecDepth 100000 in
theorem Get_any (S : Nat → Prop) (p a : Nat) (L : List Int) (n : Int) (w : World) (hR : Rd w S p L a) :
    Calls Try.prog 77 #[.pointer (some ⟨p, 0, none⟩), .int .i64 n] w (RdPost w S p L (rGet L a n)) := by
  have HR := Aside0.mk hR
  have hlen := hR.len
  have hal := hR.at_le
  have c1 := hR.cell1
  have c2 := hR.cell2
  clear hR
  have no : n < 0 ∨ 32 < n → Aside0 (rGet L a n = (0, 1, a)) := fun h => ⟨by unfold rGet; rw [if_pos h]⟩
  by_cases h1 : n < 0
  · have HN := no (.inl h1)
    have d1 : decide (n < 0) = true := by simpa using h1
    clear no
    go_enter Try.func77, Try.ntmps77
    go_wp2_with fail
    go_ret2
    rw [HN.out]
    exact ⟨rfl, HR.out, Fr.refl _ _⟩
  by_cases h2 : 32 < n
  · have HN := no (.inr h2)
    have d1 : decide (n < 0) = false := by simpa using h1
    have d2 : decide (32 < n) = true := by simpa using h2
    clear no
    go_enter Try.func77, Try.ntmps77
    go_wp2_with fail
    go_ret2
    rw [HN.out]
    exact ⟨rfl, HR.out, Fr.refl _ _⟩
  obtain ⟨m, rfl⟩ : ∃ m : Nat, n = m := ⟨n.toNat, by omega⟩
  have d1 : decide ((m : Int) < 0) = false := by simp
  have d2 : decide (32 < (m : Int)) = false := by simpa using h2
  have hm : m ≤ 32 := by omega
  have w1' : IntKind.i64.wrap ((L.length : Int) - (a : Int)) = (L.length : Int) - (a : Int) := IntWalk.i64_in _ (by omega)
  clear no h1 h2
  by_cases h3 : (L.length : Int) - a < m
  · have HN : Aside0 (rGet L a m = (0, 3, a)) := ⟨by unfold rGet; rw [if_neg (by omega), if_pos h3]⟩
    have d3 : decide ((L.length : Int) - (a : Int) < (m : Int)) = true := by simpa using h3
    clear h3
    go_enter Try.func77, Try.ntmps77
    go_wp2_with fail
    go_quiet (fail)
    clear w1'
    go_wp2_with fail
    go_ret2
    rw [HN.out]
    exact ⟨rfl, HR.out.drew _, Fr.below (below_drewN (Below.refl _ _) _) _⟩
  · have HN : Aside0 (rGet L a m = (val ((L.drop a).take m), 0, a + m)) := ⟨by unfold rGet; rw [if_neg (by omega), if_neg h3]; simp⟩
    have d3 : decide ((L.length : Int) - (a : Int) < (m : Int)) = false := by simpa using h3
    have hm3 : a + m ≤ L.length := by omega
    clear h3
    go_enter Try.func77, Try.ntmps77
    go_wp2_with fail
    go_quiet (fail)
    clear w1' d3
    go_wp2_with (go_at_call 96; refine (next_any S p a m L _ (HR.out.drew _) hm3 hm).mono ?_; rintro e w2 ⟨rfl, h2, h3⟩; have H2 := Aside0.mk h2; have H3 := Aside0.mk h3; clear h2 h3)
    go_ret2
    rw [HN.out]
    exact ⟨rfl, H2.out, (Fr.below (below_drewN (Below.refl _ _) _) _).trans H3.out⟩

/-! ### zeros ahead of a one -/
def zs : List Int → Nat
  | [] => 0
  | b :: M => if b = 0 then zs M + 1 else 0
theorem zs_step {M : List Int} : ∀ {k : Nat}, k < M.length → k ≤ zs M → M.getD k 0 = 0 → k + 1 ≤ zs M := by
  induction M with
  | nil => intro k h; simp at h
  | cons b M ih =>
    intro k h1 h2 h3
    unfold zs at h2 ⊢
    cases k with
    | zero => have : b = 0 := by simpa using h3
              rw [if_pos this]; omega
    | succ k =>
      split at h2
      · rw [if_pos ‹_›]
        have := ih (k := k) (by simpa using h1) (by omega) (by simpa using h3)
        omega
      · omega
theorem zs_one {M : List Int} : ∀ {k : Nat}, k < M.length → k ≤ zs M → M.getD k 0 ≠ 0 → zs M = k := by
  induction M with
  | nil => intro k h; simp at h
  | cons b M ih =>
    intro k h1 h2 h3
    unfold zs at h2 ⊢
    cases k with
    | zero => have : b ≠ 0 := by simpa using h3
              rw [if_neg this]
    | succ k =>
      split at h2
      · rw [if_pos ‹_›]
        have := ih (k := k) (by simpa using h1) (by omega) (by simpa using h3)
        omega
      · omega
theorem zs_le (M : List Int) : zs M ≤ M.length := by
  induction M with
  | nil => simp [zs]
  | cons b M ih => unfold zs; split <;> simp <;> omega
def rZeros (L : List Int) (a m : Nat) : Int × Int × Nat := if m < zs (L.drop a) then (0, 4, a) else if a + zs (L.drop a) < L.length then (zs (L.drop a), 0, a + zs (L.drop a) + 1) else (0, 3, a)
theorem getD_drop' (L : List Int) (a k : Nat) : (L.drop a).getD k 0 = L.getD (a + k) 0 := by
  rw [List.getD_eq_getElem?_getD, List.getD_eq_getElem?_getD, List.getElem?_drop]

set_option maxHeartbeats 1000000 in
set_option maxRecDepth 100000 in
theorem zeros_any (S : Nat → Prop) (p a m : Nat) (L : List Int) (w : World) (hR : Rd w S p L a) (hm : m ≤ 1000) :
    Calls Try.prog 97 #[.pointer (some ⟨p, 0, none⟩), .int .i64 m] w (RdPost w S p L (rZeros L a m)) := by
  have HR := Aside0.mk hR
  have hlen := hR.len
  have hal := hR.at_le
  have c1 := hR.cell1
  have c2 := hR.cell2
  have fz := hR.fz 2
  have h01 := hR.bits
  have hzl := zs_le (L.drop a)
  rw [List.length_drop] at hzl
  obtain ⟨A, nb, cb, B, c0, hC, h8, hl, hnb, hbit⟩ := hR.bytes
  have HC := Aside0.mk hC
  have H8 := Aside0.mk h8
  have HBit := Aside0.mk hbit
  clear hR hC h8 hbit
  go_enter Try.func97, Try.ntmps97
  go_wp2_with fail
  go_loop [6, 7] (fun n i => ∃ k q : Nat, n = .int .i64 (k : Int) ∧ i = .int .i64 (q : Int) ∧ k ≤ m ∧ q ≤ L.length ∧ Aside0 (q = a + k) ∧ Aside0 (k ≤ zs (L.drop a))) (fun _ i => L.length - (intOf i).toNat)
  case atStart => exact ⟨0, a, rfl, rfl, Nat.zero_le _, hal, ⟨rfl⟩, ⟨Nat.zero_le _⟩⟩
  case round =>
    obtain ⟨k, q, rfl, rfl, hk, hq, HQ, HZ⟩ := hrel
    by_cases hlt : q < L.length
    · have hgd : L.getD q 0 = (L.drop a).getD k 0 := by rw [getD_drop', HQ.out]
      have hbk := HBit.out q hlt
      have hkl : k < (L.drop a).length := by rw [List.length_drop]; have := HQ.out; omega
      by_cases hb : L.getD q 0 = 0
      · have HZ1 := Aside0.mk (zs_step hkl HZ.out (by rw [← hgd]; exact hb))
        have hy : bitAt B q = 0 := hbk.trans hb
        have q1 : (bitAt B q == 1) = false := by rw [hy]; rfl
        clear hgd hbk hkl hb hy
        by_cases hkm : m < k + 1
        · have HN : Aside0 (rZeros L a m = (0, 4, a)) := ⟨by unfold rZeros; rw [if_pos (by have := HZ1.out; omega)]⟩
          have d1 : decide ((m : Int) < (k : Int) + 1) = true := by simp; omega
          go_wp2_with (go_at_call 67; refine (bit_any A nb cb B q _ HC.out (by omega) H8.out (by omega)).mono ?_; rintro e w1 ⟨rfl, rfl⟩)
          go_ret2
          rw [HN.out]
          exact ⟨rfl, HR.out, Fr.refl _ _⟩
        · have d1 : decide ((m : Int) < (k : Int) + 1) = false := by simp; omega
          go_wp2_with (go_at_call 67; refine (bit_any A nb cb B q _ HC.out (by omega) H8.out (by omega)).mono ?_; rintro e w1 ⟨rfl, rfl⟩)
          go_round
          case rel => exact ⟨k + 1, q + 1, by go_num, by go_num, by omega, by omega, ⟨by have := HQ.out; omega⟩, HZ1⟩
          case measure => simp [intOf]; omega
      · have hz := zs_one hkl HZ.out (by rw [← hgd]; exact hb)
        have HN : Aside0 (rZeros L a m = ((k : Int), 0, q + 1)) := ⟨by unfold rZeros; rw [hz, if_neg (by omega), if_pos (by rw [← HQ.out]; exact hlt), HQ.out]⟩
        have q1 : (bitAt B q == 1) = true := by
          rcases bitAt_01 B q with h | h
          · rw [hbk] at h; exact absurd h hb
          · rw [h]; rfl
        clear hgd hbk hkl hb hz
        go_wp2_with (go_at_call 67; refine (bit_any A nb cb B q _ HC.out (by omega) H8.out (by omega)).mono ?_; rintro e w1 ⟨rfl, rfl⟩)
        go_ret2
        rw [HN.out]
        refine ⟨rfl, ?_, Rd.fr_seek _ _⟩
        have h := HR.out.seek (q + 1) (by omega)
        rwa [Int.natCast_add] at h
    · obtain rfl : q = L.length := by omega
      have HN : Aside0 (rZeros L a m = (0, 3, a)) := ⟨by
        have h1 := HQ.out
        have h2 := HZ.out
        unfold rZeros
        rw [if_neg (by omega), if_neg (by omega)]⟩
      go_wp2_with fail
      go_ret2
      rw [HN.out]
      exact ⟨rfl, HR.out, Fr.refl _ _⟩
end Go.Proofs.Ytnpheeendbchbaa.P
end
section
namespace Go.Proofs.Ytnpheeendbchbaa.P
open Go.RowKit Go.Shelf Go.Proofs.Ytnpheeendbchbaa.Bits Go.Proofs.YtnpheeendbchbaaW.PrintWords Go.Proofs.YtnpheeendbchbaaW.PrintLast Go.Proofs.YtnpheeendbchbaaW.PrintMore
set_option linter.unusedVariables false
set_option linter.unusedSimpArgs false
attribute [local go_sem ↓] Go.wp_at_zero Go.wp_at_succ
attribute [local go_sem] max2_int min2_int max_two min_two

abbrev newWr : Obj := .cells #[.slice none 0 0, .int .i64 0] 80 (0, 0)
theorem New_any (w : World) : Calls Try.prog 32 #[] w fun e w' => e = .returned (.pointer (some ⟨w.heap.size, 0, none⟩)) ∧ w' = w.alloc newWr := by
  go_enter Try.func32, Try.ntmps32
  go_wp2
  go_ret
  simp
theorem Wr.new (w : World) : Wr (w.alloc newWr) (fun _ => False) w.heap.size [] :=
  ⟨⟨.slice none 0 0, World.alloc_heap_new w _, Kd.R_nil _ _ _ _ _⟩, is01_nil, fun _ h => h.elim⟩

theorem Len_any (S : Nat → Prop) (p : Nat) (L : List Int) (w : World) (hW : Wr w S p L) : Calls Try.prog 37 #[.pointer (some ⟨p, 0, none⟩)] w fun e w' => e = .returned (.int .i64 (L.length : Int)) ∧ w' = w := by
  have c1 := hW.cell1
  clear hW
  go_enter Try.func37, Try.ntmps37
  go_wp2_with fail
  go_ret
  exact ⟨rfl, rfl⟩
theorem At_any (S : Nat → Prop) (p a : Nat) (L : List Int) (w : World) (hR : Rd w S p L a) : Calls Try.prog 23 #[.pointer (some ⟨p, 0, none⟩)] w fun e w' => e = .returned (.int .i64 (a : Int)) ∧ w' = w := by
  have c2 := hR.cell2
  clear hR
  go_enter Try.func23, Try.ntmps23
  go_wp2_with fail
  go_ret
  exact ⟨rfl, rfl⟩
theorem Left_any (S : Nat → Prop) (p a : Nat) (L : List Int) (w : World) (hR : Rd w S p L a) : Calls Try.prog 47 #[.pointer (some ⟨p, 0, none⟩)] w fun e w' => e = .returned (.int .i64 ((L.length : Int) - a)) ∧ ∃ n, w' = w.drewN n := by
  have c1 := hR.cell1
  have c2 := hR.cell2
  have hal := hR.at_le
  have hlen := hR.len
  have w1' : IntKind.i64.wrap ((L.length : Int) - (a : Int)) = (L.length : Int) - (a : Int) := IntWalk.i64_in _ (by omega)
  clear hR
  go_enter Try.func47, Try.ntmps47
  go_wp2_with fail
  go_quiet (fail)
  clear w1'
  go_wp2_with fail
  go_ret
  exact ⟨rfl, _, rfl⟩

def rSeek (L : List Int) (a : Nat) (n : Int) : Int × Nat := if n < 0 ∨ (L.length : Int) < n then (6, a) else (0, n.toNat)
set_option maxHeartbeats 1000000 in
theorem Seek_any (S : Nat → Prop) (p a : Nat) (L : List Int) (n : Int) (w : World) (hR : Rd w S p L a) :
    Calls Try.prog 19 #[.pointer (some ⟨p, 0, none⟩), .int .i64 n] w fun e w' => e = .returned (.int .i64 (rSeek L a n).1) ∧ Rd w' S p L (rSeek L a n).2 ∧ Fr (fun k => k = p) w w' := by
  have c1 := hR.cell1
  have c2 := hR.cell2
  have fz := hR.fz 2
  have HR := Aside0.mk hR
  clear hR
  by_cases h1 : n < 0
  · have HN : Aside0 (rSeek L a n = (6, a)) := ⟨by unfold rSeek; rw [if_pos (.inl h1)]⟩
    have d1 : decide (n < 0) = true := by simpa using h1
    go_enter Try.func19, Try.ntmps19
    go_wp2_with fail
    go_ret
    rw [HN.out]
    exact ⟨rfl, HR.out, Fr.refl _ _⟩
  obtain ⟨m, rfl⟩ : ∃ m : Nat, n = m := ⟨n.toNat, by omega⟩
  have d1 : decide ((m : Int) < 0) = false := by simp
  by_cases h2 : L.length < m
  · have HN : Aside0 (rSeek L a m = (6, a)) := ⟨by unfold rSeek; rw [if_pos (.inr (by omega))]⟩
    have d2 : decide (L.length < m) = true := by simpa using h2
    clear h1
    go_enter Try.func19, Try.ntmps19
    go_wp2_with fail
    go_ret
    rw [HN.out]
    exact ⟨rfl, HR.out, Fr.refl _ _⟩
  · have HN : Aside0 (rSeek L a m = (0, m)) := ⟨by unfold rSeek; rw [if_neg (by omega)]; simp⟩
    have d2 : decide (L.length < m) = false := by simpa using h2
    have hm : m ≤ L.length := by omega
    clear h1
    go_enter Try.func19, Try.ntmps19
    go_wp2_with fail
    go_ret
    rw [HN.out]
    exact ⟨rfl, HR.out.seek m hm, Rd.fr_seek _ _⟩

def rUnary (L : List Int) (a : Nat) (n : Int) : Int × Int × Nat := if n < 0 ∨ 1000 < n then (0, 1, a) else rZeros L a n.toNat
set_option maxHeartbeats 1000000 in
theorem RUnary_any (S : Nat → Prop) (p a : Nat) (L : List Int) (n : Int) (w : World) (hR : Rd w S p L a) :
    Calls Try.prog 80 #[.pointer (some ⟨p, 0, none⟩), .int .i64 n] w (RdPost w S p L (rUnary L a n)) := by
  have HR := Aside0.mk hR
  clear hR
  by_cases h1 : n < 0
  · have HN : Aside0 (rUnary L a n = (0, 1, a)) := ⟨by unfold rUnary; rw [if_pos (.inl h1)]⟩
    have d1 : decide (n < 0) = true := by simpa using h1
    go_enter Try.func80, Try.ntmps80
    go_wp2_with fail
    go_ret2
    rw [HN.out]
    exact ⟨rfl, HR.out, Fr.refl _ _⟩
  obtain ⟨m, rfl⟩ : ∃ m : Nat, n = m := ⟨n.toNat, by omega⟩
  have d1 : decide ((m : Int) < 0) = false := by simp
  by_cases h2 : 1000 < (m : Int)
  · have HN : Aside0 (rUnary L a m = (0, 1, a)) := ⟨by unfold rUnary; rw [if_pos (.inr h2)]⟩
    have d2 : decide (1000 < (m : Int)) = true := by simpa using h2
    clear h1
    go_enter Try.func80, Try.ntmps80
    go_wp2_with fail
    go_ret2
    rw [HN.out]
    exact ⟨rfl, HR.out, Fr.refl _ _⟩
  · have HN : Aside0 (rUnary L a m = rZeros L a m) := ⟨by unfold rUnary; rw [if_neg (by omega)]; simp⟩
    have d2 : decide (1000 < (m : Int)) = false := by simpa using h2
    have hm : m ≤ 1000 := by omega
    clear h1 h2
    go_enter Try.func80, Try.ntmps80
    go_wp2_with (go_at_call 97; refine (zeros_any S p a m L _ HR.out hm).mono ?_; rintro e w2 ⟨rfl, h2, h3⟩; have H2 := Aside0.mk h2; have H3 := Aside0.mk h3; clear h2 h3)
    go_ret2
    rw [HN.out]
    exact ⟨rfl, H2.out, H3.out⟩

def rGamma (L : List Int) (a : Nat) : Int × Int × Nat := if (rZeros L a 20).2.1 ≠ 0 then (0, (rZeros L a 20).2.1, a) else if (L.length : Int) - ((rZeros L a 20).2.2 : Int) < (rZeros L a 20).1 then (0, 3, a) else (2 ^ (rZeros L a 20).1.toNat + val ((L.drop (rZeros L a 20).2.2).take (rZeros L a 20).1.toNat), 0, (rZeros L a 20).2.2 + (rZeros L a 20).1.toNat)
theorem or_high (k : Nat) (x : Int) (hk : k ≤ 40) (h0 : 0 ≤ x) (h1 : x < 2 ^ k) : Go.bits BinOp.or IntKind.i64 (2 ^ k) x = 2 ^ k + x := by
  obtain ⟨X, rfl⟩ : ∃ X : Nat, x = X := ⟨x.toNat, by omega⟩
  have e : ((2 ^ k : Nat) : Int) = (2 : Int) ^ k := Int.natCast_pow 2 k
  have hX : X < 2 ^ k := by omega
  have hp : (2 : Nat) ^ k ≤ 2 ^ 40 := Nat.pow_le_pow_right (by omega) hk
  rw [← e, or_i64 _ _ (by omega) (by omega)]
  have h := Nat.two_pow_add_eq_or_of_lt hX 1
  rw [Nat.mul_one] at h
  rw [← h]
  norm_cast
theorem rZeros_cases (L : List Int) (a m : Nat) : (rZeros L a m = (0, 4, a) ∨ rZeros L a m = (0, 3, a)) ∨ ∃ z : Nat, z ≤ m ∧ a + z < L.length ∧ rZeros L a m = ((z : Int), 0, a + z + 1) := by
  unfold rZeros
  split
  · exact .inl (.inl rfl)
  · split
    · exact .inr ⟨_, by omega, ‹_›, rfl⟩
    · exact .inl (.inr rfl)

end Go.Proofs.Ytnpheeendbchbaa.P
end
section
namespace Go.Proofs.Ytnpheeendbchbaa.P
open Go.RowKit Go.Shelf Go.Proofs.Ytnpheeendbchbaa.Bits Go.Proofs.YtnpheeendbchbaaW.PrintWords Go.Proofs.YtnpheeendbchbaaW.PrintLast Go.Proofs.YtnpheeendbchbaaW.PrintMore
set_option linter.unusedVariables false
set_option linter.unusedSimpArgs false
attribute [local go_sem ↓] Go.wp_at_zero Go.wp_at_succ
attribute [local go_sem] max2_int min2_int max_two min_two

def rAlign (L : List Int) (a : Nat) : Nat := min ((a + 7) / 8 * 8) L.length
def rTake (L : List Int) (a : Nat) (n : Int) : List Int × Int × Nat := if n < 0 then ([], 1, a) else if (L.length : Int) - a < n then ([], 3, a) else ((L.drop a).take n.toNat, 0, a + n.toNat)
def TakePost (w : World) (S : Nat → Prop) (p : Nat) (L : List Int) (r : List Int × Int × Nat) (e : Ending) (w' : World) : Prop :=
  ∃ v S', e = .returned (.tuple #[v, .int .i64 r.2.1]) ∧ RB S' w' v (pk r.1) ∧ (∀ k, S' k → w.heap.size ≤ k ∧ ∃ cells, w'.heap[k]? = some (.cells cells 5 (0, 0))) ∧ Rd w' S p L r.2.2 ∧ Fr (fun k => k = p) w w'
theorem RB_nil (S : Nat → Prop) (w : World) : RB S w (.slice none 0 0) (pk []) := by rw [pk_nil]; exact Kd.R_nil _ _ _ _ _
theorem val_one (b : Int) : val [b] = b := by simp [val]

end Go.Proofs.Ytnpheeendbchbaa.P
end
