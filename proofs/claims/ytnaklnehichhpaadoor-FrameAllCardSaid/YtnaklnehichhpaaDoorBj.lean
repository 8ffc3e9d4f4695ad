/- The reader: what is in memory; the contract of Reader.next. -/
import Derived.Test.YtnaklnehichhpaaDoorBi
import Derived.Deep.QuietTactic
import Derived.BigQuiet
import Derived.WalkSmall
namespace Go.Proofs.YtnaklnehichhpaaDoor.P
open Go.RowKit Go.Shelf Go.Proofs.YtnaklnehichhpaaDoor.Bits Go.Proofs.YtnaklnehichhpaaDoorW.PrintWords Go.Proofs.YtnaklnehichhpaaDoorW.PrintLast Go.Proofs.YtnaklnehichhpaaDoorW.PrintMore
set_option linter.unusedVariables false
set_option linter.unusedSimpArgs false
attribute [local go_sem ↓] Go.wp_at_zero Go.wp_at_succ

/-- A reader at block p of the bits L, at a position; its bytes lie in S. -/
structure Rd (w : World) (S : Nat → Prop) (p : Nat) (L : List Int) (at_ : Nat) : Prop where
  blk : ∃ v B, w.heap[p]? = some (.cells #[v, .int .i64 (L.length : Int), .int .i64 (at_ : Int)] 114 (0, 0)) ∧ RB S w v B ∧ is8 B ∧ ofB B L.length = L ∧ L.length ≤ 8 * B.length ∧ B.length ≤ 1000000000
  at_le : at_ ≤ L.length
  len : L.length ≤ 1048576
  typed : ∀ k, S k → ∃ cells, w.heap[k]? = some (.cells cells 5 (0, 0))
theorem Rd.p_lt {w : World} {S : Nat → Prop} {p a : Nat} {L : List Int} (h : Rd w S p L a) : p < w.heap.size := by
  obtain ⟨v, B, hb, _⟩ := h.blk
  exact lt_of_block hb
theorem Rd.lt {w : World} {S : Nat → Prop} {p a : Nat} {L : List Int} (h : Rd w S p L a) (k : Nat) (hk : S k) : k < w.heap.size := by
  obtain ⟨cells, hc⟩ := h.typed k hk
  exact lt_of_block hc
theorem Rd.bits {w : World} {S : Nat → Prop} {p a : Nat} {L : List Int} (h : Rd w S p L a) : is01 L := by
  obtain ⟨v, B, _, _, _, hL, _⟩ := h.blk
  rw [← hL]; exact ofB_01 _ _
theorem Rd.fr {w w' : World} {S T : Nat → Prop} {p a : Nat} {L : List Int} (h : Rd w S p L a) (hf : Fr T w w') (hp : ¬ T p) (hS : ∀ k, S k → ¬ T k) : Rd w' S p L a := by
  obtain ⟨v, B, hb, hr, h8, hL, hl, hl2⟩ := h.blk
  exact ⟨⟨v, B, blk_fr hb hf hp, R_fr hr hf (fun k hk _ => hS k hk), h8, hL, hl, hl2⟩, h.at_le, h.len, fun k hk => by
    obtain ⟨cells, hc⟩ := h.typed k hk
    exact ⟨cells, blk_fr hc hf (hS k hk)⟩⟩
theorem Rd.below {w w' : World} {S : Nat → Prop} {p a : Nat} {L : List Int} (h : Rd w S p L a) (hb : Below w.heap.size w w') : Rd w' S p L a := h.fr (Fr.below hb (fun _ => False)) (fun h => h) (fun _ _ h => h)
theorem Rd.drew {w : World} {S : Nat → Prop} {p a : Nat} {L : List Int} (h : Rd w S p L a) (n : Nat) : Rd (w.drewN n) S p L a := h.below (below_drewN (Below.refl _ _) n)
theorem Rd.cell1 {w : World} {S : Nat → Prop} {p a : Nat} {L : List Int} (h : Rd w S p L a) : w.cell? ⟨p, 1, none⟩ = some (.int .i64 (L.length : Int)) := by
  obtain ⟨v, B, hb, _⟩ := h.blk
  rw [cell_of_row _ _ _ _ _ _ hb]; rfl
theorem Rd.cell2 {w : World} {S : Nat → Prop} {p a : Nat} {L : List Int} (h : Rd w S p L a) : w.cell? ⟨p, 2, none⟩ = some (.int .i64 (a : Int)) := by
  obtain ⟨v, B, hb, _⟩ := h.blk
  rw [cell_of_row _ _ _ _ _ _ hb]; rfl
theorem Rd.fz {w : World} {S : Nat → Prop} {p a : Nat} {L : List Int} (h : Rd w S p L a) (i : Nat) : w.frozen? ⟨p, i, none⟩ = false := by
  obtain ⟨v, B, hb, _⟩ := h.blk
  exact blk_frozen hb i
/-- The bytes, to be read. -/
theorem Rd.bytes {w : World} {S : Nat → Prop} {p a : Nat} {L : List Int} (h : Rd w S p L a) : ∃ A n c B, w.cell? ⟨p, 0, none⟩ = some (.slice A n c) ∧ Kd.C (Kd.int .u8) w A n B ∧ is8 B ∧ L.length ≤ 8 * n ∧ n ≤ 1000000000 ∧ ∀ i, i < L.length → bitAt B i = L.getD i 0 := by
  obtain ⟨v, B, hb, hr, h8, hL, hl, hl2⟩ := h.blk
  obtain ⟨A, c, e, _, hC⟩ := Kd.R_reads hr
  subst e
  refine ⟨A, B.length, c, B, by rw [cell_of_row _ _ _ _ _ _ hb]; rfl, hC, h8, hl, hl2, fun i hi => ?_⟩
  rw [← getD_ofB B L.length i hi, hL]
/-- The position is set. -/
theorem Rd.seek {w : World} {S : Nat → Prop} {p a : Nat} {L : List Int} (h : Rd w S p L a) (b : Nat) (hb : b ≤ L.length) : Rd (w.setCell ⟨p, 2, none⟩ (.int .i64 (b : Int))) S p L b := by
  obtain ⟨v, B, hk, hr, h8, hL, hl, hl2⟩ := h.blk
  refine ⟨⟨v, B, blk_put hk 2 _ rfl, Kd.R_set hr hk (by simp [Kd.int, Kd.scalar]) 2 _, h8, hL, hl, hl2⟩, hb, h.len, fun k hk' => ?_⟩
  obtain ⟨cells, hc⟩ := h.typed k hk'
  exact ⟨cells, blk_far hc (blk_ne hc hk (by decide)) _⟩
theorem Rd.fr_seek {w : World} {p : Nat} (u : Value) (j : Nat) : Fr (fun k => k = p) w (w.setCell ⟨p, j, none⟩ u) := Fr.setCell (S := fun k => k = p) (Fr.refl _ _) (p := ⟨p, j, none⟩) (fun _ => rfl) u

theorem or_snoc (x b : Int) (h0 : 0 ≤ x) (h1 : x ≤ 4294967296) (hb : b = 0 ∨ b = 1) : Go.bits BinOp.or IntKind.i64 (x * 2) b = 2 * x + b := by
  obtain ⟨X, rfl⟩ : ∃ X : Nat, x = X := ⟨x.toNat, by omega⟩
  obtain ⟨c, hc, rfl⟩ : ∃ c : Nat, c < 2 ∧ b = c := ⟨b.toNat, by omega, by omega⟩
  rw [show ((X : Int) * 2) = ((2 * X : Nat) : Int) by omega, or_i64 _ _ (by omega) (by omega)]
  have h := Nat.two_pow_add_eq_or_of_lt (i := 1) (b := c) (by omega) X
  rw [Nat.pow_one] at h
  rw [← h]
  norm_cast
theorem take_getD (L : List Int) (a k : Nat) (h : a + k < L.length) : (L.drop a).take (k + 1) = (L.drop a).take k ++ [L.getD (a + k) 0] := by
  rw [List.take_succ_eq_append_getElem (by rw [List.length_drop]; omega), List.getElem_drop, List.getD_eq_getElem?_getD, List.getElem?_eq_getElem (by omega)]; rfl

set_option maxHeartbeats 1000000 in
set_option maxRecDepth 100000 in
theorem next_any (S : Nat → Prop) (p a n : Nat) (L : List Int) (w : World) (hR : Rd w S p L a) (hn : a + n ≤ L.length) (hn' : n ≤ 32) :
    Calls Tryd.prog 67 #[.pointer (some ⟨p, 0, none⟩), .int .i64 n] w fun e w' => e = .returned (.int .i64 (val ((L.drop a).take n))) ∧ Rd w' S p L (a + n) ∧ Fr (fun k => k = p) w w' := by
  have HR := Aside0.mk hR
  have h01 := hR.bits
  have hlen := hR.len
  clear hR
  go_enter Tryd.func67, Tryd.ntmps67
  go_wp2_with fail
  go_loopw [5, 7] (fun u i wr => ∃ k : Nat, k ≤ n ∧ i = .int .i64 (k : Int) ∧ u = .int .i64 (val ((L.drop a).take k)) ∧ Aside0 (Rd wr S p L (a + k)) ∧ Aside0 (Fr (fun k => k = p) w wr)) (fun _ i _ => n - (intOf i).toNat)
  case atStart => exact ⟨0, Nat.zero_le _, rfl, rfl, HR, ⟨Fr.refl _ _⟩⟩
  case round =>
    obtain ⟨k, hk, rfl, rfl, HRr, HF⟩ := hrel
    by_cases hlt : k < n
    · obtain ⟨q, hq⟩ : ∃ q, q = a + k := ⟨_, rfl⟩
      have hT := take_getD L a k (by omega)
      rw [← hq] at HRr hT
      obtain ⟨A, nb, cb, B, c0, hC, h8, hl, hnb, hbit⟩ := HRr.out.bytes
      have c2 := HRr.out.cell2
      have fz := HRr.out.fz 2
      have hv := val_bound (is01_take (is01_drop h01 a) k)
      have hbk := hbit q (by omega)
      have hb01 := bitAt_01 B q
      have hv2 : val ((L.drop a).take k) ≤ 4294967296 := by
        have h1 := (pow_le32 (m := ((L.drop a).take k).length) (by rw [List.length_take]; omega)).2
        omega
      have HO := Aside0.mk (or_snoc (val ((L.drop a).take k)) (bitAt B q) hv.1 hv2 hb01)
      have HVT : Aside0 (val ((L.drop a).take (k + 1)) = 2 * val ((L.drop a).take k) + bitAt B q) := ⟨by rw [hT, val_snoc, hbk]⟩
      have HC := Aside0.mk hC
      have H8 := Aside0.mk h8
      have hv0 := hv.1
      have hql : q < L.length := by omega
      have HQ := Aside0.mk hq
      generalize hX : val ((L.drop a).take k) = X at *
      clear hT hbk hC h8 hv hbit hX hb01 hq
      go_wp2_with fail
      go_quiet ((go_at_call 68; exact Calls.quiet_of_same (bit_any A nb cb B q _ (Kd.C_drew HC.out) (by omega) H8.out (by omega))))
      go_wp2_with fail
      go_roundw
      case rel =>
        refine ⟨k + 1, by omega, by go_num, by rw [HVT.out, HO.out], ⟨?_⟩, ⟨?_⟩⟩
        · rw [show a + (k + 1) = q + 1 by have := HQ.out; omega]
          have h := (HRr.out.drew nq).seek (q + 1) (by omega)
          rwa [Int.natCast_add] at h
        · exact (HF.out.trans (Fr.below (below_drewN (Below.refl _ _) nq) _)).setCell (p := ⟨p, 2, none⟩) (fun _ => rfl) _
      case measure => simp [intOf]; omega
    · obtain rfl : k = n := by omega
      go_wp2_with fail
      go_ret
      exact ⟨rfl, HRr.out, HF.out⟩
end Go.Proofs.YtnaklnehichhpaaDoor.P
