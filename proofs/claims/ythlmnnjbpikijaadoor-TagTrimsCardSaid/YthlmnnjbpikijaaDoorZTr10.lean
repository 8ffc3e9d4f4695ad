/- The reader: what is in memory; the contract of Reader.next. The contracts of Reader.Get, Signed, zeros. The contracts of New, Writer.Len, Reader.At, Left, Seek, Align, Unary, Gamma. The contracts of Reader.Take, Align, Open, Writer.Bytes. The contracts of Writer.Bytes, Open. The contracts of the reference's Same, Of, Pack. -/
import Derived.Deep.QuietTactic
import Derived.BigQuiet
import Derived.WalkSmall
import Derived.Maps.AppendAt
import Derived.Test.YthlmnnjbpikijaaDoorZTr9
section
namespace Go.Proofs.YthlmnnjbpikijaaDoor.P
open Go.RowKit Go.Shelf Go.Proofs.YthlmnnjbpikijaaDoor.Bits Go.Proofs.YthlmnnjbpikijaaDoorW.PrintWords Go.Proofs.YthlmnnjbpikijaaDoorW.PrintLast Go.Proofs.YthlmnnjbpikijaaDoorW.PrintMore
set_option linter.unusedVariables false
set_option linter.unusedSimpArgs false
attribute [local go_sem ↓] Go.wp_at_zero Go.wp_at_succ
/-- A reader at block p of the bits L, at a position; its bytes lie in S. -/
structure Rd (w : World) (S : Nat → Prop) (p : Nat) (L : List Int) (at_ : Nat) : Prop where
  blk : ∃ v B, w.heap[p]? = some (.cells #[v, .int .i64 (L.length : Int), .int .i64 (at_ : Int)] 123 (0, 0)) ∧ RB S w v B ∧ is8 B ∧ ofB B L.length = L ∧ L.length ≤ 8 * B.length ∧ B.length ≤ 1000000000
  at_le : at_ ≤ L.length
  len : L.length ≤ 1048576
  typed : ∀ k, S k → ∃ cells, w.heap[k]? = some (.cells cells 5 (0, 0))
theorem Rd.p_lt {w : World} {S : Nat → Prop} {p a : Nat} {L : List Int} (h : Rd w S p L a) : p < w.heap.size := by
  obtain ⟨v, B, hb, _⟩ := h.blk
  exact lt_of_block hb
theorem Rd.lt {w : World} {S : Nat → Prop} {p a : Nat} {L : List Int} (h : Rd w S p L a) (k : Nat) (hk : S k) : k < w.heap.size := by
  obtain ⟨cells, hc⟩ := h.typed k hk
  exact lt_of_block hc
theorem Rd.bits {w : World} {S : Nat → Prop} {p a : Nat} {L : List Int} (h : Rd w S p L a) : is01 L := by
  obtain ⟨v, B, _, _, _, hL, _⟩ := h.blk
  rw [← hL]; exact ofB_01 _ _
theorem Rd.fr {w w' : World} {S T : Nat → Prop} {p a : Nat} {L : List Int} (h : Rd w S p L a) (hf : Fr T w w') (hp : ¬ T p) (hS : ∀ k, S k → ¬ T k) : Rd w' S p L a := by
  obtain ⟨v, B, hb, hr, h8, hL, hl, hl2⟩ := h.blk
  exact ⟨⟨v, B, blk_fr hb hf hp, R_fr hr hf (fun k hk _ => hS k hk), h8, hL, hl, hl2⟩, h.at_le, h.len, fun k hk => by
    obtain ⟨cells, hc⟩ := h.typed k hk
    exact ⟨cells, blk_fr hc hf (hS k hk)⟩⟩
theorem Rd.below {w w' : World} {S : Nat → Prop} {p a : Nat} {L : List Int} (h : Rd w S p L a) (hb : Below w.heap.size w w') : Rd w' S p L a := h.fr (Fr.below hb (fun _ => False)) (fun h => h) (fun _ _ h => h)
theorem Rd.drew {w : World} {S : Nat → Prop} {p a : Nat} {L : List Int} (h : Rd w S p L a) (n : Nat) : Rd (w.drewN n) S p L a := h.below (below_drewN (Below.refl _ _) n)
theorem Rd.cell1 {w : World} {S : Nat → Prop} {p a : Nat} {L : List Int} (h : Rd w S p L a) : w.cell? ⟨p, 1, none⟩ = some (.int .i64 (L.length : Int)) := by
  obtain ⟨v, B, hb, _⟩ := h.blk
  rw [cell_of_row _ _ _ _ _ _ hb]; rfl
theorem Rd.cell2 {w : World} {S : Nat → Prop} {p a : Nat} {L : List Int} (h : Rd w S p L a) : w.cell? ⟨p, 2, none⟩ = some (.int .i64 (a : Int)) := by
  obtain ⟨v, B, hb, _⟩ := h.blk
  rw [cell_of_row _ _ _ _ _ _ hb]; rfl
theorem Rd.fz {w : World} {S : Nat → Prop} {p a : Nat} {L : List Int} (h : Rd w S p L a) (i : Nat) : w.frozen? ⟨p, i, none⟩ = false := by
  obtain ⟨v, B, hb, _⟩ := h.blk
  exact blk_frozen hb i
/-- The bytes, to be read. -/
theorem Rd.bytes {w : World} {S : Nat → Prop} {p a : Nat} {L : List Int} (h : Rd w S p L a) : ∃ A n c B, w.cell? ⟨p, 0, none⟩ = some (.slice A n c) ∧ Kd.C (Kd.int .u8) w A n B ∧ is8 B ∧ L.length ≤ 8 * n ∧ n ≤ 1000000000 ∧ ∀ i, i < L.length → bitAt B i = L.getD i 0 := by
  obtain ⟨v, B, hb, hr, h8, hL, hl, hl2⟩ := h.blk
  obtain ⟨A, c, e, _, hC⟩ := Kd.R_reads hr
  subst e
  refine ⟨A, B.length, c, B, by rw [cell_of_row _ _ _ _ _ _ hb]; rfl, hC, h8, hl, hl2, fun i hi => ?_⟩
  rw [← getD_ofB B L.length i hi, hL]
/-- The position is set. -/
theorem Rd.seek {w : World} {S : Nat → Prop} {p a : Nat} {L : List Int} (h : Rd w S p L a) (b : Nat) (hb : b ≤ L.length) : Rd (w.setCell ⟨p, 2, none⟩ (.int .i64 (b : Int))) S p L b := by
  obtain ⟨v, B, hk, hr, h8, hL, hl, hl2⟩ := h.blk
  refine ⟨⟨v, B, blk_put hk 2 _ rfl, Kd.R_set hr hk (by simp [Kd.int, Kd.scalar]) 2 _, h8, hL, hl, hl2⟩, hb, h.len, fun k hk' => ?_⟩
  obtain ⟨cells, hc⟩ := h.typed k hk'
  exact ⟨cells, blk_far hc (blk_ne hc hk (by decide)) _⟩
theorem or_snoc (x b : Int) (h0 : 0 ≤ x) (h1 : x ≤ 4294967296) (hb : b = 0 ∨ b = 1) : Go.bits BinOp.or IntKind.i64 (x * 2) b = 2 * x + b := by
  obtain ⟨X, rfl⟩ : ∃ X : Nat, x = X := ⟨x.toNat, by omega⟩
  obtain ⟨c, hc, rfl⟩ : ∃ c : Nat, c < 2 ∧ b = c := ⟨b.toNat, by omega, by omega⟩
  rw [show ((X : Int) * 2) = ((2 * X : Nat) : Int) by omega, or_i64 _ _ (by omega) (by omega)]
  have h := Nat.two_pow_add_eq_or_of_lt (i := 1) (b := c) (by omega) X
  rw [Nat.pow_one] at h
  rw [← h]
  norm_cast
theorem take_getD (L : List Int) (a k : Nat) (h : a + k < L.length) : (L.drop a).take (k + 1) = (L.drop a).take k ++ [L.getD (a + k) 0] := by
  rw [List.take_succ_eq_append_getElem (by rw [List.length_drop]; omega), List.getElem_drop, List.getD_eq_getElem?_getD, List.getElem?_eq_getElem (by omega)]; rfl
set_option maxHeartbeats 1000000 in
set_option maxRecDepth 100000 in
theorem next_any (S : Nat → Prop) (p a n : Nat) (L : List Int) (w : World) (hR : Rd w S p L a) (hn : a + n ≤ L.length) (hn' : n ≤ 32) :
    Calls Tryd.prog 83 #[.pointer (some ⟨p, 0, none⟩), .int .i64 n] w fun e w' => e = .returned (.int .i64 (val ((L.drop a).take n))) ∧ Rd w' S p L (a + n) ∧ Fr (fun k => k = p) w w' := by
  have HR := Aside0.mk hR
  have h01 := hR.bits
  have hlen := hR.len
  clear hR
  go_enter Tryd.func83, Tryd.ntmps83
  go_wp2_with fail
  go_loopw [5, 7] (fun u i wr => ∃ k : Nat, k ≤ n ∧ i = .int .i64 (k : Int) ∧ u = .int .i64 (val ((L.drop a).take k)) ∧ Aside0 (Rd wr S p L (a + k)) ∧ Aside0 (Fr (fun k => k = p) w wr)) (fun _ i _ => n - (intOf i).toNat)
  case atStart => exact ⟨0, Nat.zero_le _, rfl, rfl, HR, ⟨Fr.refl _ _⟩⟩
  case round =>
    obtain ⟨k, hk, rfl, rfl, HRr, HF⟩ := hrel
    by_cases hlt : k < n
    · obtain ⟨q, hq⟩ : ∃ q, q = a + k := ⟨_, rfl⟩
      have hT := take_getD L a k (by omega)
      rw [← hq] at HRr hT
      obtain ⟨A, nb, cb, B, c0, hC, h8, hl, hnb, hbit⟩ := HRr.out.bytes
      have c2 := HRr.out.cell2
      have fz := HRr.out.fz 2
      have hv := val_bound (is01_take (is01_drop h01 a) k)
      have hbk := hbit q (by omega)
      have hb01 := bitAt_01 B q
      have hv2 : val ((L.drop a).take k) ≤ 4294967296 := by
        have h1 := (pow_le32 (m := ((L.drop a).take k).length) (by rw [List.length_take]; omega)).2
        omega
      have HO := Aside0.mk (or_snoc (val ((L.drop a).take k)) (bitAt B q) hv.1 hv2 hb01)
      have HVT : Aside0 (val ((L.drop a).take (k + 1)) = 2 * val ((L.drop a).take k) + bitAt B q) := ⟨by rw [hT, val_snoc, hbk]⟩
      have HC := Aside0.mk hC
      have H8 := Aside0.mk h8
      have hv0 := hv.1
      have hql : q < L.length := by omega
      have HQ := Aside0.mk hq
      generalize hX : val ((L.drop a).take k) = X at *
      clear hT hbk hC h8 hv hbit hX hb01 hq
      go_wp2_with fail
      go_quiet ((go_at_call 73; exact Calls.quiet_of_same (bit_any A nb cb B q _ (Kd.C_drew HC.out) (by omega) H8.out (by omega))))
      go_wp2_with fail
      go_roundw
      case rel =>
        refine ⟨k + 1, by omega, by go_num, by rw [HVT.out, HO.out], ⟨?_⟩, ⟨?_⟩⟩
        · rw [show a + (k + 1) = q + 1 by have := HQ.out; omega]
          have h := (HRr.out.drew nq).seek (q + 1) (by omega)
          rwa [Int.natCast_add] at h
        · exact (HF.out.trans (Fr.below (below_drewN (Below.refl _ _) nq) _)).setCell (p := ⟨p, 2, none⟩) (fun _ => rfl) _
      case measure => simp [intOf]; omega
    · obtain rfl : k = n := by omega
      go_wp2_with fail
      go_ret
      exact ⟨rfl, HRr.out, HF.out⟩
end Go.Proofs.YthlmnnjbpikijaaDoor.P
end
section
namespace Go.Proofs.YthlmnnjbpikijaaDoor.P
open Go.RowKit Go.Shelf Go.Proofs.YthlmnnjbpikijaaDoor.Bits Go.Proofs.YthlmnnjbpikijaaDoorW.PrintWords Go.Proofs.YthlmnnjbpikijaaDoorW.PrintLast Go.Proofs.YthlmnnjbpikijaaDoorW.PrintMore
set_option linter.unusedVariables false
set_option linter.unusedSimpArgs false
attribute [local go_sem ↓] Go.wp_at_zero Go.wp_at_succ
def rGet (L : List Int) (a : Nat) (n : Int) : Int × Int × Nat := if n < 0 ∨ 32 < n then (0, 1, a) else if (L.length : Int) - a < n then (0, 3, a) else (val ((L.drop a).take n.toNat), 0, a + n.toNat)
/-- What a call of a reader that gives a number and an error says. -/
def RdPost (w : World) (S : Nat → Prop) (p : Nat) (L : List Int) (r : Int × Int × Nat) (e : Ending) (w' : World) : Prop := e = .returned (.tuple #[.int .i64 r.1, .int .i64 r.2.1]) ∧ Rd w' S p L r.2.2 ∧ Fr (fun k => k = p) w w'
set_option maxHeartbeats 1000000 in
set_option maxRecDepth 100000 in
theorem Get_any (S : Nat → Prop) (p a : Nat) (L : List Int) (n : Int) (w : World) (hR : Rd w S p L a) :
    Calls Tryd.prog 76 #[.pointer (some ⟨p, 0, none⟩), .int .i64 n] w (RdPost w S p L (rGet L a n)) := by
  have HR := Aside0.mk hR
  have hlen := hR.len
  have hal := hR.at_le
  have c1 := hR.cell1
  have c2 := hR.cell2
  clear hR
  have no : n < 0 ∨ 32 < n → Aside0 (rGet L a n = (0, 1, a)) := fun h => ⟨by unfold rGet; rw [if_pos h]⟩
  by_cases h1 : n < 0
  · have HN := no (.inl h1)
    have d1 : decide (n < 0) = true := by simpa using h1
    clear no
    go_enter Tryd.func76, Tryd.ntmps76
    go_wp2_with fail
    go_ret2
    rw [HN.out]
    exact ⟨rfl, HR.out, Fr.refl _ _⟩
  by_cases h2 : 32 < n
  · have HN := no (.inr h2)
    have d1 : decide (n < 0) = false := by simpa using h1
    have d2 : decide (32 < n) = true := by simpa using h2
    clear no
    go_enter Tryd.func76, Tryd.ntmps76
    go_wp2_with fail
    go_ret2
    rw [HN.out]
    exact ⟨rfl, HR.out, Fr.refl _ _⟩
  obtain ⟨m, rfl⟩ : ∃ m : Nat, n = m := ⟨n.toNat, by omega⟩
  have d1 : decide ((m : Int) < 0) = false := by simp
  have d2 : decide (32 < (m : Int)) = false := by simpa using h2
  have hm : m ≤ 32 := by omega
  have w1' : IntKind.i64.wrap ((L.length : Int) - (a : Int)) = (L.length : Int) - (a : Int) := IntWalk.i64_in _ (by omega)
  clear no h1 h2
  by_cases h3 : (L.length : Int) - a < m
  · have HN : Aside0 (rGet L a m = (0, 3, a)) := ⟨by unfold rGet; rw [if_neg (by omega), if_pos h3]⟩
    have d3 : decide ((L.length : Int) - (a : Int) < (m : Int)) = true := by simpa using h3
    clear h3
    go_enter Tryd.func76, Tryd.ntmps76
    go_wp2_with fail
    go_quiet (fail)
    clear w1'
    go_wp2_with fail
    go_ret2
    rw [HN.out]
    exact ⟨rfl, HR.out.drew _, Fr.below (below_drewN (Below.refl _ _) _) _⟩
  · have HN : Aside0 (rGet L a m = (val ((L.drop a).take m), 0, a + m)) := ⟨by unfold rGet; rw [if_neg (by omega), if_neg h3]; simp⟩
    have d3 : decide ((L.length : Int) - (a : Int) < (m : Int)) = false := by simpa using h3
    have hm3 : a + m ≤ L.length := by omega
    clear h3
    go_enter Tryd.func76, Tryd.ntmps76
    go_wp2_with fail
    go_quiet (fail)
    clear w1' d3
    go_wp2_with (go_at_call 83; refine (next_any S p a m L _ (HR.out.drew _) hm3 hm).mono ?_; rintro e w2 ⟨rfl, h2, h3⟩; have H2 := Aside0.mk h2; have H3 := Aside0.mk h3; clear h2 h3)
    go_ret2
    rw [HN.out]
    exact ⟨rfl, H2.out, (Fr.below (below_drewN (Below.refl _ _) _) _).trans H3.out⟩
/-! ### zeros ahead of a one -/
def zs : List Int → Nat
  | [] => 0
  | b :: M => if b = 0 then zs M + 1 else 0
end Go.Proofs.YthlmnnjbpikijaaDoor.P
end
section
namespace Go.Proofs.YthlmnnjbpikijaaDoor.P
open Go.RowKit Go.Shelf Go.Proofs.YthlmnnjbpikijaaDoor.Bits Go.Proofs.YthlmnnjbpikijaaDoorW.PrintWords Go.Proofs.YthlmnnjbpikijaaDoorW.PrintLast Go.Proofs.YthlmnnjbpikijaaDoorW.PrintMore
set_option linter.unusedVariables false
set_option linter.unusedSimpArgs false
attribute [local go_sem ↓] Go.wp_at_zero Go.wp_at_succ
attribute [local go_sem] max2_int min2_int max_two min_two
abbrev newWr : Obj := .cells #[.slice none 0 0, .int .i64 0] 101 (0, 0)
theorem New_any (w : World) : Calls Tryd.prog 61 #[] w fun e w' => e = .returned (.pointer (some ⟨w.heap.size, 0, none⟩)) ∧ w' = w.alloc newWr := by
  go_enter Tryd.func61, Tryd.ntmps61
  go_wp2
  go_ret
  simp
theorem Wr.new (w : World) : Wr (w.alloc newWr) (fun _ => False) w.heap.size [] :=
  ⟨⟨.slice none 0 0, World.alloc_heap_new w _, Kd.R_nil _ _ _ _ _⟩, is01_nil, fun _ h => h.elim⟩
theorem Left_any (S : Nat → Prop) (p a : Nat) (L : List Int) (w : World) (hR : Rd w S p L a) : Calls Tryd.prog 79 #[.pointer (some ⟨p, 0, none⟩)] w fun e w' => e = .returned (.int .i64 ((L.length : Int) - a)) ∧ ∃ n, w' = w.drewN n := by
  have c1 := hR.cell1
  have c2 := hR.cell2
  have hal := hR.at_le
  have hlen := hR.len
  have w1' : IntKind.i64.wrap ((L.length : Int) - (a : Int)) = (L.length : Int) - (a : Int) := IntWalk.i64_in _ (by omega)
  clear hR
  go_enter Tryd.func79, Tryd.ntmps79
  go_wp2_with fail
  go_quiet (fail)
  clear w1'
  go_wp2_with fail
  go_ret
  exact ⟨rfl, _, rfl⟩
end Go.Proofs.YthlmnnjbpikijaaDoor.P
end
section
namespace Go.Proofs.YthlmnnjbpikijaaDoor.P
open Go.RowKit Go.Shelf Go.Proofs.YthlmnnjbpikijaaDoor.Bits Go.Proofs.YthlmnnjbpikijaaDoorW.PrintWords Go.Proofs.YthlmnnjbpikijaaDoorW.PrintLast Go.Proofs.YthlmnnjbpikijaaDoorW.PrintMore
set_option linter.unusedVariables false
set_option linter.unusedSimpArgs false
attribute [local go_sem ↓] Go.wp_at_zero Go.wp_at_succ
attribute [local go_sem] max2_int min2_int max_two min_two
def rTake (L : List Int) (a : Nat) (n : Int) : List Int × Int × Nat := if n < 0 then ([], 1, a) else if (L.length : Int) - a < n then ([], 3, a) else ((L.drop a).take n.toNat, 0, a + n.toNat)
def TakePost (w : World) (S : Nat → Prop) (p : Nat) (L : List Int) (r : List Int × Int × Nat) (e : Ending) (w' : World) : Prop :=
  ∃ v S', e = .returned (.tuple #[v, .int .i64 r.2.1]) ∧ RB S' w' v (pk r.1) ∧ (∀ k, S' k → w.heap.size ≤ k ∧ ∃ cells, w'.heap[k]? = some (.cells cells 5 (0, 0))) ∧ Rd w' S p L r.2.2 ∧ Fr (fun k => k = p) w w'
theorem RB_nil (S : Nat → Prop) (w : World) : RB S w (.slice none 0 0) (pk []) := by rw [pk_nil]; exact Kd.R_nil _ _ _ _ _
theorem val_one (b : Int) : val [b] = b := by simp [val]
set_option maxHeartbeats 1000000 in
set_option maxRecDepth 100000 in
theorem Take_any (S : Nat → Prop) (p a : Nat) (L : List Int) (n : Int) (w : World) (hR : Rd w S p L a) :
    Calls Tryd.prog 78 #[.pointer (some ⟨p, 0, none⟩), .int .i64 n] w (TakePost w S p L (rTake L a n)) := by
  have HR := Aside0.mk hR
  have hlen := hR.len
  have hal := hR.at_le
  have c1 := hR.cell1
  have c2 := hR.cell2
  have hp := hR.p_lt
  have HSL := Aside0.mk hR.lt
  have h01 := hR.bits
  clear hR
  by_cases h1 : n < 0
  · have HN : Aside0 (rTake L a n = ([], 1, a)) := ⟨by unfold rTake; rw [if_pos h1]⟩
    have d1 : decide (n < 0) = true := by simpa using h1
    go_enter Tryd.func78, Tryd.ntmps78
    go_wp2_with fail
    go_ret2
    rw [HN.out]
    exact ⟨.slice none 0 0, fun _ => False, rfl, RB_nil _ _, fun _ h => h.elim, HR.out, Fr.refl _ _⟩
  obtain ⟨m, rfl⟩ : ∃ m : Nat, n = m := ⟨n.toNat, by omega⟩
  have d1 : decide ((m : Int) < 0) = false := by simp
  have w1' : IntKind.i64.wrap ((L.length : Int) - (a : Int)) = (L.length : Int) - (a : Int) := IntWalk.i64_in _ (by omega)
  by_cases h3 : (L.length : Int) - a < m
  · have HN : Aside0 (rTake L a m = ([], 3, a)) := ⟨by unfold rTake; rw [if_neg (by omega), if_pos h3]⟩
    have d3 : decide ((L.length : Int) - (a : Int) < (m : Int)) = true := by simpa using h3
    clear h3 h1
    go_enter Tryd.func78, Tryd.ntmps78
    go_wp2_with fail
    go_quiet (fail)
    clear w1'
    go_wp2_with fail
    go_ret2
    rw [HN.out]
    exact ⟨.slice none 0 0, fun _ => False, rfl, RB_nil _ _, fun _ h => h.elim, HR.out.drew _, Fr.below (below_drewN (Below.refl _ _) _) _⟩
  · have HN : Aside0 (rTake L a m = ((L.drop a).take m, 0, a + m)) := ⟨by unfold rTake; rw [if_neg (by omega), if_neg h3]; simp⟩
    have d3 : decide ((L.length : Int) - (a : Int) < (m : Int)) = false := by simpa using h3
    have hm3 : a + m ≤ L.length := by omega
    clear h3 h1
    go_enter Tryd.func78, Tryd.ntmps78
    go_wp2_with fail
    go_quiet (fail)
    clear w1' d3
    go_wp2_with (go_at_call 61; refine (New_any _).mono ?_; rintro e w2 ⟨rfl, rfl⟩)
    obtain ⟨pw, hpw⟩ : ∃ pw, pw = w.heap.size := ⟨_, rfl⟩
    have HPW := Aside0.mk hpw
    have hWn : Wr ((w.drewN nq).alloc newWr) (fun _ => False) pw [] := by rw [hpw]; exact Wr.new (w.drewN nq)
    have hRn : Rd ((w.drewN nq).alloc newWr) S p L a := HR.out.below (below_alloc (below_drewN (Below.refl _ _) _) _)
    have hFn : Fr (fun k => k = p) w ((w.drewN nq).alloc newWr) := Fr.below (below_alloc (below_drewN (Below.refl _ _) _) _) _
    rw [← hpw]
    have HWn := Aside0.mk hWn
    have HRn := Aside0.mk hRn
    have HFn := Aside0.mk hFn
    clear hWn hRn hFn hpw c1 c2
    generalize (w.drewN nq).alloc newWr = wn at *
    go_loopw [28] (fun i wr => ∃ k : Nat, k ≤ m ∧ i = .int .i64 (k : Int) ∧ Aside0 (Rd wr S p L (a + k)) ∧ Aside0 (∃ S1, Wr wr S1 pw ((L.drop a).take k) ∧ ∀ j, S1 j → pw ≤ j) ∧ Aside0 (Fr (fun k => k = p) w wr)) (fun i _ => m - (intOf i).toNat)
    case atStart => exact ⟨0, Nat.zero_le _, rfl, HRn, ⟨_, HWn.out, fun _ h => h.elim⟩, HFn⟩
    case round =>
      obtain ⟨k, hk, rfl, HRr, HWr, HFr⟩ := hrel
      by_cases hlt : k < m
      · obtain ⟨S1, hW1, hS1⟩ := HWr.out
        have HW1 := Aside0.mk hW1
        have HS1 := Aside0.mk hS1
        have hT := take_getD L a k (by omega)
        have HT := Aside0.mk hT
        have hone : val ((L.drop (a + k)).take 1) = L.getD (a + k) 0 := by
          have h := take_getD L (a + k) 0 (by omega)
          rw [show 0 + 1 = 1 from rfl, show a + k + 0 = a + k from rfl, List.take_zero, List.nil_append] at h
          rw [h, val_one]
        have hb01 := getD01 h01 (a + k)
        have HNX := Aside0.mk (next_any S p (a + k) 1 L wr HRr.out (by omega) (by omega))
        rw [hone] at HNX
        have hpwp : pw ≠ p := by have := HPW.out; omega
        generalize hB : L.getD (a + k) 0 = b at *
        clear hW1 hS1 hT hone hB
        go_wp2_with (first
          | (go_at_call 83; refine HNX.out.mono ?_; rintro e w3 ⟨rfl, h4, h5⟩; have H4 := Aside0.mk h4; have H5 := Aside0.mk h5; have H6 := Aside0.mk (HW1.out.fr h5 hpwp (fun j hj e => by have := HS1.out j hj; have := HPW.out; omega)); clear h4 h5)
          | (go_at_call 72; (refine (add_any S1 pw ((L.drop a).take k) b _ H6.out (by omega) ?gl).mono ?_; (case gl => (rw [List.length_take, List.length_drop]; omega)); rintro e w4 ⟨rfl, h7⟩; have H7 := Aside0.mk h7; clear h7)))
        go_roundw
        case rel =>
          obtain ⟨S2, h8, hs2, f2⟩ := H7.out
          have hsz := H5.out.size
          have hsz2 := HFr.out.size
          have hpws := HPW.out
          refine ⟨k + 1, by omega, by go_num, ⟨?_⟩, ⟨S2, ?_, ?_⟩, ⟨?_⟩⟩
          · rw [show a + (k + 1) = a + k + 1 by omega]
            refine H4.out.fr f2 ?_ ?_
            · rintro (e | e)
              · exact hpwp e.symm
              · have := HS1.out _ e; omega
            · rintro j hj (e | e)
              · have := HSL.out j hj; omega
              · have := HS1.out _ e; have := HSL.out j hj; omega
          · rw [HT.out]; exact h8
          · intro j hj
            rcases hs2 j hj with q | q
            · exact HS1.out j q
            · omega
          · refine (HFr.out.trans H5.out).next f2 ?_
            rintro j hj (e | e)
            · omega
            · have := HS1.out _ e; omega
        case measure => simp [intOf]; omega
      · obtain rfl : k = m := by omega
        obtain ⟨S1, hW1, hS1⟩ := HWr.out
        obtain ⟨v, hblk, hrb⟩ := hW1.blk
        have c0 : wr.cell? ⟨pw, 0, none⟩ = some v := by rw [cell_of_row _ _ _ _ _ _ hblk]; rfl
        have HV := Aside0.mk hrb
        have HS1 := Aside0.mk hS1
        have HTY := Aside0.mk hW1.typed
        clear hW1 hS1 hblk hrb
        go_wp2_with fail
        go_ret2
        rw [HN.out]
        exact ⟨v, S1, rfl, HV.out, fun j hj => ⟨by have := HS1.out j hj; have := HPW.out; omega, HTY.out j hj⟩, HRr.out, HFr.out⟩
end Go.Proofs.YthlmnnjbpikijaaDoor.P
end
section
namespace Go.Proofs.YthlmnnjbpikijaaDoor.P
open Go.RowKit Go.Shelf Go.Proofs.YthlmnnjbpikijaaDoor.Bits Go.Proofs.YthlmnnjbpikijaaDoorW.PrintWords Go.Proofs.YthlmnnjbpikijaaDoorW.PrintLast Go.Proofs.YthlmnnjbpikijaaDoorW.PrintMore
set_option linter.unusedVariables false
set_option linter.unusedSimpArgs false
attribute [local go_sem ↓] Go.wp_at_zero Go.wp_at_succ
/-- append of bytes to a row of one's own, as a run. -/
theorem append_run {S : Nat → Prop} (W : World) (v : Value) (xs ys : List Int) (A : Option Addr) (m c : Nat) (HO : RB S W v xs) (HR : Kd.C (Kd.int .u8) W A m ys) (hl : xs.length + m ≤ 140737488355328) :
    ∃ v1 w1, (Builtin.append_ #[27, 27] 27 #[v, .slice A m c]).run Tryd.prog W = .ok v1 w1 ∧ RB (fun k => S k ∨ k = W.heap.size) w1 v1 (xs ++ ys) ∧ W.grownBy w1 v.ownBlock := by
  obtain ⟨i0, hi, hzz⟩ := Option.map_eq_some_iff.1 binfo
  simp only [Prod.mk.injEq] at hzz
  obtain ⟨hz0, hz1, hz2⟩ := hzz
  have HO' := Kd.own_of_R HO
  have HR' := Kd.reads_of_C (enc := Value.int .u8) (d := (0 : Int)) (h1 := fun _ => rfl) HR
  have hm : ys.length = m := HR'.1
  have ht := Tryd.underlying27
  rcases A with _ | ad
  · have h0 : m = 0 := by
      rcases Nat.eq_zero_or_pos m with h0 | h0
      · exact h0
      · obtain ⟨ad, h, _⟩ := HR'.2.2 h0
        cases h
    subst h0
    obtain rfl : ys = [] := List.eq_nil_of_length_eq_zero hm
    refine ⟨v, W, ?_, by rw [List.append_nil]; exact Kd.R_mono HO (fun k hk => .inl hk), World.grownBy.refl W _⟩
    rcases HO'.2 with ⟨rfl, hn⟩ | ⟨g, cap, cur, rfl, _, _, hnc, _⟩
    · simp [Builtin.append_, run_underlying ht, sizeOf, typeInfo, hi, Builtin.lenOf, Builtin.firstCells]
    · simp [Builtin.append_, run_underlying ht, sizeOf, typeInfo, hi, Builtin.lenOf, Builtin.firstCells, hnc, storeCells]
  · have hcells : ∀ j u, (encs (Value.int .u8) ys)[j]? = some u → W.cell? (ad.add j) = some u := by
      intro j u hu
      have hj : j < ys.length := by
        rcases Nat.lt_or_ge j ys.length with h | h
        · exact h
        · simp [encs, List.getElem?_eq_none h] at hu
      obtain ⟨ad', h', hc⟩ := HR'.2.2 (by omega)
      obtain rfl := Option.some.inj h'
      rw [encs_get (d := (0 : Int)) ys j hj] at hu
      rw [← hu]
      exact hc j (by omega)
    obtain ⟨v1, w1, hr, h2, h3, _, h5⟩ := run_append_own_at (P := Tryd.prog) W 0 27 27 5 i0 _ 1 1 ht hi hz0 hz1 hz2 rfl (by omega) v xs.length (encs (Value.int .u8) xs) HO' ad m c (encs (Value.int .u8) ys) (by simp [encs, hm]) hcells
      (by intro u hu; simp only [encs, List.mem_map] at hu; obtain ⟨q, _, rfl⟩ := hu; rfl) (by simp only [maxLen]; omega) (by omega) (Nat.zero_le _)
    refine ⟨v1, w1, hr, Kd.R_of_own (by simpa [encs, hm] using h2) (fun k hk => ?_), h3⟩
    rcases h5 with e | e
    · exact .inl (HO.1 k (by rw [← e]; exact hk))
    · rw [e] at hk; cases hk; exact .inr rfl
abbrev noBytes : Obj := .cells #[] 5 (0, 0)
theorem empty_R (W : World) : RB (fun k => k = W.heap.size) (W.alloc noBytes) (.slice (some ⟨W.heap.size, 0, none⟩) 0 0) [] :=
  Kd.R_of_own (own_lit_of (enc := fun x => Value.int .u8 x) W 0 5 [] (Nat.zero_le _) (by decide)) (fun k hk => by simpa [Value.ownBlock] using hk.symm)
theorem step_run_append {P : Program} {ops : Array Oper} {o : Oper} {a : Act} {K : Act → World → Prop} {Q : Exit → Act → World → Prop} {E : Prop} {W w1 : World} {v1 : Value} (hgd : o.guard = none) (s x : Operand) (t : TypeId)
    (ho : o.op = .call { callee := .builtin .append, args := #[s, x], argTypes := #[t, t] }) (v y : Value) (hs : a.eval s = v) (hx : a.eval x = y) (hrun : (Builtin.append_ #[t, t] o.type #[v, y]).run P W = .ok v1 w1) (h : K (a.put o.dst v1) w1) :
    if Region.wanted o (yielded ops a.tmps) = true then Oper.wp P o a W K Q else E := by
  have hw : Region.wanted o (yielded ops a.tmps) = true := by simp [Region.wanted, hgd]
  rw [if_pos hw]
  unfold Oper.wp execOp
  simp only [ho, resolve, invoke, builtin, Sem.run_bind, Sem.run_pure, Result.andThen_ok, List.map_toArray, List.map_cons, List.map_nil, hs, hx, hrun]
  exact h
set_option maxHeartbeats 1000000 in
set_option maxRecDepth 100000 in
theorem Bytes_any (S : Nat → Prop) (p : Nat) (L : List Int) (w : World) (hW : Wr w S p L) (hL : L.length ≤ 1048576) :
    Calls Tryd.prog 64 #[.pointer (some ⟨p, 0, none⟩)] w fun e w' => ∃ v S', e = .returned v ∧ RB S' w' v (pk L) ∧ (∀ k, S' k → w.heap.size ≤ k) ∧ Below w.heap.size w w' := by
  obtain ⟨v, hblk, hR⟩ := hW.blk
  obtain ⟨A, cv, ev, hcv, hC⟩ := Kd.R_reads hR
  subst ev
  have c0 : w.cell? ⟨p, 0, none⟩ = some (.slice A (pk L).length cv) := by rw [cell_of_row _ _ _ _ _ _ hblk]; rfl
  have hpl := lt_of_block hblk
  have HC := Aside0.mk hC
  have HR := Aside0.mk hR
  clear hblk hR hC hW
  go_enter Tryd.func64, Tryd.ntmps64
  go_wp2_with fail
  obtain ⟨v1, w1, hrun, hr1, hg1⟩ := append_run (S := fun k => k = w.heap.size) (w.alloc noBytes).drew (.slice (some ⟨w.heap.size, 0, none⟩) 0 0) [] (pk L) A (pk L).length (pk L).length (Kd.R_drew (empty_R w)) (Kd.C_drew (Kd.C_alloc HC.out _)) (by simp [pk_length]; omega)
  have HR1 := Aside0.mk hr1
  have HG1 := Aside0.mk hg1
  have HRUN := Aside0.mk hrun
  have hk1 : w1.cell? ⟨p, 0, none⟩ = some (.slice A (pk L).length cv) := by
    have h1 : (w.alloc noBytes).drew.cell? ⟨p, 0, none⟩ = some (.slice A (pk L).length cv) := (World.cell?_alloc_lt w noBytes ⟨p, 0, none⟩ hpl).trans c0
    refine (World.cell?_of_block (hg1.block p (by simp; omega) (fun e => ?_))).trans h1
    have : p = w.heap.size := by simpa [Value.ownBlock] using e
    omega
  clear hr1 hg1 hrun
  go_region_held3 (fun w' => w'.cell? ⟨p, 0, none⟩ = some (.slice A (pk L).length cv))
    (first | assumption | go_keep)
    ((refine step_run_append (by rfl) _ _ _ (by rfl) _ _ (by rfl) (by rfl) HRUN.out ?_))
  go_wp2_with fail
  go_ret
  refine ⟨v1, _, rfl, by have := HR1.out; rwa [List.nil_append] at this, ?_, ?_⟩
  · rintro k (rfl | rfl)
    · exact Nat.le_refl _
    · simp
  · refine (below_drew (below_alloc (Below.refl _ _) _)).grown HG1.out (by simp) (fun k hk => ?_)
    have : w.heap.size = k := by simpa [Value.ownBlock] using hk
    omega
theorem wpList_run_append {P : Program} {ops : Array Oper} {rest : List Oper} {o : Oper} {a : Act} {Q : Exit → Act → World → Prop} {W w1 : World} {v1 : Value} (hgd : o.guard = none) (s x : Operand) (t : TypeId)
    (ho : o.op = .call { callee := .builtin .append, args := #[s, x], argTypes := #[t, t] }) (v y : Value) (hs : a.eval s = v) (hx : a.eval x = y) (hrun : (Builtin.append_ #[t, t] o.type #[v, y]).run P W = .ok v1 w1) (h : wpList P ops Q rest (a.put o.dst v1) w1) :
    wpList P ops Q (o :: rest) a W := by
  refine wpList_plain hgd fun K hK => ?_
  unfold Oper.wp execOp
  simp only [ho, resolve, invoke, builtin, Sem.run_bind, Sem.run_pure, Result.andThen_ok, List.map_toArray, List.map_cons, List.map_nil, hs, hx, hrun]
  exact hK _ _ h
def openE (B : List Int) (n : Int) : Int := if n < 0 ∨ 8 * (B.length : Int) < n then 1 else if 1048576 < n then 2 else 0
/-- What Open gives: no reader, and an error; or a reader of the bits. -/
def OpenPost (w : World) (B : List Int) (n : Int) (e : Ending) (w' : World) : Prop :=
  if openE B n = 0 then ∃ p S, e = .returned (.tuple #[.pointer (some ⟨p, 0, none⟩), .int .i64 0]) ∧ Rd w' S p (ofB B n.toNat) 0 ∧ w.heap.size ≤ p ∧ (∀ k, S k → w.heap.size ≤ k) ∧ Below w.heap.size w w'
  else e = .returned (.tuple #[.pointer none, .int .i64 (openE B n)]) ∧ w' = w
theorem bitAt_take (B : List Int) (m i : Nat) (h : i / 8 < m) : bitAt (B.take m) i = bitAt B i := by
  unfold bitAt
  rw [List.getD_eq_getElem?_getD, List.getElem?_take, if_pos h, ← List.getD_eq_getElem?_getD]
theorem ofB_take' (B : List Int) (m n : Nat) (h : n ≤ 8 * m) : ofB (B.take m) n = ofB B n := by
  unfold ofB
  apply List.map_congr_left
  intro i hi
  have := List.mem_range.1 hi
  exact bitAt_take B m i (by omega)
set_option maxHeartbeats 1000000 in
set_option maxRecDepth 100000 in
theorem Open_any (A : Option Addr) (c : Nat) (B : List Int) (n : Int) (w : World) (hC : Kd.C (Kd.int .u8) w A B.length B) (hB : is8 B) (hBl : B.length ≤ 1000000000) (hc : B.length ≤ c) :
    Calls Tryd.prog 74 #[.slice A B.length c, .int .i64 n] w (OpenPost w B n) := by
  have HC := Aside0.mk hC
  have H8 := Aside0.mk hB
  clear hC hB
  by_cases h1 : n < 0
  · have HN : Aside0 (openE B n = 1) := ⟨by unfold openE; rw [if_pos (.inl h1)]⟩
    have d1 : decide (n < 0) = true := by simpa using h1
    go_enter Tryd.func74, Tryd.ntmps74
    go_wp2_with fail
    go_ret2
    unfold OpenPost
    rw [HN.out, if_neg (by decide)]
    exact ⟨rfl, rfl⟩
  obtain ⟨m, rfl⟩ : ∃ m : Nat, n = m := ⟨n.toNat, by omega⟩
  have d1 : decide ((m : Int) < 0) = false := by simp
  by_cases h2 : 8 * (B.length : Int) < m
  · have HN : Aside0 (openE B m = 1) := ⟨by unfold openE; rw [if_pos (.inr h2)]⟩
    have d2 : decide (8 * (B.length : Int) < (m : Int)) = true := by simpa using h2
    clear h1
    go_enter Tryd.func74, Tryd.ntmps74
    go_wp2_with fail
    go_ret2
    unfold OpenPost
    rw [HN.out, if_neg (by decide)]
    exact ⟨rfl, rfl⟩
  have d2 : decide (8 * (B.length : Int) < (m : Int)) = false := by simpa using h2
  by_cases h3 : 1048576 < (m : Int)
  · have HN : Aside0 (openE B m = 2) := ⟨by unfold openE; rw [if_neg (by omega), if_pos h3]⟩
    have d3 : decide (1048576 < (m : Int)) = true := by simpa using h3
    clear h1
    go_enter Tryd.func74, Tryd.ntmps74
    go_wp2_with fail
    go_ret2
    unfold OpenPost
    rw [HN.out, if_neg (by decide)]
    exact ⟨rfl, rfl⟩
  · have HN : Aside0 (openE B m = 0) := ⟨by unfold openE; rw [if_neg (by omega), if_neg h3]⟩
    have d3 : decide (1048576 < (m : Int)) = false := by simpa using h3
    have hm : m ≤ 1048576 := by omega
    have hm8 : m ≤ 8 * B.length := by omega
    obtain ⟨q, hq⟩ : ∃ q, q = (m + 7) / 8 := ⟨_, rfl⟩
    have hqB : q ≤ B.length := by omega
    have w1' : ((m : Int) + 7) / 8 = (q : Int) := by omega
    have hsl : ∀ W : World, (Instr.slice 27 (.slice A B.length c) none (some (.int .i64 (q : Int))) none).run Tryd.prog W = .ok (.slice A q c) W := by
      intro W
      have := cut_to (P := Tryd.prog) 27 5 .i64 Tryd.underlying27 (i := _) rfl A B.length c (q : Int) (by omega) (by omega) hc W
      simpa using this
    have hl : (B.take q).length = q := by rw [List.length_take]; omega
    have hCt := Kd.C_take HC.out hqB
    rw [hl] at hCt
    obtain ⟨v1, w1, hrun, hr1, hg1⟩ := append_run (S := fun k => k = w.heap.size) (w.alloc noBytes) (.slice (some ⟨w.heap.size, 0, none⟩) 0 0) [] (B.take q) A q c (empty_R w) (Kd.C_alloc hCt _) (by simp; omega)
    rw [List.nil_append] at hr1
    obtain ⟨Av, cv, ev⟩ := Kd.R_slice hr1
    subst ev
    rw [hl] at hr1 hrun
    have HQ := Aside0.mk hq
    have HR1 := Aside0.mk hr1
    have HG1 := Aside0.mk hg1
    have HRUN := Aside0.mk hrun
    have HL := Aside0.mk hl
    clear hr1 hg1 hrun h1 h2 h3 hCt hq hl
    go_enter Tryd.func74, Tryd.ntmps74
    go_wp2_with (at_builtin; refine wpList_run_append rfl _ _ _ rfl _ _ rfl rfl HRUN.out ?_)
    go_ret2
    unfold OpenPost
    rw [HN.out, if_pos rfl, Int.toNat_natCast]
    have hb1 : Below w.heap.size w w1 := (below_alloc (Below.refl _ _) _).grown HG1.out (by simp) (fun k hk => by
      have : w.heap.size = k := by simpa [Value.ownBlock] using hk
      omega)
    have hr1 := Kd.R_bound HR1.out
    have hsz := hb1.size
    have hq := HQ.out
    refine ⟨w1.heap.size, fun k => (k = w.heap.size ∨ k = (w.alloc noBytes).heap.size) ∧ ∃ cells, (w1.alloc (.cells #[.slice Av q cv, .int .i64 (m : Int), .int .i64 0] 123)).heap[k]? = some (.cells cells 5 (0, 0)), rfl, ⟨⟨.slice Av q cv, B.take q, ?_, ?_, ?_, ?_, ?_, ?_⟩, Nat.zero_le _, by rw [ofB_length]; exact hm, fun k hk => hk.2⟩, hsz, ?_, ?_⟩
    · rw [ofB_length]; exact World.alloc_heap_new w1 _
    · refine Kd.R_mono (Kd.R_alloc hr1 _) (fun k hk => ⟨hk.1, ?_⟩)
      obtain ⟨q', hq', cells, hc⟩ := hk.2.2.2
      obtain rfl : q' = 5 := by simpa [Kd.int, Kd.scalar] using hq'
      exact ⟨cells, blk_alloc' hc _⟩
    · exact fun b hb => H8.out b (List.mem_of_mem_take hb)
    · rw [ofB_length]; exact ofB_take' B q m (by omega)
    · rw [ofB_length, HL.out]; omega
    · rw [HL.out]; omega
    · rintro k ⟨(rfl | rfl), _⟩
      · exact Nat.le_refl _
      · simp
    · exact hb1.alloc hsz _
end Go.Proofs.YthlmnnjbpikijaaDoor.P
end
section
namespace Go.Proofs.YthlmnnjbpikijaaDoor.P
open Go.RowKit Go.Shelf Go.Proofs.YthlmnnjbpikijaaDoor.Bits Go.Proofs.YthlmnnjbpikijaaDoorW.PrintWords Go.Proofs.YthlmnnjbpikijaaDoorW.PrintLast Go.Proofs.YthlmnnjbpikijaaDoorW.PrintMore
set_option linter.unusedVariables false
set_option linter.unusedSimpArgs false
attribute [local go_sem ↓] Go.wp_at_zero Go.wp_at_succ
theorem at8 {w : World} {A : Option Addr} {n : Nat} {B : List Int} (h : Kd.C (Kd.int .u8) w A n B) (i : Nat) (hi : i < n) : ∃ ad, A = some ad ∧ w.cell? (ad.add i) = some (.int .u8 (B.getD i 0)) := by
  obtain ⟨ad, e, hx⟩ := Kd.at_int h (i : Int) (by omega) (by omega)
  refine ⟨ad, e, ?_⟩
  rw [Int.toNat_natCast] at hx
  rw [hx]; unfold rd; rw [Int.toNat_natCast]
end Go.Proofs.YthlmnnjbpikijaaDoor.P
end
