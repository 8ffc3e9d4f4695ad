/- The writer: what is in memory; the contracts of bits.bit, bits.Writer.add. The bits of a number, one by one: bits.number's iterator, and bits.each over it. The contracts of bits.number, of bits.each with Writer.add, of Writer.put. The contract of Writer.put. The contracts of Writer.Put, Signed, Unary, Gamma, Align, Append. The contracts of Writer.Signed, Unary. The contracts of Writer.Gamma, Align, Append. -/
import Derived.Test.YtnpheeendbchbaaProg
import Derived.Test.YtnpheeendbchbaaBa
import Derived.Test.YtnpheeendbchbaaBase
import Derived.Deep.DeepCutAuto
import Derived.IntWalk
import Derived.Deep.RegionHeld3
import Derived.Deep.DrawnRows
import Derived.Shelf.Abstract
import Derived.Shelf.RegionOpen
import Derived.LoopNIn
import Derived.LoopIn
import Derived.RangeFuncNested
import Derived.RangeFuncBound
import Derived.RangeFuncCalls
import Derived.RangeFuncLeaves
section
namespace Go.Proofs.Ytnpheeendbchbaa.P
open Go.RowKit Go.Shelf Go.Proofs.Ytnpheeendbchbaa.Bits Go.Proofs.YtnpheeendbchbaaW.PrintWords Go.Proofs.YtnpheeendbchbaaW.PrintLast Go.Proofs.YtnpheeendbchbaaW.PrintMore
set_option linter.unusedVariables false
set_option linter.unusedSimpArgs false
attribute [local go_sem ↓] Go.wp_at_zero Go.wp_at_succ

theorem binfo : (Try.prog.info? 5).map (fun i => (i.zero, i.size, i.bytes)) = some (some (.int .u8 0), 1, 1) := by kernel_rfl

/-- A row of bytes of one's own, in blocks of S. -/
abbrev RB (S : Nat → Prop) (w : World) (v : Value) (B : List Int) : Prop := Kd.R (Kd.int .u8) 5 w 0 S v B
/-- A writer at block p has the bits L; its bytes lie in S. -/
structure Wr (w : World) (S : Nat → Prop) (p : Nat) (L : List Int) : Prop where
  blk : ∃ v, w.heap[p]? = some (.cells #[v, .int .i64 (L.length : Int)] 80 (0, 0)) ∧ RB S w v (pk L)
  bits : is01 L
  typed : ∀ k, S k → ∃ cells, w.heap[k]? = some (.cells cells 5 (0, 0))
/-- From w to w' the writer at p, whose bytes lay in S, came to have L; nothing else that was there has turned. -/
def WrTo (w : World) (S : Nat → Prop) (p : Nat) (L : List Int) (w' : World) : Prop := ∃ S', Wr w' S' p L ∧ (∀ k, S' k → S k ∨ w.heap.size ≤ k) ∧ Fr (fun k => k = p ∨ S k) w w'

theorem Wr.lt {w : World} {S : Nat → Prop} {p : Nat} {L : List Int} (h : Wr w S p L) (k : Nat) (hk : S k) : k < w.heap.size := by
  obtain ⟨cells, hc⟩ := h.typed k hk
  exact lt_of_block hc
theorem Wr.p_lt {w : World} {S : Nat → Prop} {p : Nat} {L : List Int} (h : Wr w S p L) : p < w.heap.size := by
  obtain ⟨v, hb, _⟩ := h.blk
  exact lt_of_block hb
theorem Wr.fr {w w' : World} {S T : Nat → Prop} {p : Nat} {L : List Int} (h : Wr w S p L) (hf : Fr T w w') (hp : ¬ T p) (hS : ∀ k, S k → ¬ T k) : Wr w' S p L := by
  obtain ⟨v, hb, hr⟩ := h.blk
  exact ⟨⟨v, blk_fr hb hf hp, R_fr hr hf (fun k hk _ => hS k hk)⟩, h.bits, fun k hk => by
    obtain ⟨cells, hc⟩ := h.typed k hk
    exact ⟨cells, blk_fr hc hf (hS k hk)⟩⟩
theorem Wr.to {w w' : World} {S T : Nat → Prop} {p : Nat} {L : List Int} (h : Wr w S p L) (hf : Fr T w w') (hp : ¬ T p) (hS : ∀ k, S k → ¬ T k) (hT : ∀ k, k < w.heap.size → T k → k = p ∨ S k) : WrTo w S p L w' :=
  ⟨S, h.fr hf hp hS, fun _ hk => .inl hk, hf.mono hT⟩
theorem WrTo.trans {w w1 w2 : World} {S : Nat → Prop} {p : Nat} {L1 L2 : List Int} (h : WrTo w S p L1 w1) (k : ∀ S1, Wr w1 S1 p L1 → WrTo w1 S1 p L2 w2) : WrTo w S p L2 w2 := by
  obtain ⟨S1, h1, hs1, f1⟩ := h
  obtain ⟨S2, h2, hs2, f2⟩ := k S1 h1
  refine ⟨S2, h2, fun i hi => ?_, f1.next f2 (fun i hi hT => ?_)⟩
  · rcases hs2 i hi with q | q
    · exact hs1 i q
    · exact .inr (Nat.le_trans f1.size q)
  · rcases hT with q | q
    · exact .inl q
    · rcases hs1 i q with q | q
      · exact .inr q
      · omega

/-- b's bit i: the shift and the mask, as the program does them. -/
theorem or_bit : ∀ x : Fin 256, ∀ m : Fin 8, ∀ b : Fin 2, x.val % 2 ^ (8 - m.val) = 0 → x.val ||| (b.val * 2 ^ (7 - m.val)) = x.val + b.val * 2 ^ (7 - m.val) := by decide +kernel

theorem or_byte (x b : Int) (m : Nat) (hx : 0 ≤ x ∧ x < 256) (hb : b = 0 ∨ b = 1) (hm : m < 8) (hr : x % 2 ^ (8 - m) = 0) : Go.bits BinOp.or IntKind.u8 x (wrap64 (b * 2 ^ (7 - m)) % 256) = x + b * 2 ^ (7 - m) := by
  obtain ⟨X, rfl⟩ : ∃ X : Nat, x = X := ⟨x.toNat, by omega⟩
  obtain ⟨c, hc, rfl⟩ : ∃ c : Nat, c < 2 ∧ b = c := ⟨b.toNat, by omega, by omega⟩
  have h := or_bit ⟨X, by omega⟩ ⟨m, hm⟩ ⟨c, hc⟩ (by
    have e : ((X % 2 ^ (8 - m) : Nat) : Int) = 0 := by rw [← hr]; norm_cast
    exact_mod_cast e)
  simp only at h
  have hp : c * 2 ^ (7 - m) ≤ 128 := by
    have h1 : 2 ^ (7 - m) ≤ 2 ^ 7 := Nat.pow_le_pow_right (by omega) (by omega)
    have h2 : c * 2 ^ (7 - m) ≤ 1 * 2 ^ (7 - m) := Nat.mul_le_mul_right _ (by omega)
    omega
  have e : ((c : Int) * 2 ^ (7 - m)) = ((c * 2 ^ (7 - m) : Nat) : Int) := by norm_cast
  rw [e, wrap64_id (by omega) (by omega), show (((c * 2 ^ (7 - m) : Nat) : Int) % 256) = ((c * 2 ^ (7 - m) : Nat) : Int) by omega, or_u8 X _ (by omega) (by omega), h]
  norm_cast
theorem div_small (x : Int) (k : Nat) (h0 : 0 ≤ x) (h1 : x < 256) : 0 ≤ x / 2 ^ k ∧ x / 2 ^ k < 256 :=
  ⟨Int.ediv_nonneg h0 (Int.le_of_lt (Int.pow_pos (by omega))), by have := Int.ediv_le_self (2 ^ k) h0; omega⟩
set_option maxHeartbeats 1000000 in
set_option maxRecDepth 100000 in
theorem bit_any (A : Option Addr) (n c : Nat) (B : List Int) (i : Nat) (w : World) (hC : Kd.C (Kd.int .u8) w A n B) (hi : i / 8 < n) (hb : is8 B) (hn : n ≤ 9223372036854775807) :
    Calls Try.prog 67 #[.slice A n c, .int .i64 i] w fun e w' => e = .returned (.int .i64 (bitAt B i)) ∧ w' = w := by
  obtain ⟨ad, e, hx⟩ := Kd.at_int hC ((i : Int) / 8) (by omega) (by omega)
  subst e
  have i1 : (0 : Int) ≤ (i : Int) / 8 := by omega
  have i2 : (i : Int) / 8 < (n : Int) := by omega
  have hx8 := getD8 hb (i / 8)
  obtain ⟨x, hX⟩ : ∃ x, x = B.getD (i / 8) 0 := ⟨_, rfl⟩
  have hx' : w.cell? (ad.add (i / 8)) = some (.int .u8 x) := by rw [hX]; rw [show ((i : Int) / 8).toNat = i / 8 by omega] at hx; rw [hx]; unfold rd; rw [show ((i : Int) / 8).toNat = i / 8 by omega]
  rw [← hX] at hx8
  have HX := Aside0.mk hX
  clear hx hX hC
  go_enter Try.func67, Try.ntmps67
  go_wp2_with fail
  go_ret
  refine ⟨?_, rfl⟩
  have h1 := div_small x (7 - i % 8) hx8.1 hx8.2
  show Ending.returned (Value.int IntKind.i64 (bits BinOp.and IntKind.i64 (wrap64 (x / 2 ^ (7 - i % 8))) 1)) = _
  rw [wrap64_id (by omega) (by omega), and1_i64 _ (by omega)]
  unfold bitAt
  rw [← HX.out]

/-- The bytes with room for the next bit. -/
def room (L : List Int) : List Int := if L.length % 8 = 0 then pk L ++ [0] else pk L
theorem room_length (L : List Int) : (room L).length = L.length / 8 + 1 := by
  unfold room
  split
  · simp [pk_length]; omega
  · simp [pk_length]; omega
theorem room_getD (L : List Int) : (room L).getD (L.length / 8) 0 = byteAt L (L.length / 8) := by
  unfold room
  split
  · rw [getD_snoc, getD_pk']; simp
  · rw [getD_pk']
theorem room_set (L : List Int) (b : Int) : (room L).set (L.length / 8) (byteAt L (L.length / 8) + b * 2 ^ (7 - L.length % 8)) = pk (L ++ [b]) := by
  unfold room
  split
  · rename_i h
    rw [pk_snoc_new L b h, byteAt_out L _ (by omega), h, List.set_append_right _ _ (by rw [pk_length]; omega), show L.length / 8 - (pk L).length = 0 by rw [pk_length]; omega]
    simp; omega
  · rename_i h
    rw [pk_snoc_old L b h, getD_pk']
theorem lit_C8 (X : World) (xs : List Int) (hm : xs.length ≤ 9223372036854775807) : Kd.C (Kd.int .u8) (X.alloc (.cells (nums .u8 xs).toArray 5)) (some ⟨X.heap.size, 0, none⟩) xs.length xs := by
  obtain ⟨A, c, e, _, hC⟩ := Kd.R_reads (Kd.R_of_own (ok := fun _ => True) (own_lit_of (enc := fun x => Value.int .u8 x) X X.heap.size 5 xs (Nat.le_refl _) hm) (fun _ _ => trivial))
  cases e
  exact hC

set_option maxHeartbeats 1000000 in
set_option maxRecDepth 100000 in
theorem add_any (S : Nat → Prop) (p : Nat) (L : List Int) (b : Int) (w : World) (hW : Wr w S p L) (hb : b = 0 ∨ b = 1) (hl : L.length ≤ 4194304) :
    Calls Try.prog 66 #[.pointer (some ⟨p, 0, none⟩), .int .i64 b] w fun e w' => e = .returned (.tuple #[]) ∧ WrTo w S p (L ++ [b]) w' := by
  obtain ⟨v, hblk, hR⟩ := hW.blk
  obtain ⟨A, cv, ev⟩ := Kd.R_slice hR
  subst ev
  have c0 : w.cell? ⟨p, 0, none⟩ = some (.slice A (pk L).length cv) := by rw [cell_of_row _ _ _ _ _ _ hblk]; rfl
  have c1 : w.cell? ⟨p, 1, none⟩ = some (.int .i64 (L.length : Int)) := by rw [cell_of_row _ _ _ _ _ _ hblk]; rfl
  have hne := Kd.R_ne hR hblk (by decide)
  have HR := Aside0.mk hR
  have HK := Aside0.mk hblk
  have HS := Aside0.mk hW.lt
  have h01 := hW.bits
  clear hR hblk hW
  go_enter Try.func66, Try.ntmps66
  go_upto_if 9 with fail
  go_cut [] (fun wx => ∃ A' c', Aside0 (wx.heap[p]? = some (.cells #[.slice A' (L.length / 8 + 1) c', .int .i64 (L.length : Int)] 80 (0, 0))) ∧ Aside0 (RB (fun k => S k ∨ w.heap.size ≤ k) wx (.slice A' (L.length / 8 + 1) c') (room L)) ∧ Aside0 (Fr (fun k => k = p ∨ S k) w wx))
  case first =>
    by_cases h8 : L.length % 8 = 0
    · have q1 : ((L.length : Int) % 8 == 0) = true := by simp; omega
      go_wp2_with (at_builtin; refine Kd.R_append_row (Value.int .u8) (0 : Int) (w0 := w) 0 rfl (.tmp 14) (.tmp 15) 27 5 (.int .u8 0) 1 rfl Try.underlying27 binfo rfl (by decide) (.slice A (pk L).length cv) (pk L) [0] _ _ _ (fun k => S k ∨ w.heap.size ≤ k) rfl rfl ?fresh (Kd.R_alloc (Kd.R_mono HR.out (fun _ hk => .inl hk)) _) (lit_C8 w [0] (by decide)) ?b0 (Nat.zero_le _) ?len ?_; (case fresh => intro k hk; simp at hk; omega); (case b0 => exact (Below.refl _ _).alloc (Nat.zero_le _) _); (case len => simp [pk_length]; omega); intro v1 w1 ho hb1 hg hat; obtain ⟨A1, k1, ev1⟩ := Kd.R_slice ho; subst ev1; have hg0 := (below_alloc (Below.refl w.heap.size w) (.cells (nums .u8 [0]).toArray 5)); have hbk := (hg.block p (by have := lt_of_block HK.out; simp; omega) hne).trans ((hg0.block p (lt_of_block HK.out)).trans HK.out); have d0 : w1.cell? ⟨p, 0, none⟩ = some (.slice A (pk L).length cv) := (by rw [cell_of_row _ _ _ _ _ _ hbk]; rfl); have df : w1.frozen? ⟨p, 0, none⟩ = false := blk_frozen hbk 0; have HO1 := Aside0.mk ho; have HG1 := Aside0.mk hg; have HG0 := Aside0.mk hg0; have HK1 := Aside0.mk hbk; have HAT := Aside0.mk hat; clear ho hg hbk hat hb1 hg0)
      go_meet
      have e1 : (pk L).length + 1 = L.length / 8 + 1 := by rw [pk_length]; omega
      have e2 : (pk L ++ [0]).length = L.length / 8 + 1 := by rw [List.length_append, ← e1]; rfl
      have hk1 := HK1.out
      have ho := HO1.out
      rw [e2] at ho
      rw [e1]
      refine ⟨A1, k1, ⟨blk_put hk1 0 _ rfl⟩, ⟨?_⟩, ⟨?_⟩⟩
      · unfold room
        rw [if_pos h8]
        exact Kd.R_set ho hk1 (by simp [Kd.scalar]) 0 _
      · refine (((Fr.below HG0.out _).grown HG1.out (fun k hk e => .inr (HR.out.1 k e)))).setCell (p := ⟨p, 0, none⟩) (fun _ => .inl rfl) _
    · have q1 : ((L.length : Int) % 8 == 0) = false := by simp; omega
      go_wp2_with fail
      go_meet
      have e1 : (pk L).length = L.length / 8 + 1 := by rw [pk_length]; omega
      have hk1 := HK.out
      have ho := HR.out
      rw [e1] at hk1 ho
      refine ⟨A, cv, ⟨hk1⟩, ⟨?_⟩, ⟨Fr.refl _ _⟩⟩
      unfold room
      rw [if_neg h8]
      exact Kd.R_mono ho (fun k hk => .inl hk)
  case rest =>
    obtain ⟨A1, k1, HK1, HR1, HF1⟩ := hcut
    obtain ⟨g, cg, e, _, hgl, _⟩ := Kd.R_form HR1.out (by rw [room_length]; omega)
    rw [room_length] at e
    cases e
    have HGS := Aside0.mk (HR1.out.1 g rfl)
    have hx := Kd.R_celln 0 HR1.out ((L.length : Int) / 8) (by omega) (by omega)
    have hxe : rdOf 0 (room L) ((L.length : Int) / 8) = byteAt L (L.length / 8) := by unfold rdOf; rw [show ((L.length : Int) / 8).toNat = L.length / 8 by omega]; exact room_getD L
    rw [hxe, show ((L.length : Int) / 8).toNat = L.length / 8 by omega] at hx
    have hx8 := byteAt_is8 h01 (L.length / 8)
    have hrest := byteAt_rest L
    have hset := room_set L b
    generalize hX : byteAt L (L.length / 8) = x at *
    obtain ⟨m, hm⟩ : ∃ m, m = L.length % 8 := ⟨_, rfl⟩
    obtain ⟨q, hq⟩ : ∃ q, q = L.length / 8 := ⟨_, rfl⟩
    rw [← hq] at HK1 HR1 hset hx
    rw [← hm] at hset hrest
    have hm8 : m < 8 := by omega
    have hlq : L.length = 8 * q + m := by omega
    obtain ⟨hx1, hx2⟩ := hx
    have HSet := Aside0.mk hset
    have HRest := Aside0.mk hrest
    have HLQ := Aside0.mk hlq
    clear hxe hX c0 c1 hm hset hrest
    have c0 : wc.cell? ⟨p, 0, none⟩ = some (.slice (some ⟨g, 0, none⟩) (q + 1) k1) := by rw [cell_of_row _ _ _ _ _ _ HK1.out]; rfl
    have c1 : wc.cell? ⟨p, 1, none⟩ = some (.int .i64 (L.length : Int)) := by rw [cell_of_row _ _ _ _ _ _ HK1.out]; rfl
    have fp := blk_frozen HK1.out 1
    have i1 : (0 : Int) ≤ (q : Int) := by omega
    have i2 : (q : Int) < (q : Int) + 1 := by omega
    have w1' : IntKind.i64.wrap ((L.length : Int) / 8) = (q : Int) := by rw [IntWalk.i64_in _ (by omega)]; omega
    have w2' : (L.length : Int).tmod 8 = (m : Int) := by rw [Int.tmod_eq_emod_of_nonneg (by omega)]; omega
    have i3 : (0 : Int) ≤ 7 - (m : Int) := by omega
    have w3' : IntKind.i64.wrap (7 - (m : Int)) = 7 - (m : Int) := IntWalk.i64_in _ (by omega)
    clear hlq hq
    go_wp2_with fail
    refine wp_still 22 (by kernel_rfl) (by kernel_rfl) ?_
    simp only [List.take_succ_cons, List.take_zero, List.drop_succ_cons, List.drop_zero]
    repeat still_step
    repeat still_step
    refine wpStill_nil ?_
    show wpList _ _ _ _ _ _
    clear w1' w2' w3'
    have hgp : g ≠ p := by rintro rfl; exact Kd.R_ne HR1.out HK1.out (by decide) rfl
    have hpg : p ≠ g := fun e => hgp e.symm
    go_wp2_with fail
    go_end0
    refine ⟨rfl, ?_⟩
    have hV := or_byte x b m hx8 hb hm8 HRest.out
    have hset := HSet.out
    rw [hV]
    generalize x + b * 2 ^ (7 - m) = V at *
    have hr1 := Kd.R_putn HR1.out (q : Int) V
    rw [Int.toNat_natCast, hset] at hr1
    have hk1 : (wc.setCell ⟨g, q, none⟩ (.int .u8 V)).heap[p]? = some (.cells #[.slice (some ⟨g, 0, none⟩) (q + 1) k1, .int .i64 (L.length : Int)] 80 (0, 0)) := blk_far HK1.out hpg _
    have hk2 : ((wc.setCell ⟨g, q, none⟩ (.int .u8 V)).setCell ⟨p, 1, none⟩ (.int .i64 ((L.length : Int) + 1))).heap[p]? = some (.cells #[.slice (some ⟨g, 0, none⟩) (q + 1) k1, .int .i64 ((L.length : Int) + 1)] 80 (0, 0)) := blk_put hk1 1 _ rfl
    have hr2 : RB (fun k => S k ∨ w.heap.size ≤ k) ((wc.setCell ⟨g, q, none⟩ (.int .u8 V)).setCell ⟨p, 1, none⟩ (.int .i64 ((L.length : Int) + 1))) (.slice (some ⟨g, 0, none⟩) (q + 1) k1) (pk (L ++ [b])) := Kd.R_set hr1 hk1 (by simp [Kd.int, Kd.scalar]) 1 _
    refine ⟨fun k => (S k ∨ w.heap.size ≤ k) ∧ ∃ cells, ((wc.setCell ⟨g, q, none⟩ (.int .u8 V)).setCell ⟨p, 1, none⟩ (.int .i64 ((L.length : Int) + 1))).heap[k]? = some (.cells cells 5 (0, 0)), ⟨⟨.slice (some ⟨g, 0, none⟩) (q + 1) k1, ?_, ?_⟩, is01_snoc h01 hb, fun k hk => hk.2⟩, fun k hk => hk.1, ?_⟩
    · rw [show (((L ++ [b]).length : Nat) : Int) = (L.length : Int) + 1 by simp]
      exact hk2
    · exact Kd.R_mono (Kd.R_bound hr2) (fun k hk => ⟨hk.1, by
        obtain ⟨q, hq, cells, hc⟩ := hk.2.2.2
        obtain rfl : q = 5 := by simpa [Kd.int, Kd.scalar] using hq
        exact ⟨cells, hc⟩⟩)
    · refine (((HF1.out).setCell (p := ⟨g, q, none⟩) (fun h => ?_) _).setCell (p := ⟨p, 1, none⟩) (fun _ => .inl rfl) _).drew
      rcases HGS.out with h1 | h1
      · exact .inr h1
      · have : g < w.heap.size := h
        omega
end Go.Proofs.Ytnpheeendbchbaa.P
end
section
namespace Go.Proofs.Ytnpheeendbchbaa.P
open Go.RowKit Go.Shelf Go.Proofs.Ytnpheeendbchbaa.Bits Go.Proofs.YtnpheeendbchbaaW.PrintWords Go.Proofs.YtnpheeendbchbaaW.PrintLast Go.Proofs.YtnpheeendbchbaaW.PrintMore
set_option linter.unusedVariables false
set_option linter.unusedSimpArgs false
attribute [local go_sem] Oper.semAt_some

theorem grown_drew (W : World) : W.grownBy W.drew none := ⟨rfl, rfl, rfl, Nat.le_refl _, fun _ _ _ => rfl⟩
theorem numb_take (v : Int) (n k : Nat) (h : k < n) : (numb v n).take (k + 1) = (numb v n).take k ++ [v / 2 ^ (n - 1 - k) % 2] := by
  rw [List.take_add_one]
  simp [numb, h]

/-- A bit, as a type. -/
abbrev Bit : Type := { x : Int // x = 0 ∨ x = 1 }
def numbB (v : Int) (n : Nat) : List Bit := (List.range n).map fun i => ⟨v / 2 ^ (n - 1 - i) % 2, by omega⟩
theorem numbB_val (v : Int) (n : Nat) : (numbB v n).map (·.1) = numb v n := by simp [numbB, numb, Function.comp_def]
theorem numbB_length (v : Int) (n : Nat) : (numbB v n).length = n := by simp [numbB]
theorem numbB_take (v : Int) (n k : Nat) (h : k < n) : (numbB v n).take (k + 1) = (numbB v n).take k ++ [⟨v / 2 ^ (n - 1 - k) % 2, by omega⟩] := by
  rw [List.take_add_one]
  simp [numbB, h]
theorem div_zero_of_lt (v : Int) (j : Nat) (h : 0 ≤ v) (hv : v < 2 ^ j) : v / 2 ^ j = 0 := Int.ediv_eq_zero_of_lt h hv
theorem and_shift (v : Int) (j : Nat) (h0 : 0 ≤ v) (h1 : v ≤ 9223372036854775807) : Go.bits BinOp.and IntKind.i64 (v / 2 ^ min j 64) 1 = v / 2 ^ j % 2 := by
  have e : v / 2 ^ min j 64 = v / 2 ^ j := by
    by_cases hj : j ≤ 64
    · rw [Nat.min_eq_left hj]
    · have hp : (2 : Int) ^ 64 ≤ 2 ^ j := by
        have := Nat.pow_le_pow_right (show 0 < 2 by omega) (show 64 ≤ j by omega)
        exact_mod_cast this
      rw [Nat.min_eq_right (by omega), div_zero_of_lt v 64 h0 (by omega), div_zero_of_lt v j h0 (by omega)]
  have h2 := Int.ediv_nonneg h0 (Int.le_of_lt (Int.pow_pos (show (0 : Int) < 2 by omega)) : (0 : Int) ≤ 2 ^ j)
  have h3 := Int.ediv_le_self (2 ^ j) h0
  rw [e, and1_i64 _ (by omega)]
set_option maxHeartbeats 1000000 in
set_option maxRecDepth 100000 in
theorem number_stops (m bn bv n : Nat) (v : Int) (T : Nat → Prop) (w : World) (hbn : w.cell? ⟨bn, 0, none⟩ = some (.int .i64 n)) (hbv : w.cell? ⟨bv, 0, none⟩ = some (.int .i64 v))
    (hTn : ¬ T bn) (hTv : ¬ T bv) (hn : n ≤ 100000) (hv : 0 ≤ v) (hv' : v ≤ 9223372036854775807) :
    SeqStopsK Fence.wide m Try.prog 102 #[.pointer (some ⟨bn, 0, none⟩), .pointer (some ⟨bv, 0, none⟩)] (fun x : Bit => #[Value.int .i64 x.1]) (Fr T) (fun xs => xs = numbB v n) (fun _ => True) n w := by
  intro l J Jx W hW hJ hJx hY h0
  have lbn := World.block_lt_of_cell? w _ hbn
  have lbv := World.block_lt_of_cell? w _ hbv
  have hbnW : W.cell? ⟨bn, 0, none⟩ = some (.int .i64 n) := (hW.cell (p := ⟨bn, 0, none⟩) lbn).trans hbn
  have hbvW : W.cell? ⟨bv, 0, none⟩ = some (.int .i64 v) := (hW.cell (p := ⟨bv, 0, none⟩) lbv).trans hbv
  have lbnW := World.block_lt_of_cell? W _ hbnW
  have lbvW := World.block_lt_of_cell? W _ hbvW
  refine callsIn_of_wp Try.func102 rfl trivial ?_ rfl
  simp only [Try.ntmps102, List.size_toArray, List.length_cons, List.length_nil, Nat.reduceAdd, Nat.reduceSub, Array.replicate_succ, Array.replicate_zero, List.push_toArray, List.append_toArray, List.nil_append, List.cons_append]
  gi_wp2
  gi_loopw [4] (fun u wr => ∃ k : Nat, u = .int .i64 ((n : Int) - 1 - k) ∧ k ≤ n ∧ Aside0 (J ((numbB v n).take k) wr) ∧ Aside0 (Fr T W wr)) (fun u _ => (intOf u + 1).toNat)
  case atStart => exact ⟨0, by simp, Nat.zero_le _, ⟨by simpa using h0⟩, ⟨Fr.refl _ _⟩⟩
  case round =>
    obtain ⟨k, rfl, hk, HJ, HF⟩ := hrel
    have hb1 : wr.cell? ⟨bv, 0, none⟩ = some (.int .i64 v) := (World.cell?_of_block (HF.out.block bv lbvW hTv)).trans hbvW
    by_cases hlt : k < n
    · have i0 : (0 : Int) ≤ (n : Int) - 1 - k := by omega
      have hx := and_shift v (n - 1 - k) hv hv'
      have hnt := numbB_take v n k hlt
      obtain ⟨xb, hxb, hxe⟩ : ∃ xb : Bit, xb.1 = Go.bits BinOp.and IntKind.i64 (v / 2 ^ min (n - 1 - k) 64) 1 ∧ xb = ⟨v / 2 ^ (n - 1 - k) % 2, by omega⟩ := ⟨⟨v / 2 ^ (n - 1 - k) % 2, by omega⟩, hx.symm, rfl⟩
      rw [← hxe] at hnt
      obtain ⟨fn, tmps, assign, body, hy, hR⟩ := hY _ xb wr HJ.out (by rw [List.length_take, numbB_length]; omega)
      rw [hxb] at hy
      have HRR := Aside0.mk hR
      have HNT := Aside0.mk hnt
      clear hx hnt hR hxb hxe
      gi_wp2
      refine ⟨fun h => by simp [Fence.wide] at h, ?_⟩
      refine HRR.out.mono ?_
      rintro e W' (⟨rfl, hJ', hk'⟩ | ⟨rfl, hJx'⟩)
      · have HJ' := Aside0.mk hJ'
        have HK' := Aside0.mk hk'
        clear hJ' hk'
        gi_wp2
        go_roundw
        case rel => exact ⟨k + 1, by go_num, by omega, ⟨by rw [HNT.out]; exact HJ'.out⟩, ⟨HF.out.trans HK'.out⟩⟩
        case measure => simp [intOf]; omega
      · gi_wp2
        refine bodyPost_ret (results_none rfl _ _ _) rfl ?_
        exact ⟨⟨_, rfl⟩, .inr ⟨_, trivial, hJx'⟩⟩
    · have hk1 : k = n := by omega
      have HE : Aside0 ((numbB v n).take k = numbB v n) := ⟨by rw [List.take_of_length_le]; rw [numbB_length]; omega⟩
      have hlx : ¬ (0 : Int) ≤ (n : Int) - 1 - k := by omega
      clear hk1
      gi_wp2
      go_end0
      exact ⟨⟨_, rfl⟩, .inl (by have := HJ.out; rw [HE.out] at this; first | exact this | exact ⟨_, rfl, this⟩)⟩

/-- What a round may turn are cells. -/
theorem Fr.keepsFrom {T : Nat → Prop} {a b : World} {B : Nat} (h : Fr T a b) (hc : ∀ k, T k → ∀ o, a.heap[k]? = some o → o.isCells = true) : KeepsFrom B a b :=
  ⟨h.size, fun i o _ hi ho => by
    rw [h.block i (lt_of_block hi) (fun ht => by have := hc i ht o hi; rw [ho] at this; cases this)]
    exact hi⟩

set_option maxHeartbeats 1000000 in
set_option maxRecDepth 100000 in
theorem each_any (df : Nat) (rcv lb : Array Value) (eg : ∀ args w, (callFunc df args).run Try.prog w = .ok (.enter df args) w) (bn bv n : Nat) (v : Int) (T : Nat → Prop) (J : List Int → World → Prop) (w : World)
    (hbn : w.cell? ⟨bn, 0, none⟩ = some (.int .i64 n)) (hbv : w.cell? ⟨bv, 0, none⟩ = some (.int .i64 v)) (hTn : ¬ T bn) (hTv : ¬ T bv) (hT0 : ¬ T w.heap.size) (hTN : ∀ k, w.heap.size < k → T k)
    (hn : n ≤ 100000) (hv : 0 ≤ v) (hv' : v ≤ 9223372036854775807) (hJ : OwnFrom (w.heap.size + 1) J) (h0 : J [] (w.alloc (.cells #[.func (.func df) rcv lb] 81)))
    (hdo : ∀ pre b W, (b = 0 ∨ b = 1) → J pre W → pre.length < n → Fr T (w.alloc (.cells #[.func (.func df) rcv lb] 81)) W → Calls Try.prog df (rcv ++ #[.int .i64 b] ++ lb) W fun e W' => (∃ u, e = .returned u) ∧ J (pre ++ [b]) W' ∧ Fr T W W' ∧ KeepsFrom (w.heap.size + 1) W W') :
    Calls Try.prog 100 #[.func (.func 102) #[] #[.pointer (some ⟨bn, 0, none⟩), .pointer (some ⟨bv, 0, none⟩)], .func (.func df) rcv lb] w fun e w' => e = .returned (.tuple #[]) ∧ J (numb v n) w' ∧ Fr T (w.alloc (.cells #[.func (.func df) rcv lb] 81)) w' := by
  have hst := number_stops 4 bn bv n v T w hbn hbv hTn hTv hn hv hv'
  have HST := Aside0.mk hst
  have HDO := Aside0.mk hdo
  have H0 := Aside0.mk h0
  have HOF := Aside0.mk hJ
  have HTN := Aside0.mk hTN
  clear hst hbn hbv hdo h0 hJ hTN
  refine (callsIn_wide (n := 5)).1 ?_
  refine callsIn_of_wp_marks Try.func100 rfl trivial ?_ rfl
  simp only [Try.ntmps100, List.size_toArray, List.length_cons, List.length_nil, Nat.reduceAdd, Nat.reduceSub, Array.replicate_succ, Array.replicate_zero, List.push_toArray, List.append_toArray, List.nil_append, List.cons_append]
  gi_wp2
  have hsz : (w.alloc (.cells #[.func (.func df) rcv lb] 81)).heap.size = w.heap.size + 1 := Array.size_push _
  have HSZ := Aside0.mk hsz
  clear hsz
  generalize hw1 : w.alloc (.cells #[.func (.func df) rcv lb] 81) = w1 at *
  have HBX : Aside0 (w1.heap[w.heap.size]? = some (.cells #[.func (.func df) rcv lb] 81 (0, 0))) := ⟨by rw [← hw1]; exact World.alloc_heap_new w _⟩
  have HB1 : Aside0 (Below w.heap.size w w1) := ⟨by rw [← hw1]; exact below_alloc (Below.refl _ _) _⟩
  have HW1 := Aside0.mk hw1
  clear hw1
  refine wpIn_rangeFunc_ownG rfl (by omega) (gf := 102) (lb := #[.pointer (some ⟨bn, 0, none⟩), .pointer (some ⟨bv, 0, none⟩)]) rfl trivial (enters_of Try.func102 (by kernel_rfl) rfl)
    HST.out (fun h k => h.trans k) ?hKb HB1.out (fun _ => rfl)
    (fun pre W => J (pre.map (·.1)) W ∧ Fr T w1 W ∧ W.heap[w.heap.size]? = some (.cells #[.func (.func df) rcv lb] 81 (0, 0)))
    (fun _ _ _ => False) ?hI (fun _ _ _ _ _ hs _ _ => hs) ⟨H0.out, Fr.refl _ _, HBX.out⟩
    (fun v => { tmps := #[.func (.func 102) #[] #[.pointer (some ⟨bn, 0, none⟩), .pointer (some ⟨bv, 0, none⟩)], .func (.func df) rcv lb, undef, .pointer (some ⟨w.heap.size, 0, none⟩), .int .i64 v.1, .func (.func 102) #[] #[.pointer (some ⟨bn, 0, none⟩), .pointer (some ⟨bv, 0, none⟩)], .int .i64 v.1, undef, undef, undef], defers := [] })
    ?assign ?body ?done ?stop
  case hKb =>
    intro W l o o' hl ho _ _
    exact (Fr.refl _ _).grown (grownBy_putObj' W l o') (fun k hk e => by cases e; exact HTN.out l (by have := HSZ.out; omega))
  case hI =>
    intro s A B row hs hg hr
    have hgt : ∀ k, row = some k → w.heap.size < k := fun k e => by have := (hr k e).1; have := HSZ.out; omega
    refine ⟨HOF.out _ _ _ _ hs.1 hg (fun k e => ⟨by have := hgt k e; omega, (hr k e).2⟩), hs.2.1.grown hg (fun k _ e => HTN.out k (hgt k e)), ?_⟩
    exact (hg.block _ (lt_of_block hs.2.2) (fun e => by have := hgt _ e.symm; omega)).trans hs.2.2
  case assign =>
    intro l v W K hK
    gi_wp2
    exact hK
  case body =>
    rintro l pre v W ⟨hJ, hF, hbx⟩ hlen
    have hc := cell_of_one hbx
    have HD := Aside0.mk (HDO.out (pre.map (·.1)) v.1 W v.2 hJ (by simpa using hlen) hF)
    have HF := Aside0.mk hF
    have HX := Aside0.mk hbx
    clear hF hbx hJ
    gi_wp2
    refine ⟨trivial, ?_⟩
    have hcall := callsIn_wide (n := 2).2 HD.out
    simp only [Array.append_singleton] at hcall
    refine CallsIn.mono (show CallsIn (Fence.wide.inRound l) 2 Try.prog df _ W _ from hcall) ?_
    rintro e W' ⟨⟨u, rfl⟩, hJ', hF', hK'⟩
    have hbx' := blk_fr HX.out hF' hT0
    gi_wp2
    refine ⟨?_, hF', ?_, HF.out.trans hF', hbx'⟩
    · rw [HSZ.out]; exact hK'
    · rw [List.map_append]; exact hJ'
  case done =>
    rintro D ys W hD rfl ⟨hJ, hF, hbx⟩ hK
    rw [numbB_val] at hJ
    have HJ := Aside0.mk hJ
    have HF := Aside0.mk hF
    clear hJ hF hbx
    gi_wp2
    refine ⟨by simp, .inl ⟨_, _, rfl, run_takeDeferred hK, ?_⟩⟩
    refine ⟨_, results_none rfl _ _ _, rfl, HOF.out.putObj _ HJ.out (by have := HSZ.out; omega) hK rfl, ?_⟩
    rw [HW1.out]
    exact HF.out.grown (grownBy_putObj' W D _) (fun k _ e => by cases e; exact HTN.out D (by have := HSZ.out; omega))
  case stop =>
    rintro D c pre W _ _ h _
    exact h.elim
end Go.Proofs.Ytnpheeendbchbaa.P
end
section
namespace Go.Proofs.Ytnpheeendbchbaa.P
open Go.RowKit Go.Shelf Go.Proofs.Ytnpheeendbchbaa.Bits Go.Proofs.YtnpheeendbchbaaW.PrintWords Go.Proofs.YtnpheeendbchbaaW.PrintLast Go.Proofs.YtnpheeendbchbaaW.PrintMore
set_option linter.unusedVariables false
set_option linter.unusedSimpArgs false
attribute [local go_sem ↓] Go.wp_at_zero Go.wp_at_succ

abbrev intBox (x : Int) : Obj := .cells #[.int .i64 x] 3 (0, 0)
/-- The iterator that bits.number gives. -/
abbrev seqOf (bn bv : Nat) : Value := .func (.func 102) #[] #[.pointer (some ⟨bn, 0, none⟩), .pointer (some ⟨bv, 0, none⟩)]
theorem number_any (v n : Int) (w : World) :
    Calls Try.prog 101 #[.int .i64 v, .int .i64 n] w fun e w' => e = .returned (seqOf (w.heap.size + 1) w.heap.size) ∧ w' = (w.alloc (intBox v)).alloc (intBox n) := by
  go_enter Try.func101, Try.ntmps101
  go_wp2
  go_ret
  simp

/-- A step of book-keeping. -/
theorem WrTo.own {w W W' : World} {S : Nat → Prop} {p : Nat} {L : List Int} {row : Option Nat} (h : WrTo w S p L W) (hp : p < w.heap.size) (hg : W.grownBy W' row) (hr : ∀ r, row = some r → w.heap.size ≤ r ∧ ∃ o : Obj, W.heap[r]? = some o ∧ o.isCells = false) : WrTo w S p L W' := by
  obtain ⟨S1, h1, hs1, f1⟩ := h
  have hF : Fr (fun k => row = some k) W W' := (Fr.refl _ _).grown hg (fun k _ e => e)
  refine ⟨S1, h1.fr hF (fun e => ?_) (fun k hk e => ?_), hs1, f1.next hF (fun k hk e => by have := (hr k e).1; omega)⟩
  · have := (hr p e).1; omega
  · obtain ⟨_, o, ho, hc⟩ := hr k e
    obtain ⟨cells, hcs⟩ := h1.typed k hk
    rw [ho] at hcs
    cases hcs
    cases hc

theorem each_add (S : Nat → Prop) (p bn bv n : Nat) (v : Int) (L : List Int) (w : World) (hW : Wr w S p L) (hbn : w.heap[bn]? = some (intBox n)) (hbv : w.heap[bv]? = some (intBox v))
    (hn : n ≤ 100000) (hv : 0 ≤ v) (hv' : v ≤ 9223372036854775807) (hL : L.length + n ≤ 4194304) :
    Calls Try.prog 100 #[seqOf bn bv, .func (.func 66) #[.pointer (some ⟨p, 0, none⟩)] #[]] w fun e w' => e = .returned (.tuple #[]) ∧ WrTo w S p (L ++ numb v n) w' := by
  have hb1 : Below w.heap.size w (w.alloc (.cells #[.func (.func 66) #[.pointer (some ⟨p, 0, none⟩)] #[]] 81)) := below_alloc (Below.refl _ _) _
  have hs1 : (w.alloc (.cells #[.func (.func 66) #[.pointer (some ⟨p, 0, none⟩)] #[]] 81)).heap.size = w.heap.size + 1 := Array.size_push _
  have hp := hW.p_lt
  have hne : ∀ b x, w.heap[b]? = some (intBox x) → ¬ (b = p ∨ S b ∨ w.heap.size < b) := by
    rintro b x hb (rfl | h | h)
    · obtain ⟨v, hk, _⟩ := hW.blk
      rw [hb] at hk; cases hk
    · obtain ⟨cells, hk⟩ := hW.typed b h
      rw [hb] at hk; cases hk
    · have := lt_of_block hb; omega
  refine (each_any 66 #[.pointer (some ⟨p, 0, none⟩)] #[] (enters_of Try.func66 (by kernel_rfl) rfl) bn bv n v (fun k => k = p ∨ S k ∨ w.heap.size < k)
    (fun pre W => WrTo (w.alloc (.cells #[.func (.func 66) #[.pointer (some ⟨p, 0, none⟩)] #[]] 81)) S p (L ++ pre) W) w (cell_of_one hbn) (cell_of_one hbv) (hne _ _ hbn) (hne _ _ hbv) ?_ ?_ hn hv hv' ?_ ?_ ?_).mono ?_
  · rintro (h | h | h)
    · omega
    · have := hW.lt _ h; omega
    · omega
  · exact fun k hk => .inr (.inr hk)
  · intro s W W' row h hg hr
    exact h.own (by omega) hg (fun r e => ⟨by have := (hr r e).1; omega, (hr r e).2⟩)
  · rw [List.append_nil]
    exact (hW.fr (Fr.below hb1 (fun _ => False)) (fun h => h) (fun _ _ h => h)).to (Fr.refl (fun _ => False) _) (fun h => h) (fun _ _ h => h) (fun _ _ h => h.elim)
  · intro pre b W hb hJ hlen hF
    obtain ⟨S1, h1, hs, f1⟩ := hJ
    refine (add_any S1 p (L ++ pre) b W h1 hb (by rw [List.length_append]; omega)).mono ?_
    rintro e W' ⟨rfl, h2⟩
    rw [List.append_assoc] at h2
    have h3 : WrTo (w.alloc (.cells #[.func (.func 66) #[.pointer (some ⟨p, 0, none⟩)] #[]] 81)) S p (L ++ (pre ++ [b])) W' := by
      obtain ⟨S2, k2, hs2, f2⟩ := h2
      refine ⟨S2, k2, fun i hi => ?_, f1.next f2 (fun i hi hT => ?_)⟩
      · rcases hs2 i hi with q | q
        · exact hs i q
        · exact .inr (Nat.le_trans f1.size q)
      · rcases hT with q | q
        · exact .inl q
        · rcases hs i q with q | q
          · exact .inr q
          · omega
    obtain ⟨S2, k2, hs2, f2⟩ := h2
    refine ⟨⟨_, rfl⟩, h3, f2.mono (fun k _ hk => ?_), f2.keepsFrom (fun k hk o ho => ?_)⟩
    · rcases hk with q | q
      · exact .inl q
      · rcases hs k q with q | q
        · exact .inr (.inl q)
        · exact .inr (.inr (by omega))
    · rcases hk with rfl | q
      · obtain ⟨v, hk, _⟩ := h1.blk
        rw [ho] at hk; cases hk; rfl
      · obtain ⟨cells, hk⟩ := h1.typed k q
        rw [ho] at hk; cases hk; rfl
  · rintro e w' ⟨rfl, ⟨S1, h1, hs, f1⟩, _⟩
    refine ⟨rfl, S1, h1, fun k hk => ?_, (Fr.below hb1 _).trans f1⟩
    rcases hs k hk with q | q
    · exact .inl q
    · exact .inr (by omega)
end Go.Proofs.Ytnpheeendbchbaa.P
end
section
namespace Go.Proofs.Ytnpheeendbchbaa.P
open Go.RowKit Go.Shelf Go.Proofs.Ytnpheeendbchbaa.Bits Go.Proofs.YtnpheeendbchbaaW.PrintWords Go.Proofs.YtnpheeendbchbaaW.PrintLast Go.Proofs.YtnpheeendbchbaaW.PrintMore
set_option linter.unusedVariables false
set_option linter.unusedSimpArgs false
attribute [local go_sem ↓] Go.wp_at_zero Go.wp_at_succ

/-- Numbers and their widths, as fields in memory. -/
def fldCells (fs : List (Int × Nat)) : Array Value := (fs.flatMap fun f => [Value.int .i64 f.1, .int .i64 (f.2 : Int)]).toArray
def Flds (w : World) (b : Nat) (fs : List (Int × Nat)) : Prop := w.heap[b]? = some (.cells (fldCells fs) 101 (0, 0))
def fldBits (fs : List (Int × Nat)) : List Int := fs.flatMap fun f => numb f.1 f.2
def widths (fs : List (Int × Nat)) : Nat := (fs.map (·.2)).sum
theorem fldBits_length (fs : List (Int × Nat)) : (fldBits fs).length = widths fs := by
  induction fs with
  | nil => rfl
  | cons f fs ih => simp only [fldBits, widths, List.flatMap_cons, List.length_append, numb_length, List.map_cons, List.sum_cons] at ih ⊢; rw [ih]
theorem fldCells_get (fs : List (Int × Nat)) (i : Nat) (h : i < fs.length) : (fldCells fs)[2 * i]? = some (.int .i64 fs[i].1) ∧ (fldCells fs)[2 * i + 1]? = some (.int .i64 (fs[i].2 : Int)) := by
  unfold fldCells
  rw [List.getElem?_toArray, List.getElem?_toArray]
  induction fs generalizing i with
  | nil => simp at h
  | cons f fs ih =>
    cases i with
    | zero => simp
    | succ i =>
      have := ih i (by simpa using h)
      rw [List.flatMap_cons, show 2 * (i + 1) = (2 * i) + 1 + 1 by omega]
      simpa using this
theorem widths_take (fs : List (Int × Nat)) (i : Nat) (h : i < fs.length) : widths (fs.take (i + 1)) = widths (fs.take i) + fs[i].2 := by
  unfold widths
  rw [List.take_succ_eq_append_getElem h, List.map_append, List.sum_append]
  simp
theorem fldBits_take (fs : List (Int × Nat)) (i : Nat) (h : i < fs.length) : fldBits (fs.take (i + 1)) = fldBits (fs.take i) ++ numb fs[i].1 fs[i].2 := by
  unfold fldBits
  rw [List.take_succ_eq_append_getElem h, List.flatMap_append]
  simp
theorem widths_take_le (fs : List (Int × Nat)) (i : Nat) : widths (fs.take i) ≤ widths fs := by
  unfold widths
  have := List.sum_append (l₁ := (fs.take i).map (·.2)) (l₂ := (fs.drop i).map (·.2))
  rw [← List.map_append, List.take_append_drop] at this
  omega

/-- What a writer with the bits L has when bits have been added, and what is said. -/
def putE (L M : List Int) : Int := if 1048576 < L.length + M.length then 2 else 0
def putL (L M : List Int) : List Int := if 1048576 < L.length + M.length then L else L ++ M

theorem WrTo.glue {w W1 W2 : World} {S S1 : Nat → Prop} {p : Nat} {L2 : List Int} (hs1 : ∀ k, S1 k → S k ∨ w.heap.size ≤ k) (f1 : Fr (fun k => k = p ∨ S k) w W1) (h2 : WrTo W1 S1 p L2 W2) : WrTo w S p L2 W2 := by
  obtain ⟨S2, k2, hs2, f2⟩ := h2
  refine ⟨S2, k2, fun i hi => ?_, f1.next f2 (fun i hi hT => ?_)⟩
  · rcases hs2 i hi with q | q
    · exact hs1 i q
    · exact .inr (Nat.le_trans f1.size q)
  · rcases hT with q | q
    · exact .inl q
    · rcases hs1 i q with q | q
      · exact .inr q
      · omega
theorem blk_alloc' {w : World} {k : Nat} {q : Obj} (h : w.heap[k]? = some q) (o : Obj) : (w.alloc o).heap[k]? = some q := (Below.heap_alloc w o k (lt_of_block h)).trans h
theorem Wr.below {w w' : World} {S : Nat → Prop} {p : Nat} {L : List Int} (h : Wr w S p L) (hb : Below w.heap.size w w') : Wr w' S p L := h.fr (Fr.below hb (fun _ => False)) (fun h => h) (fun _ _ h => h)
theorem Wr.wrTo {w w' : World} {S : Nat → Prop} {p : Nat} {L : List Int} (h : Wr w S p L) (hb : Below w.heap.size w w') : WrTo w S p L w' := h.to (Fr.below hb (fun _ => False)) (fun h => h) (fun _ _ h => h) (fun _ _ h => h.elim)
theorem WrTo.flds {w W : World} {S : Nat → Prop} {p b : Nat} {L L0 : List Int} {fs : List (Int × Nat)} (h : WrTo w S p L W) (h0 : Wr w S p L0) (hF : Flds w b fs) : Flds W b fs := by
  obtain ⟨S1, _, _, f1⟩ := h
  refine blk_fr hF f1 ?_
  rintro (rfl | q)
  · obtain ⟨v, hk, _⟩ := h0.blk
    unfold Flds at hF; exact absurd rfl (blk_ne hF hk (by decide))
  · obtain ⟨cells, hk⟩ := h0.typed b q
    unfold Flds at hF; exact absurd rfl (blk_ne hF hk (by decide))

set_option maxHeartbeats 2000000 in
set_option maxRecDepth 100000 in
theorem put_any (S : Nat → Prop) (p b : Nat) (fs : List (Int × Nat)) (L : List Int) (w : World) (hW : Wr w S p L) (hF : Flds w b fs) (hn : fs.length ≤ 1000) (hfs : ∀ f ∈ fs, 0 ≤ f.1 ∧ f.1 ≤ 9223372036854775807 ∧ f.2 ≤ 100000) (hL : L.length ≤ 1048576) (hws : widths fs ≤ 1000000) :
    Calls Try.prog 93 #[.pointer (some ⟨p, 0, none⟩), .slice (some ⟨b, 0, none⟩) fs.length fs.length] w fun e w' => e = .returned (.int .i64 (putE L (fldBits fs))) ∧ WrTo w S p (putL L (fldBits fs)) w' := by
  have hlen := fldBits_length fs
  have HE : Aside0 (putE L (fldBits fs) = if 1048576 < L.length + widths fs then 2 else 0) := ⟨by unfold putE; rw [hlen]⟩
  have HL : Aside0 (putL L (fldBits fs) = if 1048576 < L.length + widths fs then L else L ++ fldBits fs) := ⟨by unfold putL; rw [hlen]⟩
  have HW := Aside0.mk hW
  have HF := Aside0.mk hF
  have HFS := Aside0.mk hfs
  have lb := lt_of_block hF
  clear hW hF hfs hlen
  go_enter Try.func93, Try.ntmps93
  go_wp2_with fail
  go_loopw [5, 12] (fun u i wr => ∃ k : Nat, k ≤ fs.length ∧ i = .int .i64 (k : Int) ∧ u = .int .i64 (widths (fs.take k) : Int) ∧ Aside0 (Below w.heap.size w wr)) (fun _ i _ => fs.length - (intOf i).toNat)
  case atStart => exact ⟨0, Nat.zero_le _, rfl, rfl, ⟨Below.refl _ _⟩⟩
  case round =>
    obtain ⟨k, hk, rfl, rfl, HB⟩ := hrel
    by_cases hlt : k < fs.length
    · have hc := fldCells_get fs k hlt
      have hFr := (HB.out.block b lb).trans HF.out
      have hc1 : wr.cell? ⟨b, k * 2, none⟩ = some (.int .i64 fs[k].1) := by rw [cell_of_row _ _ _ _ _ _ hFr, Nat.mul_comm]; exact hc.1
      have hc2 : wr.cell? ⟨b, k * 2 + 1, none⟩ = some (.int .i64 (fs[k].2 : Int)) := by rw [cell_of_row _ _ _ _ _ _ hFr, Nat.mul_comm]; exact hc.2
      have HWT := Aside0.mk (widths_take fs k hlt)
      have hw1 := widths_take_le fs (k + 1)
      have hw2 : widths (fs.take (k + 1)) = widths (fs.take k) + fs[k].2 := HWT.out
      have hw3 : (widths (fs.take k) : Int) + (fs[k].2 : Int) ≤ 1000000 := by omega
      clear hc hFr hw1 hw2
      go_wp2_with fail
      go_roundw
      case rel => exact ⟨k + 1, by omega, by go_num, by rw [HWT.out]; go_num, ⟨by (repeat (first | with_reducible exact Below.refl _ _ | (refine Aside0.out (p := Below _ _ _) ?_; assumption) | refine below_drew ?_ | refine below_alloc ?_ _ | (refine below_step ?_ (Aside0.out (p := Below _ _ _) (by assumption)))))⟩⟩
      case measure => simp [intOf]; omega
    · obtain rfl : k = fs.length := by omega
      rw [List.take_length]
      have hWr := HW.out.below HB.out
      obtain ⟨v, hblk, _⟩ := hWr.blk
      have c1 : wr.cell? ⟨p, 1, none⟩ = some (.int .i64 (L.length : Int)) := by rw [cell_of_row _ _ _ _ _ _ hblk]; rfl
      have HWr := Aside0.mk hWr
      clear hblk hWr
      by_cases ho : 1048576 < L.length + widths fs
      · have q1 : decide ((1048576 : Int) < (L.length : Int) + (widths fs : Int)) = true := by simp; omega
        go_wp2_with fail
        go_ret
        refine ⟨by rw [HE.out, if_pos ho]; rfl, ?_⟩
        rw [HL.out, if_pos ho]
        exact HW.out.wrTo HB.out
      · have q1 : decide ((1048576 : Int) < (L.length : Int) + (widths fs : Int)) = false := by simp; omega
        rw [if_neg ho] at HE HL
        go_wp2_with fail
        go_loopw [30] (fun i wr => ∃ k : Nat, k ≤ fs.length ∧ i = .int .i64 (k : Int) ∧ Aside0 (WrTo w S p (L ++ fldBits (fs.take k)) wr)) (fun i _ => fs.length - (intOf i).toNat)
        case atStart => exact ⟨0, Nat.zero_le _, rfl, ⟨by rw [List.take_zero]; show WrTo w S p (L ++ []) _; rw [List.append_nil]; exact HW.out.wrTo HB.out⟩⟩
        case round =>
          obtain ⟨k, hk, rfl, HT⟩ := hrel
          clear c1
          by_cases hlt : k < fs.length
          · have hc := fldCells_get fs k hlt
            have hFr := HT.out.flds HW.out HF.out
            unfold Flds at hFr
            have hc1 : wr.cell? ⟨b, k * 2, none⟩ = some (.int .i64 fs[k].1) := by rw [cell_of_row _ _ _ _ _ _ hFr, Nat.mul_comm]; exact hc.1
            have hc2 : wr.cell? ⟨b, k * 2 + 1, none⟩ = some (.int .i64 (fs[k].2 : Int)) := by rw [cell_of_row _ _ _ _ _ _ hFr, Nat.mul_comm]; exact hc.2
            have HBT := Aside0.mk (fldBits_take fs k hlt)
            have HWT := Aside0.mk (widths_take fs k hlt)
            have HW1 := Aside0.mk (widths_take_le fs (k + 1))
            have hfk := HFS.out fs[k] (List.getElem_mem hlt)
            obtain ⟨S1, h1, hs1, f1⟩ := HT.out
            have H1 := Aside0.mk h1
            have HS1 := Aside0.mk hs1
            have F1 := Aside0.mk f1
            clear hc hFr h1 hs1 f1
            go_wp2_with (first
              | (go_at_call 101; refine (number_any _ _ _).mono ?_; rintro e w1 ⟨rfl, rfl⟩)
              | (go_at_call 100; (refine (each_add S1 p _ _ fs[k].2 fs[k].1 (L ++ fldBits (fs.take k)) _ (H1.out.below (by (repeat (first | with_reducible exact Below.refl _ _ | (refine Aside0.out (p := Below _ _ _) ?_; assumption) | refine below_drew ?_ | refine below_alloc ?_ _ | (refine below_step ?_ (Aside0.out (p := Below _ _ _) (by assumption))))))) ?gn ?gv ?gw ?g0 ?g1 ?gl).mono ?_; (case gn => (have := World.alloc_heap_new ((wr.alloc (.cells #[.int .i64 fs[k].1, .int .i64 (fs[k].2 : Int)] 101)).alloc (intBox fs[k].1)) (intBox (fs[k].2 : Int)); simpa using this)); (case gv => (have h1 := World.alloc_heap_new (wr.alloc (.cells #[.int .i64 fs[k].1, .int .i64 (fs[k].2 : Int)] 101)) (intBox fs[k].1); have h2 := blk_alloc' h1 (intBox (fs[k].2 : Int)); simpa using h2)); (case gw => exact hfk.2.2); (case g0 => exact hfk.1); (case g1 => exact hfk.2.1); (case gl => (rw [List.length_append, fldBits_length]; have := widths_take_le fs k; omega)); rintro e w2 ⟨rfl, h2⟩; have H2 := Aside0.mk h2; clear h2)))
            go_roundw
            case rel =>
              refine ⟨k + 1, by omega, by go_num, ⟨?_⟩⟩
              have h2 := H2.out
              rw [List.append_assoc, ← HBT.out] at h2
              exact WrTo.glue HS1.out (F1.out.trans (Fr.below (by (repeat (first | with_reducible exact Below.refl _ _ | (refine Aside0.out (p := Below _ _ _) ?_; assumption) | refine below_drew ?_ | refine below_alloc ?_ _ | (refine below_step ?_ (Aside0.out (p := Below _ _ _) (by assumption)))))) _)) h2
            case measure => simp [intOf]; omega
          · obtain rfl : k = fs.length := by omega
            go_wp2_with fail
            go_ret
            refine ⟨by rw [HE.out]; rfl, ?_⟩
            rw [HL.out]
            have := HT.out
            rw [List.take_length] at this
            exact this
end Go.Proofs.Ytnpheeendbchbaa.P
end
section
namespace Go.Proofs.Ytnpheeendbchbaa.P
open Go.RowKit Go.Shelf Go.Proofs.Ytnpheeendbchbaa.Bits Go.Proofs.YtnpheeendbchbaaW.PrintWords Go.Proofs.YtnpheeendbchbaaW.PrintLast Go.Proofs.YtnpheeendbchbaaW.PrintMore
set_option linter.unusedVariables false
set_option linter.unusedSimpArgs false
attribute [local go_sem ↓] Go.wp_at_zero Go.wp_at_succ

def wput (L M : List Int) : Int × List Int := (putE L M, putL L M)
def wPut (L : List Int) (v n : Int) : Int × List Int := if n < 0 ∨ 32 < n ∨ v < 0 ∨ 2 ^ n.toNat ≤ v then (1, L) else wput L (numb v n.toNat)
theorem pow_le32 {m : Nat} (h : m ≤ 32) : (1 : Int) ≤ 2 ^ m ∧ (2 : Int) ^ m ≤ 4294967296 := by
  have h1 := Nat.pow_le_pow_right (show 0 < 2 by omega) h
  have h2 : 1 ≤ 2 ^ m := Nat.one_le_two_pow
  have e : ((2 ^ m : Nat) : Int) = (2 : Int) ^ m := Int.natCast_pow 2 m
  have e32 : (2 : Nat) ^ 32 = 4294967296 := rfl
  omega

theorem shl1 (m : Nat) (h : m ≤ 32) : wrap64 (2 ^ min m 64) = 2 ^ m := by
  have := pow_le32 h
  rw [Nat.min_eq_left (by omega), wrap64_id (by omega) (by omega)]
set_option maxHeartbeats 1000000 in
set_option maxRecDepth 100000 in
theorem Put_any (S : Nat → Prop) (p : Nat) (L : List Int) (v n : Int) (w : World) (hW : Wr w S p L) (hL : L.length ≤ 1048576) :
    Calls Try.prog 73 #[.pointer (some ⟨p, 0, none⟩), .int .i64 v, .int .i64 n] w fun e w' => e = .returned (.int .i64 (wPut L v n).1) ∧ WrTo w S p (wPut L v n).2 w' := by
  have HW := Aside0.mk hW
  have hp := hW.p_lt
  clear hW
  have no : n < 0 ∨ 32 < n ∨ v < 0 ∨ 2 ^ n.toNat ≤ v → Aside0 (wPut L v n = (1, L)) := fun h => ⟨by unfold wPut; rw [if_pos h]⟩
  by_cases h1 : n < 0
  · have HN := no (.inl h1)
    have d1 : decide (n < 0) = true := by simpa using h1
    clear no
    go_enter Try.func73, Try.ntmps73
    go_wp2_with fail
    go_ret
    rw [HN.out]
    exact ⟨rfl, HW.out.wrTo (Below.refl _ _)⟩
  by_cases h2 : 32 < n
  · have HN := no (.inr (.inl h2))
    have d1 : decide (n < 0) = false := by simpa using h1
    have d2 : decide (32 < n) = true := by simpa using h2
    clear no
    go_enter Try.func73, Try.ntmps73
    go_wp2_with fail
    go_ret
    rw [HN.out]
    exact ⟨rfl, HW.out.wrTo (Below.refl _ _)⟩
  by_cases h3 : v < 0
  · have HN := no (.inr (.inr (.inl h3)))
    have d1 : decide (n < 0) = false := by simpa using h1
    have d2 : decide (32 < n) = false := by simpa using h2
    have d3 : decide (v < 0) = true := by simpa using h3
    clear no
    go_enter Try.func73, Try.ntmps73
    go_wp2_with fail
    go_ret
    rw [HN.out]
    exact ⟨rfl, HW.out.wrTo (Below.refl _ _)⟩
  obtain ⟨m, rfl⟩ : ∃ m : Nat, n = m := ⟨n.toNat, by omega⟩
  have d1 : decide ((m : Int) < 0) = false := by simp
  have d2 : decide (32 < (m : Int)) = false := by simpa using h2
  have d3 : decide (v < 0) = false := by simpa using h3
  have hp2 := pow_le32 (m := m) (by omega)
  have hm : m ≤ 32 := by omega
  clear h1 h2
  have hs := shl1 m hm
  by_cases h4 : 2 ^ m ≤ v
  · have HN := no (.inr (.inr (.inr (by simpa using h4))))
    have d4 : decide (wrap64 (2 ^ min m 64) ≤ v) = true := by rw [hs]; simpa using h4
    clear no hs
    go_enter Try.func73, Try.ntmps73
    go_wp2_with fail
    go_ret
    rw [HN.out]
    exact ⟨rfl, HW.out.wrTo (Below.refl _ _)⟩
  · have HN : Aside0 (wPut L v m = wput L (fldBits [(v, m)])) := ⟨by unfold wPut; rw [if_neg (by simp only [Int.toNat_natCast]; omega)]; simp [fldBits]⟩
    have d4 : decide (wrap64 (2 ^ min m 64) ≤ v) = false := by rw [hs]; simpa using h4
    clear no hs
    go_enter Try.func73, Try.ntmps73
    go_wp2_with (go_at_call 93; (refine (put_any S p _ [(v, m)] L _ (HW.out.below (by (repeat (first | with_reducible exact Below.refl _ _ | (refine Aside0.out (p := Below _ _ _) ?_; assumption) | refine below_drew ?_ | refine below_alloc ?_ _ | (refine below_step ?_ (Aside0.out (p := Below _ _ _) (by assumption))))))) ?gF (by simp) ?gf hL ?gw).mono ?_; (case gF => exact World.alloc_heap_new w _); (case gf => (simp; omega)); (case gw => (simp [widths]; omega)); rintro e w2 ⟨rfl, h2⟩; have H2 := Aside0.mk h2; clear h2))
    go_ret
    rw [HN.out]
    exact ⟨rfl, WrTo.glue (fun k hk => .inl hk) (Fr.below (by (repeat (first | with_reducible exact Below.refl _ _ | (refine Aside0.out (p := Below _ _ _) ?_; assumption) | refine below_drew ?_ | refine below_alloc ?_ _ | (refine below_step ?_ (Aside0.out (p := Below _ _ _) (by assumption)))))) _) H2.out⟩
end Go.Proofs.Ytnpheeendbchbaa.P
end
section
namespace Go.Proofs.Ytnpheeendbchbaa.P
open Go.RowKit Go.Shelf Go.Proofs.Ytnpheeendbchbaa.Bits Go.Proofs.YtnpheeendbchbaaW.PrintWords Go.Proofs.YtnpheeendbchbaaW.PrintLast Go.Proofs.YtnpheeendbchbaaW.PrintMore
set_option linter.unusedVariables false
set_option linter.unusedSimpArgs false
attribute [local go_sem ↓] Go.wp_at_zero Go.wp_at_succ

def wUnary (L : List Int) (n : Int) : Int × List Int := if n < 0 ∨ 1000 < n then (1, L) else wput L (numb 0 n.toNat ++ numb 1 1)
def wSigned (L : List Int) (v n : Int) : Int × List Int := if n < 1 ∨ 32 < n ∨ v < -2 ^ (n.toNat - 1) ∨ 2 ^ (n.toNat - 1) ≤ v then (1, L) else wput L (numb (v % 2 ^ n.toNat) n.toNat)

theorem pow_le31 {m : Nat} (h : m ≤ 31) : (1 : Int) ≤ 2 ^ m ∧ (2 : Int) ^ m ≤ 2147483648 := by
  have h1 := Nat.pow_le_pow_right (show 0 < 2 by omega) h
  have h2 : 1 ≤ 2 ^ m := Nat.one_le_two_pow
  have e : ((2 ^ m : Nat) : Int) = (2 : Int) ^ m := Int.natCast_pow 2 m
  have e32 : (2 : Nat) ^ 31 = 2147483648 := rfl
  omega
set_option maxHeartbeats 1000000 in
set_option maxRecDepth 100000 in
theorem Unary_any (S : Nat → Prop) (p : Nat) (L : List Int) (n : Int) (w : World) (hW : Wr w S p L) (hL : L.length ≤ 1048576) :
    Calls Try.prog 91 #[.pointer (some ⟨p, 0, none⟩), .int .i64 n] w fun e w' => e = .returned (.int .i64 (wUnary L n).1) ∧ WrTo w S p (wUnary L n).2 w' := by
  have HW := Aside0.mk hW
  have hp := hW.p_lt
  clear hW
  have no : n < 0 ∨ 1000 < n → Aside0 (wUnary L n = (1, L)) := fun h => ⟨by unfold wUnary; rw [if_pos h]⟩
  by_cases h1 : n < 0
  · have HN := no (.inl h1)
    have d1 : decide (n < 0) = true := by simpa using h1
    clear no
    go_enter Try.func91, Try.ntmps91
    go_wp2_with fail
    go_ret
    rw [HN.out]
    exact ⟨rfl, HW.out.wrTo (Below.refl _ _)⟩
  by_cases h2 : 1000 < n
  · have HN := no (.inr h2)
    have d1 : decide (n < 0) = false := by simpa using h1
    have d2 : decide (1000 < n) = true := by simpa using h2
    clear no
    go_enter Try.func91, Try.ntmps91
    go_wp2_with fail
    go_ret
    rw [HN.out]
    exact ⟨rfl, HW.out.wrTo (Below.refl _ _)⟩
  obtain ⟨m, rfl⟩ : ∃ m : Nat, n = m := ⟨n.toNat, by omega⟩
  have d1 : decide ((m : Int) < 0) = false := by simp
  have d2 : decide (1000 < (m : Int)) = false := by simpa using h2
  have HN : Aside0 (wUnary L m = wput L (fldBits [(0, m), (1, 1)])) := ⟨by unfold wUnary; rw [if_neg (by omega)]; simp [fldBits]⟩
  have hm : m ≤ 1000 := by omega
  clear no h1 h2
  go_enter Try.func91, Try.ntmps91
  go_wp2_with (go_at_call 93; (refine (put_any S p _ [(0, m), (1, 1)] L _ (HW.out.below (by (repeat (first | with_reducible exact Below.refl _ _ | (refine Aside0.out (p := Below _ _ _) ?_; assumption) | refine below_drew ?_ | refine below_alloc ?_ _ | (refine below_step ?_ (Aside0.out (p := Below _ _ _) (by assumption))))))) ?gF (by simp) ?gf hL ?gw).mono ?_; (case gF => exact World.alloc_heap_new w _); (case gf => (simp; omega)); (case gw => (simp [widths]; omega)); rintro e w2 ⟨rfl, h2⟩; have H2 := Aside0.mk h2; clear h2))
  go_ret
  rw [HN.out]
  exact ⟨rfl, WrTo.glue (fun k hk => .inl hk) (Fr.below (by (repeat (first | with_reducible exact Below.refl _ _ | (refine Aside0.out (p := Below _ _ _) ?_; assumption) | refine below_drew ?_ | refine below_alloc ?_ _ | (refine below_step ?_ (Aside0.out (p := Below _ _ _) (by assumption)))))) _) H2.out⟩

end Go.Proofs.Ytnpheeendbchbaa.P
end
section
namespace Go.Proofs.Ytnpheeendbchbaa.P
open Go.RowKit Go.Shelf Go.Proofs.Ytnpheeendbchbaa.Bits Go.Proofs.YtnpheeendbchbaaW.PrintWords Go.Proofs.YtnpheeendbchbaaW.PrintLast Go.Proofs.YtnpheeendbchbaaW.PrintMore
set_option linter.unusedVariables false
set_option linter.unusedSimpArgs false
attribute [local go_sem ↓] Go.wp_at_zero Go.wp_at_succ

/-- The exponent of the greatest power of 2 that is not greater. -/
def lg (v : Int) : Nat := v.toNat.log2
theorem lg_of {v : Int} {k : Nat} (h1 : 2 ^ k ≤ v) (h2 : v < 2 ^ (k + 1)) : lg v = k := by
  unfold lg
  obtain ⟨x, rfl⟩ : ∃ x : Nat, v = x := ⟨v.toNat, by have : (0 : Int) < 2 ^ k := Int.pow_pos (by omega); omega⟩
  rw [Int.toNat_natCast]
  have e1 : ((2 ^ k : Nat) : Int) = (2 : Int) ^ k := Int.natCast_pow 2 k
  have e2 : ((2 ^ (k + 1) : Nat) : Int) = (2 : Int) ^ (k + 1) := Int.natCast_pow 2 (k + 1)
  have hx : x ≠ 0 := by have : 0 < 2 ^ k := Nat.pow_pos (by omega); omega
  have h3 := (Nat.log2_lt hx (k := k + 1)).2 (by omega)
  have h4 := (Nat.le_log2 hx (k := k)).2 (by omega)
  omega
def wGamma (L : List Int) (v : Int) : Int × List Int := if v < 1 ∨ 2097152 ≤ v then (1, L) else wput L (numb 0 (lg v) ++ numb v (lg v + 1))
theorem pow_le_of (k m : Nat) (h : k ≤ m) : (2 : Int) ^ k ≤ 2 ^ m := by
  have e1 : ((2 ^ k : Nat) : Int) = (2 : Int) ^ k := Int.natCast_pow 2 k
  have e2 : ((2 ^ m : Nat) : Int) = (2 : Int) ^ m := Int.natCast_pow 2 m
  have := Nat.pow_le_pow_right (show 0 < 2 by omega) h
  omega
theorem pow_step (k : Nat) : (2 : Int) ^ (k + 1) = 2 * 2 ^ k := by rw [Int.pow_succ, Int.mul_comm]

end Go.Proofs.Ytnpheeendbchbaa.P
end
