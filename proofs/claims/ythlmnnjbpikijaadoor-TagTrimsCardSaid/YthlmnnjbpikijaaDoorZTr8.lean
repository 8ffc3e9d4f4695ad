/- The writer: what is in memory; the contracts of bits.bit, bits.Writer.add. -/
import Derived.Test.YthlmnnjbpikijaaDoorProg
import Derived.Deep.DeepCutAuto
import Derived.IntWalk
import Derived.Deep.RegionHeld3
import Derived.Deep.DrawnRows
import Derived.Shelf.Abstract
import Derived.Shelf.RegionOpen
import Derived.LoopNIn
import Derived.LoopIn
import Derived.Test.YthlmnnjbpikijaaDoorZTr1
import Derived.Test.YthlmnnjbpikijaaDoorZTr3
import Derived.Test.YthlmnnjbpikijaaDoorZTr7
import Derived.Test.YthlmnnjbpikijaaDoorZTr4
namespace Go.Proofs.YthlmnnjbpikijaaDoor.P
open Go.RowKit Go.Shelf Go.Proofs.YthlmnnjbpikijaaDoor.Bits Go.Proofs.YthlmnnjbpikijaaDoorW.PrintWords Go.Proofs.YthlmnnjbpikijaaDoorW.PrintLast Go.Proofs.YthlmnnjbpikijaaDoorW.PrintMore
set_option linter.unusedVariables false
set_option linter.unusedSimpArgs false
attribute [local go_sem ↓] Go.wp_at_zero Go.wp_at_succ
theorem binfo : (Tryd.prog.info? 5).map (fun i => (i.zero, i.size, i.bytes)) = some (some (.int .u8 0), 1, 1) := by kernel_rfl
/-- A row of bytes of one's own, in blocks of S. -/
abbrev RB (S : Nat → Prop) (w : World) (v : Value) (B : List Int) : Prop := Kd.R (Kd.int .u8) 5 w 0 S v B
/-- A writer at block p has the bits L; its bytes lie in S. -/
structure Wr (w : World) (S : Nat → Prop) (p : Nat) (L : List Int) : Prop where
  blk : ∃ v, w.heap[p]? = some (.cells #[v, .int .i64 (L.length : Int)] 101 (0, 0)) ∧ RB S w v (pk L)
  bits : is01 L
  typed : ∀ k, S k → ∃ cells, w.heap[k]? = some (.cells cells 5 (0, 0))
/-- From w to w' the writer at p, whose bytes lay in S, came to have L; nothing else that was there has turned. -/
def WrTo (w : World) (S : Nat → Prop) (p : Nat) (L : List Int) (w' : World) : Prop := ∃ S', Wr w' S' p L ∧ (∀ k, S' k → S k ∨ w.heap.size ≤ k) ∧ Fr (fun k => k = p ∨ S k) w w'
theorem Wr.lt {w : World} {S : Nat → Prop} {p : Nat} {L : List Int} (h : Wr w S p L) (k : Nat) (hk : S k) : k < w.heap.size := by
  obtain ⟨cells, hc⟩ := h.typed k hk
  exact lt_of_block hc
theorem Wr.p_lt {w : World} {S : Nat → Prop} {p : Nat} {L : List Int} (h : Wr w S p L) : p < w.heap.size := by
  obtain ⟨v, hb, _⟩ := h.blk
  exact lt_of_block hb
theorem Wr.fr {w w' : World} {S T : Nat → Prop} {p : Nat} {L : List Int} (h : Wr w S p L) (hf : Fr T w w') (hp : ¬ T p) (hS : ∀ k, S k → ¬ T k) : Wr w' S p L := by
  obtain ⟨v, hb, hr⟩ := h.blk
  exact ⟨⟨v, blk_fr hb hf hp, R_fr hr hf (fun k hk _ => hS k hk)⟩, h.bits, fun k hk => by
    obtain ⟨cells, hc⟩ := h.typed k hk
    exact ⟨cells, blk_fr hc hf (hS k hk)⟩⟩
theorem Wr.to {w w' : World} {S T : Nat → Prop} {p : Nat} {L : List Int} (h : Wr w S p L) (hf : Fr T w w') (hp : ¬ T p) (hS : ∀ k, S k → ¬ T k) (hT : ∀ k, k < w.heap.size → T k → k = p ∨ S k) : WrTo w S p L w' :=
  ⟨S, h.fr hf hp hS, fun _ hk => .inl hk, hf.mono hT⟩
/-- b's bit i: the shift and the mask, as the program does them. -/
theorem or_bit : ∀ x : Fin 256, ∀ m : Fin 8, ∀ b : Fin 2, x.val % 2 ^ (8 - m.val) = 0 → x.val ||| (b.val * 2 ^ (7 - m.val)) = x.val + b.val * 2 ^ (7 - m.val) := by decide +kernel
theorem or_byte (x b : Int) (m : Nat) (hx : 0 ≤ x ∧ x < 256) (hb : b = 0 ∨ b = 1) (hm : m < 8) (hr : x % 2 ^ (8 - m) = 0) : Go.bits BinOp.or IntKind.u8 x (wrap64 (b * 2 ^ (7 - m)) % 256) = x + b * 2 ^ (7 - m) := by
  obtain ⟨X, rfl⟩ : ∃ X : Nat, x = X := ⟨x.toNat, by omega⟩
  obtain ⟨c, hc, rfl⟩ : ∃ c : Nat, c < 2 ∧ b = c := ⟨b.toNat, by omega, by omega⟩
  have h := or_bit ⟨X, by omega⟩ ⟨m, hm⟩ ⟨c, hc⟩ (by
    have e : ((X % 2 ^ (8 - m) : Nat) : Int) = 0 := by rw [← hr]; norm_cast
    exact_mod_cast e)
  simp only at h
  have hp : c * 2 ^ (7 - m) ≤ 128 := by
    have h1 : 2 ^ (7 - m) ≤ 2 ^ 7 := Nat.pow_le_pow_right (by omega) (by omega)
    have h2 : c * 2 ^ (7 - m) ≤ 1 * 2 ^ (7 - m) := Nat.mul_le_mul_right _ (by omega)
    omega
  have e : ((c : Int) * 2 ^ (7 - m)) = ((c * 2 ^ (7 - m) : Nat) : Int) := by norm_cast
  rw [e, wrap64_id (by omega) (by omega), show (((c * 2 ^ (7 - m) : Nat) : Int) % 256) = ((c * 2 ^ (7 - m) : Nat) : Int) by omega, or_u8 X _ (by omega) (by omega), h]
  norm_cast
theorem div_small (x : Int) (k : Nat) (h0 : 0 ≤ x) (h1 : x < 256) : 0 ≤ x / 2 ^ k ∧ x / 2 ^ k < 256 :=
  ⟨Int.ediv_nonneg h0 (Int.le_of_lt (Int.pow_pos (by omega))), by have := Int.ediv_le_self (2 ^ k) h0; omega⟩
set_option maxHeartbeats 1000000 in
set_option maxRecDepth 100000 in
theorem bit_any (A : Option Addr) (n c : Nat) (B : List Int) (i : Nat) (w : World) (hC : Kd.C (Kd.int .u8) w A n B) (hi : i / 8 < n) (hb : is8 B) (hn : n ≤ 9223372036854775807) :
    Calls Tryd.prog 73 #[.slice A n c, .int .i64 i] w fun e w' => e = .returned (.int .i64 (bitAt B i)) ∧ w' = w := by
  obtain ⟨ad, e, hx⟩ := Kd.at_int hC ((i : Int) / 8) (by omega) (by omega)
  subst e
  have i1 : (0 : Int) ≤ (i : Int) / 8 := by omega
  have i2 : (i : Int) / 8 < (n : Int) := by omega
  have hx8 := getD8 hb (i / 8)
  obtain ⟨x, hX⟩ : ∃ x, x = B.getD (i / 8) 0 := ⟨_, rfl⟩
  have hx' : w.cell? (ad.add (i / 8)) = some (.int .u8 x) := by rw [hX]; rw [show ((i : Int) / 8).toNat = i / 8 by omega] at hx; rw [hx]; unfold rd; rw [show ((i : Int) / 8).toNat = i / 8 by omega]
  rw [← hX] at hx8
  have HX := Aside0.mk hX
  clear hx hX hC
  go_enter Tryd.func73, Tryd.ntmps73
  go_wp2_with fail
  go_ret
  refine ⟨?_, rfl⟩
  have h1 := div_small x (7 - i % 8) hx8.1 hx8.2
  show Ending.returned (Value.int IntKind.i64 (bits BinOp.and IntKind.i64 (wrap64 (x / 2 ^ (7 - i % 8))) 1)) = _
  rw [wrap64_id (by omega) (by omega), and1_i64 _ (by omega)]
  unfold bitAt
  rw [← HX.out]
/-- The bytes with room for the next bit. -/
def room (L : List Int) : List Int := if L.length % 8 = 0 then pk L ++ [0] else pk L
theorem room_length (L : List Int) : (room L).length = L.length / 8 + 1 := by
  unfold room
  split
  · simp [pk_length]; omega
  · simp [pk_length]; omega
theorem room_getD (L : List Int) : (room L).getD (L.length / 8) 0 = byteAt L (L.length / 8) := by
  unfold room
  split
  · rw [getD_snoc, getD_pk']; simp
  · rw [getD_pk']
theorem room_set (L : List Int) (b : Int) : (room L).set (L.length / 8) (byteAt L (L.length / 8) + b * 2 ^ (7 - L.length % 8)) = pk (L ++ [b]) := by
  unfold room
  split
  · rename_i h
    rw [pk_snoc_new L b h, byteAt_out L _ (by omega), h, List.set_append_right _ _ (by rw [pk_length]; omega), show L.length / 8 - (pk L).length = 0 by rw [pk_length]; omega]
    simp; omega
  · rename_i h
    rw [pk_snoc_old L b h, getD_pk']
theorem lit_C8 (X : World) (xs : List Int) (hm : xs.length ≤ 9223372036854775807) : Kd.C (Kd.int .u8) (X.alloc (.cells (nums .u8 xs).toArray 5)) (some ⟨X.heap.size, 0, none⟩) xs.length xs := by
  obtain ⟨A, c, e, _, hC⟩ := Kd.R_reads (Kd.R_of_own (ok := fun _ => True) (own_lit_of (enc := fun x => Value.int .u8 x) X X.heap.size 5 xs (Nat.le_refl _) hm) (fun _ _ => trivial))
  cases e
  exact hC
set_option maxHeartbeats 1000000 in
set_option maxRecDepth 100000 in
theorem add_any (S : Nat → Prop) (p : Nat) (L : List Int) (b : Int) (w : World) (hW : Wr w S p L) (hb : b = 0 ∨ b = 1) (hl : L.length ≤ 4194304) :
    Calls Tryd.prog 72 #[.pointer (some ⟨p, 0, none⟩), .int .i64 b] w fun e w' => e = .returned (.tuple #[]) ∧ WrTo w S p (L ++ [b]) w' := by
  obtain ⟨v, hblk, hR⟩ := hW.blk
  obtain ⟨A, cv, ev⟩ := Kd.R_slice hR
  subst ev
  have c0 : w.cell? ⟨p, 0, none⟩ = some (.slice A (pk L).length cv) := by rw [cell_of_row _ _ _ _ _ _ hblk]; rfl
  have c1 : w.cell? ⟨p, 1, none⟩ = some (.int .i64 (L.length : Int)) := by rw [cell_of_row _ _ _ _ _ _ hblk]; rfl
  have hne := Kd.R_ne hR hblk (by decide)
  have HR := Aside0.mk hR
  have HK := Aside0.mk hblk
  have HS := Aside0.mk hW.lt
  have h01 := hW.bits
  clear hR hblk hW
  go_enter Tryd.func72, Tryd.ntmps72
  go_upto_if 9 with fail
  go_cut [] (fun wx => ∃ A' c', Aside0 (wx.heap[p]? = some (.cells #[.slice A' (L.length / 8 + 1) c', .int .i64 (L.length : Int)] 101 (0, 0))) ∧ Aside0 (RB (fun k => S k ∨ w.heap.size ≤ k) wx (.slice A' (L.length / 8 + 1) c') (room L)) ∧ Aside0 (Fr (fun k => k = p ∨ S k) w wx))
  case first =>
    by_cases h8 : L.length % 8 = 0
    · have q1 : ((L.length : Int) % 8 == 0) = true := by simp; omega
      go_wp2_with (at_builtin; refine Kd.R_append_row (Value.int .u8) (0 : Int) (w0 := w) 0 rfl (.tmp 14) (.tmp 15) 27 5 (.int .u8 0) 1 rfl Tryd.underlying27 binfo rfl (by decide) (.slice A (pk L).length cv) (pk L) [0] _ _ _ (fun k => S k ∨ w.heap.size ≤ k) rfl rfl ?fresh (Kd.R_alloc (Kd.R_mono HR.out (fun _ hk => .inl hk)) _) (lit_C8 w [0] (by decide)) ?b0 (Nat.zero_le _) ?len ?_; (case fresh => intro k hk; simp at hk; omega); (case b0 => exact (Below.refl _ _).alloc (Nat.zero_le _) _); (case len => simp [pk_length]; omega); intro v1 w1 ho hb1 hg hat; obtain ⟨A1, k1, ev1⟩ := Kd.R_slice ho; subst ev1; have hg0 := (below_alloc (Below.refl w.heap.size w) (.cells (nums .u8 [0]).toArray 5)); have hbk := (hg.block p (by have := lt_of_block HK.out; simp; omega) hne).trans ((hg0.block p (lt_of_block HK.out)).trans HK.out); have d0 : w1.cell? ⟨p, 0, none⟩ = some (.slice A (pk L).length cv) := (by rw [cell_of_row _ _ _ _ _ _ hbk]; rfl); have df : w1.frozen? ⟨p, 0, none⟩ = false := blk_frozen hbk 0; have HO1 := Aside0.mk ho; have HG1 := Aside0.mk hg; have HG0 := Aside0.mk hg0; have HK1 := Aside0.mk hbk; have HAT := Aside0.mk hat; clear ho hg hbk hat hb1 hg0)
      go_meet
      have e1 : (pk L).length + 1 = L.length / 8 + 1 := by rw [pk_length]; omega
      have e2 : (pk L ++ [0]).length = L.length / 8 + 1 := by rw [List.length_append, ← e1]; rfl
      have hk1 := HK1.out
      have ho := HO1.out
      rw [e2] at ho
      rw [e1]
      refine ⟨A1, k1, ⟨blk_put hk1 0 _ rfl⟩, ⟨?_⟩, ⟨?_⟩⟩
      · unfold room
        rw [if_pos h8]
        exact Kd.R_set ho hk1 (by simp [Kd.scalar]) 0 _
      · refine (((Fr.below HG0.out _).grown HG1.out (fun k hk e => .inr (HR.out.1 k e)))).setCell (p := ⟨p, 0, none⟩) (fun _ => .inl rfl) _
    · have q1 : ((L.length : Int) % 8 == 0) = false := by simp; omega
      go_wp2_with fail
      go_meet
      have e1 : (pk L).length = L.length / 8 + 1 := by rw [pk_length]; omega
      have hk1 := HK.out
      have ho := HR.out
      rw [e1] at hk1 ho
      refine ⟨A, cv, ⟨hk1⟩, ⟨?_⟩, ⟨Fr.refl _ _⟩⟩
      unfold room
      rw [if_neg h8]
      exact Kd.R_mono ho (fun k hk => .inl hk)
  case rest =>
    obtain ⟨A1, k1, HK1, HR1, HF1⟩ := hcut
    obtain ⟨g, cg, e, _, hgl, _⟩ := Kd.R_form HR1.out (by rw [room_length]; omega)
    rw [room_length] at e
    cases e
    have HGS := Aside0.mk (HR1.out.1 g rfl)
    have hx := Kd.R_celln 0 HR1.out ((L.length : Int) / 8) (by omega) (by omega)
    have hxe : rdOf 0 (room L) ((L.length : Int) / 8) = byteAt L (L.length / 8) := by unfold rdOf; rw [show ((L.length : Int) / 8).toNat = L.length / 8 by omega]; exact room_getD L
    rw [hxe, show ((L.length : Int) / 8).toNat = L.length / 8 by omega] at hx
    have hx8 := byteAt_is8 h01 (L.length / 8)
    have hrest := byteAt_rest L
    have hset := room_set L b
    generalize hX : byteAt L (L.length / 8) = x at *
    obtain ⟨m, hm⟩ : ∃ m, m = L.length % 8 := ⟨_, rfl⟩
    obtain ⟨q, hq⟩ : ∃ q, q = L.length / 8 := ⟨_, rfl⟩
    rw [← hq] at HK1 HR1 hset hx
    rw [← hm] at hset hrest
    have hm8 : m < 8 := by omega
    have hlq : L.length = 8 * q + m := by omega
    obtain ⟨hx1, hx2⟩ := hx
    have HSet := Aside0.mk hset
    have HRest := Aside0.mk hrest
    have HLQ := Aside0.mk hlq
    clear hxe hX c0 c1 hm hset hrest
    have c0 : wc.cell? ⟨p, 0, none⟩ = some (.slice (some ⟨g, 0, none⟩) (q + 1) k1) := by rw [cell_of_row _ _ _ _ _ _ HK1.out]; rfl
    have c1 : wc.cell? ⟨p, 1, none⟩ = some (.int .i64 (L.length : Int)) := by rw [cell_of_row _ _ _ _ _ _ HK1.out]; rfl
    have fp := blk_frozen HK1.out 1
    have i1 : (0 : Int) ≤ (q : Int) := by omega
    have i2 : (q : Int) < (q : Int) + 1 := by omega
    have w1' : IntKind.i64.wrap ((L.length : Int) / 8) = (q : Int) := by rw [IntWalk.i64_in _ (by omega)]; omega
    have w2' : (L.length : Int).tmod 8 = (m : Int) := by rw [Int.tmod_eq_emod_of_nonneg (by omega)]; omega
    have i3 : (0 : Int) ≤ 7 - (m : Int) := by omega
    have w3' : IntKind.i64.wrap (7 - (m : Int)) = 7 - (m : Int) := IntWalk.i64_in _ (by omega)
    clear hlq hq
    go_wp2_with fail
    refine wp_still 22 (by kernel_rfl) (by kernel_rfl) ?_
    simp only [List.take_succ_cons, List.take_zero, List.drop_succ_cons, List.drop_zero]
    repeat still_step
    repeat still_step
    refine wpStill_nil ?_
    show wpList _ _ _ _ _ _
    clear w1' w2' w3'
    have hgp : g ≠ p := by rintro rfl; exact Kd.R_ne HR1.out HK1.out (by decide) rfl
    have hpg : p ≠ g := fun e => hgp e.symm
    go_wp2_with fail
    go_end0
    refine ⟨rfl, ?_⟩
    have hV := or_byte x b m hx8 hb hm8 HRest.out
    have hset := HSet.out
    rw [hV]
    generalize x + b * 2 ^ (7 - m) = V at *
    have hr1 := Kd.R_putn HR1.out (q : Int) V
    rw [Int.toNat_natCast, hset] at hr1
    have hk1 : (wc.setCell ⟨g, q, none⟩ (.int .u8 V)).heap[p]? = some (.cells #[.slice (some ⟨g, 0, none⟩) (q + 1) k1, .int .i64 (L.length : Int)] 101 (0, 0)) := blk_far HK1.out hpg _
    have hk2 : ((wc.setCell ⟨g, q, none⟩ (.int .u8 V)).setCell ⟨p, 1, none⟩ (.int .i64 ((L.length : Int) + 1))).heap[p]? = some (.cells #[.slice (some ⟨g, 0, none⟩) (q + 1) k1, .int .i64 ((L.length : Int) + 1)] 101 (0, 0)) := blk_put hk1 1 _ rfl
    have hr2 : RB (fun k => S k ∨ w.heap.size ≤ k) ((wc.setCell ⟨g, q, none⟩ (.int .u8 V)).setCell ⟨p, 1, none⟩ (.int .i64 ((L.length : Int) + 1))) (.slice (some ⟨g, 0, none⟩) (q + 1) k1) (pk (L ++ [b])) := Kd.R_set hr1 hk1 (by simp [Kd.int, Kd.scalar]) 1 _
    refine ⟨fun k => (S k ∨ w.heap.size ≤ k) ∧ ∃ cells, ((wc.setCell ⟨g, q, none⟩ (.int .u8 V)).setCell ⟨p, 1, none⟩ (.int .i64 ((L.length : Int) + 1))).heap[k]? = some (.cells cells 5 (0, 0)), ⟨⟨.slice (some ⟨g, 0, none⟩) (q + 1) k1, ?_, ?_⟩, is01_snoc h01 hb, fun k hk => hk.2⟩, fun k hk => hk.1, ?_⟩
    · rw [show (((L ++ [b]).length : Nat) : Int) = (L.length : Int) + 1 by simp]
      exact hk2
    · exact Kd.R_mono (Kd.R_bound hr2) (fun k hk => ⟨hk.1, by
        obtain ⟨q, hq, cells, hc⟩ := hk.2.2.2
        obtain rfl : q = 5 := by simpa [Kd.int, Kd.scalar] using hq
        exact ⟨cells, hc⟩⟩)
    · refine (((HF1.out).setCell (p := ⟨g, q, none⟩) (fun h => ?_) _).setCell (p := ⟨p, 1, none⟩) (fun _ => .inl rfl) _).drew
      rcases HGS.out with h1 | h1
      · exact .inr h1
      · have : g < w.heap.size := h
        omega
end Go.Proofs.YthlmnnjbpikijaaDoor.P
