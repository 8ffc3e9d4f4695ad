/- The contracts of the reference's Same, Of, Pack. -/
import Derived.Test.YtnaklnehichhpaaDoorBn
namespace Go.Proofs.YtnaklnehichhpaaDoor.P
open Go.RowKit Go.Shelf Go.Proofs.YtnaklnehichhpaaDoor.Bits Go.Proofs.YtnaklnehichhpaaDoorW.PrintWords Go.Proofs.YtnaklnehichhpaaDoorW.PrintLast Go.Proofs.YtnaklnehichhpaaDoorW.PrintMore
set_option linter.unusedVariables false
set_option linter.unusedSimpArgs false
attribute [local go_sem ↓] Go.wp_at_zero Go.wp_at_succ

theorem at8 {w : World} {A : Option Addr} {n : Nat} {B : List Int} (h : Kd.C (Kd.int .u8) w A n B) (i : Nat) (hi : i < n) : ∃ ad, A = some ad ∧ w.cell? (ad.add i) = some (.int .u8 (B.getD i 0)) := by
  obtain ⟨ad, e, hx⟩ := Kd.at_int h (i : Int) (by omega) (by omega)
  refine ⟨ad, e, ?_⟩
  rw [Int.toNat_natCast] at hx
  rw [hx]; unfold rd; rw [Int.toNat_natCast]
theorem C_len8 {w : World} {A : Option Addr} {n : Nat} {B : List Int} (h : Kd.C (Kd.int .u8) w A n B) : B.length = n := h.1

theorem C_ext {B B' : List Int} {n : Nat} (h1 : B.length = n) (h2 : B'.length = n) (h : ∀ i, i < n → B.getD i 0 = B'.getD i 0) : B = B' := ext_getD (by omega) (fun j hj => h j (by omega))

set_option maxHeartbeats 1000000 in
set_option maxRecDepth 100000 in
theorem Same_any (A A' : Option Addr) (n n' c c' : Nat) (B B' : List Int) (w : World) (hC : Kd.C (Kd.int .u8) w A n B) (hC' : Kd.C (Kd.int .u8) w A' n' B') (hn : n ≤ 1000000000) (hn' : n' ≤ 1000000000) :
    Calls Tryd.prog 15 #[.slice A n c, .slice A' n' c'] w fun e w' => e = .returned (.bool (decide (B = B'))) ∧ Drawn0 w w' := by
  have hl := C_len8 hC
  have hl' := C_len8 hC'
  have HC := Aside0.mk hC
  have HC' := Aside0.mk hC'
  clear hC hC'
  by_cases hnn : n = n'
  · subst hnn
    have HL := Aside0.mk hl
    have HL' := Aside0.mk hl'
    clear hl hl'
    go_enter Tryd.func15, Tryd.ntmps15
    go_wp2_with fail
    go_loopw [13] (fun i wr => ∃ k : Nat, i = .int .i64 (k : Int) ∧ k ≤ n ∧ Aside0 (∀ j, j < k → B.getD j 0 = B'.getD j 0) ∧ Aside0 (Drawn0 w wr)) (fun i _ => n - (intOf i).toNat)
    case atStart => exact ⟨0, rfl, Nat.zero_le _, ⟨fun j hj => by omega⟩, ⟨Drawn0.refl _⟩⟩
    case round =>
      obtain ⟨k, rfl, hk, HE, HD⟩ := hrel
      by_cases hlt : k < n
      · have hCr := Kd.C_below HC.out HD.out.below
        have hCr' := Kd.C_below HC'.out HD.out.below
        obtain ⟨ad, e, hx⟩ := at8 hCr k hlt
        obtain ⟨ad', e', hx'⟩ := at8 hCr' k hlt
        subst e
        subst e'
        have HX := Aside0.mk (rfl : B.getD k 0 = B.getD k 0)
        obtain ⟨x, hX⟩ : ∃ x, x = B.getD k 0 := ⟨_, rfl⟩
        obtain ⟨y, hY⟩ : ∃ y, y = B'.getD k 0 := ⟨_, rfl⟩
        rw [← hX] at hx
        rw [← hY] at hx'
        have HX := Aside0.mk hX
        have HY := Aside0.mk hY
        clear hX hY hCr hCr'
        by_cases hxy : x = y
        · have q1 : (x != y) = false := by simp [hxy]
          have HXY := Aside0.mk hxy
          clear hxy
          go_wp2_with fail
          go_quiet (fail)
          go_wp2_with fail
          go_roundw
          case rel => exact ⟨k + 1, by go_num, by omega, ⟨fun j hj => by
            by_cases h : j = k
            · subst h; rw [← HX.out, ← HY.out]; exact HXY.out
            · exact HE.out j (by omega)⟩, ⟨HD.out.step _⟩⟩
          case measure => simp [intOf]; omega
        · have q1 : (x != y) = true := by simp [hxy]
          have HN : Aside0 (decide (B = B') = false) := ⟨by
            apply decide_eq_false
            rintro rfl
            exact hxy (HX.out.trans HY.out.symm)⟩
          clear hxy
          go_wp2_with fail
          go_quiet (fail)
          go_wp2_with fail
          go_ret
          rw [HN.out]
          exact ⟨rfl, HD.out.step _⟩
      · have HN : Aside0 (decide (B = B') = true) := ⟨decide_eq_true (C_ext HL.out HL'.out (fun i hi => HE.out i (by omega)))⟩
        go_wp2_with fail
        go_ret
        rw [HN.out]
        exact ⟨rfl, HD.out⟩
  · have HN : Aside0 (decide (B = B') = false) := ⟨by
      apply decide_eq_false
      rintro rfl
      omega⟩
    have q1 : ((n : Int) != (n' : Int)) = true := by simp; omega
    clear hl hl'
    go_enter Tryd.func15, Tryd.ntmps15
    go_wp2_with fail
    go_ret
    rw [HN.out]
    exact ⟨rfl, Drawn0.refl _⟩

/-- The first p elements of n are there. -/
def fillB (f : Nat → Int) (n p : Nat) : List Int := (List.range p).map f ++ List.replicate (n - p) 0
theorem fillB_length (f : Nat → Int) (n p : Nat) (h : p ≤ n) : (fillB f n p).length = n := by simp [fillB]; omega
theorem fillB_set (f : Nat → Int) (n p : Nat) (h : p < n) : (fillB f n p).set p (f p) = fillB f n (p + 1) := by
  unfold fillB
  rw [show n - p = (n - (p + 1)) + 1 by omega, List.replicate_succ, List.set_append, List.range_succ]
  simp
theorem fillB_zero (f : Nat → Int) (n : Nat) : fillB f n 0 = List.replicate n 0 := by simp [fillB]
theorem fillB_all (f : Nat → Int) (n : Nat) : fillB f n n = (List.range n).map f := by simp [fillB]
theorem made8 (W : World) (m : Nat) (hm : m ≤ 9223372036854775807) : RB (fun k => k = W.heap.size) (W.alloc (.cells (madeCells #[.int .u8 0] m) 5)) (.slice (some ⟨W.heap.size, 0, none⟩) m m) (List.replicate m 0) :=
  Kd.R_of_own (own_made_of' (enc := fun x => Value.int .u8 x) (d := 0) W 0 5 m (Nat.zero_le _) hm) (fun k hk => by simpa [Value.ownBlock] using hk.symm)

set_option maxHeartbeats 1000000 in
set_option maxRecDepth 100000 in
theorem Of_any (A : Option Addr) (nb c n : Nat) (B : List Int) (w : World) (hC : Kd.C (Kd.int .u8) w A nb B) (h8 : is8 B) (hn : n ≤ 8 * nb) (hnb : nb ≤ 1000000000) :
    Calls Tryd.prog 52 #[.slice A nb c, .int .i64 n] w fun e w' => ∃ v S', e = .returned v ∧ RB S' w' v (ofB B n) ∧ (∀ k, S' k → w.heap.size ≤ k) ∧ Below w.heap.size w w' := by
  have HC := Aside0.mk hC
  have H8 := Aside0.mk h8
  have hmk := print_make_of (P := Tryd.prog) 24 5 (.int .u8 0) 1 Tryd.underlying24 binfo rfl (by decide) n (by omega)
  clear hC h8
  go_enter Tryd.func52, Tryd.ntmps52
  go_wp2_with fail
  clear hmk
  obtain ⟨g, hg⟩ : ∃ g, g = w.heap.size := ⟨_, rfl⟩
  have HR0 := Aside0.mk (made8 w n (by omega))
  rw [← hg] at HR0 ⊢
  have HG := Aside0.mk hg
  have HB0 := Aside0.mk (below_alloc (Below.refl w.heap.size w) (.cells (madeCells #[.int .u8 0] n) 5))
  clear hg
  go_loopw [10] (fun i wr => ∃ k : Nat, i = .int .i64 (k : Int) ∧ k ≤ n ∧ Aside0 (RB (fun k => k = g) wr (.slice (some ⟨g, 0, none⟩) n n) (fillB (bitAt B) n k)) ∧ Aside0 (Below w.heap.size w wr)) (fun i _ => n - (intOf i).toNat)
  case atStart => exact ⟨0, rfl, Nat.zero_le _, ⟨by rw [fillB_zero]; exact HR0.out⟩, HB0⟩
  case round =>
    obtain ⟨k, rfl, hk, HR, HB⟩ := hrel
    by_cases hlt : k < n
    · have hCr := Kd.C_below HC.out HB.out
      obtain ⟨ad, e, hx⟩ := at8 hCr (k / 8) (by omega)
      subst e
      have hx8 := getD8 H8.out (k / 8)
      have hbit : bitAt B k = B.getD (k / 8) 0 / 2 ^ (7 - k % 8) % 2 := rfl
      obtain ⟨x, hX⟩ : ∃ x, x = B.getD (k / 8) 0 := ⟨_, rfl⟩
      rw [← hX] at hx hx8 hbit
      have hd := div_small x (7 - k % 8) hx8.1 hx8.2
      have ha := and1_u8 (x / 2 ^ (7 - k % 8)) hd
      rw [← hbit] at ha
      have HA := Aside0.mk ha
      have hcell := Kd.R_celln 0 HR.out (k : Int) (by omega) (by omega)
      rw [Int.toNat_natCast] at hcell
      obtain ⟨hc1, hc2⟩ := hcell
      have HP := Aside0.mk (fillB_set (bitAt B) n k hlt)
      have i1 : (0 : Int) ≤ (k : Int) / 8 := by omega
      have i2 : (k : Int) / 8 < (nb : Int) := by omega
      have i3 : (0 : Int) ≤ (k : Int) := by omega
      have i4 : (k : Int) < (n : Int) := by omega
      clear hX hd ha hbit hCr
      go_wp2_with fail
      go_roundw
      case rel =>
        rw [HA.out]
        have hr := Kd.R_putn HR.out (k : Int) (bitAt B k)
        rw [Int.toNat_natCast, HP.out] at hr
        exact ⟨k + 1, by go_num, by omega, ⟨hr⟩, ⟨HB.out.setCell (p := ⟨g, k, none⟩) (by have := HG.out; show w.heap.size ≤ g; omega) _⟩⟩
      case measure => simp [intOf]; omega
    · obtain rfl : k = n := by omega
      go_wp2_with fail
      go_ret
      refine ⟨_, _, rfl, by have := HR.out; rw [fillB_all] at this; exact this, fun j hj => ?_, HB.out⟩
      have := HG.out
      omega

/-- The bytes of the first k bits. -/
def pkN (L : List Int) (k : Nat) : List Int := (List.range ((L.length + 7) / 8)).map (byteAt (L.take k))
theorem pkN_zero (L : List Int) : pkN L 0 = List.replicate ((L.length + 7) / 8) 0 := by
  unfold pkN
  rw [List.eq_replicate_iff]
  refine ⟨by simp, fun b hb => ?_⟩
  obtain ⟨j, _, rfl⟩ := List.mem_map.1 hb
  rw [List.take_zero]
  exact byteAt_out [] j (by simp)
theorem pkN_all (L : List Int) : pkN L L.length = pk L := by unfold pkN pk; rw [List.take_length]
theorem pkN_length (L : List Int) (k : Nat) : (pkN L k).length = (L.length + 7) / 8 := by simp [pkN]
theorem pkN_getD (L : List Int) (k j : Nat) (h : j < (L.length + 7) / 8) : (pkN L k).getD j 0 = byteAt (L.take k) j := by simp [pkN, h]
theorem pkN_set (L : List Int) (k : Nat) (h : k < L.length) : (pkN L k).set (k / 8) (byteAt (L.take k) (k / 8) + L.getD k 0 * 2 ^ (7 - k % 8)) = pkN L (k + 1) := by
  have hl : (L.take k).length = k := by rw [List.length_take]; omega
  apply ext_getD
  · simp [pkN_length]
  · intro j hj
    rw [List.length_set, pkN_length] at hj
    rw [getD_set _ _ _ _ (by rw [pkN_length]; omega), pkN_getD L (k + 1) j hj]
    have ht : L.take (k + 1) = L.take k ++ [L.getD k 0] := by
      rw [List.take_succ_eq_append_getElem h, List.getD_eq_getElem?_getD, List.getElem?_eq_getElem h]; rfl
    rw [ht, byteAt_snoc, hl]
    by_cases hjk : k / 8 = j
    · rw [if_pos hjk, if_pos hjk.symm, hjk]
    · rw [if_neg hjk, if_neg (fun e => hjk e.symm), pkN_getD L k j hj]; omega
theorem byteAt_rest' (L : List Int) (k : Nat) (h : k ≤ L.length) : byteAt (L.take k) (k / 8) % 2 ^ (8 - k % 8) = 0 := by
  have := byteAt_rest (L.take k)
  rwa [List.length_take, Nat.min_eq_left h] at this
theorem or_byte' (x b : Int) (m : Nat) (hx : 0 ≤ x ∧ x < 256) (hb : b = 0 ∨ b = 1) (hm : m < 8) (hr : x % 2 ^ (8 - m) = 0) : Go.bits BinOp.or IntKind.u8 x (IntKind.u8.wrap (b * 2 ^ (7 - m))) = x + b * 2 ^ (7 - m) := by
  have h := or_byte x b m hx hb hm hr
  have hp : (2 : Int) ^ (7 - m) ≤ 2 ^ 7 := by
    have h1 : ((2 ^ (7 - m) : Nat) : Int) = (2 : Int) ^ (7 - m) := Int.natCast_pow 2 _
    have h2 := Nat.pow_le_pow_right (show 0 < 2 by omega) (show 7 - m ≤ 7 by omega)
    omega
  have hp0 : (0 : Int) < 2 ^ (7 - m) := Int.pow_pos (by omega)
  have hbd : 0 ≤ b * 2 ^ (7 - m) ∧ b * 2 ^ (7 - m) < 256 := by rcases hb with rfl | rfl <;> omega
  rw [wrap64_id (by omega) (by omega)] at h
  rw [IntKind.wrap_u8]
  exact h

end Go.Proofs.YtnaklnehichhpaaDoor.P
