/- The check sums: the contracts of Crc16 and Crc32, the program's and the reference's. -/
import Derived.Test.YtnaklnehichhpaaDoorBo
namespace Go.Proofs.YtnaklnehichhpaaDoor.P
open Go.RowKit Go.Shelf Go.Proofs.YtnaklnehichhpaaDoor.Bits Go.Proofs.YtnaklnehichhpaaDoorW.PrintWords Go.Proofs.YtnaklnehichhpaaDoorW.PrintLast Go.Proofs.YtnaklnehichhpaaDoorW.PrintMore
set_option linter.unusedVariables false
set_option linter.unusedSimpArgs false
attribute [local go_sem ↓] Go.wp_at_zero Go.wp_at_succ

/-- A step of the sum of 16 bits. -/
def st16 (r : Nat) (b : Int) : Nat := if ((r / 32768 : Nat) : Int) = b then 2 * r % 65536 else (2 * r % 65536) ^^^ 32773
def crc16 (L : List Int) : Nat := L.foldl st16 65535
theorem st16_lt (r : Nat) (b : Int) : st16 r b < 65536 := by
  unfold st16
  split
  · omega
  · have : (2 * r % 65536) ^^^ 32773 < 2 ^ 16 := Nat.xor_lt_two_pow (by omega) (by omega)
    omega
theorem fold16_lt (L : List Int) (r : Nat) (h : r < 65536) : L.foldl st16 r < 65536 := by
  induction L generalizing r with
  | nil => exact h
  | cons b L ih => exact ih _ (st16_lt r b)
theorem xor_bits (x b : Int) (hx : x = 0 ∨ x = 1) (hb : b = 0 ∨ b = 1) : Go.bits BinOp.xor IntKind.i64 x b = if x = b then 0 else 1 := by
  rcases hx with rfl | rfl <;> rcases hb with rfl | rfl <;> decide
theorem and16 (x : Nat) (h : x < 9223372036854775808) : Go.bits BinOp.and IntKind.i64 (x : Int) 65535 = ((x % 65536 : Nat) : Int) := by
  have := and_i64 x 65535 h (by omega)
  rw [show ((65535 : Nat) : Int) = 65535 from rfl] at this
  rw [this, show (65535 : Nat) = 2 ^ 16 - 1 from rfl, Nat.and_two_pow_sub_one_eq_mod]
theorem ofB_byte (B : List Int) (k : Nat) : ofB B (8 * (k + 1)) = ofB B (8 * k) ++ numb (B.getD k 0) 8 := by
  rw [show 8 * (k + 1) = 8 * k + 1 + 1 + 1 + 1 + 1 + 1 + 1 + 1 by omega]
  simp only [ofB_succ, List.append_assoc]
  congr 1
  have e : ∀ i, i < 8 → bitAt B (8 * k + i) = B.getD k 0 / 2 ^ (7 - i) % 2 := by
    intro i hi
    unfold bitAt
    rw [show (8 * k + i) / 8 = k by omega, show (8 * k + i) % 8 = i by omega]
  have e0 := e 0 (by omega)
  have e1 := e 1 (by omega)
  have e2 := e 2 (by omega)
  have e3 := e 3 (by omega)
  have e4 := e 4 (by omega)
  have e5 := e 5 (by omega)
  have e6 := e 6 (by omega)
  have e7 := e 7 (by omega)
  rw [Nat.add_zero] at e0
  rw [show 8 * k + 1 + 1 = 8 * k + 2 by omega, show 8 * k + 2 + 1 = 8 * k + 3 by omega, show 8 * k + 3 + 1 = 8 * k + 4 by omega, show 8 * k + 4 + 1 = 8 * k + 5 by omega, show 8 * k + 5 + 1 = 8 * k + 6 by omega, show 8 * k + 6 + 1 = 8 * k + 7 by omega, e0, e1, e2, e3, e4, e5, e6, e7]
  rfl

set_option maxHeartbeats 1000000 in
theorem step_any (b r : Nat) (x : Int) (w : World) (hb : w.heap[b]? = some (intBox (r : Int))) (hr : r < 65536) (hx : x = 0 ∨ x = 1) :
    Calls Tryd.prog 46 #[.int .i64 x, .pointer (some ⟨b, 0, none⟩)] w fun e w' => (∃ u, e = .returned u) ∧ w'.heap[b]? = some (intBox (st16 r x : Int)) ∧ Fr (fun k => k = b) w w' := by
  have c := cell_of_one hb
  have f := free_of_one hb
  have HB := Aside0.mk hb
  clear hb
  have q0 : (r : Int) / 32768 = 0 ∨ (r : Int) / 32768 = 1 := by omega
  have e1 := xor_bits ((r : Int) / 32768) x q0 hx
  have e2 := and16 (2 * r) (by omega)
  have e2' : Go.bits BinOp.and IntKind.i64 (2 * (r : Int)) 65535 = ((2 * r % 65536 : Nat) : Int) := by rw [show 2 * (r : Int) = ((2 * r : Nat) : Int) by omega]; exact e2
  have e2'' : Go.bits BinOp.and IntKind.i64 ((r : Int) * 2) 65535 = ((2 * r % 65536 : Nat) : Int) := by rw [Int.mul_comm]; exact e2'
  have e3 := xor_i64 (2 * r % 65536) 32773 (by omega) (by omega)
  rw [show ((32773 : Nat) : Int) = 32773 from rfl] at e3
  clear e2
  generalize hY : ((2 * r % 65536 : Nat) : Int) = Y at *
  by_cases h : (r : Int) / 32768 = x
  · rw [if_pos h] at e1
    have HN : Aside0 ((st16 r x : Int) = Y) := ⟨by unfold st16; rw [if_pos (by rw [← h]; omega), hY]⟩
    clear hY h e3
    go_enter Tryd.func46, Tryd.ntmps46
    go_wp2_with fail
    go_end0
    refine ⟨⟨_, rfl⟩, ?_, Fr.setCell (S := fun k => k = b) (Fr.refl _ _) (p := ⟨b, 0, none⟩) (fun _ => rfl) _⟩
    rw [HN.out]
    exact one_setCell HB.out
  · rw [if_neg h] at e1
    have HN : Aside0 ((st16 r x : Int) = ((2 * r % 65536 ^^^ 32773 : Nat) : Int)) := ⟨by unfold st16; rw [if_neg (by intro e; apply h; rw [← e]; omega)]⟩
    generalize ((2 * r % 65536 ^^^ 32773 : Nat) : Int) = Z at *
    clear hY h
    go_enter Tryd.func46, Tryd.ntmps46
    go_wp2_with fail
    go_end0
    refine ⟨⟨_, rfl⟩, ?_, Fr.setCell (S := fun k => k = b) (Fr.setCell (S := fun k => k = b) (Fr.refl _ _) (p := ⟨b, 0, none⟩) (fun _ => rfl) _) (p := ⟨b, 0, none⟩) (fun _ => rfl) _⟩
    rw [HN.out]
    exact one_setCell (one_setCell HB.out)

theorem each_step (b r bn bv n : Nat) (v : Int) (w : World) (hb : w.heap[b]? = some (intBox (r : Int))) (hr : r < 65536) (hbn : w.heap[bn]? = some (intBox n)) (hbv : w.heap[bv]? = some (intBox v)) (h1 : bn ≠ b) (h2 : bv ≠ b)
    (hn : n ≤ 100000) (hv : 0 ≤ v) (hv' : v ≤ 9223372036854775807) :
    Calls Tryd.prog 47 #[seqOf bn bv, .func (.func 46) #[] #[.pointer (some ⟨b, 0, none⟩)]] w fun e w' => e = .returned (.tuple #[]) ∧ w'.heap[b]? = some (intBox ((numb v n).foldl st16 r : Nat)) ∧ Fr (fun k => k = b) w w' := by
  have lb := lt_of_block hb
  have lbn := lt_of_block hbn
  have lbv := lt_of_block hbv
  have hs1 : (w.alloc (.cells #[.func (.func 46) #[] #[.pointer (some ⟨b, 0, none⟩)]] 87)).heap.size = w.heap.size + 1 := Array.size_push _
  have hb1 : Below w.heap.size w (w.alloc (.cells #[.func (.func 46) #[] #[.pointer (some ⟨b, 0, none⟩)]] 87)) := below_alloc (Below.refl _ _) _
  refine (each_any 46 #[] #[.pointer (some ⟨b, 0, none⟩)] (enters_of Tryd.func46 (by kernel_rfl) rfl) bn bv n v (fun k => k = b ∨ w.heap.size < k)
    (fun pre W => W.heap[b]? = some (intBox (pre.foldl st16 r : Nat))) w (cell_of_one hbn) (cell_of_one hbv) (by omega) (by omega) (by omega) (fun k hk => .inr hk) hn hv hv' ?_ ?_ ?_).mono ?_
  · intro s W W' row h hg hrw
    exact (hg.block b (lt_of_block h) (fun e => by have := (hrw b e.symm).1; omega)).trans h
  · exact blk_alloc' hb _
  · intro pre x W hx hJ hlen hF
    refine (step_any b (pre.foldl st16 r) x W hJ (fold16_lt pre r hr) hx).mono ?_
    rintro e W' ⟨h1, h2, h3⟩
    refine ⟨h1, ?_, h3.mono (fun k _ hk => .inl hk), h3.keepsFrom (fun k hk o ho => ?_)⟩
    · rw [List.foldl_append]; exact h2
    · subst hk; rw [hJ] at ho; cases ho; rfl
  · rintro e w' ⟨rfl, hJ, hF⟩
    refine ⟨rfl, hJ, ((Fr.below hb1 (fun k => k = b)).next hF (fun k hk hT => ?_))⟩
    rcases hT with q | q
    · exact q
    · omega

set_option maxHeartbeats 1000000 in
set_option maxRecDepth 100000 in
theorem Crc16_any (A : Option Addr) (nb c : Nat) (B : List Int) (w : World) (hC : Kd.C (Kd.int .u8) w A nb B) (h8 : is8 B) (hnb : nb ≤ 1000000000) :
    Calls Tryd.prog 30 #[.slice A nb c] w fun e w' => e = .returned (.int .i64 (crc16 (ofB B (8 * nb)) : Nat)) ∧ Below w.heap.size w w' := by
  have HC := Aside0.mk hC
  have H8 := Aside0.mk h8
  clear hC h8
  go_enter Tryd.func30, Tryd.ntmps30
  go_wp2_with fail
  obtain ⟨b, hb⟩ : ∃ b, b = w.heap.size := ⟨_, rfl⟩
  have HB0 := Aside0.mk (World.alloc_heap_new w (intBox 65535))
  have HW0 := Aside0.mk (below_alloc (Below.refl w.heap.size w) (intBox 65535))
  rw [← hb] at HB0 ⊢
  have HBB := Aside0.mk hb
  clear hb
  go_loopw [10] (fun i wr => ∃ k : Nat, i = .int .i64 (k : Int) ∧ k ≤ nb ∧ Aside0 (wr.heap[b]? = some (intBox (crc16 (ofB B (8 * k)) : Nat))) ∧ Aside0 (Below w.heap.size w wr)) (fun i _ => nb - (intOf i).toNat)
  case atStart => exact ⟨0, rfl, Nat.zero_le _, HB0, HW0⟩
  case round =>
    obtain ⟨k, rfl, hk, HB, HW⟩ := hrel
    by_cases hlt : k < nb
    · have hCr := Kd.C_below HC.out HW.out
      obtain ⟨ad, e, hx⟩ := at8 hCr k hlt
      subst e
      have hx8 := getD8 H8.out k
      have HF := Aside0.mk (ofB_byte B k)
      generalize B.getD k 0 = x at *
      have w1' : wrap64 x = x := wrap64_id (by omega) (by omega)
      have w2' : IntKind.i64.wrap x = x := IntWalk.i64_in _ (by omega)
      have hlb := lt_of_block HB.out
      have HCR := Aside0.mk (fold16_lt (ofB B (8 * k)) 65535 (by omega))
      clear hCr
      go_wp2_with (first
        | (go_at_call 48; refine (number_any _ _ _).mono ?_; rintro e w1 ⟨rfl, rfl⟩)
        | (go_at_call 47; (refine (each_step b (crc16 (ofB B (8 * k))) _ _ 8 x _ (blk_alloc' (blk_alloc' HB.out _) _) HCR.out ?gn ?gv ?g1 ?g2 (by omega) (by omega) (by omega)).mono ?_; (case gn => (have := World.alloc_heap_new (wr.alloc (intBox x)) (intBox 8); simpa using this)); (case gv => exact blk_alloc' (World.alloc_heap_new wr (intBox x)) _); (case g1 => omega); (case g2 => omega); rintro e w2 ⟨rfl, h2, h3⟩; have H2 := Aside0.mk h2; have H3 := Aside0.mk h3; clear h2 h3)))
      go_roundw
      case rel =>
        refine ⟨k + 1, by go_num, by omega, ⟨?_⟩, ⟨?_⟩⟩
        · rw [HF.out]
          unfold crc16
          rw [List.foldl_append]
          exact H2.out
        · have hf : Fr (fun k => k = b) wr _ := (Fr.below (below_alloc (below_alloc (Below.refl _ wr) _) _) _).trans H3.out
          exact HW.out.trans (hf.to_below HW.out.size (fun j hj => by have := HBB.out; omega))
      case measure => simp [intOf]; omega
    · obtain rfl : k = nb := by omega
      have c := cell_of_one HB.out
      go_wp2_with fail
      go_ret
      exact ⟨rfl, HW.out⟩

set_option maxHeartbeats 1000000 in
set_option maxRecDepth 100000 in
theorem RefCrc16_any (A : Option Addr) (nb c : Nat) (B : List Int) (w : World) (hC : Kd.C (Kd.int .u8) w A nb B) (h8 : is8 B) (hnb : nb ≤ 100000000) :
    Calls Tryd.prog 33 #[.slice A nb c] w fun e w' => e = .returned (.int .i64 (crc16 (ofB B (8 * nb)) : Nat)) ∧ Below w.heap.size w w' := by
  have HC := Aside0.mk hC
  have H8 := Aside0.mk h8
  have HOF := Aside0.mk (Of_any A nb c (8 * nb) B w hC h8 (Nat.le_refl _) (by omega))
  rw [show ((8 * nb : Nat) : Int) = 8 * (nb : Int) by omega] at HOF
  clear hC h8
  go_enter Tryd.func33, Tryd.ntmps33
  go_wp2_with (go_at_call 52; refine HOF.out.mono ?_; rintro e w1 ⟨v, S1, rfl, hr, hs, hb⟩; obtain ⟨A1, c1, hv, _, hC1⟩ := Kd.R_reads hr; subst hv; have HC1 := Aside0.mk hC1; have HB1 := Aside0.mk hb; clear hr hs hC1 hb)
  obtain ⟨L, hL⟩ : ∃ L, L = ofB B (8 * nb) := ⟨_, rfl⟩
  have hl : L.length = 8 * nb := by rw [hL, ofB_length]
  have h01 : is01 L := by rw [hL]; exact ofB_01 _ _
  rw [← hL] at HC1 ⊢
  have HL := Aside0.mk hL
  have HLL := Aside0.mk hl
  have H01 := Aside0.mk h01
  have hlb : L.length ≤ 800000000 := by omega
  clear hL hl h01
  go_loop [3, 13] (fun r i => ∃ (k : Nat) (x : Nat), r = .int .i64 (x : Int) ∧ i = .int .i64 (k : Int) ∧ k ≤ L.length ∧ x < 65536 ∧ Aside0 (x = (L.take k).foldl st16 65535)) (fun _ i => L.length - (intOf i).toNat)
  case atStart => exact ⟨0, 65535, rfl, rfl, Nat.zero_le _, by omega, ⟨rfl⟩⟩
  case round =>
    obtain ⟨k, r, rfl, rfl, hk, hr, HX⟩ := hrel
    by_cases hlt : k < L.length
    · obtain ⟨ad, e, hx⟩ := at8 HC1.out k hlt
      subst e
      have hb01 := getD01 H01.out k
      have hT : L.take (k + 1) = L.take k ++ [L.getD k 0] := by
        rw [List.take_succ_eq_append_getElem hlt, List.getD_eq_getElem?_getD, List.getElem?_eq_getElem hlt]; rfl
      have HN : Aside0 (st16 r (L.getD k 0) = (L.take (k + 1)).foldl st16 65535) := ⟨by rw [hT, List.foldl_append, ← HX.out]; rfl⟩
      generalize L.getD k 0 = b at *
      have hlt2 := st16_lt r b
      have w1' : wrap64 b = b := wrap64_id (by omega) (by omega)
      have e3 := xor_i64 (2 * r % 65536) 32773 (by omega) (by omega)
      rw [show ((32773 : Nat) : Int) = 32773 from rfl, show ((2 * r % 65536 : Nat) : Int) = 2 * (r : Int) % 65536 by omega] at e3
      clear hT
      by_cases h : (r : Int) / 32768 = b
      · have q1 : ((r : Int) / 32768 != b) = false := by simp [h]
        have HS : Aside0 ((st16 r b : Int) = 2 * (r : Int) % 65536) := ⟨by unfold st16; rw [if_pos (by rw [← h]; omega)]; omega⟩
        clear h e3
        go_wp2_with fail
        go_round
        case rel => exact ⟨k + 1, st16 r b, by rw [HS.out], by go_num, by omega, hlt2, HN⟩
        case measure => simp [intOf]; omega
      · have q1 : ((r : Int) / 32768 != b) = true := by simp [h]
        have HS : Aside0 ((st16 r b : Int) = ((2 * r % 65536 ^^^ 32773 : Nat) : Int)) := ⟨by unfold st16; rw [if_neg (by intro e; apply h; rw [← e]; omega)]⟩
        clear h
        generalize ((2 * r % 65536 ^^^ 32773 : Nat) : Int) = Z at *
        go_wp2_with fail
        go_round
        case rel => exact ⟨k + 1, st16 r b, by rw [HS.out], by go_num, by omega, hlt2, HN⟩
        case measure => simp [intOf]; omega
    · obtain rfl : k = L.length := by omega
      rw [List.take_length] at HX
      have HQ : Aside0 ((crc16 (ofB B (8 * nb)) : Int) = (r : Int)) := ⟨by rw [← HL.out, HX.out]; rfl⟩
      go_wp2_with fail
      go_ret
      rw [HL.out] at *
      exact ⟨by rw [HQ.out]; rfl, HB1.out⟩
end Go.Proofs.YtnaklnehichhpaaDoor.P
