/- The walk of BitsNil. -/
import Derived.Test.YtmjekkkpbcehoaaHb
import Derived.Test.YtmjekkkpbcehoaaEf
import Derived.Test.YtmjekkkpbcehoaaDa
namespace Go.Proofs.Ytmjekkkpbcehoaa.P
open Go.RowKit Go.Shelf Go.Proofs.Ytmjekkkpbcehoaa.Bits Go.Proofs.YtmjekkkpbcehoaaW.PrintWords Go.Proofs.YtmjekkkpbcehoaaW.PrintLast Go.Proofs.YtmjekkkpbcehoaaW.PrintMore
set_option linter.unusedVariables false
set_option linter.unusedSimpArgs false
attribute [local go_sem ↓] Go.wp_at_zero Go.wp_at_succ

abbrev zeroRd : Obj := .cells #[.slice none 0 0, .int .i64 0, .int .i64 0] 74 (0, 0)
abbrev zeroRRd : Obj := .cells #[.slice none 0 0, .int .i64 0] 76 (0, 0)
theorem Rd.zero {w : World} {q : Nat} (h : w.heap[q]? = some zeroRd) : Rd w (fun _ => False) q [] 0 :=
  ⟨⟨.slice none 0 0, [], h, Kd.R_nil _ _ _ _ _, (fun b hb => by cases hb), rfl, Nat.zero_le _, Nat.zero_le _⟩, Nat.zero_le _, Nat.zero_le _, fun _ h => h.elim⟩
theorem RRd.zero {w : World} {q : Nat} (h : w.heap[q]? = some zeroRRd) : RRd w (fun _ => False) q [] 0 :=
  ⟨⟨.slice none 0 0, h, Kd.R_nil _ _ _ _ _⟩, is01_nil, Nat.zero_le _, Nat.zero_le _, fun _ h => h.elim⟩
theorem C8_nil (w : World) (A : Option Addr) : Kd.C (Kd.int .u8) w A 0 [] := ⟨rfl, by omega, fun h => by omega⟩
/-- The call's own copy stays, and all that was there. -/
def NI (w : World) (bx : Nat) (o : OpD) (w' : World) : Prop := w'.heap[bx]? = some (.cells o.cells.toArray 41 (0, 0)) ∧ Below w.heap.size w w'
theorem NI.below {w w' w2 : World} {bx : Nat} {o : OpD} (h : NI w bx o w') (hb : Below w'.heap.size w' w2) : NI w bx o w2 :=
  ⟨blk_fr h.1 (Fr.below hb (fun _ => False)) (fun h => h), h.2.trans (hb.mono h.2.size)⟩
theorem NI.drew {w w' : World} {bx : Nat} {o : OpD} (h : NI w bx o w') : NI w bx o w'.drew := ⟨h.1, below_drew h.2⟩
theorem NI.all {w w' : World} {bx kind : Nat} {v n : Int} {A : Option Addr} {c : Nat} {B : List Int} (h : NI w bx ⟨kind, v, n, A, c, B⟩ w') : w'.cell? ⟨bx, 0, none⟩ = some (.int .u8 (kind : Int)) ∧ w'.cell? ⟨bx, 1, none⟩ = some (.int .i64 v) ∧ w'.cell? ⟨bx, 2, none⟩ = some (.int .i64 n) ∧ w'.cell? ⟨bx, 3, none⟩ = some (.slice A B.length c) ∧ Aside0 (NI w bx ⟨kind, v, n, A, c, B⟩ w') := by
  have hk := h.1
  refine ⟨?_, ?_, ?_, ?_, ⟨h⟩⟩ <;> (rw [cell_of_row _ _ _ _ _ _ hk]; rfl)
theorem held_NI {a b c d : Prop} {N : Prop} (h : a ∧ b ∧ c ∧ d ∧ Aside0 N) : N := h.2.2.2.2.out
theorem alloc2_old (w : World) (o1 o2 : Obj) : ((w.alloc o1).alloc o2).heap[w.heap.size]? = some o1 := by
  rw [Below.heap_alloc _ _ _ (lt_of_block (World.alloc_heap_new w o1))]; exact World.alloc_heap_new w o1
theorem readZ (w : World) (bx : Nat) (o : OpD) (hk : o.kind < 256) (hv : -9223372036854775808 ≤ o.v ∧ o.v ≤ 9223372036854775807) (hn : -9223372036854775808 ≤ o.n ∧ o.n ≤ 9223372036854775807) (x er : Int) (M : List Int) (b : Nat) (e : rOp [] 0 o = (x, M, er, b)) (st : Int) (hst : st = 0 - (b : Int)) (W : World) (q : Nat) (hI : NI w bx o W) (hz : W.heap[q]? = some zeroRd) (hq : w.heap.size ≤ q) :
    Calls Try.prog 34 #[.pointer (some ⟨q, 0, none⟩), o.val] W fun e w' => ∃ A1 c1, e = .returned (.agg #[.int .i64 x, .slice A1 0 c1, .int .i64 er, .int .i64 (b : Int), .int .i64 st]) ∧ (∀ k : Nat, W.heap[k]? = some zeroRRd → w'.heap[k]? = some zeroRRd) ∧ NI w bx o w' := by
  have hM : M = [] := by
    have := rOp_len [] 0 o
    rw [e] at this
    exact List.eq_nil_of_length_eq_zero (Nat.le_zero.1 this)
  subst hM hst
  refine (read_as (fun _ => False) q 0 [] o W (Rd.zero hz) hk hv hn x er [] b e).mono ?_
  rintro e w' ⟨A1, c1, rfl, hC, hA, hrd, hf⟩
  exact ⟨A1, c1, rfl, fun k h => blk_fr h hf (blk_ne h hz (by decide)), blk_fr hI.1 hf (blk_ne hI.1 hz (by decide)), hI.2.trans (hf.to_below hI.2.size (fun j hj => by subst hj; exact hq))⟩
theorem askZ (w : World) (bx : Nat) (o : OpD) (hk : o.kind < 256) (hv : -9223372036854775808 ≤ o.v ∧ o.v ≤ 9223372036854775807) (hn : -9223372036854775808 ≤ o.n ∧ o.n ≤ 9223372036854775807) (x er : Int) (M : List Int) (b : Nat) (e : rOp [] 0 o = (x, M, er, b)) (st : Int) (hst : st = 0 - (b : Int)) (W : World) (q : Nat) (hI : NI w bx o W) (hz : W.heap[q]? = some zeroRRd) (hq : w.heap.size ≤ q) :
    Calls Try.prog 35 #[.pointer (some ⟨q, 0, none⟩), o.val] W fun e w' => ∃ A1 c1, e = .returned (.agg #[.int .i64 x, .slice A1 0 c1, .int .i64 er, .int .i64 (b : Int), .int .i64 st]) ∧ (∀ k : Nat, W.heap[k]? = some zeroRd → w'.heap[k]? = some zeroRd) ∧ NI w bx o w' := by
  have hM : M = [] := by
    have := rOp_len [] 0 o
    rw [e] at this
    exact List.eq_nil_of_length_eq_zero (Nat.le_zero.1 this)
  subst hM hst
  refine (ask_as (fun _ => False) q 0 [] o W (RRd.zero hz) hk hv hn x er [] b e).mono ?_
  rintro e w' ⟨A1, c1, rfl, hC, hrd, hf⟩
  exact ⟨A1, c1, rfl, fun k h => blk_fr h hf (blk_ne h hz (by decide)), blk_fr hI.1 hf (blk_ne hI.1 hz (by decide)), hI.2.trans (hf.to_below hI.2.size (fun j hj => by subst hj; exact hq))⟩

set_option maxHeartbeats 8000000 in
set_option maxRecDepth 100000 in
theorem BitsNil_any (z : OpD) (w : World) (hz : z.ok w) :
    Calls Try.prog 10 #[z.val] w fun e w' => e = .returned (.bool true) ∧ Below w.heap.size w w' := by
  obtain ⟨x, M, er, b, hr4⟩ : ∃ x M er b, rOp [] 0 z = (x, M, er, b) := ⟨_, _, _, _, rfl⟩
  obtain ⟨st, hst⟩ : ∃ st : Int, st = 0 - (b : Int) := ⟨_, rfl⟩
  have hwn := fun W => write_nil z W hz.kind
  have hrn := fun W => read_nil z W hz.kind
  obtain ⟨kz, vz, nz, Az, cz, Bz⟩ := z
  have hkk := hz.kind
  have hzl := hz.short
  dsimp only [OpD.val] at *
  obtain ⟨wz, hwz⟩ : ∃ wz, wz = w.alloc (.cells #[.int .u8 (kz : Int), .int .i64 vz, .int .i64 nz, .slice Az Bz.length cz] 41) := ⟨_, rfl⟩
  have hkbz : wz.heap[w.heap.size]? = some (.cells #[.int .u8 (kz : Int), .int .i64 vz, .int .i64 nz, .slice Az Bz.length cz] 41 (0, 0)) := by rw [hwz]; exact World.alloc_heap_new w _
  have hbbz : Below w.heap.size w wz := by rw [hwz]; exact below_alloc (Below.refl _ _) _
  obtain ⟨bz, hbz⟩ : ∃ bz, bz = w.heap.size := ⟨_, rfl⟩
  rw [← hbz] at hkbz
  have HZBW := Aside0.mk hwz
  have HZBB := Aside0.mk hbz
  have HZBK := Aside0.mk hkbz
  have HZBL := Aside0.mk hbbz
  clear hwz hbz hkbz hbbz
  have hrz := fun W q => readZ w bz ⟨kz, vz, nz, Az, cz, Bz⟩ hz.kind hz.v hz.n x er M b hr4 st hst W q
  have hqz := fun W q => askZ w bz ⟨kz, vz, nz, Az, cz, Bz⟩ hz.kind hz.v hz.n x er M b hr4 st hst W q
  dsimp only [OpD.val] at hrz hqz
  have HWN := Aside0.mk hwn
  have HRN := Aside0.mk hrn
  have HRZ := Aside0.mk hrz
  have HQZ := Aside0.mk hqz
  have HNI0 : Aside0 (NI w bz ⟨kz, vz, nz, Az, cz, Bz⟩ wz) := ⟨⟨HZBK.out, HZBL.out⟩⟩
  have hkz := HZBK.out
  have z0 : wz.cell? ⟨bz, 0, none⟩ = some (Value.int .u8 (kz : Int)) := by rw [cell_of_row _ _ _ _ _ _ hkz]; rfl
  have z1 : wz.cell? ⟨bz, 1, none⟩ = some (.int .i64 vz) := by rw [cell_of_row _ _ _ _ _ _ hkz]; rfl
  have z2 : wz.cell? ⟨bz, 2, none⟩ = some (.int .i64 nz) := by rw [cell_of_row _ _ _ _ _ _ hkz]; rfl
  have z3 : wz.cell? ⟨bz, 3, none⟩ = some (.slice Az Bz.length cz) := by rw [cell_of_row _ _ _ _ _ _ hkz]; rfl
  clear hz hkz hwn hrn hrz hqz hr4 hst
  by_cases hbl : 140000 < Bz.length
  · have d1 : decide ((140000 : Int) < (Bz.length : Int)) = true := by simp; omega
    go_enter Try.func10, Try.ntmps10
    go_wp2_with fail
    refine (awake_any _).mono ?_
    rintro e w2 ⟨rfl, hb⟩
    go_wp2_with fail
    go_ret
    exact ⟨rfl, by rw [← HZBW.out] at hb; exact HZBL.out.trans (hb.mono HZBL.out.size)⟩
  have d1 : decide ((140000 : Int) < (Bz.length : Int)) = false := by simp; omega
  clear hbl
  go_enter Try.func10, Try.ntmps10
  go_wp2_with fail
  rw [← HZBW.out, ← HZBB.out]
  refine (HWN.out _).mono ?_
  rintro e w1 ⟨rfl, hb⟩
  have HNI1 := Aside0.mk (HNI0.out.below hb)
  have hkz := HNI1.out.1
  have z10 : w1.cell? ⟨bz, 0, none⟩ = some (Value.int .u8 (kz : Int)) := by rw [cell_of_row _ _ _ _ _ _ hkz]; rfl
  have z11 : w1.cell? ⟨bz, 1, none⟩ = some (.int .i64 vz) := by rw [cell_of_row _ _ _ _ _ _ hkz]; rfl
  have z12 : w1.cell? ⟨bz, 2, none⟩ = some (.int .i64 nz) := by rw [cell_of_row _ _ _ _ _ _ hkz]; rfl
  have z13 : w1.cell? ⟨bz, 3, none⟩ = some (.slice Az Bz.length cz) := by rw [cell_of_row _ _ _ _ _ _ hkz]; rfl
  clear hb hkz
  go_wp2_with fail
  refine (nilLen w1).mono ?_
  rintro e w2 ⟨rfl, hw⟩
  obtain rfl := hw.symm
  go_wp2_with fail
  refine (nilBytes w1).mono ?_
  rintro e w2 ⟨rfl, hw⟩
  obtain rfl := hw.symm
  go_wp2_with fail
  refine (HRN.out w1).mono ?_
  rintro e w2 ⟨rfl, hb⟩
  have HNI2 := Aside0.mk (HNI1.out.below hb)
  clear hb
  have hkz := HNI2.out.1
  have z20 : w2.cell? ⟨bz, 0, none⟩ = some (Value.int .u8 (kz : Int)) := by rw [cell_of_row _ _ _ _ _ _ hkz]; rfl
  have z21 : w2.cell? ⟨bz, 1, none⟩ = some (.int .i64 vz) := by rw [cell_of_row _ _ _ _ _ _ hkz]; rfl
  have z22 : w2.cell? ⟨bz, 2, none⟩ = some (.int .i64 nz) := by rw [cell_of_row _ _ _ _ _ _ hkz]; rfl
  have z23 : w2.cell? ⟨bz, 3, none⟩ = some (.slice Az Bz.length cz) := by rw [cell_of_row _ _ _ _ _ _ hkz]; rfl
  have HNW := World.new_ne w2 ⟨bz, 0, none⟩ z20
  clear hkz
  by_cases hk4 : kz % 7 = 4
  · have hE : nilE kz = 0 := by unfold nilE; rw [if_pos hk4]
    have hq4 : (kz : Int) % 7 = 4 := by omega
    rw [hE] at *
    obtain ⟨wy, hwy⟩ : ∃ wy, wy = w2.alloc (.cells #[.int .i64 0, .slice none 0 0, .int .i64 0, .int .i64 0, .int .i64 0] 65) := ⟨_, rfl⟩
    have hkby_ : wy.heap[w2.heap.size]? = some (.cells #[.int .i64 0, .slice none 0 0, .int .i64 0, .int .i64 0, .int .i64 0] 65 (0, 0)) := by rw [hwy]; exact World.alloc_heap_new w2 _
    have hbby_ : Below w2.heap.size w2 wy := by rw [hwy]; exact below_alloc (Below.refl _ _) _
    obtain ⟨by_, hby_⟩ : ∃ by_, by_ = w2.heap.size := ⟨_, rfl⟩
    rw [← hby_] at hkby_
    have HYW := Aside0.mk hwy
    have HYB := Aside0.mk hby_
    have HYK := Aside0.mk hkby_
    have HYL := Aside0.mk hbby_
    clear hwy hby_ hkby_ hbby_
    have HNIy := Aside0.mk (HNI2.out.below HYL.out)
    have hky := HYK.out
    have y0 : wy.cell? ⟨by_, 0, none⟩ = some (.int .i64 0) := by rw [cell_of_row _ _ _ _ _ _ hky]; rfl
    have y1 : wy.cell? ⟨by_, 1, none⟩ = some (.slice none 0 0) := by rw [cell_of_row _ _ _ _ _ _ hky]; rfl
    have y2 : wy.cell? ⟨by_, 2, none⟩ = some (.int .i64 0) := by rw [cell_of_row _ _ _ _ _ _ hky]; rfl
    have y3 : wy.cell? ⟨by_, 3, none⟩ = some (.int .i64 0) := by rw [cell_of_row _ _ _ _ _ _ hky]; rfl
    have y4 : wy.cell? ⟨by_, 4, none⟩ = some (.int .i64 0) := by rw [cell_of_row _ _ _ _ _ _ hky]; rfl
    have hkz := HNIy.out.1
    have zy0 : wy.cell? ⟨bz, 0, none⟩ = some (Value.int .u8 (kz : Int)) := by rw [cell_of_row _ _ _ _ _ _ hkz]; rfl
    have zy1 : wy.cell? ⟨bz, 1, none⟩ = some (.int .i64 vz) := by rw [cell_of_row _ _ _ _ _ _ hkz]; rfl
    have zy2 : wy.cell? ⟨bz, 2, none⟩ = some (.int .i64 nz) := by rw [cell_of_row _ _ _ _ _ _ hkz]; rfl
    have zy3 : wy.cell? ⟨bz, 3, none⟩ = some (.slice Az Bz.length cz) := by rw [cell_of_row _ _ _ _ _ _ hkz]; rfl
    have hsy : w.heap.size ≤ wy.heap.size := HNIy.out.2.size
    clear hky hkz
    have hku : (w2.alloc (.cells #[.int .i64 0, .slice none 0 0, .int .i64 0, .int .i64 0, .int .i64 0] 65)).heap[bz]? = some (.cells #[.int .u8 (kz : Int), .int .i64 vz, .int .i64 nz, .slice Az Bz.length cz] 41 (0, 0)) := (HNI2.out.below (below_alloc (Below.refl _ _) _)).1
    have u0 : (w2.alloc (.cells #[.int .i64 0, .slice none 0 0, .int .i64 0, .int .i64 0, .int .i64 0] 65)).cell? ⟨bz, 0, none⟩ = some (Value.int .u8 (kz : Int)) := by rw [cell_of_row _ _ _ _ _ _ hku]; rfl
    have u1 : (w2.alloc (.cells #[.int .i64 0, .slice none 0 0, .int .i64 0, .int .i64 0, .int .i64 0] 65)).cell? ⟨bz, 1, none⟩ = some (.int .i64 vz) := by rw [cell_of_row _ _ _ _ _ _ hku]; rfl
    have u2 : (w2.alloc (.cells #[.int .i64 0, .slice none 0 0, .int .i64 0, .int .i64 0, .int .i64 0] 65)).cell? ⟨bz, 2, none⟩ = some (.int .i64 nz) := by rw [cell_of_row _ _ _ _ _ _ hku]; rfl
    have u3 : (w2.alloc (.cells #[.int .i64 0, .slice none 0 0, .int .i64 0, .int .i64 0, .int .i64 0] 65)).cell? ⟨bz, 3, none⟩ = some (.slice Az Bz.length cz) := by rw [cell_of_row _ _ _ _ _ _ hku]; rfl
    clear hku
    go_wp2_with fail
    rw [← HYW.out]
    go_region_held3 (fun w' => w'.cell? ⟨bz, 0, none⟩ = some (.int .u8 (kz : Int)) ∧ w'.cell? ⟨bz, 1, none⟩ = some (.int .i64 vz) ∧ w'.cell? ⟨bz, 2, none⟩ = some (.int .i64 nz) ∧ w'.cell? ⟨bz, 3, none⟩ = some (.slice Az Bz.length cz) ∧ Aside0 (NI w bz ⟨kz, vz, nz, Az, cz, Bz⟩ w'))
      (first | exact NI.all HNIy.out.drew | exact NI.all (by assumption) | exact NI.all (NI.below (held_NI (by assumption)) (below_alloc (Below.refl _ _) _)))
      (first
        | (go_at_call 34; refine (HRZ.out _ _ (held_NI (by assumption)) (by (first | exact World.alloc_heap_new _ _ | exact heap_alloc2_new _ _ _ | exact alloc2_old _ _ _ | exact hf1 _ (heap_alloc2_new _ _ _) | exact hf1 _ (alloc2_old _ _ _) | exact hf2 _ (heap_alloc2_new _ _ _) | exact hf2 _ (alloc2_old _ _ _))) (by omega)).mono ?_; rintro e w3 ⟨A1, c1, rfl, hf1, hi1⟩; have hs1 := hi1.2.size)
        | (go_at_call 35; refine (HQZ.out _ _ (held_NI (by assumption)) (by (first | exact World.alloc_heap_new _ _ | exact heap_alloc2_new _ _ _ | exact alloc2_old _ _ _ | exact hf1 _ (heap_alloc2_new _ _ _) | exact hf1 _ (alloc2_old _ _ _) | exact hf2 _ (heap_alloc2_new _ _ _) | exact hf2 _ (alloc2_old _ _ _))) (by omega)).mono ?_; rintro e w4 ⟨A2, c2, rfl, hf2, hi2⟩; have hs2 := hi2.2.size)
        | (go_at_call 33; refine (same_any A1 A2 0 0 c1 c2 x er (b : Int) st [] _ (C8_nil _ _) (C8_nil _ _) (Nat.zero_le _)).mono ?_; rintro e w5 ⟨rfl, hb5⟩; have hi5 : NI w bz ⟨kz, vz, nz, Az, cz, Bz⟩ w5 := NI.below (held_NI (by assumption)) hb5)
        | (go_at_call 11; refine (awake_any _).mono ?_; rintro e w6 ⟨rfl, hb6⟩; have hi6 : NI w bz ⟨kz, vz, nz, Az, cz, Bz⟩ w6 := NI.below (held_NI (by assumption)) hb6))
    all_goals
      go_wp2_with fail
      go_ret
      exact ⟨rfl, hi6.2⟩
  · have hE : nilE kz = 1 := by unfold nilE; rw [if_neg hk4]
    have hq4 : ((kz : Int) % 7 == 4) = false := by rw [beq_eq_false_iff_ne]; omega
    rw [hE] at *
    obtain ⟨wy, hwy⟩ : ∃ wy, wy = w2.alloc (.cells #[.int .i64 0, .slice none 0 0, .int .i64 1, .int .i64 0, .int .i64 0] 65) := ⟨_, rfl⟩
    have hkby_ : wy.heap[w2.heap.size]? = some (.cells #[.int .i64 0, .slice none 0 0, .int .i64 1, .int .i64 0, .int .i64 0] 65 (0, 0)) := by rw [hwy]; exact World.alloc_heap_new w2 _
    have hbby_ : Below w2.heap.size w2 wy := by rw [hwy]; exact below_alloc (Below.refl _ _) _
    obtain ⟨by_, hby_⟩ : ∃ by_, by_ = w2.heap.size := ⟨_, rfl⟩
    rw [← hby_] at hkby_
    have HYW := Aside0.mk hwy
    have HYB := Aside0.mk hby_
    have HYK := Aside0.mk hkby_
    have HYL := Aside0.mk hbby_
    clear hwy hby_ hkby_ hbby_
    have HNIy := Aside0.mk (HNI2.out.below HYL.out)
    have hky := HYK.out
    have y0 : wy.cell? ⟨by_, 0, none⟩ = some (.int .i64 0) := by rw [cell_of_row _ _ _ _ _ _ hky]; rfl
    have y1 : wy.cell? ⟨by_, 1, none⟩ = some (.slice none 0 0) := by rw [cell_of_row _ _ _ _ _ _ hky]; rfl
    have y2 : wy.cell? ⟨by_, 2, none⟩ = some (.int .i64 1) := by rw [cell_of_row _ _ _ _ _ _ hky]; rfl
    have y3 : wy.cell? ⟨by_, 3, none⟩ = some (.int .i64 0) := by rw [cell_of_row _ _ _ _ _ _ hky]; rfl
    have y4 : wy.cell? ⟨by_, 4, none⟩ = some (.int .i64 0) := by rw [cell_of_row _ _ _ _ _ _ hky]; rfl
    have hkz := HNIy.out.1
    have zy0 : wy.cell? ⟨bz, 0, none⟩ = some (Value.int .u8 (kz : Int)) := by rw [cell_of_row _ _ _ _ _ _ hkz]; rfl
    have zy1 : wy.cell? ⟨bz, 1, none⟩ = some (.int .i64 vz) := by rw [cell_of_row _ _ _ _ _ _ hkz]; rfl
    have zy2 : wy.cell? ⟨bz, 2, none⟩ = some (.int .i64 nz) := by rw [cell_of_row _ _ _ _ _ _ hkz]; rfl
    have zy3 : wy.cell? ⟨bz, 3, none⟩ = some (.slice Az Bz.length cz) := by rw [cell_of_row _ _ _ _ _ _ hkz]; rfl
    have hsy : w.heap.size ≤ wy.heap.size := HNIy.out.2.size
    clear hky hkz
    have hku : (w2.alloc (.cells #[.int .i64 0, .slice none 0 0, .int .i64 1, .int .i64 0, .int .i64 0] 65)).heap[bz]? = some (.cells #[.int .u8 (kz : Int), .int .i64 vz, .int .i64 nz, .slice Az Bz.length cz] 41 (0, 0)) := (HNI2.out.below (below_alloc (Below.refl _ _) _)).1
    have u0 : (w2.alloc (.cells #[.int .i64 0, .slice none 0 0, .int .i64 1, .int .i64 0, .int .i64 0] 65)).cell? ⟨bz, 0, none⟩ = some (Value.int .u8 (kz : Int)) := by rw [cell_of_row _ _ _ _ _ _ hku]; rfl
    have u1 : (w2.alloc (.cells #[.int .i64 0, .slice none 0 0, .int .i64 1, .int .i64 0, .int .i64 0] 65)).cell? ⟨bz, 1, none⟩ = some (.int .i64 vz) := by rw [cell_of_row _ _ _ _ _ _ hku]; rfl
    have u2 : (w2.alloc (.cells #[.int .i64 0, .slice none 0 0, .int .i64 1, .int .i64 0, .int .i64 0] 65)).cell? ⟨bz, 2, none⟩ = some (.int .i64 nz) := by rw [cell_of_row _ _ _ _ _ _ hku]; rfl
    have u3 : (w2.alloc (.cells #[.int .i64 0, .slice none 0 0, .int .i64 1, .int .i64 0, .int .i64 0] 65)).cell? ⟨bz, 3, none⟩ = some (.slice Az Bz.length cz) := by rw [cell_of_row _ _ _ _ _ _ hku]; rfl
    clear hku
    go_wp2_with fail
    rw [← HYW.out]
    go_region_held3 (fun w' => w'.cell? ⟨bz, 0, none⟩ = some (.int .u8 (kz : Int)) ∧ w'.cell? ⟨bz, 1, none⟩ = some (.int .i64 vz) ∧ w'.cell? ⟨bz, 2, none⟩ = some (.int .i64 nz) ∧ w'.cell? ⟨bz, 3, none⟩ = some (.slice Az Bz.length cz) ∧ Aside0 (NI w bz ⟨kz, vz, nz, Az, cz, Bz⟩ w'))
      (first | exact NI.all HNIy.out.drew | exact NI.all (by assumption) | exact NI.all (NI.below (held_NI (by assumption)) (below_alloc (Below.refl _ _) _)))
      (first
        | (go_at_call 34; refine (HRZ.out _ _ (held_NI (by assumption)) (by (first | exact World.alloc_heap_new _ _ | exact heap_alloc2_new _ _ _ | exact alloc2_old _ _ _ | exact hf1 _ (heap_alloc2_new _ _ _) | exact hf1 _ (alloc2_old _ _ _) | exact hf2 _ (heap_alloc2_new _ _ _) | exact hf2 _ (alloc2_old _ _ _))) (by omega)).mono ?_; rintro e w3 ⟨A1, c1, rfl, hf1, hi1⟩; have hs1 := hi1.2.size)
        | (go_at_call 35; refine (HQZ.out _ _ (held_NI (by assumption)) (by (first | exact World.alloc_heap_new _ _ | exact heap_alloc2_new _ _ _ | exact alloc2_old _ _ _ | exact hf1 _ (heap_alloc2_new _ _ _) | exact hf1 _ (alloc2_old _ _ _) | exact hf2 _ (heap_alloc2_new _ _ _) | exact hf2 _ (alloc2_old _ _ _))) (by omega)).mono ?_; rintro e w4 ⟨A2, c2, rfl, hf2, hi2⟩; have hs2 := hi2.2.size)
        | (go_at_call 33; refine (same_any A1 A2 0 0 c1 c2 x er (b : Int) st [] _ (C8_nil _ _) (C8_nil _ _) (Nat.zero_le _)).mono ?_; rintro e w5 ⟨rfl, hb5⟩; have hi5 : NI w bz ⟨kz, vz, nz, Az, cz, Bz⟩ w5 := NI.below (held_NI (by assumption)) hb5)
        | (go_at_call 11; refine (awake_any _).mono ?_; rintro e w6 ⟨rfl, hb6⟩; have hi6 : NI w bz ⟨kz, vz, nz, Az, cz, Bz⟩ w6 := NI.below (held_NI (by assumption)) hb6))
    all_goals
      go_wp2_with fail
      go_ret
      exact ⟨rfl, hi6.2⟩
end Go.Proofs.Ytmjekkkpbcehoaa.P
