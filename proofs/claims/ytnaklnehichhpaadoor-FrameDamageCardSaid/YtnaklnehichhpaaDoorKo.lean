/- shawmref02.Ints; rows of one's own as lists that are read. -/
import Derived.Test.YtnaklnehichhpaaDoorKn
import Derived.Test.YtnaklnehichhpaaDoorBo
namespace Go.Proofs.YtnaklnehichhpaaDoor.P
open Go.RowKit Go.Shelf Go.Proofs.YtnaklnehichhpaaDoor.Bits Go.Proofs.YtnaklnehichhpaaDoorW.PrintWords Go.Proofs.YtnaklnehichhpaaDoorW.PrintLast Go.Proofs.YtnaklnehichhpaaDoorW.PrintMore
set_option linter.unusedVariables false
set_option linter.unusedSimpArgs false

theorem at64 {w : World} {A : Option Addr} {n : Nat} {B : List Int} (h : Kd.C (Kd.int .i64) w A n B) (i : Nat) (hi : i < n) : ∃ ad, A = some ad ∧ w.cell? (ad.add i) = some (.int .i64 (B.getD i 0)) := by
  obtain ⟨ad, e, hx⟩ := Kd.at_int h (i : Int) (by omega) (by omega)
  refine ⟨ad, e, ?_⟩
  rw [Int.toNat_natCast] at hx
  rw [hx]; unfold rd; rw [Int.toNat_natCast]
theorem C_len64 {w : World} {A : Option Addr} {n : Nat} {B : List Int} (h : Kd.C (Kd.int .i64) w A n B) : B.length = n := h.1
/-- A row of one's own, as a list that is read. -/
theorem RowV.reads {w : World} {base : Nat} {v : Value} {l : List Int} (h : RowV w base 3 1 v l.length (flatI l)) (hl : l.length ≤ 9223372036854775807) : ∃ A c, v = .slice A l.length c ∧ l.length ≤ c ∧ Kd.C (Kd.int .i64) w A l.length l := by
  rcases h.2 with ⟨rfl, hn⟩ | ⟨g, cap, cur, rfl, hb, hg, hle, hcap, hsz, htk⟩
  · have : l = [] := List.length_eq_zero_iff.1 hn
    subst this
    exact ⟨none, 0, rfl, Nat.le_refl _, Kd.C_of_reads (enc := Value.int .i64) (d := (0 : Int)) (h1 := fun _ => rfl) ⟨rfl, hl, fun hn => absurd hn (by simp)⟩⟩
  · refine ⟨_, cap, rfl, hle, Kd.C_of_reads (enc := Value.int .i64) (d := (0 : Int)) (h1 := fun _ => rfl) ⟨rfl, hl, fun hn => ⟨_, rfl, fun j hj => ?_⟩⟩⟩
    have e : (⟨g, 0, none⟩ : Addr).add j = ⟨g, j, none⟩ := by unfold Addr.add; split <;> simp_all
    rw [e, cell_of_row w g j cur _ (0, 0) hg]
    have h1 : (cur.toList.take (l.length * 1))[j]? = (flatI l)[j]? := by rw [htk]
    rw [List.getElem?_take, if_pos (by omega), Array.getElem?_toList] at h1
    rw [h1]
    simp [flatI, hj]

theorem lit_C64 (X : World) (xs : List Int) (hm : xs.length ≤ 9223372036854775807) : Kd.C (Kd.int .i64) (X.alloc (.cells (nums .i64 xs).toArray 3)) (some ⟨X.heap.size, 0, none⟩) xs.length xs := by
  obtain ⟨A, c, e, _, hC⟩ := Kd.R_reads (Kd.R_of_own (ok := fun _ => True) (own_lit_of (enc := fun x => Value.int .i64 x) X X.heap.size 3 xs (Nat.le_refl _) hm) (fun _ _ => trivial))
  cases e
  exact hC

set_option maxHeartbeats 1000000 in
set_option maxRecDepth 100000 in
theorem Ints_any (A A' : Option Addr) (n n' c c' : Nat) (B B' : List Int) (w : World) (hC : Kd.C (Kd.int .i64) w A n B) (hC' : Kd.C (Kd.int .i64) w A' n' B') (hn : n ≤ 1000000000) (hn' : n' ≤ 1000000000) :
    Calls Tryd.prog 20 #[.slice A n c, .slice A' n' c'] w fun e w' => e = .returned (.bool (decide (B = B'))) ∧ Drawn0 w w' := by
  have hl := C_len64 hC
  have hl' := C_len64 hC'
  have HC := Aside0.mk hC
  have HC' := Aside0.mk hC'
  clear hC hC'
  by_cases hnn : n = n'
  · subst hnn
    have HL := Aside0.mk hl
    have HL' := Aside0.mk hl'
    clear hl hl'
    go_enter Tryd.func20, Tryd.ntmps20
    go_wp2_with fail
    go_loopw [13] (fun i wr => ∃ k : Nat, i = .int .i64 (k : Int) ∧ k ≤ n ∧ Aside0 (∀ j, j < k → B.getD j 0 = B'.getD j 0) ∧ Aside0 (Drawn0 w wr)) (fun i _ => n - (intOf i).toNat)
    case atStart => exact ⟨0, rfl, Nat.zero_le _, ⟨fun j hj => by omega⟩, ⟨Drawn0.refl _⟩⟩
    case round =>
      obtain ⟨k, rfl, hk, HE, HD⟩ := hrel
      by_cases hlt : k < n
      · have hCr := Kd.C_below HC.out HD.out.below
        have hCr' := Kd.C_below HC'.out HD.out.below
        obtain ⟨ad, e, hx⟩ := at64 hCr k hlt
        obtain ⟨ad', e', hx'⟩ := at64 hCr' k hlt
        subst e
        subst e'
        have HX := Aside0.mk (rfl : B.getD k 0 = B.getD k 0)
        obtain ⟨x, hX⟩ : ∃ x, x = B.getD k 0 := ⟨_, rfl⟩
        obtain ⟨y, hY⟩ : ∃ y, y = B'.getD k 0 := ⟨_, rfl⟩
        rw [← hX] at hx
        rw [← hY] at hx'
        have HX := Aside0.mk hX
        have HY := Aside0.mk hY
        clear hX hY hCr hCr'
        by_cases hxy : x = y
        · have q1 : (x != y) = false := by simp [hxy]
          have HXY := Aside0.mk hxy
          clear hxy
          go_wp2_with fail
          go_quiet (fail)
          go_wp2_with fail
          go_roundw
          case rel => exact ⟨k + 1, by go_num, by omega, ⟨fun j hj => by
            by_cases h : j = k
            · subst h; rw [← HX.out, ← HY.out]; exact HXY.out
            · exact HE.out j (by omega)⟩, ⟨HD.out.step _⟩⟩
          case measure => simp [intOf]; omega
        · have q1 : (x != y) = true := by simp [hxy]
          have HN : Aside0 (decide (B = B') = false) := ⟨by
            apply decide_eq_false
            rintro rfl
            exact hxy (HX.out.trans HY.out.symm)⟩
          clear hxy
          go_wp2_with fail
          go_quiet (fail)
          go_wp2_with fail
          go_ret
          rw [HN.out]
          exact ⟨rfl, HD.out.step _⟩
      · have HN : Aside0 (decide (B = B') = true) := ⟨decide_eq_true (C_ext HL.out HL'.out (fun i hi => HE.out i (by omega)))⟩
        go_wp2_with fail
        go_ret
        rw [HN.out]
        exact ⟨rfl, HD.out⟩
  · have HN : Aside0 (decide (B = B') = false) := ⟨by
      apply decide_eq_false
      rintro rfl
      omega⟩
    have q1 : ((n : Int) != (n' : Int)) = true := by simp; omega
    clear hl hl'
    go_enter Tryd.func20, Tryd.ntmps20
    go_wp2_with fail
    go_ret
    rw [HN.out]
    exact ⟨rfl, Drawn0.refl _⟩

end Go.Proofs.YtnaklnehichhpaaDoor.P
