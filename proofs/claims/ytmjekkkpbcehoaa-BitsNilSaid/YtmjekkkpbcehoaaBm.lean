/- The contracts of Reader.Take, Align, Open, Writer.Bytes. -/
import Derived.Test.YtmjekkkpbcehoaaBl
namespace Go.Proofs.Ytmjekkkpbcehoaa.P
open Go.RowKit Go.Shelf Go.Proofs.Ytmjekkkpbcehoaa.Bits Go.Proofs.YtmjekkkpbcehoaaW.PrintWords Go.Proofs.YtmjekkkpbcehoaaW.PrintLast Go.Proofs.YtmjekkkpbcehoaaW.PrintMore
set_option linter.unusedVariables false
set_option linter.unusedSimpArgs false
attribute [local go_sem ↓] Go.wp_at_zero Go.wp_at_succ
attribute [local go_sem] max2_int min2_int max_two min_two

def rAlign (L : List Int) (a : Nat) : Nat := min ((a + 7) / 8 * 8) L.length
set_option maxHeartbeats 1000000 in
theorem RAlign_any (S : Nat → Prop) (p a : Nat) (L : List Int) (w : World) (hR : Rd w S p L a) :
    Calls Try.prog 44 #[.pointer (some ⟨p, 0, none⟩)] w fun e w' => e = .returned (.int .i64 ((rAlign L a : Int) - a)) ∧ Rd w' S p L (rAlign L a) ∧ Fr (fun k => k = p) w w' := by
  have c1 := hR.cell1
  have c2 := hR.cell2
  have fz := hR.fz 2
  have hal := hR.at_le
  have hlen := hR.len
  have HR := Aside0.mk hR
  clear hR
  obtain ⟨q, hq⟩ : ∃ q : Nat, q = (a + 7) / 8 * 8 := ⟨_, rfl⟩
  have w1' : IntKind.i64.wrap ((a : Int) + 7) = (a : Int) + 7 := IntWalk.i64_in _ (by omega)
  have w2' : ((a : Int) + 7) / 8 = ((((a + 7) / 8 : Nat)) : Int) := by omega
  have w4' : IntKind.i64.wrap (((a : Int) + 7) / 8) = ((a : Int) + 7) / 8 := IntWalk.i64_in _ (by omega)
  have w3' : IntKind.i64.wrap (((a : Int) + 7) / 8 * 8) = (q : Int) := by rw [IntWalk.i64_in _ (by omega)]; omega
  have w5' : ((a : Int) + 7).tdiv 8 = ((a : Int) + 7) / 8 := Int.tdiv_eq_ediv_of_nonneg (by omega)
  clear w2'
  have HV : Aside0 ((if L.length < q then (L.length : Int) else (q : Int)) = ((rAlign L a : Nat) : Int)) := ⟨by unfold rAlign; split <;> omega⟩
  have hra : rAlign L a ≤ L.length := by unfold rAlign; omega
  clear hq
  go_enter Try.func44, Try.ntmps44
  go_wp2_with fail
  refine wp_still 15 (by kernel_rfl) (by kernel_rfl) ?_
  simp only [List.take_succ_cons, List.take_zero, List.drop_succ_cons, List.drop_zero]
  repeat still_step
  rw [HV.out]
  repeat still_step
  refine wpStill_nil ?_
  show wpList _ _ _ _ _ _
  clear w1' w3' w4' w5' HV
  obtain ⟨b, hb⟩ : ∃ b, b = rAlign L a := ⟨_, rfl⟩
  rw [← hb] at hra ⊢
  have HBB := Aside0.mk hb
  clear hb
  have w6' : IntKind.i64.wrap ((b : Int) - (a : Int)) = (b : Int) - (a : Int) := IntWalk.i64_in _ (by omega)
  go_wp2_with fail
  go_ret
  rw [← HBB.out]
  exact ⟨rfl, (HR.out.seek b hra).below (below_drew (Below.refl _ _)), (Rd.fr_seek _ _).trans (Fr.below (below_drew (Below.refl _ _)) _)⟩

def rTake (L : List Int) (a : Nat) (n : Int) : List Int × Int × Nat := if n < 0 then ([], 1, a) else if (L.length : Int) - a < n then ([], 3, a) else ((L.drop a).take n.toNat, 0, a + n.toNat)
def TakePost (w : World) (S : Nat → Prop) (p : Nat) (L : List Int) (r : List Int × Int × Nat) (e : Ending) (w' : World) : Prop :=
  ∃ v S', e = .returned (.tuple #[v, .int .i64 r.2.1]) ∧ RB S' w' v (pk r.1) ∧ (∀ k, S' k → w.heap.size ≤ k ∧ ∃ cells, w'.heap[k]? = some (.cells cells 5 (0, 0))) ∧ Rd w' S p L r.2.2 ∧ Fr (fun k => k = p) w w'
theorem RB_nil (S : Nat → Prop) (w : World) : RB S w (.slice none 0 0) (pk []) := by rw [pk_nil]; exact Kd.R_nil _ _ _ _ _
theorem val_one (b : Int) : val [b] = b := by simp [val]

set_option maxHeartbeats 1000000 in
set_option maxRecDepth 100000 in
theorem Take_any (S : Nat → Prop) (p a : Nat) (L : List Int) (n : Int) (w : World) (hR : Rd w S p L a) :
    Calls Try.prog 28 #[.pointer (some ⟨p, 0, none⟩), .int .i64 n] w (TakePost w S p L (rTake L a n)) := by
  have HR := Aside0.mk hR
  have hlen := hR.len
  have hal := hR.at_le
  have c1 := hR.cell1
  have c2 := hR.cell2
  have hp := hR.p_lt
  have HSL := Aside0.mk hR.lt
  have h01 := hR.bits
  clear hR
  by_cases h1 : n < 0
  · have HN : Aside0 (rTake L a n = ([], 1, a)) := ⟨by unfold rTake; rw [if_pos h1]⟩
    have d1 : decide (n < 0) = true := by simpa using h1
    go_enter Try.func28, Try.ntmps28
    go_wp2_with fail
    go_ret2
    rw [HN.out]
    exact ⟨.slice none 0 0, fun _ => False, rfl, RB_nil _ _, fun _ h => h.elim, HR.out, Fr.refl _ _⟩
  obtain ⟨m, rfl⟩ : ∃ m : Nat, n = m := ⟨n.toNat, by omega⟩
  have d1 : decide ((m : Int) < 0) = false := by simp
  have w1' : IntKind.i64.wrap ((L.length : Int) - (a : Int)) = (L.length : Int) - (a : Int) := IntWalk.i64_in _ (by omega)
  by_cases h3 : (L.length : Int) - a < m
  · have HN : Aside0 (rTake L a m = ([], 3, a)) := ⟨by unfold rTake; rw [if_neg (by omega), if_pos h3]⟩
    have d3 : decide ((L.length : Int) - (a : Int) < (m : Int)) = true := by simpa using h3
    clear h3 h1
    go_enter Try.func28, Try.ntmps28
    go_wp2_with fail
    go_quiet (fail)
    clear w1'
    go_wp2_with fail
    go_ret2
    rw [HN.out]
    exact ⟨.slice none 0 0, fun _ => False, rfl, RB_nil _ _, fun _ h => h.elim, HR.out.drew _, Fr.below (below_drewN (Below.refl _ _) _) _⟩
  · have HN : Aside0 (rTake L a m = ((L.drop a).take m, 0, a + m)) := ⟨by unfold rTake; rw [if_neg (by omega), if_neg h3]; simp⟩
    have d3 : decide ((L.length : Int) - (a : Int) < (m : Int)) = false := by simpa using h3
    have hm3 : a + m ≤ L.length := by omega
    clear h3 h1
    go_enter Try.func28, Try.ntmps28
    go_wp2_with fail
    go_quiet (fail)
    clear w1' d3
    go_wp2_with (go_at_call 19; refine (New_any _).mono ?_; rintro e w2 ⟨rfl, rfl⟩)
    obtain ⟨pw, hpw⟩ : ∃ pw, pw = w.heap.size := ⟨_, rfl⟩
    have HPW := Aside0.mk hpw
    have hWn : Wr ((w.drewN nq).alloc newWr) (fun _ => False) pw [] := by rw [hpw]; exact Wr.new (w.drewN nq)
    have hRn : Rd ((w.drewN nq).alloc newWr) S p L a := HR.out.below (below_alloc (below_drewN (Below.refl _ _) _) _)
    have hFn : Fr (fun k => k = p) w ((w.drewN nq).alloc newWr) := Fr.below (below_alloc (below_drewN (Below.refl _ _) _) _) _
    rw [← hpw]
    have HWn := Aside0.mk hWn
    have HRn := Aside0.mk hRn
    have HFn := Aside0.mk hFn
    clear hWn hRn hFn hpw c1 c2
    generalize (w.drewN nq).alloc newWr = wn at *
    go_loopw [28] (fun i wr => ∃ k : Nat, k ≤ m ∧ i = .int .i64 (k : Int) ∧ Aside0 (Rd wr S p L (a + k)) ∧ Aside0 (∃ S1, Wr wr S1 pw ((L.drop a).take k) ∧ ∀ j, S1 j → pw ≤ j) ∧ Aside0 (Fr (fun k => k = p) w wr)) (fun i _ => m - (intOf i).toNat)
    case atStart => exact ⟨0, Nat.zero_le _, rfl, HRn, ⟨_, HWn.out, fun _ h => h.elim⟩, HFn⟩
    case round =>
      obtain ⟨k, hk, rfl, HRr, HWr, HFr⟩ := hrel
      by_cases hlt : k < m
      · obtain ⟨S1, hW1, hS1⟩ := HWr.out
        have HW1 := Aside0.mk hW1
        have HS1 := Aside0.mk hS1
        have hT := take_getD L a k (by omega)
        have HT := Aside0.mk hT
        have hone : val ((L.drop (a + k)).take 1) = L.getD (a + k) 0 := by
          have h := take_getD L (a + k) 0 (by omega)
          rw [show 0 + 1 = 1 from rfl, show a + k + 0 = a + k from rfl, List.take_zero, List.nil_append] at h
          rw [h, val_one]
        have hb01 := getD01 h01 (a + k)
        have HNX := Aside0.mk (next_any S p (a + k) 1 L wr HRr.out (by omega) (by omega))
        rw [hone] at HNX
        have hpwp : pw ≠ p := by have := HPW.out; omega
        generalize hB : L.getD (a + k) 0 = b at *
        clear hW1 hS1 hT hone hB
        go_wp2_with (first
          | (go_at_call 61; refine HNX.out.mono ?_; rintro e w3 ⟨rfl, h4, h5⟩; have H4 := Aside0.mk h4; have H5 := Aside0.mk h5; have H6 := Aside0.mk (HW1.out.fr h5 hpwp (fun j hj e => by have := HS1.out j hj; have := HPW.out; omega)); clear h4 h5)
          | (go_at_call 60; (refine (add_any S1 pw ((L.drop a).take k) b _ H6.out (by omega) ?gl).mono ?_; (case gl => (rw [List.length_take, List.length_drop]; omega)); rintro e w4 ⟨rfl, h7⟩; have H7 := Aside0.mk h7; clear h7)))
        go_roundw
        case rel =>
          obtain ⟨S2, h8, hs2, f2⟩ := H7.out
          have hsz := H5.out.size
          have hsz2 := HFr.out.size
          have hpws := HPW.out
          refine ⟨k + 1, by omega, by go_num, ⟨?_⟩, ⟨S2, ?_, ?_⟩, ⟨?_⟩⟩
          · rw [show a + (k + 1) = a + k + 1 by omega]
            refine H4.out.fr f2 ?_ ?_
            · rintro (e | e)
              · exact hpwp e.symm
              · have := HS1.out _ e; omega
            · rintro j hj (e | e)
              · have := HSL.out j hj; omega
              · have := HS1.out _ e; have := HSL.out j hj; omega
          · rw [HT.out]; exact h8
          · intro j hj
            rcases hs2 j hj with q | q
            · exact HS1.out j q
            · omega
          · refine (HFr.out.trans H5.out).next f2 ?_
            rintro j hj (e | e)
            · omega
            · have := HS1.out _ e; omega
        case measure => simp [intOf]; omega
      · obtain rfl : k = m := by omega
        obtain ⟨S1, hW1, hS1⟩ := HWr.out
        obtain ⟨v, hblk, hrb⟩ := hW1.blk
        have c0 : wr.cell? ⟨pw, 0, none⟩ = some v := by rw [cell_of_row _ _ _ _ _ _ hblk]; rfl
        have HV := Aside0.mk hrb
        have HS1 := Aside0.mk hS1
        have HTY := Aside0.mk hW1.typed
        clear hW1 hS1 hblk hrb
        go_wp2_with fail
        go_ret2
        rw [HN.out]
        exact ⟨v, S1, rfl, HV.out, fun j hj => ⟨by have := HS1.out j hj; have := HPW.out; omega, HTY.out j hj⟩, HRr.out, HFr.out⟩
end Go.Proofs.Ytmjekkkpbcehoaa.P
