/- Two channels that are the same; no plan has fewer bits (plain law). The walk of shawmlaw20.LosslessSmall. -/
import Derived.Test.YtjcijaojcgampaaGreatDoorZ28
import Derived.Test.YtjcijaojcgampaaGreatDoorZ29
import Derived.Test.YtjcijaojcgampaaGreatDoorZ20
import Derived.Test.YtjcijaojcgampaaGreatDoorZ19
section
namespace Go.Proofs.YtjcijaojcgampaaGreatDoor.P
open Go.RowKit Go.Shelf Go.Proofs.YtjcijaojcgampaaGreatDoor.Bits Go.Proofs.YtjcijaojcgampaaGreatDoorW.PrintWords Go.Proofs.YtjcijaojcgampaaGreatDoorW.PrintLast Go.Proofs.YtjcijaojcgampaaGreatDoorW.PrintMore
set_option linter.unusedVariables false
set_option linter.unusedSimpArgs false
theorem okF_one (l : List Int) : okF [l] = okC l.length l := by
  unfold okF
  simp
theorem okF_two (l : List Int) : okF [l, l] = okF [l] := by
  rw [okF_one]
  unfold okF
  simp
theorem midsL_self (l : List Int) : midsL l l = l := by
  refine List.ext_getElem (by simp [midsL]) (fun i h1 h2 => ?_)
  simp only [midsL, List.getElem_map, List.getElem_range]
  have : l.getD i 0 = l[i] := by rw [List.getD_eq_getElem?_getD, List.getElem?_eq_getElem h2]; rfl
  unfold midM
  omega
theorem difsL_self (l : List Int) : difsL l l = List.replicate l.length 0 := by
  refine List.eq_replicate_iff.2 ⟨by simp [difsL], fun v hv => ?_⟩
  obtain ⟨i, _, rfl⟩ := List.mem_map.1 hv
  omega
theorem sigBits_zeros (n : Nat) : (sigBits (List.replicate n 0)).length ≤ 19 := by
  have hs : allSame (List.replicate n 0) = true := by
    unfold allSame
    rw [List.all_eq_true]
    intro v hv
    obtain ⟨h1, rfl⟩ := List.mem_replicate.1 hv
    rw [List.getD_eq_getElem?_getD, List.getElem?_replicate, if_pos (by omega)]; rfl
  have h := ((planL_best (List.replicate n 0)).some (planL_found _)).2.2.1 (0, 0) (by decide) hs
  have h1 := sigBits_len (List.replicate n 0)
  have h2 : (planW (List.replicate n 0) (0, 0)).1.length = 19 := by
    show (numb 0 2 ++ numb _ 17).length = 19
    rw [List.length_append, numb_length, numb_length]
  have h3 : (planL (List.replicate n 0)).2.1 ≤ ((planW (List.replicate n 0) (0, 0)).1.length : Int) := h
  omega
theorem small_le {l : List Int} : (frameBits [l, l]).length ≤ (frameBits [l]).length + 20 := by
  have h1 : frameBits [l] = sigBits l := by
    show [l].flatMap sigBits = _
    simp
  have h2 : frameBits [l, l] = if (frame1 l l).length < (frame0 [l, l]).length then frame1 l l else frame0 [l, l] := rfl
  have h3 : (frame1 l l).length = 1 + (sigBits l).length + (sigBits (List.replicate l.length 0)).length := by
    unfold frame1
    rw [midsL_self, difsL_self, List.length_append, numb_length, List.flatMap_cons, List.flatMap_cons, List.flatMap_nil, List.append_nil, List.length_append]
    omega
  have h4 := sigBits_zeros l.length
  rw [h1, h2]
  split <;> omega
theorem fSize_two (l : List Int) : (fSize [l, l]).2 = (fSize [l]).2 ∧ ((fSize [l]).2 = 0 → (fSize [l, l]).1 ≤ (fSize [l]).1 + 20) := by
  unfold fSize
  rw [okF_two]
  by_cases h : okF [l] = true
  · rw [if_pos h, if_pos h]
    refine ⟨rfl, fun _ => ?_⟩
    have := small_le (l := l)
    dsimp only
    omega
  · rw [if_neg h, if_neg h]
    exact ⟨rfl, fun h => absurd h (by decide)⟩
end Go.Proofs.YtjcijaojcgampaaGreatDoor.P
end
section
namespace Go.Proofs.YtjcijaojcgampaaGreatDoor.P
open Go.RowKit Go.Shelf Go.Proofs.YtjcijaojcgampaaGreatDoor.Bits Go.Proofs.YtjcijaojcgampaaGreatDoorW.PrintWords Go.Proofs.YtjcijaojcgampaaGreatDoorW.PrintLast Go.Proofs.YtjcijaojcgampaaGreatDoorW.PrintMore
set_option linter.unusedVariables false
set_option linter.unusedSimpArgs false
attribute [local go_sem ↓] Go.wp_at_zero Go.wp_at_succ
theorem fSize_cases (l : List Int) : (fSize [l] = (0, 1) ∧ fSize [l, l] = (0, 1)) ∨ ∃ n m : Int, 0 ≤ n ∧ n ≤ 5000 ∧ m ≤ n + 20 ∧ fSize [l] = (n, 0) ∧ fSize [l, l] = (m, 0) := by
  obtain ⟨h1, h2⟩ := fSize_two l
  by_cases h : okF [l] = true
  · have e1 : fSize [l] = (((frameBits [l]).length : Int), 0) := by unfold fSize; rw [if_pos h]
    have e2 : fSize [l, l] = (((frameBits [l, l]).length : Int), 0) := by unfold fSize; rw [okF_two, if_pos h]
    rw [e1, e2] at h2
    have h3 := h2 rfl
    have h4 := frameBits_le h
    dsimp only at h3
    exact .inr ⟨_, _, by omega, by omega, h3, e1, e2⟩
  · have h : okF [l] = false := by simpa using h
    exact .inl ⟨by unfold fSize; rw [h]; rfl, by unfold fSize; rw [okF_two, h]; rfl⟩
/-- A copy of a list. -/
theorem copy64 (W : World) (l : List Int) (A : Option Addr) (c : Nat) (hC : Kd.C (Kd.int .i64) W A l.length l) (hl : l.length ≤ 1000000) :
    ∃ A1 c1 w1, (Builtin.append_ #[22, 22] 22 #[.slice (some ⟨W.heap.size, 0, none⟩) 0 0, .slice A l.length c]).run Tryz.prog (W.alloc noInts) = .ok (.slice A1 l.length c1) w1 ∧ Kd.C (Kd.int .i64) w1 A1 l.length l ∧ l.length ≤ c1 ∧ Below W.heap.size W w1 := by
  obtain ⟨v1, w1, hrun, hr1, hg1⟩ := append_run64 (S := fun k => k = W.heap.size) (W.alloc noInts) (.slice (some ⟨W.heap.size, 0, none⟩) 0 0) [] l A l.length c (empty_RI W) (Kd.C_alloc hC _) (by simp; omega)
  rw [List.nil_append] at hr1
  obtain ⟨A1, c1, rfl, hc1, hC1⟩ := Kd.R_reads hr1
  exact ⟨A1, c1, w1, hrun, hC1, hc1, (below_alloc (Below.refl _ _) _).grown hg1 (by simp) (fun k hk => by cases hk; exact Nat.le_refl _)⟩
set_option maxHeartbeats 4000000 in
set_option maxRecDepth 100000 in
theorem LosslessSmall_any (A : Option Addr) (c : Nat) (l : List Int) (w : World) (hg : HO w) (hC : Kd.C (Kd.int .i64) w A l.length l) (hc : l.length ≤ c) (hl : l.length ≤ 1000000000000000000) :
    Calls Tryz.prog 3 #[.slice A l.length c] w fun e w' => e = .returned (.bool true) ∧ Below w.heap.size w w' := by
  have HG := Aside0.mk hg
  have HC := Aside0.mk hC
  by_cases h1 : 300 < l.length
  · have d1 : decide ((300 : Int) < (l.length : Int)) = true := by simp; omega
    clear h1 hC hg
    go_enter Tryz.func3, Tryz.ntmps3
    go_wp2_with fail
    refine (awake20_any w HG.out).mono ?_
    rintro e w9 ⟨rfl, hb⟩
    have HB9 := Aside0.mk hb
    clear hb
    go_wp2_with fail
    go_ret
    exact ⟨rfl, HB9.out⟩
  have d1 : decide ((300 : Int) < (l.length : Int)) = false := by simp; omega
  obtain ⟨w1, hw1⟩ : ∃ w1, w1 = w.alloc (.cells #[.slice A l.length c] 22) := ⟨_, rfl⟩
  obtain ⟨b1, hb1⟩ : ∃ b, b = w.heap.size := ⟨_, rfl⟩
  have hB1 : Below w.heap.size w w1 := by rw [hw1]; exact below_alloc (Below.refl _ _) _
  have hC1 : Kd.C KdL w1 (some ⟨b1, 0, none⟩) 1 [l] := one_C (by rw [hw1, hb1]; exact World.alloc_heap_new w _) (Kd.C_below hC hB1) hc
  have hs1 := Size_any (some ⟨b1, 0, none⟩) 1 [l] w1 (hg.below hB1) hC1 (Nat.le_refl _)
  rw [show [l].length = 1 from rfl] at hs1
  have HS2 : Aside0 (∀ W A1 c1, Below w.heap.size w W → Kd.C (Kd.int .i64) W A1 l.length l → l.length ≤ c1 → Calls Tryz.prog 13 #[.slice (some ⟨W.heap.size, 0, none⟩) 2 2] (W.alloc (.cells #[.slice A l.length c, .slice A1 l.length c1] 22)) fun e w' => e = .returned (.tuple #[.int .i64 (fSize [l, l]).1, .int .i64 (fSize [l, l]).2]) ∧ Below W.heap.size W w') := ⟨fun W A1 c1 hb hC2 hc2 => by
    have hbw : Below W.heap.size W (W.alloc (.cells #[.slice A l.length c, .slice A1 l.length c1] 22)) := below_alloc (Below.refl _ _) _
    have h2 : Kd.C KdL (W.alloc (.cells #[.slice A l.length c, .slice A1 l.length c1] 22)) (some ⟨W.heap.size, 0, none⟩) 2 [l, l] := two_C (World.alloc_heap_new W _) (Kd.C_below hC (hb.trans (hbw.mono hb.size))) hc (Kd.C_below hC2 hbw) hc2
    refine (Size_any (some ⟨W.heap.size, 0, none⟩) 2 [l, l] _ (hg.below (hb.trans (hbw.mono hb.size))) h2 (Nat.le_refl _)).mono ?_
    rintro e w' ⟨he, h⟩
    exact ⟨he, hbw.trans (h.mono hbw.size)⟩⟩
  have hcs := fSize_cases l
  have HLE := Aside0.mk (show l.length ≤ 300 by omega)
  have HB1 := Aside0.mk hB1
  have HE1 := Aside0.mk hw1.symm
  have HBB := Aside0.mk hb1.symm
  generalize fSize [l] = p at *
  generalize fSize [l, l] = q at *
  obtain ⟨p1, p2⟩ := p
  obtain ⟨q1, q2⟩ := q
  dsimp only at hs1 HS2
  have HS1 := Aside0.mk hs1
  clear hs1 hg hC hw1 hb1 hB1 hC1 h1 hc
  rcases hcs with ⟨hp, hq⟩ | ⟨n, m, hn0, hn1, hmn, hp, hq⟩
  all_goals
    cases hp
    cases hq
    try have dm : decide (m ≤ n + 20) = true := by simpa using hmn
    go_enter Tryz.func3, Tryz.ntmps3
    go_wp2_with (rw [HE1.out, HBB.out])
    refine HS1.out.mono ?_
    rintro e w2 ⟨rfl, hb⟩
    have HB2 := Aside0.mk (HB1.out.trans (hb.mono HB1.out.size))
    clear hb
    obtain ⟨A1, c1, w3, hrun, hC3, hc3, hb3⟩ := copy64 w2 l A c (Kd.C_below HC.out HB2.out) (by have := HLE.out; omega)
    have HRUN := Aside0.mk hrun
    have HB3 := Aside0.mk (HB2.out.trans (hb3.mono HB2.out.size))
    have HSS := Aside0.mk (HS2.out w3 A1 c1 HB3.out hC3 hc3)
    clear hrun hC3 hc3 hb3
    go_wp2_with (at_builtin; refine wpList_run_append rfl _ _ _ rfl _ _ rfl rfl HRUN.out ?_)
    refine HSS.out.mono ?_
    rintro e w4 ⟨rfl, hb⟩
    have HB4 := Aside0.mk (HB3.out.trans (hb.mono HB3.out.size))
    clear hb
    go_wp2_with fail
    refine (awake20_any w4 (HG.out.below HB4.out)).mono ?_
    rintro e w9 ⟨rfl, hb⟩
    have HB9 := Aside0.mk (HB4.out.trans (hb.mono HB4.out.size))
    clear hb
    go_wp2_with fail
    go_ret
    exact ⟨rfl, HB9.out⟩
end Go.Proofs.YtjcijaojcgampaaGreatDoor.P
end
