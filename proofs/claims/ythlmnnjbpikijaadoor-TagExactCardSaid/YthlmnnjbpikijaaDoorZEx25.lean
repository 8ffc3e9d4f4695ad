/- TagExact: the walk. -/
import Derived.Test.YthlmnnjbpikijaaDoorZEx22
import Derived.Test.YthlmnnjbpikijaaDoorZEx19
import Derived.Test.YthlmnnjbpikijaaDoorZEx24
namespace Go.Proofs.YthlmnnjbpikijaaDoor.P
open Go.RowKit Go.Shelf Go.Proofs.YthlmnnjbpikijaaDoor.Bits Go.Proofs.YthlmnnjbpikijaaDoorW.PrintWords Go.Proofs.YthlmnnjbpikijaaDoorW.PrintLast Go.Proofs.YthlmnnjbpikijaaDoorW.PrintMore
set_option linter.unusedVariables false
set_option linter.unusedSimpArgs false
attribute [local go_sem ↓] Go.wp_at_zero Go.wp_at_succ
theorem grown_cases (r : Int) (ls : List (List Int)) (skip : Int) : (∃ e, (e = 1 ∨ e = 2 ∨ e = 6) ∧ fGrown r ls skip = ⟨0, [], TG0, e⟩) ∨
    ∃ gs cut, fGrown r ls skip = ⟨r, gs, ⟨skip, cut, []⟩, 0⟩ ∧ okSnd r gs = true ∧ 0 < gs.length ∧ gs.length = ls.length ∧ ((lth gs 0).length : Int).tmod 128 = 0 ∧ cut < 128 ∧ (∀ x ∈ gs, x.length ≤ 8192) ∧ fTrim r gs ⟨skip, cut, []⟩ = (r, ls, 0) := by
  unfold fGrown
  by_cases ho : okSnd r ls = true
  · rw [if_pos ho]
    by_cases hs : okN skip = true
    · rw [if_pos hs]
      by_cases hb : 8192 < wholeN (skip.toNat + (lth ls 0).length)
      · rw [if_pos hb]
        exact .inl ⟨2, by simp, rfl⟩
      · rw [if_neg hb]
        obtain ⟨g1, g2, g3⟩ := grown_fit r ls skip ho hs hb
        obtain ⟨h1, h2, h3⟩ := whole_ge (skip.toNat + (lth ls 0).length)
        have hl := ((okSnd_iff r ls).1 ho).2.1
        refine .inr ⟨_, _, rfl, g1, by rw [List.length_map]; omega, by rw [List.length_map], ?_, by omega, ?_, g3⟩
        · rw [g2]
          obtain ⟨q, hq⟩ : ∃ q, wholeN (skip.toNat + (lth ls 0).length) = 128 * q := ⟨wholeN (skip.toNat + (lth ls 0).length) / 128, by omega⟩
          rw [hq, show ((128 * q : Nat) : Int) = 128 * (q : Int) by omega]
          exact Int.mul_tmod_right 128 q
        · intro x hx
          obtain ⟨j, hj, rfl⟩ := List.getElem_of_mem hx
          have hc := ((okSnd_iff _ _).1 g1).2.2 j hj
          unfold okCh at hc
          simp only [Bool.and_eq_true, decide_eq_true_eq] at hc
          have := hc.1.2
          unfold lth at this
          rwa [List.getD_eq_getElem?_getD, List.getElem?_eq_getElem hj] at this
    · rw [if_neg hs]
      exact .inl ⟨6, by simp, rfl⟩
  · rw [if_neg ho]
    exact .inl ⟨1, by simp, rfl⟩
theorem snd0_same : shawmref02_Same.f 100 0 [] 0 [] = some true := by kernel_rfl
set_option maxHeartbeats 8000000 in
set_option maxRecDepth 100000 in
theorem TagExact_any (r : Int) (A : Option Addr) (c : Nat) (ls : List (List Int)) (skip : Int) (w : World) (hg : HG w) (h : SndArg w r A c ls) :
    Calls Tryd.prog 10 #[sndV r A ls.length c, .int .i64 skip] w fun e w' => e = .returned (.bool true) ∧ Below w.heap.size w w' := by
  have hrb := reachBytes_lt
  obtain ⟨b, hb, hbt⟩ := small_val r ls (by have := h.len; omega) (fun x hx => by have := h.each x hx; omega)
  obtain ⟨w1, hw1⟩ : ∃ w1, w1 = w.alloc (sndObj r A ls.length c) := ⟨_, rfl⟩
  have hb1 : Below w.heap.size w w1 := by rw [hw1]; exact below_alloc (Below.refl _ _) _
  have hx1 : w1.heap[w.heap.size]? = some (sndObj r A ls.length c) := by rw [hw1]; exact World.alloc_heap_new w _
  have hsm := shawmref02_Small.calls (ls.length + 2) r A c ls 20000 b w1 (Kd.C_below h.C hb1) h.cap hb
  have HSM := Aside0.mk hsm
  have HB1 := Aside0.mk hb1
  have HX1 := Aside0.mk hx1
  have HW1 := Aside0.mk hw1
  have HG0 := Aside0.mk hg
  have HAW := Aside0.mk (fun W hW => awake_any W hW)
  have z0 : w1.cell? ⟨w.heap.size, 0, none⟩ = some (.int .i64 r) := by rw [cell_of_row _ _ _ _ _ _ hx1]; rfl
  have z1 : w1.cell? ⟨w.heap.size, 1, none⟩ = some (.slice A ls.length c) := by rw [cell_of_row _ _ _ _ _ _ hx1]; rfl
  cases b with
  | false =>
    clear hb hbt hb1 hx1 hw1 hsm hg h hrb
    go_enter Tryd.func10, Tryd.ntmps10
    go_wp2_with fail
    rw [← HW1.out]
    refine HSM.out.mono ?_
    rintro e w2 ⟨rfl, hb2⟩
    have HB2 := Aside0.mk (HB1.out.trans (hb2.mono HB1.out.size))
    clear hb2 z0 z1
    go_wp2_with fail
    refine (HAW.out w2 (HG0.out.below HB2.out)).mono ?_
    rintro e w3 ⟨rfl, hb3⟩
    have HB3 := Aside0.mk (HB2.out.trans (hb3.mono HB2.out.size))
    clear hb3
    go_wp2_with fail
    go_ret
    exact ⟨rfl, HB3.out⟩
  | true =>
    obtain ⟨hl1, hl2⟩ := hbt rfl
    have HCD : Aside0 (CD w A c ls) := ⟨⟨h.C, h.cap, ⟨by omega, fun x hx => by have := hl2 x hx; omega⟩⟩⟩
    have HSS := Aside0.mk (snd_same r ls (by omega) (fun x hx => by have := hl2 x hx; omega))
    have hgc := grown_cases r ls skip
    have hgr := fun W hW hH => Grown_any r A c ls skip W hW hH
    clear hb hbt hb1 hx1 hw1 hsm hg h hrb hl1 hl2
    rcases hgc with ⟨e, he, hfg⟩ | ⟨gs, cut, hfg, g1, g2, g3, g4, g5, g6, g7⟩
    · have HGR : Aside0 (∀ W, CD W A c ls → HG W → Calls Tryd.prog 32 #[sndV r A ls.length c, .int .i64 skip] W fun e' w' => ∃ A' c', e' = .returned (.tuple #[sndV 0 A' 0 c', tagV 0 0 none 0 0, .int .i64 e]) ∧ RL W w' (.slice A' 0 c') [] ∧ Below W.heap.size W w') := ⟨by rw [hfg] at hgr; exact hgr⟩
      have d1 : (e == (0 : Int)) = false := by rcases he with rfl | rfl | rfl <;> rfl
      have d1' : (e != (0 : Int)) = true := by rcases he with rfl | rfl | rfl <;> rfl
      clear hgr hfg he
      go_enter Tryd.func10, Tryd.ntmps10
      go_wp2_with fail
      rw [← HW1.out]
      refine HSM.out.mono ?_
      rintro e w2 ⟨rfl, hb2⟩
      have HB2 := Aside0.mk (HB1.out.trans (hb2.mono HB1.out.size))
      have hx2 := (hb2.block _ (lt_of_block HX1.out)).trans HX1.out
      have y0 : w2.cell? ⟨w.heap.size, 0, none⟩ = some (.int .i64 r) := by rw [cell_of_row _ _ _ _ _ _ hx2]; rfl
      have y1 : w2.cell? ⟨w.heap.size, 1, none⟩ = some (.slice A ls.length c) := by rw [cell_of_row _ _ _ _ _ _ hx2]; rfl
      clear hb2 z0 z1 hx2
      go_wp2_with fail
      refine (HGR.out w2 (HCD.out.below HB2.out) (HG0.out.below HB2.out)).mono ?_
      rintro e' w3 ⟨A3, c3, rfl, hrl3, hb3⟩
      obtain ⟨w4, hw4⟩ : ∃ w4, w4 = (w3.alloc (sndObj 0 A3 0 c3)).alloc (tagObj 0 0 none 0 0) := ⟨_, rfl⟩
      have hb4 : Below w3.heap.size w3 w4 := by rw [hw4]; exact below_alloc (below_alloc (Below.refl _ _) _) _
      have HK6 : Aside0 (w4.heap[w3.heap.size + 1]? = some (tagObj 0 0 none 0 0)) := ⟨by rw [hw4]; exact alloc2_new w3 _ _⟩
      have hcd := RL.cd (hrl3.below hb4) rfl (by decide) (by decide)
      have HB4 := Aside0.mk (HB2.out.trans ((hb3.trans (hb4.mono hb3.size)).mono HB2.out.size))
      have hps := shawmref02_Same.calls 100 0 A3 c3 [] 0 none 0 [] true w4 hcd.C hcd.cap (⟨rfl, by decide, fun q => absurd q (by decide)⟩) (Nat.le_refl _) snd0_same
      have HPS : Aside0 (Calls Tryd.prog 34 #[sndV 0 A3 0 c3, sndV 0 none 0 0] w4 fun e w' => e = .returned (.bool true) ∧ Below w4.heap.size w4 w') := ⟨hps⟩
      have HW4 := Aside0.mk hw4
      clear hrl3 hb3 hw4 hb4 hcd hps y0 y1
      go_wp2_with fail
      rw [← HW4.out]
      refine HPS.out.mono ?_
      rintro e' w5 ⟨rfl, hb5⟩
      have HB5 := Aside0.mk (HB4.out.trans (hb5.mono HB4.out.size))
      have hk6 := (hb5.block _ (lt_of_block HK6.out)).trans HK6.out
      have y0 : w5.cell? ⟨w3.heap.size + 1, 0, none⟩ = some (.int .i64 0) := by rw [cell_of_row _ _ _ _ _ _ hk6]; rfl
      have y1 : w5.cell? ⟨w3.heap.size + 1, 1, none⟩ = some (.int .i64 0) := by rw [cell_of_row _ _ _ _ _ _ hk6]; rfl
      have y2 : w5.cell? ⟨w3.heap.size + 1, 2, none⟩ = some (.slice none 0 0) := by rw [cell_of_row _ _ _ _ _ _ hk6]; rfl
      have HST : Aside0 (Calls Tryd.prog 20 #[tagV 0 0 none 0 0, tagV 0 0 none 0 0] w5 fun e w' => e = .returned (.bool true) ∧ Below w5.heap.size w5 w') := ⟨SameTag_any 0 0 none none 0 0 [] w5 (FD.nil w5 0) (FD.nil w5 0)⟩
      clear hb5 hk6
      go_wp2_with fail
      refine HST.out.mono ?_
      rintro e' w6 ⟨rfl, hb6⟩
      have HB6 := Aside0.mk (HB5.out.trans (hb6.mono HB5.out.size))
      clear hb6 y0 y1 y2
      go_wp2_with fail
      refine (HAW.out w6 (HG0.out.below HB6.out)).mono ?_
      rintro e' w7 ⟨rfl, hb7⟩
      have HB7 := Aside0.mk (HB6.out.trans (hb7.mono HB6.out.size))
      clear hb7
      go_wp2_with fail
      go_ret
      exact ⟨rfl, HB7.out⟩
    · have HGR : Aside0 (∀ W, CD W A c ls → HG W → Calls Tryd.prog 32 #[sndV r A ls.length c, .int .i64 skip] W fun e' w' => ∃ A' c', e' = .returned (.tuple #[sndV r A' gs.length c', tagV skip cut none 0 0, .int .i64 0]) ∧ RL W w' (.slice A' gs.length c') gs ∧ Below W.heap.size W w') := ⟨by rw [hfg] at hgr; exact hgr⟩
      have HOG := Aside0.mk (valid_val r gs (by have := ((okSnd_iff r gs).1 g1).2.1.2; omega))
      rw [g1] at HOG
      have HGL := Aside0.mk g3
      have HGX := Aside0.mk g6
      have HG2 := Aside0.mk g2
      have HMOD := Aside0.mk g4
      have HCUT := Aside0.mk g5
      have HTR := Aside0.mk g7
      have HLEN : Aside0 (gs.length ≤ 2) := ⟨((okSnd_iff r gs).1 g1).2.1.2⟩
      clear hgr hfg g1 g2 g3 g4 g5 g6 g7
      go_enter Tryd.func10, Tryd.ntmps10
      go_wp2_with fail
      rw [← HW1.out]
      refine HSM.out.mono ?_
      rintro e w2 ⟨rfl, hb2⟩
      have HB2 := Aside0.mk (HB1.out.trans (hb2.mono HB1.out.size))
      have HX2 := Aside0.mk ((hb2.block _ (lt_of_block HX1.out)).trans HX1.out)
      have y0 : w2.cell? ⟨w.heap.size, 0, none⟩ = some (.int .i64 r) := by rw [cell_of_row _ _ _ _ _ _ HX2.out]; rfl
      have y1 : w2.cell? ⟨w.heap.size, 1, none⟩ = some (.slice A ls.length c) := by rw [cell_of_row _ _ _ _ _ _ HX2.out]; rfl
      clear hb2 z0 z1
      go_wp2_with fail
      refine (HGR.out w2 (HCD.out.below HB2.out) (HG0.out.below HB2.out)).mono ?_
      rintro e' w3 ⟨A3, c3, rfl, hrl3, hb3⟩
      obtain ⟨w4, hw4⟩ : ∃ w4, w4 = (w3.alloc (sndObj r A3 gs.length c3)).alloc (tagObj skip cut none 0 0) := ⟨_, rfl⟩
      have hb4 : Below w3.heap.size w3 w4 := by rw [hw4]; exact below_alloc (below_alloc (Below.refl _ _) _) _
      have HK5 : Aside0 (w4.heap[w3.heap.size]? = some (sndObj r A3 gs.length c3)) := ⟨by rw [hw4]; exact alloc2_old w3 _ _⟩
      have HK6 : Aside0 (w4.heap[w3.heap.size + 1]? = some (tagObj skip cut none 0 0)) := ⟨by rw [hw4]; exact alloc2_new w3 _ _⟩
      have hcd := RL.cd (hrl3.below hb4) rfl (by have := HLEN.out; omega) (fun x hx => by have := HGX.out x hx; omega)
      have HCD4 := Aside0.mk hcd
      have hb24 := hb3.trans (hb4.mono hb3.size)
      have HB4 := Aside0.mk (HB2.out.trans (hb24.mono HB2.out.size))
      have HX4 := Aside0.mk ((hb24.block _ (lt_of_block HX2.out)).trans HX2.out)
      have htr := Trim_any r A3 c3 gs ⟨skip, cut, []⟩ none 0 w4 hcd (FD.nil w4 0) (HG0.out.below HB4.out)
      rw [HTR.out] at htr
      have HTRC : Aside0 (Calls Tryd.prog 30 #[sndV r A3 gs.length c3, tagV skip cut none 0 0] w4 fun e w' => ∃ A c, e = .returned (.tuple #[sndV r A ls.length c, .int .i64 0]) ∧ RL w4 w' (.slice A ls.length c) ls ∧ Below w4.heap.size w4 w') := ⟨htr⟩
      have HW4 := Aside0.mk hw4
      clear hrl3 hb3 hw4 hb4 hcd hb24 htr y0 y1
      go_wp2_with fail
      rw [← HW4.out]
      refine HTRC.out.mono ?_
      rintro e' w5 ⟨A5, c5, rfl, hrl5, hb5⟩
      obtain ⟨w6, hw6⟩ : ∃ w6, w6 = w5.alloc (sndObj r A5 ls.length c5) := ⟨_, rfl⟩
      have hb6 : Below w5.heap.size w5 w6 := by rw [hw6]; exact below_alloc (Below.refl _ _) _
      have hb46 := hb5.trans (hb6.mono hb5.size)
      have HK8 : Aside0 (w6.heap[w5.heap.size]? = some (sndObj r A5 ls.length c5)) := ⟨by rw [hw6]; exact World.alloc_heap_new _ _⟩
      have HB6 := Aside0.mk (HB4.out.trans (hb46.mono HB4.out.size))
      have hx6 := (hb46.block _ (lt_of_block HX4.out)).trans HX4.out
      have HK56 := Aside0.mk ((hb46.block _ (lt_of_block HK5.out)).trans HK5.out)
      have HK66 := Aside0.mk ((hb46.block _ (lt_of_block HK6.out)).trans HK6.out)
      have HCD6 := Aside0.mk (HCD4.out.below hb46)
      have HCDA := HCD.out.below HB6.out
      have hcd := RL.cd (hrl5.below hb6) rfl (by have := HLEN.out; have := HGL.out; omega) HCDA.len.2
      have hps := shawmref02_Same.calls (2000010 + 1) r A5 c5 ls r A c ls true w6 hcd.C hcd.cap HCDA.C HCDA.cap HSS.out
      have HPS := Aside0.mk hps
      have y0 : w6.cell? ⟨w.heap.size, 0, none⟩ = some (.int .i64 r) := by rw [cell_of_row _ _ _ _ _ _ hx6]; rfl
      have y1 : w6.cell? ⟨w.heap.size, 1, none⟩ = some (.slice A ls.length c) := by rw [cell_of_row _ _ _ _ _ _ hx6]; rfl
      rw [hw6] at y0 y1
      have HW6 := Aside0.mk hw6
      clear hrl5 hb5 hw6 hb6 hb46 hx6 HCDA hcd hps
      go_wp2_with fail
      rw [← HW6.out]
      refine HPS.out.mono ?_
      rintro e' w7 ⟨rfl, hb7⟩
      have HB7 := Aside0.mk (HB6.out.trans (hb7.mono HB6.out.size))
      have HK57 := Aside0.mk ((hb7.block _ (lt_of_block HK56.out)).trans HK56.out)
      have HK67 := Aside0.mk ((hb7.block _ (lt_of_block HK66.out)).trans HK66.out)
      have HCD7 := Aside0.mk (HCD6.out.below hb7)
      have y0 : w7.cell? ⟨w3.heap.size, 0, none⟩ = some (.int .i64 r) := by rw [cell_of_row _ _ _ _ _ _ HK57.out]; rfl
      have y1 : w7.cell? ⟨w3.heap.size, 1, none⟩ = some (.slice A3 gs.length c3) := by rw [cell_of_row _ _ _ _ _ _ HK57.out]; rfl
      have HVL := Aside0.mk (shawmref02_Valid.calls 20000 r A3 c3 gs true w7 HCD7.out.C HCD7.out.cap HOG.out)
      clear hb7
      go_wp2_with fail
      refine HVL.out.mono ?_
      rintro e' w8 ⟨rfl, hb8⟩
      have HB8 := Aside0.mk (HB7.out.trans (hb8.mono HB7.out.size))
      have HK58 := Aside0.mk ((hb8.block _ (lt_of_block HK57.out)).trans HK57.out)
      have HK68 := Aside0.mk ((hb8.block _ (lt_of_block HK67.out)).trans HK67.out)
      have HCD8 := Aside0.mk (HCD7.out.below hb8)
      have y0 : w8.cell? ⟨w3.heap.size, 0, none⟩ = some (.int .i64 r) := by rw [cell_of_row _ _ _ _ _ _ HK58.out]; rfl
      have y1 : w8.cell? ⟨w3.heap.size, 1, none⟩ = some (.slice A3 gs.length c3) := by rw [cell_of_row _ _ _ _ _ _ HK58.out]; rfl
      have hle := shawmref02_Len.calls r A3 c3 gs ((lth gs 0).length : Int) w8 HCD8.out.C HCD8.out.cap (by unfold shawmref02_Len.f; rw [if_pos (by have := HG2.out; omega)]; rfl)
      obtain ⟨gn, hgn⟩ : ∃ gn : Int, ((lth gs 0).length : Int) = gn := ⟨_, rfl⟩
      rw [hgn] at hle HMOD
      have HLE := Aside0.mk hle
      clear hb8 hle hgn
      go_wp2_with fail
      refine HLE.out.mono ?_
      rintro e' w9 ⟨rfl, hb9⟩
      have HB9 := Aside0.mk (HB8.out.trans (hb9.mono HB8.out.size))
      have hk6 := (hb9.block _ (lt_of_block HK68.out)).trans HK68.out
      have y0 : w9.cell? ⟨w3.heap.size + 1, 0, none⟩ = some (.int .i64 skip) := by rw [cell_of_row _ _ _ _ _ _ hk6]; rfl
      have y1 : w9.cell? ⟨w3.heap.size + 1, 1, none⟩ = some (.int .i64 cut) := by rw [cell_of_row _ _ _ _ _ _ hk6]; rfl
      have y2 : w9.cell? ⟨w3.heap.size + 1, 2, none⟩ = some (.slice none 0 0) := by rw [cell_of_row _ _ _ _ _ _ hk6]; rfl
      have hmod := HMOD.out
      have d3 : decide (cut < (128 : Int)) = true := by have := HCUT.out; simpa using this
      clear hb9 hk6
      go_wp2_with fail
      refine (HAW.out w9 (HG0.out.below HB9.out)).mono ?_
      rintro e' w10 ⟨rfl, hb10⟩
      have HB10 := Aside0.mk (HB9.out.trans (hb10.mono HB9.out.size))
      clear hb10 y0 y1 y2 hmod d3
      go_wp2_with fail
      go_ret
      exact ⟨rfl, HB10.out⟩
end Go.Proofs.YthlmnnjbpikijaaDoor.P
