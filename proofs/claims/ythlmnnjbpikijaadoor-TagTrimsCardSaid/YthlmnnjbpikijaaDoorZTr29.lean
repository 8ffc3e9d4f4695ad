/- TagTrims: the walk. -/
import Derived.Test.YthlmnnjbpikijaaDoorZTr22
import Derived.Test.YthlmnnjbpikijaaDoorZTr26
import Derived.Test.YthlmnnjbpikijaaDoorZTr28
namespace Go.Proofs.YthlmnnjbpikijaaDoor.P
open Go.RowKit Go.Shelf Go.Proofs.YthlmnnjbpikijaaDoor.Bits Go.Proofs.YthlmnnjbpikijaaDoorW.PrintWords Go.Proofs.YthlmnnjbpikijaaDoorW.PrintLast Go.Proofs.YthlmnnjbpikijaaDoorW.PrintMore
set_option linter.unusedVariables false
set_option linter.unusedSimpArgs false
attribute [local go_sem ↓] Go.wp_at_zero Go.wp_at_succ
theorem okSnd_len {r : Int} {ls : List (List Int)} (ho : okSnd r ls = true) : ls.length ≤ 2 ∧ ∀ x ∈ ls, x.length ≤ 8192 := by
  obtain ⟨-, ⟨h1, h2⟩, hch⟩ := (okSnd_iff r ls).1 ho
  refine ⟨h2, fun x hx => ?_⟩
  obtain ⟨j, hj, rfl⟩ := List.getElem_of_mem hx
  have hc := hch j hj
  unfold okCh at hc
  simp only [Bool.and_eq_true, decide_eq_true_eq] at hc
  have := hc.1.2
  unfold lth at this
  rwa [List.getD_eq_getElem?_getD, List.getElem?_eq_getElem hj] at this
theorem fTrim_len (r : Int) (ls : List (List Int)) (t : TG) : (fTrim r ls t).2.1.length ≤ 2 ∧ ∀ x ∈ (fTrim r ls t).2.1, x.length ≤ 8192 := by
  have hnil : ([] : List (List Int)).length ≤ 2 ∧ ∀ x ∈ ([] : List (List Int)), x.length ≤ 8192 := ⟨by decide, fun x hx => by cases hx⟩
  unfold fTrim
  split
  case isTrue h =>
    obtain ⟨h1, h2⟩ := okSnd_len h.1
    split
    · exact hnil
    · refine ⟨by rw [List.length_map]; exact h1, fun x hx => ?_⟩
      obtain ⟨y, hy, rfl⟩ := List.mem_map.1 hx
      have := h2 y hy
      unfold cutR
      rw [List.length_drop, List.length_take]
      omega
  case isFalse h => exact hnil
theorem fGrown_len (r : Int) (ls : List (List Int)) (skip : Int) : (fGrown r ls skip).ls.length ≤ 2 ∧ (∀ x ∈ (fGrown r ls skip).ls, x.length ≤ 8192) ∧ (fGrown r ls skip).tag.fs = [] := by
  unfold fGrown
  by_cases ho : okSnd r ls = true
  · rw [if_pos ho]
    by_cases hs : okN skip = true
    · rw [if_pos hs]
      by_cases hb : 8192 < wholeN (skip.toNat + (lth ls 0).length)
      · rw [if_pos hb]
        exact ⟨by decide, (fun x hx => by cases hx), rfl⟩
      · rw [if_neg hb]
        obtain ⟨g1, _, _⟩ := grown_fit r ls skip ho hs hb
        exact ⟨(okSnd_len g1).1, (okSnd_len g1).2, rfl⟩
    · rw [if_neg hs]
      exact ⟨by decide, (fun x hx => by cases hx), rfl⟩
  · rw [if_neg ho]
    exact ⟨by decide, (fun x hx => by cases hx), rfl⟩
/-- The boxes of the two arguments. -/
structure BX (w W : World) (o1 o2 : Obj) : Prop where
  k1 : W.heap[w.heap.size]? = some o1
  k2 : W.heap[w.heap.size + 1]? = some o2
  bel : Below w.heap.size w W
theorem BX.below {w W W' : World} {o1 o2 : Obj} (h : BX w W o1 o2) (hb : Below W.heap.size W W') : BX w W' o1 o2 := ⟨(hb.block _ (lt_of_block h.k1)).trans h.k1, (hb.block _ (lt_of_block h.k2)).trans h.k2, h.bel.trans (hb.mono h.bel.size)⟩
set_option maxHeartbeats 8000000 in
set_option maxRecDepth 100000 in
theorem TagTrims_any (r : Int) (A : Option Addr) (c : Nat) (ls : List (List Int)) (s u : Int) (A2 : Option Addr) (c2 : Nat) (l : List S56) (skip : Int) (w : World) (hg : HG w) (h : SndArg w r A c ls) (ht : TagArg w s u A2 c2 l) :
    Calls Tryd.prog 7 #[sndV r A ls.length c, tagV s u A2 l.length c2, .int .i64 skip] w fun e w' => e = .returned (.bool true) ∧ Below w.heap.size w w' := by
  have hrb := reachBytes_lt
  obtain ⟨b, hb, hbt⟩ := small_val r ls (by have := h.len; omega) (fun x hx => by have := h.each x hx; omega)
  obtain ⟨b', hb', hbt'⟩ := few_val l (by have := ht.len; omega) s u
  obtain ⟨w1, hw1⟩ : ∃ w1, w1 = (w.alloc (sndObj r A ls.length c)).alloc (tagObj s u A2 l.length c2) := ⟨_, rfl⟩
  have hb1 : Below w.heap.size w w1 := by rw [hw1]; exact below_alloc (below_alloc (Below.refl _ _) _) _
  have hbx : BX w w1 (sndObj r A ls.length c) (tagObj s u A2 l.length c2) := ⟨by rw [hw1]; exact alloc2_old w _ _, by rw [hw1]; exact alloc2_new w _ _, hb1⟩
  have HSM := Aside0.mk (shawmref02_Small.calls (ls.length + 2) r A c ls 20000 b w1 (Kd.C_below h.C hb1) h.cap hb)
  have HFW := Aside0.mk (fun W (hW : Below w.heap.size w W) => shawmlaw27_few.calls (l.length + 2) s u A2 c2 l b' W (Kd.C_below ht.C hW) ht.cap hb')
  have HBX := Aside0.mk hbx
  have HW1 := Aside0.mk hw1
  have HG0 := Aside0.mk hg
  have HAW := Aside0.mk (fun W hW => awake_any W hW)
  have z0 : w1.cell? ⟨w.heap.size, 0, none⟩ = some (.int .i64 r) := by rw [cell_of_row _ _ _ _ _ _ hbx.k1]; rfl
  have z1 : w1.cell? ⟨w.heap.size, 1, none⟩ = some (.slice A ls.length c) := by rw [cell_of_row _ _ _ _ _ _ hbx.k1]; rfl
  have HT := Aside0.mk ht
  have HS := Aside0.mk h
  have HBT := Aside0.mk hbt
  have HBT' := Aside0.mk hbt'
  cases b with
  | false =>
    clear hb hbt hb' hbt' hb1 hbx hw1 hg h ht hrb
    go_enter Tryd.func7, Tryd.ntmps7
    go_wp2_with fail
    rw [← HW1.out]
    refine HSM.out.mono ?_
    rintro e w2 ⟨rfl, hb2⟩
    have HB2 := Aside0.mk (HBX.out.below hb2)
    clear hb2 z0 z1
    go_wp2_with fail
    refine (HAW.out w2 (HG0.out.below HB2.out.bel)).mono ?_
    rintro e w3 ⟨rfl, hb3⟩
    have HB3 := Aside0.mk (HB2.out.below hb3)
    clear hb3
    go_wp2_with fail
    go_ret
    exact ⟨rfl, HB3.out.bel⟩
  | true =>
    clear hb hbt hb' hbt' hb1 hbx hw1 hg h ht hrb
    go_enter Tryd.func7, Tryd.ntmps7
    go_wp2_with fail
    rw [← HW1.out]
    refine HSM.out.mono ?_
    rintro e w2 ⟨rfl, hb2⟩
    have HB2 := Aside0.mk (HBX.out.below hb2)
    have y0 : w2.cell? ⟨w.heap.size + 1, 0, none⟩ = some (.int .i64 s) := by rw [cell_of_row _ _ _ _ _ _ HB2.out.k2]; rfl
    have y1 : w2.cell? ⟨w.heap.size + 1, 1, none⟩ = some (.int .i64 u) := by rw [cell_of_row _ _ _ _ _ _ HB2.out.k2]; rfl
    have y2 : w2.cell? ⟨w.heap.size + 1, 2, none⟩ = some (.slice A2 l.length c2) := by rw [cell_of_row _ _ _ _ _ _ HB2.out.k2]; rfl
    clear hb2 z0 z1
    go_wp2_with fail
    refine (HFW.out w2 HB2.out.bel).mono ?_
    rintro e w3 ⟨rfl, hb3⟩
    have HB3 := Aside0.mk (HB2.out.below hb3)
    clear hb3 y0 y1 y2
    cases b' with
    | false =>
      go_wp2_with fail
      refine (HAW.out w3 (HG0.out.below HB3.out.bel)).mono ?_
      rintro e w4 ⟨rfl, hb4⟩
      have HB4 := Aside0.mk (HB3.out.below hb4)
      clear hb4
      go_wp2_with fail
      go_ret
      exact ⟨rfl, HB4.out.bel⟩
    | true =>
      obtain ⟨hl1, hl2⟩ := HBT.out (by first | rfl | trivial)
      have hl3 := HBT'.out (by first | rfl | trivial)
      have HCD : Aside0 (∀ W, Below w.heap.size w W → CD W A c ls) := ⟨fun W hW => CD.below ⟨HS.out.C, HS.out.cap, ⟨by omega, fun x hx => by have := hl2 x hx; omega⟩⟩ hW⟩
      have HFD : Aside0 (∀ W, Below w.heap.size w W → FD W A2 c2 l) := ⟨fun W hW => FD.below ⟨HT.out.C, HT.out.cap, by omega⟩ hW⟩
      have hrb := reachBytes_lt
      have HTV := Aside0.mk (trim_val r ls s u l (by omega) (by omega) reachBytes (fun p hp => (HT.out.each p hp).1) (by omega) (reachBytes + 2 * l.length + 20005) (by omega))
      have HGV := Aside0.mk (grown_val r ls skip (by omega) 20005 (by omega))
      have htl := fTrim_len r ls ⟨s, u, l⟩
      have hgl := fGrown_len r ls skip
      have HTA := Aside0.mk (fun W h1 h2 h3 => Trim_any r A c ls ⟨s, u, l⟩ A2 c2 W h1 h2 h3)
      have HGA := Aside0.mk (fun W h1 h2 => Grown_any r A c ls skip W h1 h2)
      unfold TrimPost at HTA
      unfold GrownPost at HGA
      obtain ⟨⟨r1, g1, e1⟩, hft⟩ : ∃ q, fTrim r ls ⟨s, u, l⟩ = q := ⟨_, rfl⟩
      obtain ⟨⟨r2, g2, ⟨s2, u2, f2⟩, e2⟩, hfg⟩ : ∃ q, fGrown r ls skip = q := ⟨_, rfl⟩
      rw [hft] at HTV HTA htl
      rw [hfg] at HGV HGA hgl
      dsimp only at HTV HTA htl HGV HGA hgl
      have HTL := Aside0.mk htl
      have HGL := Aside0.mk hgl
      obtain ⟨K1, hK1⟩ : ∃ K1, reachBytes + 2 * l.length + 20005 = K1 := ⟨_, rfl⟩
      rw [hK1] at HTV
      have HSS1 := Aside0.mk (snd_same r1 g1 (by omega) (fun x hx => by have := htl.2 x hx; omega))
      have HSS2 := Aside0.mk (snd_same r2 g2 (by omega) (fun x hx => by have := hgl.2.1 x hx; omega))
      clear hl1 hl2 hl3 hrb htl hgl hft hfg hK1
      have y0 : w3.cell? ⟨w.heap.size + 1, 0, none⟩ = some (.int .i64 s) := by rw [cell_of_row _ _ _ _ _ _ HB3.out.k2]; rfl
      have y1 : w3.cell? ⟨w.heap.size + 1, 1, none⟩ = some (.int .i64 u) := by rw [cell_of_row _ _ _ _ _ _ HB3.out.k2]; rfl
      have y2 : w3.cell? ⟨w.heap.size + 1, 2, none⟩ = some (.slice A2 l.length c2) := by rw [cell_of_row _ _ _ _ _ _ HB3.out.k2]; rfl
      have z0 : w3.cell? ⟨w.heap.size, 0, none⟩ = some (.int .i64 r) := by rw [cell_of_row _ _ _ _ _ _ HB3.out.k1]; rfl
      have z1 : w3.cell? ⟨w.heap.size, 1, none⟩ = some (.slice A ls.length c) := by rw [cell_of_row _ _ _ _ _ _ HB3.out.k1]; rfl
      go_wp2_with fail
      refine (HTA.out w3 (HCD.out w3 HB3.out.bel) (HFD.out w3 HB3.out.bel) (HG0.out.below HB3.out.bel)).mono ?_
      rintro e w4 ⟨A4, c4, rfl, hrl4, hb4⟩
      obtain ⟨w5, hw5⟩ : ∃ w5, w5 = w4.alloc (sndObj r1 A4 g1.length c4) := ⟨_, rfl⟩
      have hb5 : Below w4.heap.size w4 w5 := by rw [hw5]; exact below_alloc (Below.refl _ _) _
      have HB5 := Aside0.mk ((HB3.out.below hb4).below hb5)
      have HK7 : Aside0 (w5.heap[w4.heap.size]? = some (sndObj r1 A4 g1.length c4)) := ⟨by rw [hw5]; exact World.alloc_heap_new _ _⟩
      have HRL5 := Aside0.mk (hrl4.below hb5)
      have HW5 := Aside0.mk hw5
      have y0 : (w4.alloc (sndObj r1 A4 g1.length c4)).cell? ⟨w.heap.size + 1, 0, none⟩ = some (.int .i64 s) := by rw [← hw5, cell_of_row _ _ _ _ _ _ HB5.out.k2]; rfl
      have y1 : (w4.alloc (sndObj r1 A4 g1.length c4)).cell? ⟨w.heap.size + 1, 1, none⟩ = some (.int .i64 u) := by rw [← hw5, cell_of_row _ _ _ _ _ _ HB5.out.k2]; rfl
      have y2 : (w4.alloc (sndObj r1 A4 g1.length c4)).cell? ⟨w.heap.size + 1, 2, none⟩ = some (.slice A2 l.length c2) := by rw [← hw5, cell_of_row _ _ _ _ _ _ HB5.out.k2]; rfl
      have z0 : (w4.alloc (sndObj r1 A4 g1.length c4)).cell? ⟨w.heap.size, 0, none⟩ = some (.int .i64 r) := by rw [← hw5, cell_of_row _ _ _ _ _ _ HB5.out.k1]; rfl
      have z1 : (w4.alloc (sndObj r1 A4 g1.length c4)).cell? ⟨w.heap.size, 1, none⟩ = some (.slice A ls.length c) := by rw [← hw5, cell_of_row _ _ _ _ _ _ HB5.out.k1]; rfl
      clear hrl4 hb4 hw5 hb5
      go_wp2_with fail
      rw [← HW5.out]
      have hcd := HCD.out w5 HB5.out.bel
      have hfd := HFD.out w5 HB5.out.bel
      refine (shawmref27_Trim.calls K1 r A c ls s u A2 c2 l r1 g1 e1 w5 hcd.C hcd.cap hfd.C hfd.cap HTV.out).mono ?_
      rintro e w6 ⟨v6, rfl, hs6, hb6⟩
      obtain ⟨A6, c6, ev, hc6, hC6⟩ := Kd.S_reads hs6
      subst ev
      obtain ⟨w7, hw7⟩ : ∃ w7, w7 = w6.alloc (sndObj r1 A6 g1.length c6) := ⟨_, rfl⟩
      have hb7 : Below w6.heap.size w6 w7 := by rw [hw7]; exact below_alloc (Below.refl _ _) _
      have hb57 := hb6.trans (hb7.mono hb6.size)
      have HB7 := Aside0.mk (HB5.out.below hb57)
      have HK77 : Aside0 (w7.heap[w4.heap.size]? = some (sndObj r1 A4 g1.length c4)) := ⟨(hb57.block _ (lt_of_block HK7.out)).trans HK7.out⟩
      have HK97 : Aside0 (w7.heap[w6.heap.size]? = some (sndObj r1 A6 g1.length c6)) := ⟨by rw [hw7]; exact World.alloc_heap_new _ _⟩
      have HRL7 := Aside0.mk (HRL5.out.below hb57)
      have HC67 := Aside0.mk (Kd.C_below hC6 hb7)
      have HCC6 := Aside0.mk hc6
      have HW7 := Aside0.mk hw7
      have z0 : (w6.alloc (sndObj r1 A6 g1.length c6)).cell? ⟨w.heap.size, 0, none⟩ = some (.int .i64 r) := by rw [← hw7, cell_of_row _ _ _ _ _ _ HB7.out.k1]; rfl
      have z1 : (w6.alloc (sndObj r1 A6 g1.length c6)).cell? ⟨w.heap.size, 1, none⟩ = some (.slice A ls.length c) := by rw [← hw7, cell_of_row _ _ _ _ _ _ HB7.out.k1]; rfl
      clear hs6 hb6 hw7 hb7 hb57 hC6 hc6 hcd hfd y0 y1 y2
      go_wp2_with fail
      rw [← HW7.out]
      refine (HGA.out w7 (HCD.out w7 HB7.out.bel) (HG0.out.below HB7.out.bel)).mono ?_
      rintro e w8 ⟨A8, c8, rfl, hrl8, hb8⟩
      obtain ⟨w9, hw9⟩ : ∃ w9, w9 = (w8.alloc (sndObj r2 A8 g2.length c8)).alloc (tagObj s2 u2 none 0 0) := ⟨_, rfl⟩
      have hb9 : Below w8.heap.size w8 w9 := by rw [hw9]; exact below_alloc (below_alloc (Below.refl _ _) _) _
      have hb79 := hb8.trans (hb9.mono hb8.size)
      have HB9 := Aside0.mk (HB7.out.below hb79)
      have HK79 : Aside0 (w9.heap[w4.heap.size]? = some (sndObj r1 A4 g1.length c4)) := ⟨(hb79.block _ (lt_of_block HK77.out)).trans HK77.out⟩
      have HK99 : Aside0 (w9.heap[w6.heap.size]? = some (sndObj r1 A6 g1.length c6)) := ⟨(hb79.block _ (lt_of_block HK97.out)).trans HK97.out⟩
      have HK11 : Aside0 (w9.heap[w8.heap.size]? = some (sndObj r2 A8 g2.length c8)) := ⟨by rw [hw9]; exact alloc2_old _ _ _⟩
      have HK12 : Aside0 (w9.heap[w8.heap.size + 1]? = some (tagObj s2 u2 none 0 0)) := ⟨by rw [hw9]; exact alloc2_new _ _ _⟩
      have HRL9 := Aside0.mk (HRL7.out.below hb79)
      have HC69 := Aside0.mk (Kd.C_below HC67.out hb79)
      have HRL89 := Aside0.mk (hrl8.below hb9)
      have HW9 := Aside0.mk hw9
      have z0 : ((w8.alloc (sndObj r2 A8 g2.length c8)).alloc (tagObj s2 u2 none 0 0)).cell? ⟨w.heap.size, 0, none⟩ = some (.int .i64 r) := by rw [← hw9, cell_of_row _ _ _ _ _ _ HB9.out.k1]; rfl
      have z1 : ((w8.alloc (sndObj r2 A8 g2.length c8)).alloc (tagObj s2 u2 none 0 0)).cell? ⟨w.heap.size, 1, none⟩ = some (.slice A ls.length c) := by rw [← hw9, cell_of_row _ _ _ _ _ _ HB9.out.k1]; rfl
      clear hrl8 hb8 hw9 hb9 hb79
      go_wp2_with fail
      rw [← HW9.out]
      have hcd := HCD.out w9 HB9.out.bel
      refine (shawmref27_Grown.calls 20005 r A c ls skip r2 g2 s2 u2 [] e2 w9 hcd.C hcd.cap HGV.out).mono ?_
      rintro e w10 ⟨v10, v10', rfl, hs10, hr10, hb10⟩
      obtain ⟨A10, c10, ev, hc10, hC10⟩ := Kd.S_reads hs10
      subst ev
      obtain ⟨A10', c10', ev, hc10', hC10'⟩ := Kd.R_reads hr10
      replace ev : v10' = .slice A10' 0 c10' := ev
      subst ev
      obtain ⟨wa, hwa⟩ : ∃ wa, wa = (w10.alloc (sndObj r2 A10 g2.length c10)).alloc (tagObj s2 u2 A10' 0 c10') := ⟨_, rfl⟩
      have hba : Below w10.heap.size w10 wa := by rw [hwa]; exact below_alloc (below_alloc (Below.refl _ _) _) _
      have hb9a := hb10.trans (hba.mono hb10.size)
      have HBa := Aside0.mk (HB9.out.below hb9a)
      have HK7a := (hb9a.block _ (lt_of_block HK79.out)).trans HK79.out
      have HK9a := (hb9a.block _ (lt_of_block HK99.out)).trans HK99.out
      have HK11a := Aside0.mk ((hb9a.block _ (lt_of_block HK11.out)).trans HK11.out)
      have HK12a := Aside0.mk ((hb9a.block _ (lt_of_block HK12.out)).trans HK12.out)
      have HK14 : Aside0 (wa.heap[w10.heap.size]? = some (sndObj r2 A10 g2.length c10)) := ⟨by rw [hwa]; exact alloc2_old _ _ _⟩
      have HK15 : Aside0 (wa.heap[w10.heap.size + 1]? = some (tagObj s2 u2 A10' 0 c10')) := ⟨by rw [hwa]; exact alloc2_new _ _ _⟩
      have hrla := HRL9.out.below hb9a
      have hc6a := Kd.C_below HC69.out hb9a
      have HRL8a := Aside0.mk (HRL89.out.below hb9a)
      have HC10a := Aside0.mk (Kd.C_below hC10 hba)
      have HCC10 := Aside0.mk hc10
      have HFDa : Aside0 (FD wa A10' c10' []) := ⟨⟨Kd.C_below hC10' hba, hc10', by decide⟩⟩
      have HWa := Aside0.mk hwa
      have htl := HTL.out
      have hcd1 := RL.cd hrla rfl (by omega) (fun x hx => by have := htl.2 x hx; omega)
      have HPS := Aside0.mk (shawmref02_Same.calls (2000010 + 1) r1 A4 c4 g1 r1 A6 c6 g1 true wa hcd1.C hcd1.cap hc6a HCC6.out HSS1.out)
      have z0 : ((w10.alloc (sndObj r2 A10 g2.length c10)).alloc (tagObj s2 u2 A10' 0 c10')).cell? ⟨w4.heap.size, 0, none⟩ = some (.int .i64 r1) := by rw [← hwa, cell_of_row _ _ _ _ _ _ HK7a]; rfl
      have z1 : ((w10.alloc (sndObj r2 A10 g2.length c10)).alloc (tagObj s2 u2 A10' 0 c10')).cell? ⟨w4.heap.size, 1, none⟩ = some (.slice A4 g1.length c4) := by rw [← hwa, cell_of_row _ _ _ _ _ _ HK7a]; rfl
      have y0 : ((w10.alloc (sndObj r2 A10 g2.length c10)).alloc (tagObj s2 u2 A10' 0 c10')).cell? ⟨w6.heap.size, 0, none⟩ = some (.int .i64 r1) := by rw [← hwa, cell_of_row _ _ _ _ _ _ HK9a]; rfl
      have y1 : ((w10.alloc (sndObj r2 A10 g2.length c10)).alloc (tagObj s2 u2 A10' 0 c10')).cell? ⟨w6.heap.size, 1, none⟩ = some (.slice A6 g1.length c6) := by rw [← hwa, cell_of_row _ _ _ _ _ _ HK9a]; rfl
      clear hcd hs10 hr10 hb10 hc10 hC10 hc10' hC10' hwa hba hb9a HK7a HK9a hrla hc6a htl hcd1
      go_wp2_with fail
      rw [← HWa.out]
      refine HPS.out.mono ?_
      rintro e wb ⟨rfl, hbb⟩
      have HBb := Aside0.mk (HBa.out.below hbb)
      have hk11 := (hbb.block _ (lt_of_block HK11a.out)).trans HK11a.out
      have hk14 := (hbb.block _ (lt_of_block HK14.out)).trans HK14.out
      have HK12b := Aside0.mk ((hbb.block _ (lt_of_block HK12a.out)).trans HK12a.out)
      have HK15b := Aside0.mk ((hbb.block _ (lt_of_block HK15.out)).trans HK15.out)
      have HFDb := Aside0.mk (HFDa.out.below hbb)
      have hgl := HGL.out
      have hcd1 := RL.cd (HRL8a.out.below hbb) rfl (by omega) (fun x hx => by have := hgl.2.1 x hx; omega)
      have HPS2 := Aside0.mk (shawmref02_Same.calls (2000010 + 1) r2 A8 c8 g2 r2 A10 c10 g2 true wb hcd1.C hcd1.cap (Kd.C_below HC10a.out hbb) HCC10.out HSS2.out)
      have z0 : wb.cell? ⟨w8.heap.size, 0, none⟩ = some (.int .i64 r2) := by rw [cell_of_row _ _ _ _ _ _ hk11]; rfl
      have z1 : wb.cell? ⟨w8.heap.size, 1, none⟩ = some (.slice A8 g2.length c8) := by rw [cell_of_row _ _ _ _ _ _ hk11]; rfl
      have y0 : wb.cell? ⟨w10.heap.size, 0, none⟩ = some (.int .i64 r2) := by rw [cell_of_row _ _ _ _ _ _ hk14]; rfl
      have y1 : wb.cell? ⟨w10.heap.size, 1, none⟩ = some (.slice A10 g2.length c10) := by rw [cell_of_row _ _ _ _ _ _ hk14]; rfl
      clear hbb hk11 hk14 hgl hcd1
      go_wp2_with fail
      refine HPS2.out.mono ?_
      rintro e wc ⟨rfl, hbc⟩
      have HBc := Aside0.mk (HBb.out.below hbc)
      have hk12 := (hbc.block _ (lt_of_block HK12b.out)).trans HK12b.out
      have hk15 := (hbc.block _ (lt_of_block HK15b.out)).trans HK15b.out
      have HST : Aside0 (Calls Tryd.prog 20 #[tagV s2 u2 none 0 0, tagV s2 u2 A10' 0 c10'] wc fun e w' => e = .returned (.bool true) ∧ Below wc.heap.size wc w') := ⟨SameTag_any s2 u2 none A10' 0 c10' [] wc (FD.nil wc 0) (HFDb.out.below hbc)⟩
      have z0 : wc.cell? ⟨w8.heap.size + 1, 0, none⟩ = some (.int .i64 s2) := by rw [cell_of_row _ _ _ _ _ _ hk12]; rfl
      have z1 : wc.cell? ⟨w8.heap.size + 1, 1, none⟩ = some (.int .i64 u2) := by rw [cell_of_row _ _ _ _ _ _ hk12]; rfl
      have z2 : wc.cell? ⟨w8.heap.size + 1, 2, none⟩ = some (.slice none 0 0) := by rw [cell_of_row _ _ _ _ _ _ hk12]; rfl
      have y0 : wc.cell? ⟨w10.heap.size + 1, 0, none⟩ = some (.int .i64 s2) := by rw [cell_of_row _ _ _ _ _ _ hk15]; rfl
      have y1 : wc.cell? ⟨w10.heap.size + 1, 1, none⟩ = some (.int .i64 u2) := by rw [cell_of_row _ _ _ _ _ _ hk15]; rfl
      have y2 : wc.cell? ⟨w10.heap.size + 1, 2, none⟩ = some (.slice A10' 0 c10') := by rw [cell_of_row _ _ _ _ _ _ hk15]; rfl
      clear hbc hk12 hk15
      go_wp2_with fail
      refine HST.out.mono ?_
      rintro e wd ⟨rfl, hbd⟩
      have HBd := Aside0.mk (HBc.out.below hbd)
      clear hbd z0 z1 z2 y0 y1 y2
      go_wp2_with fail
      refine (HAW.out wd (HG0.out.below HBd.out.bel)).mono ?_
      rintro e we ⟨rfl, hbe⟩
      have HBe := Aside0.mk (HBd.out.below hbe)
      clear hbe
      go_wp2_with fail
      go_ret
      exact ⟨rfl, HBe.out.bel⟩
end Go.Proofs.YthlmnnjbpikijaaDoor.P
