/- The contract of frame.parsed. -/
import Derived.Test.YtnaklnehichhpaaDoorKg
import Derived.Test.YtnaklnehichhpaaDoorBk
import Derived.Test.YtnaklnehichhpaaDoorBn
import Derived.Laws.EntriesVeiled
namespace Go.Proofs.YtnaklnehichhpaaDoor.P
open Go.RowKit Go.Shelf Go.Proofs.YtnaklnehichhpaaDoor.Bits Go.Proofs.YtnaklnehichhpaaDoorW.PrintWords Go.Proofs.YtnaklnehichhpaaDoorW.PrintLast Go.Proofs.YtnaklnehichhpaaDoorW.PrintMore
set_option linter.unusedVariables false
set_option linter.unusedSimpArgs false
attribute [local go_sem ↓] Go.wp_at_zero Go.wp_at_succ

abbrev ptrBox (p : Nat) : Obj := .cells #[.pointer (some ⟨p, 0, none⟩)] 107 (0, 0)
/-- The reader of parsed, and the variable that has it. -/
structure PS (w0 w : World) (S : Nat → Prop) (p b4 : Nat) (L : List Int) (a : Nat) : Prop where
  rd : Rd w S p L a
  box : w.heap[b4]? = some (ptrBox p)
  pge : w0.heap.size ≤ p
  bel : Below w0.heap.size w0 w
theorem PS.ne {w0 w : World} {S : Nat → Prop} {p b4 : Nat} {L : List Int} {a : Nat} (h : PS w0 w S p b4 L a) : b4 ≠ p := by
  obtain ⟨v, B, hb, _⟩ := h.rd.blk
  exact blk_ne h.box hb (by decide)
theorem PS.below {w0 w w' : World} {S : Nat → Prop} {p b4 : Nat} {L : List Int} {a : Nat} (h : PS w0 w S p b4 L a) (hb : Below w.heap.size w w') : PS w0 w' S p b4 L a :=
  ⟨h.rd.below hb, blk_fr h.box (Fr.below hb (fun _ => False)) (fun h => h), h.pge, h.bel.trans (hb.mono h.bel.size)⟩
theorem get_as (w0 : World) (S : Nat → Prop) (p b4 : Nat) (L : List Int) (a n : Nat) (x : Int) (w : World) (h : PS w0 w S p b4 L a) (hx : val ((L.drop a).take n) = x) (hn : n ≤ 32) (hl : a + n ≤ L.length) :
    Calls Tryd.prog 62 #[.int .i64 (n : Int), .pointer (some ⟨b4, 0, none⟩)] w fun e w' => e = .returned (.int .i64 x) ∧ PS w0 w' S p b4 L (a + n) ∧ Fr (fun k => k = p) w w' := by
  have hc := cell_of_one h.box
  have hg : rGet L a (n : Int) = (x, 0, a + n) := by
    unfold rGet
    rw [if_neg (by omega), if_neg (by omega), Int.toNat_natCast, hx]
  have HGET := Aside0.mk (Get_any S p a L (n : Int) w h.rd)
  rw [hg] at HGET
  have H := Aside0.mk h
  clear h hg hx
  go_enter Tryd.func62, Tryd.ntmps62
  go_wp2_with fail
  refine HGET.out.mono ?_
  rintro e w1 ⟨rfl, hr, hf⟩
  dsimp only at *
  have HR := Aside0.mk hr
  have HF := Aside0.mk hf
  clear hr hf
  go_wp2_with fail
  go_ret
  exact ⟨rfl, ⟨HR.out, blk_fr H.out.box HF.out (fun e => H.out.ne e), H.out.pge, H.out.bel.trans (HF.out.to_below H.out.bel.size (fun j hj => by subst hj; exact H.out.pge))⟩, HF.out⟩
theorem PS.set {w0 w : World} {S : Nat → Prop} {p b4 b7 : Nat} {L : List Int} {a : Nat} {cs : Array Value} (h : PS w0 w S p b4 L a) (hk : w.heap[b7]? = some (.cells cs 23 (0, 0))) (hb : w0.heap.size ≤ b7) (i : Nat) (v : Value) : PS w0 (w.setCell ⟨b7, i, none⟩ v) S p b4 L a := by
  have hf : Fr (fun k => k = b7) w (w.setCell ⟨b7, i, none⟩ v) := Fr.setCell (S := fun k => k = b7) (Fr.refl _ _) (p := ⟨b7, i, none⟩) (fun _ => rfl) v
  obtain ⟨u, B, hp, _⟩ := h.rd.blk
  refine ⟨h.rd.fr hf (fun e => blk_ne hk hp (by decide) e.symm) (fun k q e => ?_), blk_fr h.box hf (fun e => blk_ne hk h.box (by decide) e.symm), h.pge, h.bel.trans (hf.to_below h.bel.size (fun j hj => by subst hj; exact hb))⟩
  obtain ⟨cells, hc⟩ := h.rd.typed k q
  subst e
  rw [hk] at hc
  cases hc
theorem fr_setRow' (w : World) (g : Nat) (cs : Array Value) : Fr (fun k => k = g) w (w.setRow g cs) := ⟨rfl, rfl, rfl, by simp, fun k _ h => setRow_other w g k cs h⟩
/-- The error of parsed; 0: none. -/
def pErr (B : List Int) : Int := if gv B 0 12 ≠ 4013 then 8 else if gv B 54 2 ≠ 0 ∨ 9 ≤ gv B 20 4 then 4 else if okH (hdOf B) = false then 4 else 0
def ParsedPost (w : World) (B : List Int) (e : Ending) (w' : World) : Prop :=
  Below w.heap.size w w' ∧ if pErr B = 0 then e = .returned (.tuple #[(hdOf B).val, .int .i64 (gv B 34 11)]) else e = .panicked [{ v := errV (pErr B), recovered := false }]

set_option maxHeartbeats 8000000 in
set_option maxRecDepth 100000 in
theorem parsed_any (A : Option Addr) (c : Nat) (B : List Int) (w : World) (hC : Kd.C (Kd.int .u8) w A B.length B) (h8 : is8 B) (hB : 7 ≤ B.length) (hBl : B.length ≤ 1000000000) (hc : B.length ≤ c) (hg : HG w) :
    Calls Tryd.prog 54 #[.slice A B.length c] w (ParsedPost w B) := by
  have HGW := Aside0.mk hg
  have hoe : openE B 56 = 0 := by unfold openE; rw [if_neg (by omega), if_neg (by omega)]
  have hop := fun W h => Open_any A c B 56 W h h8 hBl hc
  have hop1 : ∀ W, Kd.C (Kd.int .u8) W A B.length B → Calls Tryd.prog 61 #[.slice A B.length c, .int .i64 56] W fun e w' => ∃ p S, e = .returned (.tuple #[.pointer (some ⟨p, 0, none⟩), .int .i64 0]) ∧ Rd w' S p (ofB B 56) 0 ∧ W.heap.size ≤ p ∧ (∀ k, S k → W.heap.size ≤ k) ∧ Below W.heap.size W w' := fun W h => (hop W h).mono fun e w' q => by unfold OpenPost at q; rwa [if_pos hoe] at q
  have HOP := Aside0.mk hop1
  have HC := Aside0.mk hC
  have hlL : (ofB B 56).length = 56 := ofB_length B 56
  obtain ⟨y0, hy0⟩ : ∃ y, gv B 0 12 = y := ⟨_, rfl⟩
  have bd0 := gv_bound B 0 12
  rw [hy0] at bd0
  simp only [Int.reducePow] at bd0
  have HX0 : Aside0 (val (((ofB B 56).drop 0).take 12) = y0) := ⟨hy0⟩
  obtain ⟨y1, hy1⟩ : ∃ y, gv B 12 6 = y := ⟨_, rfl⟩
  have bd1 := gv_bound B 12 6
  rw [hy1] at bd1
  simp only [Int.reducePow] at bd1
  have HX1 : Aside0 (val (((ofB B 56).drop 12).take 6) = y1) := ⟨hy1⟩
  obtain ⟨y2, hy2⟩ : ∃ y, gv B 18 1 = y := ⟨_, rfl⟩
  have bd2 := gv_bound B 18 1
  rw [hy2] at bd2
  simp only [Int.reducePow] at bd2
  have HX2 : Aside0 (val (((ofB B 56).drop 18).take 1) = y2) := ⟨hy2⟩
  obtain ⟨y3, hy3⟩ : ∃ y, gv B 19 1 = y := ⟨_, rfl⟩
  have bd3 := gv_bound B 19 1
  rw [hy3] at bd3
  simp only [Int.reducePow] at bd3
  have HX3 : Aside0 (val (((ofB B 56).drop 19).take 1) = y3) := ⟨hy3⟩
  obtain ⟨y4, hy4⟩ : ∃ y, gv B 20 4 = y := ⟨_, rfl⟩
  have bd4 := gv_bound B 20 4
  rw [hy4] at bd4
  simp only [Int.reducePow] at bd4
  have HX4 : Aside0 (val (((ofB B 56).drop 20).take 4) = y4) := ⟨hy4⟩
  obtain ⟨y5, hy5⟩ : ∃ y, gv B 24 3 = y := ⟨_, rfl⟩
  have bd5 := gv_bound B 24 3
  rw [hy5] at bd5
  simp only [Int.reducePow] at bd5
  have HX5 : Aside0 (val (((ofB B 56).drop 24).take 3) = y5) := ⟨hy5⟩
  obtain ⟨y6, hy6⟩ : ∃ y, gv B 27 7 = y := ⟨_, rfl⟩
  have bd6 := gv_bound B 27 7
  rw [hy6] at bd6
  simp only [Int.reducePow] at bd6
  have HX6 : Aside0 (val (((ofB B 56).drop 27).take 7) = y6) := ⟨hy6⟩
  obtain ⟨y7, hy7⟩ : ∃ y, gv B 34 11 = y := ⟨_, rfl⟩
  have bd7 := gv_bound B 34 11
  rw [hy7] at bd7
  simp only [Int.reducePow] at bd7
  have HX7 : Aside0 (val (((ofB B 56).drop 34).take 11) = y7) := ⟨hy7⟩
  obtain ⟨y8, hy8⟩ : ∃ y, gv B 45 9 = y := ⟨_, rfl⟩
  have bd8 := gv_bound B 45 9
  rw [hy8] at bd8
  simp only [Int.reducePow] at bd8
  have HX8 : Aside0 (val (((ofB B 56).drop 45).take 9) = y8) := ⟨hy8⟩
  obtain ⟨y9, hy9⟩ : ∃ y, gv B 54 2 = y := ⟨_, rfl⟩
  have bd9 := gv_bound B 54 2
  rw [hy9] at bd9
  simp only [Int.reducePow] at bd9
  have HX9 : Aside0 (val (((ofB B 56).drop 54).take 2) = y9) := ⟨hy9⟩
  obtain ⟨R, hR⟩ : ∃ R, rates.getD y4.toNat 0 = R := ⟨_, rfl⟩
  have HPE : Aside0 (∀ e w', ParsedPost w B e w' ↔ (Below w.heap.size w w' ∧ if pErr B = 0 then e = .returned (.tuple #[(hdOf B).val, .int .i64 y7]) else e = .panicked [{ v := errV (pErr B), recovered := false }])) := ⟨fun e w' => by unfold ParsedPost; rw [hy7]⟩
  have HP0 : Aside0 (y0 ≠ 4013 → pErr B = 8) := ⟨fun h => by unfold pErr; rw [← hy0] at h; rw [if_pos h]⟩
  have HP1 : Aside0 (y0 = 4013 → (y9 ≠ 0 ∨ 9 ≤ y4) → pErr B = 4) := ⟨fun h h' => by unfold pErr; rw [hy0, hy9, hy4, if_neg (by omega), if_pos h']⟩
  have HH : Aside0 (y4 < 9 → hdOf B = ⟨y1, (y2 == 1), R, y3 + 1, y5, y6 + 1, y8⟩) := ⟨fun _ => by unfold hdOf; rw [hy1, hy2, hy3, hy4, hy5, hy6, hy8, hR]; rfl⟩
  have HP2 : Aside0 (y0 = 4013 → ¬ (y9 ≠ 0 ∨ 9 ≤ y4) → pErr B = if okH ⟨y1, (y2 == 1), R, y3 + 1, y5, y6 + 1, y8⟩ = false then 4 else 0) := ⟨fun h h' => by
    unfold pErr
    rw [hy0, hy9, hy4, if_neg (by omega), if_neg h', HH.out (by omega)]⟩
  have HZ := fun W => Check_any ⟨y1, (y2 == 1), R, y3 + 1, y5, y6 + 1, y8⟩ W
  unfold HD.val at HZ
  dsimp only at HZ
  have HCK := Aside0.mk HZ
  have HRR := Aside0.mk hR
  clear hC h8 hg hop hop1 hoe hy0 hy1 hy2 hy3 hy4 hy5 hy6 hy7 hy8 hy9 HZ hR
  generalize ofB B 56 = L at *
  go_enter Tryd.func54, Tryd.ntmps54
  go_wp2_with fail
  obtain ⟨wa, hwa⟩ : ∃ wa, wa = w.alloc (.cells #[.int .i64 0, .bool false, .int .i64 0, .int .i64 0, .int .i64 0, .int .i64 0, .int .i64 0] 23) := ⟨_, rfl⟩
  rw [← hwa]
  have hba : Below w.heap.size w wa := by rw [hwa]; exact below_alloc (Below.refl _ _) _
  have hk2 : wa.heap[w.heap.size]? = some (.cells #[.int .i64 0, .bool false, .int .i64 0, .int .i64 0, .int .i64 0, .int .i64 0, .int .i64 0] 23 (0, 0)) := by rw [hwa]; exact World.alloc_heap_new w _
  obtain ⟨b2, hb2⟩ : ∃ b2, b2 = w.heap.size := ⟨_, rfl⟩
  rw [← hb2] at hk2 ⊢
  have HB2 := Aside0.mk hb2
  have HK2 := Aside0.mk hk2
  have HBA := Aside0.mk hba
  clear hwa hba hk2 hb2
  refine (HOP.out wa (Kd.C_below HC.out HBA.out)).mono ?_
  rintro e w1 ⟨p, S, rfl, hR, hp, hS, hb⟩
  have hb1 := HBA.out.trans (hb.mono HBA.out.size)
  obtain ⟨wb, hwb⟩ : ∃ wb, wb = w1.alloc (ptrBox p) := ⟨_, rfl⟩
  obtain ⟨b4, hb4⟩ : ∃ b4, b4 = w1.heap.size := ⟨_, rfl⟩
  have hbb : Below w1.heap.size w1 wb := by rw [hwb]; exact below_alloc (Below.refl _ _) _
  have HPS0 : Aside0 (PS w wb S p b4 L 0) := ⟨⟨hR.below hbb, by rw [hwb, hb4]; exact World.alloc_heap_new w1 _, Nat.le_trans HBA.out.size hp, hb1.trans (hbb.mono hb1.size)⟩⟩
  have HK20 := Aside0.mk (blk_fr (blk_fr HK2.out (Fr.below hb (fun _ => False)) (fun h => h)) (Fr.below hbb (fun _ => False)) (fun h => h))
  have HP2N : Aside0 (b2 ≠ p) := ⟨by have := HB2.out; have := lt_of_block HK2.out; omega⟩
  have HWB := Aside0.mk hwb
  have HB4 := Aside0.mk hb4
  clear hR hp hS hb hb1 hwb hb4 hbb HOP HC HBA HK2
  have hmf : ∀ (fn : Fn) (first cap : Array Value) (W : World), (Instr.makeFunc fn first cap).run Tryd.prog W = .ok (.func fn first cap) W := fun _ _ _ _ => rfl
  go_wp2_with fail
  rw [← HWB.out, ← HB4.out]
  refine (get_as w S p b4 L 0 12 y0 wb HPS0.out HX0.out (by omega) (by omega)).mono ?_
  rintro e wc0 ⟨rfl, hps, hf⟩
  have HPS1 : Aside0 (PS w wc0 S p b4 L 12) := ⟨hps⟩
  have HK21 := Aside0.mk (blk_fr HK20.out hf HP2N.out)
  clear hps hf HPS0
  by_cases h0 : y0 = 4013
  case neg =>
    have q0 : (y0 != 4013) = true := bne_iff_ne.2 h0
    go_wp2_with fail
    refine (refuse_yes 8 wc0).mono ?_
    rintro e w9 ⟨rfl, hw⟩
    obtain rfl := hw.symm
    go_wp2_with fail
    refine ⟨rfl, (HPE.out _ _).2 ⟨HPS1.out.bel, ?_⟩⟩
    rw [HP0.out h0]
    rfl
  have q0 : (y0 != 4013) = false := by rw [h0]; rfl
  go_wp2_with fail
  refine (refuse_no 8 wc0).mono ?_
  rintro e w9 ⟨rfl, hw⟩
  obtain rfl := hw.symm
  clear q0
  go_wp2_with fail
  refine (get_as w S p b4 L 12 6 y1 wc0 HPS1.out HX1.out (by omega) (by omega)).mono ?_
  rintro e wc1 ⟨rfl, hps, hf⟩
  have HPS2 : Aside0 (PS w wc1 S p b4 L 18) := ⟨hps⟩
  have HK22 := Aside0.mk (blk_fr HK21.out hf HP2N.out)
  clear hps hf HPS1
  go_wp2_with fail
  refine (get_as w S p b4 L 18 1 y2 wc1 HPS2.out HX2.out (by omega) (by omega)).mono ?_
  rintro e wc2 ⟨rfl, hps, hf⟩
  have HPS3 : Aside0 (PS w wc2 S p b4 L 19) := ⟨hps⟩
  have HK23 := Aside0.mk (blk_fr HK22.out hf HP2N.out)
  clear hps hf HPS2
  go_wp2_with fail
  refine (get_as w S p b4 L 19 1 y3 wc2 HPS3.out HX3.out (by omega) (by omega)).mono ?_
  rintro e wc3 ⟨rfl, hps, hf⟩
  have HPS4 : Aside0 (PS w wc3 S p b4 L 20) := ⟨hps⟩
  have HK24 := Aside0.mk (blk_fr HK23.out hf HP2N.out)
  clear hps hf HPS3
  have wp3 : IntKind.i64.wrap (y3 + 1) = y3 + 1 := IntWalk.i64_in _ (by omega)
  obtain ⟨w4, hw4⟩ : ∃ w4, w4 = wc3.alloc (.cells #[.int .i64 y1, .bool (y2 == 1), .int .i64 0, .int .i64 (y3 + 1), .int .i64 0, .int .i64 0, .int .i64 0] 23) := ⟨_, rfl⟩
  obtain ⟨b7, hb7⟩ : ∃ b7, b7 = wc3.heap.size := ⟨_, rfl⟩
  have hbb : Below wc3.heap.size wc3 w4 := by rw [hw4]; exact below_alloc (Below.refl _ _) _
  have HK74' : Aside0 (w4.heap[b7]? = some (.cells #[.int .i64 y1, .bool (y2 == 1), .int .i64 0, .int .i64 (y3 + 1), .int .i64 0, .int .i64 0, .int .i64 0] 23 (0, 0))) := ⟨by rw [hw4, hb7]; exact World.alloc_heap_new wc3 _⟩
  have HPS4' := Aside0.mk (HPS4.out.below hbb)
  have HK24' := Aside0.mk (blk_fr HK24.out (Fr.below hbb (fun _ => False)) (fun h => h))
  have HB7G : Aside0 (w.heap.size ≤ b7) := ⟨by rw [hb7]; exact HPS4.out.bel.size⟩
  have H27 : Aside0 (b2 ≠ b7) := ⟨by have := lt_of_block HK24.out; omega⟩
  have HP7N : Aside0 (b7 ≠ p) := ⟨by have := HPS4.out.rd.p_lt; omega⟩
  have HW4 := Aside0.mk hw4
  have HB7 := Aside0.mk hb7
  clear hw4 hb7 hbb HPS4 HK24
  rename Aside0 (PS w w4 S p b4 L 20) => HPS4
  rename Aside0 (w4.heap[b2]? = _) => HK24
  rename Aside0 (w4.heap[b7]? = _) => HK74
  go_wp2_with fail
  rw [← HW4.out, ← HB7.out]
  refine (get_as w S p b4 L 20 4 y4 w4 HPS4.out HX4.out (by omega) (by omega)).mono ?_
  rintro e wc4 ⟨rfl, hps, hf⟩
  have HPS5 : Aside0 (PS w wc4 S p b4 L 24) := ⟨hps⟩
  have HK25 := Aside0.mk (blk_fr HK24.out hf HP2N.out)
  have HK75 := Aside0.mk (blk_fr HK74.out hf HP7N.out)
  clear hps hf HPS4
  go_wp2_with fail
  refine (get_as w S p b4 L 24 3 y5 wc4 HPS5.out HX5.out (by omega) (by omega)).mono ?_
  rintro e wc5 ⟨rfl, hps, hf⟩
  have HPS6 : Aside0 (PS w wc5 S p b4 L 27) := ⟨hps⟩
  have HK26 := Aside0.mk (blk_fr HK25.out hf HP2N.out)
  have HK76 := Aside0.mk (blk_fr HK75.out hf HP7N.out)
  clear hps hf HPS5
  go_wp2_with fail
  refine (get_as w S p b4 L 27 7 y6 wc5 HPS6.out HX6.out (by omega) (by omega)).mono ?_
  rintro e wc6 ⟨rfl, hps, hf⟩
  have HPS7 : Aside0 (PS w wc6 S p b4 L 34) := ⟨hps⟩
  have HK27 := Aside0.mk (blk_fr HK26.out hf HP2N.out)
  have HK77 := Aside0.mk (blk_fr HK76.out hf HP7N.out)
  clear hps hf HPS6
  have wp6 : IntKind.i64.wrap (y6 + 1) = y6 + 1 := IntWalk.i64_in _ (by omega)
  have c4 : wc6.cell? ⟨b7, 4, none⟩ = some (.int .i64 0) := by rw [cell_of_row _ _ _ _ _ _ HK77.out]; rfl
  have f4 : wc6.frozen? ⟨b7, 4, none⟩ = false := blk_frozen HK77.out 4
  have c5 : wc6.cell? ⟨b7, 5, none⟩ = some (.int .i64 0) := by rw [cell_of_row _ _ _ _ _ _ HK77.out]; rfl
  have f5 : wc6.frozen? ⟨b7, 5, none⟩ = false := blk_frozen HK77.out 5
  obtain ⟨wd1, hwd1⟩ : ∃ wd1, wd1 = wc6.setCell ⟨b7, 4, none⟩ (.int .i64 y5) := ⟨_, rfl⟩
  have HK7d1 : Aside0 (wd1.heap[b7]? = some (.cells #[.int .i64 y1, .bool (y2 == 1), .int .i64 0, .int .i64 (y3 + 1), .int .i64 y5, .int .i64 0, .int .i64 0] 23 (0, 0))) := ⟨by rw [hwd1, heap_setCell_same _ _ _ _ _ _ HK77.out]; first | done | rfl⟩
  have HPSd1 : Aside0 (PS w wd1 S p b4 L 34) := ⟨by rw [hwd1]; exact HPS7.out.set HK77.out HB7G.out _ _⟩
  have HK2d1 : Aside0 (wd1.heap[b2]? = some (.cells #[.int .i64 0, .bool false, .int .i64 0, .int .i64 0, .int .i64 0, .int .i64 0, .int .i64 0] 23 (0, 0))) := ⟨by rw [hwd1, heap_setCell_other _ _ _ _ (show b2 ≠ b7 from H27.out)]; exact HK27.out⟩
  have HEwd1 := Aside0.mk hwd1
  clear hwd1
  obtain ⟨wd2, hwd2⟩ : ∃ wd2, wd2 = wd1.setCell ⟨b7, 5, none⟩ (.int .i64 (y6 + 1)) := ⟨_, rfl⟩
  have HK7d2 : Aside0 (wd2.heap[b7]? = some (.cells #[.int .i64 y1, .bool (y2 == 1), .int .i64 0, .int .i64 (y3 + 1), .int .i64 y5, .int .i64 (y6 + 1), .int .i64 0] 23 (0, 0))) := ⟨by rw [hwd2, heap_setCell_same _ _ _ _ _ _ HK7d1.out]; first | done | rfl⟩
  have HPSd2 : Aside0 (PS w wd2 S p b4 L 34) := ⟨by rw [hwd2]; exact HPSd1.out.set HK7d1.out HB7G.out _ _⟩
  have HK2d2 : Aside0 (wd2.heap[b2]? = some (.cells #[.int .i64 0, .bool false, .int .i64 0, .int .i64 0, .int .i64 0, .int .i64 0, .int .i64 0] 23 (0, 0))) := ⟨by rw [hwd2, heap_setCell_other _ _ _ _ (show b2 ≠ b7 from H27.out)]; exact HK2d1.out⟩
  have HEwd2 := Aside0.mk hwd2
  clear hwd2
  clear HPS7 HPSd1 HK27 HK2d1 HK77 HK7d1
  rename Aside0 (PS w wd2 S p b4 L 34) => HPS7
  rename Aside0 (wd2.heap[b2]? = _) => HK27
  rename Aside0 (wd2.heap[b7]? = _) => HK77
  go_wp2_with fail
  rw [← HEwd1.out, ← HEwd2.out]
  clear c4 f4 c5 f5
  refine (get_as w S p b4 L 34 11 y7 wd2 HPS7.out HX7.out (by omega) (by omega)).mono ?_
  rintro e wc7 ⟨rfl, hps, hf⟩
  have HPS8 : Aside0 (PS w wc7 S p b4 L 45) := ⟨hps⟩
  have HK28 := Aside0.mk (blk_fr HK27.out hf HP2N.out)
  have HK78 := Aside0.mk (blk_fr HK77.out hf HP7N.out)
  clear hps hf HPS7
  go_wp2_with fail
  refine (get_as w S p b4 L 45 9 y8 wc7 HPS8.out HX8.out (by omega) (by omega)).mono ?_
  rintro e wc8 ⟨rfl, hps, hf⟩
  have HPS9 : Aside0 (PS w wc8 S p b4 L 54) := ⟨hps⟩
  have HK29 := Aside0.mk (blk_fr HK28.out hf HP2N.out)
  have HK79 := Aside0.mk (blk_fr HK78.out hf HP7N.out)
  clear hps hf HPS8
  have c6 : wc8.cell? ⟨b7, 6, none⟩ = some (.int .i64 0) := by rw [cell_of_row _ _ _ _ _ _ HK79.out]; rfl
  have f6 : wc8.frozen? ⟨b7, 6, none⟩ = false := blk_frozen HK79.out 6
  obtain ⟨wd3, hwd3⟩ : ∃ wd3, wd3 = wc8.setCell ⟨b7, 6, none⟩ (.int .i64 y8) := ⟨_, rfl⟩
  have HK7d3 : Aside0 (wd3.heap[b7]? = some (.cells #[.int .i64 y1, .bool (y2 == 1), .int .i64 0, .int .i64 (y3 + 1), .int .i64 y5, .int .i64 (y6 + 1), .int .i64 y8] 23 (0, 0))) := ⟨by rw [hwd3, heap_setCell_same _ _ _ _ _ _ HK79.out]; first | done | rfl⟩
  have HPSd3 : Aside0 (PS w wd3 S p b4 L 54) := ⟨by rw [hwd3]; exact HPS9.out.set HK79.out HB7G.out _ _⟩
  have HK2d3 : Aside0 (wd3.heap[b2]? = some (.cells #[.int .i64 0, .bool false, .int .i64 0, .int .i64 0, .int .i64 0, .int .i64 0, .int .i64 0] 23 (0, 0))) := ⟨by rw [hwd3, heap_setCell_other _ _ _ _ (show b2 ≠ b7 from H27.out)]; exact HK29.out⟩
  have HEwd3 := Aside0.mk hwd3
  clear hwd3
  clear HPS9 HK29 HK79
  rename Aside0 (PS w wd3 S p b4 L 54) => HPS9
  rename Aside0 (wd3.heap[b2]? = _) => HK29
  rename Aside0 (wd3.heap[b7]? = _) => HK79
  go_wp2_with fail
  rw [← HEwd3.out]
  clear c6 f6
  refine (get_as w S p b4 L 54 2 y9 wd3 HPS9.out HX9.out (by omega) (by omega)).mono ?_
  rintro e wc9 ⟨rfl, hps, hf⟩
  have HPS10 : Aside0 (PS w wc9 S p b4 L 56) := ⟨hps⟩
  have HK210 := Aside0.mk (blk_fr HK29.out hf HP2N.out)
  have HK710 := Aside0.mk (blk_fr HK79.out hf HP7N.out)
  clear hps hf HPS9
  by_cases hbad : y9 ≠ 0 ∨ 9 ≤ y4
  case pos =>
    by_cases h9 : y9 = 0
    · have q9 : (y9 != 0) = false := by rw [h9]; rfl
      have q4 : decide (9 ≤ y4) = true := by simp; omega
      go_wp2_with fail
      refine (refuse_yes 4 wc9).mono ?_
      rintro e w9 ⟨rfl, hw⟩
      obtain rfl := hw.symm
      go_wp2_with fail
      refine ⟨rfl, (HPE.out _ _).2 ⟨HPS10.out.bel, ?_⟩⟩
      rw [HP1.out h0 hbad]
      rfl
    · have q9 : (y9 != 0) = true := bne_iff_ne.2 h9
      go_wp2_with fail
      refine (refuse_yes 4 wc9).mono ?_
      rintro e w9 ⟨rfl, hw⟩
      obtain rfl := hw.symm
      go_wp2_with fail
      refine ⟨rfl, (HPE.out _ _).2 ⟨HPS10.out.bel, ?_⟩⟩
      rw [HP1.out h0 hbad]
      rfl
  have hx9 : y9 = 0 := by omega
  have hx4 : y4 < 9 := by omega
  have q9 : (y9 != 0) = false := by rw [hx9]; rfl
  have q4 : decide (9 ≤ y4) = false := by simp; omega
  go_wp2_with fail
  refine (refuse_no 4 wc9).mono ?_
  rintro e w9 ⟨rfl, hw⟩
  obtain rfl := hw.symm
  obtain ⟨m, hm⟩ : ∃ m : Nat, y4 = (m : Int) := ⟨y4.toNat, by omega⟩
  subst hm
  have hm9 : m < 9 := by omega
  have hrm : rates.getD m 0 = R := by have := HRR.out; rwa [Int.toNat_natCast] at this
  obtain ⟨tt, fr, hgk⟩ := HGW.out.below HPS10.out.bel
  have cR : wc9.cell? ⟨0, m, none⟩ = some (.int .i64 R) := by
    rw [cell_of_row _ _ _ _ _ _ hgk, ← hrm]
    have h9 : m = 0 ∨ m = 1 ∨ m = 2 ∨ m = 3 ∨ m = 4 ∨ m = 5 ∨ m = 6 ∨ m = 7 ∨ m = 8 := by omega
    rcases h9 with rfl | rfl | rfl | rfl | rfl | rfl | rfl | rfl | rfl <;> rfl
  have c2 : wc9.cell? ⟨b7, 2, none⟩ = some (.int .i64 0) := by rw [cell_of_row _ _ _ _ _ _ HK710.out]; rfl
  have f2 : wc9.frozen? ⟨b7, 2, none⟩ = false := blk_frozen HK710.out 2
  have HK7e : Aside0 ((wc9.setCell ⟨b7, 2, none⟩ (.int .i64 R)).heap[b7]? = some (.cells #[.int .i64 y1, .bool (y2 == 1), .int .i64 R, .int .i64 (y3 + 1), .int .i64 y5, .int .i64 (y6 + 1), .int .i64 y8] 23 (0, 0))) := ⟨by rw [heap_setCell_same _ _ _ _ _ _ HK710.out]; first | done | rfl⟩
  have HPSe : Aside0 (PS w (wc9.setCell ⟨b7, 2, none⟩ (.int .i64 R)) S p b4 L 56) := ⟨HPS10.out.set HK710.out HB7G.out _ _⟩
  have HK2e : Aside0 ((wc9.setCell ⟨b7, 2, none⟩ (.int .i64 R)).heap[b2]? = some (.cells #[.int .i64 0, .bool false, .int .i64 0, .int .i64 0, .int .i64 0, .int .i64 0, .int .i64 0] 23 (0, 0))) := ⟨by rw [heap_setCell_other _ _ _ _ (show b2 ≠ b7 from H27.out)]; exact HK210.out⟩
  have e0 : (wc9.setCell ⟨b7, 2, none⟩ (.int .i64 R)).cell? ⟨b7, 0, none⟩ = some (Value.int .i64 y1) := by rw [cell_of_row _ _ _ _ _ _ HK7e.out]; rfl
  have e1 : (wc9.setCell ⟨b7, 2, none⟩ (.int .i64 R)).cell? ⟨b7, 1, none⟩ = some (Value.bool (y2 == 1)) := by rw [cell_of_row _ _ _ _ _ _ HK7e.out]; rfl
  have e2 : (wc9.setCell ⟨b7, 2, none⟩ (.int .i64 R)).cell? ⟨b7, 2, none⟩ = some (Value.int .i64 R) := by rw [cell_of_row _ _ _ _ _ _ HK7e.out]; rfl
  have e3 : (wc9.setCell ⟨b7, 2, none⟩ (.int .i64 R)).cell? ⟨b7, 3, none⟩ = some (Value.int .i64 (y3 + 1)) := by rw [cell_of_row _ _ _ _ _ _ HK7e.out]; rfl
  have e4 : (wc9.setCell ⟨b7, 2, none⟩ (.int .i64 R)).cell? ⟨b7, 4, none⟩ = some (Value.int .i64 y5) := by rw [cell_of_row _ _ _ _ _ _ HK7e.out]; rfl
  have e5 : (wc9.setCell ⟨b7, 2, none⟩ (.int .i64 R)).cell? ⟨b7, 5, none⟩ = some (Value.int .i64 (y6 + 1)) := by rw [cell_of_row _ _ _ _ _ _ HK7e.out]; rfl
  have e6 : (wc9.setCell ⟨b7, 2, none⟩ (.int .i64 R)).cell? ⟨b7, 6, none⟩ = some (Value.int .i64 y8) := by rw [cell_of_row _ _ _ _ _ _ HK7e.out]; rfl
  have HBE := Aside0.mk HPSe.out.bel
  clear hgk hrm HPS10 HK210 HPSe
  go_wp2_with fail
  refine (HCK.out _ (HGW.out.below HBE.out)).mono ?_
  rintro e wf ⟨rfl, hb⟩
  have HKF7 := Aside0.mk (blk_fr HK7e.out (Fr.below hb (fun _ => False)) (fun h => h))
  have HKF2 := Aside0.mk (blk_fr HK2e.out (Fr.below hb (fun _ => False)) (fun h => h))
  have HBF := Aside0.mk (HBE.out.trans (hb.mono HBE.out.size))
  have HPP := Aside0.mk (HP2.out h0 hbad)
  clear hb HK710 HK7e HK2e HBE cR c2 f2 e0 e1 e2 e3 e4 e5 e6
  cases hok : okH ⟨y1, (y2 == 1), R, y3 + 1, y5, y6 + 1, y8⟩ with
  | false =>
    rw [hok] at HPP
    go_wp2_with fail
    refine (refuse_yes 4 wf).mono ?_
    rintro e w9 ⟨rfl, hw⟩
    obtain rfl := hw.symm
    go_wp2_with fail
    refine ⟨rfl, (HPE.out _ _).2 ⟨HBF.out, ?_⟩⟩
    rw [HPP.out]
    rfl
  | true =>
    rw [hok] at HPP
    have g0 : wf.cell? ⟨b7, 0, none⟩ = some (Value.int .i64 y1) := by rw [cell_of_row _ _ _ _ _ _ HKF7.out]; rfl
    have g1 : wf.cell? ⟨b7, 1, none⟩ = some (Value.bool (y2 == 1)) := by rw [cell_of_row _ _ _ _ _ _ HKF7.out]; rfl
    have g2 : wf.cell? ⟨b7, 2, none⟩ = some (Value.int .i64 R) := by rw [cell_of_row _ _ _ _ _ _ HKF7.out]; rfl
    have g3 : wf.cell? ⟨b7, 3, none⟩ = some (Value.int .i64 (y3 + 1)) := by rw [cell_of_row _ _ _ _ _ _ HKF7.out]; rfl
    have g4 : wf.cell? ⟨b7, 4, none⟩ = some (Value.int .i64 y5) := by rw [cell_of_row _ _ _ _ _ _ HKF7.out]; rfl
    have g5 : wf.cell? ⟨b7, 5, none⟩ = some (Value.int .i64 (y6 + 1)) := by rw [cell_of_row _ _ _ _ _ _ HKF7.out]; rfl
    have g6 : wf.cell? ⟨b7, 6, none⟩ = some (Value.int .i64 y8) := by rw [cell_of_row _ _ _ _ _ _ HKF7.out]; rfl
    go_wp2_with fail
    refine (refuse_no 4 wf).mono ?_
    rintro e w9 ⟨rfl, hw⟩
    obtain rfl := hw.symm
    go_wp2_with (refine wpList_store_row rfl _ _ _ rfl b2 #[.int .i64 y1, .bool (y2 == 1), .int .i64 R, .int .i64 (y3 + 1), .int .i64 y5, .int .i64 (y6 + 1), .int .i64 y8] rfl rfl _ _ HKF2.out (by kernel_rfl) rfl (by kernel_rfl) ?_)
    (try simp only [Exit.inBlock, Exit.then])
    refine bodyPost_ret (results_ct rfl _ _ b2 _ _ _ _ rfl (setRow_heap _ _ _ _ _ _ HKF2.out) Tryd.underlying23 rfl (by kernel_rfl)) rfl ?_
    refine (HPE.out _ _).2 ⟨HBF.out.trans ((fr_setRow' _ _ _).to_below HBF.out.size (fun j hj => by have := HB2.out; omega)), ?_⟩
    have hpp : pErr B = 0 := by rw [HPP.out]; rfl
    rw [hpp, if_pos rfl, HH.out hx4]
    rfl
end Go.Proofs.YtnaklnehichhpaaDoor.P
