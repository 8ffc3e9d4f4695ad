/- The contracts of frame.refuse, caught. The contract of frame.parsed. The contract of frame.read. The contract of frame.Read. -/
import Derived.Test.YtnaklnehichhpaaDoorKe
import Derived.Recover
import Derived.Test.YtnaklnehichhpaaDoorBk
import Derived.Test.YtnaklnehichhpaaDoorBn
import Derived.Laws.EntriesVeiled
import Derived.Test.YtnaklnehichhpaaDoorBp
namespace Go.Proofs.YtnaklnehichhpaaDoor.P
section
open Go.RowKit Go.Shelf Go.Proofs.YtnaklnehichhpaaDoor.Bits Go.Proofs.YtnaklnehichhpaaDoorW.PrintWords Go.Proofs.YtnaklnehichhpaaDoorW.PrintLast Go.Proofs.YtnaklnehichhpaaDoorW.PrintMore
set_option linter.unusedVariables false
set_option linter.unusedSimpArgs false
attribute [local go_sem ↓] Go.wp_at_zero Go.wp_at_succ

/-- The error with which something leaves. -/
abbrev errV (e : Int) : Value := .iface 26 (.int .i64 e)
theorem refuse_no (e : Int) (w : World) : Calls Tryd.prog 53 #[.bool false, .int .i64 e] w fun r w' => r = .returned (.tuple #[]) ∧ w' = w := by
  go_enter Tryd.func53, Tryd.ntmps53
  go_wp2_with fail
  go_end0
  exact ⟨rfl, rfl⟩
theorem refuse_yes (e : Int) (w : World) : Calls Tryd.prog 53 #[.bool true, .int .i64 e] w fun r w' => r = .panicked [{ v := errV e, recovered := false }] ∧ w' = w := by
  go_enter Tryd.func53, Tryd.ntmps53
  go_wp2_with fail
  exact ⟨rfl, rfl, rfl⟩
set_option maxRecDepth 100000 in
theorem caught_idle (p : Addr) (w : World) : CallsD Tryd.prog 36 #[.pointer (some p)] .returning w fun r u' w' => r = .returned (.tuple #[]) ∧ u' = .returning ∧ w' = w := by
  refine callsD_of_wpS Tryd.func36 rfl fun c₀ cs hu => ?_
  apply wpS_seq
  apply wpS_region
  simp [wpOpsS, go_sem, recoverD, hu, Tryd.ntmps36, Exit.thenS]
  refine wpS_of_wp ?_
  go_wp2
  cases c₀
  simp_all [bodyPostS, results]
set_option maxHeartbeats 2000000 in
set_option maxRecDepth 100000 in
theorem caught_panic (p : Addr) (x e : Int) (older : List PanicEntry) (w : World) (hc : w.cell? p = some (.int .i64 x)) (hz : w.frozen? p = false) :
    CallsD Tryd.prog 36 #[.pointer (some p)] (.panicking ({ v := errV e, recovered := false } :: older)) w fun r u' w' => r = .returned (.tuple #[]) ∧ u' = .panicking ({ v := errV e, recovered := true } :: older) ∧ w' = w.setCell p (.int .i64 e) := by
  have hta : ∀ W : World, (Instr.typeAssert (errV e) 20 26 true).run Tryd.prog W = .ok (.tuple #[.int .i64 e, .bool true]) W := fun _ => by kernel_rfl
  refine callsD_of_wpS Tryd.func36 rfl fun c₀ cs hu => ?_
  apply wpS_seq
  apply wpS_region
  simp [wpOpsS, go_sem, recoverD, hu, Tryd.ntmps36, Exit.thenS]
  refine wpS_of_wp ?_
  go_wp2
  cases c₀
  simp_all [bodyPostS, results]
end
section
open Go.RowKit Go.Shelf Go.Proofs.YtnaklnehichhpaaDoor.Bits Go.Proofs.YtnaklnehichhpaaDoorW.PrintWords Go.Proofs.YtnaklnehichhpaaDoorW.PrintLast Go.Proofs.YtnaklnehichhpaaDoorW.PrintMore
set_option linter.unusedVariables false
set_option linter.unusedSimpArgs false
attribute [local go_sem ↓] Go.wp_at_zero Go.wp_at_succ

abbrev ptrBox (p : Nat) : Obj := .cells #[.pointer (some ⟨p, 0, none⟩)] 107 (0, 0)
/-- The reader of parsed, and the variable that has it. -/
structure PS (w0 w : World) (S : Nat → Prop) (p b4 : Nat) (L : List Int) (a : Nat) : Prop where
  rd : Rd w S p L a
  box : w.heap[b4]? = some (ptrBox p)
  pge : w0.heap.size ≤ p
  bel : Below w0.heap.size w0 w
theorem PS.ne {w0 w : World} {S : Nat → Prop} {p b4 : Nat} {L : List Int} {a : Nat} (h : PS w0 w S p b4 L a) : b4 ≠ p := by
  obtain ⟨v, B, hb, _⟩ := h.rd.blk
  exact blk_ne h.box hb (by decide)
theorem PS.below {w0 w w' : World} {S : Nat → Prop} {p b4 : Nat} {L : List Int} {a : Nat} (h : PS w0 w S p b4 L a) (hb : Below w.heap.size w w') : PS w0 w' S p b4 L a :=
  ⟨h.rd.below hb, blk_fr h.box (Fr.below hb (fun _ => False)) (fun h => h), h.pge, h.bel.trans (hb.mono h.bel.size)⟩
theorem get_as (w0 : World) (S : Nat → Prop) (p b4 : Nat) (L : List Int) (a n : Nat) (x : Int) (w : World) (h : PS w0 w S p b4 L a) (hx : val ((L.drop a).take n) = x) (hn : n ≤ 32) (hl : a + n ≤ L.length) :
    Calls Tryd.prog 62 #[.int .i64 (n : Int), .pointer (some ⟨b4, 0, none⟩)] w fun e w' => e = .returned (.int .i64 x) ∧ PS w0 w' S p b4 L (a + n) ∧ Fr (fun k => k = p) w w' := by
  have hc := cell_of_one h.box
  have hg : rGet L a (n : Int) = (x, 0, a + n) := by
    unfold rGet
    rw [if_neg (by omega), if_neg (by omega), Int.toNat_natCast, hx]
  have HGET := Aside0.mk (Get_any S p a L (n : Int) w h.rd)
  rw [hg] at HGET
  have H := Aside0.mk h
  clear h hg hx
  go_enter Tryd.func62, Tryd.ntmps62
  go_wp2_with fail
  refine HGET.out.mono ?_
  rintro e w1 ⟨rfl, hr, hf⟩
  dsimp only at *
  have HR := Aside0.mk hr
  have HF := Aside0.mk hf
  clear hr hf
  go_wp2_with fail
  go_ret
  exact ⟨rfl, ⟨HR.out, blk_fr H.out.box HF.out (fun e => H.out.ne e), H.out.pge, H.out.bel.trans (HF.out.to_below H.out.bel.size (fun j hj => by subst hj; exact H.out.pge))⟩, HF.out⟩
theorem PS.set {w0 w : World} {S : Nat → Prop} {p b4 b7 : Nat} {L : List Int} {a : Nat} {cs : Array Value} (h : PS w0 w S p b4 L a) (hk : w.heap[b7]? = some (.cells cs 23 (0, 0))) (hb : w0.heap.size ≤ b7) (i : Nat) (v : Value) : PS w0 (w.setCell ⟨b7, i, none⟩ v) S p b4 L a := by
  have hf : Fr (fun k => k = b7) w (w.setCell ⟨b7, i, none⟩ v) := Fr.setCell (S := fun k => k = b7) (Fr.refl _ _) (p := ⟨b7, i, none⟩) (fun _ => rfl) v
  obtain ⟨u, B, hp, _⟩ := h.rd.blk
  refine ⟨h.rd.fr hf (fun e => blk_ne hk hp (by decide) e.symm) (fun k q e => ?_), blk_fr h.box hf (fun e => blk_ne hk h.box (by decide) e.symm), h.pge, h.bel.trans (hf.to_below h.bel.size (fun j hj => by subst hj; exact hb))⟩
  obtain ⟨cells, hc⟩ := h.rd.typed k q
  subst e
  rw [hk] at hc
  cases hc
theorem fr_setRow' (w : World) (g : Nat) (cs : Array Value) : Fr (fun k => k = g) w (w.setRow g cs) := ⟨rfl, rfl, rfl, by simp, fun k _ h => setRow_other w g k cs h⟩
/-- The error of parsed; 0: none. -/
def pErr (B : List Int) : Int := if gv B 0 12 ≠ 4013 then 8 else if gv B 54 2 ≠ 0 ∨ 9 ≤ gv B 20 4 then 4 else if okH (hdOf B) = false then 4 else 0
def ParsedPost (w : World) (B : List Int) (e : Ending) (w' : World) : Prop :=
  Below w.heap.size w w' ∧ if pErr B = 0 then e = .returned (.tuple #[(hdOf B).val, .int .i64 (gv B 34 11)]) else e = .panicked [{ v := errV (pErr B), recovered := false }]

set_option maxHeartbeats 8000000 in
set_option maxRecDepth 100000 in
theorem parsed_any (A : Option Addr) (c : Nat) (B : List Int) (w : World) (hC : Kd.C (Kd.int .u8) w A B.length B) (h8 : is8 B) (hB : 7 ≤ B.length) (hBl : B.length ≤ 1000000000) (hc : B.length ≤ c) (hg : HG w) :
    Calls Tryd.prog 54 #[.slice A B.length c] w (ParsedPost w B) := by
  have HGW := Aside0.mk hg
  have hoe : openE B 56 = 0 := by unfold openE; rw [if_neg (by omega), if_neg (by omega)]
  have hop := fun W h => Open_any A c B 56 W h h8 hBl hc
  have hop1 : ∀ W, Kd.C (Kd.int .u8) W A B.length B → Calls Tryd.prog 61 #[.slice A B.length c, .int .i64 56] W fun e w' => ∃ p S, e = .returned (.tuple #[.pointer (some ⟨p, 0, none⟩), .int .i64 0]) ∧ Rd w' S p (ofB B 56) 0 ∧ W.heap.size ≤ p ∧ (∀ k, S k → W.heap.size ≤ k) ∧ Below W.heap.size W w' := fun W h => (hop W h).mono fun e w' q => by unfold OpenPost at q; rwa [if_pos hoe] at q
  have HOP := Aside0.mk hop1
  have HC := Aside0.mk hC
  have hlL : (ofB B 56).length = 56 := ofB_length B 56
  obtain ⟨y0, hy0⟩ : ∃ y, gv B 0 12 = y := ⟨_, rfl⟩
  have bd0 := gv_bound B 0 12
  rw [hy0] at bd0
  simp only [Int.reducePow] at bd0
  have HX0 : Aside0 (val (((ofB B 56).drop 0).take 12) = y0) := ⟨hy0⟩
  obtain ⟨y1, hy1⟩ : ∃ y, gv B 12 6 = y := ⟨_, rfl⟩
  have bd1 := gv_bound B 12 6
  rw [hy1] at bd1
  simp only [Int.reducePow] at bd1
  have HX1 : Aside0 (val (((ofB B 56).drop 12).take 6) = y1) := ⟨hy1⟩
  obtain ⟨y2, hy2⟩ : ∃ y, gv B 18 1 = y := ⟨_, rfl⟩
  have bd2 := gv_bound B 18 1
  rw [hy2] at bd2
  simp only [Int.reducePow] at bd2
  have HX2 : Aside0 (val (((ofB B 56).drop 18).take 1) = y2) := ⟨hy2⟩
  obtain ⟨y3, hy3⟩ : ∃ y, gv B 19 1 = y := ⟨_, rfl⟩
  have bd3 := gv_bound B 19 1
  rw [hy3] at bd3
  simp only [Int.reducePow] at bd3
  have HX3 : Aside0 (val (((ofB B 56).drop 19).take 1) = y3) := ⟨hy3⟩
  obtain ⟨y4, hy4⟩ : ∃ y, gv B 20 4 = y := ⟨_, rfl⟩
  have bd4 := gv_bound B 20 4
  rw [hy4] at bd4
  simp only [Int.reducePow] at bd4
  have HX4 : Aside0 (val (((ofB B 56).drop 20).take 4) = y4) := ⟨hy4⟩
  obtain ⟨y5, hy5⟩ : ∃ y, gv B 24 3 = y := ⟨_, rfl⟩
  have bd5 := gv_bound B 24 3
  rw [hy5] at bd5
  simp only [Int.reducePow] at bd5
  have HX5 : Aside0 (val (((ofB B 56).drop 24).take 3) = y5) := ⟨hy5⟩
  obtain ⟨y6, hy6⟩ : ∃ y, gv B 27 7 = y := ⟨_, rfl⟩
  have bd6 := gv_bound B 27 7
  rw [hy6] at bd6
  simp only [Int.reducePow] at bd6
  have HX6 : Aside0 (val (((ofB B 56).drop 27).take 7) = y6) := ⟨hy6⟩
  obtain ⟨y7, hy7⟩ : ∃ y, gv B 34 11 = y := ⟨_, rfl⟩
  have bd7 := gv_bound B 34 11
  rw [hy7] at bd7
  simp only [Int.reducePow] at bd7
  have HX7 : Aside0 (val (((ofB B 56).drop 34).take 11) = y7) := ⟨hy7⟩
  obtain ⟨y8, hy8⟩ : ∃ y, gv B 45 9 = y := ⟨_, rfl⟩
  have bd8 := gv_bound B 45 9
  rw [hy8] at bd8
  simp only [Int.reducePow] at bd8
  have HX8 : Aside0 (val (((ofB B 56).drop 45).take 9) = y8) := ⟨hy8⟩
  obtain ⟨y9, hy9⟩ : ∃ y, gv B 54 2 = y := ⟨_, rfl⟩
  have bd9 := gv_bound B 54 2
  rw [hy9] at bd9
  simp only [Int.reducePow] at bd9
  have HX9 : Aside0 (val (((ofB B 56).drop 54).take 2) = y9) := ⟨hy9⟩
  obtain ⟨R, hR⟩ : ∃ R, rates.getD y4.toNat 0 = R := ⟨_, rfl⟩
  have HPE : Aside0 (∀ e w', ParsedPost w B e w' ↔ (Below w.heap.size w w' ∧ if pErr B = 0 then e = .returned (.tuple #[(hdOf B).val, .int .i64 y7]) else e = .panicked [{ v := errV (pErr B), recovered := false }])) := ⟨fun e w' => by unfold ParsedPost; rw [hy7]⟩
  have HP0 : Aside0 (y0 ≠ 4013 → pErr B = 8) := ⟨fun h => by unfold pErr; rw [← hy0] at h; rw [if_pos h]⟩
  have HP1 : Aside0 (y0 = 4013 → (y9 ≠ 0 ∨ 9 ≤ y4) → pErr B = 4) := ⟨fun h h' => by unfold pErr; rw [hy0, hy9, hy4, if_neg (by omega), if_pos h']⟩
  have HH : Aside0 (y4 < 9 → hdOf B = ⟨y1, (y2 == 1), R, y3 + 1, y5, y6 + 1, y8⟩) := ⟨fun _ => by unfold hdOf; rw [hy1, hy2, hy3, hy4, hy5, hy6, hy8, hR]; rfl⟩
  have HP2 : Aside0 (y0 = 4013 → ¬ (y9 ≠ 0 ∨ 9 ≤ y4) → pErr B = if okH ⟨y1, (y2 == 1), R, y3 + 1, y5, y6 + 1, y8⟩ = false then 4 else 0) := ⟨fun h h' => by
    unfold pErr
    rw [hy0, hy9, hy4, if_neg (by omega), if_neg h', HH.out (by omega)]⟩
  have HZ := fun W => Check_any ⟨y1, (y2 == 1), R, y3 + 1, y5, y6 + 1, y8⟩ W
  unfold HD.val at HZ
  dsimp only at HZ
  have HCK := Aside0.mk HZ
  have HRR := Aside0.mk hR
  clear hC h8 hg hop hop1 hoe hy0 hy1 hy2 hy3 hy4 hy5 hy6 hy7 hy8 hy9 HZ hR
  generalize ofB B 56 = L at *
  go_enter Tryd.func54, Tryd.ntmps54
  go_wp2_with fail
  obtain ⟨wa, hwa⟩ : ∃ wa, wa = w.alloc (.cells #[.int .i64 0, .bool false, .int .i64 0, .int .i64 0, .int .i64 0, .int .i64 0, .int .i64 0] 23) := ⟨_, rfl⟩
  rw [← hwa]
  have hba : Below w.heap.size w wa := by rw [hwa]; exact below_alloc (Below.refl _ _) _
  have hk2 : wa.heap[w.heap.size]? = some (.cells #[.int .i64 0, .bool false, .int .i64 0, .int .i64 0, .int .i64 0, .int .i64 0, .int .i64 0] 23 (0, 0)) := by rw [hwa]; exact World.alloc_heap_new w _
  obtain ⟨b2, hb2⟩ : ∃ b2, b2 = w.heap.size := ⟨_, rfl⟩
  rw [← hb2] at hk2 ⊢
  have HB2 := Aside0.mk hb2
  have HK2 := Aside0.mk hk2
  have HBA := Aside0.mk hba
  clear hwa hba hk2 hb2
  refine (HOP.out wa (Kd.C_below HC.out HBA.out)).mono ?_
  rintro e w1 ⟨p, S, rfl, hR, hp, hS, hb⟩
  have hb1 := HBA.out.trans (hb.mono HBA.out.size)
  obtain ⟨wb, hwb⟩ : ∃ wb, wb = w1.alloc (ptrBox p) := ⟨_, rfl⟩
  obtain ⟨b4, hb4⟩ : ∃ b4, b4 = w1.heap.size := ⟨_, rfl⟩
  have hbb : Below w1.heap.size w1 wb := by rw [hwb]; exact below_alloc (Below.refl _ _) _
  have HPS0 : Aside0 (PS w wb S p b4 L 0) := ⟨⟨hR.below hbb, by rw [hwb, hb4]; exact World.alloc_heap_new w1 _, Nat.le_trans HBA.out.size hp, hb1.trans (hbb.mono hb1.size)⟩⟩
  have HK20 := Aside0.mk (blk_fr (blk_fr HK2.out (Fr.below hb (fun _ => False)) (fun h => h)) (Fr.below hbb (fun _ => False)) (fun h => h))
  have HP2N : Aside0 (b2 ≠ p) := ⟨by have := HB2.out; have := lt_of_block HK2.out; omega⟩
  have HWB := Aside0.mk hwb
  have HB4 := Aside0.mk hb4
  clear hR hp hS hb hb1 hwb hb4 hbb HOP HC HBA HK2
  have hmf : ∀ (fn : Fn) (first cap : Array Value) (W : World), (Instr.makeFunc fn first cap).run Tryd.prog W = .ok (.func fn first cap) W := fun _ _ _ _ => rfl
  go_wp2_with fail
  rw [← HWB.out, ← HB4.out]
  refine (get_as w S p b4 L 0 12 y0 wb HPS0.out HX0.out (by omega) (by omega)).mono ?_
  rintro e wc0 ⟨rfl, hps, hf⟩
  have HPS1 : Aside0 (PS w wc0 S p b4 L 12) := ⟨hps⟩
  have HK21 := Aside0.mk (blk_fr HK20.out hf HP2N.out)
  clear hps hf HPS0
  by_cases h0 : y0 = 4013
  case neg =>
    have q0 : (y0 != 4013) = true := bne_iff_ne.2 h0
    go_wp2_with fail
    refine (refuse_yes 8 wc0).mono ?_
    rintro e w9 ⟨rfl, hw⟩
    obtain rfl := hw.symm
    go_wp2_with fail
    refine ⟨rfl, (HPE.out _ _).2 ⟨HPS1.out.bel, ?_⟩⟩
    rw [HP0.out h0]
    rfl
  have q0 : (y0 != 4013) = false := by rw [h0]; rfl
  go_wp2_with fail
  refine (refuse_no 8 wc0).mono ?_
  rintro e w9 ⟨rfl, hw⟩
  obtain rfl := hw.symm
  clear q0
  go_wp2_with fail
  refine (get_as w S p b4 L 12 6 y1 wc0 HPS1.out HX1.out (by omega) (by omega)).mono ?_
  rintro e wc1 ⟨rfl, hps, hf⟩
  have HPS2 : Aside0 (PS w wc1 S p b4 L 18) := ⟨hps⟩
  have HK22 := Aside0.mk (blk_fr HK21.out hf HP2N.out)
  clear hps hf HPS1
  go_wp2_with fail
  refine (get_as w S p b4 L 18 1 y2 wc1 HPS2.out HX2.out (by omega) (by omega)).mono ?_
  rintro e wc2 ⟨rfl, hps, hf⟩
  have HPS3 : Aside0 (PS w wc2 S p b4 L 19) := ⟨hps⟩
  have HK23 := Aside0.mk (blk_fr HK22.out hf HP2N.out)
  clear hps hf HPS2
  go_wp2_with fail
  refine (get_as w S p b4 L 19 1 y3 wc2 HPS3.out HX3.out (by omega) (by omega)).mono ?_
  rintro e wc3 ⟨rfl, hps, hf⟩
  have HPS4 : Aside0 (PS w wc3 S p b4 L 20) := ⟨hps⟩
  have HK24 := Aside0.mk (blk_fr HK23.out hf HP2N.out)
  clear hps hf HPS3
  have wp3 : IntKind.i64.wrap (y3 + 1) = y3 + 1 := IntWalk.i64_in _ (by omega)
  obtain ⟨w4, hw4⟩ : ∃ w4, w4 = wc3.alloc (.cells #[.int .i64 y1, .bool (y2 == 1), .int .i64 0, .int .i64 (y3 + 1), .int .i64 0, .int .i64 0, .int .i64 0] 23) := ⟨_, rfl⟩
  obtain ⟨b7, hb7⟩ : ∃ b7, b7 = wc3.heap.size := ⟨_, rfl⟩
  have hbb : Below wc3.heap.size wc3 w4 := by rw [hw4]; exact below_alloc (Below.refl _ _) _
  have HK74' : Aside0 (w4.heap[b7]? = some (.cells #[.int .i64 y1, .bool (y2 == 1), .int .i64 0, .int .i64 (y3 + 1), .int .i64 0, .int .i64 0, .int .i64 0] 23 (0, 0))) := ⟨by rw [hw4, hb7]; exact World.alloc_heap_new wc3 _⟩
  have HPS4' := Aside0.mk (HPS4.out.below hbb)
  have HK24' := Aside0.mk (blk_fr HK24.out (Fr.below hbb (fun _ => False)) (fun h => h))
  have HB7G : Aside0 (w.heap.size ≤ b7) := ⟨by rw [hb7]; exact HPS4.out.bel.size⟩
  have H27 : Aside0 (b2 ≠ b7) := ⟨by have := lt_of_block HK24.out; omega⟩
  have HP7N : Aside0 (b7 ≠ p) := ⟨by have := HPS4.out.rd.p_lt; omega⟩
  have HW4 := Aside0.mk hw4
  have HB7 := Aside0.mk hb7
  clear hw4 hb7 hbb HPS4 HK24
  rename Aside0 (PS w w4 S p b4 L 20) => HPS4
  rename Aside0 (w4.heap[b2]? = _) => HK24
  rename Aside0 (w4.heap[b7]? = _) => HK74
  go_wp2_with fail
  rw [← HW4.out, ← HB7.out]
  refine (get_as w S p b4 L 20 4 y4 w4 HPS4.out HX4.out (by omega) (by omega)).mono ?_
  rintro e wc4 ⟨rfl, hps, hf⟩
  have HPS5 : Aside0 (PS w wc4 S p b4 L 24) := ⟨hps⟩
  have HK25 := Aside0.mk (blk_fr HK24.out hf HP2N.out)
  have HK75 := Aside0.mk (blk_fr HK74.out hf HP7N.out)
  clear hps hf HPS4
  go_wp2_with fail
  refine (get_as w S p b4 L 24 3 y5 wc4 HPS5.out HX5.out (by omega) (by omega)).mono ?_
  rintro e wc5 ⟨rfl, hps, hf⟩
  have HPS6 : Aside0 (PS w wc5 S p b4 L 27) := ⟨hps⟩
  have HK26 := Aside0.mk (blk_fr HK25.out hf HP2N.out)
  have HK76 := Aside0.mk (blk_fr HK75.out hf HP7N.out)
  clear hps hf HPS5
  go_wp2_with fail
  refine (get_as w S p b4 L 27 7 y6 wc5 HPS6.out HX6.out (by omega) (by omega)).mono ?_
  rintro e wc6 ⟨rfl, hps, hf⟩
  have HPS7 : Aside0 (PS w wc6 S p b4 L 34) := ⟨hps⟩
  have HK27 := Aside0.mk (blk_fr HK26.out hf HP2N.out)
  have HK77 := Aside0.mk (blk_fr HK76.out hf HP7N.out)
  clear hps hf HPS6
  have wp6 : IntKind.i64.wrap (y6 + 1) = y6 + 1 := IntWalk.i64_in _ (by omega)
  have c4 : wc6.cell? ⟨b7, 4, none⟩ = some (.int .i64 0) := by rw [cell_of_row _ _ _ _ _ _ HK77.out]; rfl
  have f4 : wc6.frozen? ⟨b7, 4, none⟩ = false := blk_frozen HK77.out 4
  have c5 : wc6.cell? ⟨b7, 5, none⟩ = some (.int .i64 0) := by rw [cell_of_row _ _ _ _ _ _ HK77.out]; rfl
  have f5 : wc6.frozen? ⟨b7, 5, none⟩ = false := blk_frozen HK77.out 5
  obtain ⟨wd1, hwd1⟩ : ∃ wd1, wd1 = wc6.setCell ⟨b7, 4, none⟩ (.int .i64 y5) := ⟨_, rfl⟩
  have HK7d1 : Aside0 (wd1.heap[b7]? = some (.cells #[.int .i64 y1, .bool (y2 == 1), .int .i64 0, .int .i64 (y3 + 1), .int .i64 y5, .int .i64 0, .int .i64 0] 23 (0, 0))) := ⟨by rw [hwd1, heap_setCell_same _ _ _ _ _ _ HK77.out]; first | done | rfl⟩
  have HPSd1 : Aside0 (PS w wd1 S p b4 L 34) := ⟨by rw [hwd1]; exact HPS7.out.set HK77.out HB7G.out _ _⟩
  have HK2d1 : Aside0 (wd1.heap[b2]? = some (.cells #[.int .i64 0, .bool false, .int .i64 0, .int .i64 0, .int .i64 0, .int .i64 0, .int .i64 0] 23 (0, 0))) := ⟨by rw [hwd1, heap_setCell_other _ _ _ _ (show b2 ≠ b7 from H27.out)]; exact HK27.out⟩
  have HEwd1 := Aside0.mk hwd1
  clear hwd1
  obtain ⟨wd2, hwd2⟩ : ∃ wd2, wd2 = wd1.setCell ⟨b7, 5, none⟩ (.int .i64 (y6 + 1)) := ⟨_, rfl⟩
  have HK7d2 : Aside0 (wd2.heap[b7]? = some (.cells #[.int .i64 y1, .bool (y2 == 1), .int .i64 0, .int .i64 (y3 + 1), .int .i64 y5, .int .i64 (y6 + 1), .int .i64 0] 23 (0, 0))) := ⟨by rw [hwd2, heap_setCell_same _ _ _ _ _ _ HK7d1.out]; first | done | rfl⟩
  have HPSd2 : Aside0 (PS w wd2 S p b4 L 34) := ⟨by rw [hwd2]; exact HPSd1.out.set HK7d1.out HB7G.out _ _⟩
  have HK2d2 : Aside0 (wd2.heap[b2]? = some (.cells #[.int .i64 0, .bool false, .int .i64 0, .int .i64 0, .int .i64 0, .int .i64 0, .int .i64 0] 23 (0, 0))) := ⟨by rw [hwd2, heap_setCell_other _ _ _ _ (show b2 ≠ b7 from H27.out)]; exact HK2d1.out⟩
  have HEwd2 := Aside0.mk hwd2
  clear hwd2
  clear HPS7 HPSd1 HK27 HK2d1 HK77 HK7d1
  rename Aside0 (PS w wd2 S p b4 L 34) => HPS7
  rename Aside0 (wd2.heap[b2]? = _) => HK27
  rename Aside0 (wd2.heap[b7]? = _) => HK77
  go_wp2_with fail
  rw [← HEwd1.out, ← HEwd2.out]
  clear c4 f4 c5 f5
  refine (get_as w S p b4 L 34 11 y7 wd2 HPS7.out HX7.out (by omega) (by omega)).mono ?_
  rintro e wc7 ⟨rfl, hps, hf⟩
  have HPS8 : Aside0 (PS w wc7 S p b4 L 45) := ⟨hps⟩
  have HK28 := Aside0.mk (blk_fr HK27.out hf HP2N.out)
  have HK78 := Aside0.mk (blk_fr HK77.out hf HP7N.out)
  clear hps hf HPS7
  go_wp2_with fail
  refine (get_as w S p b4 L 45 9 y8 wc7 HPS8.out HX8.out (by omega) (by omega)).mono ?_
  rintro e wc8 ⟨rfl, hps, hf⟩
  have HPS9 : Aside0 (PS w wc8 S p b4 L 54) := ⟨hps⟩
  have HK29 := Aside0.mk (blk_fr HK28.out hf HP2N.out)
  have HK79 := Aside0.mk (blk_fr HK78.out hf HP7N.out)
  clear hps hf HPS8
  have c6 : wc8.cell? ⟨b7, 6, none⟩ = some (.int .i64 0) := by rw [cell_of_row _ _ _ _ _ _ HK79.out]; rfl
  have f6 : wc8.frozen? ⟨b7, 6, none⟩ = false := blk_frozen HK79.out 6
  obtain ⟨wd3, hwd3⟩ : ∃ wd3, wd3 = wc8.setCell ⟨b7, 6, none⟩ (.int .i64 y8) := ⟨_, rfl⟩
  have HK7d3 : Aside0 (wd3.heap[b7]? = some (.cells #[.int .i64 y1, .bool (y2 == 1), .int .i64 0, .int .i64 (y3 + 1), .int .i64 y5, .int .i64 (y6 + 1), .int .i64 y8] 23 (0, 0))) := ⟨by rw [hwd3, heap_setCell_same _ _ _ _ _ _ HK79.out]; first | done | rfl⟩
  have HPSd3 : Aside0 (PS w wd3 S p b4 L 54) := ⟨by rw [hwd3]; exact HPS9.out.set HK79.out HB7G.out _ _⟩
  have HK2d3 : Aside0 (wd3.heap[b2]? = some (.cells #[.int .i64 0, .bool false, .int .i64 0, .int .i64 0, .int .i64 0, .int .i64 0, .int .i64 0] 23 (0, 0))) := ⟨by rw [hwd3, heap_setCell_other _ _ _ _ (show b2 ≠ b7 from H27.out)]; exact HK29.out⟩
  have HEwd3 := Aside0.mk hwd3
  clear hwd3
  clear HPS9 HK29 HK79
  rename Aside0 (PS w wd3 S p b4 L 54) => HPS9
  rename Aside0 (wd3.heap[b2]? = _) => HK29
  rename Aside0 (wd3.heap[b7]? = _) => HK79
  go_wp2_with fail
  rw [← HEwd3.out]
  clear c6 f6
  refine (get_as w S p b4 L 54 2 y9 wd3 HPS9.out HX9.out (by omega) (by omega)).mono ?_
  rintro e wc9 ⟨rfl, hps, hf⟩
  have HPS10 : Aside0 (PS w wc9 S p b4 L 56) := ⟨hps⟩
  have HK210 := Aside0.mk (blk_fr HK29.out hf HP2N.out)
  have HK710 := Aside0.mk (blk_fr HK79.out hf HP7N.out)
  clear hps hf HPS9
  by_cases hbad : y9 ≠ 0 ∨ 9 ≤ y4
  case pos =>
    by_cases h9 : y9 = 0
    · have q9 : (y9 != 0) = false := by rw [h9]; rfl
      have q4 : decide (9 ≤ y4) = true := by simp; omega
      go_wp2_with fail
      refine (refuse_yes 4 wc9).mono ?_
      rintro e w9 ⟨rfl, hw⟩
      obtain rfl := hw.symm
      go_wp2_with fail
      refine ⟨rfl, (HPE.out _ _).2 ⟨HPS10.out.bel, ?_⟩⟩
      rw [HP1.out h0 hbad]
      rfl
    · have q9 : (y9 != 0) = true := bne_iff_ne.2 h9
      go_wp2_with fail
      refine (refuse_yes 4 wc9).mono ?_
      rintro e w9 ⟨rfl, hw⟩
      obtain rfl := hw.symm
      go_wp2_with fail
      refine ⟨rfl, (HPE.out _ _).2 ⟨HPS10.out.bel, ?_⟩⟩
      rw [HP1.out h0 hbad]
      rfl
  have hx9 : y9 = 0 := by omega
  have hx4 : y4 < 9 := by omega
  have q9 : (y9 != 0) = false := by rw [hx9]; rfl
  have q4 : decide (9 ≤ y4) = false := by simp; omega
  go_wp2_with fail
  refine (refuse_no 4 wc9).mono ?_
  rintro e w9 ⟨rfl, hw⟩
  obtain rfl := hw.symm
  obtain ⟨m, hm⟩ : ∃ m : Nat, y4 = (m : Int) := ⟨y4.toNat, by omega⟩
  subst hm
  have hm9 : m < 9 := by omega
  have hrm : rates.getD m 0 = R := by have := HRR.out; rwa [Int.toNat_natCast] at this
  obtain ⟨tt, fr, hgk⟩ := HGW.out.below HPS10.out.bel
  have cR : wc9.cell? ⟨0, m, none⟩ = some (.int .i64 R) := by
    rw [cell_of_row _ _ _ _ _ _ hgk, ← hrm]
    have h9 : m = 0 ∨ m = 1 ∨ m = 2 ∨ m = 3 ∨ m = 4 ∨ m = 5 ∨ m = 6 ∨ m = 7 ∨ m = 8 := by omega
    rcases h9 with rfl | rfl | rfl | rfl | rfl | rfl | rfl | rfl | rfl <;> rfl
  have c2 : wc9.cell? ⟨b7, 2, none⟩ = some (.int .i64 0) := by rw [cell_of_row _ _ _ _ _ _ HK710.out]; rfl
  have f2 : wc9.frozen? ⟨b7, 2, none⟩ = false := blk_frozen HK710.out 2
  have HK7e : Aside0 ((wc9.setCell ⟨b7, 2, none⟩ (.int .i64 R)).heap[b7]? = some (.cells #[.int .i64 y1, .bool (y2 == 1), .int .i64 R, .int .i64 (y3 + 1), .int .i64 y5, .int .i64 (y6 + 1), .int .i64 y8] 23 (0, 0))) := ⟨by rw [heap_setCell_same _ _ _ _ _ _ HK710.out]; first | done | rfl⟩
  have HPSe : Aside0 (PS w (wc9.setCell ⟨b7, 2, none⟩ (.int .i64 R)) S p b4 L 56) := ⟨HPS10.out.set HK710.out HB7G.out _ _⟩
  have HK2e : Aside0 ((wc9.setCell ⟨b7, 2, none⟩ (.int .i64 R)).heap[b2]? = some (.cells #[.int .i64 0, .bool false, .int .i64 0, .int .i64 0, .int .i64 0, .int .i64 0, .int .i64 0] 23 (0, 0))) := ⟨by rw [heap_setCell_other _ _ _ _ (show b2 ≠ b7 from H27.out)]; exact HK210.out⟩
  have e0 : (wc9.setCell ⟨b7, 2, none⟩ (.int .i64 R)).cell? ⟨b7, 0, none⟩ = some (Value.int .i64 y1) := by rw [cell_of_row _ _ _ _ _ _ HK7e.out]; rfl
  have e1 : (wc9.setCell ⟨b7, 2, none⟩ (.int .i64 R)).cell? ⟨b7, 1, none⟩ = some (Value.bool (y2 == 1)) := by rw [cell_of_row _ _ _ _ _ _ HK7e.out]; rfl
  have e2 : (wc9.setCell ⟨b7, 2, none⟩ (.int .i64 R)).cell? ⟨b7, 2, none⟩ = some (Value.int .i64 R) := by rw [cell_of_row _ _ _ _ _ _ HK7e.out]; rfl
  have e3 : (wc9.setCell ⟨b7, 2, none⟩ (.int .i64 R)).cell? ⟨b7, 3, none⟩ = some (Value.int .i64 (y3 + 1)) := by rw [cell_of_row _ _ _ _ _ _ HK7e.out]; rfl
  have e4 : (wc9.setCell ⟨b7, 2, none⟩ (.int .i64 R)).cell? ⟨b7, 4, none⟩ = some (Value.int .i64 y5) := by rw [cell_of_row _ _ _ _ _ _ HK7e.out]; rfl
  have e5 : (wc9.setCell ⟨b7, 2, none⟩ (.int .i64 R)).cell? ⟨b7, 5, none⟩ = some (Value.int .i64 (y6 + 1)) := by rw [cell_of_row _ _ _ _ _ _ HK7e.out]; rfl
  have e6 : (wc9.setCell ⟨b7, 2, none⟩ (.int .i64 R)).cell? ⟨b7, 6, none⟩ = some (Value.int .i64 y8) := by rw [cell_of_row _ _ _ _ _ _ HK7e.out]; rfl
  have HBE := Aside0.mk HPSe.out.bel
  clear hgk hrm HPS10 HK210 HPSe
  go_wp2_with fail
  refine (HCK.out _ (HGW.out.below HBE.out)).mono ?_
  rintro e wf ⟨rfl, hb⟩
  have HKF7 := Aside0.mk (blk_fr HK7e.out (Fr.below hb (fun _ => False)) (fun h => h))
  have HKF2 := Aside0.mk (blk_fr HK2e.out (Fr.below hb (fun _ => False)) (fun h => h))
  have HBF := Aside0.mk (HBE.out.trans (hb.mono HBE.out.size))
  have HPP := Aside0.mk (HP2.out h0 hbad)
  clear hb HK710 HK7e HK2e HBE cR c2 f2 e0 e1 e2 e3 e4 e5 e6
  cases hok : okH ⟨y1, (y2 == 1), R, y3 + 1, y5, y6 + 1, y8⟩ with
  | false =>
    rw [hok] at HPP
    go_wp2_with fail
    refine (refuse_yes 4 wf).mono ?_
    rintro e w9 ⟨rfl, hw⟩
    obtain rfl := hw.symm
    go_wp2_with fail
    refine ⟨rfl, (HPE.out _ _).2 ⟨HBF.out, ?_⟩⟩
    rw [HPP.out]
    rfl
  | true =>
    rw [hok] at HPP
    have g0 : wf.cell? ⟨b7, 0, none⟩ = some (Value.int .i64 y1) := by rw [cell_of_row _ _ _ _ _ _ HKF7.out]; rfl
    have g1 : wf.cell? ⟨b7, 1, none⟩ = some (Value.bool (y2 == 1)) := by rw [cell_of_row _ _ _ _ _ _ HKF7.out]; rfl
    have g2 : wf.cell? ⟨b7, 2, none⟩ = some (Value.int .i64 R) := by rw [cell_of_row _ _ _ _ _ _ HKF7.out]; rfl
    have g3 : wf.cell? ⟨b7, 3, none⟩ = some (Value.int .i64 (y3 + 1)) := by rw [cell_of_row _ _ _ _ _ _ HKF7.out]; rfl
    have g4 : wf.cell? ⟨b7, 4, none⟩ = some (Value.int .i64 y5) := by rw [cell_of_row _ _ _ _ _ _ HKF7.out]; rfl
    have g5 : wf.cell? ⟨b7, 5, none⟩ = some (Value.int .i64 (y6 + 1)) := by rw [cell_of_row _ _ _ _ _ _ HKF7.out]; rfl
    have g6 : wf.cell? ⟨b7, 6, none⟩ = some (Value.int .i64 y8) := by rw [cell_of_row _ _ _ _ _ _ HKF7.out]; rfl
    go_wp2_with fail
    refine (refuse_no 4 wf).mono ?_
    rintro e w9 ⟨rfl, hw⟩
    obtain rfl := hw.symm
    go_wp2_with (refine wpList_store_row rfl _ _ _ rfl b2 #[.int .i64 y1, .bool (y2 == 1), .int .i64 R, .int .i64 (y3 + 1), .int .i64 y5, .int .i64 (y6 + 1), .int .i64 y8] rfl rfl _ _ HKF2.out (by kernel_rfl) rfl (by kernel_rfl) ?_)
    (try simp only [Exit.inBlock, Exit.then])
    refine bodyPost_ret (results_ct rfl _ _ b2 _ _ _ _ rfl (setRow_heap _ _ _ _ _ _ HKF2.out) Tryd.underlying23 rfl (by kernel_rfl)) rfl ?_
    refine (HPE.out _ _).2 ⟨HBF.out.trans ((fr_setRow' _ _ _).to_below HBF.out.size (fun j hj => by have := HB2.out; omega)), ?_⟩
    have hpp : pErr B = 0 := by rw [HPP.out]; rfl
    rw [hpp, if_pos rfl, HH.out hx4]
    rfl
end
section
open Go.RowKit Go.Shelf Go.Proofs.YtnaklnehichhpaaDoor.Bits Go.Proofs.YtnaklnehichhpaaDoorW.PrintWords Go.Proofs.YtnaklnehichhpaaDoorW.PrintLast Go.Proofs.YtnaklnehichhpaaDoorW.PrintMore
set_option linter.unusedVariables false
set_option linter.unusedSimpArgs false
attribute [local go_sem ↓] Go.wp_at_zero Go.wp_at_succ

theorem fReadB_eq (B : List Int) : fReadB B = if B.length < 9 then (HD0, [], 3) else if pErr B ≠ 0 then (HD0, [], pErr B) else if B.length < 9 + (gv B 34 11).toNat then (HD0, [], 3) else if sumB (B.take (9 + (gv B 34 11).toNat)) ≠ 0 then (HD0, [], 7) else (hdOf B, (B.drop 7).take (gv B 34 11).toNat, 0) := by
  unfold fReadB
  by_cases h0 : B.length < 9
  · rw [if_pos h0, if_pos h0]
  rw [if_neg h0, if_neg h0]
  by_cases h1 : gv B 0 12 ≠ 4013
  · have e : pErr B = 8 := by unfold pErr; rw [if_pos h1]
    rw [if_pos h1, if_pos (by rw [e]; decide), e]
  by_cases h2 : gv B 54 2 ≠ 0 ∨ 9 ≤ gv B 20 4
  · have e : pErr B = 4 := by unfold pErr; rw [if_neg h1, if_pos h2]
    rw [if_neg h1, if_pos h2, if_pos (by rw [e]; decide), e]
  by_cases h3 : okH (hdOf B) = false
  · have e : pErr B = 4 := by unfold pErr; rw [if_neg h1, if_neg h2, if_pos h3]
    rw [if_neg h1, if_neg h2, if_pos h3, if_pos (by rw [e]; decide), e]
  have e : pErr B = 0 := by unfold pErr; rw [if_neg h1, if_neg h2, if_neg h3]
  rw [if_neg h1, if_neg h2, if_neg h3, if_neg (show ¬ pErr B ≠ 0 by rw [e]; decide)]
/-- A store of a row into a block, as a step of a region. -/
theorem step_store_row {P : Program} {ops : Array Oper} {o : Oper} {a : Act} {w : World} {K : Act → World → Prop} {Q : Exit → Act → World → Prop} {E : Prop} (hgd : o.guard = none) (ty : TypeId) (x y : Operand) (ho : o.op = .store ty x y)
    (g : Nat) (cells : Array Value) (hx : a.eval x = .pointer (some ⟨g, 0, none⟩)) (hy : a.eval y = .agg cells)
    (t : TypeId) (old : Array Value) (hg : w.heap[g]? = some (.cells old t (0, 0))) (hi : (P.info? ty).map (·.size) = some cells.size) (hold : old.size = cells.size) (h1 : cells.all (·.oneCell') = true)
    (h : K (a.put o.dst undef) (w.setRow g cells)) : if Region.wanted o (yielded ops a.tmps) = true then Oper.wp P o a w K Q else E := by
  have hw : Region.wanted o (yielded ops a.tmps) = true := by simp [Region.wanted, hgd]
  rw [if_pos hw]
  exact wp_store_row ty x y ho g cells hx hy t old hg hi hold h1 h
/-- What read gives: a header and a body; or it leaves by a panic. -/
def RdBPost (w : World) (B : List Int) (e : Ending) (w' : World) : Prop :=
  Below w.heap.size w w' ∧ if (fReadB B).2.2 = 0 then ∃ v S', e = .returned (.tuple #[(fReadB B).1.val, v]) ∧ RB S' w' v (fReadB B).2.1 ∧ (∀ k, S' k → w.heap.size ≤ k) else e = .panicked [{ v := errV (fReadB B).2.2, recovered := false }]

set_option maxHeartbeats 8000000 in
set_option maxRecDepth 100000 in
theorem read_any (A : Option Addr) (c : Nat) (B : List Int) (w : World) (hC : Kd.C (Kd.int .u8) w A B.length B) (h8 : is8 B) (hBl : B.length ≤ 1000000000) (hc : B.length ≤ c) (hg : HG w) :
    Calls Tryd.prog 37 #[.slice A B.length c] w (RdBPost w B) := by
  have HPO : Aside0 (∀ e w', RdBPost w B e w' ↔ (Below w.heap.size w w' ∧ if (fReadB B).2.2 = 0 then ∃ v S', e = .returned (.tuple #[(fReadB B).1.val, v]) ∧ RB S' w' v (fReadB B).2.1 ∧ (∀ k, S' k → w.heap.size ≤ k) else e = .panicked [{ v := errV (fReadB B).2.2, recovered := false }])) := ⟨fun e w' => Iff.rfl⟩
  have HEQ := Aside0.mk (fReadB_eq B)
  have HC := Aside0.mk hC
  have H8 := Aside0.mk h8
  have HGW := Aside0.mk hg
  obtain ⟨wa, hwa⟩ : ∃ wa, wa = w.alloc (.cells #[.int .i64 0, .bool false, .int .i64 0, .int .i64 0, .int .i64 0, .int .i64 0, .int .i64 0] 23) := ⟨_, rfl⟩
  have hba : Below w.heap.size w wa := by rw [hwa]; exact below_alloc (Below.refl _ _) _
  have hk2 : wa.heap[w.heap.size]? = some (.cells #[.int .i64 0, .bool false, .int .i64 0, .int .i64 0, .int .i64 0, .int .i64 0, .int .i64 0] 23 (0, 0)) := by rw [hwa]; exact World.alloc_heap_new w _
  obtain ⟨b2, hb2⟩ : ∃ b2, b2 = w.heap.size := ⟨_, rfl⟩
  rw [← hb2] at hk2
  have HWA := Aside0.mk hwa
  have HB2 := Aside0.mk hb2
  have HK2 := Aside0.mk hk2
  have HBA := Aside0.mk hba
  clear hC h8 hg hwa hba hk2 hb2
  by_cases h9 : B.length < 9
  · have d1 : decide ((B.length : Int) < 9) = true := by simp; omega
    go_enter Tryd.func37, Tryd.ntmps37
    go_wp2_with fail
    rw [← HWA.out, ← HB2.out]
    refine (refuse_yes 3 wa).mono ?_
    rintro e w9 ⟨rfl, hw⟩
    obtain rfl := hw.symm
    go_wp2_with fail
    refine ⟨rfl, (HPO.out _ _).2 ⟨HBA.out, ?_⟩⟩
    rw [HEQ.out, if_pos h9]
    rfl
  have d1 : decide ((B.length : Int) < 9) = false := by simp; omega
  have hpar := parsed_any A c B wa (Kd.C_below HC.out HBA.out) H8.out (by omega) hBl hc (HGW.out.below HBA.out)
  rw [if_neg h9] at HEQ
  by_cases hpe : pErr B = 0
  case neg =>
    have HPA : Aside0 (Calls Tryd.prog 54 #[.slice A B.length c] wa fun e w' => Below wa.heap.size wa w' ∧ e = .panicked [{ v := errV (pErr B), recovered := false }]) := ⟨hpar.mono fun e w' q => by unfold ParsedPost at q; rwa [if_neg hpe] at q⟩
    rw [if_pos hpe] at HEQ
    have HPE := Aside0.mk hpe
    clear hpar hpe
    go_enter Tryd.func37, Tryd.ntmps37
    go_wp2_with fail
    rw [← HWA.out, ← HB2.out]
    refine (refuse_no 3 wa).mono ?_
    rintro e w9 ⟨rfl, hw⟩
    obtain rfl := hw.symm
    go_wp2_with fail
    refine HPA.out.mono ?_
    rintro e w1 ⟨hb, rfl⟩
    have HB1 := Aside0.mk (HBA.out.trans (hb.mono HBA.out.size))
    clear hb
    go_wp2_with fail
    refine ⟨rfl, (HPO.out _ _).2 ⟨HB1.out, ?_⟩⟩
    rw [HEQ.out]
    dsimp only
    rw [if_neg HPE.out]
  have HPA : Aside0 (Calls Tryd.prog 54 #[.slice A B.length c] wa fun e w' => Below wa.heap.size wa w' ∧ e = .returned (.tuple #[(hdOf B).val, .int .i64 (gv B 34 11)])) := ⟨hpar.mono fun e w' q => by unfold ParsedPost at q; rwa [if_pos hpe] at q⟩
  rw [if_neg (by rw [hpe]; simp)] at HEQ
  have hgb := gv_bound B 34 11
  obtain ⟨m, hm⟩ : ∃ m : Nat, gv B 34 11 = (m : Int) := ⟨(gv B 34 11).toNat, by omega⟩
  have hm11 : m < 2048 := by simp only [Int.reducePow] at hgb; omega
  rw [hm] at HPA HEQ
  rw [Int.toNat_natCast] at HEQ
  generalize hHD : hdOf B = hd at *
  obtain ⟨num, lossy, rate, ch, kind, count, back⟩ := hd
  unfold HD.val at HPA
  dsimp only at HPA
  clear hpar hpe hgb hm hHD
  go_enter Tryd.func37, Tryd.ntmps37
  go_wp2_with fail
  rw [← HWA.out, ← HB2.out]
  refine (refuse_no 3 wa).mono ?_
  rintro e w9 ⟨rfl, hw⟩
  obtain rfl := hw.symm
  go_wp2_with fail
  refine HPA.out.mono ?_
  rintro e w1 ⟨hb, rfl⟩
  have hb1 := HBA.out.trans (hb.mono HBA.out.size)
  have hk21 := blk_fr HK2.out (Fr.below hb (fun _ => False)) (fun h => h)
  obtain ⟨w2, hw2⟩ : ∃ w2, w2 = w1.alloc (.cells #[.int .i64 num, .bool lossy, .int .i64 rate, .int .i64 ch, .int .i64 kind, .int .i64 count, .int .i64 back] 23) := ⟨_, rfl⟩
  obtain ⟨b4, hb4⟩ : ∃ b4, b4 = w1.heap.size := ⟨_, rfl⟩
  have hbb : Below w1.heap.size w1 w2 := by rw [hw2]; exact below_alloc (Below.refl _ _) _
  have HK4 : Aside0 (w2.heap[b4]? = some (.cells #[.int .i64 num, .bool lossy, .int .i64 rate, .int .i64 ch, .int .i64 kind, .int .i64 count, .int .i64 back] 23 (0, 0))) := ⟨by rw [hw2, hb4]; exact World.alloc_heap_new w1 _⟩
  have HK22 := Aside0.mk (blk_fr hk21 (Fr.below hbb (fun _ => False)) (fun h => h))
  have HBB := Aside0.mk (hb1.trans (hbb.mono hb1.size))
  have HC2 := Aside0.mk (Kd.C_below HC.out HBB.out)
  have HSZ1 : Aside0 (w.heap.size ≤ w1.heap.size) := ⟨hb1.size⟩
  have HB2L : Aside0 (b2 < w1.heap.size) := ⟨lt_of_block hk21⟩
  have HW2 := Aside0.mk hw2
  have HB4 := Aside0.mk hb4
  clear hb hb1 hk21 hw2 hb4 hbb HPA HK2 HBA HC
  by_cases hs : B.length < 9 + m
  · have d2 : decide ((B.length : Int) < 7 + (m : Int) + 2) = true := by simp; omega
    go_wp2_with fail
    rw [← HW2.out]
    refine (refuse_yes 3 w2).mono ?_
    rintro e w9 ⟨rfl, hw⟩
    obtain rfl := hw.symm
    go_wp2_with fail
    refine ⟨rfl, (HPO.out _ _).2 ⟨HBB.out, ?_⟩⟩
    rw [HEQ.out, if_pos hs]
    rfl
  have d2 : decide ((B.length : Int) < 7 + (m : Int) + 2) = false := by simp; omega
  rw [if_neg hs] at HEQ
  have hsl : ∀ W : World, (Instr.slice 24 (.slice A B.length c) none (some (.int .i64 (7 + (m : Int) + 2))) none).run Tryd.prog W = .ok (.slice A (9 + m) c) W := by
    intro W
    have := cut_to (P := Tryd.prog) 24 5 .i64 Tryd.underlying24 (i := _) rfl A B.length c (7 + (m : Int) + 2) (by omega) (by omega) hc W
    rw [show (7 + (m : Int) + 2).toNat = 9 + m by omega] at this
    simpa using this
  have hCt := Kd.C_take HC2.out (show 9 + m ≤ B.length by omega)
  have hl : (B.take (9 + m)).length = 9 + m := by rw [List.length_take]; omega
  have hcrc := Crc16_any A (9 + m) c (B.take (9 + m)) w2 (by have := hCt; rwa [hl] at this) (fun b hb => H8.out b (List.mem_of_mem_take hb)) (by omega)
  rw [show crc16 (ofB (B.take (9 + m)) (8 * (9 + m))) = sumB (B.take (9 + m)) by unfold sumB; rw [hl]] at hcrc
  generalize hsum : sumB (B.take (9 + m)) = sm at *
  have HCR := Aside0.mk hcrc
  clear hCt hl hcrc hsum
  go_wp2_with fail
  rw [← HW2.out, ← HB4.out]
  refine (refuse_no 3 w2).mono ?_
  rintro e w9 ⟨rfl, hw⟩
  obtain rfl := hw.symm
  go_wp2_with fail
  refine HCR.out.mono ?_
  rintro e w3 ⟨rfl, hb3⟩
  have HB3 := Aside0.mk (HBB.out.trans (hb3.mono HBB.out.size))
  have HK43 := Aside0.mk (blk_fr HK4.out (Fr.below hb3 (fun _ => False)) (fun h => h))
  have HK23 := Aside0.mk (blk_fr HK22.out (Fr.below hb3 (fun _ => False)) (fun h => h))
  have HC3 := Aside0.mk (Kd.C_below HC2.out hb3)
  clear hb3 HCR HK4 HK22 HC2
  by_cases hz : sm = 0
  case neg =>
    have q1 : ((sm : Int) != 0) = true := bne_iff_ne.2 (by omega)
    go_wp2_with fail
    refine (refuse_yes 7 w3).mono ?_
    rintro e w9 ⟨rfl, hw⟩
    obtain rfl := hw.symm
    go_wp2_with fail
    refine ⟨rfl, (HPO.out _ _).2 ⟨HB3.out, ?_⟩⟩
    rw [HEQ.out, if_pos hz]
    rfl
  subst hz
  rw [if_neg (by simp)] at HEQ
  go_wp2_with fail
  refine (refuse_no 7 w3).mono ?_
  rintro e w9 ⟨rfl, hw⟩
  obtain rfl := hw.symm
  clear hsl
  obtain ⟨A', hA'⟩ : ∃ A', A' = (if c = 7 then A else A.map (·.add (7 * 1))) := ⟨_, rfl⟩
  have hsl2 : ∀ W : World, (Instr.slice 24 (.slice A B.length c) (some (.int .i64 7)) (some (.int .i64 (7 + (m : Int)))) none).run Tryd.prog W = .ok (.slice A' m (c - 7)) W := by
    intro W
    have := cut_mid (P := Tryd.prog) 24 5 .i64 .i64 Tryd.underlying24 (i := _) rfl 1 rfl A B.length c 7 (7 + (m : Int)) (by omega) (by omega) (by omega) hc W
    rw [show (7 + (m : Int)).toNat - (7 : Int).toNat = m by omega, show (7 : Int).toNat = 7 from rfl, ← hA'] at this
    exact this
  have hbe : (B.take (7 + m)).drop 7 = (B.drop 7).take m := by rw [List.drop_take]; congr 1; omega
  have hC' := Kd.C_mid (lo := 7) (hi := 7 + m) HC3.out (by omega) (by omega) hc
  rw [hbe] at hC'
  have hbl : ((B.drop 7).take m).length = m := by rw [List.length_take, List.length_drop]; omega
  rw [hbl] at hC'
  have hC2 : Kd.C (Kd.int .u8) w3 A' m ((B.drop 7).take m) := by rw [hA']; exact hC'
  generalize (B.drop 7).take m = body at *
  obtain ⟨v1, w5, hrun, hr1, hg1⟩ := append_run (S := fun k => k = w3.heap.size) (w3.alloc noBytes).drew (.slice (some ⟨w3.heap.size, 0, none⟩) 0 0) [] body A' m (c - 7) (Kd.R_drew (empty_R w3)) (Kd.C_drew (Kd.C_alloc hC2 _)) (by simp; omega)
  rw [List.nil_append] at hr1
  have hb5 : Below w3.heap.size w3 w5 := (below_drew (below_alloc (Below.refl _ _) _)).grown hg1 (by simp) (fun k hk => by
    have : w3.heap.size = k := by simpa [Value.ownBlock] using hk
    omega)
  have hk4 := blk_fr HK43.out (Fr.below hb5 (fun _ => False)) (fun h => h)
  have hk2 := blk_fr HK23.out (Fr.below hb5 (fun _ => False)) (fun h => h)
  have hne24 : b2 ≠ b4 := by have h1 := HB4.out; have h2 := HB2.out; have h3 := lt_of_block HK43.out; have h4 : w.heap.size ≤ w1.heap.size := HSZ1.out; have h5 : b2 < w1.heap.size := HB2L.out; omega
  have hw7 : IntKind.i64.wrap (7 + (m : Int)) = 7 + (m : Int) := IntWalk.i64_in _ (by omega)
  have HRUN := Aside0.mk hrun
  have HR1 := Aside0.mk hr1
  have HB5 := Aside0.mk hb5
  have HK2 := Aside0.mk hk2
  have HK4F := Aside0.mk hk4
  have HK4G : Aside0 ((w5.setRow b2 #[.int .i64 num, .bool lossy, .int .i64 rate, .int .i64 ch, .int .i64 kind, .int .i64 count, .int .i64 back]).heap[b4]? = some (.cells #[.int .i64 num, .bool lossy, .int .i64 rate, .int .i64 ch, .int .i64 kind, .int .i64 count, .int .i64 back] 23 (0, 0))) := ⟨(setRow_other w5 b2 b4 _ (fun e => hne24 e.symm)).trans hk4⟩
  clear hA' hbe hC' hC2 hbl hrun hr1 hg1 hb5 hk4 hk2
  go_wp2_with fail
  refine wp_region_held_drew (S := fun w' => w'.heap[b4]? = some (.cells #[.int .i64 num, .bool lossy, .int .i64 rate, .int .i64 ch, .int .i64 kind, .int .i64 count, .int .i64 back] 23 (0, 0))) (by kernel_rfl) HK43.out (fun hHeld => ?_)
  refine wpAnyH_take (i := 0) (v := ?_) rfl (by kernel_rfl) (by kernel_rfl) (by kernel_rfl) (fun _ _ _ h => h) (Or.inl ⟨by rfl, ?_⟩) (by assumption) ?_
  rotate_left
  · (intro w hSw; (try dsimp only at hSw); have z0 : w.cell? ⟨b4, 0, none⟩ = some (Value.int .i64 num) := (by rw [cell_of_row _ _ _ _ _ _ hSw]; rfl); have z1 : w.cell? ⟨b4, 1, none⟩ = some (Value.bool lossy) := (by rw [cell_of_row _ _ _ _ _ _ hSw]; rfl); have z2 : w.cell? ⟨b4, 2, none⟩ = some (Value.int .i64 rate) := (by rw [cell_of_row _ _ _ _ _ _ hSw]; rfl); have z3 : w.cell? ⟨b4, 3, none⟩ = some (Value.int .i64 ch) := (by rw [cell_of_row _ _ _ _ _ _ hSw]; rfl); have z4 : w.cell? ⟨b4, 4, none⟩ = some (Value.int .i64 kind) := (by rw [cell_of_row _ _ _ _ _ _ hSw]; rfl); have z5 : w.cell? ⟨b4, 5, none⟩ = some (Value.int .i64 count) := (by rw [cell_of_row _ _ _ _ _ _ hSw]; rfl); have z6 : w.cell? ⟨b4, 6, none⟩ = some (Value.int .i64 back) := (by rw [cell_of_row _ _ _ _ _ _ hSw]; rfl); go_simp; (try with_reducible rfl))
  simp only [Act.put, List.setIfInBounds_toArray, List.set_cons_zero, List.set_cons_succ]
  refine wpAnyH_take (i := 2) (v := ?_) rfl (by kernel_rfl) (by kernel_rfl) (by kernel_rfl) (fun _ _ _ h => h) (Or.inl ⟨by rfl, ?_⟩) (by assumption) ?_
  rotate_left
  · (intro w hSw; (try dsimp only at hSw); go_simp; (try with_reducible rfl))
  simp only [Act.put, List.setIfInBounds_toArray, List.set_cons_zero, List.set_cons_succ]
  refine wpAnyH_take (i := 3) (v := ?_) rfl (by kernel_rfl) (by kernel_rfl) (by kernel_rfl) (fun _ _ _ h => h) (Or.inl ⟨by rfl, ?_⟩) (by assumption) ?_
  rotate_left
  · (intro w hSw; (try dsimp only at hSw); go_simp; (try with_reducible rfl))
  simp only [Act.put, List.setIfInBounds_toArray, List.set_cons_zero, List.set_cons_succ]
  refine wpAnyH_take (i := 4) (v := ?_) rfl (by kernel_rfl) (by kernel_rfl) (by kernel_rfl) (fun _ _ _ h => h) (Or.inl ⟨by rfl, ?_⟩) (by assumption) ?_
  rotate_left
  · (intro w hSw; (try dsimp only at hSw); go_simp; (try with_reducible rfl))
  simp only [Act.put, List.setIfInBounds_toArray, List.set_cons_zero, List.set_cons_succ]
  refine wpAnyH_take (i := 5) (v := ?_) rfl (by kernel_rfl) (by kernel_rfl) (by kernel_rfl) (fun _ _ _ h => h) (Or.inl ⟨by rfl, ?_⟩) (by assumption) ?_
  rotate_left
  · (intro w hSw; (try dsimp only at hSw); go_simp; (try with_reducible rfl))
  simp only [Act.put, List.setIfInBounds_toArray, List.set_cons_zero, List.set_cons_succ]
  refine wpAnyH_ready (rs := [1]) (by kernel_rfl) (by simp) ?_
  refine AllReadyH.cons rfl (fun K hK => ?_) AllReadyH.nil
  go_simp
  refine hK.out _ _ ?_ (fun hHeld => ?_)
  · exact blk_alloc' HK43.out _
  clear hK K
  (try simp only [Act.put, List.setIfInBounds_toArray, List.set_cons_zero, List.set_cons_succ])
  refine wpAnyH_ready (rs := [6]) (by kernel_rfl) (by simp) ?_
  refine AllReadyH.cons rfl (fun K hK => ?_) AllReadyH.nil
  refine step_run_append (by rfl) _ _ _ (by rfl) _ _ (by rfl) (by rfl) HRUN.out ?_
  (try go_simp)
  refine hK.out _ _ ?_ (fun hHeld => ?_)
  · exact HK4F.out
  clear hK K
  (try simp only [Act.put, List.setIfInBounds_toArray, List.set_cons_zero, List.set_cons_succ])
  refine wpAnyH_ready (rs := [7]) (by kernel_rfl) (by simp) ?_
  refine AllReadyH.cons rfl (fun K hK => ?_) AllReadyH.nil
  refine step_store_row (by rfl) _ _ _ (by rfl) b2 #[.int .i64 num, .bool lossy, .int .i64 rate, .int .i64 ch, .int .i64 kind, .int .i64 count, .int .i64 back] (by rfl) (by rfl) _ _ HK2.out (by kernel_rfl) rfl (by kernel_rfl) ?_
  (try go_simp)
  refine hK.out _ _ ?_ (fun hHeld => ?_)
  · exact HK4G.out
  clear hK K
  (try simp only [Act.put, List.setIfInBounds_toArray, List.set_cons_zero, List.set_cons_succ])
  refine wpAnyH_ready (rs := [8]) (by kernel_rfl) (by simp) ?_
  refine AllReadyH.cons rfl (fun K hK => ?_) AllReadyH.nil
  go_simp
  refine hK.out _ _ ?_ (fun hHeld => ?_)
  · exact HK4G.out
  clear hK K
  refine wpAnyH_done (by kernel_rfl) ?_ _
  (try simp only [Exit.then])
  go_wp2_with fail
  have hb2l : b2 < w3.heap.size := lt_of_block HK23.out
  have hbw : w.heap.size ≤ b2 := by have := HB2.out; omega
  have hbf : Below w.heap.size w (w5.setRow b2 #[.int .i64 num, .bool lossy, .int .i64 rate, .int .i64 ch, .int .i64 kind, .int .i64 count, .int .i64 back]) := (HB3.out.trans (HB5.out.mono HB3.out.size)).trans ((fr_setRow' _ _ _).to_below (HB3.out.trans (HB5.out.mono HB3.out.size)).size (fun j hj => by omega))
  have hsz := HB3.out.size
  refine bodyPost_ret (results_ct rfl _ _ b2 _ _ _ _ rfl (setRow_heap _ _ _ _ _ _ HK2.out) Tryd.underlying23 rfl (by kernel_rfl)) rfl ?_
  refine (HPO.out _ _).2 ⟨hbf, ?_⟩
  rw [HEQ.out]
  dsimp only
  rw [if_pos rfl]
  refine ⟨v1, _, rfl, R_fr HR1.out (fr_setRow' _ _ _) ?_, ?_⟩
  · rintro k (rfl | rfl) _ e
    · omega
    · simp at e; omega
  · rintro k (rfl | rfl)
    · omega
    · simp; omega
end
section
open Go.RowKit Go.Shelf Go.Proofs.YtnaklnehichhpaaDoor.Bits Go.Proofs.YtnaklnehichhpaaDoorW.PrintWords Go.Proofs.YtnaklnehichhpaaDoorW.PrintLast Go.Proofs.YtnaklnehichhpaaDoorW.PrintMore
set_option linter.unusedVariables false
set_option linter.unusedSimpArgs false
attribute [local go_sem ↓] Go.wp_at_zero Go.wp_at_succ

theorem alloc2_old (w : World) (o1 o2 : Obj) : ((w.alloc o1).alloc o2).heap[w.heap.size]? = some o1 := by
  rw [Below.heap_alloc _ _ _ (lt_of_block (World.alloc_heap_new w o1))]; exact World.alloc_heap_new w o1
theorem alloc2_new (w : World) (o1 o2 : Obj) : ((w.alloc o1).alloc o2).heap[w.heap.size + 1]? = some o2 := by
  have := World.alloc_heap_new (w.alloc o1) o2
  simpa using this
theorem run_loadVar_int {P : Program} (w : World) (a : Addr) (ty : TypeId) (k : IntKind) (n : Int) (hu : P.underlying ty = some (.int k)) (hc : w.cell? a = some (.int k n)) : (loadVar ty a).run P w = .ok (.int k n) w := by
  simp [loadVar, isAgg, run_underlying hu, go_sem, hc]
theorem results_cti {P : Program} {fn : Func} {p u q : Tmp} {ty ty2 : TypeId} (h : fn.results = #[.cell p ty, .tmp u, .cell q ty2]) (tmps : Array Value) (w : World) (g : Nat) (t : TypeId) (cs : Array Value) (fr : Nat × Nat) (d : TypeDesc)
    (hp : tmps.getD p undef = .pointer (some ⟨g, 0, none⟩)) (hg : w.heap[g]? = some (.cells cs t fr))
    (hu : P.underlying ty = some d) (hd : (match d with | .struct _ | .array _ _ => true | _ => false) = true) (hi : (P.info? ty).map (·.size) = some cs.size)
    (a : Addr) (k : IntKind) (n : Int) (hq : tmps.getD q undef = .pointer (some a)) (hc : w.cell? a = some (.int k n)) (hu2 : P.underlying ty2 = some (.int k)) :
    (results fn tmps).run P w = .ok (.tuple #[.agg cs, tmps.getD u undef, .int k n]) w := by
  have hp' : tmps[p]?.getD undef = .pointer (some ⟨g, 0, none⟩) := by simpa using hp
  have hq' : tmps[q]?.getD undef = .pointer (some a) := by simpa using hq
  simp [results, h, hp', hq', asAddr, run_loadVar_row w g t ty cs fr d hg hu hd hi, run_loadVar_int w a ty2 k n hu2 hc]
theorem fReadB_err (B : List Int) (h : (fReadB B).2.2 ≠ 0) : fReadB B = (HD0, [], (fReadB B).2.2) := by
  unfold fReadB at *
  repeat' split
  all_goals first | rfl | skip
  simp_all
/-- What Read gives. -/
def ReadPost (w : World) (B : List Int) (at_ : Int) (e : Ending) (w' : World) : Prop :=
  ∃ v S', e = .returned (.tuple #[(fRead B at_).1.val, v, .int .i64 (fRead B at_).2.2]) ∧ RB S' w' v (fRead B at_).2.1 ∧ (∀ k, S' k → w.heap.size ≤ k) ∧ Below w.heap.size w w'

set_option maxHeartbeats 8000000 in
set_option maxRecDepth 100000 in
theorem Read_any (A : Option Addr) (c : Nat) (B : List Int) (at_ : Int) (w : World) (hC : Kd.C (Kd.int .u8) w A B.length B) (h8 : is8 B) (hBl : B.length ≤ 1000000000) (hc : B.length ≤ c) (hg : HG w) :
    Calls Tryd.prog 16 #[.slice A B.length c, .int .i64 at_] w (ReadPost w B at_) := by
  have HC := Aside0.mk hC
  have H8 := Aside0.mk h8
  have HGW := Aside0.mk hg
  have hk4 : ((w.alloc (.cells #[.int .i64 0, .bool false, .int .i64 0, .int .i64 0, .int .i64 0, .int .i64 0, .int .i64 0] 23)).alloc (.cells #[.int .i64 0] 26)).heap[w.heap.size]? = some (.cells #[.int .i64 0, .bool false, .int .i64 0, .int .i64 0, .int .i64 0, .int .i64 0, .int .i64 0] 23 (0, 0)) := alloc2_old w _ _
  have hk6 : ((w.alloc (.cells #[.int .i64 0, .bool false, .int .i64 0, .int .i64 0, .int .i64 0, .int .i64 0, .int .i64 0] 23)).alloc (.cells #[.int .i64 0] 26)).heap[w.heap.size + 1]? = some (.cells #[.int .i64 0] 26 (0, 0)) := alloc2_new w _ _
  have hb0 : Below w.heap.size w ((w.alloc (.cells #[.int .i64 0, .bool false, .int .i64 0, .int .i64 0, .int .i64 0, .int .i64 0, .int .i64 0] 23)).alloc (.cells #[.int .i64 0] 26)) := below_alloc (below_alloc (Below.refl _ _) _) _
  clear hC h8 hg
  by_cases hr : at_ < 0 ∨ (B.length : Int) < at_
  · have HN : Aside0 (fRead B at_ = (HD0, [], 6)) := ⟨by unfold fRead; rw [if_pos hr]⟩
    have HK4 := Aside0.mk hk4
    have hk4r : (((w.alloc (.cells #[.int .i64 0, .bool false, .int .i64 0, .int .i64 0, .int .i64 0, .int .i64 0, .int .i64 0] 23)).alloc (.cells #[.int .i64 0] 26)).setRow w.heap.size #[.int .i64 0, .bool false, .int .i64 0, .int .i64 0, .int .i64 0, .int .i64 0, .int .i64 0]).heap[w.heap.size]? = some (.cells #[.int .i64 0, .bool false, .int .i64 0, .int .i64 0, .int .i64 0, .int .i64 0, .int .i64 0] 23 (0, 0)) := setRow_heap _ _ _ _ _ _ hk4
    have hk6r : (((w.alloc (.cells #[.int .i64 0, .bool false, .int .i64 0, .int .i64 0, .int .i64 0, .int .i64 0, .int .i64 0] 23)).alloc (.cells #[.int .i64 0] 26)).setRow w.heap.size #[.int .i64 0, .bool false, .int .i64 0, .int .i64 0, .int .i64 0, .int .i64 0, .int .i64 0]).heap[w.heap.size + 1]? = some (.cells #[.int .i64 0] 26 (0, 0)) := (setRow_other _ _ _ _ (by omega)).trans hk6
    have c60 : (((w.alloc (.cells #[.int .i64 0, .bool false, .int .i64 0, .int .i64 0, .int .i64 0, .int .i64 0, .int .i64 0] 23)).alloc (.cells #[.int .i64 0] 26)).setRow w.heap.size #[.int .i64 0, .bool false, .int .i64 0, .int .i64 0, .int .i64 0, .int .i64 0, .int .i64 0]).cell? ⟨w.heap.size + 1, 0, none⟩ = some (.int .i64 0) := by rw [cell_of_row _ _ _ _ _ _ hk6r]; rfl
    have f60 : (((w.alloc (.cells #[.int .i64 0, .bool false, .int .i64 0, .int .i64 0, .int .i64 0, .int .i64 0, .int .i64 0] 23)).alloc (.cells #[.int .i64 0] 26)).setRow w.heap.size #[.int .i64 0, .bool false, .int .i64 0, .int .i64 0, .int .i64 0, .int .i64 0, .int .i64 0]).frozen? ⟨w.heap.size + 1, 0, none⟩ = false := blk_frozen hk6r 0
    have HK4F : Aside0 (((((w.alloc (.cells #[.int .i64 0, .bool false, .int .i64 0, .int .i64 0, .int .i64 0, .int .i64 0, .int .i64 0] 23)).alloc (.cells #[.int .i64 0] 26)).setRow w.heap.size #[.int .i64 0, .bool false, .int .i64 0, .int .i64 0, .int .i64 0, .int .i64 0, .int .i64 0]).setCell ⟨w.heap.size + 1, 0, none⟩ (.int .i64 6)).heap[w.heap.size]? = some (.cells #[.int .i64 0, .bool false, .int .i64 0, .int .i64 0, .int .i64 0, .int .i64 0, .int .i64 0] 23 (0, 0))) := ⟨by rw [heap_setCell_other _ _ _ _ (show w.heap.size ≠ w.heap.size + 1 by omega)]; exact hk4r⟩
    have HK6F : Aside0 (((((w.alloc (.cells #[.int .i64 0, .bool false, .int .i64 0, .int .i64 0, .int .i64 0, .int .i64 0, .int .i64 0] 23)).alloc (.cells #[.int .i64 0] 26)).setRow w.heap.size #[.int .i64 0, .bool false, .int .i64 0, .int .i64 0, .int .i64 0, .int .i64 0, .int .i64 0]).setCell ⟨w.heap.size + 1, 0, none⟩ (.int .i64 6)).heap[w.heap.size + 1]? = some (.cells #[.int .i64 6] 26 (0, 0))) := ⟨by rw [heap_setCell_same _ _ _ _ _ _ hk6r]; rfl⟩
    have HB : Aside0 (Below w.heap.size w ((((w.alloc (.cells #[.int .i64 0, .bool false, .int .i64 0, .int .i64 0, .int .i64 0, .int .i64 0, .int .i64 0] 23)).alloc (.cells #[.int .i64 0] 26)).setRow w.heap.size #[.int .i64 0, .bool false, .int .i64 0, .int .i64 0, .int .i64 0, .int .i64 0, .int .i64 0]).setCell ⟨w.heap.size + 1, 0, none⟩ (.int .i64 6))) := ⟨(hb0.trans ((fr_setRow' _ _ _).to_below hb0.size (fun j hj => by omega))).trans ((Fr.setCell (S := fun k => k = w.heap.size + 1) (Fr.refl _ _) (p := ⟨w.heap.size + 1, 0, none⟩) (fun _ => rfl) _).to_below (by simp; omega) (fun j hj => by omega))⟩
    clear hk4 hk6 hk4r hk6r hb0
    rcases hr with h1 | h1
    · have d1 : decide (at_ < 0) = true := by simpa using h1
      go_enter_defers Tryd.func16, Tryd.ntmps16
      go_wp2_with (refine wpList_store_row rfl _ _ _ rfl w.heap.size #[.int .i64 0, .bool false, .int .i64 0, .int .i64 0, .int .i64 0, .int .i64 0, .int .i64 0] rfl rfl _ _ HK4.out (by kernel_rfl) rfl (by kernel_rfl) ?_)
      refine ⟨_, results_cti rfl _ _ w.heap.size _ _ _ _ rfl HK4F.out Tryd.underlying23 rfl (by kernel_rfl) ⟨w.heap.size + 1, 0, none⟩ .i64 6 rfl (cell_of_one HK6F.out) Tryd.underlying26, ?_⟩
      unfold ReadPost
      rw [HN.out]
      exact ⟨_, fun _ => False, rfl, Kd.R_nil _ _ _ _ _, fun _ h => h.elim, HB.out⟩
    · have d1 : decide (at_ < 0) = false := by simp; omega
      have d2 : decide ((B.length : Int) < at_) = true := by simpa using h1
      go_enter_defers Tryd.func16, Tryd.ntmps16
      go_wp2_with (refine wpList_store_row rfl _ _ _ rfl w.heap.size #[.int .i64 0, .bool false, .int .i64 0, .int .i64 0, .int .i64 0, .int .i64 0, .int .i64 0] rfl rfl _ _ HK4.out (by kernel_rfl) rfl (by kernel_rfl) ?_)
      refine ⟨_, results_cti rfl _ _ w.heap.size _ _ _ _ rfl HK4F.out Tryd.underlying23 rfl (by kernel_rfl) ⟨w.heap.size + 1, 0, none⟩ .i64 6 rfl (cell_of_one HK6F.out) Tryd.underlying26, ?_⟩
      unfold ReadPost
      rw [HN.out]
      exact ⟨_, fun _ => False, rfl, Kd.R_nil _ _ _ _ _, fun _ h => h.elim, HB.out⟩
  obtain ⟨n, rfl⟩ : ∃ n : Nat, at_ = (n : Int) := ⟨at_.toNat, by omega⟩
  have hn : n ≤ B.length := by omega
  have d1 : decide ((n : Int) < 0) = false := by simp
  have d2 : decide ((B.length : Int) < (n : Int)) = false := by simp; omega
  have HFR : Aside0 (fRead B (n : Int) = fReadB (B.drop n)) := ⟨by unfold fRead; rw [if_neg hr, Int.toNat_natCast]⟩
  obtain ⟨A', hA'⟩ : ∃ A', A' = (if c = n then A else A.map (·.add (n * 1))) := ⟨_, rfl⟩
  have hsl : ∀ W : World, (Instr.slice 24 (.slice A B.length c) (some (.int .i64 (n : Int))) none none).run Tryd.prog W = .ok (.slice A' (B.length - n) (c - n)) W := by
    intro W
    have := cut_from (P := Tryd.prog) 24 5 .i64 Tryd.underlying24 (i := _) rfl 1 rfl A B.length c (n : Int) (by omega) (by omega) W
    rw [Int.toNat_natCast, ← hA'] at this
    exact this
  have hCd := Kd.C_drop HC.out hn hc
  have hlb : (B.drop n).length = B.length - n := List.length_drop
  have hCd2 : Kd.C (Kd.int .u8) w A' (B.drop n).length (B.drop n) := by rw [hA']; exact hCd
  have hread := read_any A' (c - n) (B.drop n) ((w.alloc (.cells #[.int .i64 0, .bool false, .int .i64 0, .int .i64 0, .int .i64 0, .int .i64 0, .int .i64 0] 23)).alloc (.cells #[.int .i64 0] 26)) (Kd.C_below hCd2 hb0) (fun b hb => H8.out b (List.mem_of_mem_drop hb)) (by omega) (by omega) (HGW.out.below hb0)
  rw [hlb] at hread
  generalize B.drop n = B' at *
  have HB0 := Aside0.mk hb0
  have HK4 := Aside0.mk hk4
  have HK6 := Aside0.mk hk6
  clear hr hA' hCd hCd2 hk4 hk6 hb0 hlb
  by_cases he : (fReadB B').2.2 = 0
  · have HRE : Aside0 (Calls Tryd.prog 37 #[.slice A' (B.length - n) (c - n)] ((w.alloc (.cells #[.int .i64 0, .bool false, .int .i64 0, .int .i64 0, .int .i64 0, .int .i64 0, .int .i64 0] 23)).alloc (.cells #[.int .i64 0] 26)) fun e w' => ∃ v S', e = .returned (.tuple #[(fReadB B').1.val, v]) ∧ RB S' w' v (fReadB B').2.1 ∧ (∀ k, S' k → ((w.alloc (.cells #[.int .i64 0, .bool false, .int .i64 0, .int .i64 0, .int .i64 0, .int .i64 0, .int .i64 0] 23)).alloc (.cells #[.int .i64 0] 26)).heap.size ≤ k) ∧ Below ((w.alloc (.cells #[.int .i64 0, .bool false, .int .i64 0, .int .i64 0, .int .i64 0, .int .i64 0, .int .i64 0] 23)).alloc (.cells #[.int .i64 0] 26)).heap.size ((w.alloc (.cells #[.int .i64 0, .bool false, .int .i64 0, .int .i64 0, .int .i64 0, .int .i64 0, .int .i64 0] 23)).alloc (.cells #[.int .i64 0] 26)) w') := ⟨hread.mono fun e w' q => by
      unfold RdBPost at q
      obtain ⟨q1, q2⟩ := q
      rw [if_pos he] at q2
      obtain ⟨v, S', a1, a2, a3⟩ := q2
      exact ⟨v, S', a1, a2, a3, q1⟩⟩
    have HER := Aside0.mk he
    generalize hRR : fReadB B' = RR at *
    obtain ⟨hd, body, er⟩ := RR
    dsimp only at HRE HER
    obtain ⟨num, lossy, rate, ch, kind, count, back⟩ := hd
    unfold HD.val at HRE
    dsimp only at HRE
    have hmf : True := trivial
    clear hread he hRR
    go_enter_defers Tryd.func16, Tryd.ntmps16
    go_wp2_with fail
    refine HRE.out.mono ?_
    rintro e w1 ⟨v, S', rfl, hrb, hfrom, hb⟩
    have hk41 := blk_fr HK4.out (Fr.below hb (fun _ => False)) (fun h => h)
    have hk61 := blk_fr HK6.out (Fr.below hb (fun _ => False)) (fun h => h)
    have hb1 := HB0.out.trans (hb.mono HB0.out.size)
    have hk42 : (w1.setRow w.heap.size #[.int .i64 num, .bool lossy, .int .i64 rate, .int .i64 ch, .int .i64 kind, .int .i64 count, .int .i64 back]).heap[w.heap.size]? = some (.cells #[.int .i64 num, .bool lossy, .int .i64 rate, .int .i64 ch, .int .i64 kind, .int .i64 count, .int .i64 back] 23 (0, 0)) := setRow_heap _ _ _ _ _ _ hk41
    have hk43 : ((w1.setRow w.heap.size #[.int .i64 num, .bool lossy, .int .i64 rate, .int .i64 ch, .int .i64 kind, .int .i64 count, .int .i64 back]).setRow w.heap.size #[.int .i64 num, .bool lossy, .int .i64 rate, .int .i64 ch, .int .i64 kind, .int .i64 count, .int .i64 back]).heap[w.heap.size]? = some (.cells #[.int .i64 num, .bool lossy, .int .i64 rate, .int .i64 ch, .int .i64 kind, .int .i64 count, .int .i64 back] 23 (0, 0)) := setRow_heap _ _ _ _ _ _ hk42
    have hk63 : ((w1.setRow w.heap.size #[.int .i64 num, .bool lossy, .int .i64 rate, .int .i64 ch, .int .i64 kind, .int .i64 count, .int .i64 back]).setRow w.heap.size #[.int .i64 num, .bool lossy, .int .i64 rate, .int .i64 ch, .int .i64 kind, .int .i64 count, .int .i64 back]).heap[w.heap.size + 1]? = some (.cells #[.int .i64 0] 26 (0, 0)) := (setRow_other _ _ _ _ (by omega)).trans ((setRow_other _ _ _ _ (by omega)).trans hk61)
    have z0 : (w1.setRow w.heap.size #[.int .i64 num, .bool lossy, .int .i64 rate, .int .i64 ch, .int .i64 kind, .int .i64 count, .int .i64 back]).cell? ⟨w.heap.size, 0, none⟩ = some (Value.int .i64 num) := by rw [cell_of_row _ _ _ _ _ _ hk42]; rfl
    have z1 : (w1.setRow w.heap.size #[.int .i64 num, .bool lossy, .int .i64 rate, .int .i64 ch, .int .i64 kind, .int .i64 count, .int .i64 back]).cell? ⟨w.heap.size, 1, none⟩ = some (Value.bool lossy) := by rw [cell_of_row _ _ _ _ _ _ hk42]; rfl
    have z2 : (w1.setRow w.heap.size #[.int .i64 num, .bool lossy, .int .i64 rate, .int .i64 ch, .int .i64 kind, .int .i64 count, .int .i64 back]).cell? ⟨w.heap.size, 2, none⟩ = some (Value.int .i64 rate) := by rw [cell_of_row _ _ _ _ _ _ hk42]; rfl
    have z3 : (w1.setRow w.heap.size #[.int .i64 num, .bool lossy, .int .i64 rate, .int .i64 ch, .int .i64 kind, .int .i64 count, .int .i64 back]).cell? ⟨w.heap.size, 3, none⟩ = some (Value.int .i64 ch) := by rw [cell_of_row _ _ _ _ _ _ hk42]; rfl
    have z4 : (w1.setRow w.heap.size #[.int .i64 num, .bool lossy, .int .i64 rate, .int .i64 ch, .int .i64 kind, .int .i64 count, .int .i64 back]).cell? ⟨w.heap.size, 4, none⟩ = some (Value.int .i64 kind) := by rw [cell_of_row _ _ _ _ _ _ hk42]; rfl
    have z5 : (w1.setRow w.heap.size #[.int .i64 num, .bool lossy, .int .i64 rate, .int .i64 ch, .int .i64 kind, .int .i64 count, .int .i64 back]).cell? ⟨w.heap.size, 5, none⟩ = some (Value.int .i64 count) := by rw [cell_of_row _ _ _ _ _ _ hk42]; rfl
    have z6 : (w1.setRow w.heap.size #[.int .i64 num, .bool lossy, .int .i64 rate, .int .i64 ch, .int .i64 kind, .int .i64 count, .int .i64 back]).cell? ⟨w.heap.size, 6, none⟩ = some (Value.int .i64 back) := by rw [cell_of_row _ _ _ _ _ _ hk42]; rfl
    have c60 : ((w1.setRow w.heap.size #[.int .i64 num, .bool lossy, .int .i64 rate, .int .i64 ch, .int .i64 kind, .int .i64 count, .int .i64 back]).setRow w.heap.size #[.int .i64 num, .bool lossy, .int .i64 rate, .int .i64 ch, .int .i64 kind, .int .i64 count, .int .i64 back]).cell? ⟨w.heap.size + 1, 0, none⟩ = some (.int .i64 0) := by rw [cell_of_row _ _ _ _ _ _ hk63]; rfl
    have f60 : ((w1.setRow w.heap.size #[.int .i64 num, .bool lossy, .int .i64 rate, .int .i64 ch, .int .i64 kind, .int .i64 count, .int .i64 back]).setRow w.heap.size #[.int .i64 num, .bool lossy, .int .i64 rate, .int .i64 ch, .int .i64 kind, .int .i64 count, .int .i64 back]).frozen? ⟨w.heap.size + 1, 0, none⟩ = false := blk_frozen hk63 0
    have HK4F : Aside0 ((((w1.setRow w.heap.size #[.int .i64 num, .bool lossy, .int .i64 rate, .int .i64 ch, .int .i64 kind, .int .i64 count, .int .i64 back]).setRow w.heap.size #[.int .i64 num, .bool lossy, .int .i64 rate, .int .i64 ch, .int .i64 kind, .int .i64 count, .int .i64 back]).setCell ⟨w.heap.size + 1, 0, none⟩ (.int .i64 0)).heap[w.heap.size]? = some (.cells #[.int .i64 num, .bool lossy, .int .i64 rate, .int .i64 ch, .int .i64 kind, .int .i64 count, .int .i64 back] 23 (0, 0))) := ⟨by rw [heap_setCell_other _ _ _ _ (show w.heap.size ≠ w.heap.size + 1 by omega)]; exact hk43⟩
    have HK6F : Aside0 ((((w1.setRow w.heap.size #[.int .i64 num, .bool lossy, .int .i64 rate, .int .i64 ch, .int .i64 kind, .int .i64 count, .int .i64 back]).setRow w.heap.size #[.int .i64 num, .bool lossy, .int .i64 rate, .int .i64 ch, .int .i64 kind, .int .i64 count, .int .i64 back]).setCell ⟨w.heap.size + 1, 0, none⟩ (.int .i64 0)).heap[w.heap.size + 1]? = some (.cells #[.int .i64 0] 26 (0, 0))) := ⟨by rw [heap_setCell_same _ _ _ _ _ _ hk63]; rfl⟩
    have hfr : Fr (fun k => k = w.heap.size ∨ k = w.heap.size + 1) w1 (((w1.setRow w.heap.size #[.int .i64 num, .bool lossy, .int .i64 rate, .int .i64 ch, .int .i64 kind, .int .i64 count, .int .i64 back]).setRow w.heap.size #[.int .i64 num, .bool lossy, .int .i64 rate, .int .i64 ch, .int .i64 kind, .int .i64 count, .int .i64 back]).setCell ⟨w.heap.size + 1, 0, none⟩ (.int .i64 0)) :=
      Fr.setCell (((fr_setRow' _ _ _).mono (fun k _ h => .inl h)).trans ((fr_setRow' _ _ _).mono (fun k _ h => .inl h))) (p := ⟨w.heap.size + 1, 0, none⟩) (fun _ => .inr rfl) _
    have HFRM := Aside0.mk hfr
    have HB : Aside0 (Below w.heap.size w (((w1.setRow w.heap.size #[.int .i64 num, .bool lossy, .int .i64 rate, .int .i64 ch, .int .i64 kind, .int .i64 count, .int .i64 back]).setRow w.heap.size #[.int .i64 num, .bool lossy, .int .i64 rate, .int .i64 ch, .int .i64 kind, .int .i64 count, .int .i64 back]).setCell ⟨w.heap.size + 1, 0, none⟩ (.int .i64 0))) := ⟨hb1.trans (hfr.to_below hb1.size (fun j hj => by omega))⟩
    have HRB := Aside0.mk hrb
    have HFROM := Aside0.mk hfrom
    have HKA := Aside0.mk hk41
    have HKB := Aside0.mk hk42
    clear hk41 hk61 hb1 hk42 hk43 hk63 hfr hrb hfrom hb
    go_wp2_with (first
      | (refine wpList_store_row rfl _ _ _ rfl w.heap.size #[.int .i64 num, .bool lossy, .int .i64 rate, .int .i64 ch, .int .i64 kind, .int .i64 count, .int .i64 back] rfl rfl _ _ HKA.out (by kernel_rfl) rfl (by kernel_rfl) ?_)
      | (refine wpList_store_row rfl _ _ _ rfl w.heap.size #[.int .i64 num, .bool lossy, .int .i64 rate, .int .i64 ch, .int .i64 kind, .int .i64 count, .int .i64 back] rfl rfl _ _ HKB.out (by kernel_rfl) rfl (by kernel_rfl) ?_))
    refine leaves_cons (f := 36) (args := #[.pointer (some ⟨w.heap.size + 1, 0, none⟩)]) (by simp) (by simp [go_sem]) ?_
    refine (caught_idle ⟨w.heap.size + 1, 0, none⟩ _).mono ?_
    rintro e u' w'' ⟨rfl, rfl, rfl⟩
    refine ⟨_, results_cti rfl _ _ w.heap.size _ _ _ _ rfl HK4F.out Tryd.underlying23 rfl (by kernel_rfl) ⟨w.heap.size + 1, 0, none⟩ .i64 0 rfl (cell_of_one HK6F.out) Tryd.underlying26, ?_⟩
    unfold ReadPost
    rw [HFR.out]
    dsimp only
    rw [HER.out]
    refine ⟨v, S', rfl, R_fr HRB.out HFRM.out (fun k hk _ e => ?_), fun k hk => ?_, HB.out⟩
    · have := HFROM.out k hk
      simp at this
      omega
    · have := HFROM.out k hk
      simp at this
      omega
  · have HRE : Aside0 (Calls Tryd.prog 37 #[.slice A' (B.length - n) (c - n)] ((w.alloc (.cells #[.int .i64 0, .bool false, .int .i64 0, .int .i64 0, .int .i64 0, .int .i64 0, .int .i64 0] 23)).alloc (.cells #[.int .i64 0] 26)) fun e w' => e = .panicked [{ v := errV (fReadB B').2.2, recovered := false }] ∧ Below ((w.alloc (.cells #[.int .i64 0, .bool false, .int .i64 0, .int .i64 0, .int .i64 0, .int .i64 0, .int .i64 0] 23)).alloc (.cells #[.int .i64 0] 26)).heap.size ((w.alloc (.cells #[.int .i64 0, .bool false, .int .i64 0, .int .i64 0, .int .i64 0, .int .i64 0, .int .i64 0] 23)).alloc (.cells #[.int .i64 0] 26)) w') := ⟨hread.mono fun e w' q => by
      unfold RdBPost at q
      obtain ⟨q1, q2⟩ := q
      rw [if_neg he] at q2
      exact ⟨q2, q1⟩⟩
    have hne : fReadB B' = (HD0, [], (fReadB B').2.2) := fReadB_err B' he
    have HNE := Aside0.mk hne
    generalize (fReadB B').2.2 = er at *
    clear hread he hne
    go_enter_defers Tryd.func16, Tryd.ntmps16
    go_wp2_with fail
    refine HRE.out.mono ?_
    rintro e w1 ⟨rfl, hb⟩
    have hk41 := blk_fr HK4.out (Fr.below hb (fun _ => False)) (fun h => h)
    have hk61 := blk_fr HK6.out (Fr.below hb (fun _ => False)) (fun h => h)
    have hb1 := HB0.out.trans (hb.mono HB0.out.size)
    have HK4F : Aside0 ((w1.setCell ⟨w.heap.size + 1, 0, none⟩ (.int .i64 er)).heap[w.heap.size]? = some (.cells #[.int .i64 0, .bool false, .int .i64 0, .int .i64 0, .int .i64 0, .int .i64 0, .int .i64 0] 23 (0, 0))) := ⟨by rw [heap_setCell_other _ _ _ _ (show w.heap.size ≠ w.heap.size + 1 by omega)]; exact hk41⟩
    have HK6F : Aside0 ((w1.setCell ⟨w.heap.size + 1, 0, none⟩ (.int .i64 er)).heap[w.heap.size + 1]? = some (.cells #[.int .i64 er] 26 (0, 0))) := ⟨by rw [heap_setCell_same _ _ _ _ _ _ hk61]; rfl⟩
    have HK61 := Aside0.mk hk61
    have HB : Aside0 (Below w.heap.size w (w1.setCell ⟨w.heap.size + 1, 0, none⟩ (.int .i64 er))) := ⟨hb1.trans ((Fr.setCell (S := fun k => k = w.heap.size + 1) (Fr.refl _ _) (p := ⟨w.heap.size + 1, 0, none⟩) (fun _ => rfl) _).to_below hb1.size (fun j hj => by omega))⟩
    clear hk41 hk61 hb1 hb
    go_wp2_with fail
    refine leaves_cons (f := 36) (args := #[.pointer (some ⟨w.heap.size + 1, 0, none⟩)]) (by simp) (by simp [go_sem]) ?_
    refine (caught_panic ⟨w.heap.size + 1, 0, none⟩ 0 er [] _ (cell_of_one HK61.out) (blk_frozen HK61.out 0)).mono ?_
    rintro e u' w'' ⟨rfl, rfl, rfl⟩
    refine ⟨_, results_cti rfl _ _ w.heap.size _ _ _ _ rfl HK4F.out Tryd.underlying23 rfl (by kernel_rfl) ⟨w.heap.size + 1, 0, none⟩ .i64 er rfl (cell_of_one HK6F.out) Tryd.underlying26, ?_⟩
    unfold ReadPost
    rw [HFR.out, HNE.out]
    exact ⟨_, fun _ => False, rfl, Kd.R_nil _ _ _ _ _, fun _ h => h.elim, HB.out⟩
end
end Go.Proofs.YtnaklnehichhpaaDoor.P
