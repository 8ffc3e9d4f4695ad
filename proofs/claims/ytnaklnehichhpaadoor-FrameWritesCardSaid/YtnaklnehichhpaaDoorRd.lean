/- The walk of shawmlaw22.FrameWrites. -/
import Derived.Test.YtnaklnehichhpaaDoorRc
import Derived.Test.YtnaklnehichhpaaDoorKq
import Derived.Deep.RegionHeld3
namespace Go.Proofs.YtnaklnehichhpaaDoor.P
open Go.RowKit Go.Shelf Go.Proofs.YtnaklnehichhpaaDoor.Bits Go.Proofs.YtnaklnehichhpaaDoorW.PrintWords Go.Proofs.YtnaklnehichhpaaDoorW.PrintLast Go.Proofs.YtnaklnehichhpaaDoorW.PrintMore
set_option linter.unusedVariables false
set_option linter.unusedSimpArgs false

/-- The cells of a header in a block. -/
def HdAt (p : Nat) (num : Int) (lossy : Bool) (rate ch kind count back : Int) (W : World) : Prop := W.cell? ⟨p, 0, none⟩ = some (.int .i64 num) ∧ W.cell? ⟨p, 1, none⟩ = some (.bool lossy) ∧ W.cell? ⟨p, 2, none⟩ = some (.int .i64 rate) ∧ W.cell? ⟨p, 3, none⟩ = some (.int .i64 ch) ∧ W.cell? ⟨p, 4, none⟩ = some (.int .i64 kind) ∧ W.cell? ⟨p, 5, none⟩ = some (.int .i64 count) ∧ W.cell? ⟨p, 6, none⟩ = some (.int .i64 back)
theorem HdAt.of {p : Nat} {num : Int} {lossy : Bool} {rate ch kind count back : Int} {W : World} (hW : W.heap[p]? = some (hdObj ⟨num, lossy, rate, ch, kind, count, back⟩)) : HdAt p num lossy rate ch kind count back W := by
  refine ⟨?_, ?_, ?_, ?_, ?_, ?_, ?_⟩ <;> (rw [cell_of_row W _ _ _ _ _ hW]; rfl)
set_option maxHeartbeats 4000000 in
set_option maxRecDepth 100000 in
theorem FrameWrites_any (h : HD) (A : Option Addr) (c : Nat) (body : List Int) (w : World) (hg : HG w)
    (hC : Kd.C (Kd.int .u8) w A body.length body) (h8 : is8 body) (hl : body.length ≤ 9000000000000000000) :
    Calls Tryd.prog 3 #[h.val, .slice A body.length c] w fun e w' => e = .returned (.bool true) ∧ Below w.heap.size w w' := by
  obtain ⟨w1, hw1⟩ : ∃ w1, w1 = w.alloc (hdObj h) := ⟨_, rfl⟩
  obtain ⟨p, hp⟩ : ∃ p, p = w.heap.size := ⟨_, rfl⟩
  have hb1 : Below w.heap.size w w1 := by rw [hw1]; exact below_alloc (Below.refl _ _) _
  have HK1 : Aside0 (w1.heap[p]? = some (hdObj h)) := ⟨by rw [hw1, hp]; exact World.alloc_heap_new w _⟩
  have HB1 := Aside0.mk hb1
  have HC1 := Aside0.mk (Kd.C_below hC hb1)
  have HG1 := Aside0.mk (hg.below hb1)
  have HGW := Aside0.mk hg
  have H8 := Aside0.mk h8
  have HWR := Aside0.mk (fun W hW hG => Write_any h A c body W hW h8 hG (by omega))
  have HRW := Aside0.mk (fun W hW => RWrite_any h A c body W hW h8 (by omega))
  have HCK := Aside0.mk (fun W hW => Check_any h W hW)
  have HRC := Aside0.mk (fun W => RCheck_any h W)
  have HW1 := Aside0.mk hw1
  have HP := Aside0.mk hp
  obtain ⟨fw, hfw⟩ : ∃ fw, fw = fWrite h body := ⟨_, rfl⟩
  have HFL : Aside0 (fw.1.length ≤ 3000 ∨ 2100 < body.length) := ⟨by
    rw [hfw]
    unfold fWrite
    split
    · simp
    · split
      · simp
      · have := wFrame_length h body; dsimp only; omega⟩
  rw [← hfw] at HWR HRW
  generalize (if okH h then (0 : Int) else 1) = ck at *
  obtain ⟨fb, fe⟩ := fw
  clear hg hC h8 hw1 hp hb1 hfw
  obtain ⟨num, lossy, rate, ch, kind, count, back⟩ := h
  unfold HD.val at *
  dsimp only at *
  have HE : Aside0 (w.alloc (.cells #[.int .i64 num, .bool lossy, .int .i64 rate, .int .i64 ch, .int .i64 kind, .int .i64 count, .int .i64 back] 23) = w1) := ⟨HW1.out.symm⟩
  go_enter Tryd.func3, Tryd.ntmps3
  by_cases hbig : 2100 < body.length
  · have q1 : decide ((2100 : Int) < (body.length : Int)) = true := by simp; omega
    go_wp2_with fail
    rw [HE.out]
    refine (awake_any _ HG1.out).mono ?_
    rintro e w9 ⟨rfl, hb⟩
    have HB9 := Aside0.mk (HB1.out.trans (hb.mono HB1.out.size))
    clear hb
    go_wp2_with fail
    go_ret
    exact ⟨rfl, HB9.out⟩
  have q1 : decide ((2100 : Int) < (body.length : Int)) = false := by simp; omega
  have hfl : fb.length ≤ 3000 := by have := HFL.out; omega
  go_wp2_with fail
  rw [HE.out, ← HP.out]
  refine (HWR.out w1 HC1.out HG1.out).mono ?_
  rintro e w2 ⟨v2, S2, rfl, hr, hs, hb⟩
  obtain ⟨A2, c2, hv, _, hC2⟩ := Kd.R_reads hr
  subst hv
  have HC2 := Aside0.mk hC2
  have HB2 := Aside0.mk (HB1.out.trans (hb.mono HB1.out.size))
  have HD2 := Aside0.mk (Kd.C_below HC1.out hb)
  have hk := blk_fr HK1.out (Fr.below hb (fun _ => False)) (fun h => h)
  have HK2 := Aside0.mk hk
  obtain ⟨f0, f1, f2, f3, f4, f5, f6⟩ := HdAt.of hk
  clear hr hs hb hC2 hk HWR HK1 HC1 HE HW1
  go_wp2_with fail
  clear f0 f1 f2 f3 f4 f5 f6
  refine (HRW.out w2 HD2.out).mono ?_
  rintro e w3 ⟨v3, S3, rfl, hr, hs, hb⟩
  obtain ⟨A3, c3, hv, _, hC3⟩ := Kd.R_reads hr
  subst hv
  have HC3 := Aside0.mk (Kd.C_drew hC3)
  have HB3 := Aside0.mk (below_drew (HB2.out.trans (hb.mono HB2.out.size)))
  have HC23 := Aside0.mk (Kd.C_drew (Kd.C_below HC2.out hb))
  have hk := blk_fr HK2.out (Fr.below hb (fun _ => False)) (fun h => h)
  have HK3 : Aside0 (w3.drew.heap[p]? = some (hdObj ⟨num, lossy, rate, ch, kind, count, back⟩)) := ⟨hk⟩
  have HG3 : Aside0 (HG w3.drew) := ⟨HGW.out.below HB3.out⟩
  clear hr hs hb hC3 hk HRW HK2 HD2 HC2 HB2
  go_wp2_with fail
  have HE3 := HC23
  have HS3 := HdAt.of HK3.out
  unfold HdAt at HS3
  go_region_held3 (fun w' => w'.cell? ⟨p, 0, none⟩ = some (.int .i64 num) ∧ w'.cell? ⟨p, 1, none⟩ = some (.bool lossy) ∧ w'.cell? ⟨p, 2, none⟩ = some (.int .i64 rate) ∧ w'.cell? ⟨p, 3, none⟩ = some (.int .i64 ch) ∧ w'.cell? ⟨p, 4, none⟩ = some (.int .i64 kind) ∧ w'.cell? ⟨p, 5, none⟩ = some (.int .i64 count) ∧ w'.cell? ⟨p, 6, none⟩ = some (.int .i64 back))
    (first | assumption | go_keep)
    (first
      | (go_at_call 13; refine (HCK.out _ HG3.out).mono ?_; rintro e w4 ⟨rfl, hb⟩; have HB4 := Aside0.mk (HB3.out.trans (hb.mono HB3.out.size)); have hk4 := blk_fr HK3.out (Fr.below hb (fun _ => False)) (fun h => h); have HC4 := Aside0.mk (Kd.C_below HC3.out hb); have HE4 := Aside0.mk (Kd.C_below HE3.out hb); have HS4 := HdAt.of hk4; unfold HdAt at HS4; have HK4 := Aside0.mk hk4; clear hb hk4)
      | (go_at_call 14; refine (HRC.out _).mono ?_; rintro e w5 ⟨rfl, hb⟩; have HB5 := Aside0.mk (HB4.out.trans (hb.mono HB4.out.size)); have hk5 := blk_fr HK4.out (Fr.below hb (fun _ => False)) (fun h => h); have HC5 := Aside0.mk (Kd.C_below HC4.out hb); have HE5 := Aside0.mk (Kd.C_below HE4.out hb); have HS5 := HdAt.of hk5; unfold HdAt at HS5; have HK5 := Aside0.mk hk5; clear hb hk5)
      | (go_at_call 15; refine (Same_any A2 A3 fb.length fb.length c2 c3 fb fb _ HE5.out HC5.out (by omega) (by omega)).mono ?_; rintro e w6 ⟨rfl, hd⟩; rw [decide_eq_true rfl]; have hb := hd.below; have HB6 := Aside0.mk (HB5.out.trans (hb.mono HB5.out.size)); have hk6 := blk_fr HK5.out (Fr.below hb (fun _ => False)) (fun h => h); have HC6 := Aside0.mk (Kd.C_below HC5.out hb); have HE6 := Aside0.mk (Kd.C_below HE5.out hb); have HS6 := HdAt.of hk6; unfold HdAt at HS6; have HK6 := Aside0.mk hk6; clear hb hk6; clear hd)
      | (go_at_call 10; refine (awake_any _ (HGW.out.below HB6.out)).mono ?_; rintro e w7 ⟨rfl, hb⟩; have HB7 := Aside0.mk (HB6.out.trans (hb.mono HB6.out.size)); have hk7 := blk_fr HK6.out (Fr.below hb (fun _ => False)) (fun h => h); have HC7 := Aside0.mk (Kd.C_below HC6.out hb); have HE7 := Aside0.mk (Kd.C_below HE6.out hb); have HS7 := HdAt.of hk7; unfold HdAt at HS7; have HK7 := Aside0.mk hk7; clear hb hk7))
  all_goals
    go_wp2_with fail
    go_ret
    exact ⟨rfl, HB7.out⟩
end Go.Proofs.YtnaklnehichhpaaDoor.P
