/- The examples of the chapter. The contract of the law's awake. -/
import Derived.Test.YthlmnnjbpikijaaDoorZTr19
import Derived.Test.YthlmnnjbpikijaaDoorZTr15
import Derived.Test.YthlmnnjbpikijaaDoorZTr21
import Derived.Test.YthlmnnjbpikijaaDoorZTr17
import Derived.Test.YthlmnnjbpikijaaDoorZTr12
section
namespace Go.Proofs.YthlmnnjbpikijaaDoor.P
open Go.RowKit Go.Shelf Go.Proofs.YthlmnnjbpikijaaDoor.Bits Go.Proofs.YthlmnnjbpikijaaDoorW.PrintWords Go.Proofs.YthlmnnjbpikijaaDoorW.PrintLast Go.Proofs.YthlmnnjbpikijaaDoorW.PrintMore
set_option linter.unusedVariables false
set_option linter.unusedSimpArgs false
def exB : List Int := [83, 72, 84, 1, 0, 0, 0, 0, 5, 0, 0, 0, 0, 0]
def exN : ByteArray := ⟨#[78, 65, 77, 69]⟩
def exX : ByteArray := ⟨#[120]⟩
def exF : List S56 := [⟨exN, exX⟩]
def exL : List (List Int) := [[1, 2]]
def exG : List (List Int) := [padded 3 128 [1, 2]]
theorem ex_write : fWriteT TG0 = (exB, 0) := by kernel_rfl
theorem ex_read : fReadT exB = (TG0, 14, 0) := by kernel_rfl
theorem ex_strip : fStrip [255, 224] = ([], 4) := by kernel_rfl
theorem ex_strip2 : fStrip [255, 0, 1] = ([], 4) := by kernel_rfl
theorem ex_set : fSet TG0 exN exX = (⟨0, 0, exF⟩, 0) := by kernel_rfl
theorem ex_get : fGet ⟨0, 0, exF⟩ exN = (exX, 0) := by kernel_rfl
theorem ex_ok : okT ⟨0, 0, exF⟩ = true := by kernel_rfl
theorem ex_grown : fGrown 8000 exL 3 = ⟨8000, exG, ⟨3, 123, []⟩, 0⟩ := by kernel_rfl
theorem ex_trim : fTrim 8000 exG ⟨3, 123, []⟩ = (8000, exL, 0) := by kernel_rfl
theorem ex_same : shawmref01_Same.f 100 exB exB = some true := by kernel_rfl
theorem ex_same2 : shawmref01_Same.f 100 [255, 0, 224, 255, 0] [255, 0, 224, 255, 0] = some true := by kernel_rfl
theorem ex_same3 : shawmref02_Same.f 100 8000 exL 8000 exL = some true := by kernel_rfl
end Go.Proofs.YthlmnnjbpikijaaDoor.P
end
section
namespace Go.Proofs.YthlmnnjbpikijaaDoor.P
open Go.RowKit Go.Shelf Go.Proofs.YthlmnnjbpikijaaDoor.Bits Go.Proofs.YthlmnnjbpikijaaDoorW.PrintWords Go.Proofs.YthlmnnjbpikijaaDoorW.PrintLast Go.Proofs.YthlmnnjbpikijaaDoorW.PrintMore
set_option linter.unusedVariables false
set_option linter.unusedSimpArgs false
attribute [local go_sem ↓] Go.wp_at_zero Go.wp_at_succ
theorem FD.nil (w : World) (c : Nat) : FD w none c [] := ⟨⟨rfl, by decide, fun q => absurd q (by decide)⟩, Nat.zero_le _, by decide⟩
theorem lit_C64 (X : World) (xs : List Int) (hm : xs.length ≤ 9223372036854775807) : Kd.C (Kd.int .i64) (X.alloc (.cells (nums .i64 xs).toArray 3)) (some ⟨X.heap.size, 0, none⟩) xs.length xs := by
  obtain ⟨A, c, e, _, hC⟩ := Kd.R_reads (Kd.R_of_own (ok := fun _ => True) (own_lit_of (enc := fun x => Value.int .i64 x) X X.heap.size 3 xs (Nat.le_refl _) hm) (fun _ _ => trivial))
  cases e
  exact hC
theorem ex_is8 : is8 exB := by unfold is8 exB; decide
theorem ex_is8a : is8 [255, 224] := by unfold is8; decide
theorem ex_is8b : is8 [255, 0, 1] := by unfold is8; decide
theorem ex_stuff : tag_Stuff.f [255, 224, 255] = some [255, 0, 224, 255, 0] := by kernel_rfl
/-- The example's sound, as the law lays it. -/
abbrev exsW (W : World) : World := (W.alloc (.cells #[.int .i64 1, .int .i64 2] 3)).alloc (.cells #[.slice (some ⟨W.heap.size, 0, none⟩) 2 2] 59)
theorem exs_B (W : World) : Below W.heap.size W (exsW W) := below_alloc (below_alloc (Below.refl _ _) _) _
theorem exs_CD (W : World) : CD (exsW W) (some ⟨W.heap.size + 1, 0, none⟩) 1 exL := by
  have h1 := lit_C64 W [1, 2] (by simp)
  have hg : (exsW W).heap[W.heap.size + 1]? = some (.cells #[.slice (some ⟨W.heap.size, 0, none⟩) 2 2] 59 (0, 0)) := by
    have := World.alloc_heap_new (W.alloc (.cells #[.int .i64 1, .int .i64 2] 3)) (.cells #[.slice (some ⟨W.heap.size, 0, none⟩) 2 2] 59)
    simpa using this
  refine ⟨⟨rfl, by decide, fun _ => ⟨_, rfl, fun j p hj => ?_⟩⟩, Nat.le_refl _, by decide⟩
  have hj2 : j < 1 := (List.getElem?_eq_some_iff.1 hj).1
  obtain rfl : j = 0 := by omega
  obtain rfl := Option.some.inj hj
  refine ⟨[.slice (some ⟨W.heap.size, 0, none⟩) 2 2], rfl, ⟨_, _, rfl, by decide, Kd.C_alloc h1 _⟩, fun i u hu => ?_⟩
  have hi : i < 1 := (List.getElem?_eq_some_iff.1 hu).1
  obtain rfl : i = 0 := by omega
  obtain rfl := Option.some.inj hu
  show World.cell? _ ((⟨W.heap.size + 1, 0, none⟩ : Addr).add (0 * 1 + 0)) = _
  rw [show (⟨W.heap.size + 1, 0, none⟩ : Addr).add (0 * 1 + 0) = ⟨W.heap.size + 1, 0, none⟩ by simp [Addr.add_lit], cell_of_row _ _ _ _ _ _ hg]
  rfl
set_option maxHeartbeats 8000000 in
set_option maxRecDepth 100000 in
theorem awake_any (w : World) (hg : HG w) : Calls Tryd.prog 12 #[] w fun e w' => e = .returned (.bool true) ∧ Below w.heap.size w w' := by
  have HG0 := Aside0.mk hg
  have hwr := TWrite_any TG0 none 0 w (FD.nil w 0)
  rw [ex_write] at hwr
  have HWR := Aside0.mk hwr
  obtain ⟨eb, heb⟩ : ∃ eb, eb = exB := ⟨_, rfl⟩
  have EB := Aside0.mk heb
  clear hg hwr
  go_enter Tryd.func12, Tryd.ntmps12
  go_wp2_with fail
  refine HWR.out.mono ?_
  rintro e w1 ⟨v1, S1, rfl, hr1, hs1, hb1⟩
  rw [← heb] at hr1
  obtain ⟨A1, c1, ev, hcap1, hC1⟩ := Kd.R_reads hr1
  subst ev
  have hrd := TRead_any A1 c1 eb w1 hC1 (by rw [heb]; exact ex_is8) (by rw [heb]; decide) hcap1
  rw [show fReadT eb = (TG0, 14, 0) by rw [heb]; exact ex_read] at hrd
  have HRD : Aside0 (Calls Tryd.prog 18 #[.slice A1 eb.length c1] w1 fun e w' => ∃ v, e = .returned (.tuple #[.agg #[.int .i64 0, .int .i64 0, v], .int .i64 14, .int .i64 0]) ∧ RowE w' w1.heap.size v [] ∧ Below w1.heap.size w1 w') := ⟨hrd⟩
  have HC1 := Aside0.mk hC1
  have HCAP1 := Aside0.mk hcap1
  have HB1 := Aside0.mk hb1
  clear hr1 hs1 hb1 hC1 hcap1 hrd heb
  go_wp2_with fail
  refine HRD.out.mono ?_
  rintro e w2 ⟨v2, rfl, hrow2, hb2⟩
  obtain ⟨A2, c2, ev, hfd2⟩ := RowE.fd hrow2 (by decide)
  replace ev : v2 = .slice A2 0 c2 := ev
  subst ev
  obtain ⟨wa, hwa⟩ : ∃ wa, wa = w2.alloc (tagObj 0 0 A2 0 c2) := ⟨_, rfl⟩
  have hba : Below w2.heap.size w2 wa := by rw [hwa]; exact below_alloc (Below.refl _ _) _
  have K3a : Aside0 (wa.heap[w2.heap.size]? = some (tagObj 0 0 A2 0 c2)) := ⟨by rw [hwa]; exact World.alloc_heap_new _ _⟩
  have SZA : Aside0 (wa.heap.size = w2.heap.size + 1) := ⟨by rw [hwa]; simp⟩
  obtain ⟨wb, hwb⟩ : ∃ wb, wb = wa.alloc (.cells #[.int .u8 255, .int .u8 224] 5) := ⟨_, rfl⟩
  have hbb : Below w2.heap.size w2 wb := hba.trans (by rw [hwb]; exact (below_alloc (Below.refl _ _) _).mono hba.size)
  have hlb : Kd.C (Kd.int .u8) wb (some ⟨wa.heap.size, 0, none⟩) 2 [255, 224] := by rw [hwb]; exact lit_C8 wa [255, 224] (by simp)
  have hst := Strip_any (some ⟨wa.heap.size, 0, none⟩) 2 [255, 224] wb hlb (by decide) ex_is8a (by decide)
  rw [ex_strip, SZA.out] at hst
  have HST : Aside0 (Calls Tryd.prog 22 #[.slice (some ⟨w2.heap.size + 1, 0, none⟩) 2 2] wb fun e w' => ∃ v, e = .returned (.tuple #[v, .int .i64 4]) ∧ Kd.R (Kd.int .u8) 5 w' wb.heap.size (fun _ => True) v [] ∧ Below wb.heap.size wb w') := ⟨hst⟩
  have HFD2 := Aside0.mk hfd2
  have HB2 := Aside0.mk (HB1.out.trans (hb2.mono HB1.out.size))
  have HC2 := Aside0.mk (Kd.C_below HC1.out hb2)
  have HGW2 := Aside0.mk (HG0.out.below HB2.out)
  have HBB := Aside0.mk hbb
  have HWA := Aside0.mk hwa
  have HWB := Aside0.mk hwb
  have K3b : Aside0 (wb.heap[w2.heap.size]? = some (tagObj 0 0 A2 0 c2)) := ⟨by rw [hwb]; exact blk_alloc' K3a.out _⟩
  clear hrow2 hb2 hfd2 hwa hba hwb hbb hlb hst
  go_wp2_with fail
  rw [← HWA.out, ← HWB.out]
  refine HST.out.mono ?_
  rintro e w3 ⟨v3, rfl, -, hb3⟩
  have HB3 := Aside0.mk (HBB.out.trans (hb3.mono HBB.out.size))
  have K3c : Aside0 (w3.heap[w2.heap.size]? = some (tagObj 0 0 A2 0 c2)) := ⟨(hb3.block _ (lt_of_block K3b.out)).trans K3b.out⟩
  obtain ⟨wc, hwc⟩ : ∃ wc, wc = w3.alloc (.cells #[.int .u8 255, .int .u8 0, .int .u8 1] 5) := ⟨_, rfl⟩
  have hbc : Below w3.heap.size w3 wc := by rw [hwc]; exact below_alloc (Below.refl _ _) _
  have hlc : Kd.C (Kd.int .u8) wc (some ⟨w3.heap.size, 0, none⟩) 3 [255, 0, 1] := by rw [hwc]; exact lit_C8 w3 [255, 0, 1] (by simp)
  have hst := Strip_any (some ⟨w3.heap.size, 0, none⟩) 3 [255, 0, 1] wc hlc (by decide) ex_is8b (by decide)
  rw [ex_strip2] at hst
  have HST2 : Aside0 (Calls Tryd.prog 22 #[.slice (some ⟨w3.heap.size, 0, none⟩) 3 3] wc fun e w' => ∃ v, e = .returned (.tuple #[v, .int .i64 4]) ∧ Kd.R (Kd.int .u8) 5 w' wc.heap.size (fun _ => True) v [] ∧ Below wc.heap.size wc w') := ⟨hst⟩
  have HWC := Aside0.mk hwc
  have HBC := Aside0.mk hbc
  clear hb3 hwc hbc hlc hst
  go_wp2_with fail
  rw [← HWC.out]
  refine HST2.out.mono ?_
  rintro e w4 ⟨v4, rfl, -, hb4⟩
  have hb34 := HBC.out.trans (hb4.mono HBC.out.size)
  have HB4 := Aside0.mk (HB3.out.trans (hb34.mono HB3.out.size))
  have K3d : Aside0 (w4.heap[w2.heap.size]? = some (tagObj 0 0 A2 0 c2)) := ⟨(hb34.block _ (lt_of_block K3c.out)).trans K3c.out⟩
  have hset := Set_any TG0 none 0 exN exX w4 (FD.nil w4 0)
  rw [ex_set] at hset
  have HSET : Aside0 (Calls Tryd.prog 27 #[tagV 0 0 none 0 0, .string ⟨#[78, 65, 77, 69]⟩, .string ⟨#[120]⟩] w4 fun e w' => ∃ v, e = .returned (.tuple #[.agg #[.int .i64 0, .int .i64 0, v], .int .i64 0]) ∧ RowE w' w4.heap.size v exF ∧ Below w4.heap.size w4 w') := ⟨hset⟩
  clear hb34 hb4 hset
  go_wp2_with fail
  refine HSET.out.mono ?_
  rintro e w5 ⟨v5, rfl, hrow5, hb5⟩
  obtain ⟨A5, c5, ev, hfd5⟩ := RowE.fd hrow5 (by decide)
  replace ev : v5 = .slice A5 1 c5 := ev
  subst ev
  have HB5 := Aside0.mk (HB4.out.trans (hb5.mono HB4.out.size))
  have K3e : Aside0 (w5.heap[w2.heap.size]? = some (tagObj 0 0 A2 0 c2)) := ⟨(hb5.block _ (lt_of_block K3d.out)).trans K3d.out⟩
  obtain ⟨wd, hwd⟩ : ∃ wd, wd = w5.alloc (tagObj 0 0 A5 1 c5) := ⟨_, rfl⟩
  have hbd : Below w5.heap.size w5 wd := by rw [hwd]; exact below_alloc (Below.refl _ _) _
  have K10 : Aside0 (wd.heap[w5.heap.size]? = some (tagObj 0 0 A5 1 c5)) := ⟨by rw [hwd]; exact World.alloc_heap_new _ _⟩
  have HFD5 := Aside0.mk (hfd5.below hbd)
  have hget := TGet_any ⟨0, 0, exF⟩ A5 c5 exN wd HFD5.out
  rw [ex_get] at hget
  have HGET : Aside0 (Calls Tryd.prog 25 #[tagV 0 0 A5 1 c5, .string ⟨#[78, 65, 77, 69]⟩] wd fun e w' => e = .returned (.tuple #[.string ⟨#[120]⟩, .int .i64 0]) ∧ Below wd.heap.size wd w') := ⟨hget⟩
  have HWD := Aside0.mk hwd
  have HBD := Aside0.mk hbd
  clear hrow5 hb5 hfd5 hwd hbd hget
  go_wp2_with fail
  rw [← HWD.out]
  refine HGET.out.mono ?_
  rintro e w6 ⟨rfl, hb6⟩
  have HB6 := Aside0.mk (HB5.out.trans ((HBD.out.trans (hb6.mono HBD.out.size)).mono HB5.out.size))
  have K3f : Aside0 (w6.heap[w2.heap.size]? = some (tagObj 0 0 A2 0 c2)) := ⟨((HBD.out.trans (hb6.mono HBD.out.size)).block _ (lt_of_block K3e.out)).trans K3e.out⟩
  have K10b : Aside0 (w6.heap[w5.heap.size]? = some (tagObj 0 0 A5 1 c5)) := ⟨(hb6.block _ (lt_of_block K10.out)).trans K10.out⟩
  have HFD6 := Aside0.mk (HFD5.out.below hb6)
  have hbx : Below w6.heap.size w6 (exsW w6) := exs_B w6
  have hgr := Grown_any 8000 (some ⟨w6.heap.size + 1, 0, none⟩) 1 exL 3 (exsW w6) (exs_CD w6) (HGW2.out.below (HB6.out.trans (hbx.mono HB6.out.size)))
  rw [ex_grown] at hgr
  have HGR : Aside0 (Calls Tryd.prog 32 #[sndV 8000 (some ⟨w6.heap.size + 1, 0, none⟩) 1 1, .int .i64 3] (exsW w6) fun e w' => ∃ A c, e = .returned (.tuple #[sndV 8000 A 1 c, tagV 3 123 none 0 0, .int .i64 0]) ∧ RL (exsW w6) w' (.slice A 1 c) exG ∧ Below (exsW w6).heap.size (exsW w6) w') := ⟨hgr⟩
  clear hb6 hbx hgr
  go_wp2_with fail
  refine HGR.out.mono ?_
  rintro e w7 ⟨A7, c7, rfl, hrl7, hb7⟩
  have hb67 := (exs_B w6).trans (hb7.mono (exs_B w6).size)
  have HB7 := Aside0.mk (HB6.out.trans (hb67.mono HB6.out.size))
  have K3g : Aside0 (w7.heap[w2.heap.size]? = some (tagObj 0 0 A2 0 c2)) := ⟨(hb67.block _ (lt_of_block K3f.out)).trans K3f.out⟩
  have K10c : Aside0 (w7.heap[w5.heap.size]? = some (tagObj 0 0 A5 1 c5)) := ⟨(hb67.block _ (lt_of_block K10b.out)).trans K10b.out⟩
  have HFD7 := Aside0.mk (HFD6.out.below hb67)
  obtain ⟨we, hwe⟩ : ∃ we, we = (w7.alloc (sndObj 8000 A7 1 c7)).alloc (tagObj 3 123 none 0 0) := ⟨_, rfl⟩
  have hbe : Below w7.heap.size w7 we := by rw [hwe]; exact below_alloc (below_alloc (Below.refl _ _) _) _
  have K15 : Aside0 (we.heap[w7.heap.size + 1]? = some (tagObj 3 123 none 0 0)) := ⟨by rw [hwe]; exact alloc2_new w7 _ _⟩
  have htr := Trim_any 8000 A7 c7 exG ⟨3, 123, []⟩ none 0 we (RL.cd (hrl7.below hbe) rfl (by decide) (by decide)) (FD.nil we 0) (HGW2.out.below (HB7.out.trans (hbe.mono HB7.out.size)))
  rw [ex_trim] at htr
  have HTR : Aside0 (Calls Tryd.prog 30 #[sndV 8000 A7 1 c7, tagV 3 123 none 0 0] we fun e w' => ∃ A c, e = .returned (.tuple #[sndV 8000 A 1 c, .int .i64 0]) ∧ RL we w' (.slice A 1 c) exL ∧ Below we.heap.size we w') := ⟨htr⟩
  have HWE := Aside0.mk hwe
  have HBE := Aside0.mk hbe
  clear hrl7 hb67 hb7 hwe hbe htr
  go_wp2_with fail
  rw [← HWE.out]
  refine HTR.out.mono ?_
  rintro e w8 ⟨A8, c8, rfl, hrl8, hb8⟩
  have hb78 := HBE.out.trans (hb8.mono HBE.out.size)
  have HB8 := Aside0.mk (HB7.out.trans (hb78.mono HB7.out.size))
  have K3h : Aside0 (w8.heap[w2.heap.size]? = some (tagObj 0 0 A2 0 c2)) := ⟨(hb78.block _ (lt_of_block K3g.out)).trans K3g.out⟩
  have K10d : Aside0 (w8.heap[w5.heap.size]? = some (tagObj 0 0 A5 1 c5)) := ⟨(hb78.block _ (lt_of_block K10c.out)).trans K10c.out⟩
  have K15b : Aside0 (w8.heap[w7.heap.size + 1]? = some (tagObj 3 123 none 0 0)) := ⟨(hb8.block _ (lt_of_block K15.out)).trans K15.out⟩
  have HFD8 := Aside0.mk (HFD7.out.below hb78)
  obtain ⟨wf, hwf⟩ : ∃ wf, wf = w8.alloc (sndObj 8000 A8 1 c8) := ⟨_, rfl⟩
  have K17 : Aside0 (wf.heap[w8.heap.size]? = some (sndObj 8000 A8 1 c8)) := ⟨by rw [hwf]; exact World.alloc_heap_new _ _⟩
  obtain ⟨wg, hwg⟩ : ∃ wg, wg = wf.alloc (.cells #[.int .u8 83, .int .u8 72, .int .u8 84, .int .u8 1, .int .u8 0, .int .u8 0, .int .u8 0, .int .u8 0, .int .u8 5, .int .u8 0, .int .u8 0, .int .u8 0, .int .u8 0, .int .u8 0] 5) := ⟨_, rfl⟩
  have SZF : Aside0 (wf.heap.size = w8.heap.size + 1) := ⟨by rw [hwf]; simp⟩
  have hbf : Below w8.heap.size w8 wf := by rw [hwf]; exact below_alloc (Below.refl _ _) _
  have hbfg : Below wf.heap.size wf wg := by rw [hwg]; exact below_alloc (Below.refl _ _) _
  have hbg : Below w8.heap.size w8 wg := hbf.trans (hbfg.mono hbf.size)
  have hlg : Kd.C (Kd.int .u8) wg (some ⟨wf.heap.size, 0, none⟩) exB.length exB := by rw [hwg]; exact lit_C8 wf exB (by simp [exB])
  have hsm := shawmref01_Same.calls 100 A1 c1 eb (some ⟨wf.heap.size, 0, none⟩) exB.length exB true wg (Kd.C_below HC2.out (HB8.out.trans (hbg.mono HB8.out.size))) HCAP1.out hlg (Nat.le_refl _) (by rw [EB.out]; exact ex_same)
  rw [SZF.out] at hsm
  have HSM : Aside0 (Calls Tryd.prog 17 #[.slice A1 eb.length c1, .slice (some ⟨w8.heap.size + 1, 0, none⟩) 14 14] wg fun e w' => e = .returned (.bool true) ∧ Drawn0 wg w') := ⟨hsm⟩
  have HWF := Aside0.mk hwf
  have HWG := Aside0.mk hwg
  have HBG := Aside0.mk hbg
  have HBFG := Aside0.mk hbfg
  have HRL8 := Aside0.mk hrl8
  have HB8r := Aside0.mk hb8
  clear hrl8 hb78 hb8 hwf hwg hbf hbfg hbg hlg hsm
  go_wp2_with fail
  rw [← HWF.out, ← HWG.out]
  refine HSM.out.mono ?_
  rintro e w9 ⟨rfl, hd9⟩
  have hb89 := HBG.out.trans (hd9.below.mono HBG.out.size)
  have hbf9 := HBFG.out.trans (hd9.below.mono HBFG.out.size)
  have HB9 := Aside0.mk (HB8.out.trans (hb89.mono HB8.out.size))
  have hk3 := (hb89.block _ (lt_of_block K3h.out)).trans K3h.out
  have K10e : Aside0 (w9.heap[w5.heap.size]? = some (tagObj 0 0 A5 1 c5)) := ⟨(hb89.block _ (lt_of_block K10d.out)).trans K10d.out⟩
  have K15c : Aside0 (w9.heap[w7.heap.size + 1]? = some (tagObj 3 123 none 0 0)) := ⟨(hb89.block _ (lt_of_block K15b.out)).trans K15b.out⟩
  have K17b : Aside0 (w9.heap[w8.heap.size]? = some (sndObj 8000 A8 1 c8)) := ⟨(hbf9.block _ (lt_of_block K17.out)).trans K17.out⟩
  have HFD9 := Aside0.mk (HFD8.out.below hb89)
  have HRL9 := Aside0.mk (HRL8.out.below hb89)
  have HFDt := Aside0.mk (HFD2.out.below HB9.out)
  have hst := SameTag_any 0 0 A2 none c2 0 [] w9 HFDt.out (FD.nil w9 0)
  have HSTT : Aside0 (Calls Tryd.prog 20 #[tagV 0 0 A2 0 c2, tagV 0 0 none 0 0] w9 fun e w' => e = .returned (.bool true) ∧ Below w9.heap.size w9 w') := ⟨hst⟩
  have z0 : w9.cell? ⟨w2.heap.size, 0, none⟩ = some (.int .i64 0) := by rw [cell_of_row _ _ _ _ _ _ hk3]; rfl
  have z1 : w9.cell? ⟨w2.heap.size, 1, none⟩ = some (.int .i64 0) := by rw [cell_of_row _ _ _ _ _ _ hk3]; rfl
  have z2 : w9.cell? ⟨w2.heap.size, 2, none⟩ = some (.slice A2 0 c2) := by rw [cell_of_row _ _ _ _ _ _ hk3]; rfl
  clear hb89 hbf9 hd9 hst hk3
  go_wp2_with fail
  refine HSTT.out.mono ?_
  rintro e wA ⟨rfl, hbA⟩
  have K10f : Aside0 (wA.heap[w5.heap.size]? = some (tagObj 0 0 A5 1 c5)) := ⟨(hbA.block _ (lt_of_block K10e.out)).trans K10e.out⟩
  have K15d : Aside0 (wA.heap[w7.heap.size + 1]? = some (tagObj 3 123 none 0 0)) := ⟨(hbA.block _ (lt_of_block K15c.out)).trans K15c.out⟩
  have K17c : Aside0 (wA.heap[w8.heap.size]? = some (sndObj 8000 A8 1 c8)) := ⟨(hbA.block _ (lt_of_block K17b.out)).trans K17b.out⟩
  have HFDA := Aside0.mk (HFD9.out.below hbA)
  have HRLA := Aside0.mk (HRL9.out.below hbA)
  have HBA := Aside0.mk (HB9.out.trans (hbA.mono HB9.out.size))
  obtain ⟨wa1, hwa1⟩ : ∃ wa1, wa1 = wA.alloc (.cells #[.int .u8 255, .int .u8 224, .int .u8 255] 5) := ⟨_, rfl⟩
  have hba1 : Below wA.heap.size wA wa1 := by rw [hwa1]; exact below_alloc (Below.refl _ _) _
  have hla1 : Kd.C (Kd.int .u8) wa1 (some ⟨wA.heap.size, 0, none⟩) 3 [255, 224, 255] := by rw [hwa1]; exact lit_C8 wA [255, 224, 255] (by simp)
  have hsf := tag_Stuff.calls (some ⟨wA.heap.size, 0, none⟩) 3 [255, 224, 255] [255, 0, 224, 255, 0] wa1 hla1 (by decide) ex_stuff
  have HSF : Aside0 (Calls Tryd.prog 21 #[.slice (some ⟨wA.heap.size, 0, none⟩) 3 3] wa1 fun e w' => ∃ v, e = .returned v ∧ Kd.R (Kd.int .u8) 5 w' wa1.heap.size (fun _ => True) v [255, 0, 224, 255, 0] ∧ Below wa1.heap.size wa1 w') := ⟨hsf⟩
  have HWA1 := Aside0.mk hwa1
  have HBA1 := Aside0.mk hba1
  clear hbA hwa1 hba1 hla1 hsf z0 z1 z2
  go_wp2_with fail
  rw [← HWA1.out]
  refine HSF.out.mono ?_
  rintro e wB ⟨vB, rfl, hrB, hbB⟩
  obtain ⟨AB, cB, ev, hcapB, hCB⟩ := Kd.R_reads hrB
  replace ev : vB = .slice AB 5 cB := ev
  subst ev
  have hbAB := HBA1.out.trans (hbB.mono HBA1.out.size)
  obtain ⟨wb1, hwb1⟩ : ∃ wb1, wb1 = wB.alloc (.cells #[.int .u8 255, .int .u8 0, .int .u8 224, .int .u8 255, .int .u8 0] 5) := ⟨_, rfl⟩
  have hbb1 : Below wB.heap.size wB wb1 := by rw [hwb1]; exact below_alloc (Below.refl _ _) _
  have hlb1 : Kd.C (Kd.int .u8) wb1 (some ⟨wB.heap.size, 0, none⟩) 5 [255, 0, 224, 255, 0] := by rw [hwb1]; exact lit_C8 wB [255, 0, 224, 255, 0] (by simp)
  have hsm := shawmref01_Same.calls 100 AB cB [255, 0, 224, 255, 0] (some ⟨wB.heap.size, 0, none⟩) 5 [255, 0, 224, 255, 0] true wb1 (Kd.C_below hCB hbb1) hcapB hlb1 (Nat.le_refl _) ex_same2
  have HSM2 : Aside0 (Calls Tryd.prog 17 #[.slice AB 5 cB, .slice (some ⟨wB.heap.size, 0, none⟩) 5 5] wb1 fun e w' => e = .returned (.bool true) ∧ Drawn0 wb1 w') := ⟨hsm⟩
  have HWB1 := Aside0.mk hwb1
  have HBAB1 := Aside0.mk (hbAB.trans (hbb1.mono hbAB.size))
  clear hrB hbB hcapB hCB hbAB hwb1 hbb1 hlb1 hsm
  go_wp2_with fail
  rw [← HWB1.out]
  refine HSM2.out.mono ?_
  rintro e wC ⟨rfl, hdC⟩
  have hbC := HBAB1.out.trans (hdC.below.mono HBAB1.out.size)
  have HBC' := Aside0.mk (HBA.out.trans (hbC.mono HBA.out.size))
  have K10g : Aside0 (wC.heap[w5.heap.size]? = some (tagObj 0 0 A5 1 c5)) := ⟨(hbC.block _ (lt_of_block K10f.out)).trans K10f.out⟩
  have hk15 := (hbC.block _ (lt_of_block K15d.out)).trans K15d.out
  have hk17 := (hbC.block _ (lt_of_block K17c.out)).trans K17c.out
  have HFDC := Aside0.mk (HFDA.out.below hbC)
  have hrlC := HRLA.out.below hbC
  have y0 : wC.cell? ⟨w7.heap.size + 1, 0, none⟩ = some (.int .i64 3) := by rw [cell_of_row _ _ _ _ _ _ hk15]; rfl
  have y1 : wC.cell? ⟨w7.heap.size + 1, 1, none⟩ = some (.int .i64 123) := by rw [cell_of_row _ _ _ _ _ _ hk15]; rfl
  have x0 : wC.cell? ⟨w8.heap.size, 0, none⟩ = some (.int .i64 8000) := by rw [cell_of_row _ _ _ _ _ _ hk17]; rfl
  have x1 : wC.cell? ⟨w8.heap.size, 1, none⟩ = some (.slice A8 1 c8) := by rw [cell_of_row _ _ _ _ _ _ hk17]; rfl
  have hcd := RL.cd hrlC rfl (by decide) (by decide)
  have hps := shawmref02_Same.calls 100 8000 A8 c8 exL 8000 (some ⟨wC.heap.size + 1, 0, none⟩) 1 exL true (exsW wC) (hcd.below (exs_B wC)).C hcd.cap (exs_CD wC).C (Nat.le_refl _) ex_same3
  have HPS : Aside0 (Calls Tryd.prog 34 #[sndV 8000 A8 1 c8, sndV 8000 (some ⟨wC.heap.size + 1, 0, none⟩) 1 1] (exsW wC) fun e w' => e = .returned (.bool true) ∧ Below (exsW wC).heap.size (exsW wC) w') := ⟨hps⟩
  clear hbC hdC hk15 hk17 hrlC hcd hps
  go_wp2_with fail
  refine HPS.out.mono ?_
  rintro e wD ⟨rfl, hbD0⟩
  have hbD := (exs_B wC).trans (hbD0.mono (exs_B wC).size)
  have hk10 := (hbD.block _ (lt_of_block K10g.out)).trans K10g.out
  have HFDD := Aside0.mk (HFDC.out.below hbD)
  have HBD' := Aside0.mk (HBC'.out.trans (hbD.mono HBC'.out.size))
  have z0 : wD.cell? ⟨w5.heap.size, 0, none⟩ = some (.int .i64 0) := by rw [cell_of_row _ _ _ _ _ _ hk10]; rfl
  have z1 : wD.cell? ⟨w5.heap.size, 1, none⟩ = some (.int .i64 0) := by rw [cell_of_row _ _ _ _ _ _ hk10]; rfl
  have z2 : wD.cell? ⟨w5.heap.size, 2, none⟩ = some (.slice A5 1 c5) := by rw [cell_of_row _ _ _ _ _ _ hk10]; rfl
  have hck := Check_any ⟨0, 0, exF⟩ A5 c5 wD HFDD.out
  rw [ex_ok, if_pos rfl] at hck
  have HCK : Aside0 (Calls Tryd.prog 15 #[tagV 0 0 A5 1 c5] wD fun e w' => e = .returned (.int .i64 0) ∧ Below wD.heap.size wD w') := ⟨hck⟩
  clear hbD0 hbD hk10 hck y0 y1 x0 x1
  go_wp2_with fail
  refine HCK.out.mono ?_
  rintro e wE ⟨rfl, hbE⟩
  have HBE' := Aside0.mk (HB2.out.trans ((HBD'.out.trans (hbE.mono HBD'.out.size)).mono HB2.out.size))
  clear hbE z0 z1 z2
  go_wp2_with fail
  go_ret
  exact ⟨rfl, HBE'.out⟩
end Go.Proofs.YthlmnnjbpikijaaDoor.P
end
