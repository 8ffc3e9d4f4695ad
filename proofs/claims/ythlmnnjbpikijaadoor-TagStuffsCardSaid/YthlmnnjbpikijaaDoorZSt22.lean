/- The examples of the chapter. The contract of the law's awake. TagStuffs: the walk. -/
import Derived.Test.YthlmnnjbpikijaaDoorZSt19
import Derived.Test.YthlmnnjbpikijaaDoorZSt15
import Derived.Test.YthlmnnjbpikijaaDoorZSt21
import Derived.Test.YthlmnnjbpikijaaDoorZSt17
import Derived.Test.YthlmnnjbpikijaaDoorZSt12
import Derived.Test.YthlmnnjbpikijaaDoorZSt18
import Derived.Test.YthlmnnjbpikijaaDoorZSt10
section
namespace Go.Proofs.YthlmnnjbpikijaaDoor.P
open Go.RowKit Go.Shelf Go.Proofs.YthlmnnjbpikijaaDoor.Bits Go.Proofs.YthlmnnjbpikijaaDoorW.PrintWords Go.Proofs.YthlmnnjbpikijaaDoorW.PrintLast Go.Proofs.YthlmnnjbpikijaaDoorW.PrintMore
set_option linter.unusedVariables false
set_option linter.unusedSimpArgs false
def exB : List Int := [83, 72, 84, 1, 0, 0, 0, 0, 5, 0, 0, 0, 0, 0]
def exN : ByteArray := ⟨#[78, 65, 77, 69]⟩
def exX : ByteArray := ⟨#[120]⟩
def exF : List S56 := [⟨exN, exX⟩]
def exL : List (List Int) := [[1, 2]]
def exG : List (List Int) := [padded 3 128 [1, 2]]
theorem ex_write : fWriteT TG0 = (exB, 0) := by kernel_rfl
theorem ex_read : fReadT exB = (TG0, 14, 0) := by kernel_rfl
theorem ex_strip : fStrip [255, 224] = ([], 4) := by kernel_rfl
theorem ex_strip2 : fStrip [255, 0, 1] = ([], 4) := by kernel_rfl
theorem ex_set : fSet TG0 exN exX = (⟨0, 0, exF⟩, 0) := by kernel_rfl
theorem ex_get : fGet ⟨0, 0, exF⟩ exN = (exX, 0) := by kernel_rfl
theorem ex_ok : okT ⟨0, 0, exF⟩ = true := by kernel_rfl
theorem ex_grown : fGrown 8000 exL 3 = ⟨8000, exG, ⟨3, 123, []⟩, 0⟩ := by kernel_rfl
theorem ex_trim : fTrim 8000 exG ⟨3, 123, []⟩ = (8000, exL, 0) := by kernel_rfl
theorem ex_same : shawmref01_Same.f 100 exB exB = some true := by kernel_rfl
theorem ex_same2 : shawmref01_Same.f 100 [255, 0, 224, 255, 0] [255, 0, 224, 255, 0] = some true := by kernel_rfl
theorem ex_same3 : shawmref02_Same.f 100 8000 exL 8000 exL = some true := by kernel_rfl
end Go.Proofs.YthlmnnjbpikijaaDoor.P
end
section
namespace Go.Proofs.YthlmnnjbpikijaaDoor.P
open Go.RowKit Go.Shelf Go.Proofs.YthlmnnjbpikijaaDoor.Bits Go.Proofs.YthlmnnjbpikijaaDoorW.PrintWords Go.Proofs.YthlmnnjbpikijaaDoorW.PrintLast Go.Proofs.YthlmnnjbpikijaaDoorW.PrintMore
set_option linter.unusedVariables false
set_option linter.unusedSimpArgs false
attribute [local go_sem ↓] Go.wp_at_zero Go.wp_at_succ
theorem FD.nil (w : World) (c : Nat) : FD w none c [] := ⟨⟨rfl, by decide, fun q => absurd q (by decide)⟩, Nat.zero_le _, by decide⟩
theorem lit_C64 (X : World) (xs : List Int) (hm : xs.length ≤ 9223372036854775807) : Kd.C (Kd.int .i64) (X.alloc (.cells (nums .i64 xs).toArray 3)) (some ⟨X.heap.size, 0, none⟩) xs.length xs := by
  obtain ⟨A, c, e, _, hC⟩ := Kd.R_reads (Kd.R_of_own (ok := fun _ => True) (own_lit_of (enc := fun x => Value.int .i64 x) X X.heap.size 3 xs (Nat.le_refl _) hm) (fun _ _ => trivial))
  cases e
  exact hC
theorem ex_is8 : is8 exB := by unfold is8 exB; decide
theorem ex_is8a : is8 [255, 224] := by unfold is8; decide
theorem ex_is8b : is8 [255, 0, 1] := by unfold is8; decide
theorem ex_stuff : tag_Stuff.f [255, 224, 255] = some [255, 0, 224, 255, 0] := by kernel_rfl
/-- The example's sound, as the law lays it. -/
abbrev exsW (W : World) : World := (W.alloc (.cells #[.int .i64 1, .int .i64 2] 3)).alloc (.cells #[.slice (some ⟨W.heap.size, 0, none⟩) 2 2] 59)
theorem exs_B (W : World) : Below W.heap.size W (exsW W) := below_alloc (below_alloc (Below.refl _ _) _) _
theorem exs_CD (W : World) : CD (exsW W) (some ⟨W.heap.size + 1, 0, none⟩) 1 exL := by
  have h1 := lit_C64 W [1, 2] (by simp)
  have hg : (exsW W).heap[W.heap.size + 1]? = some (.cells #[.slice (some ⟨W.heap.size, 0, none⟩) 2 2] 59 (0, 0)) := by
    have := World.alloc_heap_new (W.alloc (.cells #[.int .i64 1, .int .i64 2] 3)) (.cells #[.slice (some ⟨W.heap.size, 0, none⟩) 2 2] 59)
    simpa using this
  refine ⟨⟨rfl, by decide, fun _ => ⟨_, rfl, fun j p hj => ?_⟩⟩, Nat.le_refl _, by decide⟩
  have hj2 : j < 1 := (List.getElem?_eq_some_iff.1 hj).1
  obtain rfl : j = 0 := by omega
  obtain rfl := Option.some.inj hj
  refine ⟨[.slice (some ⟨W.heap.size, 0, none⟩) 2 2], rfl, ⟨_, _, rfl, by decide, Kd.C_alloc h1 _⟩, fun i u hu => ?_⟩
  have hi : i < 1 := (List.getElem?_eq_some_iff.1 hu).1
  obtain rfl : i = 0 := by omega
  obtain rfl := Option.some.inj hu
  show World.cell? _ ((⟨W.heap.size + 1, 0, none⟩ : Addr).add (0 * 1 + 0)) = _
  rw [show (⟨W.heap.size + 1, 0, none⟩ : Addr).add (0 * 1 + 0) = ⟨W.heap.size + 1, 0, none⟩ by simp [Addr.add_lit], cell_of_row _ _ _ _ _ _ hg]
  rfl
set_option maxHeartbeats 8000000 in
set_option maxRecDepth 100000 in
theorem awake_any (w : World) (hg : HG w) : Calls Tryd.prog 12 #[] w fun e w' => e = .returned (.bool true) ∧ Below w.heap.size w w' := by
  have HG0 := Aside0.mk hg
  have hwr := TWrite_any TG0 none 0 w (FD.nil w 0)
  rw [ex_write] at hwr
  have HWR := Aside0.mk hwr
  obtain ⟨eb, heb⟩ : ∃ eb, eb = exB := ⟨_, rfl⟩
  have EB := Aside0.mk heb
  clear hg hwr
  go_enter Tryd.func12, Tryd.ntmps12
  go_wp2_with fail
  refine HWR.out.mono ?_
  rintro e w1 ⟨v1, S1, rfl, hr1, hs1, hb1⟩
  rw [← heb] at hr1
  obtain ⟨A1, c1, ev, hcap1, hC1⟩ := Kd.R_reads hr1
  subst ev
  have hrd := TRead_any A1 c1 eb w1 hC1 (by rw [heb]; exact ex_is8) (by rw [heb]; decide) hcap1
  rw [show fReadT eb = (TG0, 14, 0) by rw [heb]; exact ex_read] at hrd
  have HRD : Aside0 (Calls Tryd.prog 18 #[.slice A1 eb.length c1] w1 fun e w' => ∃ v, e = .returned (.tuple #[.agg #[.int .i64 0, .int .i64 0, v], .int .i64 14, .int .i64 0]) ∧ RowE w' w1.heap.size v [] ∧ Below w1.heap.size w1 w') := ⟨hrd⟩
  have HC1 := Aside0.mk hC1
  have HCAP1 := Aside0.mk hcap1
  have HB1 := Aside0.mk hb1
  clear hr1 hs1 hb1 hC1 hcap1 hrd heb
  go_wp2_with fail
  refine HRD.out.mono ?_
  rintro e w2 ⟨v2, rfl, hrow2, hb2⟩
  obtain ⟨A2, c2, ev, hfd2⟩ := RowE.fd hrow2 (by decide)
  replace ev : v2 = .slice A2 0 c2 := ev
  subst ev
  obtain ⟨wa, hwa⟩ : ∃ wa, wa = w2.alloc (tagObj 0 0 A2 0 c2) := ⟨_, rfl⟩
  have hba : Below w2.heap.size w2 wa := by rw [hwa]; exact below_alloc (Below.refl _ _) _
  have K3a : Aside0 (wa.heap[w2.heap.size]? = some (tagObj 0 0 A2 0 c2)) := ⟨by rw [hwa]; exact World.alloc_heap_new _ _⟩
  have SZA : Aside0 (wa.heap.size = w2.heap.size + 1) := ⟨by rw [hwa]; simp⟩
  obtain ⟨wb, hwb⟩ : ∃ wb, wb = wa.alloc (.cells #[.int .u8 255, .int .u8 224] 5) := ⟨_, rfl⟩
  have hbb : Below w2.heap.size w2 wb := hba.trans (by rw [hwb]; exact (below_alloc (Below.refl _ _) _).mono hba.size)
  have hlb : Kd.C (Kd.int .u8) wb (some ⟨wa.heap.size, 0, none⟩) 2 [255, 224] := by rw [hwb]; exact lit_C8 wa [255, 224] (by simp)
  have hst := Strip_any (some ⟨wa.heap.size, 0, none⟩) 2 [255, 224] wb hlb (by decide) ex_is8a (by decide)
  rw [ex_strip, SZA.out] at hst
  have HST : Aside0 (Calls Tryd.prog 22 #[.slice (some ⟨w2.heap.size + 1, 0, none⟩) 2 2] wb fun e w' => ∃ v, e = .returned (.tuple #[v, .int .i64 4]) ∧ Kd.R (Kd.int .u8) 5 w' wb.heap.size (fun _ => True) v [] ∧ Below wb.heap.size wb w') := ⟨hst⟩
  have HFD2 := Aside0.mk hfd2
  have HB2 := Aside0.mk (HB1.out.trans (hb2.mono HB1.out.size))
  have HC2 := Aside0.mk (Kd.C_below HC1.out hb2)
  have HGW2 := Aside0.mk (HG0.out.below HB2.out)
  have HBB := Aside0.mk hbb
  have HWA := Aside0.mk hwa
  have HWB := Aside0.mk hwb
  have K3b : Aside0 (wb.heap[w2.heap.size]? = some (tagObj 0 0 A2 0 c2)) := ⟨by rw [hwb]; exact blk_alloc' K3a.out _⟩
  clear hrow2 hb2 hfd2 hwa hba hwb hbb hlb hst
  go_wp2_with fail
  rw [← HWA.out, ← HWB.out]
  refine HST.out.mono ?_
  rintro e w3 ⟨v3, rfl, -, hb3⟩
  have HB3 := Aside0.mk (HBB.out.trans (hb3.mono HBB.out.size))
  have K3c : Aside0 (w3.heap[w2.heap.size]? = some (tagObj 0 0 A2 0 c2)) := ⟨(hb3.block _ (lt_of_block K3b.out)).trans K3b.out⟩
  obtain ⟨wc, hwc⟩ : ∃ wc, wc = w3.alloc (.cells #[.int .u8 255, .int .u8 0, .int .u8 1] 5) := ⟨_, rfl⟩
  have hbc : Below w3.heap.size w3 wc := by rw [hwc]; exact below_alloc (Below.refl _ _) _
  have hlc : Kd.C (Kd.int .u8) wc (some ⟨w3.heap.size, 0, none⟩) 3 [255, 0, 1] := by rw [hwc]; exact lit_C8 w3 [255, 0, 1] (by simp)
  have hst := Strip_any (some ⟨w3.heap.size, 0, none⟩) 3 [255, 0, 1] wc hlc (by decide) ex_is8b (by decide)
  rw [ex_strip2] at hst
  have HST2 : Aside0 (Calls Tryd.prog 22 #[.slice (some ⟨w3.heap.size, 0, none⟩) 3 3] wc fun e w' => ∃ v, e = .returned (.tuple #[v, .int .i64 4]) ∧ Kd.R (Kd.int .u8) 5 w' wc.heap.size (fun _ => True) v [] ∧ Below wc.heap.size wc w') := ⟨hst⟩
  have HWC := Aside0.mk hwc
  have HBC := Aside0.mk hbc
  clear hb3 hwc hbc hlc hst
  go_wp2_with fail
  rw [← HWC.out]
  refine HST2.out.mono ?_
  rintro e w4 ⟨v4, rfl, -, hb4⟩
  have hb34 := HBC.out.trans (hb4.mono HBC.out.size)
  have HB4 := Aside0.mk (HB3.out.trans (hb34.mono HB3.out.size))
  have K3d : Aside0 (w4.heap[w2.heap.size]? = some (tagObj 0 0 A2 0 c2)) := ⟨(hb34.block _ (lt_of_block K3c.out)).trans K3c.out⟩
  have hset := Set_any TG0 none 0 exN exX w4 (FD.nil w4 0)
  rw [ex_set] at hset
  have HSET : Aside0 (Calls Tryd.prog 27 #[tagV 0 0 none 0 0, .string ⟨#[78, 65, 77, 69]⟩, .string ⟨#[120]⟩] w4 fun e w' => ∃ v, e = .returned (.tuple #[.agg #[.int .i64 0, .int .i64 0, v], .int .i64 0]) ∧ RowE w' w4.heap.size v exF ∧ Below w4.heap.size w4 w') := ⟨hset⟩
  clear hb34 hb4 hset
  go_wp2_with fail
  refine HSET.out.mono ?_
  rintro e w5 ⟨v5, rfl, hrow5, hb5⟩
  obtain ⟨A5, c5, ev, hfd5⟩ := RowE.fd hrow5 (by decide)
  replace ev : v5 = .slice A5 1 c5 := ev
  subst ev
  have HB5 := Aside0.mk (HB4.out.trans (hb5.mono HB4.out.size))
  have K3e : Aside0 (w5.heap[w2.heap.size]? = some (tagObj 0 0 A2 0 c2)) := ⟨(hb5.block _ (lt_of_block K3d.out)).trans K3d.out⟩
  obtain ⟨wd, hwd⟩ : ∃ wd, wd = w5.alloc (tagObj 0 0 A5 1 c5) := ⟨_, rfl⟩
  have hbd : Below w5.heap.size w5 wd := by rw [hwd]; exact below_alloc (Below.refl _ _) _
  have K10 : Aside0 (wd.heap[w5.heap.size]? = some (tagObj 0 0 A5 1 c5)) := ⟨by rw [hwd]; exact World.alloc_heap_new _ _⟩
  have HFD5 := Aside0.mk (hfd5.below hbd)
  have hget := TGet_any ⟨0, 0, exF⟩ A5 c5 exN wd HFD5.out
  rw [ex_get] at hget
  have HGET : Aside0 (Calls Tryd.prog 25 #[tagV 0 0 A5 1 c5, .string ⟨#[78, 65, 77, 69]⟩] wd fun e w' => e = .returned (.tuple #[.string ⟨#[120]⟩, .int .i64 0]) ∧ Below wd.heap.size wd w') := ⟨hget⟩
  have HWD := Aside0.mk hwd
  have HBD := Aside0.mk hbd
  clear hrow5 hb5 hfd5 hwd hbd hget
  go_wp2_with fail
  rw [← HWD.out]
  refine HGET.out.mono ?_
  rintro e w6 ⟨rfl, hb6⟩
  have HB6 := Aside0.mk (HB5.out.trans ((HBD.out.trans (hb6.mono HBD.out.size)).mono HB5.out.size))
  have K3f : Aside0 (w6.heap[w2.heap.size]? = some (tagObj 0 0 A2 0 c2)) := ⟨((HBD.out.trans (hb6.mono HBD.out.size)).block _ (lt_of_block K3e.out)).trans K3e.out⟩
  have K10b : Aside0 (w6.heap[w5.heap.size]? = some (tagObj 0 0 A5 1 c5)) := ⟨(hb6.block _ (lt_of_block K10.out)).trans K10.out⟩
  have HFD6 := Aside0.mk (HFD5.out.below hb6)
  have hbx : Below w6.heap.size w6 (exsW w6) := exs_B w6
  have hgr := Grown_any 8000 (some ⟨w6.heap.size + 1, 0, none⟩) 1 exL 3 (exsW w6) (exs_CD w6) (HGW2.out.below (HB6.out.trans (hbx.mono HB6.out.size)))
  rw [ex_grown] at hgr
  have HGR : Aside0 (Calls Tryd.prog 32 #[sndV 8000 (some ⟨w6.heap.size + 1, 0, none⟩) 1 1, .int .i64 3] (exsW w6) fun e w' => ∃ A c, e = .returned (.tuple #[sndV 8000 A 1 c, tagV 3 123 none 0 0, .int .i64 0]) ∧ RL (exsW w6) w' (.slice A 1 c) exG ∧ Below (exsW w6).heap.size (exsW w6) w') := ⟨hgr⟩
  clear hb6 hbx hgr
  go_wp2_with fail
  refine HGR.out.mono ?_
  rintro e w7 ⟨A7, c7, rfl, hrl7, hb7⟩
  have hb67 := (exs_B w6).trans (hb7.mono (exs_B w6).size)
  have HB7 := Aside0.mk (HB6.out.trans (hb67.mono HB6.out.size))
  have K3g : Aside0 (w7.heap[w2.heap.size]? = some (tagObj 0 0 A2 0 c2)) := ⟨(hb67.block _ (lt_of_block K3f.out)).trans K3f.out⟩
  have K10c : Aside0 (w7.heap[w5.heap.size]? = some (tagObj 0 0 A5 1 c5)) := ⟨(hb67.block _ (lt_of_block K10b.out)).trans K10b.out⟩
  have HFD7 := Aside0.mk (HFD6.out.below hb67)
  obtain ⟨we, hwe⟩ : ∃ we, we = (w7.alloc (sndObj 8000 A7 1 c7)).alloc (tagObj 3 123 none 0 0) := ⟨_, rfl⟩
  have hbe : Below w7.heap.size w7 we := by rw [hwe]; exact below_alloc (below_alloc (Below.refl _ _) _) _
  have K15 : Aside0 (we.heap[w7.heap.size + 1]? = some (tagObj 3 123 none 0 0)) := ⟨by rw [hwe]; exact alloc2_new w7 _ _⟩
  have htr := Trim_any 8000 A7 c7 exG ⟨3, 123, []⟩ none 0 we (RL.cd (hrl7.below hbe) rfl (by decide) (by decide)) (FD.nil we 0) (HGW2.out.below (HB7.out.trans (hbe.mono HB7.out.size)))
  rw [ex_trim] at htr
  have HTR : Aside0 (Calls Tryd.prog 30 #[sndV 8000 A7 1 c7, tagV 3 123 none 0 0] we fun e w' => ∃ A c, e = .returned (.tuple #[sndV 8000 A 1 c, .int .i64 0]) ∧ RL we w' (.slice A 1 c) exL ∧ Below we.heap.size we w') := ⟨htr⟩
  have HWE := Aside0.mk hwe
  have HBE := Aside0.mk hbe
  clear hrl7 hb67 hb7 hwe hbe htr
  go_wp2_with fail
  rw [← HWE.out]
  refine HTR.out.mono ?_
  rintro e w8 ⟨A8, c8, rfl, hrl8, hb8⟩
  have hb78 := HBE.out.trans (hb8.mono HBE.out.size)
  have HB8 := Aside0.mk (HB7.out.trans (hb78.mono HB7.out.size))
  have K3h : Aside0 (w8.heap[w2.heap.size]? = some (tagObj 0 0 A2 0 c2)) := ⟨(hb78.block _ (lt_of_block K3g.out)).trans K3g.out⟩
  have K10d : Aside0 (w8.heap[w5.heap.size]? = some (tagObj 0 0 A5 1 c5)) := ⟨(hb78.block _ (lt_of_block K10c.out)).trans K10c.out⟩
  have K15b : Aside0 (w8.heap[w7.heap.size + 1]? = some (tagObj 3 123 none 0 0)) := ⟨(hb8.block _ (lt_of_block K15.out)).trans K15.out⟩
  have HFD8 := Aside0.mk (HFD7.out.below hb78)
  obtain ⟨wf, hwf⟩ : ∃ wf, wf = w8.alloc (sndObj 8000 A8 1 c8) := ⟨_, rfl⟩
  have K17 : Aside0 (wf.heap[w8.heap.size]? = some (sndObj 8000 A8 1 c8)) := ⟨by rw [hwf]; exact World.alloc_heap_new _ _⟩
  obtain ⟨wg, hwg⟩ : ∃ wg, wg = wf.alloc (.cells #[.int .u8 83, .int .u8 72, .int .u8 84, .int .u8 1, .int .u8 0, .int .u8 0, .int .u8 0, .int .u8 0, .int .u8 5, .int .u8 0, .int .u8 0, .int .u8 0, .int .u8 0, .int .u8 0] 5) := ⟨_, rfl⟩
  have SZF : Aside0 (wf.heap.size = w8.heap.size + 1) := ⟨by rw [hwf]; simp⟩
  have hbf : Below w8.heap.size w8 wf := by rw [hwf]; exact below_alloc (Below.refl _ _) _
  have hbfg : Below wf.heap.size wf wg := by rw [hwg]; exact below_alloc (Below.refl _ _) _
  have hbg : Below w8.heap.size w8 wg := hbf.trans (hbfg.mono hbf.size)
  have hlg : Kd.C (Kd.int .u8) wg (some ⟨wf.heap.size, 0, none⟩) exB.length exB := by rw [hwg]; exact lit_C8 wf exB (by simp [exB])
  have hsm := shawmref01_Same.calls 100 A1 c1 eb (some ⟨wf.heap.size, 0, none⟩) exB.length exB true wg (Kd.C_below HC2.out (HB8.out.trans (hbg.mono HB8.out.size))) HCAP1.out hlg (Nat.le_refl _) (by rw [EB.out]; exact ex_same)
  rw [SZF.out] at hsm
  have HSM : Aside0 (Calls Tryd.prog 17 #[.slice A1 eb.length c1, .slice (some ⟨w8.heap.size + 1, 0, none⟩) 14 14] wg fun e w' => e = .returned (.bool true) ∧ Drawn0 wg w') := ⟨hsm⟩
  have HWF := Aside0.mk hwf
  have HWG := Aside0.mk hwg
  have HBG := Aside0.mk hbg
  have HBFG := Aside0.mk hbfg
  have HRL8 := Aside0.mk hrl8
  have HB8r := Aside0.mk hb8
  clear hrl8 hb78 hb8 hwf hwg hbf hbfg hbg hlg hsm
  go_wp2_with fail
  rw [← HWF.out, ← HWG.out]
  refine HSM.out.mono ?_
  rintro e w9 ⟨rfl, hd9⟩
  have hb89 := HBG.out.trans (hd9.below.mono HBG.out.size)
  have hbf9 := HBFG.out.trans (hd9.below.mono HBFG.out.size)
  have HB9 := Aside0.mk (HB8.out.trans (hb89.mono HB8.out.size))
  have hk3 := (hb89.block _ (lt_of_block K3h.out)).trans K3h.out
  have K10e : Aside0 (w9.heap[w5.heap.size]? = some (tagObj 0 0 A5 1 c5)) := ⟨(hb89.block _ (lt_of_block K10d.out)).trans K10d.out⟩
  have K15c : Aside0 (w9.heap[w7.heap.size + 1]? = some (tagObj 3 123 none 0 0)) := ⟨(hb89.block _ (lt_of_block K15b.out)).trans K15b.out⟩
  have K17b : Aside0 (w9.heap[w8.heap.size]? = some (sndObj 8000 A8 1 c8)) := ⟨(hbf9.block _ (lt_of_block K17.out)).trans K17.out⟩
  have HFD9 := Aside0.mk (HFD8.out.below hb89)
  have HRL9 := Aside0.mk (HRL8.out.below hb89)
  have HFDt := Aside0.mk (HFD2.out.below HB9.out)
  have hst := SameTag_any 0 0 A2 none c2 0 [] w9 HFDt.out (FD.nil w9 0)
  have HSTT : Aside0 (Calls Tryd.prog 20 #[tagV 0 0 A2 0 c2, tagV 0 0 none 0 0] w9 fun e w' => e = .returned (.bool true) ∧ Below w9.heap.size w9 w') := ⟨hst⟩
  have z0 : w9.cell? ⟨w2.heap.size, 0, none⟩ = some (.int .i64 0) := by rw [cell_of_row _ _ _ _ _ _ hk3]; rfl
  have z1 : w9.cell? ⟨w2.heap.size, 1, none⟩ = some (.int .i64 0) := by rw [cell_of_row _ _ _ _ _ _ hk3]; rfl
  have z2 : w9.cell? ⟨w2.heap.size, 2, none⟩ = some (.slice A2 0 c2) := by rw [cell_of_row _ _ _ _ _ _ hk3]; rfl
  clear hb89 hbf9 hd9 hst hk3
  go_wp2_with fail
  refine HSTT.out.mono ?_
  rintro e wA ⟨rfl, hbA⟩
  have K10f : Aside0 (wA.heap[w5.heap.size]? = some (tagObj 0 0 A5 1 c5)) := ⟨(hbA.block _ (lt_of_block K10e.out)).trans K10e.out⟩
  have K15d : Aside0 (wA.heap[w7.heap.size + 1]? = some (tagObj 3 123 none 0 0)) := ⟨(hbA.block _ (lt_of_block K15c.out)).trans K15c.out⟩
  have K17c : Aside0 (wA.heap[w8.heap.size]? = some (sndObj 8000 A8 1 c8)) := ⟨(hbA.block _ (lt_of_block K17b.out)).trans K17b.out⟩
  have HFDA := Aside0.mk (HFD9.out.below hbA)
  have HRLA := Aside0.mk (HRL9.out.below hbA)
  have HBA := Aside0.mk (HB9.out.trans (hbA.mono HB9.out.size))
  obtain ⟨wa1, hwa1⟩ : ∃ wa1, wa1 = wA.alloc (.cells #[.int .u8 255, .int .u8 224, .int .u8 255] 5) := ⟨_, rfl⟩
  have hba1 : Below wA.heap.size wA wa1 := by rw [hwa1]; exact below_alloc (Below.refl _ _) _
  have hla1 : Kd.C (Kd.int .u8) wa1 (some ⟨wA.heap.size, 0, none⟩) 3 [255, 224, 255] := by rw [hwa1]; exact lit_C8 wA [255, 224, 255] (by simp)
  have hsf := tag_Stuff.calls (some ⟨wA.heap.size, 0, none⟩) 3 [255, 224, 255] [255, 0, 224, 255, 0] wa1 hla1 (by decide) ex_stuff
  have HSF : Aside0 (Calls Tryd.prog 21 #[.slice (some ⟨wA.heap.size, 0, none⟩) 3 3] wa1 fun e w' => ∃ v, e = .returned v ∧ Kd.R (Kd.int .u8) 5 w' wa1.heap.size (fun _ => True) v [255, 0, 224, 255, 0] ∧ Below wa1.heap.size wa1 w') := ⟨hsf⟩
  have HWA1 := Aside0.mk hwa1
  have HBA1 := Aside0.mk hba1
  clear hbA hwa1 hba1 hla1 hsf z0 z1 z2
  go_wp2_with fail
  rw [← HWA1.out]
  refine HSF.out.mono ?_
  rintro e wB ⟨vB, rfl, hrB, hbB⟩
  obtain ⟨AB, cB, ev, hcapB, hCB⟩ := Kd.R_reads hrB
  replace ev : vB = .slice AB 5 cB := ev
  subst ev
  have hbAB := HBA1.out.trans (hbB.mono HBA1.out.size)
  obtain ⟨wb1, hwb1⟩ : ∃ wb1, wb1 = wB.alloc (.cells #[.int .u8 255, .int .u8 0, .int .u8 224, .int .u8 255, .int .u8 0] 5) := ⟨_, rfl⟩
  have hbb1 : Below wB.heap.size wB wb1 := by rw [hwb1]; exact below_alloc (Below.refl _ _) _
  have hlb1 : Kd.C (Kd.int .u8) wb1 (some ⟨wB.heap.size, 0, none⟩) 5 [255, 0, 224, 255, 0] := by rw [hwb1]; exact lit_C8 wB [255, 0, 224, 255, 0] (by simp)
  have hsm := shawmref01_Same.calls 100 AB cB [255, 0, 224, 255, 0] (some ⟨wB.heap.size, 0, none⟩) 5 [255, 0, 224, 255, 0] true wb1 (Kd.C_below hCB hbb1) hcapB hlb1 (Nat.le_refl _) ex_same2
  have HSM2 : Aside0 (Calls Tryd.prog 17 #[.slice AB 5 cB, .slice (some ⟨wB.heap.size, 0, none⟩) 5 5] wb1 fun e w' => e = .returned (.bool true) ∧ Drawn0 wb1 w') := ⟨hsm⟩
  have HWB1 := Aside0.mk hwb1
  have HBAB1 := Aside0.mk (hbAB.trans (hbb1.mono hbAB.size))
  clear hrB hbB hcapB hCB hbAB hwb1 hbb1 hlb1 hsm
  go_wp2_with fail
  rw [← HWB1.out]
  refine HSM2.out.mono ?_
  rintro e wC ⟨rfl, hdC⟩
  have hbC := HBAB1.out.trans (hdC.below.mono HBAB1.out.size)
  have HBC' := Aside0.mk (HBA.out.trans (hbC.mono HBA.out.size))
  have K10g : Aside0 (wC.heap[w5.heap.size]? = some (tagObj 0 0 A5 1 c5)) := ⟨(hbC.block _ (lt_of_block K10f.out)).trans K10f.out⟩
  have hk15 := (hbC.block _ (lt_of_block K15d.out)).trans K15d.out
  have hk17 := (hbC.block _ (lt_of_block K17c.out)).trans K17c.out
  have HFDC := Aside0.mk (HFDA.out.below hbC)
  have hrlC := HRLA.out.below hbC
  have y0 : wC.cell? ⟨w7.heap.size + 1, 0, none⟩ = some (.int .i64 3) := by rw [cell_of_row _ _ _ _ _ _ hk15]; rfl
  have y1 : wC.cell? ⟨w7.heap.size + 1, 1, none⟩ = some (.int .i64 123) := by rw [cell_of_row _ _ _ _ _ _ hk15]; rfl
  have x0 : wC.cell? ⟨w8.heap.size, 0, none⟩ = some (.int .i64 8000) := by rw [cell_of_row _ _ _ _ _ _ hk17]; rfl
  have x1 : wC.cell? ⟨w8.heap.size, 1, none⟩ = some (.slice A8 1 c8) := by rw [cell_of_row _ _ _ _ _ _ hk17]; rfl
  have hcd := RL.cd hrlC rfl (by decide) (by decide)
  have hps := shawmref02_Same.calls 100 8000 A8 c8 exL 8000 (some ⟨wC.heap.size + 1, 0, none⟩) 1 exL true (exsW wC) (hcd.below (exs_B wC)).C hcd.cap (exs_CD wC).C (Nat.le_refl _) ex_same3
  have HPS : Aside0 (Calls Tryd.prog 34 #[sndV 8000 A8 1 c8, sndV 8000 (some ⟨wC.heap.size + 1, 0, none⟩) 1 1] (exsW wC) fun e w' => e = .returned (.bool true) ∧ Below (exsW wC).heap.size (exsW wC) w') := ⟨hps⟩
  clear hbC hdC hk15 hk17 hrlC hcd hps
  go_wp2_with fail
  refine HPS.out.mono ?_
  rintro e wD ⟨rfl, hbD0⟩
  have hbD := (exs_B wC).trans (hbD0.mono (exs_B wC).size)
  have hk10 := (hbD.block _ (lt_of_block K10g.out)).trans K10g.out
  have HFDD := Aside0.mk (HFDC.out.below hbD)
  have HBD' := Aside0.mk (HBC'.out.trans (hbD.mono HBC'.out.size))
  have z0 : wD.cell? ⟨w5.heap.size, 0, none⟩ = some (.int .i64 0) := by rw [cell_of_row _ _ _ _ _ _ hk10]; rfl
  have z1 : wD.cell? ⟨w5.heap.size, 1, none⟩ = some (.int .i64 0) := by rw [cell_of_row _ _ _ _ _ _ hk10]; rfl
  have z2 : wD.cell? ⟨w5.heap.size, 2, none⟩ = some (.slice A5 1 c5) := by rw [cell_of_row _ _ _ _ _ _ hk10]; rfl
  have hck := Check_any ⟨0, 0, exF⟩ A5 c5 wD HFDD.out
  rw [ex_ok, if_pos rfl] at hck
  have HCK : Aside0 (Calls Tryd.prog 15 #[tagV 0 0 A5 1 c5] wD fun e w' => e = .returned (.int .i64 0) ∧ Below wD.heap.size wD w') := ⟨hck⟩
  clear hbD0 hbD hk10 hck y0 y1 x0 x1
  go_wp2_with fail
  refine HCK.out.mono ?_
  rintro e wE ⟨rfl, hbE⟩
  have HBE' := Aside0.mk (HB2.out.trans ((HBD'.out.trans (hbE.mono HBD'.out.size)).mono HB2.out.size))
  clear hbE z0 z1 z2
  go_wp2_with fail
  go_ret
  exact ⟨rfl, HBE'.out⟩
end Go.Proofs.YthlmnnjbpikijaaDoor.P
end
section
namespace Go.Proofs.YthlmnnjbpikijaaDoor.P
open Go.RowKit Go.Shelf Go.Proofs.YthlmnnjbpikijaaDoor.Bits Go.Proofs.YthlmnnjbpikijaaDoorW.PrintWords Go.Proofs.YthlmnnjbpikijaaDoorW.PrintLast Go.Proofs.YthlmnnjbpikijaaDoorW.PrintMore
set_option linter.unusedVariables false
set_option linter.unusedSimpArgs false
attribute [local go_sem ↓] Go.wp_at_zero Go.wp_at_succ
theorem mea (L k : Nat) (h : k < L) (hL : L ≤ 1000000) : L + 2 - (intOf (.int .i64 (wrap64 ((k : Int) + 1)))).toNat < L + 2 - (intOf (.int .i64 (k : Int))).toNat := by
  rw [wrap64_id (by omega) (by omega)]
  show L + 2 - ((k : Int) + 1).toNat < L + 2 - ((k : Int)).toNat
  omega
theorem rel_next (L k : Nat) (h : k < L) (hL : L ≤ 1000000) : ∃ k' : Nat, Value.int .i64 (wrap64 ((k : Int) + 1)) = .int .i64 (k' : Int) ∧ 1 ≤ k' ∧ (k' ≤ L ∨ k' = 1) := by
  rw [wrap64_id (by omega) (by omega)]
  exact ⟨k + 1, by simp, by omega, by omega⟩
theorem same_yes (A A' : Option Addr) (c c' : Nat) (B : List Int) (w : World) (hC : Kd.C (Kd.int .u8) w A B.length B) (hC' : Kd.C (Kd.int .u8) w A' B.length B) (hn : B.length ≤ 1000000000) :
    Calls Tryd.prog 17 #[.slice A B.length c, .slice A' B.length c'] w fun e w' => e = .returned (.bool true) ∧ Drawn0 w w' := by
  have h := Same_any A A' B.length B.length c c' B B w hC hC' hn hn
  rw [decide_eq_true rfl] at h
  exact h
set_option maxHeartbeats 8000000 in
set_option maxRecDepth 100000 in
theorem TagStuffs_any (A : Option Addr) (c : Nat) (B : List Int) (w : World) (hg : HG w) (hC : Kd.C (Kd.int .u8) w A B.length B) (h8 : is8 B) (hc : B.length ≤ c) :
    Calls Tryd.prog 5 #[.slice A B.length c] w fun e w' => e = .returned (.bool true) ∧ Below w.heap.size w w' := by
  have HC := Aside0.mk hC
  have HG0 := Aside0.mk hg
  have H8 := Aside0.mk h8
  have HCC := Aside0.mk hc
  clear hC hg h8 hc
  by_cases hbig : 5000 < B.length
  · have d1 : decide ((5000 : Int) < (B.length : Int)) = true := by simp; omega
    have HAW := Aside0.mk (awake_any w HG0.out)
    go_enter Tryd.func5, Tryd.ntmps5
    go_wp2_with fail
    refine HAW.out.mono ?_
    rintro e w1 ⟨rfl, hb1⟩
    have HB1 := Aside0.mk hb1
    clear hb1
    go_wp2_with fail
    go_ret
    exact ⟨rfl, HB1.out⟩
  · have d1 : decide ((5000 : Int) < (B.length : Int)) = false := by simp; omega
    have HBL : Aside0 (B.length ≤ 5000) := ⟨by omega⟩
    have hsf := tag_Stuff.calls A c B (stf B) w HC.out HCC.out (by unfold tag_Stuff.f; rw [if_pos (by omega), if_pos (by rw [List.all_eq_true]; intro b hb; have := H8.out b hb; simp; omega)])
    have HSF := Aside0.mk hsf
    obtain ⟨s, hs⟩ : ∃ s, stf B = s := ⟨_, rfl⟩
    have HS := Aside0.mk hs
    have HSL : Aside0 (s.length ≤ 10000) := ⟨by rw [← hs]; have := (stf_len B).2; omega⟩
    rw [hs] at HSF
    clear hsf hs
    go_enter Tryd.func5, Tryd.ntmps5
    go_wp2_with fail
    clear d1
    refine HSF.out.mono ?_
    rintro e w1 ⟨v1, rfl, hr1, hb1⟩
    obtain ⟨A1, c1, ev, hcap1, hC1⟩ := Kd.R_reads hr1
    subst ev
    have HB1 := Aside0.mk hb1
    have HC1 := Aside0.mk hC1
    have HCAP1 := Aside0.mk hcap1
    have hsp := Strip_any A c B w1 (Kd.C_below HC.out hb1) HCC.out H8.out (by omega)
    obtain ⟨x, er, hx⟩ : ∃ x er, fStrip B = (x, er) := ⟨_, _, rfl⟩
    have HX := Aside0.mk hx
    rw [hx] at hsp
    have HXL : Aside0 (x.length ≤ 5000) := ⟨by
      have := strp_len B 0
      unfold fStrip at hx
      split at hx
      · cases hx; omega
      · cases hx; simp⟩
    have HSP := Aside0.mk hsp
    clear hr1 hb1 hcap1 hC1 hsp hx
    go_wp2_with fail
    refine HSP.out.mono ?_
    rintro e w2 ⟨v2, rfl, hr2, hb2⟩
    (try dsimp only at hr2)
    obtain ⟨A2, c2, ev, hcap2, hC2⟩ := Kd.R_reads hr2
    subst ev
    have HB2 := Aside0.mk (HB1.out.trans (hb2.mono HB1.out.size))
    have HC12 := Aside0.mk (Kd.C_below HC1.out hb2)
    have HC2 := Aside0.mk hC2
    have hrp := shawmref27_Strip.calls 20000 A c B x er w2 (Kd.C_below HC.out HB2.out) HCC.out (by rw [rstrip_val B 20000 (by omega) (by omega), HX.out])
    have HRP := Aside0.mk hrp
    clear hr2 hb2 hcap2 hC2 hrp
    go_wp2_with fail
    refine HRP.out.mono ?_
    rintro e w3 ⟨v3, rfl, hr3, hb3⟩
    obtain ⟨A3, c3, ev, hcap3, hC3⟩ := Kd.R_reads hr3
    subst ev
    have HB3 := Aside0.mk (HB2.out.trans (hb3.mono HB2.out.size))
    have HC13 := Aside0.mk (Kd.C_below HC12.out hb3)
    have HC23 := Aside0.mk (Kd.C_below HC2.out hb3)
    have HC3 := Aside0.mk hC3
    have hsp := Strip_any A1 c1 s w3 HC13.out HCAP1.out (by rw [← HS.out]; exact stf_8 H8.out) (by have := HSL.out; omega)
    rw [show fStrip s = (B, 0) by rw [← HS.out]; exact fStrip_stf B] at hsp
    have HSP4 := Aside0.mk hsp
    clear hr3 hb3 hcap3 hC3 hsp
    go_wp2_with fail
    refine HSP4.out.mono ?_
    rintro e w4 ⟨v4, rfl, hr4, hb4⟩
    (try dsimp only at hr4)
    obtain ⟨A4, c4, ev, hcap4, hC4⟩ := Kd.R_reads hr4
    subst ev
    have HB4 := Aside0.mk (HB3.out.trans (hb4.mono HB3.out.size))
    have HC14 := Aside0.mk (Kd.C_below HC13.out hb4)
    have HC24 := Aside0.mk (Kd.C_below HC23.out hb4)
    have HC34 := Aside0.mk (Kd.C_below HC3.out hb4)
    have HC4 := Aside0.mk hC4
    clear hr4 hb4 hcap4 hC4
    go_wp2_with fail
    go_loopw [10] (fun u wr => ∃ k : Nat, u = .int .i64 (k : Int) ∧ 1 ≤ k ∧ (k ≤ s.length ∨ k = 1) ∧ Aside0 (wr = w4)) (fun u _ => s.length + 2 - (intOf u).toNat)
    case atStart => exact ⟨1, rfl, by omega, .inr rfl, ⟨rfl⟩⟩
    case round =>
      obtain ⟨k, rfl, hk1, hk, HW⟩ := hrel
      obtain rfl := HW.out
      clear HW
      by_cases hlt : k < s.length
      · have d2 : decide ((k : Int) < (s.length : Int)) = true := by simp; omega
        obtain ⟨j, hj⟩ : ∃ j, k = j + 1 := ⟨k - 1, by omega⟩
        obtain ⟨ad, e1, hv0⟩ := at8 HC14.out j (by omega)
        obtain ⟨ad', e2, hv1⟩ := at8 HC14.out k hlt
        rw [e1] at e2
        cases e2
        have HSAFE := Aside0.mk (stf_safe B j)
        rw [HS.out, ← hj] at HSAFE
        obtain ⟨x0, hx0⟩ : ∃ x0, s.getD j 0 = x0 := ⟨_, rfl⟩
        obtain ⟨x1, hx1⟩ : ∃ x1, s.getD k 0 = x1 := ⟨_, rfl⟩
        rw [hx0] at hv0 HSAFE
        rw [hx1] at hv1 HSAFE
        subst e1
        have hwj : wrap64 ((k : Int) - 1) = (j : Int) := by rw [wrap64_id (by omega) (by have := HSL.out; omega)]; omega
        have hjl : j < s.length := by omega
        have REL : Aside0 (∃ k' : Nat, Value.int .i64 (wrap64 ((k : Int) + 1)) = .int .i64 (k' : Int) ∧ 1 ≤ k' ∧ (k' ≤ s.length ∨ k' = 1) ∧ Aside0 (wr = wr)) := by
          obtain ⟨k', h1, h2, h3⟩ := rel_next s.length k hlt (Nat.le_trans HSL.out (by decide))
          exact ⟨⟨k', h1, h2, h3, ⟨rfl⟩⟩⟩
        have MEA := Aside0.mk (mea s.length k hlt (Nat.le_trans HSL.out (by decide)))
        clear hj hk1 hk hx0 hx1
        by_cases h5 : x0 = 255
        · subst h5
          have hs := HSAFE.out rfl
          have d3 : decide ((224 : Int) ≤ x1) = false := by simp; omega
          clear hs HSAFE
          go_wp2_with fail
          refine ⟨?_, MEA.out⟩
          (first | exact REL.out | simpa using REL.out)
        · have d3 : (x0 == (255 : Int)) = false := by simpa using h5
          clear HSAFE h5
          go_wp2_with fail
          refine ⟨?_, MEA.out⟩
          (first | exact REL.out | simpa using REL.out)
      · have d2 : decide ((k : Int) < (s.length : Int)) = false := by simp; omega
        have HHG := Aside0.mk (HG0.out.below HB4.out)
        have hrs := shawmref27_Stuff.calls 20000 A c B s wr (Kd.C_below HC.out HB4.out) HCC.out (by rw [rstuff_val B 20000 (by omega) (by omega), HS.out])
        have HRS := Aside0.mk hrs
        clear hrs
        go_wp2_with fail
        refine HRS.out.mono ?_
        rintro e w5 ⟨v5, rfl, hr5, hb5⟩
        obtain ⟨A5, c5, ev, hcap5, hC5⟩ := Kd.R_reads hr5
        subst ev
        have HB5 := Aside0.mk (HB4.out.trans (hb5.mono HB4.out.size))
        have HS5 := Aside0.mk (same_yes A1 A5 c1 c5 s w5 (Kd.C_below HC14.out hb5) hC5 (by have := HSL.out; omega))
        have HC25 := Aside0.mk (Kd.C_below HC24.out hb5)
        have HC35 := Aside0.mk (Kd.C_below HC34.out hb5)
        have HC45 := Aside0.mk (Kd.C_below HC4.out hb5)
        clear hr5 hb5 hcap5 hC5
        go_wp2_with fail
        refine HS5.out.mono ?_
        rintro e w6 ⟨rfl, hd6⟩
        have HB6 := Aside0.mk (HB5.out.trans (hd6.below.mono HB5.out.size))
        have HS6 := Aside0.mk (same_yes A2 A3 c2 c3 x w6 (Kd.C_below HC25.out hd6.below) (Kd.C_below HC35.out hd6.below) (by have := HXL.out; omega))
        have HC46 := Aside0.mk (Kd.C_below HC45.out hd6.below)
        clear hd6
        go_wp2_with fail
        refine HS6.out.mono ?_
        rintro e w7 ⟨rfl, hd7⟩
        have HB7 := Aside0.mk (HB6.out.trans (hd7.below.mono HB6.out.size))
        have HS7 := Aside0.mk (same_yes A4 A c4 c B w7 (Kd.C_below HC46.out hd7.below) (Kd.C_below HC.out HB7.out) (by have := HBL.out; omega))
        clear hd7
        go_wp2_with fail
        refine HS7.out.mono ?_
        rintro e w8 ⟨rfl, hd8⟩
        have HB8 := Aside0.mk (HB7.out.trans (hd8.below.mono HB7.out.size))
        have HAW := Aside0.mk (awake_any w8 (HG0.out.below HB8.out))
        clear hd8
        go_wp2_with fail
        refine HAW.out.mono ?_
        rintro e w9 ⟨rfl, hb9⟩
        have HB9 := Aside0.mk (HB8.out.trans (hb9.mono HB8.out.size))
        clear hb9
        go_wp2_with fail
        go_ret
        exact ⟨rfl, HB9.out⟩
end Go.Proofs.YthlmnnjbpikijaaDoor.P
end
