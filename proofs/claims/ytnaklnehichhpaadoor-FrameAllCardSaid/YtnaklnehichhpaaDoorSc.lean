/- The walk of shawmlaw22.FrameAll. -/
import Derived.Test.YtnaklnehichhpaaDoorSb
namespace Go.Proofs.YtnaklnehichhpaaDoor.P
open Go.RowKit Go.Shelf Go.Proofs.YtnaklnehichhpaaDoor.Bits Go.Proofs.YtnaklnehichhpaaDoorW.PrintWords Go.Proofs.YtnaklnehichhpaaDoorW.PrintLast Go.Proofs.YtnaklnehichhpaaDoorW.PrintMore
set_option linter.unusedVariables false
set_option linter.unusedSimpArgs false
attribute [local go_sem ↓] Go.wp_at_zero Go.wp_at_succ

theorem Read_okB (A : Option Addr) (c : Nat) (B : List Int) (n : Nat) (w : World) (hC : Kd.C (Kd.int .u8) w A B.length B) (h8 : is8 B) (hBl : B.length ≤ 1000000000) (hc : B.length ≤ c) (hg : HG w) :
    Calls Tryd.prog 16 #[.slice A B.length c, .int .i64 (n : Int)] w fun e w' => ∃ (x0 : Int) (x1 : Bool) (x2 x3 x4 x5 x6 : Int) (A' : Option Addr) (c' : Nat) (fe : Int), e = .returned (.tuple #[.agg #[.int .i64 x0, .bool x1, .int .i64 x2, .int .i64 x3, .int .i64 x4, .int .i64 x5, .int .i64 x6], .slice A' (fRead B (n : Int)).2.1.length c', .int .i64 fe]) ∧ (fe == 0) = okAt B n ∧ Below w.heap.size w w' := by
  refine (Read_any A c B (n : Int) w hC h8 hBl hc hg).mono ?_
  rintro e w' ⟨v, S', rfl, hr, _, hb⟩
  obtain ⟨A', c', hv⟩ := Kd.R_slice hr
  subst hv
  exact ⟨_, _, _, _, _, _, _, A', c', _, rfl, by unfold okAt; rw [Bool.eq_iff_iff]; simp, hb⟩
abbrev partObj (x : PM) : Obj := .cells #[.slice x.A0 x.d.before.length x.c0, .int .i64 x.d.h.num, .bool x.d.h.lossy, .int .i64 x.d.h.rate, .int .i64 x.d.h.ch, .int .i64 x.d.h.kind, .int .i64 x.d.h.count, .int .i64 x.d.h.back, .slice x.A1 x.d.body.length x.c1] 50 (0, 0)
theorem fWrite_len {h : HD} {body : List Int} : (fWrite h body).1.length ≤ 2056 := by
  unfold fWrite
  split
  · simp
  · split
    · simp
    · rw [wFrame_length]; omega
set_option maxHeartbeats 16000000 in
set_option maxRecDepth 100000 in
theorem FrameAll_any (X : Option Addr) (c : Nat) (l : List PM) (w : World) (hg : HG w) (hP : PartsAt w X l) (hl : l.length ≤ 9000000000000000000) :
    Calls Tryd.prog 8 #[.slice X l.length c] w fun e w' => e = .returned (.bool true) ∧ Below w.heap.size w w' := by
  have HG0 := Aside0.mk hg
  have HP := Aside0.mk hP
  clear hg hP
  by_cases h1 : 20 < l.length
  · have d1 : decide ((20 : Int) < (l.length : Int)) = true := by simp; omega
    clear h1
    go_enter Tryd.func8, Tryd.ntmps8
    go_wp2_with fail
    refine (awake_any w HG0.out).mono ?_
    rintro e w1 ⟨rfl, hb⟩
    go_wp2_with fail
    go_ret
    exact ⟨rfl, hb⟩
  have d1 : decide ((20 : Int) < (l.length : Int)) = false := by simp; omega
  have HINV := Aside0.mk (parts_inv l (fun x hx => ⟨(HP.out.ok x hx).b0, (HP.out.ok x hx).b1⟩))
  have HSTEP := Aside0.mk (parts_take l)
  have HS0 : Aside0 (partsA ((l.map PM.d).take 0) = ([], [], [])) := ⟨rfl⟩
  clear h1
  go_enter Tryd.func8, Tryd.ntmps8
  go_wp2_with fail
  go_loopw [3, 4, 5, 24] (fun v3 v4 v5 u wr => ∃ (j : Nat) (A3 A4 A5 : Option Addr) (c3 c4 c5 n3 n4 n5 : Nat) (vb : Value) (b : List Int) (s : SA), v3 = .slice A3 n3 c3 ∧ v4 = .slice A4 n4 c4 ∧ v5 = .slice A5 n5 c5 ∧ u = .int .i64 (j : Int) ∧ j ≤ l.length ∧ n3 ≤ 5000 ∧ n4 ≤ 5000 ∧ Aside0 (n3 = s.1.length ∧ n4 = s.2.1.length ∧ n5 = s.2.2.length) ∧ Aside0 (partsA ((l.map PM.d).take j) = s) ∧ Aside0 (FA w wr (.slice A3 n3 c3) (.slice A4 n4 c4) (.slice A5 n5 c5) vb s b)) (fun _ _ _ u _ => l.length - (intOf u).toNat)
  case atStart => exact ⟨0, none, none, none, 0, 0, 0, 0, 0, 0, .slice none 0 0, [], ([], [], []), rfl, rfl, rfl, rfl, Nat.zero_le _, by omega, by omega, ⟨rfl, rfl, rfl⟩, HS0, ⟨FA.nil w⟩⟩
  case round =>
    obtain ⟨j, A3, A4, A5, c3, c4, c5, n3, n4, n5, vb, b, s, rfl, rfl, rfl, rfl, hj, hn3, hn4, HN, HS, HF⟩ := hrel
    have hlow := HF.out.low
    by_cases hlt : j < l.length
    · obtain ⟨x, e, ha⟩ := (HP.out.below hlow).cells j hlt
      subst e
      have hok := HP.out.ok l[j] (List.getElem_mem hlt)
      have hst := HSTEP.out j hlt
      have hinv := HINV.out (j + 1)
      rw [HS.out] at hst
      rw [hst] at hinv
      generalize l[j] = y at *
      obtain ⟨W1, hW1⟩ : ∃ W1, W1 = wr.alloc (partObj y) := ⟨_, rfl⟩
      obtain ⟨bx, hbx⟩ : ∃ bx, bx = wr.heap.size := ⟨_, rfl⟩
      have hb1 : Below wr.heap.size wr W1 := by rw [hW1]; exact below_alloc (Below.refl _ _) _
      have hk1 : W1.heap[bx]? = some (partObj y) := by rw [hW1, hbx]; exact World.alloc_heap_new wr _
      have hbW : Below w.heap.size w W1 := hlow.trans (hb1.mono hlow.size)
      have hwr := Write_any y.d.h y.A1 y.c1 y.d.body W1 (Kd.C_below hok.C1 hbW) hok.b1 (HG0.out.below hbW) (by have := hok.l1.2; omega)
      have HW1 : Aside0 (wr.alloc (partObj y) = W1) := ⟨hW1.symm⟩
      have HBX := Aside0.mk hbx
      have HK1 := Aside0.mk hk1
      have HWR := Aside0.mk hwr
      have HF1 := Aside0.mk (HF.out.below hb1)
      have HOK := Aside0.mk hok
      have HST := Aside0.mk hst
      have HIN := Aside0.mk hinv
      have hyl := hok.l0.2
      obtain ⟨h0, h1, h2, h3, h4, h5, h6, h7, h8⟩ := ha
      obtain ⟨A0, c0, A1, c1, before, ⟨num, lossy, rate, ch, kind, count, back⟩, body⟩ := y
      dsimp only at h0 h1 h2 h3 h4 h5 h6 h7 h8 HWR HOK HST hyl
      clear hlow hok hst hinv hW1 hbx hb1 hk1 hbW hwr
      go_wp2_with fail
      rw [HW1.out, ← HBX.out]
      refine HWR.out.mono ?_
      rintro e w2 ⟨v, S', rfl, hr, hS, hb⟩
      have hf2 := HF1.out.setb hb hr hS
      obtain ⟨Ab, cb, hv, hcb, hCb⟩ := hf2.readsb
      subst hv
      have hk2 := blk_fr HK1.out (Fr.below hb (fun _ => False)) (fun h => h)
      have k0 : w2.cell? ⟨bx, 0, none⟩ = some (.slice A0 before.length c0) := by rw [cell_of_row w2 bx 0 _ _ (0, 0) hk2]; rfl
      have hfl := fWrite_len (h := ⟨num, lossy, rate, ch, kind, count, back⟩) (body := body)
      have hskip : skipA s ⟨before, ⟨num, lossy, rate, ch, kind, count, back⟩, body⟩ = (decide ((fWrite ⟨num, lossy, rate, ch, kind, count, back⟩ body).2 ≠ 0) || decide (5000 < s.1.length + before.length + (fWrite ⟨num, lossy, rate, ch, kind, count, back⟩ body).1.length)) := rfl
      have hstep : stepA s ⟨before, ⟨num, lossy, rate, ch, kind, count, back⟩, body⟩ = if skipA s ⟨before, ⟨num, lossy, rate, ch, kind, count, back⟩, body⟩ then s else (s.1 ++ before ++ (fWrite ⟨num, lossy, rate, ch, kind, count, back⟩ body).1, s.2.1 ++ (fWrite ⟨num, lossy, rate, ch, kind, count, back⟩ body).1, s.2.2 ++ [(s.2.1.length : Int)]) := rfl
      rw [hskip] at hstep
      have HSTP := Aside0.mk hstep
      have HK2 := Aside0.mk hk2
      have HF2 := Aside0.mk hf2
      clear hskip hstep hr hS hb hk2 hf2 hcb hCb HK1 HF1 h0 h1 h2 h3 h4 h5 h6 h7 h8 HWR
      generalize fWrite ⟨num, lossy, rate, ch, kind, count, back⟩ body = fw at *
      obtain ⟨fb, er⟩ := fw
      dsimp only at hfl HSTP HF2
      by_cases her : er = 0
      case neg =>
        have q1 : (er != 0) = true := by simpa using her
        have HSK : Aside0 (partsA ((l.map PM.d).take (j + 1)) = s) := ⟨by rw [HST.out, HSTP.out, if_pos (by simp [her])]⟩
        clear her
        go_wp2_with fail
        go_roundw
        case rel => exact ⟨j + 1, A3, A4, A5, c3, c4, c5, n3, n4, n5, _, _, s, rfl, rfl, rfl, by go_num, by omega, hn3, hn4, HN, HSK, HF2⟩
        case measure => simp [intOf]; omega
      subst her
      by_cases hbig : 5000 < n3 + before.length + fb.length
      · have d2 : decide ((5000 : Int) < (n3 : Int) + (before.length : Int) + (fb.length : Int)) = true := by simp; omega
        have HSK : Aside0 (partsA ((l.map PM.d).take (j + 1)) = s) := ⟨by rw [HST.out, HSTP.out, if_pos (by have := HN.out.1; simp; omega)]⟩
        clear hbig
        go_wp2_with fail
        go_roundw
        case rel => exact ⟨j + 1, A3, A4, A5, c3, c4, c5, n3, n4, n5, _, _, s, rfl, rfl, rfl, by go_num, by omega, hn3, hn4, HN, HSK, HF2⟩
        case measure => simp [intOf]; omega
      have d2 : decide ((5000 : Int) < (n3 : Int) + (before.length : Int) + (fb.length : Int)) = false := by simp; omega
      have HSK : Aside0 (partsA ((l.map PM.d).take (j + 1)) = (s.1 ++ before ++ fb, s.2.1 ++ fb, s.2.2 ++ [(s.2.1.length : Int)])) := ⟨by rw [HST.out, HSTP.out, if_neg (by have := HN.out.1; simp; omega)]⟩
      have hin := HIN.out
      rw [← HST.out, HSK.out] at hin
      obtain ⟨e3, e4, e5⟩ := HN.out
      have hle := hin.le
      have hle2 := hin.le2
      have hle3 := hin.le3
      simp only [List.length_append, List.length_singleton] at hle hle2 hle3
      -- the four appends
      have hbw2 : Below w.heap.size w w2 := HF2.out.low
      have hf3 := HF2.out.below (below_alloc (Below.refl w2.heap.size w2) (.cells #[.int .i64 (n4 : Int)] 3 (0, 0)))
      obtain ⟨v5', w3, hrun5, hkp5, hf3⟩ := hf3.app5 (some ⟨w2.heap.size, 0, none⟩) 1 1 [(n4 : Int)] (lit_C64 w2 [(n4 : Int)] (by simp)) (by omega)
      obtain ⟨Ab3, cb3, hvb3, hcb3, hCb3⟩ := hf3.readsb
      cases hvb3
      obtain ⟨v4', w4, hrun4, hkp4, hf4⟩ := hf3.app4 Ab fb.length cb fb hCb3 (by dsimp only; omega)
      obtain ⟨v3', w5, hrun3, hkp3, hf5⟩ := hf4.app3 A0 before.length c0 before (Kd.C_below HOK.out.C0 hf4.low) (by dsimp only; omega)
      obtain ⟨Ab5, cb5, hvb5, hcb5, hCb5⟩ := hf5.readsb
      cases hvb5
      obtain ⟨v3'', w6, hrun3b, hkp3b, hf6⟩ := hf5.app3 Ab fb.length cb fb hCb5 (by dsimp only; simp only [List.length_append]; omega)
      obtain ⟨A3', c3', e3', _, _⟩ := hf5.reads3
      dsimp only at e3'
      obtain ⟨m3, hm3⟩ : ∃ m, m = (s.1 ++ before).length := ⟨_, rfl⟩
      rw [← hm3] at e3'
      subst e3'
      obtain ⟨A3'', c3'', e3'', _, _⟩ := hf6.reads3
      obtain ⟨A4', c4', e4', _, _⟩ := hf6.reads4
      obtain ⟨A5', c5', e5', _, _⟩ := hf6.reads5
      dsimp only at e3'' e4' e5'
      obtain ⟨M3, hM3⟩ : ∃ m, m = (s.1 ++ before ++ fb).length := ⟨_, rfl⟩
      obtain ⟨M4, hM4⟩ : ∃ m, m = (s.2.1 ++ fb).length := ⟨_, rfl⟩
      obtain ⟨M5, hM5⟩ : ∃ m, m = (s.2.2 ++ [(n4 : Int)]).length := ⟨_, rfl⟩
      rw [← hM3] at e3''
      rw [← hM4] at e4'
      rw [← hM5] at e5'
      subst e3'' e4' e5'
      have HMM : Aside0 (M3 ≤ 5000 ∧ M4 ≤ 5000) := ⟨by rw [hM3]; simp only [List.length_append]; omega, by rw [hM4]; simp only [List.length_append]; omega⟩
      have HMS : Aside0 (M3 = (s.1 ++ before ++ fb).length ∧ M4 = (s.2.1 ++ fb).length ∧ M5 = (s.2.2 ++ [(s.2.1.length : Int)]).length) := ⟨hM3, hM4, by rw [hM5, e4]⟩
      have hk3 : w3.heap[bx]? = some (partObj ⟨A0, c0, A1, c1, before, ⟨num, lossy, rate, ch, kind, count, back⟩, body⟩) := hkp5 bx _ _ _ (by decide) (by decide) (blk_alloc' HK2.out _)
      have hk4 := hkp4 bx _ _ _ (by decide) (by decide) hk3
      have k4 : w4.cell? ⟨bx, 0, none⟩ = some (.slice A0 before.length c0) := by rw [cell_of_row w4 bx 0 _ _ (0, 0) hk4]; rfl
      have HR5 := Aside0.mk hrun5
      have HR4 := Aside0.mk hrun4
      have HR3 := Aside0.mk hrun3
      have HR3b := Aside0.mk hrun3b
      have HF6 := Aside0.mk hf6
      clear hbig hin hle hle2 hle3 hbw2 hf3 hrun5 hkp5 hcb3 hCb3 hrun4 hkp4 hf4 hrun3 hkp3 hf5 hcb5 hCb5 hrun3b hkp3b hf6 hk3 hk4 e3 e4 e5 HF2 HK2 HST HSTP hm3 hM3 hM4 hM5
      go_wp2_with (at_builtin; first | (refine wpList_run_append rfl _ _ _ rfl _ _ rfl rfl HR5.out ?_; clear HR5) | (refine wpList_run_append rfl _ _ _ rfl _ _ rfl rfl HR4.out ?_; clear HR4) | (refine wpList_run_append rfl _ _ _ rfl _ _ rfl rfl HR3.out ?_; clear HR3) | (refine wpList_run_append rfl _ _ _ rfl _ _ rfl rfl HR3b.out ?_; clear HR3b))
      go_roundw
      case rel => exact ⟨j + 1, A3'', A4', A5', c3'', c4', c5', M3, M4, M5, _, _, _, rfl, rfl, rfl, by go_num, by omega, HMM.out.1, HMM.out.2, HMS, HSK, ⟨by have := HF6.out; rw [HN.out.2.1] at this; exact this⟩⟩
      case measure => simp [intOf]; omega
    · obtain rfl : j = l.length := by omega
      have hin := HINV.out l.length
      rw [HS.out] at hin
      obtain ⟨ha1, ha2⟩ := hin.all
      obtain ⟨Bw, F, PL⟩ := s
      obtain ⟨A3', c3', q3, hc3, hC3⟩ := HF.out.reads3
      obtain ⟨A4', c4', q4, hc4, hC4⟩ := HF.out.reads4
      obtain ⟨A5', c5', q5, hc5, hC5⟩ := HF.out.reads5
      cases q3
      cases q4
      cases q5
      dsimp only at ha1 ha2 hc3 hC3 hc4 hC4 hc5 hC5 hn3 hn4
      have hpl9 := hin.le3
      dsimp only at hpl9
      have HC3 := Aside0.mk hC3
      have HC4 := Aside0.mk hC4
      have HC5 := Aside0.mk hC5
      have HLOW := Aside0.mk hlow
      have HAF := Aside0.mk (fun W hb hW => All_any A4 c4 F W (Kd.C_below HC4.out hb) hin.f8 (by omega) hc4 hW)
      have HLF := Aside0.mk (fun W hb hW => Lost_any A4 c4 F W (Kd.C_below HC4.out hb) hin.f8 (by omega) hc4 hW)
      simp only [ha1] at HAF
      simp only [ha2] at HLF
      have HAW := Aside0.mk (fun W hb hW => All_any A3 c3 Bw W (Kd.C_below HC3.out hb) hin.w8 (by omega) hc3 hW)
      have HLW := Aside0.mk (fun W hb hW => Lost_any A3 c3 Bw W (Kd.C_below HC3.out hb) hin.w8 (by omega) hc3 hW)
      have HRD := Aside0.mk (fun (n : Nat) W hb hW => Read_okB A3 c3 Bw n W (Kd.C_below HC3.out hb) hin.w8 (by omega) hc3 hW)
      have HWW := Aside0.mk (fun W (hb : Below wr.heap.size wr W) => HG0.out.below (hlow.trans (hb.mono hlow.size)))
      have hplN : (placesF Bw).length = (allF Bw).length := by unfold placesF; simp
      have hlN := allF_len Bw
      have hlK := lostF_len Bw
      have HGET : Aside0 (∀ j (h : j < (allF Bw).length), (placesF Bw).getD j 0 = ((allF Bw)[j].1 : Int)) := ⟨fun j h => by
        unfold placesF
        rw [List.getD_eq_getElem?_getD, List.getElem?_map, List.getElem?_eq_getElem h]; rfl⟩
      have HPLN := Aside0.mk hplN
      clear ha1 ha2 hC3 hC4 hC5 hin hlow hplN HINV HSTEP HS0 HF HN HS
      go_wp2_with fail
      refine (HAF.out wr (Below.refl _ _) (HWW.out wr (Below.refl _ _))).mono ?_
      rintro e w1 ⟨v1, rfl, hr, hb⟩
      obtain ⟨A6, c6, rfl, hc6, hC6⟩ := RowV.reads hr (by omega)
      have HB1 := Aside0.mk hb
      have HC6 := Aside0.mk hC6
      clear hr hb hc6 hC6
      go_wp2_with fail
      have cc := Ints_any A6 A5 PL.length PL.length c6 c5 PL PL w1 HC6.out (Kd.C_below HC5.out HB1.out) (by omega) (by omega)
      rw [decide_eq_true rfl] at cc
      refine cc.mono ?_
      clear cc
      rintro e w2 ⟨rfl, hd⟩
      have HB2 := Aside0.mk (HB1.out.trans (hd.below.mono HB1.out.size))
      clear hd
      simp only [Bool.not_true]
      go_wp2_with fail
      refine (HLF.out w2 HB2.out (HWW.out w2 HB2.out)).mono ?_
      rintro e w3 ⟨v3, rfl, hr, hb⟩
      obtain ⟨A7, c7, rfl⟩ := hr.slice
      have HB3 := Aside0.mk (HB2.out.trans (hb.mono HB2.out.size))
      clear hr hb
      simp only [List.length_nil]
      go_wp2_with fail
      refine (HLW.out w3 HB3.out (HWW.out w3 HB3.out)).mono ?_
      rintro e w4 ⟨v4, rfl, hr, hb⟩
      obtain ⟨A8, c8, rfl, hc8, hC8⟩ := RowV.pairs hr
      have HB4 := Aside0.mk (HB3.out.trans (hb.mono HB3.out.size))
      have HC8 := Aside0.mk hC8
      clear hr hb hc8 hC8
      go_wp2_with fail
      refine (HAW.out w4 HB4.out (HWW.out w4 HB4.out)).mono ?_
      rintro e w5 ⟨v5, rfl, hr, hb⟩
      obtain ⟨A9, c9, rfl, hc9, hC9⟩ := RowV.reads hr (by have := HPLN.out; omega)
      have HB5 := Aside0.mk (HB4.out.trans (hb.mono HB4.out.size))
      have HC85 := Aside0.mk (HC8.out.below hb)
      have HC9 := Aside0.mk hC9
      rw [HPLN.out] at HC9
      simp only [HPLN.out]
      clear hr hb hc9 hC9
      have hL0 : lostL ((allF Bw).take 0) = (0, []) := rfl
      have HL0 := Aside0.mk hL0
      obtain ⟨N, hN⟩ : ∃ N, N = (allF Bw).length := ⟨_, rfl⟩
      obtain ⟨K, hK⟩ : ∃ K, K = (lostF Bw).length := ⟨_, rfl⟩
      have HNN := Aside0.mk hN
      have HKK := Aside0.mk hK
      rw [← hN] at hlN HC9 ⊢
      rw [← hK] at hlK ⊢
      clear hL0 hN hK
      go_wp2_with fail
      obtain ⟨wo, rfl⟩ : ∃ wo : World, wo = wr := ⟨_, rfl⟩
      go_loopw [10, 11, 82] (fun u10 u11 u wx => ∃ (j E m : Nat) (O : List (Nat × Nat)), u10 = .int .i64 (E : Int) ∧ u11 = .int .i64 (m : Int) ∧ u = .int .i64 (j : Int) ∧ j ≤ N ∧ m ≤ K ∧ E ≤ Bw.length ∧ Aside0 (lostL ((allF Bw).take j) = (E, O)) ∧ Aside0 (m = O.length) ∧ Aside0 (Below w5.heap.size w5 wx)) (fun _ _ u _ => N - (intOf u).toNat)
      case atStart => exact ⟨0, 0, 0, [], rfl, rfl, rfl, Nat.zero_le _, Nat.zero_le _, Nat.zero_le _, HL0, ⟨rfl⟩, ⟨Below.refl _ _⟩⟩
      case round =>
        obtain ⟨j, E, m, O, rfl, rfl, rfl, hj, hm, hE, HEO, HM, HBJ⟩ := hrel
        have HBX := Aside0.mk (HB5.out.trans (HBJ.out.mono HB5.out.size))
        by_cases hlt : j < N
        · have hlt' : j < (allF Bw).length := by rw [← HNN.out]; exact hlt
          obtain ⟨ad, e, hx⟩ := at64 (Kd.C_below HC9.out HBJ.out) j hlt
          subst e
          rw [HGET.out j hlt'] at hx
          have hmem := allF_mem (List.getElem_mem hlt')
          have hle := lost_le Bw j hlt'
          have hsn := lostL_snoc ((allF Bw).take j) (allF Bw)[j]
          rw [← List.take_succ_eq_append_getElem hlt', hmem.2.1] at hsn
          have hlat := lost_at Bw j hlt'
          rw [HEO.out] at hle hsn hlat
          dsimp only at hle hsn hlat
          have hrd := HRD.out (allF Bw)[j].1 wr HBX.out (HWW.out wr HBX.out)
          have hend : endF Bw (allF Bw)[j].1 = (allF Bw)[j].1 + 9 + (fRead Bw ((allF Bw)[j].1 : Int)).2.1.length := rfl
          have hel := hmem.2.2.2
          rw [hmem.2.1] at hel
          rw [hmem.2.2.1] at hrd
          have hal := hmem.1
          generalize (allF Bw)[j].1 = a at *
          generalize (fRead Bw (a : Int)).2.1.length = bl at *
          generalize hEN : endF Bw a = E' at *
          have d2 : decide (a < E) = false := by simp; omega
          have d2b : decide ((a : Int) < (E : Int)) = false := by simp; omega
          have HRR := Aside0.mk hrd
          have HSN := Aside0.mk hsn
          have HEND := Aside0.mk hend
          clear hmem hrd hsn hend hEN
          by_cases hEa : E < a
          · obtain ⟨hs0, hs2⟩ := hlat hEa
            have hs1 : m < (lostF Bw).length := by rw [HM.out]; exact hs0
            have hmK : m < K := by rw [HKK.out]; exact hs1
            obtain ⟨g, o, e, k1, k2, _⟩ := (HC85.out.below HBJ.out) m hs1
            subst e
            have hs2' : (lostF Bw)[m] = (E, a) := by
              have : (lostF Bw)[m]? = some (E, a) := by rw [HM.out, List.getElem?_eq_getElem hs0, hs2]
              rw [List.getElem?_eq_getElem hs1] at this
              exact Option.some.inj this
            rw [hs2'] at k1 k2
            dsimp only at k1 k2
            have d3 : decide (K ≤ m) = false := by simp; omega
            have d3b : decide ((K : Int) ≤ (m : Int)) = false := by simp; omega
            have d4 : decide (E < a) = true := by simpa using hEa
            have hne := neq_pair (E : Int) (a : Int)
            have HSN2 : Aside0 (lostL ((allF Bw).take (j + 1)) = (E', O ++ [(E, a)])) := ⟨by rw [HSN.out, if_pos hEa]⟩
            clear hs1 hs0 hs2 hs2' hlat HC85
            go_wp2_with fail
            refine HRR.out.mono ?_
            rintro e w6 ⟨x0, x1, x2, x3, x4, x5, x6, A10, c10, fe, rfl, hfe, hb6⟩
            obtain rfl : fe = 0 := by simpa using hfe
            have k1' : (w6.alloc (.cells #[.int .i64 x0, .bool x1, .int .i64 x2, .int .i64 x3, .int .i64 x4, .int .i64 x5, .int .i64 x6] 23)).cell? ⟨g, o + m * 2, none⟩ = some (.int .i64 (E : Int)) := pw_cell_below (below_alloc (Below.refl _ _) _) (pw_cell_below hb6 k1)
            have k2' : (w6.alloc (.cells #[.int .i64 x0, .bool x1, .int .i64 x2, .int .i64 x3, .int .i64 x4, .int .i64 x5, .int .i64 x6] 23)).cell? ⟨g, o + m * 2 + 1, none⟩ = some (.int .i64 (a : Int)) := pw_cell_below (below_alloc (Below.refl _ _) _) (pw_cell_below hb6 k2)
            have HB6 : Aside0 (Below w5.heap.size w5 w6) := ⟨HBJ.out.trans (hb6.mono HBJ.out.size)⟩
            have hea := HEND.out
            clear k1 k2 hb6 hfe hx
            go_wp2_with fail
            go_roundw
            case rel => exact ⟨j + 1, E', m + 1, O ++ [(E, a)], by rw [hea]; go_num, by go_num, by go_num, by omega, by omega, by omega, HSN2, ⟨by rw [HM.out]; simp⟩, ⟨below_alloc HB6.out _⟩⟩
            case measure => simp [intOf]; omega
          · have d4 : decide (E < a) = false := by simpa using hEa
            have HSN2 : Aside0 (lostL ((allF Bw).take (j + 1)) = (E', O)) := ⟨by rw [HSN.out, if_neg hEa]⟩
            clear hlat HC85
            go_wp2_with fail
            refine HRR.out.mono ?_
            rintro e w6 ⟨x0, x1, x2, x3, x4, x5, x6, A10, c10, fe, rfl, hfe, hb6⟩
            obtain rfl : fe = 0 := by simpa using hfe
            have HB6 : Aside0 (Below w5.heap.size w5 w6) := ⟨HBJ.out.trans (hb6.mono HBJ.out.size)⟩
            have hea := HEND.out
            clear hb6 hfe hx
            go_wp2_with fail
            go_roundw
            case rel => exact ⟨j + 1, E', m, O, by rw [hea]; go_num, rfl, by go_num, by omega, by omega, by omega, HSN2, HM, ⟨below_alloc HB6.out _⟩⟩
            case measure => simp [intOf]; omega
        · obtain rfl : j = N := by omega
          have heo := HEO.out
          rw [HNN.out, List.take_length] at heo
          have hle := lost_end Bw
          rw [heo] at hle
          dsimp only at hle
          by_cases hEB : E < Bw.length
          · obtain ⟨hs0, hs2, hs3⟩ := hle hEB
            have hs1 : m < (lostF Bw).length := by rw [HM.out]; exact hs0
            have hmK : m < K := by rw [HKK.out]; exact hs1
            have hKm : K = m + 1 := by rw [HKK.out, hs3, HM.out]
            obtain ⟨g, o, e, k1, k2, _⟩ := (HC85.out.below HBJ.out) m hs1
            subst e
            have hs2' : (lostF Bw)[m] = (E, Bw.length) := by
              have : (lostF Bw)[m]? = some (E, Bw.length) := by rw [HM.out, List.getElem?_eq_getElem hs0, hs2]
              rw [List.getElem?_eq_getElem hs1] at this
              exact Option.some.inj this
            rw [hs2'] at k1 k2
            dsimp only at k1 k2
            have d3 : decide (K ≤ m) = false := by simp; omega
            have d3b : decide ((K : Int) ≤ (m : Int)) = false := by simp; omega
            have d4 : decide (E < Bw.length) = true := by simpa using hEB
            have d5 : (m + 1 == K) = true := by simp [hKm]
            have d5b : ((m : Int) + 1 == (K : Int)) = true := by simp [hKm]
            have hne := neq_pair (E : Int) (Bw.length : Int)
            clear hs1 hs0 hs2 hs2' hs3 hle heo HC85 hKm
            go_wp2_with fail
            refine (awake_any _ (HWW.out _ HBX.out)).mono ?_
            rintro e w21 ⟨rfl, hb⟩
            have HB21 : Aside0 (Below w.heap.size w w21) := ⟨(HLOW.out.trans ((HBX.out).mono HLOW.out.size)).trans (hb.mono (HLOW.out.trans ((HBX.out).mono HLOW.out.size)).size)⟩
            clear hb
            go_wp2_with fail
            go_ret
            exact ⟨rfl, HB21.out⟩
          · have d4 : decide (E < Bw.length) = false := by simpa using hEB
            have hKm : K = m := by
              have e : lostF Bw = O := by unfold lostF; rw [heo, if_neg hEB]
              rw [HKK.out, HM.out, e]
            have d5 : (m == K) = true := by simp [hKm]
            have d5b : ((m : Int) == (K : Int)) = true := by simp [hKm]
            clear hle heo HC85 hKm
            go_wp2_with fail
            refine (awake_any _ (HWW.out _ HBX.out)).mono ?_
            rintro e w21 ⟨rfl, hb⟩
            have HB21 : Aside0 (Below w.heap.size w w21) := ⟨(HLOW.out.trans ((HBX.out).mono HLOW.out.size)).trans (hb.mono (HLOW.out.trans ((HBX.out).mono HLOW.out.size)).size)⟩
            clear hb
            go_wp2_with fail
            go_ret
            exact ⟨rfl, HB21.out⟩
end Go.Proofs.YtnaklnehichhpaaDoor.P
